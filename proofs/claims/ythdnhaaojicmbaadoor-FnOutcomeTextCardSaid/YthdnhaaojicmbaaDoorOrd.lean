/-
  A region that draws its order, whose last operation (number t) may change what an earlier one loads: what is loaded stands till then.
-/
import Derived.Deep.RegionHeld
namespace Go.Proofs.YthdnhaaojicmbaaDoor
section
variable {P : Program} {ops : Array Oper} {Q : Exit → Act → World → Prop} {md : Region.Mode} {C : World → Prop} {t : Nat}

/-- all orders; C is shown behind each operation that comes ahead of number t -/
def Late (P : Program) (md : Region.Mode) (ops : Array Oper) (Q : Exit → Act → World → Prop) (C : World → Prop) (t : Nat) : Nat → Array Bool → Act → World → Prop
  | 0, L, a, w => Region.ready md ops L = [] ∧ Q .normal a w
  | n + 1, L, a, w => (Region.ready md ops L = [] → Q .normal a w) ∧ ∀ i ∈ Region.ready md ops L, wpOp P ops Q i (fun a' w' => (i ≠ t → L.getD t true = false → C w') ∧ Late P md ops Q C t n (L.setIfInBounds i true) a' w') a w
theorem Late.any : ∀ (n : Nat) (L : Array Bool) (a : Act) (w : World), Late P md ops Q C t n L a w → wpAny P md ops Q n L a w
  | 0, _, _, _, h => h
  | n + 1, _, _, _, h => ⟨h.1, fun i hi => wpOp_mono (fun a' w' k => Late.any n _ a' w' k.2) (h.2 i hi)⟩
/-- number t waits for i -/
def waitsFor (md : Region.Mode) (ops : Array Oper) (t i : Nat) : Bool := match ops[t]? with
  | some o => o.after.any fun e => Region.binds md e && (e.on == i)
  | none => false
theorem Late.first {i : Nat} {oi : Oper} {v : Value} (hi : ops[i]? = some oi) (hsel : ∀ (j : Nat) (o : Oper) cs b, ops[j]? = some o → o.op ≠ .select cs b)
    (hQ : ∀ c a w, Q (.panic c) (a.put oi.dst v) w → Q (.panic c) a w) (hne : i ≠ t) (hwt : waitsFor md ops t i = true) :
    ∀ (n : Nat) (L : Array Bool) (a : Act) (w : World), L.getD t true = false →
      (∀ j oj, ops[j]? = some oj → j ≠ i → L.getD j true = false → (∀ e ∈ oj.after, Region.binds md e = true → e.on ≠ i) → oi.apart ops oj = true) →
      i ∈ Region.ready md ops L → YieldsIf P ops C oi v a → C w → Late P md ops Q C t n (L.setIfInBounds i true) (a.put oi.dst v) w → Late P md ops Q C t (n + 1) L a w := by
  intro n
  induction n with
  | zero =>
    intro L a w _ _ hr hy hC H
    refine ⟨fun e => absurd hr (by rw [e]; simp), fun j hj => ?_⟩
    by_cases e : j = i
    · subst e; exact hy.wpOp hi hC ⟨fun _ _ => hC, H⟩
    · exact absurd (ready_mono hj e) (by rw [H.1]; simp)
  | succ n ih =>
    intro L a w hL hfree hr hy hC H
    refine ⟨fun e => absurd hr (by rw [e]; simp), fun j hj => ?_⟩
    by_cases e : j = i
    · subst e; exact hy.wpOp hi hC ⟨fun _ _ => hC, H⟩
    · obtain ⟨hjL, oj, hoj, hall⟩ := mem_ready.1 hj
      have hiL := (mem_ready.1 hr).1
      have hno : ∀ x ∈ oj.after, Region.binds md x = true → x.on ≠ i := fun x hx hb hq => by
        have h1 := hall x hx hb
        rw [hq] at h1
        by_cases hs : i < L.size
        · simp [hs] at hiL h1; rw [hiL] at h1; cases h1
        · simp [hs] at h1
      have hjt : j ≠ t := fun q => by
        subst q
        unfold waitsFor at hwt
        rw [hoj] at hwt
        obtain ⟨x, hx, hb⟩ := Array.any_eq_true'.1 hwt
        rw [Bool.and_eq_true] at hb
        exact hno x hx hb.1 (beq_iff_eq.1 hb.2)
      have h2 := wpOp_putIf hoj (hfree j oj hoj e hjL hno) (fun cs b => hsel i oi cs b hi) (fun cs b => hsel j oj cs b hoj) hQ hy (H.2 j (ready_mono hj e))
      refine wpOp_mono (fun a' w' k => ?_) h2
      have hC' : C w' := k.2.1 hjt (by rw [getD_set_ne true hne]; exact hL)
      refine ⟨fun _ _ => hC', ih (L.setIfInBounds j true) a' w' (by rw [getD_set_ne true hjt]; exact hL) (fun m om hm hmi hun hw => ?_) (ready_mono hr (Ne.symm e)) k.1 hC' ?_⟩
      · refine hfree m om hm hmi ?_ hw
        by_cases q : j = m
        · subst q; exact hjL
        · rwa [getD_set_ne true q] at hun
      · rw [Array.setIfInBounds_comm _ _ e]
        exact k.2.2
theorem Late.take {i : Nat} {oi : Oper} {v : Value} {n : Nat} {L : Array Bool} {a : Act} {w : World} (hi : ops[i]? = some oi) (hs : Region.noSelect ops = true) (hf : Region.free md ops L i = true) (hr : (Region.ready md ops L).contains i = true)
    (hwt : (i != t && waitsFor md ops t i && !L.getD t true) = true)
    (hQ : ∀ c a w, Q (.panic c) (a.put oi.dst v) w → Q (.panic c) a w) (hy : YieldsIf P ops C oi v a) (hC : C w)
    (h : Late P md ops Q C t n (L.setIfInBounds i true) (a.put oi.dst v) w) : Late P md ops Q C t (n + 1) L a w := by
  simp only [Bool.and_eq_true, bne_iff_ne, Bool.not_eq_true'] at hwt
  exact Late.first hi (Region.noSelect_spec hs) hQ hwt.1.1 hwt.1.2 n L a w hwt.2 (Region.free_spec hi hf) (by simpa using hr) hy hC h
/-- each of these comes up next -/
def LateAll (P : Program) (md : Region.Mode) (ops : Array Oper) (Q : Exit → Act → World → Prop) (C : World → Prop) (t : Nat) (n : Nat) (L : Array Bool) (a : Act) (w : World) (rs : List Nat) : Prop :=
  ∀ i ∈ rs, wpOp P ops Q i (fun a' w' => (i ≠ t → L.getD t true = false → C w') ∧ Late P md ops Q C t n (L.setIfInBounds i true) a' w') a w
theorem LateAll.nil {n : Nat} {L : Array Bool} {a : Act} {w : World} : LateAll P md ops Q C t n L a w [] := fun _ h => by cases h
theorem LateAll.cons {n : Nat} {L : Array Bool} {a : Act} {w : World} {i : Nat} {o : Oper} {rs : List Nat} (ho : ops[i]? = some o)
    (h : ∀ K' : Act → World → Prop, Shut (∀ a w, C w → (C w → Late P md ops Q C t n (L.setIfInBounds i true) a w) → K' a w) → if Region.wanted o (yielded ops a.tmps) = true then Oper.wp P o a w K' Q else K' (a.put o.dst undef) w)
    (hs : LateAll P md ops Q C t n L a w rs) : LateAll P md ops Q C t n L a w (i :: rs) := fun j hj => by
  rcases List.mem_cons.1 hj with rfl | hj
  · exact wpOp_step ho fun K' hK => h K' fun a w hC hW => hK a w ⟨fun _ _ => hC, hW hC⟩
  · exact hs j hj
/-- number t itself -/
theorem LateAll.last {n : Nat} {L : Array Bool} {a : Act} {w : World} {o : Oper} (ho : ops[t]? = some o)
    (h : ∀ K' : Act → World → Prop, Shut (∀ a w, Late P md ops Q C t n (L.setIfInBounds t true) a w → K' a w) → if Region.wanted o (yielded ops a.tmps) = true then Oper.wp P o a w K' Q else K' (a.put o.dst undef) w) : LateAll P md ops Q C t n L a w [t] := fun j hj => by
  obtain rfl := List.mem_singleton.1 hj
  exact wpOp_step ho fun K' hK => h K' fun a w hW => hK a w ⟨fun e => absurd rfl e, hW⟩
theorem Late.ready {rs : List Nat} {n : Nat} {L : Array Bool} {a : Act} {w : World} (hr : Region.ready md ops L = rs) (hne : rs ≠ []) (h : LateAll P md ops Q C t n L a w rs) : Late P md ops Q C t (n + 1) L a w :=
  ⟨fun e => absurd (hr ▸ e) hne, hr ▸ h⟩
theorem Late.done {L : Array Bool} {a : Act} {w : World} (hr : Region.ready md ops L = []) (h : Q .normal a w) : ∀ n, Late P md ops Q C t n L a w
  | 0 => ⟨hr, h⟩
  | _ + 1 => ⟨fun _ => h, by rw [hr]; simp⟩
theorem wp_region_late {id : Nat} {a : Act} {w : World} (hm : P.follows .mixedOrders = true) (hC : C w.drew) (h : C w.drew → Late P .any ops Q C t ops.size (Array.replicate ops.size false) a w.drew) : (Code.region id ops true).wp P Q a w :=
  wp_region_any hm (Late.any _ _ _ _ (h hC))
end
end Go.Proofs.YthdnhaaojicmbaaDoor
