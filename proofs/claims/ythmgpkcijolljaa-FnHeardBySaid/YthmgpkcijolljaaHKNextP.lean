/-
  Rules for goroutine 0 on its way to the join: what it says and hears, the worlds that it and its workers see behind a go statement, the join.
-/
import Derived.Test.YthmgpkcijolljaaH9
namespace Go.Proofs.Ythmgpkcijolljaa
open Go.Conc
open Go.ConcN (upd upd_same upd_ne)
set_option linter.unusedSimpArgs false
set_option linter.unusedVariables false
inductive Vis where
  | own | froz | hide
def seeAs : Vis → Obj → Obj
  | .own, o => o
  | .froz, .cells c e f => .cells c e (if f = (0, 0) then (0, c.size) else f)
  | _, _ => hid
def _root_.Go.World.mask (v : World) (m : Nat → Vis) : World := { v with heap := v.heap.mapIdx fun b o => seeAs (m b) o }
section
variable {P : Program} {v w : World} {m m0 mc : Nat → Vis}
theorem mask_get (b : Nat) : (v.mask m).heap[b]? = (v.heap[b]?).map (seeAs (m b)) := by simp [World.mask, Array.getElem?_mapIdx]
theorem mask_size : (v.mask m).heap.size = v.heap.size := by simp [World.mask]
theorem mask_own {b : Nat} (h : m b = .own) : (v.mask m).heap[b]? = v.heap[b]? := by
  rw [mask_get, h]
  cases v.heap[b]? <;> rfl
theorem mask_hide {b : Nat} (h : m b = .hide) (hb : b < v.heap.size) : (v.mask m).heap[b]? = some hid := by
  rw [mask_get, h, Array.getElem?_eq_getElem hb]
  cases v.heap[b] <;> rfl
theorem mask_froz {b : Nat} (h : m b = .froz) {c : Array Value} {e : TypeId} {f : Nat × Nat} (hb : v.heap[b]? = some (.cells c e f)) : (v.mask m).heap[b]? = some (.cells c e (if f = (0, 0) then (0, c.size) else f)) := by
  rw [mask_get, h, hb]; rfl
theorem seeAs_blq {o : Obj} (h : flat o) (x : Vis) : Blq (seeAs x o) o := by
  cases x with
  | own => exact flat_self h
  | hide => cases o <;> exact .hid _
  | froz =>
    cases o with
    | cells c e f =>
      by_cases hf : f = (0, 0)
      · subst hf
        simp only [seeAs, if_true]
        exact .cells _ _ _ _ ⟨fun i hi => absurd hi.2 (Nat.not_lt_zero _), fun _ => rfl⟩
      · simp only [seeAs, if_neg hf]
        exact .cells _ _ _ _ ⟨fun _ x => x, fun x => x⟩
    | _ => exact .hid _
theorem seeAs_flat {o : Obj} (h : flat o) (x : Vis) : flat (seeAs x o) := by
  cases x with
  | own => exact h
  | hide => cases o <;> exact ⟨rfl, rfl⟩
  | froz => cases o <;> first | exact trivial | exact ⟨rfl, rfl⟩
theorem Flat.mask (hF : Flat P v) (hg : P.globals.size = 0) : Flat P (v.mask m) := by
  refine ⟨by rw [hg]; exact Nat.zero_le _, fun b o e => ?_, fun b _ => by rw [hg]; exact Nat.zero_le _⟩
  rw [mask_get] at e
  obtain ⟨o', h1, rfl⟩ := Option.map_eq_some_iff.1 e
  exact seeAs_flat (hF.obj b o' h1) _
theorem Flat.masked (hF : Flat P v) (hg : P.globals.size = 0) : Veil P (v.mask m) v := by
  refine ⟨by rw [mask_size]; exact Nat.le_refl _, fun b o e => ?_, hF.mask hg⟩
  rw [mask_get] at e
  obtain ⟨o', h1, rfl⟩ := Option.map_eq_some_iff.1 e
  exact ⟨o', h1, seeAs_blq (hF.obj b o' h1) _⟩
/-- What one may write the other cannot read. -/
theorem mask_apart (h : ∀ b, m0 b = .hide ∨ mc b = .hide ∨ (m0 b = .froz ∧ ∀ c e f, v.heap[b]? = some (.cells c e f) → f = (0, 0) ∨ f = (0, c.size))) : ∀ l : Loc, l.isMemory = true → Wr (v.mask m0) l → ¬ Rd (v.mask mc) l := by
  intro l hm hW hR
  have key : ∀ b, (∃ o, (v.mask m0).heap[b]? = some o ∧ o ≠ hid) → (∃ o, (v.mask mc).heap[b]? = some o ∧ o ≠ hid) → m0 b = .froz ∧ ∀ c e f, v.heap[b]? = some (.cells c e f) → f = (0, 0) ∨ f = (0, c.size) := by
    rintro b ⟨o, h1, h2⟩ ⟨o', h3, h4⟩
    have hb : b < v.heap.size := by have := (Array.getElem?_eq_some_iff.1 h1).1; rwa [mask_size] at this
    rcases h b with h5 | h5 | h5
    · rw [mask_hide h5 hb] at h1; exact absurd (Option.some.inj h1).symm h2
    · rw [mask_hide h5 hb] at h3; exact absurd (Option.some.inj h3).symm h4
    · exact h5
  cases l with
  | cell a =>
    obtain ⟨c, e, f, h1, h2, h3⟩ := rd_cell_size.1 (wr_rd hW)
    obtain ⟨c', e', f', h1', _, _⟩ := rd_cell_size.1 hR
    obtain ⟨h4, h5⟩ := key a.block ⟨_, h1, by simp [hid]⟩ ⟨_, h1', by simp [hid]⟩
    have h1s := h1
    rw [mask_get, h4] at h1
    obtain ⟨o, ho, ho'⟩ := Option.map_eq_some_iff.1 h1
    cases o with
    | cells c₀ e₀ f₀ =>
      simp only [seeAs, Obj.cells.injEq] at ho'
      obtain ⟨rfl, rfl, rfl⟩ := ho'
      have hz := hW.2
      rw [frozen?_true h1s] at hz
      rcases h5 _ _ _ ho with rfl | rfl
      · simp at hz; omega
      · by_cases hc : (0, c₀.size) = ((0 : Nat), (0 : Nat))
        · have : c₀.size = 0 := by simpa using hc
          omega
        · rw [if_neg hc] at hz
          simp at hz; omega
    | _ => simp [seeAs, hid] at ho'
  | obj r =>
    obtain ⟨o, h1, h2⟩ := hW
    obtain ⟨o', h3, h4⟩ := hR
    obtain ⟨h5, _⟩ := key r ⟨_, h1, by rintro rfl; exact h2⟩ ⟨_, h3, by rintro rfl; exact h4⟩
    rw [mask_get, h5] at h1
    obtain ⟨o₀, _, rfl⟩ := Option.map_eq_some_iff.1 h1
    cases o₀ <;> exact h2
  | output => exact hW
  | goroutines => exact hW
  | mark m => exact hW
theorem Split.mask (hF : Flat P v) (hg : P.globals.size = 0) (h : ∀ b, m0 b = .hide ∨ mc b = .hide ∨ (m0 b = .froz ∧ mc b = .froz ∧ ∀ c e f, v.heap[b]? = some (.cells c e f) → f = (0, 0) ∨ f = (0, c.size))) : Split P v (v.mask m0) (v.mask mc) :=
  ⟨hF.masked hg, hF.masked hg, mask_size, mask_size,
   mask_apart fun b => (h b).imp id fun h => h.imp id fun h => ⟨h.1, h.2.2⟩,
   mask_apart fun b => by rcases h b with h | h | h; exact .inr (.inl h); exact .inl h; exact .inr (.inr ⟨h.2.1, h.2.2⟩)⟩
end
section
variable {P : Program} {ty : TypeId} {Wg : Nat} {Base : BsP} {Post : Value → World → Prop} {n : Nat} {γ : View} {g : Goroutine} {v : World}
theorem kn_ok (n : Nat) (γ : View) : KOk P true true false (fun _ => True) (MNext P ty Wg false Base Post (n + 1) γ) := mnext_kok (st := false) n γ
/-- It says a word to a worker that is to hear it. -/
theorem kn_tell {k : Nat} {x z : Value} {l : List Say} {g₂ : Goroutine} {sh : CommShape} (hk : k < γ.j) (hσ : γ.σ k = .recv x :: l) (hc : Comm P true g g₂ #[scase (γ.c k) x z] sh) (h : KA (MNext P ty Wg false Base Post n { γ with σ := upd γ.σ k l }) (after P g₂ (.send x) (γ.c k) z sh) v) :
    KA (MNext P ty Wg false Base Post (n + 1) γ) g v :=
  fun t d => Th.stop (.inl ⟨k, .recv x, l, z, sh, g₂, hk, hσ, trivial, hc, h t d⟩)
/-- It closes a worker's channel. -/
theorem kn_shut {k : Nat} {tl : List Say} {g' : Goroutine} (hk : k < γ.j) (hσ : γ.σ k = .eof :: tl) (hs : γ.shut k = false) (hc : Closes P true (γ.c k) g g') (h : KA (MNext P ty Wg false Base Post n { γ with shut := upd γ.shut k true }) g' v) :
    KA (MNext P ty Wg false Base Post (n + 1) γ) g v :=
  fun t d => Th.stop (.inr (.inl ⟨k, g', tl, hk, hσ, hs, hc, h t d⟩))
/-- Add(1). -/
theorem kn_add {gf : Goroutine} (h0 : γ.owed = 0) (hj : γ.j + 2 < 2147483647) (hw : ∀ Fin : Goroutine → Prop, Fin gf → WG P ty Wg true (ADis P ty Wg Fin) g) (hr : gf.status = .running) (h : KA (MNext P ty Wg false Base Post n { γ with owed := 1 }) gf v) :
    KA (MNext P ty Wg false Base Post (n + 1) γ) g v :=
  fun t d => Th.stop (.inr (.inr (.inl ⟨h0, hj, hw _ ⟨hr, h t d⟩⟩)))
theorem Split.of_re {v0 vc : World} (h : Split P v v0 vc) (t : Nat → Question → Nat) (d : Nat) : Split P (v.re t d) v0 vc := ⟨⟨h.veil0.size, h.veil0.blk, h.veil0.flat⟩, ⟨h.veilc.size, h.veilc.blk, h.veilc.flat⟩, h.s0, h.sc, h.w0, h.wc⟩
/-- A go statement. -/
theorem kn_go {g' child : Goroutine} {v0 vc : World} {c : Nat} {tm : Bool} {says : List Say} {dn : Value → World → Prop} (h1 : γ.owed = 1) (hr : g.status = .running) (hr' : g'.status = .running) (hrc : child.status = .running) (hs : ∀ w, stepG P true g w = .spawn g' child w #[]) (hS : Split P v v0 vc)
    (hc : v.heap[c]? = some (.chan 0 #[] false 0 0 tm)) (hc0 : v0.heap[c]? = some hid) (hcc : vc.heap[c]? = some hid) (hcW : c ≠ Wg) (hsay : says ≠ []) (hform : Formed says) (hroom : γ.j + 1 < Base.X.cs.size)
    (hT : Th P false true false (fun _ => True) (AtSay P ty Wg false ⟨⟨Base.X.H, γ.j + 1, none⟩, Base.X.lk, Base.X.hv, dn⟩ c (dn ((Base.X.cs[γ.j + 1]?).getD undef)) says) child vc)
    (hd1 : ∀ y v t d, dn y (v.re t d) → dn y v) (hd2 : ∀ y v n, Flat P v → dn y v → dn y (v.upto n))
    (h : KA (MNext P ty Wg false Base Post n { γ with j := γ.j + 1, c := upd γ.c γ.j c, σ := upd γ.σ γ.j says, shut := upd γ.shut γ.j false, dn := upd γ.dn γ.j dn, owed := 0 }) g' v0) :
    KA (MNext P ty Wg false Base Post (n + 1) γ) g v :=
  fun t d => Th.stop (.inr (.inr (.inr (.inl ⟨h1, g', child, v0, vc, c, tm, says, dn, hr, hr', hrc, hs, hS.of_re t d, hc, hc0, hcc, hcW, ⟨hsay, hform, hroom⟩, hT, hd1, hd2, h.out⟩))))
/-- Wait. -/
theorem kn_wait {gf : Goroutine} (h0 : γ.owed = 0) (hset : ∀ k, k < γ.j → Settled γ k) {Anch : Goroutine → Prop} (hw : WG P ty Wg true (PDis P ty Wg Anch) g) (hA : ∀ Fin : Goroutine → Prop, Fin gf → ∀ g, Anch g → WG P ty Wg true (PLoad P ty Wg Fin Anch) g) (hr : gf.status = .running)
    (h : ∀ t d, Joined P Wg Base Post γ (v.re t d) gf) : KA (MNext P ty Wg false Base Post (n + 1) γ) g v :=
  fun t d => Th.stop (.inr (.inr (.inr (.inr ⟨h0, hset, Anch, hw, hA _ ⟨hr, h t d⟩⟩))))
/-- A go statement in a walk. -/
theorem kn_go_at {v0 vc : World} {b : Frame} {a : Act} {k : List Item} {cs : List Frame} {ops : Array Oper} {i : Nat} {rest : List Nat} {o : Oper} {d : Deferred} {f : Fn} {cap : Array Value} {c : Nat} {tm : Bool} {says : List Say} {dn : Value → World → Prop}
    (ho : ops[i]? = some o) (hw : Region.wanted o (yielded ops a.tmps) = true) (hk : b.kind ≠ .early) (hr : ∀ w, (execOp a.eval o).run P w = .ok (.spawn d) w) (he : ∀ w, (execOp a.eval o).events P w #[] = #[]) (hd : d.target = .fn f cap)
    (h1 : γ.owed = 1) (hS : Split P v v0 vc) (hc : v.heap[c]? = some (.chan 0 #[] false 0 0 tm)) (hc0 : v0.heap[c]? = some hid) (hcc : vc.heap[c]? = some hid) (hcW : c ≠ Wg) (hsay : says ≠ []) (hform : Formed says) (hroom : γ.j + 1 < Base.X.cs.size)
    (hT : Th P false true false (fun _ => True) (AtSay P ty Wg false ⟨⟨Base.X.H, γ.j + 1, none⟩, Base.X.lk, Base.X.hv, dn⟩ c (dn ((Base.X.cs[γ.j + 1]?).getD undef)) says) (born P d) vc)
    (hd1 : ∀ y v t d, dn y (v.re t d) → dn y v) (hd2 : ∀ y v n, Flat P v → dn y v → dn y (v.upto n))
    (h : KA (MNext P ty Wg false Base Post n { γ with j := γ.j + 1, c := upd γ.c γ.j c, σ := upd γ.σ γ.j says, shut := upd γ.shut γ.j false, dn := upd γ.dn γ.j dn, owed := 0 }) (G (b.at (a.put o.dst undef) (.inRegion ops rest :: k)) cs) v0) :
    KA (MNext P ty Wg false Base Post (n + 1) γ) (G (b.at a (.inRegion ops (i :: rest) :: k)) cs) v :=
  kn_go h1 rfl rfl rfl (fun w => by rw [stepG_spawn ho hw hk (hr w) hd, listed0 (he w)]) hS hc hc0 hcc hcW hsay hform hroom hT hd1 hd2 h
/-- An operation's step, whatever it lists. -/
theorem stepG_plain {main : Bool} {b : Frame} {a : Act} {k : List Item} {cs : List Frame} {ops : Array Oper} {i : Nat} {rest : List Nat} {o : Oper} {w w' : World} {es : Array Event} {nx : Next} {x : Value} (hx : nx = .value x ∨ (nx = .skip ∧ x = undef))
    (ho : ops[i]? = some o) (hw : Region.wanted o (yielded ops a.tmps) = true) (hk : b.kind ≠ .early) (hr : (execOp a.eval o).run P w = .ok nx w') (he : (execOp a.eval o).events P w #[] = es) :
    stepG P main (G (b.at a (.inRegion ops (i :: rest) :: k)) cs) w = .go (G (b.at (a.put o.dst x) (.inRegion ops rest :: k)) cs) w' (seen P b.fn es) := by
  have hk' : (b.kind == CallKind.early) = false := by simpa using hk
  have hfin : ∀ y, (b.at a (.inRegion ops (i :: rest) :: k)).finish y = b.at (a.put o.dst y) (.inRegion ops rest :: k) := fun y => by rw [Frame.finish_at, ho]; rfl
  rw [stepG_oper ho hw, ← hfin]
  rcases hx with rfl | ⟨rfl, rfl⟩
  · simp [stepG.apply, hr, he, G, Frame.at, hk', GStep.after]
  · simp [stepG.apply, hr, he, G, Frame.at, hk', GStep.after]
end
end Go.Proofs.Ythmgpkcijolljaa
