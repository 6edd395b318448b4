/-
  Which lines are used twice, by the reference and by the program.
-/
import Derived.Test.YthdnhaaojicmbaaDoorParties
namespace Go.Proofs.YthdnhaaojicmbaaDoor
open Go.RowKit
set_option linter.unusedSimpArgs false
set_option linter.unusedVariables false


/-- does a deed use that end of a line? -/
def useD (x : Int) (ear : Bool) (d : Dd) : Bool := d.2.1 == x && (earB d.1.toList == ear)
def usesB (l : List Dd) (x : Int) (ear : Bool) : Bool := l.any (useD x ear)
theorem usesB_succ {l : List Dd} {k : Nat} (hk : k < l.length) (x : Int) (ear : Bool) : usesB (l.take (k + 1)) x ear = (usesB (l.take k) x ear || useD x ear l[k]) := by
  unfold usesB
  rw [take_snoc l k hk, List.any_append]
  simp
theorem usesB_yes {l : List Dd} {k : Nat} (hk : k < l.length) {x : Int} {ear : Bool} (h : useD x ear l[k] = true) : usesB l x ear = true := by
  unfold usesB
  rw [List.any_eq_true]
  exact ⟨_, List.getElem_mem hk, h⟩
set_option maxHeartbeats 2000000 in
theorem l3Uses_any (A : Option Addr) (c : Nat) (l : List Dd) (x : Int) (ear : Bool) (w : World) (B : Nat) (h : RD w B A l) (hn : l.length ≤ 1048576) :
    Calls Tryd.prog 56 #[.slice A l.length c, .int .i64 x, .bool ear] w fun e w' => e = .returned (.bool (usesB l x ear)) ∧ w = w' := by
  go_enter Tryd.func56, Tryd.ntmps56
  go_wp2
  go_loop [7] (fun i => ∃ k : Nat, k ≤ l.length ∧ i = .int .i64 k ∧ usesB (l.take k) x ear = false) (fun i => l.length - (intOf i).toNat)
  case atStart => exact ⟨0, Nat.zero_le _, rfl, by simp [usesB]⟩
  case round =>
    obtain ⟨k, hk, rfl, hall⟩ := hrel
    have Hall := Lib.hid hall
    clear hall
    by_cases hlt : k < l.length
    · obtain ⟨ad, rfl, hb, c1, c2, c3⟩ := h.at_ hlt
      have Hs := Lib.hid (usesB_succ hlt x ear)
      have Hy := Lib.hid (usesB_yes hlt (x := x) (ear := ear))
      obtain ⟨d, hd⟩ : ∃ d, l[k] = d := ⟨_, rfl⟩
      rw [hd] at c1 c2 c3 Hs Hy
      obtain ⟨s, a, b⟩ := d
      clear hd
      have hu : Hid (useD x ear (s, a, b) = (a == x && (earB s.toList == ear))) := Lib.hid rfl
      simp only at c1 c2 c3
      cases h1 : a == x
      · go_wp2_with (go_at_call 61; refine (l3Takes_any _ _).mono ?_; rintro e w' ⟨rfl, rfl⟩)
        go_round
        case rel => exact ⟨k + 1, by omega, by go_num, by rw [Hs.out, Hall.out, hu.out, h1]; rfl⟩
        case measure => simp [intOf]; omega
      · cases h2 : earB s.toList == ear
        · go_wp2_with (go_at_call 61; refine (l3Takes_any _ _).mono ?_; rintro e w' ⟨rfl, rfl⟩)
          go_round
          case rel => exact ⟨k + 1, by omega, by go_num, by rw [Hs.out, Hall.out, hu.out, h1, h2]; rfl⟩
          case measure => simp [intOf]; omega
        · go_wp2_with (go_at_call 61; refine (l3Takes_any _ _).mono ?_; rintro e w' ⟨rfl, rfl⟩)
          go_ret
          exact ⟨ret_bool (Hy.out (by rw [hu.out, h1, h2]; rfl)).symm, rfl⟩
    · have hk' : k = l.length := by omega
      have Hall2 : Hid (usesB l x ear = false) := by have := Hall.out; rw [hk', List.take_length] at this; exact Lib.hid this
      clear hk' Hall
      go_wp2
      go_ret
      exact ⟨ret_bool Hall2.out.symm, rfl⟩
/-- does plan p use that end of a line? -/
def usesAt (R : List DRow) (x : Int) (ear : Bool) (p : Nat) : Prop := ∃ (h : p < R.length), usesB R[p].2.1 x ear = true
/-- two plans use that end of a line -/
def twP (R : List DRow) (x : Int) (ear : Bool) : Prop := ∃ p q, p < q ∧ usesAt R x ear p ∧ usesAt R x ear q
noncomputable def twB (R : List DRow) (x : Int) (ear : Bool) : Bool := @decide (twP R x ear) (Classical.propDecidable _)
theorem twB_true {R : List DRow} {x : Int} {ear : Bool} : twB R x ear = true ↔ twP R x ear := by simp [twB]
theorem twB_false {R : List DRow} {x : Int} {ear : Bool} : twB R x ear = false ↔ ¬ twP R x ear := by simp [twB]
/-- what is known of the one user so far -/
def St (used : Nat → Prop) (v : Int) : Prop := (v = -1 ∧ ∀ p, ¬ used p) ∨ ∃ p : Nat, v = p ∧ used p ∧ ∀ q, used q → q = p
theorem St.congr {u u' : Nat → Prop} {v : Int} (h : St u v) (e : ∀ p, u' p ↔ u p) : St u' v := by
  rcases h with ⟨h1, h2⟩ | ⟨p, h1, h2, h3⟩
  · exact .inl ⟨h1, fun p hp => h2 p ((e p).1 hp)⟩
  · exact .inr ⟨p, h1, (e p).2 h2, fun q hq => h3 q ((e q).1 hq)⟩
theorem St.ge {u : Nat → Prop} {v : Int} (h : St u v) : -1 ≤ v := by
  rcases h with ⟨h1, _⟩ | ⟨p, h1, _⟩ <;> omega
theorem St.new {u u' : Nat → Prop} {v : Int} {i : Nat} (h : St u v) (hv : v < 0 ∨ v = i) (e : ∀ p, u' p ↔ u p ∨ p = i) : St u' i := by
  refine .inr ⟨i, rfl, (e i).2 (.inr rfl), fun q hq => ?_⟩
  rcases (e q).1 hq with hq | hq
  · rcases h with ⟨_, h2⟩ | ⟨p, h1, h2, h3⟩
    · exact absurd hq (h2 q)
    · have := h3 q hq
      omega
  · exact hq
theorem St.twice {u : Nat → Prop} {v : Int} {i : Nat} (h : St u v) (h0 : 0 ≤ v) (hv : v ≠ i) : ∃ p, p ≠ i ∧ u p := by
  rcases h with ⟨h1, _⟩ | ⟨p, h1, h2, _⟩
  · omega
  · exact ⟨p, fun e => hv (by rw [h1, e]), h2⟩
theorem St.one {u : Nat → Prop} {v : Int} (h : St u v) {p q : Nat} (hp : u p) (hq : u q) : p = q := by
  rcases h with ⟨_, h2⟩ | ⟨r, _, _, h3⟩
  · exact absurd hp (h2 p)
  · rw [h3 p hp, h3 q hq]
set_option maxHeartbeats 2000000 in
theorem l3User_any (A : Option Addr) (c : Nat) (R : List DRow) (x : Int) (ear : Bool) (w : World) (B : Nat) (h : RLD w B A R) (hn : R.length ≤ 1048576) (hn2 : ∀ r ∈ R, r.2.1.length ≤ 1048576) :
    Calls Tryd.prog 46 #[.slice A R.length c, .int .i64 x, .bool ear] w fun e w' => (∃ v : Int, e = .returned (.int .i64 v) ∧ (v == -2) = twB R x ear) ∧ w = w' := by
  go_enter Tryd.func46, Tryd.ntmps46
  go_wp2
  go_loop [8, 7] (fun i m => ∃ (k : Nat) (v : Int), k ≤ R.length ∧ i = .int .i64 k ∧ m = .int .i64 v ∧ -1 ≤ v ∧ v < R.length ∧ St (fun p => p < k ∧ usesAt R x ear p) v) (fun i _ => R.length - (intOf i).toNat)
  case atStart => exact ⟨0, -1, Nat.zero_le _, rfl, rfl, by omega, by omega, .inl ⟨rfl, fun p hp => by omega⟩⟩
  case round =>
    obtain ⟨k, v, hk, rfl, rfl, hv0, hv1, hst⟩ := hrel
    have Hst := Lib.hid hst
    clear hst
    by_cases hlt : k < R.length
    · obtain ⟨ad, rfl, hb, c1, hc1, hm1, hr1⟩ := h.at_ hlt
      have hn1 := hn2 R[k] (List.getElem_mem _)
      have Hu : Hid (usesAt R x ear k ↔ usesB R[k].2.1 x ear = true) := Lib.hid ⟨fun ⟨_, h⟩ => h, fun h => ⟨hlt, h⟩⟩
      obtain ⟨d, hd⟩ : ∃ d, R[k] = d := ⟨_, rfl⟩
      rw [hd] at c1 hr1 hn1 Hu
      obtain ⟨A1, l1, cc1⟩ := d
      clear hd hn2 h
      simp only at c1 hr1 hn1
      cases hu : usesB l1 x ear
      · have Hno : Hid (∀ p, (p < k + 1 ∧ usesAt R x ear p) ↔ (p < k ∧ usesAt R x ear p)) := Lib.hid fun p => by
          constructor
          · rintro ⟨h1, h2⟩
            by_cases e : p = k
            · subst e
              have := Hu.out.1 h2
              simp only at this
              rw [hu] at this
              cases this
            · exact ⟨by omega, h2⟩
          · rintro ⟨h1, h2⟩
            exact ⟨by omega, h2⟩
        go_wp2_with fail
        refine (l3Uses_any A1 cc1 l1 x ear w _ hr1 hn1).mono ?_
        rintro e w' ⟨rfl, rfl⟩
        rw [hu]
        go_wp2_with fail
        go_round
        case rel => exact ⟨k + 1, v, by omega, by go_num, rfl, hv0, hv1, Hst.out.congr Hno.out⟩
        case measure => simp [intOf]; omega
      · have Hyes : Hid (usesAt R x ear k) := Lib.hid (Hu.out.2 (by simpa using hu))
        by_cases hv : 0 ≤ v
        · have E : Hid (((-2 : Int) == -2) = twB R x ear) := Lib.hid (by
            obtain ⟨p, hp, hpk, hpu⟩ := Hst.out.twice (i := k) hv (by
              intro e
              rcases Hst.out with ⟨h1, _⟩ | ⟨q, h1, h2, _⟩
              · omega
              · omega)
            rw [twB_true.2 ⟨p, k, hpk, hpu, Hyes.out⟩]
            rfl)
          go_wp2_with fail
          refine (l3Uses_any A1 cc1 l1 x ear w _ hr1 hn1).mono ?_
          rintro e w' ⟨rfl, rfl⟩
          rw [hu]
          go_wp2_with fail
          go_ret
          exact ⟨⟨-2, rfl, E.out⟩, rfl⟩
        · have hv' : v < 0 := by omega
          have Hnew : Hid (∀ p, (p < k + 1 ∧ usesAt R x ear p) ↔ (p < k ∧ usesAt R x ear p) ∨ p = k) := Lib.hid fun p => by
            constructor
            · rintro ⟨h1, h2⟩
              by_cases e : p = k
              · exact .inr e
              · exact .inl ⟨by omega, h2⟩
            · rintro (⟨h1, h2⟩ | rfl)
              · exact ⟨by omega, h2⟩
              · exact ⟨by omega, Hyes.out⟩
          go_wp2_with fail
          refine (l3Uses_any A1 cc1 l1 x ear w _ hr1 hn1).mono ?_
          rintro e w' ⟨rfl, rfl⟩
          rw [hu]
          go_wp2_with fail
          go_round
          case rel => exact ⟨k + 1, k, by omega, by go_num, rfl, by omega, by omega, Hst.out.new (.inl hv') Hnew.out⟩
          case measure => simp [intOf]; omega
    · obtain rfl : k = R.length := by omega
      have E : Hid ((v == -2) = twB R x ear) := Lib.hid (by
        have h1 : (v == -2) = false := by rw [beq_eq_false_iff_ne]; omega
        rw [h1]
        symm
        rw [twB_false]
        rintro ⟨p, q, hpq, hp, hq⟩
        have := Hst.out.one (p := p) (q := q) ⟨hp.1, hp⟩ ⟨hq.1, hq⟩
        omega)
      clear h hn2
      go_wp2
      go_ret
      exact ⟨⟨v, rfl, E.out⟩, rfl⟩
end Go.Proofs.YthdnhaaojicmbaaDoor
