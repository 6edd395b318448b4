/-
  impl.usersOf, and which lists of plans are valid.
-/
import Derived.Test.YtpblpdoalfphpaaUsers
namespace Go.Proofs.Ytpblpdoalfphpaa
open Go.RowKit
set_option linter.unusedSimpArgs false
set_option linter.unusedVariables false

/-- no line is used by two parties -/
noncomputable def usersB (n : Nat) (R : List DRow) (ear : Bool) : Bool := @decide (∀ x : Int, 1 ≤ x → x ≤ n → ¬ twP R x ear) (Classical.propDecidable _)
theorem usersB_true {n : Nat} {R : List DRow} {ear : Bool} : usersB n R ear = true ↔ ∀ x : Int, 1 ≤ x → x ≤ n → ¬ twP R x ear := by simp [usersB]
theorem usersB_false {n : Nat} {R : List DRow} {ear : Bool} {x : Int} (h1 : 1 ≤ x) (h2 : x ≤ n) (h : twP R x ear) : usersB n R ear = false := by
  cases hb : usersB n R ear
  · rfl
  · exact absurd h (usersB_true.1 hb x h1 h2)
/-- the users so far: all deeds of the first i plans and lt of plan i -/
def UsSt (n : Nat) (R : List DRow) (ear : Bool) (i : Nat) (lt : List Dd) (U : List Int) : Prop :=
  ∀ x : Nat, x < n → ∃ v, U[x]? = some v ∧ St (fun p => (p < i ∧ usesAt R ((x : Int) + 1) ear p) ∨ (p = i ∧ usesB lt ((x : Int) + 1) ear = true)) v
section
variable {n : Nat} {R : List DRow} {ear : Bool} {i : Nat} {U : List Int}
theorem UsSt.start (h : ∀ x, x < n → U[x]? = some (-1)) : UsSt n R ear 0 [] U := fun x hx =>
  ⟨-1, h x hx, .inl ⟨rfl, fun p hp => by
    rcases hp with ⟨h1, _⟩ | ⟨_, h2⟩
    · omega
    · simp [usesB] at h2⟩⟩
theorem UsSt.next (hi : i < R.length) (h : UsSt n R ear i R[i].2.1 U) : UsSt n R ear (i + 1) [] U := fun x hx => by
  obtain ⟨v, hv, hst⟩ := h x hx
  refine ⟨v, hv, hst.congr fun p => ?_⟩
  constructor
  · rintro (⟨h1, h2⟩ | ⟨_, h2⟩)
    · by_cases e : p = i
      · subst e
        exact .inr ⟨rfl, h2.2⟩
      · exact .inl ⟨by omega, h2⟩
    · simp [usesB] at h2
  · rintro (⟨h1, h2⟩ | ⟨rfl, h2⟩)
    · exact .inl ⟨by omega, h2⟩
    · exact .inl ⟨by omega, hi, h2⟩
theorem UsSt.skip {l : List Dd} {j : Nat} (hj : j < l.length) (h : UsSt n R ear i (l.take j) U) (hno : ∀ x : Nat, x < n → useD ((x : Int) + 1) ear l[j] = false) : UsSt n R ear i (l.take (j + 1)) U := fun x hx => by
  obtain ⟨v, hv, hst⟩ := h x hx
  refine ⟨v, hv, hst.congr fun p => ?_⟩
  rw [usesB_succ hj, hno x hx, Bool.or_false]
theorem UsSt.hit {l : List Dd} {j x0 : Nat} (hj : j < l.length) (h : UsSt n R ear i (l.take j) U) (hx0 : x0 < n) (hu : ∀ x : Nat, useD ((x : Int) + 1) ear l[j] = decide (x = x0)) (hv : ∀ v, U[x0]? = some v → v < 0 ∨ v = i) (hU : U.length = n) : UsSt n R ear i (l.take (j + 1)) (U.set x0 i) := fun x hx => by
  obtain ⟨v, hv', hst⟩ := h x hx
  by_cases e : x = x0
  · subst e
    refine ⟨i, by rw [List.getElem?_set]; simp [hU, hx], hst.new (hv v hv') fun p => ?_⟩
    rw [usesB_succ hj, hu]
    constructor
    · rintro (h1 | ⟨h1, _⟩)
      · exact .inl (.inl h1)
      · exact .inr h1
    · rintro ((h1 | ⟨h1, h2⟩) | h1)
      · exact .inl h1
      · exact .inr ⟨h1, by simp⟩
      · exact .inr ⟨h1, by simp⟩
  · refine ⟨v, by rw [List.getElem?_set, if_neg (fun e' => e e'.symm)]; exact hv', hst.congr fun p => ?_⟩
    rw [usesB_succ hj, hu]
    simp [e]
theorem UsSt.clash {l : List Dd} {j x0 : Nat} (hi : i < R.length) (hl : R[i].2.1 = l) (hj : j < l.length) (h : UsSt n R ear i (l.take j) U) (hx0 : x0 < n) (hu : useD ((x0 : Int) + 1) ear l[j] = true) {v : Int} (hv : U[x0]? = some v) (h0 : 0 ≤ v) (hvi : v ≠ i) : usersB n R ear = false := by
  obtain ⟨v', hv', hst⟩ := h x0 hx0
  obtain rfl : v = v' := by rw [hv] at hv'; exact Option.some.inj hv'
  obtain ⟨p, hp, hpu⟩ := hst.twice h0 hvi
  rcases hpu with ⟨h1, h2⟩ | ⟨h1, _⟩
  · exact usersB_false (x := (x0 : Int) + 1) (by omega) (by omega) ⟨p, i, h1, h2, hi, by rw [hl]; exact usesB_yes hj hu⟩
  · exact absurd h1 hp
theorem UsSt.done (h : UsSt n R ear R.length [] U) : usersB n R ear = true := by
  rw [usersB_true]
  rintro x h1 h2 ⟨p, q, hpq, hp, hq⟩
  obtain ⟨v, hv, hst⟩ := h (x - 1).toNat (by omega)
  have e : (((x - 1).toNat : Nat) : Int) + 1 = x := by omega
  rw [e] at hst
  have := hst.one (p := p) (q := q) (.inl ⟨hp.1, hp⟩) (.inl ⟨hq.1, hq⟩)
  omega
end
theorem ret2_bool {v : Value} {a b : Bool} (h : a = b) : Ending.returned (.tuple #[v, .bool a]) = .returned (.tuple #[v, .bool b]) := by rw [h]
theorem cellI {w : World} {g : Nat} {t : TypeId} {U : List Int} (h : Blk w g t (ints U).toArray) {x : Nat} {v : Int} (hv : U[x]? = some v) : w.cell? ⟨g, x, none⟩ = some (.int .i64 v) := by
  rw [h.cell x]
  simp [ints, hv]
theorem setI {w : World} {g : Nat} {t : TypeId} {U : List Int} (h : Blk w g t (ints U).toArray) (x : Nat) (v : Int) : Blk (w.setCell ⟨g, x, none⟩ (.int .i64 v)) g t (ints (U.set x v)).toArray := by
  have := h.set_ x (.int .i64 v)
  rw [← ints_set]
  simpa using this
set_option maxHeartbeats 4000000 in
theorem usersOf_any (A : Option Addr) (c : Nat) (R : List DRow) (n : Nat) (ear : Bool) (w : World) (h : RLD w w.heap.size A R) (hn : R.length ≤ 1048576) (hn2 : ∀ r ∈ R, r.2.1.length ≤ 1048576) (hn6 : n ≤ 6) :
    Calls Try.prog 47 #[.int .i64 n, .slice A R.length c, .bool ear] w fun e w' => (∃ v, e = .returned (.tuple #[v, .bool (usersB n R ear)])) ∧ Below w.heap.size w w' := by
  obtain ⟨i0, hi, hz0, hz1, hz2⟩ := info_parts int_info
  have hmk := fun W => run_makeN (P := Try.prog) 39 3 i0 _ Try.underlying39 hi hz0 hz1 rfl (by omega) n n (Nat.le_refl _) (by omega) W
  clear hi hz0 hz1 hz2
  go_enter Try.func47, Try.ntmps47
  go_wp2
  go_loopw [19, 9] (fun i _ wr => ∃ (k : Nat) (U : List Int), k ≤ n ∧ i = .int .i64 k ∧ U.length = n ∧ (∀ x, x < k → U[x]? = some (-1)) ∧ Blk wr w.heap.size 3 (ints U).toArray ∧ Below w.heap.size w wr) (fun i _ _ => n - (intOf i).toNat)
  case atStart =>
    refine ⟨0, List.replicate n 0, Nat.zero_le _, rfl, by simp, fun x hx => by omega, ?_, (Below.refl _ _).alloc (Nat.le_refl _) _⟩
    have hrep : (ints (List.replicate n 0)).toArray = Array.replicate n (Value.int .i64 0) := by simp [ints]
    rw [hrep]
    exact Blk.new _ _ _
  case round =>
    obtain ⟨k, U, hk, rfl, hU, hU1, hblk, hbel⟩ := hrel
    have HU := Lib.hid hU
    by_cases hlt : k < n
    · have c0 := cellI hblk (x := k) (v := U[k]'(by omega)) (List.getElem?_eq_getElem (by omega))
      have f0 := hblk.frozen k
      have hset := setI hblk k (-1)
      generalize U[k]'(by omega) = old at c0
      have Hset := Lib.hid hset
      have Hblk := Lib.hid hblk
      have HU1 := Lib.hid hU1
      clear hset hblk hU1 hU
      go_wp2
      go_roundw
      case rel =>
        refine ⟨k + 1, _, by omega, by go_num, by rw [List.length_set]; exact HU.out, fun x hx => ?_, Hset.out, hbel.setCell (Nat.le_refl _) _⟩
        rw [List.getElem?_set]
        by_cases e : k = x
        · subst e
          rw [if_pos rfl, if_pos (by rw [HU.out]; omega)]
        · rw [if_neg e]
          exact HU1.out x (by omega)
      case measure => simp [intOf]; omega
    · obtain rfl : k = n := by omega
      have Hst := Lib.hid (UsSt.start (R := R) (ear := ear) hU1)
      have Hblk := Lib.hid hblk
      clear hU1 hblk hU
      go_wp2
      go_loopw [28] (fun i wr => ∃ (j : Nat) (U : List Int), j ≤ R.length ∧ i = .int .i64 j ∧ U.length = k ∧ UsSt k R ear j [] U ∧ Blk wr w.heap.size 3 (ints U).toArray ∧ Below w.heap.size w wr) (fun i _ => R.length - (intOf i).toNat)
      case atStart => exact ⟨0, U, Nat.zero_le _, rfl, HU.out, Hst.out, Hblk.out, hbel⟩
      case round =>
        clear Hst Hblk HU hbel
        obtain ⟨i, U, hik, rfl, hU, hst, hblk, hbel⟩ := hrel
        have HU := Lib.hid hU
        have Hst := Lib.hid hst
        clear hU hst
        by_cases hil : i < R.length
        · obtain ⟨ad, rfl, hb, c1, hc1, hm1, hr1⟩ := (h.below hbel).at_ hil
          obtain ⟨-, -, -, -, -, -, hr0⟩ := h.at_ hil
          have hn1 := hn2 R[i] (List.getElem_mem _)
          have Hnext := Lib.hid (fun U => UsSt.next (n := k) (ear := ear) (U := U) hil)
          have Hclash := Lib.hid (fun l j x0 U => UsSt.clash (n := k) (R := R) (ear := ear) (l := l) (j := j) (x0 := x0) (U := U) hil)
          obtain ⟨d, hd⟩ : ∃ d, R[i] = d := ⟨_, rfl⟩
          rw [hd] at c1 hr0 hn1 Hnext Hclash
          obtain ⟨A1, l1, cc1⟩ := d
          simp only at c1 hr0 hn1
          have hs := hbel.size
          clear hd hc1 hm1 hr1
          have Hblk := Lib.hid hblk
          clear hblk
          go_wp2
          go_loopw [35] (fun a wx => ∃ (j : Nat) (U : List Int), j ≤ l1.length ∧ a = .int .i64 j ∧ U.length = k ∧ UsSt k R ear i (l1.take j) U ∧ Blk wx w.heap.size 3 (ints U).toArray ∧ Below w.heap.size w wx) (fun a _ => l1.length - (intOf a).toNat)
          case atStart => exact ⟨0, U, Nat.zero_le _, rfl, HU.out, by rw [List.take_zero]; exact Hst.out, Hblk.out, hbel⟩
          case round =>
            clear Hst HU Hblk
            obtain ⟨j, U, hjl, rfl, hU, hst, hblk, hbel2⟩ := hrel
            have HU := Lib.hid hU
            have Hst := Lib.hid hst
            clear hU hst
            by_cases hjlt : j < l1.length
            · obtain ⟨ad1, rfl, hb1, d1, d2, d3⟩ := (hr0.below hbel2).at_ hjlt
              have hs2 := hbel2.size
              have Hskip := Lib.hid (UsSt.skip hjlt Hst.out)
              have Hhit := Lib.hid (fun x0 => UsSt.hit (x0 := x0) hjlt Hst.out)
              have Hcl := Lib.hid (fun x0 => Hclash.out l1 j x0 U rfl hjlt Hst.out)
              obtain ⟨d, hd⟩ : ∃ d, l1[j] = d := ⟨_, rfl⟩
              rw [hd] at d1 d2 d3 Hskip Hhit Hcl
              obtain ⟨s, a, b⟩ := d
              have hu : Hid (∀ x, useD x ear (s, a, b) = (a == x && (earB s.toList == ear))) := Lib.hid fun x => rfl
              simp only at d1 d2 d3
              clear hd
              have hlt0 := hblk.lt
              have hbs := hbel2.alloc hs2 (.cells #[.string s, .int .i64 a, .int .i64 b] 54)
              have Hb := Lib.hid (hblk.alloc (.cells #[.string s, .int .i64 a, .int .i64 b] 54))
              by_cases hgo : ((earB s.toList == ear) = true ∧ 1 ≤ a) ∧ a ≤ (k : Int)
              case neg =>
                have Hno : Hid (∀ x : Nat, x < k → useD ((x : Int) + 1) ear (s, a, b) = false) := Lib.hid fun x hx => by
                  rw [hu.out]
                  by_cases h1 : (earB s.toList == ear) = true
                  · have : (a == (x : Int) + 1) = false := by rw [beq_eq_false_iff_ne]; intro e; exact hgo ⟨⟨h1, by omega⟩, by omega⟩
                    rw [this]; rfl
                  · simp at h1
                    simp [h1]
                clear hblk
                cases h1 : earB s.toList == ear
                · have h1' : (earB s.toList != ear) = true := by simp [bne, h1]
                  clear hgo
                  go_wp2_with (go_at_call 53; refine (usesEar_any _ _).mono ?_; rintro e w' ⟨rfl, rfl⟩)
                  go_roundw
                  case rel => exact ⟨j + 1, U, by omega, by go_num, HU.out, Hskip.out Hno.out, Hb.out, hbs⟩
                  case measure => simp [intOf]; omega
                · have h1' : (earB s.toList != ear) = false := by simp [bne, h1]
                  by_cases h2 : a < 1
                  · clear hgo
                    go_wp2_with (go_at_call 53; refine (usesEar_any _ _).mono ?_; rintro e w' ⟨rfl, rfl⟩)
                    go_roundw
                    case rel => exact ⟨j + 1, U, by omega, by go_num, HU.out, Hskip.out Hno.out, Hb.out, hbs⟩
                    case measure => simp [intOf]; omega
                  · have h3 : (k : Int) < a := by
                      rcases Int.lt_or_le (k : Int) a with h | h
                      · exact h
                      · exact absurd ⟨⟨h1, by omega⟩, h⟩ hgo
                    clear hgo
                    go_wp2_with (go_at_call 53; refine (usesEar_any _ _).mono ?_; rintro e w' ⟨rfl, rfl⟩)
                    go_roundw
                    case rel => exact ⟨j + 1, U, by omega, by go_num, HU.out, Hskip.out Hno.out, Hb.out, hbs⟩
                    case measure => simp [intOf]; omega
              obtain ⟨⟨h1, ha1⟩, hak⟩ := hgo
              obtain ⟨x0, hx0⟩ : ∃ x0 : Nat, a = (x0 : Int) + 1 := ⟨(a - 1).toNat, by omega⟩
              subst hx0
              have h1' : (earB s.toList != ear) = false := by simp [bne, h1]
              have hxk : x0 < k := by omega
              have hxU : x0 < U.length := by rw [HU.out]; exact hxk
              have c0 := cellI hblk (x := x0) (v := U[x0]'hxU) (List.getElem?_eq_getElem hxU)
              have f0 := hblk.frozen x0
              have Hxv : Hid (U[x0]? = some (U[x0]'hxU)) := Lib.hid (List.getElem?_eq_getElem hxU)
              have Hset := Lib.hid ((setI hblk x0 (i : Int)).alloc (.cells #[.string s, .int .i64 ((x0 : Int) + 1), .int .i64 b] 54))
              have Hbe : Hid (Below w.heap.size w ((wr.setCell ⟨w.heap.size, x0, none⟩ (.int .i64 (i : Int))).alloc (.cells #[.string s, .int .i64 ((x0 : Int) + 1), .int .i64 b] 54))) := Lib.hid ((hbel2.setCell (p := ⟨w.heap.size, x0, none⟩) (Nat.le_refl _) _).alloc (by simpa [World.setCell] using hs2) _)
              obtain ⟨v, hv⟩ : ∃ v, U[x0]'hxU = v := ⟨_, rfl⟩
              rw [hv] at c0 Hxv
              have Huse : Hid (∀ x : Nat, useD ((x : Int) + 1) ear (s, (x0 : Int) + 1, b) = decide (x = x0)) := Lib.hid fun x => by
                rw [hu.out, h1, Bool.and_true]
                by_cases e : x = x0
                · simp [e]
                · have : ((x0 : Int) + 1 == (x : Int) + 1) = false := by rw [beq_eq_false_iff_ne]; omega
                  rw [this]
                  simp [e]
              have Huse0 : Hid (useD ((x0 : Int) + 1) ear (s, (x0 : Int) + 1, b) = true) := Lib.hid (by rw [Huse.out]; simp)
              clear hv hxU hblk
              by_cases hcl : 0 ≤ v ∧ v ≠ i
              · obtain ⟨hv0, hvi⟩ := hcl
                have E := Lib.hid (Hcl.out x0 hxk Huse0.out Hxv.out hv0 hvi)
                have hvn : (v != (i : Int)) = true := by simp [hvi]
                clear hvi
                go_wp2_with (go_at_call 53; refine (usesEar_any _ _).mono ?_; rintro e w' ⟨rfl, rfl⟩)
                go_ret2
                exact ⟨⟨_, ret2_bool E.out.symm⟩, hbs⟩
              · have Hok : Hid (∀ v', U[x0]? = some v' → v' < 0 ∨ v' = i) := Lib.hid fun v' h' => by
                  rw [Hxv.out] at h'
                  obtain rfl : v = v' := Option.some.inj h'
                  by_cases h0 : v < 0
                  · exact .inl h0
                  · refine .inr ?_
                    by_cases e : v = i
                    · exact e
                    · exact absurd ⟨by omega, e⟩ hcl
                have Hfin := Lib.hid (Hhit.out x0 hxk Huse.out Hok.out HU.out)
                by_cases hv0 : v < 0
                · clear hcl
                  go_wp2_with (go_at_call 53; refine (usesEar_any _ _).mono ?_; rintro e w' ⟨rfl, rfl⟩)
                  go_roundw
                  case rel => exact ⟨j + 1, U.set x0 i, by omega, by go_num, by rw [List.length_set]; exact HU.out, Hfin.out, Hset.out, Hbe.out⟩
                  case measure => simp [intOf]; omega
                · have hvi : v = i := by
                    by_cases e : v = i
                    · exact e
                    · exact absurd ⟨by omega, e⟩ hcl
                  subst hvi
                  have hvn : ((i : Int) != (i : Int)) = false := by simp
                  clear hcl
                  go_wp2_with (go_at_call 53; refine (usesEar_any _ _).mono ?_; rintro e w' ⟨rfl, rfl⟩)
                  go_roundw
                  case rel => exact ⟨j + 1, U.set x0 i, by omega, by go_num, by rw [List.length_set]; exact HU.out, Hfin.out, Hset.out, Hbe.out⟩
                  case measure => simp [intOf]; omega
            · obtain rfl : j = l1.length := by omega
              have Hst2 : Hid (UsSt k R ear i l1 U) := by have := Hst.out; rw [List.take_length] at this; exact Lib.hid this
              have Hb := Lib.hid hblk
              clear hblk Hst
              go_wp2
              go_roundw
              case rel => exact ⟨i + 1, U, by omega, by go_num, HU.out, Hnext.out U Hst2.out, Hb.out, hbel2⟩
              case measure => simp [intOf]; omega
        · obtain rfl : i = R.length := by omega
          have E := Lib.hid (UsSt.done Hst.out)
          clear hblk
          go_wp2
          go_ret2
          exact ⟨⟨_, ret2_bool E.out.symm⟩, hbel⟩
end Go.Proofs.Ytpblpdoalfphpaa
