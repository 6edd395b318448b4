/-
  Rooms and plans that are drawn; a copy of plans.
-/
import Derived.Test.YthdnhaaojicmbaaDoorBad
namespace Go.Proofs.YthdnhaaojicmbaaDoor
open Go.RowKit
set_option linter.unusedSimpArgs false
set_option linter.unusedVariables false

theorem own_caps {w : World} {base n c sz : Nat} {e : TypeId} {A : Option Addr} {xs : List Value} (h : w.ownsRow base e sz (.slice A n c) n xs) : n ≤ c ∧ c ≤ maxLen := by
  rcases h.2 with ⟨e, _⟩ | ⟨g', cap, cur, e, _, hh, h1, h2, _⟩
  · injection e with _ e1 e2
    subst e1 e2
    exact ⟨Nat.le_refl _, Nat.zero_le _⟩
  · injection e with _ _ e2
    subst e2
    exact ⟨h1, h2⟩
theorem PlansAt.RLD_ {w : World} {base c : Nat} {A : Option Addr} {Rr : List DRow} (h : PlansAt w base (.slice A Rr.length c) Rr) : RLD w w.heap.size A Rr :=
  ⟨h.reads, fun r hr => ⟨(own_caps (h.2 r hr).1).1, (own_caps (h.2 r hr).1).2, Reads.of_own (h.2 r hr).1⟩⟩
/-- rooms and plans that are drawn -/
def DrawnBoth (w : World) (R B : Nat) (A : Option Addr) (c : Nat) (l : List Int) (p : Int) (e : Ending) (w' : World) : Prop :=
  ∃ (L : List Int) (A1 : Option Addr) (c1 : Nat) (Rr : List DRow) (A2 : Option Addr) (c2 : Nat) (p' : Int), e = .returned (.tuple #[.slice A1 L.length c1, .slice A2 Rr.length c2]) ∧ L.length ≤ 9 ∧ Rr.length ≤ 5 ∧ (∀ r ∈ Rr, r.2.1.length ≤ 13 ∧ ∀ d ∈ r.2.1, d.1.size ≤ 10) ∧ RI w' w'.heap.size A1 L ∧ RLD w' w'.heap.size A2 Rr ∧ Rdr w' R B A c l p' ∧ p' ≤ p + 400 ∧ w.grownBy w' (some R)
set_option maxHeartbeats 400000 in
theorem l3Both_any (R B c : Nat) (A : Option Addr) (l : List Int) (p : Int) (w : World) (h : Rdr w R B A c l p) (hp : p < 9000) :
    Calls Tryd.prog 19 #[.pointer (some ⟨R, 0, none⟩)] w (DrawnBoth w R B A c l p) := by
  have hR := h.blk.lt
  go_enter Tryd.func19, Tryd.ntmps19
  go_wp2_with fail
  refine (l1Rooms_any R B c A l p w h (by omega)).mono ?_
  rintro e w1 ⟨L, A1, c1, p1, rfl, hL, o1, h1, hp1, hg1⟩
  have hs1 := hg1.size
  clear h
  by_cases h6 : L.length ≤ 6
  · have h6' : (L.length : Int) ≤ 6 := by omega
    have hq := l3Plans_any R B c A l p1 L.length w1 h1 (by omega) h6
    go_wp2_with fail
    refine hq.mono ?_
    rintro e w2 ⟨Rr, A2, c2, p2, rfl, hRr, o2, rr2, h2, hp2, hg2⟩
    have o12 := own_kept_R (own_mono o1 (base' := R + 1) (by omega)) hg2
    have P2 : PlansAt w2 (R + 1) (.slice A2 Rr.length c2) Rr := PlansAt.mono ⟨o2, rr2⟩ (by omega)
    have g2 := grownBy_trans hg1 hg2
    clear o1 h1 o2 rr2 hg2 hg1 hq
    go_wp2_with fail
    refine (l3Bad_any R B c A l p2 A2 c2 Rr w2 h2 (by omega) P2 hRr).mono ?_
    rintro e w3 ⟨Rs, A3, c3, p3, rfl, hRs, P3, h3, hp3, hg3⟩
    have o13 := own_kept_R o12 hg3
    go_wp2_with fail
    go_ret2
    exact ⟨L, A1, c1, Rs, A3, c3, p3, rfl, hL, hRs, fun r hr => (P3.2 r hr).2, RI.of_own o13, P3.RLD_, h3, by omega, grownBy_trans g2 hg3⟩
  · have h6' : ¬ (L.length : Int) ≤ 6 := by omega
    have hq := l3Plans_any R B c A l p1 6 w1 h1 (by omega) (Nat.le_refl _)
    rw [show ((6 : Nat) : Int) = 6 from rfl] at hq
    go_wp2_with fail
    refine hq.mono ?_
    rintro e w2 ⟨Rr, A2, c2, p2, rfl, hRr, o2, rr2, h2, hp2, hg2⟩
    have o12 := own_kept_R (own_mono o1 (base' := R + 1) (by omega)) hg2
    have P2 : PlansAt w2 (R + 1) (.slice A2 Rr.length c2) Rr := PlansAt.mono ⟨o2, rr2⟩ (by omega)
    have g2 := grownBy_trans hg1 hg2
    clear o1 h1 o2 rr2 hg2 hg1 hq
    go_wp2_with fail
    refine (l3Bad_any R B c A l p2 A2 c2 Rr w2 h2 (by omega) P2 hRr).mono ?_
    rintro e w3 ⟨Rs, A3, c3, p3, rfl, hRs, P3, h3, hp3, hg3⟩
    have o13 := own_kept_R o12 hg3
    go_wp2_with fail
    go_ret2
    exact ⟨L, A1, c1, Rs, A3, c3, p3, rfl, hL, hRs, fun r hr => (P3.2 r hr).2, RI.of_own o13, P3.RLD_, h3, by omega, grownBy_trans g2 hg3⟩
/-- a copy of plans -/
def CopiedPlans (w : World) (R0 : List DRow) (e : Ending) (w' : World) : Prop :=
  ∃ (Rs : List DRow) (A' : Option Addr) (c' : Nat), e = .returned (.slice A' Rs.length c') ∧ Rs.map (·.2.1) = R0.map (·.2.1) ∧ PlansAt w' w.heap.size (.slice A' Rs.length c') Rs ∧ Below w.heap.size w w'
theorem below_own {B : Nat} {a w w' : World} {row : Option Nat} (h : Below B a w) (hg : w.grownBy w' row) (hB : B ≤ w.heap.size) (hr : ∀ k, row = some k → B ≤ k) : Below B a w' := h.grown hg hB hr
theorem cells3_oneCell (l : List Dd) : ∀ u ∈ cells3 l, u.oneCell' = true := by
  intro u hu
  obtain ⟨d, _, hd⟩ := List.mem_flatMap.1 hu
  simp [encD] at hd
  rcases hd with rfl | rfl | rfl <;> rfl
set_option maxHeartbeats 4000000 in
theorem ownPlans_any (A : Option Addr) (c : Nat) (R0 : List DRow) (w : World) (h : RLD w w.heap.size A R0) (hn : R0.length ≤ 5) (h13 : ∀ r ∈ R0, r.2.1.length ≤ 13 ∧ ∀ d ∈ r.2.1, d.1.size ≤ 10) :
    Calls Tryd.prog 34 #[.slice A R0.length c] w (CopiedPlans w R0) := by
  obtain ⟨q0, hq, qz0, qz1, qz2⟩ := info_parts pslice_info
  obtain ⟨j0, hjd, jz0, jz1, jz2⟩ := info_parts deed_info
  have o5 := ownsRow_emptyP w
  go_enter Tryd.func34, Tryd.ntmps34
  go_wp2_with fail
  go_loopw [9, 3] (fun i v wr => ∃ (k : Nat) (Rs : List DRow), i = .int .i64 k ∧ k ≤ R0.length ∧ Rs.map (·.2.1) = (R0.take k).map (·.2.1) ∧ PlansAt wr w.heap.size v Rs ∧ Below w.heap.size w wr) (fun i _ _ => R0.length - (intOf i).toNat)
  case atStart => exact ⟨0, [], rfl, Nat.zero_le _, by simp, ⟨o5, fun r hr => by cases hr⟩, (Below.refl _ _).alloc (Nat.le_refl _) _⟩
  case round =>
    clear o5
    obtain ⟨k, Rs, rfl, hk, hRs, P, hb⟩ := hrel
    have HRs := Lib.hid hRs
    have hlen : Hid (Rs.length = k) := Lib.hid (by have := congrArg List.length hRs; simp at this; omega)
    clear hRs
    by_cases hlt : k < R0.length
    · have hlt' : (k : Int) < (R0.length : Int) := by omega
      obtain ⟨ad, hA, hbl, hc, hcap, hmax, hrow⟩ := (h.below hb).at_ hlt
      have hr13 := h13 _ (List.getElem_mem hlt)
      obtain ⟨rw_, hrw⟩ : ∃ r, R0[k] = r := ⟨_, rfl⟩
      rw [hrw] at hc hrow hr13 hcap hmax
      have Hrw := Lib.hid hrw
      obtain ⟨Ar, lr, cr⟩ := rw_
      simp only at hc hrow hr13 hcap hmax
      subst hA
      clear hrw
      have hs := hb.size
      have P2 := P.alloc (.cells #[] 67)
      have o14 := own_mono (ownsRow_emptyD wr) hs
      have hrow2 := Reads.more (Reads.alloc hrow (by omega) (.cells #[] 67)) (B' := (wr.alloc (.cells #[] 67)).heap.size) (by simp; omega)
      have hb2 := hb.alloc hs (.cells #[] 67)
      have hs2 := hb2.size
      have hap : ∀ r ∈ Rs, Apart (.slice (some ⟨wr.heap.size, 0, none⟩) 0 0) (rowV r) := fun r hr => apart_fresh (P.2 r hr).1 (Nat.le_refl _)
      go_wp2_with (first | (at_builtin; refine wpList_append_any _ rfl _ _ 68 rfl w.heap.size 67 j0 (.agg #[.string ByteArray.empty, .int .i64 0, .int .i64 0]) 3 32 Tryd.underlying68 hjd jz0 jz1 jz2 rfl (by decide) (.slice (some ⟨wr.heap.size, 0, none⟩) 0 0) _ _ rfl o14 _ Ar lr.length cr (cells3 lr) rfl hrow2 (cells3_oneCell lr) ?_ ?_ ?_ ?_; (unfold maxLen; omega); omega; exact hs2; intro v' w4 hown' hgrow hloc; (have P4 : PlansAt w4 w.heap.size u3 Rs := P2.mark hgrow (fun k hk e => apart_ty o14 P2.1 (by decide) k e hk) (fun r hr k hk e => hap r hr k e hk)); have hb4 := below_own hb2 hgrow hs2 (fun k hk => (o14.lt k hk).1); have hs4 := hb4.size; have r4 : w4.ownsRow w.heap.size 67 3 v' lr.length (cells3 lr) := (by simpa [cells3] using hown'); obtain ⟨A4, c4, rfl⟩ := own_form r4; have P5 := P4.alloc (.cells #[.slice A4 lr.length c4] 68); have r5 := r4.alloc (.cells #[.slice A4 lr.length c4] 68); have hb5 := hb4.alloc hs4 (.cells #[.slice A4 lr.length c4] 68); have hs5 := hb5.size; have o5 := P5.1; clear P2 P4 P hb4 hb2 hb o14 hrow2 hown' hgrow hloc) | (at_builtin; refine wpList_append_own_at _ rfl _ _ 48 rfl w.heap.size 68 q0 (.slice none 0 0) 1 24 Tryd.underlying48 hq qz0 qz1 qz2 rfl (by decide) u3 _ _ rfl o5 ⟨w4.heap.size, 0, none⟩ 1 1 [.slice A4 lr.length c4] rfl rfl (cell_one_new _ _ _) (fun u hu => by simp at hu; subst hu; rfl) ?_ ?_ ?_ ?_; (have := hlen.out; unfold maxLen; omega); (have := hlen.out; omega); exact hs5; intro v8 w8 hown8 hgrow8 hnil8 hloc8))
      have P8 := P5.snoc (v' := v8) (r := (A4, lr, c4)) hgrow8 (by simpa [rowV] using hown8) r5 hr13.1 hr13.2
      have hb8 := below_own hb5 hgrow8 hs5 (fun k hk => (o5.lt k hk).1)
      go_roundw
      case rel =>
        refine ⟨k + 1, Rs ++ [(A4, lr, c4)], by congr 1, by omega, ?_, P8, hb8⟩
        rw [List.map_append, HRs.out, take_snoc R0 k hlt, List.map_append, Hrw.out]
        rfl
      case measure => simp [intOf]; omega
    · obtain rfl : k = R0.length := by omega
      have hlt' : ¬ (R0.length : Int) < (R0.length : Int) := by omega
      obtain ⟨A', c', rfl⟩ := own_form P.1
      have P' := P
      go_wp2_with fail
      go_ret
      exact ⟨Rs, A', c', rfl, by rw [HRs.out, List.take_length], P, hb⟩
end Go.Proofs.YthdnhaaojicmbaaDoor
