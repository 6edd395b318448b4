/-
  Deeds of parties that are drawn.
-/
import Derived.Test.YthdnhaaojicmbaaDoorRooms
import Derived.Test.YthdnhaaojicmbaaDoorHand
namespace Go.Proofs.YthdnhaaojicmbaaDoor
open Go.RowKit
set_option linter.unusedSimpArgs false
set_option linter.unusedVariables false

/-- a deed of a party that is drawn -/
def DrawnDd (w : World) (R B : Nat) (A : Option Addr) (c : Nat) (l : List Int) (p : Int) (e : Ending) (w' : World) : Prop :=
  ∃ (a : ByteArray) (x y p' : Int), e = .returned (.agg #[.string a, .int .i64 x, .int .i64 y]) ∧ a.size ≤ 10 ∧ Rdr w' R B A c l p' ∧ p' ≤ p + 4 ∧ w.grownBy w' (some R)
def takesL : List ByteArray := [⟨#[116, 97, 107, 101]⟩, ⟨#[116, 97, 107, 101]⟩, ⟨#[101, 97, 99, 104]⟩]
def putsL : List ByteArray := [⟨#[112, 117, 116]⟩, ⟨#[112, 117, 116]⟩, ⟨#[112, 117, 116]⟩, ⟨#[112, 97, 115, 115]⟩, ⟨#[101, 110, 100]⟩]
theorem takesL_size : ∀ a ∈ takesL, a.size ≤ 10 := by decide
theorem putsL_size : ∀ a ∈ putsL, a.size ≤ 10 := by decide
theorem res_fin {w w3 : World} {R B c : Nat} {A : Option Addr} {l : List Int} {p : Int} {t : TypeId} {cs : Array Value} (k : Blk w3 w.heap.size t cs) (hr : Rdr w3 R B A c l p) (hR : R < w.heap.size) (hg : w.grownBy w3 (some R)) (v0 v1 v2 : Value) :
    Rdr (((w3.setCell ⟨w.heap.size, 0, none⟩ v0).setCell ⟨w.heap.size, 1, none⟩ v1).setCell ⟨w.heap.size, 2, none⟩ v2) R B A c l p ∧ w.grownBy (((w3.setCell ⟨w.heap.size, 0, none⟩ v0).setCell ⟨w.heap.size, 1, none⟩ v1).setCell ⟨w.heap.size, 2, none⟩ v2) (some R) := by
  have g : w3.grownBy (((w3.setCell ⟨w.heap.size, 0, none⟩ v0).setCell ⟨w.heap.size, 1, none⟩ v1).setCell ⟨w.heap.size, 2, none⟩ v2) (some w.heap.size) := only_setCell_ (only_setCell_ (only_setCell_ (World.grownBy.refl w3 _) 0 v0) 1 v1) 2 v2
  exact ⟨hr.grown g (fun k hk => by injection hk with hk; omega), grownBy_new hg g (fun g hg => by injection hg with hg; omega)⟩
theorem own_kept_R {w w' : World} {R : Nat} {v : Value} {n sz : Nat} {e : TypeId} {xs : List Value} (h : w.ownsRow (R + 1) e sz v n xs) (hg : w.grownBy w' (some R)) : w'.ownsRow (R + 1) e sz v n xs :=
  h.kept hg (.inr (fun e => by have := (h.lt R e).1; omega))
set_option maxHeartbeats 4000000 in
theorem l3One_any (R B c : Nat) (A : Option Addr) (l : List Int) (p : Int) (A1 A2 : Option Addr) (c1 c2 : Nat) (L1 L2 : List Int) (w : World) (h : Rdr w R B A c l p) (hp : p < 19000) (h1 : w.ownsRow (R + 1) 3 1 (.slice A1 L1.length c1) L1.length (ints L1)) (h2 : w.ownsRow (R + 1) 3 1 (.slice A2 L2.length c2) L2.length (ints L2)) (n1 : L1.length ≤ 6) (n2 : L2.length ≤ 6) :
    Calls Tryd.prog 33 #[.pointer (some ⟨R, 0, none⟩), .slice A1 L1.length c1, .slice A2 L2.length c2] w (DrawnDd w R B A c l p) := by
  have hR := h.blk.lt
  have k1 := Blk.new w 67 #[.string ⟨#[]⟩, .int .i64 0, .int .i64 0]
  have g1 : w.grownBy (w.alloc (.cells #[.string ⟨#[]⟩, .int .i64 0, .int .i64 0] 67)) (some R) := World.grownBy_alloc w _ _
  have hr1 := h.alloc (.cells #[.string ⟨#[]⟩, .int .i64 0, .int .i64 0] 67)
  have o1 := h1.alloc (.cells #[.string ⟨#[]⟩, .int .i64 0, .int .i64 0] 67)
  have o2 := h2.alloc (.cells #[.string ⟨#[]⟩, .int .i64 0, .int .i64 0] 67)
  clear h h1 h2
  go_enter Tryd.func33, Tryd.ntmps33
  go_upto_region 1 with fail
  generalize w.alloc (.cells #[.string ⟨#[]⟩, .int .i64 0, .int .i64 0] 67) = wA at k1 g1 hr1 o1 o2 ⊢
  go_cut [20] (fun s20 wx => ∃ (b : Bool) (p' : Int), s20 = .bool b ∧ (b = true → 0 < L2.length) ∧ p' ≤ p + 1 ∧ Blk wx w.heap.size 67 #[.string ⟨#[]⟩, .int .i64 0, .int .i64 0] ∧ w.grownBy wx (some R) ∧ Rdr wx R B A c l p' ∧ wx.ownsRow (R + 1) 3 1 (.slice A1 L1.length c1) L1.length (ints L1) ∧ wx.ownsRow (R + 1) 3 1 (.slice A2 L2.length c2) L2.length (ints L2))
  case first =>
    by_cases z2 : 0 < L2.length
    · have y2 : (0 : Int) < L2.length := by omega
      by_cases z1 : 0 < L1.length
      · have y1 : ((L1.length : Int) == 0) = false := by rw [beq_eq_false_iff_ne]; omega
        go_wp2_with fail
        refine (pick_any R B c A l p 2 wA hr1 (by omega) (by omega) (by omega)).mono ?_
        rintro e w3 ⟨v, v0, v1, rfl, h3, hg3⟩
        go_wp2_with fail
        go_meet
        exact ⟨_, p + 1, rfl, fun _ => z2, by omega, k1.grown hg3 (fun e => by injection e with e; omega), grownBy_trans g1 hg3, h3, own_kept_R o1 hg3, own_kept_R o2 hg3⟩
      · have y1 : ((L1.length : Int) == 0) = true := by rw [beq_iff_eq]; omega
        go_wp2_with fail
        go_meet
        exact ⟨true, p, rfl, fun _ => z2, by omega, k1, g1, hr1, o1, o2⟩
    · have y2 : ¬ (0 : Int) < L2.length := by omega
      go_wp2_with fail
      go_meet
      exact ⟨false, p, rfl, (fun e => by cases e), by omega, k1, g1, hr1, o1, o2⟩
  case rest =>
  clear k1 g1 hr1 o1 o2
  obtain ⟨b, p1, rfl, hb, hp1, k1, g1, hr1, o1, o2⟩ := hcut
  cases b
  · clear hb
    by_cases z1 : L1.length = 0
    · have y1 : ((L1.length : Int) == 0) = true := by rw [beq_iff_eq]; omega
      have c0 : wc.cell? ⟨w.heap.size, 0, none⟩ = some (.string ⟨#[]⟩) := k1.cell 0
      have c1 : wc.cell? ⟨w.heap.size, 1, none⟩ = some (.int .i64 0) := k1.cell 1
      have c2 : wc.cell? ⟨w.heap.size, 2, none⟩ = some (.int .i64 0) := k1.cell 2
      have cf := k1.frozen
      obtain ⟨F1, F2⟩ := res_fin k1 hr1 hR g1 (.string ⟨#[116, 97, 107, 101]⟩) (.int .i64 0) (.int .i64 0)
      go_wp2_with fail
      exact bodyPost_ret (v := .agg #[.string ⟨#[116, 97, 107, 101]⟩, .int .i64 0, .int .i64 0]) (by simp [results, Tryd.results33, go_sem, c0, c1, c2]) rfl ⟨⟨#[116, 97, 107, 101]⟩, 0, 0, _, rfl, by decide, F1, by omega, F2⟩
    · have y1 : ((L1.length : Int) == 0) = false := by rw [beq_eq_false_iff_ne]; omega
      have hlit := lit_strs wc (R + 1) putsL (by have := hr1.blk.lt; omega) (by decide)
      go_wp2_with fail
      refine (of_any R B c A l p1 _ _ putsL _ (hr1.alloc _) (by omega) hlit (by decide) (by decide)).mono ?_
      rintro e w2 ⟨a, ha, rfl, h2, hg2⟩
      have ha10 := putsL_size a ha
      have G2 := grownBy_trans g1 (grownBy_trans (World.grownBy_alloc wc _ _) hg2)
      have K2 := (k1.alloc (.cells (putsL.map Value.string).toArray 9)).grown hg2 (fun e => by injection e with e; omega)
      have O2 := own_kept_R (o1.alloc _) hg2
      clear hlit hg2 g1 k1 hr1 o1 o2 ha
      go_wp2_with fail
      refine (pick_any R B c A l (p1 + 1) L1.length w2 h2 (by omega) (by omega) (by omega)).mono ?_
      rintro e w3 ⟨v, v0, v1, rfl, h3, hg3⟩
      have G3 := grownBy_trans G2 hg3
      have K3 := K2.grown hg3 (fun e => by injection e with e; omega)
      obtain ⟨ad, hA, hbl, hc⟩ := (RI.of_own (own_kept_R O2 hg3)).at_ (k := v.toNat) (by omega)
      obtain ⟨x, hx⟩ : ∃ x, L1[v.toNat]'(by omega) = x := ⟨_, rfl⟩
      rw [hx] at hc
      subst hA
      clear hx G2 K2 O2 hg3 h2
      have K4 := K3.alloc (.cells #[.string a, .int .i64 x, .int .i64 0] 67)
      have h4 := h3.alloc (.cells #[.string a, .int .i64 x, .int .i64 0] 67)
      have G4 := grownBy_trans G3 (World.grownBy_alloc w3 (.cells #[.string a, .int .i64 x, .int .i64 0] 67) (some R))
      have D4 := Blk.new w3 67 #[.string a, .int .i64 x, .int .i64 0]
      have hZ := G3.size
      have hR3 := h3.blk.lt
      have hKD : w.heap.size < w3.heap.size := K3.lt
      have d0 : (w3.alloc (.cells #[.string a, .int .i64 x, .int .i64 0] 67)).cell? ⟨w3.heap.size, 0, none⟩ = some (.string a) := D4.cell 0
      go_upto_if 49 with fail
      clear d0 hc
      generalize w3.alloc (.cells #[.string a, .int .i64 x, .int .i64 0] 67) = wD at K4 h4 G4 D4 ⊢
      obtain ⟨D, hD⟩ : ∃ D, w3.heap.size = D := ⟨_, rfl⟩
      rw [hD] at D4 hZ hR3 hKD ⊢
      clear hD K3 G3 h3
      go_cut [7] (fun s7 wx => s7 = .pointer (some ⟨D, 0, none⟩) ∧ ∃ (y p' : Int), p' ≤ p + 4 ∧ Blk wx w.heap.size 67 #[.string ⟨#[]⟩, .int .i64 0, .int .i64 0] ∧ Blk wx D 67 #[.string a, .int .i64 x, .int .i64 y] ∧ w.grownBy wx (some R) ∧ Rdr wx R B A c l p')
      case first =>
        cases hput : a.toList == [112, 117, 116]
        · go_wp2_with fail
          go_meet
          exact ⟨rfl, 0, _, by omega, K4, D4, G4, h4⟩
        · go_wp2_with fail
          refine (pick_any R B c A l (p1 + 1 + 1) 10 wD h4 (by omega) (by omega) (by omega)).mono ?_
          rintro e w5 ⟨u, u0, u1, rfl, h5, hg5⟩
          have K5 := K4.grown hg5 (fun e => by injection e with e; omega)
          have D5 := D4.grown hg5 (fun e => by injection e with e; omega)
          have G5 := grownBy_trans G4 hg5
          have d2 : w5.cell? ⟨D, 2, none⟩ = some (.int .i64 0) := D5.cell 2
          have df := D5.frozen
          go_wp2_with fail
          go_meet
          exact ⟨rfl, u, _, by omega, K5.far (p := ⟨D, 2, none⟩) (by show w.heap.size ≠ D; omega) _, D5.set_ 2 (.int .i64 u), grownBy_new G5 (only_setCell_ (World.grownBy.refl w5 _) 2 _) (fun g hg => by injection hg with hg; omega), h5.grown (only_setCell_ (World.grownBy.refl w5 (some D)) 2 (.int .i64 u)) (fun k hk => by injection hk with hk; omega)⟩
      case rest =>
      clear K4 h4 G4 D4
      obtain ⟨rfl, y, p2, hp2, K4, D4, G4, h4⟩ := hcut
      have d0 : wc.cell? ⟨D, 0, none⟩ = some (.string a) := D4.cell 0
      have d1 : wc.cell? ⟨D, 1, none⟩ = some (.int .i64 x) := D4.cell 1
      have d2 : wc.cell? ⟨D, 2, none⟩ = some (.int .i64 y) := D4.cell 2
      have c0 : wc.cell? ⟨w.heap.size, 0, none⟩ = some (.string ⟨#[]⟩) := K4.cell 0
      have c1 : wc.cell? ⟨w.heap.size, 1, none⟩ = some (.int .i64 0) := K4.cell 1
      have c2 : wc.cell? ⟨w.heap.size, 2, none⟩ = some (.int .i64 0) := K4.cell 2
      have cf := K4.frozen
      obtain ⟨F1, F2⟩ := res_fin K4 h4 hR G4 (.string a) (.int .i64 x) (.int .i64 y)
      go_wp2_with fail
      exact bodyPost_ret (v := .agg #[.string a, .int .i64 x, .int .i64 y]) (by simp [results, Tryd.results33, go_sem, c0, c1, c2]) rfl ⟨a, x, y, _, rfl, ha10, F1, by omega, F2⟩
  · have hb' := hb rfl
    clear hb
    have hlit := lit_strs wc (R + 1) takesL (by have := hr1.blk.lt; omega) (by decide)
    go_wp2_with fail
    refine (of_any R B c A l p1 _ _ takesL _ (hr1.alloc _) (by omega) hlit (by decide) (by decide)).mono ?_
    rintro e w2 ⟨a, ha, rfl, h2, hg2⟩
    have ha10 := takesL_size a ha
    have G2 := grownBy_trans g1 (grownBy_trans (World.grownBy_alloc wc _ _) hg2)
    have K2 := (k1.alloc (.cells (takesL.map Value.string).toArray 9)).grown hg2 (fun e => by injection e with e; omega)
    have O2 := own_kept_R (o2.alloc _) hg2
    clear hlit hg2 g1 k1 hr1 o1 o2 ha
    go_wp2_with fail
    refine (pick_any R B c A l (p1 + 1) L2.length w2 h2 (by omega) (by omega) (by omega)).mono ?_
    rintro e w3 ⟨v, v0, v1, rfl, h3, hg3⟩
    have G3 := grownBy_trans G2 hg3
    have K3 := K2.grown hg3 (fun e => by injection e with e; omega)
    obtain ⟨ad, hA, hbl, hc⟩ := (RI.of_own (own_kept_R O2 hg3)).at_ (k := v.toNat) (by omega)
    obtain ⟨x, hx⟩ : ∃ x, L2[v.toNat]'(by omega) = x := ⟨_, rfl⟩
    rw [hx] at hc
    subst hA
    clear hx G2 K2 O2 hg3 h2
    have c0 : w3.cell? ⟨w.heap.size, 0, none⟩ = some (.string ⟨#[]⟩) := K3.cell 0
    have c1 : w3.cell? ⟨w.heap.size, 1, none⟩ = some (.int .i64 0) := K3.cell 1
    have c2 : w3.cell? ⟨w.heap.size, 2, none⟩ = some (.int .i64 0) := K3.cell 2
    have cf := K3.frozen
    obtain ⟨F1, F2⟩ := res_fin K3 h3 hR G3 (.string a) (.int .i64 x) (.int .i64 0)
    go_wp2_with fail
    exact bodyPost_ret (v := .agg #[.string a, .int .i64 x, .int .i64 0]) (by simp [results, Tryd.results33, go_sem, c0, c1, c2]) rfl ⟨a, x, 0, _, rfl, ha10, F1, by omega, F2⟩
end Go.Proofs.YthdnhaaojicmbaaDoor
