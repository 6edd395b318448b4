/-
  Deeds that are drawn.
-/
import Derived.Test.YtjcdmabkhmohgaaDoorDrawS
namespace Go.Proofs.YtjcdmabkhmohgaaDoor
open Go.RowKit
set_option linter.unusedSimpArgs false
set_option linter.unusedVariables false

/-- what the drawing of a deed leaves -/
def DrawnDeed (w : World) (R B : Nat) (A : Option Addr) (c : Nat) (l : List Int) (p : Int) (e : Ending) (w' : World) : Prop :=
  ∃ (a : ByteArray) (x y p' : Int), e = .returned (.agg #[.string a, .int .i64 x, .int .i64 y]) ∧ a.size ≤ 10 ∧ isI x ∧ isI y ∧ Rdr w' R B A c l p' ∧ p' ≤ p + 20 ∧ w.grownBy w' (some R)
def actsL : List ByteArray := [⟨#[112, 117, 116]⟩, ⟨#[112, 117, 116]⟩, ⟨#[116, 97, 107, 101]⟩, ⟨#[116, 97, 107, 101]⟩, ⟨#[101, 110, 100]⟩, ⟨#[108, 111, 111, 107]⟩]
theorem actsL_size : ∀ a ∈ actsL, a.size ≤ 10 := by decide
set_option maxHeartbeats 4000000 in
theorem l1One_any (R B c : Nat) (A : Option Addr) (l : List Int) (p lines : Int) (w : World) (h : Rdr w R B A c l p) (hp : p < 10000) (hn0 : 0 ≤ lines) (hn1 : lines ≤ 100) :
    Calls Tryd.prog 18 #[.pointer (some ⟨R, 0, none⟩), .int .i64 lines] w (DrawnDeed w R B A c l p) := by
  have hR := h.blk.lt
  have k1 := Blk.new w 24 #[.string ⟨#[]⟩, .int .i64 0, .int .i64 0]
  have g1 : w.grownBy (w.alloc (.cells #[.string ⟨#[]⟩, .int .i64 0, .int .i64 0] 24)) (some R) := World.grownBy_alloc w _ _
  have hr1 := h.alloc (.cells #[.string ⟨#[]⟩, .int .i64 0, .int .i64 0] 24)
  have hz : (w.alloc (.cells #[.string ⟨#[]⟩, .int .i64 0, .int .i64 0] 24)).heap.size = w.heap.size + 1 := World.size_alloc _ _
  obtain ⟨M, hM, M1, M2⟩ : ∃ M : Int, max lines 1 = M ∧ 1 ≤ M ∧ M ≤ 100 := ⟨max lines 1, rfl, by omega, by omega⟩
  go_enter Tryd.func18, Tryd.ntmps18
  go_wp2_with fail
  generalize w.alloc (.cells #[.string ⟨#[]⟩, .int .i64 0, .int .i64 0] 24) = wA at k1 g1 hr1 hz ⊢
  have hlit := lit_strs wA (R + 1) actsL (by omega) (by decide)
  rw [hz] at hlit
  refine (of_any R B c A l p _ _ actsL _ (hr1.alloc _) (by omega) hlit (by decide) (by decide)).mono ?_
  rintro e w1 ⟨a, ha, rfl, h1, hg1⟩
  have ha10 := actsL_size a ha
  have G1 := grownBy_trans (grownBy_trans g1 (World.grownBy_alloc wA _ _)) hg1
  have K1 := (k1.alloc (.cells (actsL.map Value.string).toArray 9)).grown hg1 (fun e => by injection e with e; omega)
  have Z1 : w.heap.size + 1 ≤ w1.heap.size := by have := hg1.size; simp at this; omega
  clear hlit hg1 g1 k1 hr1 ha hz
  go_wp2_with fail
  refine (pick_any R B c A l (p + 1) M w1 h1 (by omega) M1 (by omega)).mono ?_
  rintro e w2 ⟨x, x0, x1, rfl, h2, hg2⟩
  have G2 := grownBy_trans G1 hg2
  have K2 := K1.grown hg2 (fun e => by injection e with e; omega)
  have Z2 : w.heap.size + 1 ≤ w2.heap.size := Nat.le_trans Z1 hg2.size
  clear G1 K1 Z1 hg2 h1
  have hbox : DBox w (w2.alloc (.cells #[.string a, .int .i64 (1 + x), .int .i64 0] 24)) R B A c l (p + 2) w2.heap.size a (1 + x) 0 (p + 1 + 1) :=
    ⟨K2.alloc _, Blk.new w2 _ _, by omega, ha10, ⟨by omega, by omega⟩, ⟨by omega, by omega⟩, h2.alloc _, by omega, grownBy_trans G2 (World.grownBy_alloc w2 _ _), hR⟩
  clear K2 h2 G2 ha10
  have hw64 : wrap64 (1 + x) = 1 + x := by unfold wrap64; omega
  go_upto_if 17 with (go_at_call 29; refine (l1Words_any a _).mono ?_; rintro e w' ⟨rfl, rfl⟩)
  go_cut [5] (fun s5 wx => ∃ D a x y p', s5 = .pointer (some ⟨D, 0, none⟩) ∧ DBox w wx R B A c l (p + 4) D a x y p')
  case first =>
    generalize w2.alloc (.cells #[.string a, .int .i64 (1 + x), .int .i64 0] 24) = wD at hbox ⊢
    obtain ⟨D, hD⟩ : ∃ D, w2.heap.size = D := ⟨_, rfl⟩
    rw [hD] at hbox ⊢
    clear hD
    cases hput : a.toList == putL
    · go_wp2_with fail
      go_meet
      exact ⟨D, a, 1 + x, 0, p + 1 + 1, rfl, { hbox with hp := by have := hbox.hp; omega }⟩
    · clear hput
      go_wp2_with fail
      refine (pick_any R B c A l (p + 1 + 1) 10 wD hbox.rdr (by omega) (by omega) (by omega)).mono ?_
      rintro e w3 ⟨v, v0, v1, rfl, h3, hg3⟩
      have hbox3 := hbox.picked hg3 h3 (by omega)
      have hRw := h3.blk.lt
      clear hbox h3 hg3
      go_wp2_with fail
      have hlit := lit_ints w3 (R + 1) [v, 0, 1000] (by omega) (by simp)
      refine (num_any R B c A l (p + 1 + 1 + 1) _ _ [v, 0, 1000] _ (hbox3.rdr.alloc _) (by omega) hlit (by simp) (by simp)).mono ?_
      rintro e w4 ⟨z, hz, rfl, h4, hg4⟩
      have hzI : isI z := by
        simp at hz
        rcases hz with rfl | rfl | rfl <;> constructor <;> omega
      have hb := hbox3.picked (grownBy_trans (World.grownBy_alloc w3 _ _) hg4) h4 (by omega)
      obtain ⟨y, hy⟩ : ∃ y : Int, (0 : Int) = y := ⟨_, rfl⟩
      rw [hy] at hb
      clear hy hlit hbox3 h4 hg4 hz
      have d0 : w4.cell? ⟨D, 0, none⟩ = some (.string a) := hb.box.cell 0
      have d1 : w4.cell? ⟨D, 1, none⟩ = some (.int .i64 (1 + x)) := hb.box.cell 1
      have d2 : w4.cell? ⟨D, 2, none⟩ = some (.int .i64 y) := hb.box.cell 2
      have df := hb.box.frozen
      go_wp2_with fail
      go_meet
      refine ⟨D, a, 1 + x, z, p + 1 + 1 + 1 + 1, rfl, ?_⟩
      have := hb.set_ 2 (.int .i64 z) a (1 + x) z rfl hb.ha hb.hx hzI
      exact { this with hp := by have := this.hp; omega }
  case rest =>
    clear hbox Z2 hw64
    obtain ⟨D, a, x, y, p1, rfl, hb⟩ := hcut
    clear x0 x1
    go_upto_region 4 with fail
    go_cut [5, 31] (fun s5 s31 wx => ∃ D a x y p' b, s5 = .pointer (some ⟨D, 0, none⟩) ∧ s31 = .bool b ∧ DBox w wx R B A c l (p + 5) D a x y p')
    case first =>
      have d0 : wc.cell? ⟨D, 0, none⟩ = some (.string a) := hb.box.cell 0
      have d1 : wc.cell? ⟨D, 1, none⟩ = some (.int .i64 x) := hb.box.cell 1
      have d2 : wc.cell? ⟨D, 2, none⟩ = some (.int .i64 y) := hb.box.cell 2
      have df := hb.box.frozen
      cases he : a.toList == [101, 110, 100]
      · go_wp2_with fail
        go_meet
        exact ⟨D, a, x, y, p1, false, rfl, rfl, { hb with hp := by have := hb.hp; omega }⟩
      · go_wp2_with fail
        refine (pick_any R B c A l p1 2 wc hb.rdr (by have := hb.hp; omega) (by omega) (by omega)).mono ?_
        rintro e w3 ⟨v, v0, v1, rfl, h3, hg3⟩
        have hb3 := hb.picked hg3 h3 (by have := hb.hp; omega)
        go_wp2_with fail
        go_meet
        exact ⟨D, a, x, y, _, _, rfl, rfl, { hb3 with hp := by have := hb3.hp; omega }⟩
    case rest =>
      clear hb
      obtain ⟨D, a, x, y, p1, b, rfl, rfl, hb⟩ := hcut
      go_upto_if 31 with fail
      go_cut [5] (fun s5 wx => ∃ D a x y p', s5 = .pointer (some ⟨D, 0, none⟩) ∧ DBox w wx R B A c l (p + 5) D a x y p')
      case first =>
        have d0 : wc.cell? ⟨D, 0, none⟩ = some (.string a) := hb.box.cell 0
        have d1 : wc.cell? ⟨D, 1, none⟩ = some (.int .i64 x) := hb.box.cell 1
        have d2 : wc.cell? ⟨D, 2, none⟩ = some (.int .i64 y) := hb.box.cell 2
        have df := hb.box.frozen
        cases b
        · go_wp2_with fail
          go_meet
          exact ⟨D, a, x, y, p1, rfl, hb⟩
        · go_wp2_with fail
          go_meet
          exact ⟨D, _, x, y, p1, rfl, hb.set_ 0 (.string ⟨#[116, 97, 107, 101]⟩) ⟨#[116, 97, 107, 101]⟩ x y rfl (by decide) hb.hx hb.hy⟩
      case rest =>
        clear hb
        obtain ⟨D, a, x, y, p1, rfl, hb⟩ := hcut
        go_wp2_with fail
        refine (pick_any R B c A l p1 40 wc hb.rdr (by have := hb.hp; omega) (by omega) (by omega)).mono ?_
        rintro e w3 ⟨v, v0, v1, rfl, h3, hg3⟩
        have hb3 := hb.picked hg3 h3 (by have := hb.hp; omega)
        have hRw := h3.blk.lt
        clear hb h3 hg3
        have d0 : w3.cell? ⟨D, 0, none⟩ = some (.string a) := hb3.box.cell 0
        have d1 : w3.cell? ⟨D, 1, none⟩ = some (.int .i64 x) := hb3.box.cell 1
        have d2 : w3.cell? ⟨D, 2, none⟩ = some (.int .i64 y) := hb3.box.cell 2
        have df := hb3.box.frozen
        by_cases e0 : v = 0
        · subst e0
          have hb5 := hb3.set_ 1 (.int .i64 0) a 0 y rfl hb3.ha ⟨by omega, by omega⟩ hb3.hy
          have c0 : (w3.setCell ⟨D, 1, none⟩ (.int .i64 0)).cell? ⟨w.heap.size, 0, none⟩ = some (.string ⟨#[]⟩) := hb5.res.cell 0
          have c1 : (w3.setCell ⟨D, 1, none⟩ (.int .i64 0)).cell? ⟨w.heap.size, 1, none⟩ = some (.int .i64 0) := hb5.res.cell 1
          have c2 : (w3.setCell ⟨D, 1, none⟩ (.int .i64 0)).cell? ⟨w.heap.size, 2, none⟩ = some (.int .i64 0) := hb5.res.cell 2
          have cf := hb5.res.frozen
          obtain ⟨F1, F2⟩ := hb5.fin (.string a) (.int .i64 0) (.int .i64 y)
          have hpp := hb5.hp
          go_wp2_with fail
          exact bodyPost_ret (v := .agg #[.string a, .int .i64 0, .int .i64 y]) (by simp [results, Tryd.results18, go_sem, c0, c1, c2]) rfl ⟨a, 0, y, _, rfl, hb5.ha, hb5.hx, hb5.hy, F1, by omega, F2⟩
        have n0 : (v == 0) = false := beq_eq_false_iff_ne.2 e0
        by_cases e1 : v = 1
        · subst e1
          have hb5 := hb3.set_ 1 (.int .i64 0) a 0 y rfl hb3.ha ⟨by omega, by omega⟩ hb3.hy
          have c0 : (w3.setCell ⟨D, 1, none⟩ (.int .i64 0)).cell? ⟨w.heap.size, 0, none⟩ = some (.string ⟨#[]⟩) := hb5.res.cell 0
          have c1 : (w3.setCell ⟨D, 1, none⟩ (.int .i64 0)).cell? ⟨w.heap.size, 1, none⟩ = some (.int .i64 0) := hb5.res.cell 1
          have c2 : (w3.setCell ⟨D, 1, none⟩ (.int .i64 0)).cell? ⟨w.heap.size, 2, none⟩ = some (.int .i64 0) := hb5.res.cell 2
          have cf := hb5.res.frozen
          obtain ⟨F1, F2⟩ := hb5.fin (.string a) (.int .i64 0) (.int .i64 y)
          have hpp := hb5.hp
          go_wp2_with fail
          exact bodyPost_ret (v := .agg #[.string a, .int .i64 0, .int .i64 y]) (by simp [results, Tryd.results18, go_sem, c0, c1, c2]) rfl ⟨a, 0, y, _, rfl, hb5.ha, hb5.hx, hb5.hy, F1, by omega, F2⟩
        have n1 : (v == 1) = false := beq_eq_false_iff_ne.2 e1
        by_cases e2 : v = 2
        · subst e2
          go_wp2_with fail
          have hlit := lit_ints w3 (R + 1) [-1, 7, 9223372036854775807] (by omega) (by simp)
          refine (num_any R B c A l (p1 + 1) _ _ [-1, 7, 9223372036854775807] _ (hb3.rdr.alloc _) (by have := hb3.hp; omega) hlit (by simp) (by simp)).mono ?_
          rintro e w4 ⟨z, hz, rfl, h4, hg4⟩
          have hzI : isI z := by
            simp at hz
            rcases hz with rfl | rfl | rfl <;> constructor <;> omega
          have hb4 := hb3.picked (grownBy_trans (World.grownBy_alloc w3 _ _) hg4) h4 (by have := hb3.hp; omega)
          clear hlit hb3 h4 hg4 hz d0 d1 d2 df
          have d0 : w4.cell? ⟨D, 0, none⟩ = some (.string a) := hb4.box.cell 0
          have d1 : w4.cell? ⟨D, 1, none⟩ = some (.int .i64 x) := hb4.box.cell 1
          have d2 : w4.cell? ⟨D, 2, none⟩ = some (.int .i64 y) := hb4.box.cell 2
          have df := hb4.box.frozen
          have hb5 := hb4.set_ 1 (.int .i64 z) a z y rfl hb4.ha hzI hb4.hy
          have c0 : (w4.setCell ⟨D, 1, none⟩ (.int .i64 z)).cell? ⟨w.heap.size, 0, none⟩ = some (.string ⟨#[]⟩) := hb5.res.cell 0
          have c1 : (w4.setCell ⟨D, 1, none⟩ (.int .i64 z)).cell? ⟨w.heap.size, 1, none⟩ = some (.int .i64 0) := hb5.res.cell 1
          have c2 : (w4.setCell ⟨D, 1, none⟩ (.int .i64 z)).cell? ⟨w.heap.size, 2, none⟩ = some (.int .i64 0) := hb5.res.cell 2
          have cf := hb5.res.frozen
          obtain ⟨F1, F2⟩ := hb5.fin (.string a) (.int .i64 z) (.int .i64 y)
          have hpp := hb5.hp
          go_wp2_with fail
          exact bodyPost_ret (v := .agg #[.string a, .int .i64 z, .int .i64 y]) (by simp [results, Tryd.results18, go_sem, c0, c1, c2]) rfl ⟨a, z, y, _, rfl, hb5.ha, hb5.hx, hb5.hy, F1, by omega, F2⟩
        have n2 : (v == 2) = false := beq_eq_false_iff_ne.2 e2
        by_cases e3 : v = 3
        · subst e3
          go_wp2_with fail
          have hlit := lit_ints w3 (R + 1) [1001, -1, 5] (by omega) (by simp)
          refine (num_any R B c A l (p1 + 1) _ _ [1001, -1, 5] _ (hb3.rdr.alloc _) (by have := hb3.hp; omega) hlit (by simp) (by simp)).mono ?_
          rintro e w4 ⟨z, hz, rfl, h4, hg4⟩
          have hzI : isI z := by
            simp at hz
            rcases hz with rfl | rfl | rfl <;> constructor <;> omega
          have hb4 := hb3.picked (grownBy_trans (World.grownBy_alloc w3 _ _) hg4) h4 (by have := hb3.hp; omega)
          clear hlit hb3 h4 hg4 hz d0 d1 d2 df
          have d0 : w4.cell? ⟨D, 0, none⟩ = some (.string a) := hb4.box.cell 0
          have d1 : w4.cell? ⟨D, 1, none⟩ = some (.int .i64 x) := hb4.box.cell 1
          have d2 : w4.cell? ⟨D, 2, none⟩ = some (.int .i64 y) := hb4.box.cell 2
          have df := hb4.box.frozen
          have hb5 := hb4.set_ 2 (.int .i64 z) a x z rfl hb4.ha hb4.hx hzI
          have c0 : (w4.setCell ⟨D, 2, none⟩ (.int .i64 z)).cell? ⟨w.heap.size, 0, none⟩ = some (.string ⟨#[]⟩) := hb5.res.cell 0
          have c1 : (w4.setCell ⟨D, 2, none⟩ (.int .i64 z)).cell? ⟨w.heap.size, 1, none⟩ = some (.int .i64 0) := hb5.res.cell 1
          have c2 : (w4.setCell ⟨D, 2, none⟩ (.int .i64 z)).cell? ⟨w.heap.size, 2, none⟩ = some (.int .i64 0) := hb5.res.cell 2
          have cf := hb5.res.frozen
          obtain ⟨F1, F2⟩ := hb5.fin (.string a) (.int .i64 x) (.int .i64 z)
          have hpp := hb5.hp
          go_wp2_with fail
          exact bodyPost_ret (v := .agg #[.string a, .int .i64 x, .int .i64 z]) (by simp [results, Tryd.results18, go_sem, c0, c1, c2]) rfl ⟨a, x, z, _, rfl, hb5.ha, hb5.hx, hb5.hy, F1, by omega, F2⟩
        have n3 : (v == 3) = false := beq_eq_false_iff_ne.2 e3
        by_cases e4 : v = 4
        · subst e4
          go_wp2_with fail
          have hlit := lit_strs w3 (R + 1) [⟨#[]⟩, ⟨#[103, 105, 118, 101]⟩, ⟨#[80, 85, 84]⟩] (by omega) (by decide)
          refine (of_any R B c A l (p1 + 1) _ _ [⟨#[]⟩, ⟨#[103, 105, 118, 101]⟩, ⟨#[80, 85, 84]⟩] _ (hb3.rdr.alloc _) (by have := hb3.hp; omega) hlit (by decide) (by decide)).mono ?_
          rintro e w4 ⟨z, hz, rfl, h4, hg4⟩
          have hzI : z.size ≤ 10 := by
            simp at hz
            rcases hz with rfl | rfl | rfl <;> decide
          have hb4 := hb3.picked (grownBy_trans (World.grownBy_alloc w3 _ _) hg4) h4 (by have := hb3.hp; omega)
          clear hlit hb3 h4 hg4 hz d0 d1 d2 df
          have d0 : w4.cell? ⟨D, 0, none⟩ = some (.string a) := hb4.box.cell 0
          have d1 : w4.cell? ⟨D, 1, none⟩ = some (.int .i64 x) := hb4.box.cell 1
          have d2 : w4.cell? ⟨D, 2, none⟩ = some (.int .i64 y) := hb4.box.cell 2
          have df := hb4.box.frozen
          have hb5 := hb4.set_ 0 (.string z) z x y rfl hzI hb4.hx hb4.hy
          have c0 : (w4.setCell ⟨D, 0, none⟩ (.string z)).cell? ⟨w.heap.size, 0, none⟩ = some (.string ⟨#[]⟩) := hb5.res.cell 0
          have c1 : (w4.setCell ⟨D, 0, none⟩ (.string z)).cell? ⟨w.heap.size, 1, none⟩ = some (.int .i64 0) := hb5.res.cell 1
          have c2 : (w4.setCell ⟨D, 0, none⟩ (.string z)).cell? ⟨w.heap.size, 2, none⟩ = some (.int .i64 0) := hb5.res.cell 2
          have cf := hb5.res.frozen
          obtain ⟨F1, F2⟩ := hb5.fin (.string z) (.int .i64 x) (.int .i64 y)
          have hpp := hb5.hp
          go_wp2_with fail
          exact bodyPost_ret (v := .agg #[.string z, .int .i64 x, .int .i64 y]) (by simp [results, Tryd.results18, go_sem, c0, c1, c2]) rfl ⟨z, x, y, _, rfl, hb5.ha, hb5.hx, hb5.hy, F1, by omega, F2⟩
        have n4 : (v == 4) = false := beq_eq_false_iff_ne.2 e4
        clear e0 e1 e2 e3 e4
        have c0 : w3.cell? ⟨w.heap.size, 0, none⟩ = some (.string ⟨#[]⟩) := hb3.res.cell 0
        have c1 : w3.cell? ⟨w.heap.size, 1, none⟩ = some (.int .i64 0) := hb3.res.cell 1
        have c2 : w3.cell? ⟨w.heap.size, 2, none⟩ = some (.int .i64 0) := hb3.res.cell 2
        have cf := hb3.res.frozen
        obtain ⟨F1, F2⟩ := hb3.fin (.string a) (.int .i64 x) (.int .i64 y)
        have hpp := hb3.hp
        go_wp2_with fail
        exact bodyPost_ret (v := .agg #[.string a, .int .i64 x, .int .i64 y]) (by simp [results, Tryd.results18, go_sem, c0, c1, c2]) rfl ⟨a, x, y, _, rfl, hb3.ha, hb3.hx, hb3.hy, F1, by omega, F2⟩
end Go.Proofs.YtjcdmabkhmohgaaDoor
