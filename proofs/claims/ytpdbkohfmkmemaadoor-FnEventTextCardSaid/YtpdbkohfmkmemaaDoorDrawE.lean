/-
  Events that are drawn.
-/
import Derived.Test.YtpdbkohfmkmemaaDoorDrawS
import Derived.Deep.CutBlock
namespace Go.Proofs.YtpdbkohfmkmemaaDoor
open Go.RowKit
set_option linter.unusedSimpArgs false
set_option linter.unusedVariables false

/-- an event in a box of the call's own, and the reader -/
structure EBox (w0 w : World) (R B : Nat) (A : Option Addr) (c : Nat) (l : List Int) (p : Int) (D : Nat) (a : ByteArray) (x y : Int) (p' : Int) : Prop where
  res : Blk w w0.heap.size 23 #[.string ⟨#[]⟩, .int .i64 0, .int .i64 0]
  box : Blk w D 23 #[.string a, .int .i64 x, .int .i64 y]
  hD : w0.heap.size < D
  ha : a.size ≤ 10
  hx : isI x
  hy : isI y
  rdr : Rdr w R B A c l p'
  hp : p' ≤ p
  grown : w0.grownBy w (some R)
  hR : R < w0.heap.size
theorem EBox.set_ {w0 w : World} {R B : Nat} {A : Option Addr} {c : Nat} {l : List Int} {p : Int} {D : Nat} {a : ByteArray} {x y : Int} {p' : Int} (h : EBox w0 w R B A c l p D a x y p') (i : Nat) (v : Value) (a' : ByteArray) (x' y' : Int)
    (e : (#[.string a, .int .i64 x, .int .i64 y] : Array Value).setIfInBounds i v = #[.string a', .int .i64 x', .int .i64 y']) (ha : a'.size ≤ 10) (hx : isI x') (hy : isI y') : EBox w0 (w.setCell ⟨D, i, none⟩ v) R B A c l p D a' x' y' p' := by
  have hR := h.hR
  have hD := h.hD
  have hg := grownBy_new (a := w0) (row := some R) (row' := some D) h.grown (only_setCell_ (World.grownBy.refl w _) i v) (fun g hg => by injection hg with hg; omega)
  refine ⟨h.res.far (by show w0.heap.size ≠ D; omega) _, by rw [← e]; exact h.box.set_ i v, h.hD, ha, hx, hy, ?_, h.hp, hg, hR⟩
  exact h.rdr.grown (row := some D) (only_setCell_ (World.grownBy.refl w _) i v) (fun k hk => by injection hk with hk; omega)
theorem EBox.picked {w0 w w' : World} {R B : Nat} {A : Option Addr} {c : Nat} {l : List Int} {p : Int} {D : Nat} {a : ByteArray} {x y : Int} {p' p2 : Int} (h : EBox w0 w R B A c l p D a x y p') (hg : w.grownBy w' (some R)) (hr : Rdr w' R B A c l p2) (hp : p2 ≤ p + 1) : EBox w0 w' R B A c l (p + 1) D a x y p2 := by
  have hR := h.hR
  have hD := h.hD
  exact ⟨h.res.grown hg (fun e => by injection e with e; omega), h.box.grown hg (fun e => by injection e with e; omega), h.hD, h.ha, h.hx, h.hy, hr, hp, grownBy_trans h.grown hg, hR⟩
theorem EBox.fin {w0 w : World} {R B : Nat} {A : Option Addr} {c : Nat} {l : List Int} {p : Int} {D : Nat} {a : ByteArray} {x y : Int} {p' : Int} (h : EBox w0 w R B A c l p D a x y p') (v0 v1 v2 : Value) :
    Rdr (((w.setCell ⟨w0.heap.size, 0, none⟩ v0).setCell ⟨w0.heap.size, 1, none⟩ v1).setCell ⟨w0.heap.size, 2, none⟩ v2) R B A c l p' ∧ w0.grownBy (((w.setCell ⟨w0.heap.size, 0, none⟩ v0).setCell ⟨w0.heap.size, 1, none⟩ v1).setCell ⟨w0.heap.size, 2, none⟩ v2) (some R) := by
  have hR := h.hR
  have hg : w.grownBy (((w.setCell ⟨w0.heap.size, 0, none⟩ v0).setCell ⟨w0.heap.size, 1, none⟩ v1).setCell ⟨w0.heap.size, 2, none⟩ v2) (some w0.heap.size) := only_setCell_ (only_setCell_ (only_setCell_ (World.grownBy.refl w _) 0 v0) 1 v1) 2 v2
  exact ⟨h.rdr.grown hg (fun k hk => by injection hk with hk; omega), grownBy_new h.grown hg (fun g hg => by injection hg with hg; omega)⟩

/-- what the drawing of an event leaves -/
def DrawnEvent (w : World) (R B : Nat) (A : Option Addr) (c : Nat) (l : List Int) (p : Int) (e : Ending) (w' : World) : Prop :=
  ∃ (a : ByteArray) (x y p' : Int), e = .returned (.agg #[.string a, .int .i64 x, .int .i64 y]) ∧ a.size ≤ 10 ∧ isI x ∧ isI y ∧ Rdr w' R B A c l p' ∧ p' ≤ p + 20 ∧ w.grownBy w' (some R)
def kindsL : List ByteArray := [⟨#[114, 105, 110, 103]⟩, ⟨#[114, 105, 110, 103]⟩, ⟨#[114, 105, 110, 103]⟩, ⟨#[97, 110, 115, 119, 101, 114]⟩, ⟨#[97, 110, 115, 119, 101, 114]⟩, ⟨#[104, 97, 110, 103]⟩, ⟨#[119, 97, 105, 116]⟩, ⟨#[114, 101, 116, 117, 114, 110]⟩]
theorem kindsL_size : ∀ a ∈ kindsL, a.size ≤ 10 := by decide
set_option maxHeartbeats 4000000 in
theorem l6One_any (R B c : Nat) (A : Option Addr) (l : List Int) (p : Int) (w : World) (h : Rdr w R B A c l p) (hp : p < 10000) :
    Calls Tryd.prog 24 #[.pointer (some ⟨R, 0, none⟩)] w (DrawnEvent w R B A c l p) := by
  have hR := h.blk.lt
  have k1 := Blk.new w 23 #[.string ⟨#[]⟩, .int .i64 0, .int .i64 0]
  have g1 : w.grownBy (w.alloc (.cells #[.string ⟨#[]⟩, .int .i64 0, .int .i64 0] 23)) (some R) := World.grownBy_alloc w _ _
  have hr1 := h.alloc (.cells #[.string ⟨#[]⟩, .int .i64 0, .int .i64 0] 23)
  have hz : (w.alloc (.cells #[.string ⟨#[]⟩, .int .i64 0, .int .i64 0] 23)).heap.size = w.heap.size + 1 := World.size_alloc _ _
  go_enter Tryd.func24, Tryd.ntmps24
  go_wp2_with fail
  generalize w.alloc (.cells #[.string ⟨#[]⟩, .int .i64 0, .int .i64 0] 23) = wA at k1 g1 hr1 hz ⊢
  have hlit := lit_strs wA (R + 1) kindsL (by omega) (by decide)
  rw [hz] at hlit
  refine (of_any R B c A l p _ _ kindsL _ (hr1.alloc _) (by omega) hlit (by decide) (by decide)).mono ?_
  rintro e w1 ⟨a, ha, rfl, h1, hg1⟩
  have ha10 := kindsL_size a ha
  have G1 := grownBy_trans (grownBy_trans g1 (World.grownBy_alloc wA _ _)) hg1
  have K1 := (k1.alloc (.cells (kindsL.map Value.string).toArray 9)).grown hg1 (fun e => by injection e with e; omega)
  have Z1 : w.heap.size + 1 ≤ w1.heap.size := by have := hg1.size; simp at this; omega
  clear hlit hg1 g1 k1 hr1 ha hz
  have hbox : EBox w (w1.alloc (.cells #[.string a, .int .i64 0, .int .i64 0] 23)) R B A c l (p + 2) w1.heap.size a 0 0 (p + 1) :=
    ⟨K1.alloc _, Blk.new w1 _ _, by omega, ha10, ⟨by omega, by omega⟩, ⟨by omega, by omega⟩, h1.alloc _, by omega, grownBy_trans G1 (World.grownBy_alloc w1 _ _), hR⟩
  clear K1 h1 G1 ha10
  have d0 : (w1.alloc (.cells #[.string a, .int .i64 0, .int .i64 0] 23)).cell? ⟨w1.heap.size, 0, none⟩ = some (.string a) := hbox.box.cell 0
  have df := hbox.box.frozen
  go_upto_block 0 with fail
  clear d0 df
  go_cut [3] (fun s3 wx => ∃ D a x y p', s3 = .pointer (some ⟨D, 0, none⟩) ∧ EBox w wx R B A c l (p + 4) D a x y p')
  case first =>
    generalize w1.alloc (.cells #[.string a, .int .i64 0, .int .i64 0] 23) = wD at hbox ⊢
    obtain ⟨D, hD⟩ : ∃ D, w1.heap.size = D := ⟨_, rfl⟩
    rw [hD] at hbox ⊢
    clear hD
    obtain ⟨z0, hz0⟩ : ∃ z : Int, (0 : Int) = z := ⟨_, rfl⟩
    rw [hz0] at hbox
    clear hz0
    have d0 : wD.cell? ⟨D, 0, none⟩ = some (.string a) := hbox.box.cell 0
    have df := hbox.box.frozen
    by_cases hring : (a.toList == [114, 105, 110, 103]) = true
    · go_wp2_with fail
      refine (pick_any R B c A l (p + 1) 6 wD hbox.rdr (by omega) (by omega) (by omega)).mono ?_
      rintro e w3 ⟨v, v0, v1, rfl, h3, hg3⟩
      have hb3 := hbox.picked hg3 h3 (by omega)
      clear hbox h3 hg3 d0 df
      have hw64 : wrap64 (1 + v) = 1 + v := by unfold wrap64; omega
      have d0 : w3.cell? ⟨D, 0, none⟩ = some (.string a) := hb3.box.cell 0
      have d1 : w3.cell? ⟨D, 1, none⟩ = some (.int .i64 z0) := hb3.box.cell 1
      have d2 : w3.cell? ⟨D, 2, none⟩ = some (.int .i64 z0) := hb3.box.cell 2
      have df := hb3.box.frozen
      have hb4 := hb3.set_ 1 (.int .i64 (1 + v)) a (1 + v) z0 rfl hb3.ha ⟨by omega, by omega⟩ hb3.hy
      go_wp2_with fail
      generalize w3.setCell ⟨D, 1, none⟩ (.int .i64 (1 + v)) = w4 at hb4 ⊢
      clear d0 d1 d2 df hb3
      refine (pick_any R B c A l (p + 1 + 1) 4 w4 hb4.rdr (by omega) (by omega) (by omega)).mono ?_
      rintro e w5 ⟨u, u0, u1, rfl, h5, hg5⟩
      have hb5 := hb4.picked hg5 h5 (by omega)
      clear hb4 h5 hg5
      have d0 : w5.cell? ⟨D, 0, none⟩ = some (.string a) := hb5.box.cell 0
      have d1 : w5.cell? ⟨D, 1, none⟩ = some (.int .i64 (1 + v)) := hb5.box.cell 1
      have d2 : w5.cell? ⟨D, 2, none⟩ = some (.int .i64 z0) := hb5.box.cell 2
      have df := hb5.box.frozen
      have hb6 := hb5.set_ 2 (.int .i64 u) a (1 + v) u rfl hb5.ha hb5.hx ⟨by omega, by omega⟩
      go_wp2_with fail
      go_meet
      exact ⟨D, a, 1 + v, u, _, rfl, { hb6 with hp := by have := hb6.hp; omega }⟩
    have nring : (a.toList == [114, 105, 110, 103]) = false := by simpa using hring
    clear hring
    by_cases hhang : (a.toList == [104, 97, 110, 103]) = true
    · go_wp2_with fail
      refine (pick_any R B c A l (p + 1) 6 wD hbox.rdr (by omega) (by omega) (by omega)).mono ?_
      rintro e w3 ⟨v, v0, v1, rfl, h3, hg3⟩
      have hb3 := hbox.picked hg3 h3 (by omega)
      clear hbox h3 hg3 d0 df
      have hw64 : wrap64 (1 + v) = 1 + v := by unfold wrap64; omega
      have d0 : w3.cell? ⟨D, 0, none⟩ = some (.string a) := hb3.box.cell 0
      have d1 : w3.cell? ⟨D, 1, none⟩ = some (.int .i64 z0) := hb3.box.cell 1
      have d2 : w3.cell? ⟨D, 2, none⟩ = some (.int .i64 z0) := hb3.box.cell 2
      have df := hb3.box.frozen
      have hb4 := hb3.set_ 1 (.int .i64 (1 + v)) a (1 + v) z0 rfl hb3.ha ⟨by omega, by omega⟩ hb3.hy
      go_wp2_with fail
      go_meet
      exact ⟨D, a, 1 + v, z0, _, rfl, { hb4 with hp := by have := hb4.hp; omega }⟩
    have nhang : (a.toList == [104, 97, 110, 103]) = false := by simpa using hhang
    clear hhang
    by_cases hwait : (a.toList == [119, 97, 105, 116]) = true
    · have hRw := hbox.rdr.blk.lt
      go_wp2_with fail
      have hlit := lit_ints wD (R + 1) [1, 2, 5, 3, 60] (by omega) (by decide)
      refine (num_any R B c A l (p + 1) _ _ [1, 2, 5, 3, 60] _ (hbox.rdr.alloc _) (by omega) hlit (by decide) (by decide)).mono ?_
      rintro e w3 ⟨z, hz, rfl, h3, hg3⟩
      have hzI : isI z := by
        simp at hz
        rcases hz with rfl | rfl | rfl | rfl | rfl <;> constructor <;> omega
      have hb3 := hbox.picked (grownBy_trans (World.grownBy_alloc wD _ _) hg3) h3 (by omega)
      clear hlit hbox h3 hg3 d0 df hz hRw
      have d0 : w3.cell? ⟨D, 0, none⟩ = some (.string a) := hb3.box.cell 0
      have d1 : w3.cell? ⟨D, 1, none⟩ = some (.int .i64 z0) := hb3.box.cell 1
      have d2 : w3.cell? ⟨D, 2, none⟩ = some (.int .i64 z0) := hb3.box.cell 2
      have df := hb3.box.frozen
      have hb4 := hb3.set_ 1 (.int .i64 z) a z z0 rfl hb3.ha hzI hb3.hy
      go_wp2_with fail
      go_meet
      exact ⟨D, a, z, z0, _, rfl, { hb4 with hp := by have := hb4.hp; omega }⟩
    have nwait : (a.toList == [119, 97, 105, 116]) = false := by simpa using hwait
    clear hwait
    go_wp2_with fail
    refine (pick_any R B c A l (p + 1) 2 wD hbox.rdr (by omega) (by omega) (by omega)).mono ?_
    rintro e w3 ⟨v, v0, v1, rfl, h3, hg3⟩
    have hb3 := hbox.picked hg3 h3 (by omega)
    clear hbox h3 hg3 d0 df
    have hw64 : wrap64 (1 + v) = 1 + v := by unfold wrap64; omega
    have d0 : w3.cell? ⟨D, 0, none⟩ = some (.string a) := hb3.box.cell 0
    have d1 : w3.cell? ⟨D, 1, none⟩ = some (.int .i64 z0) := hb3.box.cell 1
    have d2 : w3.cell? ⟨D, 2, none⟩ = some (.int .i64 z0) := hb3.box.cell 2
    have df := hb3.box.frozen
    have hb4 := hb3.set_ 1 (.int .i64 (1 + v)) a (1 + v) z0 rfl hb3.ha ⟨by omega, by omega⟩ hb3.hy
    go_wp2_with fail
    go_meet
    exact ⟨D, a, 1 + v, z0, _, rfl, { hb4 with hp := by have := hb4.hp; omega }⟩
  case rest =>
    clear hbox Z1
    obtain ⟨D, a, x, y, p1, rfl, hb⟩ := hcut
    go_wp2_with fail
    refine (pick_any R B c A l p1 60 wc hb.rdr (by have := hb.hp; omega) (by omega) (by omega)).mono ?_
    rintro e w3 ⟨v, v0, v1, rfl, h3, hg3⟩
    have hb3 := hb.picked hg3 h3 (by have := hb.hp; omega)
    have hRw := h3.blk.lt
    clear hb h3 hg3
    have d0 : w3.cell? ⟨D, 0, none⟩ = some (.string a) := hb3.box.cell 0
    have d1 : w3.cell? ⟨D, 1, none⟩ = some (.int .i64 x) := hb3.box.cell 1
    have d2 : w3.cell? ⟨D, 2, none⟩ = some (.int .i64 y) := hb3.box.cell 2
    have df := hb3.box.frozen
    by_cases e0 : v = 0
    · subst e0
      go_wp2_with fail
      have hlit := lit_ints w3 (R + 1) [0, 100, -1, 61, 5] (by omega) (by decide)
      refine (num_any R B c A l (p1 + 1) _ _ [0, 100, -1, 61, 5] _ (hb3.rdr.alloc _) (by have := hb3.hp; omega) hlit (by decide) (by decide)).mono ?_
      rintro e w4 ⟨z, hz, rfl, h4, hg4⟩
      have hzI : isI z := by
        simp at hz
        rcases hz with rfl | rfl | rfl | rfl | rfl <;> constructor <;> omega
      have hb4 := hb3.picked (grownBy_trans (World.grownBy_alloc w3 _ _) hg4) h4 (by have := hb3.hp; omega)
      clear hlit hb3 h4 hg4 hz d0 d1 d2 df
      have d0 : w4.cell? ⟨D, 0, none⟩ = some (.string a) := hb4.box.cell 0
      have d1 : w4.cell? ⟨D, 1, none⟩ = some (.int .i64 x) := hb4.box.cell 1
      have d2 : w4.cell? ⟨D, 2, none⟩ = some (.int .i64 y) := hb4.box.cell 2
      have df := hb4.box.frozen
      have hb5 := hb4.set_ 1 (.int .i64 z) a z y rfl hb4.ha hzI hb4.hy
      have c0 : (w4.setCell ⟨D, 1, none⟩ (.int .i64 z)).cell? ⟨w.heap.size, 0, none⟩ = some (.string ⟨#[]⟩) := hb5.res.cell 0
      have c1 : (w4.setCell ⟨D, 1, none⟩ (.int .i64 z)).cell? ⟨w.heap.size, 1, none⟩ = some (.int .i64 0) := hb5.res.cell 1
      have c2 : (w4.setCell ⟨D, 1, none⟩ (.int .i64 z)).cell? ⟨w.heap.size, 2, none⟩ = some (.int .i64 0) := hb5.res.cell 2
      have cf := hb5.res.frozen
      obtain ⟨F1, F2⟩ := hb5.fin (.string a) (.int .i64 z) (.int .i64 y)
      have hpp := hb5.hp
      go_wp2_with fail
      exact bodyPost_ret (v := .agg #[.string a, .int .i64 z, .int .i64 y]) (by simp [results, Tryd.results24, go_sem, c0, c1, c2]) rfl ⟨a, z, y, _, rfl, hb5.ha, hb5.hx, hb5.hy, F1, by omega, F2⟩
    have n0 : (v == 0) = false := beq_eq_false_iff_ne.2 e0
    by_cases e1 : v = 1
    · subst e1
      go_wp2_with fail
      have hlit := lit_ints w3 (R + 1) [1, 10, -1] (by omega) (by decide)
      refine (num_any R B c A l (p1 + 1) _ _ [1, 10, -1] _ (hb3.rdr.alloc _) (by have := hb3.hp; omega) hlit (by decide) (by decide)).mono ?_
      rintro e w4 ⟨z, hz, rfl, h4, hg4⟩
      have hzI : isI z := by
        simp at hz
        rcases hz with rfl | rfl | rfl <;> constructor <;> omega
      have hb4 := hb3.picked (grownBy_trans (World.grownBy_alloc w3 _ _) hg4) h4 (by have := hb3.hp; omega)
      clear hlit hb3 h4 hg4 hz d0 d1 d2 df
      have d0 : w4.cell? ⟨D, 0, none⟩ = some (.string a) := hb4.box.cell 0
      have d1 : w4.cell? ⟨D, 1, none⟩ = some (.int .i64 x) := hb4.box.cell 1
      have d2 : w4.cell? ⟨D, 2, none⟩ = some (.int .i64 y) := hb4.box.cell 2
      have df := hb4.box.frozen
      have hb5 := hb4.set_ 2 (.int .i64 z) a x z rfl hb4.ha hb4.hx hzI
      have c0 : (w4.setCell ⟨D, 2, none⟩ (.int .i64 z)).cell? ⟨w.heap.size, 0, none⟩ = some (.string ⟨#[]⟩) := hb5.res.cell 0
      have c1 : (w4.setCell ⟨D, 2, none⟩ (.int .i64 z)).cell? ⟨w.heap.size, 1, none⟩ = some (.int .i64 0) := hb5.res.cell 1
      have c2 : (w4.setCell ⟨D, 2, none⟩ (.int .i64 z)).cell? ⟨w.heap.size, 2, none⟩ = some (.int .i64 0) := hb5.res.cell 2
      have cf := hb5.res.frozen
      obtain ⟨F1, F2⟩ := hb5.fin (.string a) (.int .i64 x) (.int .i64 z)
      have hpp := hb5.hp
      go_wp2_with fail
      exact bodyPost_ret (v := .agg #[.string a, .int .i64 x, .int .i64 z]) (by simp [results, Tryd.results24, go_sem, c0, c1, c2]) rfl ⟨a, x, z, _, rfl, hb5.ha, hb5.hx, hb5.hy, F1, by omega, F2⟩
    have n1 : (v == 1) = false := beq_eq_false_iff_ne.2 e1
    by_cases e2 : v = 2
    · subst e2
      go_wp2_with fail
      have hlit := lit_strs w3 (R + 1) [⟨#[]⟩, ⟨#[114, 105, 110, 103, 115]⟩, ⟨#[112, 117, 116]⟩] (by omega) (by decide)
      refine (of_any R B c A l (p1 + 1) _ _ [⟨#[]⟩, ⟨#[114, 105, 110, 103, 115]⟩, ⟨#[112, 117, 116]⟩] _ (hb3.rdr.alloc _) (by have := hb3.hp; omega) hlit (by decide) (by decide)).mono ?_
      rintro e w4 ⟨z, hz, rfl, h4, hg4⟩
      have hzI : z.size ≤ 10 := by
        simp at hz
        rcases hz with rfl | rfl | rfl <;> decide
      have hb4 := hb3.picked (grownBy_trans (World.grownBy_alloc w3 _ _) hg4) h4 (by have := hb3.hp; omega)
      clear hlit hb3 h4 hg4 hz d0 d1 d2 df
      have d0 : w4.cell? ⟨D, 0, none⟩ = some (.string a) := hb4.box.cell 0
      have d1 : w4.cell? ⟨D, 1, none⟩ = some (.int .i64 x) := hb4.box.cell 1
      have d2 : w4.cell? ⟨D, 2, none⟩ = some (.int .i64 y) := hb4.box.cell 2
      have df := hb4.box.frozen
      have hb5 := hb4.set_ 0 (.string z) z x y rfl hzI hb4.hx hb4.hy
      have c0 : (w4.setCell ⟨D, 0, none⟩ (.string z)).cell? ⟨w.heap.size, 0, none⟩ = some (.string ⟨#[]⟩) := hb5.res.cell 0
      have c1 : (w4.setCell ⟨D, 0, none⟩ (.string z)).cell? ⟨w.heap.size, 1, none⟩ = some (.int .i64 0) := hb5.res.cell 1
      have c2 : (w4.setCell ⟨D, 0, none⟩ (.string z)).cell? ⟨w.heap.size, 2, none⟩ = some (.int .i64 0) := hb5.res.cell 2
      have cf := hb5.res.frozen
      obtain ⟨F1, F2⟩ := hb5.fin (.string z) (.int .i64 x) (.int .i64 y)
      have hpp := hb5.hp
      go_wp2_with fail
      exact bodyPost_ret (v := .agg #[.string z, .int .i64 x, .int .i64 y]) (by simp [results, Tryd.results24, go_sem, c0, c1, c2]) rfl ⟨z, x, y, _, rfl, hb5.ha, hb5.hx, hb5.hy, F1, by omega, F2⟩
    have n2 : (v == 2) = false := beq_eq_false_iff_ne.2 e2
    clear e0 e1 e2
    have c0 : w3.cell? ⟨w.heap.size, 0, none⟩ = some (.string ⟨#[]⟩) := hb3.res.cell 0
    have c1 : w3.cell? ⟨w.heap.size, 1, none⟩ = some (.int .i64 0) := hb3.res.cell 1
    have c2 : w3.cell? ⟨w.heap.size, 2, none⟩ = some (.int .i64 0) := hb3.res.cell 2
    have cf := hb3.res.frozen
    obtain ⟨F1, F2⟩ := hb3.fin (.string a) (.int .i64 x) (.int .i64 y)
    have hpp := hb3.hp
    go_wp2_with fail
    exact bodyPost_ret (v := .agg #[.string a, .int .i64 x, .int .i64 y]) (by simp [results, Tryd.results24, go_sem, c0, c1, c2]) rfl ⟨a, x, y, _, rfl, hb3.ha, hb3.hx, hb3.hy, F1, by omega, F2⟩
end Go.Proofs.YtpdbkohfmkmemaaDoor
