/-
  Plans of parties that are drawn.
-/
import Derived.Test.YthdnhaaojicmbaaDoorOneP
import Derived.Deep.CutBlock
namespace Go.Proofs.YthdnhaaojicmbaaDoor
open Go.RowKit
set_option linter.unusedSimpArgs false
set_option linter.unusedVariables false

/-- no block in common -/
def Apart (v1 v2 : Value) : Prop := ∀ q, v1.ownBlock = some q → v2.ownBlock ≠ some q
theorem Apart.symm {v1 v2 : Value} (h : Apart v1 v2) : Apart v2 v1 := fun q h2 h1 => h q h1 h2
theorem Apart.loc {v1 v1' v2 : Value} {w : World} {b n sz : Nat} {e : TypeId} {xs : List Value} (h : Apart v1 v2) (hl : v1'.ownBlock = v1.ownBlock ∨ v1'.ownBlock = some w.heap.size) (h2 : w.ownsRow b e sz v2 n xs) : Apart v1' v2 := by
  intro q h1 hq
  rcases hl with e | e
  · exact h q (e.symm.trans h1) hq
  · have := (h2.lt q hq).2
    rw [e] at h1
    injection h1 with h1
    omega
theorem apart_ty {w : World} {b1 b2 n1 n2 s1 s2 : Nat} {e1 e2 : TypeId} {v1 v2 : Value} {xs1 xs2 : List Value} (h1 : w.ownsRow b1 e1 s1 v1 n1 xs1) (h2 : w.ownsRow b2 e2 s2 v2 n2 xs2) (hne : e1 ≠ e2) : Apart v1 v2 := by
  intro q hq
  rcases h1.2 with ⟨rfl, _⟩ | ⟨g', cap, cur, rfl, _, hh, _⟩
  · simp [Value.ownBlock] at hq
  · have : g' = q := by simpa [Value.ownBlock] using hq
    subst this
    exact own_blk_ne h2 (cs := cur) (t := e1) hh (fun e => hne e.symm)
theorem apart_fresh {w : World} {b n sz g : Nat} {e : TypeId} {k c : Nat} {v : Value} {xs : List Value} (h : w.ownsRow b e sz v n xs) (hg : w.heap.size ≤ g) : Apart (.slice (some ⟨g, 0, none⟩) k c) v := by
  intro q hq hv
  have e1 : g = q := by simpa [Value.ownBlock] using hq
  have := (h.lt q hv).2
  omega
/-- rows of deeds, each the call's own -/
def RowsO (w : World) (base : Nat) (Rr : List DRow) : Prop := ∀ r ∈ Rr, w.ownsRow base 67 3 (rowV r) r.2.1.length (cells3 r.2.1) ∧ r.2.1.length ≤ 13 ∧ ∀ d ∈ r.2.1, d.1.size ≤ 10
theorem RowsO.mark {w w' : World} {base : Nat} {Rr : List DRow} {row : Option Nat} (h : RowsO w base Rr) (hg : w.grownBy w' row) (hne : ∀ r ∈ Rr, ∀ k, (rowV r).ownBlock = some k → row ≠ some k) : RowsO w' base Rr :=
  fun r hr => ⟨own_mark (h r hr).1 hg (hne r hr), (h r hr).2⟩
/-- what is laid while plans are drawn -/
structure PS (w0 wr : World) (R B : Nat) (A : Option Addr) (c : Nat) (l : List Int) (p : Int) (v7 v8 v5 : Value) (Lv Le : List Int) (Rr : List DRow) : Prop where
  o7 : wr.ownsRow w0.heap.size 3 1 v7 Lv.length (ints Lv)
  o8 : wr.ownsRow w0.heap.size 3 1 v8 Le.length (ints Le)
  a78 : Apart v7 v8
  o5 : wr.ownsRow w0.heap.size 68 1 v5 Rr.length (Rr.map rowV)
  rows : RowsO wr w0.heap.size Rr
  rdr : Rdr wr R B A c l p
  hR : R < w0.heap.size
  g : w0.grownBy wr (some R)
section
variable {w0 wr w' : World} {R B : Nat} {A : Option Addr} {c : Nat} {l : List Int} {p p2 : Int} {v7 v8 v5 : Value} {Lv Le : List Int} {Rr : List DRow}
theorem PS.step (h : PS w0 wr R B A c l p v7 v8 v5 Lv Le Rr) {row : Option Nat} (hg : wr.grownBy w' row) (h7 : ∀ k, v7.ownBlock = some k → row ≠ some k) (h8 : ∀ k, v8.ownBlock = some k → row ≠ some k) (h5 : ∀ k, v5.ownBlock = some k → row ≠ some k) (hr : ∀ r ∈ Rr, ∀ k, (rowV r).ownBlock = some k → row ≠ some k) (hb : ∀ k, row = some k → w0.heap.size ≤ k) : PS w0 w' R B A c l p v7 v8 v5 Lv Le Rr :=
  ⟨own_mark h.o7 hg h7, own_mark h.o8 hg h8, h.a78, own_mark h.o5 hg h5, h.rows.mark hg hr, h.rdr.grown hg (fun k hk => by have := hb k hk; have := h.hR; omega), h.hR, grownBy_new h.g hg hb⟩
theorem PS.alloc (h : PS w0 wr R B A c l p v7 v8 v5 Lv Le Rr) (o : Obj) : PS w0 (wr.alloc o) R B A c l p v7 v8 v5 Lv Le Rr :=
  h.step (World.grownBy_alloc wr o none) (fun _ _ e => by cases e) (fun _ _ e => by cases e) (fun _ _ e => by cases e) (fun _ _ _ _ e => by cases e) (fun _ e => by cases e)
theorem PS.picked (h : PS w0 wr R B A c l p v7 v8 v5 Lv Le Rr) (hg : wr.grownBy w' (some R)) (hr : Rdr w' R B A c l p2) : PS w0 w' R B A c l p2 v7 v8 v5 Lv Le Rr := by
  have hR := h.hR
  refine ⟨own_mark h.o7 hg ?_, own_mark h.o8 hg ?_, h.a78, own_mark h.o5 hg ?_, h.rows.mark hg ?_, hr, h.hR, grownBy_trans h.g hg⟩
  · intro k hk e; injection e with e; have := (h.o7.lt k hk).1; omega
  · intro k hk e; injection e with e; have := (h.o8.lt k hk).1; omega
  · intro k hk e; injection e with e; have := (h.o5.lt k hk).1; omega
  · intro r hr k hk e; injection e with e; have := ((h.rows r hr).1.lt k hk).1; omega
/-- an int row is written that is none of the two -/
theorem PS.intRow (h : PS w0 wr R B A c l p v7 v8 v5 Lv Le Rr) {v : Value} {n : Nat} {xs : List Value} (ho : wr.ownsRow w0.heap.size 3 1 v n xs) (hg : wr.grownBy w' v.ownBlock) (a7 : Apart v v7) (a8 : Apart v v8) : PS w0 w' R B A c l p v7 v8 v5 Lv Le Rr :=
  h.step hg (fun k hk e => a7 k e hk) (fun k hk e => a8 k e hk) (fun k hk e => apart_ty ho h.o5 (by decide) k e hk) (fun r hr k hk e => apart_ty ho (h.rows r hr).1 (by decide) k e hk) (fun k hk => (ho.lt k hk).1)
/-- a row of deeds is written that is none of the rows -/
theorem PS.deedRow (h : PS w0 wr R B A c l p v7 v8 v5 Lv Le Rr) {v : Value} {n : Nat} {xs : List Value} (ho : wr.ownsRow w0.heap.size 67 3 v n xs) (hg : wr.grownBy w' v.ownBlock) (ar : ∀ r ∈ Rr, Apart v (rowV r)) : PS w0 w' R B A c l p v7 v8 v5 Lv Le Rr :=
  h.step hg (fun k hk e => apart_ty ho h.o7 (by decide) k e hk) (fun k hk e => apart_ty ho h.o8 (by decide) k e hk) (fun k hk e => apart_ty ho h.o5 (by decide) k e hk) (fun r hr k hk e => ar r hr k e hk) (fun k hk => (ho.lt k hk).1)
theorem PS.app7 (h : PS w0 wr R B A c l p v7 v8 v5 Lv Le Rr) {v' : Value} {L' : List Int} (ho : w'.ownsRow w0.heap.size 3 1 v' L'.length (ints L')) (hg : wr.grownBy w' v7.ownBlock) (hl : v'.ownBlock = v7.ownBlock ∨ v'.ownBlock = some wr.heap.size) : PS w0 w' R B A c l p v' v8 v5 L' Le Rr :=
  ⟨ho, own_mark h.o8 hg (fun k hk e => h.a78 k e hk), h.a78.loc hl h.o8, own_mark h.o5 hg (fun k hk e => apart_ty h.o7 h.o5 (by decide) k e hk), h.rows.mark hg (fun r hr k hk e => apart_ty h.o7 (h.rows r hr).1 (by decide) k e hk), h.rdr.grown hg (fun k hk => by have := (h.o7.lt k hk).1; have := h.hR; omega), h.hR, grownBy_new h.g hg (fun k hk => (h.o7.lt k hk).1)⟩
theorem PS.app8 (h : PS w0 wr R B A c l p v7 v8 v5 Lv Le Rr) {v' : Value} {L' : List Int} (ho : w'.ownsRow w0.heap.size 3 1 v' L'.length (ints L')) (hg : wr.grownBy w' v8.ownBlock) (hl : v'.ownBlock = v8.ownBlock ∨ v'.ownBlock = some wr.heap.size) : PS w0 w' R B A c l p v7 v' v5 Lv L' Rr :=
  ⟨own_mark h.o7 hg (fun k hk e => h.a78 k hk e), ho, (h.a78.symm.loc hl h.o7).symm, own_mark h.o5 hg (fun k hk e => apart_ty h.o8 h.o5 (by decide) k e hk), h.rows.mark hg (fun r hr k hk e => apart_ty h.o8 (h.rows r hr).1 (by decide) k e hk), h.rdr.grown hg (fun k hk => by have := (h.o8.lt k hk).1; have := h.hR; omega), h.hR, grownBy_new h.g hg (fun k hk => (h.o8.lt k hk).1)⟩
theorem PS.app5 (h : PS w0 wr R B A c l p v7 v8 v5 Lv Le Rr) {v' : Value} {r : DRow} (ho : w'.ownsRow w0.heap.size 68 1 v' (Rr ++ [r]).length ((Rr ++ [r]).map rowV)) (hg : wr.grownBy w' v5.ownBlock) (hr : wr.ownsRow w0.heap.size 67 3 (rowV r) r.2.1.length (cells3 r.2.1)) (h13 : r.2.1.length ≤ 13) (hd : ∀ d ∈ r.2.1, d.1.size ≤ 10) : PS w0 w' R B A c l p v7 v8 v' Lv Le (Rr ++ [r]) := by
  refine ⟨own_mark h.o7 hg (fun k hk e => apart_ty h.o5 h.o7 (by decide) k e hk), own_mark h.o8 hg (fun k hk e => apart_ty h.o5 h.o8 (by decide) k e hk), h.a78, ho, ?_, h.rdr.grown hg (fun k hk => by have := (h.o5.lt k hk).1; have := h.hR; omega), h.hR, grownBy_new h.g hg (fun k hk => (h.o5.lt k hk).1)⟩
  refine RowsO.mark (w := wr) ?_ hg ?_
  · intro x hx
    rcases List.mem_append.1 hx with hx | hx
    · exact h.rows x hx
    · obtain rfl := List.mem_singleton.1 hx
      exact ⟨hr, h13, hd⟩
  · intro x hx k hk e
    rcases List.mem_append.1 hx with hx | hx
    · exact apart_ty h.o5 (h.rows x hx).1 (by decide) k e hk
    · obtain rfl := List.mem_singleton.1 hx
      exact apart_ty h.o5 hr (by decide) k e hk
end
/-- two int rows beside the others -/
structure PT (w0 wr : World) (v7 v8 v11 v12 : Value) (Lp Lt : List Int) : Prop where
  o11 : wr.ownsRow w0.heap.size 3 1 v11 Lp.length (ints Lp)
  o12 : wr.ownsRow w0.heap.size 3 1 v12 Lt.length (ints Lt)
  ab : Apart v11 v12
  a7 : Apart v11 v7
  a8 : Apart v11 v8
  b7 : Apart v12 v7
  b8 : Apart v12 v8
theorem PT.step {w0 wr w' : World} {v7 v8 v11 v12 : Value} {Lp Lt : List Int} (h : PT w0 wr v7 v8 v11 v12 Lp Lt) {row : Option Nat} (hg : wr.grownBy w' row) (h1 : ∀ k, v11.ownBlock = some k → row ≠ some k) (h2 : ∀ k, v12.ownBlock = some k → row ≠ some k) : PT w0 w' v7 v8 v11 v12 Lp Lt :=
  ⟨own_mark h.o11 hg h1, own_mark h.o12 hg h2, h.ab, h.a7, h.a8, h.b7, h.b8⟩
theorem PT.alloc {w0 wr : World} {v7 v8 v11 v12 : Value} {Lp Lt : List Int} (h : PT w0 wr v7 v8 v11 v12 Lp Lt) (o : Obj) : PT w0 (wr.alloc o) v7 v8 v11 v12 Lp Lt :=
  h.step (World.grownBy_alloc wr o none) (fun _ _ e => by cases e) (fun _ _ e => by cases e)
theorem PT.picked {w0 wr w' : World} {R : Nat} {v7 v8 v11 v12 : Value} {Lp Lt : List Int} (h : PT w0 wr v7 v8 v11 v12 Lp Lt) (hg : wr.grownBy w' (some R)) (hR : R < w0.heap.size) : PT w0 w' v7 v8 v11 v12 Lp Lt :=
  h.step hg (fun k hk e => by injection e with e; have := (h.o11.lt k hk).1; omega) (fun k hk e => by injection e with e; have := (h.o12.lt k hk).1; omega)
theorem PT.app11 {w0 wr w' : World} {v7 v8 v11 v12 v' : Value} {Lp Lt L' L7 L8 : List Int} (h : PT w0 wr v7 v8 v11 v12 Lp Lt) (o7 : wr.ownsRow w0.heap.size 3 1 v7 L7.length (ints L7)) (o8 : wr.ownsRow w0.heap.size 3 1 v8 L8.length (ints L8)) (ho : w'.ownsRow w0.heap.size 3 1 v' L'.length (ints L')) (hg : wr.grownBy w' v11.ownBlock) (hl : v'.ownBlock = v11.ownBlock ∨ v'.ownBlock = some wr.heap.size) : PT w0 w' v7 v8 v' v12 L' Lt :=
  ⟨ho, own_mark h.o12 hg (fun k hk e => h.ab k e hk), h.ab.loc hl h.o12, h.a7.loc hl o7, h.a8.loc hl o8, h.b7, h.b8⟩
theorem PT.app12 {w0 wr w' : World} {v7 v8 v11 v12 v' : Value} {Lp Lt L' L7 L8 : List Int} (h : PT w0 wr v7 v8 v11 v12 Lp Lt) (o7 : wr.ownsRow w0.heap.size 3 1 v7 L7.length (ints L7)) (o8 : wr.ownsRow w0.heap.size 3 1 v8 L8.length (ints L8)) (ho : w'.ownsRow w0.heap.size 3 1 v' L'.length (ints L')) (hg : wr.grownBy w' v12.ownBlock) (hl : v'.ownBlock = v12.ownBlock ∨ v'.ownBlock = some wr.heap.size) : PT w0 w' v7 v8 v11 v' Lp L' :=
  ⟨own_mark h.o11 hg (fun k hk e => h.ab k hk e), ho, (h.ab.symm.loc hl h.o11).symm, h.a7, h.a8, h.b7.loc hl o7, h.b8.loc hl o8⟩
theorem ownsRow_emptyD (w : World) : (w.alloc (.cells #[] 67)).ownsRow w.heap.size 67 3 (.slice (some ⟨w.heap.size, 0, none⟩) 0 0) 0 (cells3 []) := ⟨rfl, .inr ⟨_, 0, #[], rfl, Nat.le_refl _, heap_alloc_new w _, Nat.le_refl _, by unfold maxLen; omega, rfl, rfl⟩⟩
theorem ownsRow_emptyP (w : World) : (w.alloc (.cells #[] 68)).ownsRow w.heap.size 68 1 (.slice (some ⟨w.heap.size, 0, none⟩) 0 0) 0 [] := ⟨rfl, .inr ⟨_, 0, #[], rfl, Nat.le_refl _, heap_alloc_new w _, Nat.le_refl _, by unfold maxLen; omega, rfl, rfl⟩⟩
theorem cells3_one (d : Dd) : ∀ u ∈ cells3 [d], u.oneCell' = true := by
  intro u hu
  simp [cells3, encD] at hu
  rcases hu with rfl | rfl | rfl <;> rfl
theorem new_deed (w : World) (a : ByteArray) (x y : Int) : Reads (w.alloc (.cells #[.string a, .int .i64 x, .int .i64 y] 67)) (w.alloc (.cells #[.string a, .int .i64 x, .int .i64 y] 67)).heap.size 3 (some ⟨w.heap.size, 0, none⟩) 1 (cells3 [(a, x, y)]) :=
  Blk.RD_ (l := [(a, x, y)]) (Blk.new w 67 _)
/-- plans that are drawn: some short list of short lists -/
def DrawnPlans (w : World) (R B : Nat) (A : Option Addr) (c : Nat) (l : List Int) (p : Int) (n : Nat) (e : Ending) (w' : World) : Prop :=
  ∃ (Rr : List DRow) (A' : Option Addr) (c' : Nat) (p' : Int), e = .returned (.slice A' Rr.length c') ∧ Rr.length ≤ n ∧ w'.ownsRow w.heap.size 68 1 (.slice A' Rr.length c') Rr.length (Rr.map rowV) ∧ RowsO w' w.heap.size Rr ∧ Rdr w' R B A c l p' ∧ p' ≤ p + 200 ∧ w.grownBy w' (some R)
set_option maxHeartbeats 8000000 in
theorem l3Plans_any (R B c : Nat) (A : Option Addr) (l : List Int) (p : Int) (n : Nat) (w : World) (h : Rdr w R B A c l p) (hp : p < 10000) (hn : n ≤ 6) :
    Calls Tryd.prog 26 #[.pointer (some ⟨R, 0, none⟩), .int .i64 n] w (DrawnPlans w R B A c l p 4) := by
  obtain ⟨i0, hi, hz0, hz1, hz2⟩ := info_parts int_info
  obtain ⟨j0, hjd, jz0, jz1, jz2⟩ := info_parts deed_info
  obtain ⟨q0, hq, qz0, qz1, qz2⟩ := info_parts pslice_info
  have hR := h.blk.lt
  have hr0 := h.alloc (.cells #[] 68)
  have o5 := ownsRow_emptyP w
  have hg0 : w.grownBy (w.alloc (.cells #[] 68)) (some R) := World.grownBy_alloc w _ _
  go_enter Tryd.func26, Tryd.ntmps26
  go_wp2_with fail
  generalize w.alloc (.cells #[] 68) = wA at hr0 o5 hg0 ⊢
  refine (pick_any R B c A l p 4 wA hr0 (by omega) (by omega) (by omega)).mono ?_
  rintro e w1 ⟨x, x0, x4, rfl, h1, hg1⟩
  have hw64 : wrap64 (1 + x) = 1 + x := by unfold wrap64; omega
  obtain ⟨K, hK⟩ : ∃ K : Nat, 1 + x = (K : Int) := ⟨(1 + x).toNat, by omega⟩
  have hK4 : 1 ≤ K ∧ K ≤ 4 := by omega
  have o51 := o5.kept hg1 (.inr (fun e => by have := (o5.lt R e).1; omega))
  have hg01 := grownBy_trans hg0 hg1
  have hs1 := hg01.size
  rw [hK] at hw64
  clear h hr0 o5 hg0 hg1
  have P0 : PS w ((w1.alloc (.cells #[] 3)).alloc (.cells #[] 3)) R B A c l (p + 1) (.slice (some ⟨w1.heap.size, 0, none⟩) 0 0) (.slice (some ⟨w1.heap.size + 1, 0, none⟩) 0 0) (.slice (some ⟨w.heap.size, 0, none⟩) 0 0) [] [] [] := by
    have e1 := ownsRow_empty w1
    have e2 := ownsRow_empty (w1.alloc (.cells #[] 3))
    simp only [World.size_alloc] at e2
    refine ⟨own_mono (e1.alloc _) hs1, own_mono e2 (by omega), ?_, (o51.alloc _).alloc _, (fun r hr => by cases hr), (h1.alloc _).alloc _, hR, grownBy_trans (grownBy_trans hg01 (World.grownBy_alloc _ _ _)) (World.grownBy_alloc _ _ _)⟩
    intro q hq hq2
    simp [Value.ownBlock] at hq hq2
    omega
  clear o51 hg01 h1
  go_wp2_with fail
  generalize (w1.alloc (.cells #[] 3)).alloc (.cells #[] 3) = wB at P0 ⊢
  go_loopw [9, 7, 8] (fun i v7 v8 wr => ∃ (m : Nat) (Lv Le : List Int) (p' : Int), i = .int .i64 ((m : Int) + 1) ∧ m ≤ n ∧ Lv.length = m ∧ Le.length = m ∧ p' ≤ p + 1 + 2 * m ∧ PS w wr R B A c l p' v7 v8 (.slice (some ⟨w.heap.size, 0, none⟩) 0 0) Lv Le []) (fun i _ _ _ => n + 1 - (intOf i).toNat)
  case atStart => exact ⟨0, [], [], p + 1, rfl, by omega, rfl, rfl, by omega, P0⟩
  case round =>
    clear P0
    obtain ⟨m, Lv, Le, p', rfl, hm, hLv, hLe, hp', P1⟩ := hrel
    by_cases hlt : m < n
    · have hlt' : (m : Int) + 1 ≤ (n : Int) := by omega
      go_wp2_with fail
      refine (pick_any R B c A l p' K wr P1.rdr (by omega) (by omega) (by omega)).mono ?_
      rintro e w2 ⟨y, y0, y4, rfl, h2, hg2⟩
      have P2 := (P1.picked hg2 h2).alloc (.cells #[.int .i64 y] 3)
      have hs2 := P2.g.size
      have o7 := P2.o7
      clear P1 h2 hg2
      go_wp2_with (at_builtin; refine wpList_append_own_at _ rfl _ _ 22 rfl w.heap.size 3 i0 (.int .i64 0) 1 8 Tryd.underlying22 hi hz0 hz1 hz2 rfl (by decide) u7 _ _ rfl o7 ⟨w2.heap.size, 0, none⟩ 1 1 [.int .i64 y] rfl rfl (cell_one_new _ _ _) (ints_oneCell .i64 [y]) ?_ ?_ ?_ ?_; (unfold maxLen; omega); omega; exact hs2; intro v' w3 hown' hgrow hnil hloc)
      have P3 := P2.app7 (L' := Lv ++ [y]) (by simpa [ints] using hown') hgrow hloc
      clear P2 hown' hgrow hnil hloc o7 hs2
      refine (pick_any R B c A l (p' + 1) K w3 P3.rdr (by omega) (by omega) (by omega)).mono ?_
      rintro e w4 ⟨z, z0, z4, rfl, h4, hg4⟩
      have P4 := (P3.picked hg4 h4).alloc (.cells #[.int .i64 z] 3)
      have hs4 := P4.g.size
      have o8 := P4.o8
      clear P3 h4 hg4
      go_wp2_with (at_builtin; refine wpList_append_own_at _ rfl _ _ 22 rfl w.heap.size 3 i0 (.int .i64 0) 1 8 Tryd.underlying22 hi hz0 hz1 hz2 rfl (by decide) u8 _ _ rfl o8 ⟨w4.heap.size, 0, none⟩ 1 1 [.int .i64 z] rfl rfl (cell_one_new _ _ _) (ints_oneCell .i64 [z]) ?_ ?_ ?_ ?_; (unfold maxLen; omega); omega; exact hs4; intro v8' w5 hown' hgrow hnil hloc)
      have P5 := P4.app8 (L' := Le ++ [z]) (by simpa [ints] using hown') hgrow hloc
      go_roundw
      case rel => exact ⟨m + 1, Lv ++ [y], Le ++ [z], p' + 1 + 1, by congr 1, by omega, by simp; omega, by simp; omega, by omega, P5⟩
      case measure => simp [intOf]; omega
    · obtain rfl : m = n := by omega
      have hlt' : ¬ (m : Int) + 1 ≤ (m : Int) := by omega
      go_wp2_with fail
      go_loopw [10, 5] (fun i v5 wr => ∃ (k : Nat) (Rr : List DRow) (p2 : Int), i = .int .i64 k ∧ k ≤ K ∧ Rr.length = k ∧ p2 ≤ p + 13 + 21 * k ∧ PS w wr R B A c l p2 u7 u8 v5 Lv Le Rr) (fun i _ _ => K - (intOf i).toNat)
      case atStart => exact ⟨0, [], p', rfl, by omega, rfl, by omega, P1⟩
      case round =>
        clear P1
        obtain ⟨k, Rr, p2, rfl, hk, hRr, hp2, P2⟩ := hrel
        by_cases hkK : k < K
        · have hkK' : (k : Int) < (K : Int) := by omega
          have HLv := Lib.hid hLv
          have HLe := Lib.hid hLe
          obtain ⟨A7, c7, rfl⟩ := own_form P2.o7
          obtain ⟨A8, c8, rfl⟩ := own_form P2.o8
          have P3 := (P2.alloc (.cells #[] 3)).alloc (.cells #[] 3)
          have hs2 := P2.g.size
          have T3 : PT w ((wr.alloc (.cells #[] 3)).alloc (.cells #[] 3)) (.slice A7 Lv.length c7) (.slice A8 Le.length c8) (.slice (some ⟨wr.heap.size, 0, none⟩) 0 0) (.slice (some ⟨wr.heap.size + 1, 0, none⟩) 0 0) [] [] := by
            have e1 := ownsRow_empty wr
            have e2 := ownsRow_empty (wr.alloc (.cells #[] 3))
            simp only [World.size_alloc] at e2
            refine ⟨own_mono (e1.alloc _) hs2, own_mono e2 (by omega), ?_, apart_fresh P2.o7 (Nat.le_refl _), apart_fresh P2.o8 (Nat.le_refl _), apart_fresh P2.o7 (Nat.le_succ _), apart_fresh P2.o8 (Nat.le_succ _)⟩
            intro q hq hq2
            simp [Value.ownBlock] at hq hq2
            omega
          have HRk := Lib.hid hRr
          clear P2 hLv hLe hRr
          go_upto_block 4 with fail
          generalize (wr.alloc (.cells #[] 3)).alloc (.cells #[] 3) = wC at P3 T3 ⊢
          go_cut [11, 12] (fun v11 v12 wx => ∃ Lp Lt, Lp.length ≤ 6 ∧ Lt.length ≤ 6 ∧ PT w wx (.slice A7 Lv.length c7) (.slice A8 Le.length c8) v11 v12 Lp Lt ∧ PS w wx R B A c l p2 (.slice A7 Lv.length c7) (.slice A8 Le.length c8) u5 Lv Le Rr)
          case first =>
            go_wp2_with fail
            go_loopw [13, 11, 12] (fun i v11 v12 wx => ∃ (j : Nat) (Lp Lt : List Int), i = .int .i64 ((j : Int) + 1) ∧ j ≤ m ∧ Lp.length ≤ j ∧ Lt.length ≤ j ∧ PT w wx (.slice A7 Lv.length c7) (.slice A8 Le.length c8) v11 v12 Lp Lt ∧ PS w wx R B A c l p2 (.slice A7 Lv.length c7) (.slice A8 Le.length c8) u5 Lv Le Rr) (fun i _ _ _ => m + 1 - (intOf i).toNat)
            case atStart => exact ⟨0, [], [], rfl, by omega, by simp, by simp, T3, P3⟩
            case round =>
              clear T3 P3
              obtain ⟨j, Lp, Lt, rfl, hj, hLp, hLt, T4, P4⟩ := hrel
              by_cases hjm : j < m
              · have hjm' : (j : Int) + 1 ≤ (m : Int) := by omega
                have hj7 : (j : Int) < (Lv.length : Int) := by have := HLv.out; omega
                have hj8 : (j : Int) < (Le.length : Int) := by have := HLe.out; omega
                obtain ⟨ad, hA, hbl, hc⟩ := (RI.of_own P4.o7).at_ (k := j) (by omega)
                obtain ⟨x7, hx7⟩ : ∃ x7, Lv[j]'(by omega) = x7 := ⟨_, rfl⟩
                rw [hx7] at hc
                subst hA
                clear hx7 hbl
                go_upto_if 57 with fail
                have hsz := P4.g.size
                go_cut [11] (fun v11 wx => ∃ Lp, Lp.length ≤ j + 1 ∧ PT w wx (.slice (some ad) Lv.length c7) (.slice A8 Le.length c8) v11 u12 Lp Lt ∧ PS w wx R B A c l p2 (.slice (some ad) Lv.length c7) (.slice A8 Le.length c8) u5 Lv Le Rr)
                case first =>
                  cases hb : (x7 == (k : Int))
                  · go_wp2_with fail
                    go_meet
                    exact ⟨Lp, by omega, T4, P4⟩
                  · have o11 := T4.o11
                    go_wp2_with (at_builtin; refine wpList_append_own_at _ rfl _ _ 22 rfl w.heap.size 3 i0 (.int .i64 0) 1 8 Tryd.underlying22 hi hz0 hz1 hz2 rfl (by decide) u11 _ _ rfl (o11.alloc _) ⟨wr.heap.size, 0, none⟩ 1 1 [.int .i64 ((j : Int) + 1)] rfl rfl (cell_one_new _ _ _) (ints_oneCell .i64 [(j : Int) + 1]) ?_ ?_ ?_ ?_; (unfold maxLen; omega); omega; (simp; omega); intro v' w3 hown' hgrow hnil hloc)
                    have T5 := T4.alloc (.cells #[.int .i64 ((j : Int) + 1)] 3)
                    have P5 := P4.alloc (.cells #[.int .i64 ((j : Int) + 1)] 3)
                    go_meet
                    exact ⟨Lp ++ [(j : Int) + 1], by simp; omega, T5.app11 P5.o7 P5.o8 (by simpa [ints] using hown') hgrow hloc, P5.intRow T5.o11 hgrow T5.a7 T5.a8⟩
                case rest =>
                  clear hc T4 P4 hLp hsz
                  obtain ⟨Lp, hLp, T4, P4⟩ := hcut
                  obtain ⟨ad8, hA, hbl, hc⟩ := (RI.of_own P4.o8).at_ (k := j) (by omega)
                  obtain ⟨x8, hx8⟩ : ∃ x8, Le[j]'(by omega) = x8 := ⟨_, rfl⟩
                  rw [hx8] at hc
                  subst hA
                  clear hx8 hbl
                  have hsz := P4.g.size
                  cases hb : (x8 == (k : Int))
                  · go_wp2_with fail
                    go_roundw
                    case rel => exact ⟨j + 1, Lp, Lt, by congr 1, by omega, by omega, by omega, T4, P4⟩
                    case measure => simp [intOf]; omega
                  · have o12 := T4.o12
                    go_wp2_with (at_builtin; refine wpList_append_own_at _ rfl _ _ 22 rfl w.heap.size 3 i0 (.int .i64 0) 1 8 Tryd.underlying22 hi hz0 hz1 hz2 rfl (by decide) u12 _ _ rfl (o12.alloc _) ⟨wc.heap.size, 0, none⟩ 1 1 [.int .i64 ((j : Int) + 1)] rfl rfl (cell_one_new _ _ _) (ints_oneCell .i64 [(j : Int) + 1]) ?_ ?_ ?_ ?_; (unfold maxLen; omega); omega; (simp; omega); intro v' w3 hown' hgrow hnil hloc)
                    have T5 := T4.alloc (.cells #[.int .i64 ((j : Int) + 1)] 3)
                    have P5 := P4.alloc (.cells #[.int .i64 ((j : Int) + 1)] 3)
                    go_roundw
                    case rel => exact ⟨j + 1, Lp, Lt ++ [(j : Int) + 1], by congr 1, by omega, by omega, by simp; omega, T5.app12 P5.o7 P5.o8 (by simpa [ints] using hown') hgrow hloc, P5.intRow T5.o12 hgrow T5.b7 T5.b8⟩
                    case measure => simp [intOf]; omega
              · obtain rfl : j = m := by omega
                have hjm' : ¬ (j : Int) + 1 ≤ (j : Int) := by omega
                go_wp2_with fail
                go_meet
                exact ⟨Lp, Lt, by omega, by omega, T4, P4⟩
          case rest =>
            clear T3 P3
            obtain ⟨Lp, Lt, hLp, hLt, T3, P3⟩ := hcut
            obtain ⟨A11, c11, rfl⟩ := own_form T3.o11
            obtain ⟨A12, c12, rfl⟩ := own_form T3.o12
            have P4 := P3.alloc (.cells #[] 67)
            have T4 := T3.alloc (.cells #[] 67)
            have o14 := own_mono (ownsRow_emptyD wc) P3.g.size
            have a14 : ∀ r ∈ Rr, Apart (.slice (some ⟨wc.heap.size, 0, none⟩) 0 0) (rowV r) := fun r hr => apart_fresh (P3.rows r hr).1 (Nat.le_refl _)
            have hB14 : w.heap.size ≤ wc.heap.size := P3.g.size
            clear T3 P3
            go_wp2_with fail
            generalize wc.alloc (.cells #[] 67) = wD at P4 T4 o14 ⊢
            refine (pick_any R B c A l p2 6 wD P4.rdr (by omega) (by omega) (by omega)).mono ?_
            rintro e w2 ⟨y, y0, y6, rfl, h2, hg2⟩
            have P5 := P4.picked hg2 h2
            have T5 := T4.picked hg2 hR
            have o5 := own_mark o14 hg2 (fun k hk e => by injection e with e; have := (o14.lt k hk).1; omega)
            clear P4 T4 o14 h2 hg2
            go_wp2_with fail
            go_loopw [15, 14] (fun i v14 wx => ∃ (j : Nat) (Ld : List Dd) (p3 : Int), i = .int .i64 j ∧ j + Ld.length ≤ 5 ∧ (∀ d ∈ Ld, d.1.size ≤ 10) ∧ p3 ≤ p2 + 1 + 4 * Ld.length ∧ wx.ownsRow w.heap.size 67 3 v14 Ld.length (cells3 Ld) ∧ (∀ r ∈ Rr, Apart v14 (rowV r)) ∧ PT w wx (.slice A7 Lv.length c7) (.slice A8 Le.length c8) (.slice A11 Lp.length c11) (.slice A12 Lt.length c12) Lp Lt ∧ PS w wx R B A c l p3 (.slice A7 Lv.length c7) (.slice A8 Le.length c8) u5 Lv Le Rr) (fun i _ _ => (intOf i).toNat)
            case atStart =>
              obtain ⟨y, rfl⟩ := Int.eq_ofNat_of_zero_le y0
              exact ⟨y, [], p2 + 1, rfl, by simp; omega, (fun d hd => by cases hd), by simp, o5, a14, T5, P5⟩
            case round =>
              clear P5 T5 o5 a14 y0 y6
              obtain ⟨j, Ld, p3, rfl, hj, hsz, hp3, o14, a14, T4, P4⟩ := hrel
              by_cases hj0 : 0 < j
              · have hj0' : (0 : Int) < (j : Int) := by omega
                go_wp2_with fail
                refine (l3One_any R B c A l p3 A11 A12 c11 c12 Lp Lt wr P4.rdr (by omega) (own_mono T4.o11 (by omega)) (own_mono T4.o12 (by omega)) hLp hLt).mono ?_
                rintro e w3 ⟨a, x1, x2, p4, rfl, ha10, h3, hp4, hg3⟩
                have P5 := (P4.picked hg3 h3).alloc (.cells #[.string a, .int .i64 x1, .int .i64 x2] 67)
                have T5 := (T4.picked hg3 hR).alloc (.cells #[.string a, .int .i64 x1, .int .i64 x2] 67)
                have o5 := own_mark o14 hg3 (fun k hk e => by injection e with e; have := (o14.lt k hk).1; omega)
                have hs3 := P5.g.size
                have o6 := o5.alloc (.cells #[.string a, .int .i64 x1, .int .i64 x2] 67)
                clear P4 T4 o14 h3 hg3
                go_wp2_with (at_builtin; refine wpList_append_any _ rfl _ _ 68 rfl w.heap.size 67 j0 (.agg #[.string ByteArray.empty, .int .i64 0, .int .i64 0]) 3 32 Tryd.underlying68 hjd jz0 jz1 jz2 rfl (by decide) u14 _ _ rfl o6 _ (some ⟨w3.heap.size, 0, none⟩) 1 1 (cells3 [(a, x1, x2)]) rfl (new_deed w3 a x1 x2) (cells3_one (a, x1, x2)) ?_ ?_ ?_ ?_; (unfold maxLen; omega); omega; exact hs3; intro v' w4 hown' hgrow hloc)
                have P6 := P5.deedRow o6 hgrow a14
                have T6 := T5.step hgrow (fun k hk e => apart_ty o6 T5.o11 (by decide) k e hk) (fun k hk e => apart_ty o6 T5.o12 (by decide) k e hk)
                go_roundw
                case rel =>
                  refine ⟨j - 1, Ld ++ [(a, x1, x2)], p4, by rw [show ((j - 1 : Nat) : Int) = (j : Int) - 1 by omega], by simp; omega, ?_, by simp; omega, by rw [cells3_snoc]; simpa [cells3] using hown', fun r hr => (a14 r hr).loc hloc (P5.rows r hr).1, T6, P6⟩
                  intro d hd
                  rcases List.mem_append.1 hd with hd | hd
                  · exact hsz d hd
                  · obtain rfl := List.mem_singleton.1 hd
                    exact ha10
                case measure => simp [intOf]; omega
              · obtain rfl : j = 0 := by omega
                obtain ⟨A14, c14, rfl⟩ := own_form o14
                have P5 := P4.alloc (.cells #[.slice A14 Ld.length c14] 68)
                have o15 := o14.alloc (.cells #[.slice A14 Ld.length c14] 68)
                have hs3 := P5.g.size
                have o5 := P5.o5
                go_wp2_with (at_builtin; refine wpList_append_own_at _ rfl _ _ 48 rfl w.heap.size 68 q0 (.slice none 0 0) 1 24 Tryd.underlying48 hq qz0 qz1 qz2 rfl (by decide) u5 _ _ rfl o5 ⟨wr.heap.size, 0, none⟩ 1 1 [.slice A14 Ld.length c14] rfl rfl (cell_one_new _ _ _) (fun u hu => by simp at hu; subst hu; rfl) ?_ ?_ ?_ ?_; (have := HRk.out; unfold maxLen; omega); (have := HRk.out; omega); exact hs3; intro v' w4 hown' hgrow hnil hloc)
                have P6 := P5.app5 (r := (A14, Ld, c14)) (by simpa [rowV] using hown') hgrow o15 (by show Ld.length ≤ 13; omega) hsz
                go_roundw
                case rel => exact ⟨k + 1, Rr ++ [(A14, Ld, c14)], p3, by congr 1, by omega, by have := HRk.out; simp; omega, by omega, P6⟩
                case measure => simp [intOf]; omega
        · have hkK' : ¬ (k : Int) < (K : Int) := by omega
          subst hRr
          have o5 := P2.o5
          obtain ⟨A', c', rfl⟩ := own_form o5
          go_wp2_with fail
          go_ret
          exact ⟨Rr, A', c', p2, rfl, by omega, o5, P2.rows, P2.rdr, by omega, P2.g⟩
end Go.Proofs.YthdnhaaojicmbaaDoor
