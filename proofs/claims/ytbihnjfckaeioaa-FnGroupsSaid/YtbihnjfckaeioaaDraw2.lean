/-
  What the drawing of fields returns.
-/
import Derived.Test.YtbihnjfckaeioaaDraw
namespace Go.Proofs.Ytbihnjfckaeioaa
open Go.RowKit
set_option linter.unusedSimpArgs false
set_option linter.unusedVariables false

theorem Rdr.grown {w w' : World} {R B c : Nat} {A : Option Addr} {l : List Int} {p : Int} {row : Option Nat} (h : Rdr w R B A c l p) (hg : w.grownBy w' row) (hr : ∀ k, row = some k → R < k) : Rdr w' R B A c l p := by
  have hlt := h.blk.lt
  refine ⟨h.blk.grown hg (fun e => by have := hr _ e.symm; omega), h.rb.keep fun q hq => World.cell?_of_block (hg.block q.block (by have := h.hB; omega) (fun e => by have := hr _ e.symm; have := h.hB; omega)), h.hB, h.hl, h.hp0, h.hp⟩
theorem Rdr.below {w w' : World} {R B c : Nat} {A : Option Addr} {l : List Int} {p : Int} (h : Rdr w R B A c l p) (hb : Below w.heap.size w w') : Rdr w' R B A c l p :=
  h.grown (row := none) ⟨hb.os, hb.tape, hb.output, hb.size, fun k hk _ => hb.block k hk⟩ (fun k e => by cases e)
theorem Rdr.alloc {w : World} {R B c : Nat} {A : Option Addr} {l : List Int} {p : Int} (h : Rdr w R B A c l p) (o : Obj) : Rdr (w.alloc o) R B A c l p := h.below ((Below.refl _ _).alloc (Nat.le_refl _) o)
theorem Rdr.le {w : World} {R B c : Nat} {A : Option Addr} {l : List Int} {p p' : Int} (h : Rdr w R B A c l p) (e : p = p') : Rdr w R B A c l p' := e ▸ h
theorem grownBy_trans {a b c : World} {row : Option Nat} (h : a.grownBy b row) (k : b.grownBy c row) : a.grownBy c row :=
  ⟨k.os.trans h.os, k.tape.trans h.tape, k.output.trans h.output, Nat.le_trans h.size k.size, fun i hi hne => (k.block i (Nat.lt_of_lt_of_le hi h.size) hne).trans (h.block i hi hne)⟩
/-- a row that is new in b may be written, too -/
theorem grownBy_new {a b c : World} {row row' : Option Nat} (h : a.grownBy b row) (k : b.grownBy c row') (hn : ∀ g, row' = some g → a.heap.size ≤ g) : a.grownBy c row :=
  ⟨k.os.trans h.os, k.tape.trans h.tape, k.output.trans h.output, Nat.le_trans h.size k.size, fun i hi hne => (k.block i (Nat.lt_of_lt_of_le hi h.size) (fun e => by have := hn _ e.symm; omega)).trans (h.block i hi hne)⟩
/-- a number that is drawn -/
def Drawn (w : World) (R B : Nat) (A : Option Addr) (c : Nat) (l : List Int) (p : Int) (L : List Int) (e : Ending) (w' : World) : Prop :=
  ∃ x : Int, x ∈ L ∧ e = .returned (.int .i64 x) ∧ Rdr w' R B A c l (p + 1) ∧ w.grownBy w' (some R)
theorem num_any (R B c : Nat) (A : Option Addr) (l : List Int) (p : Int) (A' : Option Addr) (c' : Nat) (L : List Int) (w : World) (h : Rdr w R B A c l p) (hp : p < 20000) (hL : w.ownsRow (R + 1) 3 1 (.slice A' L.length c') L.length (ints L)) (n1 : 1 ≤ L.length) (n2 : L.length ≤ 1000) :
    Calls Try.prog 46 #[.pointer (some ⟨R, 0, none⟩), .slice A' L.length c'] w (Drawn w R B A c l p L) := by
  go_enter Try.func46, Try.ntmps46
  go_wp2_with fail
  refine (pick_any R B c A l p (L.length : Int) w h hp (by omega) (by omega)).mono ?_
  rintro e w1 ⟨x, x0, x1, rfl, h1, hg1⟩
  have hL1 := hL.kept hg1 (.inr (fun e => by have := (hL.lt R e).1; omega))
  obtain ⟨ad, rfl, _, hc⟩ := (RI.of_own hL1).at_ (k := x.toNat) (by omega)
  have hm : L[x.toNat]'(by omega) ∈ L := List.getElem_mem _
  generalize L[x.toNat]'(by omega) = v at hc hm
  go_wp2
  go_ret
  exact ⟨v, hm, rfl, h1, hg1⟩
/-- a list that is written out -/
theorem lit_ints (w : World) (base : Nat) (L : List Int) (hb : base ≤ w.heap.size) (hl : L.length ≤ 1000) : (w.alloc (.cells (ints L).toArray 3)).ownsRow base 3 1 (.slice (some ⟨w.heap.size, 0, none⟩) L.length L.length) L.length (ints L) :=
  ownsRow_blk (Blk.new w _ _) hb (by omega)
/-- a slice of ints that is drawn: some short list -/
def DrawnInts (w : World) (R B : Nat) (A : Option Addr) (c : Nat) (l : List Int) (p : Int) (n : Nat) (e : Ending) (w' : World) : Prop :=
  ∃ (L : List Int) (A' : Option Addr) (c' : Nat) (p' : Int), e = .returned (.slice A' L.length c') ∧ L.length ≤ n ∧ w'.ownsRow w.heap.size 3 1 (.slice A' L.length c') L.length (ints L) ∧ Rdr w' R B A c l p' ∧ p' ≤ p + 100 ∧ w.grownBy w' (some R)
set_option maxHeartbeats 1000000 in
theorem l2Field_any (R B c : Nat) (A : Option Addr) (l : List Int) (p : Int) (w : World) (h : Rdr w R B A c l p) (hp : p < 10000) :
    Calls Try.prog 29 #[.pointer (some ⟨R, 0, none⟩)] w (DrawnInts w R B A c l p 30) := by
  obtain ⟨i0, hi, hz0, hz1, hz2⟩ := info_parts int_info
  have hR := h.blk.lt
  go_enter Try.func29, Try.ntmps29
  go_wp2_with fail
  refine (pick_any R B c A l p 8 _ (h.alloc _) (by omega) (by omega) (by omega)).mono ?_
  rintro e w1 ⟨n, n0, n8, rfl, h1, hg1⟩
  have hg1' : w.grownBy w1 (some R) := grownBy_trans (World.grownBy_alloc w _ _) hg1
  have o1 := (ownsRow_empty w).kept hg1 (.inr (by simp [Value.ownBlock]; omega))
  clear h hg1
  go_wp2_with fail
  go_loopw [4, 3] (fun i v wr => ∃ (m : Nat) (L : List Int) (p' : Int), i = .int .i64 m ∧ m + L.length ≤ 7 ∧ wr.ownsRow w.heap.size 3 1 v L.length (ints L) ∧ Rdr wr R B A c l p' ∧ p' ≤ p + 1 + L.length ∧ w.grownBy wr (some R)) (fun i _ _ => (intOf i).toNat)
  case atStart =>
    obtain ⟨m, rfl⟩ := Int.eq_ofNat_of_zero_le n0
    exact ⟨m, [], p + 1, rfl, by simp; omega, by simpa [ints] using o1, h1, by simp, hg1'⟩
  case round =>
    obtain ⟨m, L, p', rfl, hm, ho, hr, hp', hg⟩ := hrel
    by_cases hlt : 0 < m
    · go_wp2_with fail
      refine (pick_any R B c A l p' 5 wr hr (by omega) (by omega) (by omega)).mono ?_
      rintro e w2 ⟨x, x0, x5, rfl, h2, hg2⟩
      have ho2 := ho.kept hg2 (.inr (fun e => by have := (ho.lt R e).1; omega))
      have hgg := grownBy_trans hg hg2
      have hs := hgg.size
      have hv : ∀ q, u3.ownBlock = some q → w.heap.size ≤ q := fun q hq => (ho2.lt q hq).1
      go_wp2_with (at_builtin; refine wpList_append_own_at _ rfl _ _ 23 rfl w.heap.size 3 i0 (.int .i64 0) 1 8 Try.underlying23 hi hz0 hz1 hz2 rfl (by decide) u3 _ _ rfl (ho2.alloc _) ⟨w2.heap.size, 0, none⟩ 1 1 [.int .i64 x] rfl rfl (cell_one_new _ _ _) (ints_oneCell .i64 [x]) ?_ ?_ ?_ ?_; (unfold maxLen; omega); omega; (simp; omega); intro v' w3 hown' hgrow hnil hloc)
      have hg3 := grownBy_new (grownBy_trans hgg (World.grownBy_alloc w2 _ _)) hgrow hv
      have hr3 := (h2.alloc _).grown hgrow (fun k hk => by have := hv k hk; omega)
      go_roundw
      case rel => exact ⟨m - 1, L ++ [x], p' + 1, by congr 1; omega, by simp; omega, by simpa [ints] using hown', hr3, by simp; omega, hg3⟩
      case measure => simp [intOf]; omega
    · obtain rfl : m = 0 := by omega
      go_wp2_with fail
      refine (pick_any R B c A l p' 30 wr hr (by omega) (by omega) (by omega)).mono ?_
      rintro e w2 ⟨x, x0, x30, rfl, h2, hg2⟩
      have ho2 := ho.kept hg2 (.inr (fun e => by have := (ho.lt R e).1; omega))
      have hgg := grownBy_trans hg hg2
      have hs := hgg.size
      have hv : ∀ q, u3.ownBlock = some q → w.heap.size ≤ q := fun q hq => (ho2.lt q hq).1
      by_cases hx0 : x = 0
      · subst hx0
        go_wp2_with fail
        have hlit := lit_ints w2 (R + 1) [7, -1, 9223372036854775807] (by have := h2.blk.lt; omega) (by decide)
        refine (num_any R B c A l (p' + 1) _ _ [7, -1, 9223372036854775807] _ (h2.alloc _) (by omega) hlit (by decide) (by decide)).mono ?_
        rintro e w3 ⟨y, _, rfl, h3, hg3⟩
        clear hlit
        have hg3' := grownBy_trans hgg (grownBy_trans (World.grownBy_alloc w2 _ _) hg3)
        have ho3 := (ho2.alloc _).kept hg3 (.inr (fun e => by have := (ho2.lt R e).1; omega))
        have hs3 := hg3'.size
        go_wp2_with (at_builtin; refine wpList_append_own_at _ rfl _ _ 23 rfl w.heap.size 3 i0 (.int .i64 0) 1 8 Try.underlying23 hi hz0 hz1 hz2 rfl (by decide) u3 _ _ rfl (ho3.alloc _) ⟨w3.heap.size, 0, none⟩ 1 1 [.int .i64 y] rfl rfl (cell_one_new _ _ _) (ints_oneCell .i64 [y]) ?_ ?_ ?_ ?_; (unfold maxLen; omega); omega; (simp; omega); intro v' w4 hown' hgrow hnil hloc)
        have hg4 := grownBy_new (grownBy_trans hg3' (World.grownBy_alloc w3 _ _)) hgrow hv
        have hr4 := (h3.alloc _).grown hgrow (fun k hk => by have := hv k hk; omega)
        obtain ⟨A', c', rfl⟩ := own_form hown'
        go_ret
        exact ⟨L ++ [y], A', c', _, by simp, by simp; omega, by simpa [ints] using hown', hr4, by omega, hg4⟩
      · have e0 : (x == 0) = false := by rw [beq_eq_false_iff_ne]; exact hx0
        by_cases hx1 : x = 1
        · subst hx1
          go_wp2_with fail
          refine (pick_any R B c A l (p' + 1) 2 w2 h2 (by omega) (by omega) (by omega)).mono ?_
          rintro e w3 ⟨y, y0, y2, rfl, h3, hg3⟩
          have hg3' := grownBy_trans hgg hg3
          obtain ⟨m, hm⟩ : ∃ m : Nat, 20 + y = (m : Int) := ⟨(20 + y).toNat, by omega⟩
          have hmk := fun W => run_makeN (P := Try.prog) 23 3 i0 _ Try.underlying23 hi hz0 hz1 rfl (by omega) m m (Nat.le_refl _) (by omega) W
          have m21 : m ≤ 21 := by omega
          clear hi hz0 hz1 hz2
          go_wp2_with fail
          go_ret
          have hrep : (ints (List.replicate m 0)).toArray = Array.replicate m (Value.int .i64 0) := by simp [ints]
          have hown := ownsRow_blk (base := w.heap.size) (l := List.replicate m 0) (by rw [hrep]; exact Blk.new w3 3 _) hg3'.size (by simp; omega)
          have hlen : (List.replicate m (0 : Int)).length = m := by simp
          exact ⟨List.replicate m 0, some ⟨w3.heap.size, 0, none⟩, m, _, by rw [hlen]; rfl, by rw [hlen]; omega, by rw [hlen] at hown ⊢; exact hown, h3.alloc _, by omega, grownBy_trans hg3' (World.grownBy_alloc w3 _ _)⟩
        · have e1 : (x == 1) = false := by rw [beq_eq_false_iff_ne]; exact hx1
          obtain ⟨A', c', rfl⟩ := own_form ho2
          go_wp2_with fail
          go_ret
          exact ⟨L, A', c', _, rfl, by omega, ho2, h2, by omega, hgg⟩
end Go.Proofs.Ytbihnjfckaeioaa
