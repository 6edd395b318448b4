/-
  Rooms that are drawn.
-/
import Derived.Test.YthdnhaaojicmbaaDoorDrawO
namespace Go.Proofs.YthdnhaaojicmbaaDoor
open Go.RowKit
set_option linter.unusedSimpArgs false
set_option linter.unusedVariables false

set_option maxHeartbeats 4000000 in
theorem l1Rooms_any (R B c : Nat) (A : Option Addr) (l : List Int) (p : Int) (w : World) (h : Rdr w R B A c l p) (hp : p < 10000) :
    Calls Tryd.prog 24 #[.pointer (some ⟨R, 0, none⟩)] w (DrawnInts w R B A c l p 9) := by
  obtain ⟨i0, hi, hz0, hz1, hz2⟩ := info_parts int_info
  have hR := h.blk.lt
  go_enter Tryd.func24, Tryd.ntmps24
  go_wp2_with fail
  refine (pick_any R B c A l p 3 _ (h.alloc _) (by omega) (by omega) (by omega)).mono ?_
  rintro e w1 ⟨n, n0, n8, rfl, h1, hg1⟩
  have hg1' : w.grownBy w1 (some R) := grownBy_trans (World.grownBy_alloc w _ _) hg1
  have o1 := (ownsRow_empty w).kept hg1 (.inr (by simp [Value.ownBlock]; omega))
  have hw64 : wrap64 (1 + n) = 1 + n := by unfold wrap64; omega
  clear h hg1
  go_wp2_with fail
  go_loopw [4, 3] (fun i v wr => ∃ (m : Nat) (L : List Int) (p' : Int), i = .int .i64 m ∧ m + L.length ≤ 3 ∧ wr.ownsRow w.heap.size 3 1 v L.length (ints L) ∧ Rdr wr R B A c l p' ∧ p' ≤ p + 1 + L.length ∧ w.grownBy wr (some R)) (fun i _ _ => (intOf i).toNat)
  case atStart =>
    obtain ⟨m, rfl⟩ := Int.eq_ofNat_of_zero_le n0
    exact ⟨1 + m, [], p + 1, by congr 1, by simp; omega, by simpa [ints] using o1, h1, by simp, hg1'⟩
  case round =>
    clear o1 h1 hg1' hw64
    obtain ⟨m, L, p', rfl, hm, ho, hr, hp', hg⟩ := hrel
    by_cases hlt : 0 < m
    · go_wp2_with fail
      have hlit := lit_ints wr (R + 1) [1, 2, 0, 3, 8] (by have := hr.blk.lt; omega) (by decide)
      refine (num_any R B c A l p' _ _ [1, 2, 0, 3, 8] _ (hr.alloc _) (by omega) hlit (by decide) (by decide)).mono ?_
      rintro e w2 ⟨x, _, rfl, h2, hg2⟩
      have ho2 := (ho.alloc _).kept hg2 (.inr (fun e => by have := (ho.lt R e).1; omega))
      have hgg := grownBy_trans hg (grownBy_trans (World.grownBy_alloc wr _ _) hg2)
      have hs := hgg.size
      have hv : ∀ q, u3.ownBlock = some q → w.heap.size ≤ q := fun q hq => (ho2.lt q hq).1
      clear hlit ho hr hg hg2
      go_wp2_with (at_builtin; refine wpList_append_own_at _ rfl _ _ 22 rfl w.heap.size 3 i0 (.int .i64 0) 1 8 Tryd.underlying22 hi hz0 hz1 hz2 rfl (by decide) u3 _ _ rfl (ho2.alloc _) ⟨w2.heap.size, 0, none⟩ 1 1 [.int .i64 x] rfl rfl (cell_one_new _ _ _) (ints_oneCell .i64 [x]) ?_ ?_ ?_ ?_; (unfold maxLen; omega); omega; (simp; omega); intro v' w3 hown' hgrow hnil hloc)
      have hg3 := grownBy_new (grownBy_trans hgg (World.grownBy_alloc w2 _ _)) hgrow hv
      have hr3 := (h2.alloc _).grown hgrow (fun k hk => by have := hv k hk; omega)
      go_roundw
      case rel =>
        exact ⟨m - 1, L ++ [x], p' + 1, by rw [show ((m - 1 : Nat) : Int) = (m : Int) - 1 by omega], by simp; omega, by simpa [ints] using hown', hr3, by simp; omega, hg3⟩
      case measure => simp [intOf]; omega
    · obtain rfl : m = 0 := by omega
      go_wp2_with fail
      refine (pick_any R B c A l p' 30 wr hr (by omega) (by omega) (by omega)).mono ?_
      rintro e w2 ⟨x, x0, x30, rfl, h2, hg2⟩
      have ho2 := ho.kept hg2 (.inr (fun e => by have := (ho.lt R e).1; omega))
      have hgg := grownBy_trans hg hg2
      have hs := hgg.size
      have hv : ∀ q, u3.ownBlock = some q → w.heap.size ≤ q := fun q hq => (ho2.lt q hq).1
      by_cases hx0 : x = 0
      · subst hx0
        go_wp2_with fail
        go_ret
        exact ⟨[], _, _, _, rfl, by simp, own_mono (ownsRow_empty w2) hs, h2.alloc _, by omega, grownBy_trans hgg (World.grownBy_alloc w2 _ _)⟩
      · have e0 : (x == 0) = false := by rw [beq_eq_false_iff_ne]; exact hx0
        by_cases hx1 : x = 1
        · subst hx1
          go_wp2_with fail
          have hlit := lit_ints w2 (R + 1) [9, -1, 9223372036854775807] (by have := h2.blk.lt; omega) (by decide)
          refine (num_any R B c A l (p' + 1) _ _ [9, -1, 9223372036854775807] _ (h2.alloc _) (by omega) hlit (by decide) (by decide)).mono ?_
          rintro e w3 ⟨y, _, rfl, h3, hg3⟩
          clear hlit
          have hg3' := grownBy_trans hgg (grownBy_trans (World.grownBy_alloc w2 _ _) hg3)
          have ho3 := (ho2.alloc _).kept hg3 (.inr (fun e => by have := (ho2.lt R e).1; omega))
          have hs3 := hg3'.size
          go_wp2_with (at_builtin; refine wpList_append_own_at _ rfl _ _ 22 rfl w.heap.size 3 i0 (.int .i64 0) 1 8 Tryd.underlying22 hi hz0 hz1 hz2 rfl (by decide) u3 _ _ rfl (ho3.alloc _) ⟨w3.heap.size, 0, none⟩ 1 1 [.int .i64 y] rfl rfl (cell_one_new _ _ _) (ints_oneCell .i64 [y]) ?_ ?_ ?_ ?_; (unfold maxLen; omega); omega; (simp; omega); intro v' w4 hown' hgrow hnil hloc)
          have hg4 := grownBy_new (grownBy_trans hg3' (World.grownBy_alloc w3 _ _)) hgrow hv
          have hr4 := (h3.alloc _).grown hgrow (fun k hk => by have := hv k hk; omega)
          obtain ⟨A', c', rfl⟩ := own_form hown'
          go_ret
          exact ⟨L ++ [y], A', c', _, by simp, by simp; omega, by simpa [ints] using hown', hr4, by omega, hg4⟩
        · have e1 : (x == 1) = false := by rw [beq_eq_false_iff_ne]; exact hx1
          by_cases hx2 : x = 2
          · subst hx2
            have hnew : Reads (w2.alloc (.cells #[.int .i64 1, .int .i64 1, .int .i64 1, .int .i64 1, .int .i64 1, .int .i64 1] 3)) (w2.alloc (.cells #[.int .i64 1, .int .i64 1, .int .i64 1, .int .i64 1, .int .i64 1, .int .i64 1] 3)).heap.size 1 (some ⟨w2.heap.size, 0, none⟩) 6 (ints [1, 1, 1, 1, 1, 1]) := Reads.of_own (lit_ints w2 0 [1, 1, 1, 1, 1, 1] (by omega) (by decide))
            go_wp2_with (at_builtin; refine wpList_append_any _ rfl _ _ 22 rfl w.heap.size 3 i0 (.int .i64 0) 1 8 Tryd.underlying22 hi hz0 hz1 hz2 rfl (by decide) u3 _ _ rfl (ho2.alloc _) _ (some ⟨w2.heap.size, 0, none⟩) 6 6 (ints [1, 1, 1, 1, 1, 1]) rfl hnew (ints_oneCell .i64 [1, 1, 1, 1, 1, 1]) ?_ ?_ ?_ ?_; (unfold maxLen; omega); omega; (simp; omega); intro v' w4 hown' hgrow hloc)
            have hg4 := grownBy_new (grownBy_trans hgg (World.grownBy_alloc w2 _ _)) hgrow hv
            have hr4 := (h2.alloc _).grown hgrow (fun k hk => by have := hv k hk; omega)
            obtain ⟨A', c', rfl⟩ := own_form hown'
            go_ret
            exact ⟨L ++ [1, 1, 1, 1, 1, 1], A', c', _, by simp, by simp; omega, by simpa [ints] using hown', hr4, by omega, hg4⟩
          have e2 : (x == 2) = false := by rw [beq_eq_false_iff_ne]; exact hx2
          obtain ⟨A', c', rfl⟩ := own_form ho2
          go_wp2_with fail
          go_ret
          exact ⟨L, A', c', _, rfl, by omega, ho2, h2, by omega, hgg⟩
end Go.Proofs.YthdnhaaojicmbaaDoor
