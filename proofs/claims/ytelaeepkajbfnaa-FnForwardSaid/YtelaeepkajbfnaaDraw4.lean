/-
  What the drawing of rules returns: some short list of rules; the comparison of equal lists.
-/
import Derived.Test.YtelaeepkajbfnaaDraw3
import Derived.Test.YtelaeepkajbfnaaFwdField
namespace Go.Proofs.Ytelaeepkajbfnaa
open Go.RowKit
set_option linter.unusedSimpArgs false
set_option linter.unusedVariables false

/-- a slice of rules that is drawn: some short list -/
def DrawnRules (w : World) (R B : Nat) (A : Option Addr) (c : Nat) (l : List Int) (p : Int) (e : Ending) (w' : World) : Prop :=
  ∃ (L : List (Int × Int)) (A' : Option Addr) (c' : Nat) (p' : Int), e = .returned (.slice A' L.length c') ∧ L.length ≤ 6 ∧ w'.ownsRow w.heap.size 45 2 (.slice A' L.length c') L.length (cells2 L) ∧ Rdr w' R B A c l p' ∧ p' ≤ p + 100 ∧ w.grownBy w' (some R)
theorem ownsRow_empty2 (w : World) : (w.alloc (.cells #[] 45)).ownsRow w.heap.size 45 2 (.slice (some ⟨w.heap.size, 0, none⟩) 0 0) 0 (cells2 []) := ⟨rfl, .inr ⟨_, 0, #[], rfl, Nat.le_refl _, heap_alloc_new w _, Nat.le_refl _, by unfold maxLen; omega, rfl, rfl⟩⟩
theorem cells2_one (d : Int × Int) : ∀ u ∈ cells2 [d], u.oneCell' = true := by
  intro u hu
  simp [cells2] at hu
  rcases hu with rfl | rfl <;> rfl
theorem new_rule (w : World) (a b : Int) : Reads (w.alloc (.cells #[.int .i64 a, .int .i64 b] 45)) (w.alloc (.cells #[.int .i64 a, .int .i64 b] 45)).heap.size 2 (some ⟨w.heap.size, 0, none⟩) 1 (cells2 [(a, b)]) :=
  Blk.RR_ (l := [(a, b)]) (Blk.new w 45 _)
theorem cells2_snoc (l : List (Int × Int)) (x : Int × Int) : cells2 (l ++ [x]) = cells2 l ++ cells2 [x] := by simp [cells2]
set_option maxHeartbeats 4000000 in
theorem l2Rules_any (R B c : Nat) (A : Option Addr) (l : List Int) (p : Int) (w : World) (h : Rdr w R B A c l p) (hp : p < 10000) :
    Calls Try.prog 43 #[.pointer (some ⟨R, 0, none⟩)] w (DrawnRules w R B A c l p) := by
  obtain ⟨i0, hi, hz0, hz1, hz2⟩ := info_parts rule_info
  have hR := h.blk.lt
  have hg1 : w.grownBy (w.alloc (.cells #[] 45)) (some R) := World.grownBy_alloc w _ _
  have h1 := h.alloc (.cells #[] 45)
  go_enter Try.func43, Try.ntmps43
  go_wp2_with fail
  go_loopw [4, 3] (fun i v wr => ∃ (m : Nat) (L : List (Int × Int)) (p' : Int), i = .int .i64 ((m : Int) + 1) ∧ m ≤ 5 ∧ L.length ≤ m ∧ wr.ownsRow w.heap.size 45 2 v L.length (cells2 L) ∧ Rdr wr R B A c l p' ∧ p' ≤ p + 4 * m ∧ w.grownBy wr (some R)) (fun i _ _ => 6 - (intOf i).toNat)
  case atStart => exact ⟨0, [], p, rfl, by omega, by simp, ownsRow_empty2 w, h1, by omega, hg1⟩
  case round =>
    clear h h1 hg1
    obtain ⟨m, L, p', rfl, hm, hL, ho, hr, hp', hg⟩ := hrel
    by_cases hlt : m < 5
    · go_wp2_with fail
      refine (pick_any R B c A l p' 2 wr hr (by omega) (by omega) (by omega)).mono ?_
      rintro e w2 ⟨x, x0, x2, rfl, h2, hg2⟩
      have ho2 := ho.kept hg2 (.inr (fun e => by have := (ho.lt R e).1; omega))
      have hgg := grownBy_trans hg hg2
      clear ho hr hg hg2
      by_cases hx0 : x = 0
      · subst hx0
        go_wp2_with fail
        refine (pick_any R B c A l (p' + 1) 6 w2 h2 (by omega) (by omega) (by omega)).mono ?_
        rintro e w3 ⟨a, a0, a6, rfl, h3, hg3⟩
        have ho3 := ho2.kept hg3 (.inr (fun e => by have := (ho2.lt R e).1; omega))
        have hgg3 := grownBy_trans hgg hg3
        clear ho2 h2 hg3 hgg
        go_wp2_with fail
        refine (pick_any R B c A l (p' + 1 + 1) 6 w3 h3 (by omega) (by omega) (by omega)).mono ?_
        rintro e w4 ⟨b, b0, b6, rfl, h4, hg4⟩
        have ho4 := ho3.kept hg4 (.inr (fun e => by have := (ho3.lt R e).1; omega))
        have hgg4 := grownBy_trans hgg3 hg4
        clear ho3 h3 hg4 hgg3
        go_wp2_with fail
        have hlit := lit_ints w4 (R + 1) [a, 1 + b] (by have := h4.blk.lt; omega) (by simp)
        refine (num_any R B c A l (p' + 1 + 1 + 1) _ _ [a, 1 + b] _ (h4.alloc _) (by omega) hlit (by simp) (by simp)).mono ?_
        rintro e w5 ⟨y, _, rfl, h5, hg5⟩
        clear hlit
        have hgg5 := grownBy_trans hgg4 (grownBy_trans (World.grownBy_alloc w4 _ _) hg5)
        have ho5 := (ho4.alloc _).kept hg5 (.inr (fun e => by have := (ho4.lt R e).1; omega))
        have hs5 := hgg5.size
        have hv : ∀ q, u3.ownBlock = some q → w.heap.size ≤ q := fun q hq => (ho5.lt q hq).1
        clear ho4 h4 hg5 hgg4
        go_wp2_with (at_builtin; refine wpList_append_any _ rfl _ _ 25 rfl w.heap.size 45 i0 (.agg #[.int .i64 0, .int .i64 0]) 2 16 Try.underlying25 hi hz0 hz1 hz2 rfl (by decide) u3 _ _ rfl (ho5.alloc _) _ (some ⟨w5.heap.size, 0, none⟩) 1 1 (cells2 [((m : Int) + 1, y)]) rfl (new_rule w5 ((m : Int) + 1) y) (cells2_one ((m : Int) + 1, y)) ?_ ?_ ?_ ?_; (unfold maxLen; omega); omega; (simp; omega); intro v' w6 hown' hgrow hloc)
        have hg6 := grownBy_new (grownBy_trans hgg5 (World.grownBy_alloc w5 _ _)) hgrow hv
        have hr6 := (h5.alloc _).grown hgrow (fun k hk => by have := hv k hk; omega)
        go_roundw
        case rel => exact ⟨m + 1, L ++ [((m : Int) + 1, y)], _, by congr 1, by omega, by simp; omega, by rw [cells2_snoc]; simpa using hown', hr6, by omega, hg6⟩
        case measure => simp [intOf]; omega
      · have e0 : (x == 0) = false := by rw [beq_eq_false_iff_ne]; exact hx0
        go_wp2_with fail
        go_roundw
        case rel => exact ⟨m + 1, L, p' + 1, by congr 1, by omega, by omega, ho2, h2, by omega, hgg⟩
        case measure => simp [intOf]; omega
    · obtain rfl : m = 5 := by omega
      go_wp2_with fail
      refine (pick_any R B c A l p' 24 wr hr (by omega) (by omega) (by omega)).mono ?_
      rintro e w2 ⟨x, x0, x24, rfl, h2, hg2⟩
      have ho2 := ho.kept hg2 (.inr (fun e => by have := (ho.lt R e).1; omega))
      have hgg := grownBy_trans hg hg2
      have hs2 := hgg.size
      clear ho hr hg hg2
      have fin : ∀ (a b : Int) (w5 : World), w5.ownsRow w.heap.size 45 2 u3 L.length (cells2 L) → Rdr w5 R B A c l (p' + 1 + 1) → w.grownBy w5 (some R) → ∀ (v' : Value) (w6 : World), w6.ownsRow w.heap.size 45 2 v' (L.length + 1) (cells2 L ++ cells2 [(a, b)]) → (w5.alloc (.cells #[.int .i64 a, .int .i64 b] 45)).grownBy w6 u3.ownBlock → DrawnRules w R B A c l p (.returned v') w6 := by
        intro a b w5 ho5 h5 hgg5 v' w6 hown' hgrow
        have hv : ∀ q, u3.ownBlock = some q → w.heap.size ≤ q := fun q hq => (ho5.lt q hq).1
        have hg6 := grownBy_new (grownBy_trans hgg5 (World.grownBy_alloc w5 _ _)) hgrow hv
        have hr6 := (h5.alloc _).grown hgrow (fun k hk => by have := hv k hk; omega)
        obtain ⟨A', c', rfl⟩ := own_form hown'
        exact ⟨L ++ [(a, b)], A', c', _, by simp, by simp; omega, by rw [cells2_snoc]; simpa using hown', hr6, by omega, hg6⟩
      by_cases hx0 : x = 0
      · subst hx0
        go_wp2_with fail
        have hlit := lit_ints w2 (R + 1) [0, 1, 7] (by have := h2.blk.lt; omega) (by decide)
        refine (num_any R B c A l (p' + 1) _ _ [0, 1, 7] _ (h2.alloc _) (by omega) hlit (by decide) (by decide)).mono ?_
        rintro e w5 ⟨y, _, rfl, h5, hg5⟩
        clear hlit
        have hgg5 := grownBy_trans hgg (grownBy_trans (World.grownBy_alloc w2 _ _) hg5)
        have ho5 := (ho2.alloc _).kept hg5 (.inr (fun e => by have := (ho2.lt R e).1; omega))
        have hs5 := hgg5.size
        clear ho2 h2 hg5 hgg
        go_wp2_with (at_builtin; refine wpList_append_any _ rfl _ _ 25 rfl w.heap.size 45 i0 (.agg #[.int .i64 0, .int .i64 0]) 2 16 Try.underlying25 hi hz0 hz1 hz2 rfl (by decide) u3 _ _ rfl (ho5.alloc _) _ (some ⟨w5.heap.size, 0, none⟩) 1 1 (cells2 [(y, 1)]) rfl (new_rule w5 y 1) (cells2_one (y, 1)) ?_ ?_ ?_ ?_; (unfold maxLen; omega); omega; (simp; omega); intro v' w6 hown' hgrow hloc)
        go_ret
        exact fin y 1 w5 ho5 h5 hgg5 v' w6 hown' hgrow
      · have e0 : (x == 0) = false := by rw [beq_eq_false_iff_ne]; exact hx0
        by_cases hx1 : x = 1
        · subst hx1
          go_wp2_with fail
          have hlit := lit_ints w2 (R + 1) [7, -1, 6] (by have := h2.blk.lt; omega) (by decide)
          refine (num_any R B c A l (p' + 1) _ _ [7, -1, 6] _ (h2.alloc _) (by omega) hlit (by decide) (by decide)).mono ?_
          rintro e w5 ⟨y, _, rfl, h5, hg5⟩
          clear hlit
          have hgg5 := grownBy_trans hgg (grownBy_trans (World.grownBy_alloc w2 _ _) hg5)
          have ho5 := (ho2.alloc _).kept hg5 (.inr (fun e => by have := (ho2.lt R e).1; omega))
          have hs5 := hgg5.size
          clear ho2 h2 hg5 hgg
          go_wp2_with (at_builtin; refine wpList_append_any _ rfl _ _ 25 rfl w.heap.size 45 i0 (.agg #[.int .i64 0, .int .i64 0]) 2 16 Try.underlying25 hi hz0 hz1 hz2 rfl (by decide) u3 _ _ rfl (ho5.alloc _) _ (some ⟨w5.heap.size, 0, none⟩) 1 1 (cells2 [(6, y)]) rfl (new_rule w5 6 y) (cells2_one (6, y)) ?_ ?_ ?_ ?_; (unfold maxLen; omega); omega; (simp; omega); intro v' w6 hown' hgrow hloc)
          go_ret
          exact fin 6 y w5 ho5 h5 hgg5 v' w6 hown' hgrow
        · have e1 : (x == 1) = false := by rw [beq_eq_false_iff_ne]; exact hx1
          obtain ⟨A', c', rfl⟩ := own_form ho2
          go_wp2_with fail
          go_ret
          exact ⟨L, A', c', _, rfl, by omega, ho2, h2, by omega, hgg⟩
/-- two equal lists -/
theorem cbSame_same (A A' : Option Addr) (c c' : Nat) (l : List Int) (w : World) (B B' : Nat) (h : RI w B A l) (h' : RI w B' A' l) (hn : l.length ≤ 1048576) :
    Calls Try.prog 26 #[.slice A l.length c, .slice A' l.length c'] w fun e w' => e = .returned (.bool true) ∧ ∃ n, w' = w.drewN n := by
  have hee : ((l.length : Int) == (l.length : Int)) = true := by simp
  go_enter Try.func26, Try.ntmps26
  go_wp2
  go_loopw [5] (fun i wr => ∃ k : Nat, k ≤ l.length ∧ i = .int .i64 k ∧ ∃ n, wr = w.drewN n) (fun i _ => l.length - (intOf i).toNat)
  case atStart => exact ⟨0, Nat.zero_le _, rfl, 0, rfl⟩
  case round =>
    obtain ⟨k, hk, rfl, nq, rfl⟩ := hrel
    by_cases hlt : k < l.length
    · obtain ⟨ad, rfl, hb, hc⟩ := h.at_ hlt
      obtain ⟨ad', rfl, hb', hc'⟩ := h'.at_ hlt
      generalize l[k] = v at hc hc'
      have hne : (v != v) = false := by simp
      go_wp2
      go_quiet (fail)
      go_wp2
      go_roundw
      case rel => exact ⟨k + 1, by omega, by go_num, _, rfl⟩
      case measure => simp [intOf]; omega
    · obtain rfl : k = l.length := by omega
      go_wp2
      go_ret
      exact ⟨rfl, _, rfl⟩
/-- rules and a number -/
def DrawnR1 (w : World) (e : Ending) (w' : World) : Prop :=
  ∃ (L : List (Int × Int)) (A : Option Addr) (c : Nat) (x : Int), e = .returned (.tuple #[.slice A L.length c, .int .i64 x]) ∧ L.length ≤ 6 ∧ w'.ownsRow w.heap.size 45 2 (.slice A L.length c) L.length (cells2 L) ∧ Below w.heap.size w w'
theorem DrawForwardLine_any (A : Option Addr) (c : Nat) (l : List Int) (w : World) (h : RB w w.heap.size A l) (hc : l.length ≤ c) (hm : c ≤ maxLen) (hn : l.length ≤ 1048576) :
    Calls Try.prog 25 #[.slice A l.length c] w (DrawnR1 w) := by
  go_enter Try.func25, Try.ntmps25
  go_wp2_with fail
  refine (l11Open_any A c l w h hc hm hn).mono ?_
  rintro e w1 ⟨R, A1, c1, l1, rfl, r1, hb1⟩
  go_wp2_with fail
  refine (l2Rules_any R w.heap.size c1 A1 l1 0 w1 r1 (by omega)).mono ?_
  rintro e w2 ⟨L, A2, c2, p2, rfl, hL, o2, r2, hp2, hg2⟩
  go_wp2_with fail
  refine (l2Number_any R w.heap.size c1 A1 l1 p2 w2 r2 (by omega)).mono ?_
  rintro e w3 ⟨x, rfl, r3, hg3⟩
  go_wp2_with fail
  go_ret2
  have hR := r1.blk.lt
  have ho : w3.ownsRow w1.heap.size 45 2 (.slice A2 L.length c2) L.length (cells2 L) := o2.kept hg3 (.inr (fun e => by have := (o2.lt R e).1; omega))
  exact ⟨L, A2, c2, x, rfl, hL, own_mono ho hb1.size, below_of_R hb1 (grownBy_trans hg2 hg3) r1.hB⟩
/-- rules and a field -/
def DrawnRF (w : World) (e : Ending) (w' : World) : Prop :=
  ∃ (L : List (Int × Int)) (A : Option Addr) (c : Nat) (F : List Int) (A' : Option Addr) (c' : Nat), e = .returned (.tuple #[.slice A L.length c, .slice A' F.length c']) ∧ L.length ≤ 6 ∧ F.length ≤ 30 ∧ w'.ownsRow w.heap.size 45 2 (.slice A L.length c) L.length (cells2 L) ∧ w'.ownsRow w.heap.size 3 1 (.slice A' F.length c') F.length (ints F) ∧ Below w.heap.size w w'
theorem DrawForwardField_any (A : Option Addr) (c : Nat) (l : List Int) (w : World) (h : RB w w.heap.size A l) (hc : l.length ≤ c) (hm : c ≤ maxLen) (hn : l.length ≤ 1048576) :
    Calls Try.prog 27 #[.slice A l.length c] w (DrawnRF w) := by
  go_enter Try.func27, Try.ntmps27
  go_wp2_with fail
  refine (l11Open_any A c l w h hc hm hn).mono ?_
  rintro e w1 ⟨R, A1, c1, l1, rfl, r1, hb1⟩
  go_wp2_with fail
  refine (l2Rules_any R w.heap.size c1 A1 l1 0 w1 r1 (by omega)).mono ?_
  rintro e w2 ⟨L, A2, c2, p2, rfl, hL, o2, r2, hp2, hg2⟩
  go_wp2_with fail
  refine (l2Field_any R w.heap.size c1 A1 l1 p2 w2 r2 (by omega)).mono ?_
  rintro e w3 ⟨F, A3, c3, p3, rfl, hF, o3, r3, hp3, hg3⟩
  go_wp2_with fail
  go_ret2
  have hR := r1.blk.lt
  have ho : w3.ownsRow w1.heap.size 45 2 (.slice A2 L.length c2) L.length (cells2 L) := o2.kept hg3 (.inr (fun e => by have := (o2.lt R e).1; omega))
  exact ⟨L, A2, c2, F, A3, c3, rfl, hL, hF, own_mono ho hb1.size, own_mono o3 (Nat.le_trans hb1.size hg2.size), below_of_R hb1 (grownBy_trans hg2 hg3) r1.hB⟩
end Go.Proofs.Ytelaeepkajbfnaa
