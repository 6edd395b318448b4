/-
  Guests and what they do, drawn.
-/
import Derived.Test.YthmgpkcijolljaaK1
import Derived.Test.YthmgpkcijolljaaK6
namespace Go.Proofs.Ythmgpkcijolljaa
open Go.RowKit
set_option linter.unusedSimpArgs false
set_option linter.unusedVariables false
theorem ownsRow_emptyD (w : World) : (w.alloc (.cells #[] 41)).ownsRow w.heap.size 41 3 (.slice (some ⟨w.heap.size, 0, none⟩) 0 0) 0 (cells3 []) := ⟨rfl, .inr ⟨_, 0, #[], rfl, Nat.le_refl _, heap_alloc_new w _, Nat.le_refl _, by unfold maxLen; omega, rfl, rfl⟩⟩
theorem cells3_one (d : Dd) : ∀ u ∈ cells3 [d], u.oneCell' = true := by
 intro u hu
 simp [cells3, encD] at hu
 rcases hu with rfl | rfl | rfl <;> rfl
theorem new_said (w : World) (a : ByteArray) (x y : Int) : Reads (w.alloc (.cells #[.string a, .int .i64 x, .int .i64 y] 41)) (w.alloc (.cells #[.string a, .int .i64 x, .int .i64 y] 41)).heap.size 3 (some ⟨w.heap.size, 0, none⟩) 1 (cells3 [(a, x, y)]) :=
 Blk.RD_ (l := [(a, x, y)]) (Blk.new w 41 _)
/-- guests and what they do -/
def DrawnBoth (w : World) (R B : Nat) (A : Option Addr) (c : Nat) (l : List Int) (e : Ending) (w' : World) : Prop :=
 ∃ (g : Int) (ls : List Dd) (A' : Option Addr) (c' : Nat) (p' : Int), e = .returned (.tuple #[.int .i64 g, .slice A' ls.length c']) ∧ 0 ≤ g ∧ g ≤ 6 ∧ ls.length ≤ 13 ∧
  w'.ownsRow w.heap.size 41 3 (.slice A' ls.length c') ls.length (cells3 ls) ∧ Rdr w' R B A c l p' ∧ p' ≤ 1000 ∧ w.grownBy w' (some R)
set_option maxRecDepth 100000 in
set_option maxHeartbeats 16000000 in
theorem l7Both_any (R B c : Nat) (A : Option Addr) (l : List Int) (w : World) (h : Rdr w R B A c l 0) :
  Calls Try.prog 38 #[.pointer (some ⟨R, 0, none⟩)] w (DrawnBoth w R B A c l) := by
 obtain ⟨i0, hi, hz0, hz1, hz2⟩ := info_parts said_info
 have hR := h.blk.lt
 go_enter Try.func38, Try.ntmps38
 go_wp2_with fail
 have hlit := lit_ints w (R + 1) [3, 2, 4, 1, 5, 3, 3, 2, 0, 6] (by omega) (by decide)
 refine (num_any R B c A l 0 _ _ [3, 2, 4, 1, 5, 3, 3, 2, 0, 6] _ (h.alloc _) (by omega) hlit (by decide) (by decide)).mono ?_
 rintro e w1 ⟨g, hg, rfl, h1, hg1⟩
 have hgr : 0 ≤ g ∧ g ≤ 6 := by
  simp at hg
  omega
 obtain ⟨g0, g6⟩ := hgr
 have G1 := grownBy_trans (World.grownBy_alloc w _ _) hg1
 clear hlit hg hg1 h
 go_wp2_with fail
 have h2 := h1.alloc (.cells #[] 41)
 refine (pick_any R B c A l (0 + 1) 14 _ h2 (by omega) (by omega) (by omega)).mono ?_
 rintro e w2 ⟨x, x0, x1, rfl, h3, hg3⟩
 have o2 : w2.ownsRow w1.heap.size 41 3 (.slice (some ⟨w1.heap.size, 0, none⟩) 0 0) 0 (cells3 []) := own_mark (ownsRow_emptyD w1) hg3 (fun k hk e => by
  injection e with e
  have : w1.heap.size = k := by simpa [Value.ownBlock] using hk
  have := h1.blk.lt
  omega)
 have G3 : w.grownBy w2 (some R) := grownBy_trans (grownBy_trans G1 (World.grownBy_alloc w1 _ _)) hg3
 have hs1 : w.heap.size ≤ w1.heap.size := G1.size
 have o3 := own_mono o2 hs1
 clear h1 h2 G1 hg3 o2
 obtain ⟨n0, rfl⟩ : ∃ n0 : Nat, x = n0 := ⟨x.toNat, by omega⟩
 go_wp2_with fail
 go_loopw [6, 5] (fun nv ov wr => ∃ (k : Nat) (ls : List Dd) (p' : Int), nv = .int .i64 k ∧ ls.length + k ≤ 13 ∧ wr.ownsRow w.heap.size 41 3 ov ls.length (cells3 ls) ∧ Rdr wr R B A c l p' ∧ p' ≤ 2 + 30 * (ls.length : Int) ∧ w.grownBy wr (some R)) (fun nv _ _ => (intOf nv).toNat)
 case atStart => exact ⟨n0, [], _, rfl, by simp; omega, o3, h3, by simp, G3⟩
 case round =>
  clear h3 G3 o3 x0 x1
  obtain ⟨k, ls, p1, rfl, hk, ho, hr, hp, hG⟩ := hrel
  by_cases hk0 : 0 < k
  ·have hk0' : (0 : Int) < (k : Int) := by omega
   have hsz := hG.size
   go_wp2_with fail
   refine (l7One_any R B c A l p1 g wr hr (by omega) g0 (by omega)).mono ?_
   rintro e w4 ⟨a, x, y, p2, rfl, h4, hp2, hg4⟩
   have G4 := grownBy_trans hG hg4
   have hv : ∀ q, u5.ownBlock = some q → w.heap.size ≤ q := fun q hq => (ho.lt q hq).1
   have o4 := own_mark ho hg4 (fun q hq e => by injection e with e; have := hv q hq; omega)
   have hs4 := G4.size
   have hvl : ∀ q, u5.ownBlock = some q → q < w4.heap.size := fun q hq => (o4.lt q hq).2
   have hRD : R < w4.heap.size := by omega
   obtain ⟨AL, cL, rfl⟩ := own_form o4
   clear ho hr hG hg4
   have tail : ∀ (b : ByteArray) (x' y' p3 : Int) (w5 w6 : World) (v' : Value), Rdr w5 R B A c l p3 → p3 ≤ 2 + 30 * (ls.length : Int) + 30 → w.grownBy w5 (some R) → w6.ownsRow w.heap.size 41 3 v' (ls.length + 1) (cells3 ls ++ cells3 [(b, x', y')]) →
     (w5.alloc (.cells #[.string b, .int .i64 x', .int .i64 y'] 41)).grownBy w6 (Value.slice AL ls.length cL).ownBlock → ∃ (k' : Nat) (ls' : List Dd) (p' : Int), Value.int .i64 ((k : Int) - 1) = .int .i64 k' ∧ ls'.length + k' ≤ 13 ∧ w6.ownsRow w.heap.size 41 3 v' ls'.length (cells3 ls') ∧ Rdr w6 R B A c l p' ∧ p' ≤ 2 + 30 * (ls'.length : Int) ∧ w.grownBy w6 (some R) := by
    intro b x' y' p3 w5 w6 v' hr5 hp5 hG5 ho6 hg6
    refine ⟨k - 1, ls ++ [(b, x', y')], p3, by congr 1; omega, by simp; omega, by rw [cells3_snoc]; simpa [cells3] using ho6, (hr5.alloc _).grown hg6 (fun q hq => by have := hv q hq; omega), by simp; omega, grownBy_new (grownBy_trans hG5 (World.grownBy_alloc w5 _ _)) hg6 (fun q hq => hv q hq)⟩
   have Ht := Lib.hid tail
   clear tail
   have h5 := h4.alloc (.cells #[.string a, .int .i64 x, .int .i64 y] 41)
   have G5 := grownBy_trans G4 (World.grownBy_alloc w4 (.cells #[.string a, .int .i64 x, .int .i64 y] 41) (some R))
   have o5 := World.ownsRow.alloc o4 (.cells #[.string a, .int .i64 x, .int .i64 y] 41)
   have hB5 := Blk.new w4 41 #[.string a, .int .i64 x, .int .i64 y]
   have s5 : (w4.alloc (.cells #[.string a, .int .i64 x, .int .i64 y] 41)).heap.size = w4.heap.size + 1 := by simp
   go_wp2_with fail
   generalize w4.alloc (.cells #[.string a, .int .i64 x, .int .i64 y] 41) = w5 at h5 G5 o5 hB5 s5 ⊢
   clear h4 G4 o4
   refine (l7Said_any a x y g w5).mono ?_
   rintro e w6 ⟨rfl, hb6⟩
   have h6 := h5.below hb6
   have G6 : w.grownBy w6 (some R) := grownBy_trans G5 ⟨hb6.os, hb6.tape, hb6.output, hb6.size, fun i hi _ => hb6.block i hi⟩
   have o6 := own_below o5 hb6
   have hB6 := hB5.below hb6 hB5.lt
   have hs6 := G6.size
   clear h5 G5 o5 hB5 hb6
   cases hsaid : saidIn a.toList x y g
   ·go_wp2_with fail
    refine (pick_any R B c A l p2 5 w6 h6 (by omega) (by omega) (by omega)).mono ?_
    rintro e w7 ⟨v, v0, v1, rfl, h7, hg7⟩
    have G7 := grownBy_trans G6 hg7
    have hRl := h6.blk.lt
    have o7 := own_mark o6 hg7 (fun q hq e => by injection e with e; have := hv q hq; omega)
    have hB7 := hB6.grown hg7 (fun e => by injection e with e; omega)
    have hs7 := G7.size
    clear h6 G6 o6 hB6 hg7
    have d0 : w7.cell? ⟨w4.heap.size, 0, none⟩ = some (.string a) := hB7.cell 0
    have d1 : w7.cell? ⟨w4.heap.size, 1, none⟩ = some (.int .i64 x) := hB7.cell 1
    have d2 : w7.cell? ⟨w4.heap.size, 2, none⟩ = some (.int .i64 y) := hB7.cell 2
    have df := hB7.frozen
    by_cases hv0 : 0 < v
    ·have hg8 : w7.grownBy (((w7.setCell ⟨w4.heap.size, 0, none⟩ (.string ⟨#[115, 97, 121]⟩)).setCell ⟨w4.heap.size, 1, none⟩ (.int .i64 1)).setCell ⟨w4.heap.size, 2, none⟩ (.int .i64 1)) (some w4.heap.size) := only_setCell_ (only_setCell_ (only_setCell_ (World.grownBy.refl w7 _) 0 _) 1 _) 2 _
     have r8 := h7.grown hg8 (fun k hk => by injection hk with hk; omega)
     have G8 := grownBy_new G7 hg8 (fun q hq => by injection hq with hq; omega)
     have o8 := own_mark o7 hg8 (fun q hq e => by injection e with e; have := hvl q hq; omega)
     have hs8 : w.heap.size ≤ (((w7.setCell ⟨w4.heap.size, 0, none⟩ (.string ⟨#[115, 97, 121]⟩)).setCell ⟨w4.heap.size, 1, none⟩ (.int .i64 1)).setCell ⟨w4.heap.size, 2, none⟩ (.int .i64 1)).heap.size := G8.size
     have hn := new_said (((w7.setCell ⟨w4.heap.size, 0, none⟩ (.string ⟨#[115, 97, 121]⟩)).setCell ⟨w4.heap.size, 1, none⟩ (.int .i64 1)).setCell ⟨w4.heap.size, 2, none⟩ (.int .i64 1)) ⟨#[115, 97, 121]⟩ 1 1
     have hz8 : (((w7.setCell ⟨w4.heap.size, 0, none⟩ (.string ⟨#[115, 97, 121]⟩)).setCell ⟨w4.heap.size, 1, none⟩ (.int .i64 1)).setCell ⟨w4.heap.size, 2, none⟩ (.int .i64 1)).heap.size = w7.heap.size := by simp [World.setCell]
     rw [hz8] at hn
     clear hg8 h7 G7 hz8
     go_wp2_with (at_builtin; refine wpList_append_any _ rfl _ _ 25 rfl w.heap.size 41 i0 (.agg #[.string ByteArray.empty, .int .i64 0, .int .i64 0]) 3 32 Try.underlying25 hi hz0 hz1 hz2 rfl (by decide) (.slice AL ls.length cL) _ _ rfl (World.ownsRow.alloc o8 _) _ (some ⟨w7.heap.size, 0, none⟩) 1 1 (cells3 [(⟨#[115, 97, 121]⟩, 1, 1)]) rfl hn (cells3_one (⟨#[115, 97, 121]⟩, 1, 1)) ?_ ?_ ?_ ?_; (unfold maxLen; omega); omega; (simp; omega); intro v' w8 hown' hgrow hloc)
     go_roundw
     case rel => exact Ht.out _ _ _ _ _ _ _ r8 (by omega) G8 hown' hgrow
     case measure => simp [intOf]; omega
    ·have hn := new_said w7 a x y
     go_wp2_with (at_builtin; refine wpList_append_any _ rfl _ _ 25 rfl w.heap.size 41 i0 (.agg #[.string ByteArray.empty, .int .i64 0, .int .i64 0]) 3 32 Try.underlying25 hi hz0 hz1 hz2 rfl (by decide) (.slice AL ls.length cL) _ _ rfl (World.ownsRow.alloc o7 _) _ (some ⟨w7.heap.size, 0, none⟩) 1 1 (cells3 [(a, x, y)]) rfl hn (cells3_one (a, x, y)) ?_ ?_ ?_ ?_; (unfold maxLen; omega); omega; (simp; omega); intro v' w8 hown' hgrow hloc)
     go_roundw
     case rel => exact Ht.out _ _ _ _ _ _ _ h7 (by omega) G7 hown' hgrow
     case measure => simp [intOf]; omega
   ·have d0 : w6.cell? ⟨w4.heap.size, 0, none⟩ = some (.string a) := hB6.cell 0
    have d1 : w6.cell? ⟨w4.heap.size, 1, none⟩ = some (.int .i64 x) := hB6.cell 1
    have d2 : w6.cell? ⟨w4.heap.size, 2, none⟩ = some (.int .i64 y) := hB6.cell 2
    have hn := new_said w6 a x y
    go_wp2_with (at_builtin; refine wpList_append_any _ rfl _ _ 25 rfl w.heap.size 41 i0 (.agg #[.string ByteArray.empty, .int .i64 0, .int .i64 0]) 3 32 Try.underlying25 hi hz0 hz1 hz2 rfl (by decide) (.slice AL ls.length cL) _ _ rfl (World.ownsRow.alloc o6 _) _ (some ⟨w6.heap.size, 0, none⟩) 1 1 (cells3 [(a, x, y)]) rfl hn (cells3_one (a, x, y)) ?_ ?_ ?_ ?_; (unfold maxLen; omega); omega; (simp; omega); intro v' w8 hown' hgrow hloc)
    go_roundw
    case rel => exact Ht.out _ _ _ _ _ _ _ h6 (by omega) G6 hown' hgrow
    case measure => simp [intOf]; omega
  ·obtain rfl : k = 0 := by omega
   obtain ⟨AL, cL, rfl⟩ := own_form ho
   go_wp2_with fail
   go_ret2
   exact ⟨g, ls, AL, cL, p1, rfl, g0, g6, by omega, ho, hr, by omega, hG⟩
end Go.Proofs.Ythmgpkcijolljaa
/-
  The arguments of the laws on guests, drawn; two equal lists compared.
-/
namespace Go.Proofs.Ythmgpkcijolljaa
open Go.RowKit
set_option linter.unusedSimpArgs false
set_option linter.unusedVariables false
/-- guests and what they do -/
def DrewG (w : World) (e : Ending) (w' : World) : Prop :=
 ∃ (g : Int) (ls : List Dd) (A' : Option Addr) (c' : Nat), e = .returned (.tuple #[.int .i64 g, .slice A' ls.length c']) ∧ ls.length ≤ 13 ∧ ls.length ≤ c' ∧ c' ≤ maxLen ∧ RD w' w'.heap.size A' ls ∧ Below w.heap.size w w'
theorem own_caps {w : World} {base n sz : Nat} {A : Option Addr} {c : Nat} {e : TypeId} {xs : List Value} (h : w.ownsRow base e sz (.slice A n c) n xs) : n ≤ c ∧ c ≤ maxLen := by
 rcases h.2 with ⟨h1, h2⟩ | ⟨g', cap, cur, h1, _, _, h2, h3, _⟩
 ·injection h1 with _ h4 h5
  subst h5
  subst h4
  exact ⟨Nat.le_refl _, Nat.zero_le _⟩
 ·injection h1 with _ _ h1
  subst h1
  exact ⟨h2, h3⟩
theorem DrawHeardBy_any (A : Option Addr) (c : Nat) (l : List Int) (w : World) (h : RB w w.heap.size A l) (hc : l.length ≤ c) (hm : c ≤ maxLen) (hn : l.length ≤ 1048576) :
  Calls Try.prog 28 #[.slice A l.length c] w (DrewG w) := by
 go_enter Try.func28, Try.ntmps28
 go_wp2_with fail
 refine (l11Open_any A c l w h hc hm hn).mono ?_
 rintro e w1 ⟨R, A1, c1, l1, rfl, r1, hb1⟩
 go_wp2_with fail
 refine (l7Both_any R w.heap.size c1 A1 l1 w1 r1).mono ?_
 rintro e w2 ⟨g, ls, A2, c2, p2, rfl, _, _, hl, ho, _, _, hg2⟩
 go_wp2_with fail
 go_ret2
 exact ⟨g, ls, A2, c2, rfl, hl, (own_caps ho).1, (own_caps ho).2, Reads.of_own ho, below_of_R hb1 hg2 r1.hB⟩
/-- two equal lists -/
theorem cbSame_same (A A' : Option Addr) (c c' : Nat) (l : List Int) (w : World) (B B' : Nat) (h : RI w B A l) (h' : RI w B' A' l) (hn : l.length ≤ 1048576) :
  Calls Try.prog 17 #[.slice A l.length c, .slice A' l.length c'] w fun e w' => e = .returned (.bool true) ∧ ∃ n, w' = w.drewN n := by
 have hee : ((l.length : Int) == (l.length : Int)) = true := by simp
 go_enter Try.func17, Try.ntmps17
 go_wp2
 go_loopw [5] (fun i wr => ∃ k : Nat, k ≤ l.length ∧ i = .int .i64 k ∧ ∃ n, wr = w.drewN n) (fun i _ => l.length - (intOf i).toNat)
 case atStart => exact ⟨0, Nat.zero_le _, rfl, 0, rfl⟩
 case round =>
  obtain ⟨k, hk, rfl, nq, rfl⟩ := hrel
  by_cases hlt : k < l.length
  ·obtain ⟨ad, rfl, hb, hc⟩ := h.at_ hlt
   obtain ⟨ad', rfl, hb', hc'⟩ := h'.at_ hlt
   generalize l[k] = v at hc hc'
   have hne : (v != v) = false := by simp
   go_wp2
   go_quiet (fail)
   go_wp2
   go_roundw
   case rel => exact ⟨k + 1, by omega, by go_num, _, rfl⟩
   case measure => simp [intOf]; omega
  ·obtain rfl : k = l.length := by omega
   go_wp2
   go_ret
   exact ⟨rfl, _, rfl⟩
end Go.Proofs.Ythmgpkcijolljaa
