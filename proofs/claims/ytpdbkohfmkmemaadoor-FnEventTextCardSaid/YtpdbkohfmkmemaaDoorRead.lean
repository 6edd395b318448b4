/-
  l1Read of the reference.
-/
import Derived.Test.YtpdbkohfmkmemaaDoorCut
import Derived.Test.YtpdbkohfmkmemaaDoorParse2
import Derived.Test.YtpdbkohfmkmemaaDoorNum
namespace Go.Proofs.YtpdbkohfmkmemaaDoor
open Go.RowKit Go.Shelf
set_option linter.unusedSimpArgs false
set_option linter.unusedVariables false

def zeroS : ByteArray := ⟨#[48]⟩
/-- a deed out of a text, of whatever act, by the reference -/
def readL (l : List ByteArray) : ByteArray × Int × Int × Bool :=
  match l with
  | [a, p] => (a, (numS p).1, (numS zeroS).1, (numS p).2 && (numS zeroS).2)
  | [a, p, q] => (a, (numS p).1, (numS q).1, (numS p).2 && (numS q).2)
  | _ => (⟨#[]⟩, 0, 0, false)
def readS (s : ByteArray) : ByteArray × Int × Int × Bool := readL (piecesB s)
theorem piece_size {s : ByteArray} {l : List ByteArray} (h : piecesB s = l) : ∀ p ∈ l, p.size ≤ s.size := fun p hp => splitB_sizes _ _ _ _ (show p ∈ piecesB s by rw [h]; exact hp)
set_option maxHeartbeats 2000000 in
theorem l1Read_any (s : ByteArray) (w : World) (hs : s.size ≤ 1048576) :
    Calls Tryd.prog 18 #[.string s] w fun e w' => e = .returned (.tuple #[.agg #[.string (readS s).1, .int .i64 (readS s).2.1, .int .i64 (readS s).2.2.1], .bool (readS s).2.2.2]) ∧ Below w.heap.size w w' := by
  have hC := fun W => l11Cut_any s W hs
  have hps := fun l h => piece_size (s := s) (l := l) h
  obtain ⟨l, hl⟩ : ∃ l, piecesB s = l := ⟨_, rfl⟩
  have hpl := hps l hl
  have hlen : l.length ≤ 1048577 := by have := pieces_len s; rw [hl] at this; omega
  rw [hl] at hC
  have hE : Hid (readS s = readL l) := Lib.hid (by unfold readS; rw [hl])
  clear hl hps
  obtain ⟨i0, hi, hz0, hz1, hz2⟩ := info_parts str_info
  have k1 := Blk.new w 41 #[.string ⟨#[]⟩, .int .i64 0, .int .i64 0]
  have B1 := (Below.refl w.heap.size w).alloc (Nat.le_refl _) (.cells #[.string ⟨#[]⟩, .int .i64 0, .int .i64 0] 41)
  by_cases h23 : l.length < 2 ∨ 3 < l.length
  · have E : Hid (readS s = (⟨#[]⟩, 0, 0, false)) := Lib.hid (by
      rw [hE.out]
      match l, h23 with
      | [], _ => rfl
      | [_], _ => rfl
      | [_, _], h => simp at h
      | [_, _, _], h => simp at h
      | _ :: _ :: _ :: _ :: _, _ => rfl)
    have n2 : ((l.length : Int) == 2) = false := by rw [beq_eq_false_iff_ne]; omega
    have n3 : ((l.length : Int) != 3) = true := by rw [bne_iff_ne]; omega
    clear h23 hlen hE
    go_enter Tryd.func18, Tryd.ntmps18
    go_wp2_with fail
    refine (hC _).mono ?_
    rintro e w1 ⟨A, c, rfl, hown, hb1⟩
    have k2 := k1.below hb1 k1.lt
    have B2 := B1.trans (hb1.mono B1.size)
    have c0 : w1.cell? ⟨w.heap.size, 0, none⟩ = some (.string ⟨#[]⟩) := k2.cell 0
    have c1 : w1.cell? ⟨w.heap.size, 1, none⟩ = some (.int .i64 0) := k2.cell 1
    have c2 : w1.cell? ⟨w.heap.size, 2, none⟩ = some (.int .i64 0) := k2.cell 2
    have cf := k2.frozen
    clear k1 B1 hb1
    go_wp2_with fail
    exact bodyPost_ret (v := .tuple #[.agg #[.string ⟨#[]⟩, .int .i64 0, .int .i64 0], .bool false]) (by simp [results, Tryd.results18, go_sem, c0, c1, c2]) rfl
      ⟨by rw [E.out], ((B2.setCell (Nat.le_refl _) _).setCell (Nat.le_refl _) _).setCell (Nat.le_refl _) _⟩
  by_cases h2 : l.length = 2
  · obtain ⟨a, p, rfl⟩ : ∃ a p, l = [a, p] := by
      match l, h2 with
      | [a, p], _ => exact ⟨a, p, rfl⟩
    have E : Hid (readS s = (a, (numS p).1, (numS zeroS).1, (numS p).2 && (numS zeroS).2)) := Lib.hid hE.out
    have N1 := fun W => l11Num_any p W (Nat.le_trans (hpl p (by simp)) hs)
    have N2 := fun W => l11Num_any zeroS W (by decide)
    obtain ⟨X, hX⟩ : ∃ X, numS p = X := ⟨_, rfl⟩
    obtain ⟨Y, hY⟩ : ∃ Y, numS zeroS = Y := ⟨_, rfl⟩
    rw [hX] at N1 E
    rw [hY] at N2 E
    obtain ⟨x, xo⟩ := X
    obtain ⟨y, yo⟩ := Y
    clear hX hY hE hpl hlen h23 h2
    go_enter Tryd.func18, Tryd.ntmps18
    go_wp2_with fail
    refine (hC _).mono ?_
    rintro e w1 ⟨A, c, rfl, hown0, hb1⟩
    have hown : w1.ownsRow (w.heap.size + 1) 9 1 (.slice A 2 c) 2 [.string a, .string p] := by simpa using hown0
    have k2 := k1.below hb1 k1.lt
    have B2 := B1.trans (hb1.mono B1.size)
    have hz1' : w.heap.size + 1 ≤ w1.heap.size := by have := hb1.size; simpa using this
    clear k1 B1 hb1 hown0
    go_wp2_with (at_builtin; refine wpList_append_any _ rfl _ _ 48 rfl (w.heap.size + 1) 9 i0 (.string ⟨#[]⟩) 1 16 Tryd.underlying48 hi hz0 hz1 hz2 rfl (by decide) (.slice A 2 c) _ _ rfl (hown.alloc _) _ (some ⟨w1.heap.size, 0, none⟩) 1 1 [.string zeroS] rfl (new_str w1 zeroS) (strs_oneCell [zeroS]) ?_ ?_ ?_ ?_; (unfold maxLen; omega); omega; (simp <;> omega); intro v' w3 hown' hgrow hloc; obtain ⟨g, c3, hv, hg1, hg2⟩ := own_some hown' (by omega); rw [hv] at hown'; rw [hv]; refine Hid.out ?_)
    have hown3 : w3.ownsRow (w.heap.size + 1) 9 1 (.slice (some ⟨g, 0, none⟩) 3 c3) 3 [.string a, .string p, .string zeroS] := hown'
    have B3 := below_of_grown B2 hgrow B2.size (fun q hq => Nat.le_of_succ_le ((hown.lt q hq).1))
    have hb3 := k2.grown ((World.grownBy_alloc _ _ _).trans hgrow) (by
      intro h
      have := (hown.lt w.heap.size h.symm).1
      omega)
    try simp only [Nat.reduceAdd]
    have g0 : w3.cell? ⟨g, 0, none⟩ = some (.string a) := (hown3.cellAt 0 (by omega)).trans rfl
    have g1 : w3.cell? ⟨g, 1, none⟩ = some (.string p) := (hown3.cellAt 1 (by omega)).trans rfl
    have g2 : w3.cell? ⟨g, 2, none⟩ = some (.string zeroS) := (hown3.cellAt 2 (by omega)).trans rfl
    have c0 : w3.cell? ⟨w.heap.size, 0, none⟩ = some (.string ⟨#[]⟩) := hb3.cell 0
    have c1 : w3.cell? ⟨w.heap.size, 1, none⟩ = some (.int .i64 0) := hb3.cell 1
    have c2 : w3.cell? ⟨w.heap.size, 2, none⟩ = some (.int .i64 0) := hb3.cell 2
    have cf := hb3.frozen
    clear hown' hgrow hloc hown k2 B2
    refine Lib.hid ?_
    go_wp2_with fail
    refine (N1 _).mono ?_
    rintro e w4 ⟨rfl, rfl⟩
    go_wp2_with fail
    refine (N2 _).mono ?_
    rintro e w5 ⟨rfl, rfl⟩
    cases xo
    · cases yo
      · go_wp2_with fail
        exact bodyPost_ret (v := .tuple #[.agg #[.string a, .int .i64 x, .int .i64 y], .bool false]) (by simp [results, Tryd.results18, go_sem, c0, c1, c2]) rfl ⟨by rw [E.out] <;> rfl, ((B3.setCell (Nat.le_refl _) _).setCell (Nat.le_refl _) _).setCell (Nat.le_refl _) _⟩
      · go_wp2_with fail
        exact bodyPost_ret (v := .tuple #[.agg #[.string a, .int .i64 x, .int .i64 y], .bool false]) (by simp [results, Tryd.results18, go_sem, c0, c1, c2]) rfl ⟨by rw [E.out] <;> rfl, ((B3.setCell (Nat.le_refl _) _).setCell (Nat.le_refl _) _).setCell (Nat.le_refl _) _⟩
    · cases yo
      · go_wp2_with fail
        exact bodyPost_ret (v := .tuple #[.agg #[.string a, .int .i64 x, .int .i64 y], .bool false]) (by simp [results, Tryd.results18, go_sem, c0, c1, c2]) rfl ⟨by rw [E.out] <;> rfl, ((B3.setCell (Nat.le_refl _) _).setCell (Nat.le_refl _) _).setCell (Nat.le_refl _) _⟩
      · go_wp2_with fail
        exact bodyPost_ret (v := .tuple #[.agg #[.string a, .int .i64 x, .int .i64 y], .bool true]) (by simp [results, Tryd.results18, go_sem, c0, c1, c2]) rfl ⟨by rw [E.out] <;> rfl, ((B3.setCell (Nat.le_refl _) _).setCell (Nat.le_refl _) _).setCell (Nat.le_refl _) _⟩
  · obtain ⟨a, p, q, rfl⟩ : ∃ a p q, l = [a, p, q] := by
      match l, h2, h23 with
      | [a, p, q], _, _ => exact ⟨a, p, q, rfl⟩
      | [], _, h => simp at h
      | [_], _, h => simp at h
      | [_, _], h, _ => simp at h
      | _ :: _ :: _ :: _ :: _, _, h => simp at h
    have E : Hid (readS s = (a, (numS p).1, (numS q).1, (numS p).2 && (numS q).2)) := Lib.hid hE.out
    have N1 := fun W => l11Num_any p W (Nat.le_trans (hpl p (by simp)) hs)
    have N2 := fun W => l11Num_any q W (Nat.le_trans (hpl q (by simp)) hs)
    obtain ⟨X, hX⟩ : ∃ X, numS p = X := ⟨_, rfl⟩
    obtain ⟨Y, hY⟩ : ∃ Y, numS q = Y := ⟨_, rfl⟩
    rw [hX] at N1 E
    rw [hY] at N2 E
    obtain ⟨x, xo⟩ := X
    obtain ⟨y, yo⟩ := Y
    clear hX hY hE hpl hlen h23 h2
    go_enter Tryd.func18, Tryd.ntmps18
    go_wp2_with fail
    refine (hC _).mono ?_
    rintro e w3 ⟨A, c3, rfl, hown0, hb1⟩
    have hown4 : w3.ownsRow (w.heap.size + 1) 9 1 (.slice A 3 c3) 3 [.string a, .string p, .string q] := by simpa using hown0
    obtain ⟨g, c4, hv, hg1, hg2⟩ := own_some hown4 (by omega)
    obtain ⟨rfl, -, rfl⟩ := Value.slice.inj hv
    have hown3 := hown4
    have hb3 := k1.below hb1 k1.lt
    have B3 := B1.trans (hb1.mono B1.size)
    have g0 : w3.cell? ⟨g, 0, none⟩ = some (.string a) := (hown3.cellAt 0 (by omega)).trans rfl
    have g1 : w3.cell? ⟨g, 1, none⟩ = some (.string p) := (hown3.cellAt 1 (by omega)).trans rfl
    have g2 : w3.cell? ⟨g, 2, none⟩ = some (.string q) := (hown3.cellAt 2 (by omega)).trans rfl
    have c0 : w3.cell? ⟨w.heap.size, 0, none⟩ = some (.string ⟨#[]⟩) := hb3.cell 0
    have c1 : w3.cell? ⟨w.heap.size, 1, none⟩ = some (.int .i64 0) := hb3.cell 1
    have c2 : w3.cell? ⟨w.heap.size, 2, none⟩ = some (.int .i64 0) := hb3.cell 2
    have cf := hb3.frozen
    clear hown0 hown4 hv hb1 k1 B1
    go_wp2_with fail
    refine (N1 _).mono ?_
    rintro e w4 ⟨rfl, rfl⟩
    go_wp2_with fail
    refine (N2 _).mono ?_
    rintro e w5 ⟨rfl, rfl⟩
    cases xo
    · cases yo
      · go_wp2_with fail
        exact bodyPost_ret (v := .tuple #[.agg #[.string a, .int .i64 x, .int .i64 y], .bool false]) (by simp [results, Tryd.results18, go_sem, c0, c1, c2]) rfl ⟨by rw [E.out] <;> rfl, ((B3.setCell (Nat.le_refl _) _).setCell (Nat.le_refl _) _).setCell (Nat.le_refl _) _⟩
      · go_wp2_with fail
        exact bodyPost_ret (v := .tuple #[.agg #[.string a, .int .i64 x, .int .i64 y], .bool false]) (by simp [results, Tryd.results18, go_sem, c0, c1, c2]) rfl ⟨by rw [E.out] <;> rfl, ((B3.setCell (Nat.le_refl _) _).setCell (Nat.le_refl _) _).setCell (Nat.le_refl _) _⟩
    · cases yo
      · go_wp2_with fail
        exact bodyPost_ret (v := .tuple #[.agg #[.string a, .int .i64 x, .int .i64 y], .bool false]) (by simp [results, Tryd.results18, go_sem, c0, c1, c2]) rfl ⟨by rw [E.out] <;> rfl, ((B3.setCell (Nat.le_refl _) _).setCell (Nat.le_refl _) _).setCell (Nat.le_refl _) _⟩
      · go_wp2_with fail
        exact bodyPost_ret (v := .tuple #[.agg #[.string a, .int .i64 x, .int .i64 y], .bool true]) (by simp [results, Tryd.results18, go_sem, c0, c1, c2]) rfl ⟨by rw [E.out] <;> rfl, ((B3.setCell (Nat.le_refl _) _).setCell (Nat.le_refl _) _).setCell (Nat.le_refl _) _⟩
end Go.Proofs.YtpdbkohfmkmemaaDoor
