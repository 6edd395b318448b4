/-
  ParseEvent, by the reference.
-/
import Derived.Test.YtpdbkohfmkmemaaDoorRead
import Derived.Test.YtpdbkohfmkmemaaDoorEvt2
namespace Go.Proofs.YtpdbkohfmkmemaaDoor
open Go.RowKit Go.Shelf
set_option linter.unusedSimpArgs false
set_option linter.unusedVariables false

theorem readS_size (s : ByteArray) : (readS s).1.size ≤ s.size := by
  have hp : ∀ p, p ∈ piecesB s → p.size ≤ s.size := fun p h => splitB_sizes _ _ _ _ h
  have h0 : (⟨#[]⟩ : ByteArray).size ≤ s.size := Nat.zero_le _
  unfold readS readL
  match h : piecesB s with
  | [] => exact h0
  | [_] => exact h0
  | [a, p] => exact hp a (by rw [h]; simp)
  | [a, p, q] => exact hp a (by rw [h]; simp)
  | _ :: _ :: _ :: _ :: _ => exact h0
/-- an event out of its text, by the reference -/
def parES (s : ByteArray) : Value :=
  if (readS s).2.2.2 = false ∨ fmtE (readS s).1 (readS s).2.1 (readS s).2.2.1 ≠ s then .tuple #[.agg #[.string ⟨#[]⟩, .int .i64 0, .int .i64 0], .bool false]
  else .tuple #[.agg #[.string (readS s).1, .int .i64 (readS s).2.1, .int .i64 (readS s).2.2.1], .bool true]
set_option maxHeartbeats 1000000 in
theorem sParseEvent_any (s : ByteArray) (w : World) (hs : s.size ≤ 1048576) :
    Calls Tryd.prog 6 #[.string s] w fun e w' => e = .returned (parES s) ∧ Below w.heap.size w w' := by
  have hz := readS_size s
  have hA := fun W => l1Read_any s W hs
  have hF := fun W => sFormatEvent_any (readS s).1 (readS s).2.1 (readS s).2.2.1 W (Nat.le_trans hz hs)
  have E : Hid (∀ r, r = parES s ↔ r = if (readS s).2.2.2 = false ∨ fmtE (readS s).1 (readS s).2.1 (readS s).2.2.1 ≠ s then .tuple #[.agg #[.string ⟨#[]⟩, .int .i64 0, .int .i64 0], .bool false]
    else .tuple #[.agg #[.string (readS s).1, .int .i64 (readS s).2.1, .int .i64 (readS s).2.2.1], .bool true]) := Lib.hid (fun r => Iff.rfl)
  obtain ⟨D, hD⟩ : ∃ D, readS s = D := ⟨_, rfl⟩
  rw [hD] at hA hF E
  clear hz hD hs
  obtain ⟨a, x, y, n⟩ := D
  simp only at hA hF E
  have k1 := Blk.new w 23 #[.string ⟨#[]⟩, .int .i64 0, .int .i64 0]
  have B1 := (Below.refl w.heap.size w).alloc (Nat.le_refl _) (.cells #[.string ⟨#[]⟩, .int .i64 0, .int .i64 0] 23)
  go_enter Tryd.func6, Tryd.ntmps6
  go_wp2_with fail
  generalize w.alloc (.cells #[.string ⟨#[]⟩, .int .i64 0, .int .i64 0] 23) = w0 at k1 B1 ⊢
  obtain ⟨b, hb⟩ : ∃ b, w.heap.size = b := ⟨_, rfl⟩
  rw [hb] at k1 B1 ⊢
  have HB := Lib.hid hb
  have hle : b ≤ w.heap.size := Nat.le_of_eq hb.symm
  clear hb
  refine (hA _).mono ?_
  rintro e w1 ⟨rfl, hb1⟩
  have k2 := k1.below hb1 k1.lt
  have B2 := B1.trans (hb1.mono (Nat.le_trans hle B1.size))
  clear k1 B1 hb1
  have k3 := (k2.alloc (.cells #[.string a, .int .i64 x, .int .i64 y] 41)).alloc (.cells #[.string a, .int .i64 x, .int .i64 y] 23)
  have B3 := (B2.alloc (Nat.le_trans hle B2.size) (.cells #[.string a, .int .i64 x, .int .i64 y] 41)).alloc (by have := B2.size; simp; omega) (.cells #[.string a, .int .i64 x, .int .i64 y] 23)
  have k4 := Blk.new (w1.alloc (.cells #[.string a, .int .i64 x, .int .i64 y] 41)) 23 #[.string a, .int .i64 x, .int .i64 y]
  have hbz : b < w1.heap.size := k2.lt
  rw [World.size_alloc] at k4
  have K2 := Lib.hid k2
  have BB2 := Lib.hid B2
  clear k2 B2
  obtain ⟨F, hFF⟩ : ∃ F, fmtE a x y = F := ⟨_, rfl⟩
  rw [hFF] at hF E
  clear hFF
  by_cases hn : n = false
  · have E2 : Hid (parES s = .tuple #[.agg #[.string ⟨#[]⟩, .int .i64 0, .int .i64 0], .bool false]) := Lib.hid ((((E.out _).1 rfl)).trans (by rw [if_pos (.inl hn)]))
    subst hn
    have c0 : w1.cell? ⟨b, 0, none⟩ = some (.string ⟨#[]⟩) := K2.out.cell 0
    have c1 : w1.cell? ⟨b, 1, none⟩ = some (.int .i64 0) := K2.out.cell 1
    have c2 : w1.cell? ⟨b, 2, none⟩ = some (.int .i64 0) := K2.out.cell 2
    have cf := K2.out.frozen
    go_wp2_with fail
    have kf := ((((K2.out.set_ 0 (.string ⟨#[]⟩)).set_ 1 (.int .i64 0)).set_ 2 (.int .i64 0)).alloc (.cells #[.string a, .int .i64 x, .int .i64 y] 41)).alloc (.cells #[.string a, .int .i64 x, .int .i64 y] 23)
    have g0 := (kf.cell 0).trans (show _ = some (Value.string ⟨#[]⟩) from rfl)
    have g1 := (kf.cell 1).trans (show _ = some (Value.int .i64 0) from rfl)
    have g2 := (kf.cell 2).trans (show _ = some (Value.int .i64 0) from rfl)
    have Bf := ((((BB2.out.setCell (p := ⟨b, 0, none⟩) (Nat.le_refl _) (.string ⟨#[]⟩)).setCell (p := ⟨b, 1, none⟩) (Nat.le_refl _) (.int .i64 0)).setCell (p := ⟨b, 2, none⟩) (Nat.le_refl _) (.int .i64 0)).alloc (by have := BB2.out.size; simp; omega) (.cells #[.string a, .int .i64 x, .int .i64 y] 41)).alloc (by have := BB2.out.size; simp; omega) (.cells #[.string a, .int .i64 x, .int .i64 y] 23)
    exact bodyPost_ret (v := .tuple #[.agg #[.string ⟨#[]⟩, .int .i64 0, .int .i64 0], .bool false]) (by simp [results, Tryd.results6, go_sem, g0, g1, g2]) rfl
      ⟨by rw [E2.out], by rw [HB.out]; exact Bf⟩
  · obtain rfl : n = true := by simpa using hn
    go_wp2_with fail
    generalize (w1.alloc (.cells #[.string a, .int .i64 x, .int .i64 y] 41)).alloc (.cells #[.string a, .int .i64 x, .int .i64 y] 23) = w2 at k3 k4 B3 ⊢
    obtain ⟨d, hd⟩ : ∃ d, w1.heap.size = d := ⟨_, rfl⟩
    rw [hd] at k4 hbz ⊢
    clear hd
    refine (hF _).mono ?_
    rintro e w3 ⟨rfl, hb3⟩
    have k5 := k3.below hb3 k3.lt
    have k6 := k4.below hb3 k4.lt
    have B4 := B3.trans (hb3.mono (Nat.le_trans hle B3.size))
    clear k3 k4 B3 hb3 hA hF
    have c0 : w3.cell? ⟨b, 0, none⟩ = some (.string ⟨#[]⟩) := k5.cell 0
    have c1 : w3.cell? ⟨b, 1, none⟩ = some (.int .i64 0) := k5.cell 1
    have c2 : w3.cell? ⟨b, 2, none⟩ = some (.int .i64 0) := k5.cell 2
    have cf := k5.frozen
    have d0 : w3.cell? ⟨d + 1, 0, none⟩ = some (.string a) := k6.cell 0
    have d1 : w3.cell? ⟨d + 1, 1, none⟩ = some (.int .i64 x) := k6.cell 1
    have d2 : w3.cell? ⟨d + 1, 2, none⟩ = some (.int .i64 y) := k6.cell 2
    by_cases hq : F = s
    · have E2 : Hid (parES s = .tuple #[.agg #[.string a, .int .i64 x, .int .i64 y], .bool true]) := Lib.hid ((((E.out _).1 rfl)).trans (by rw [if_neg (by simp [hq])]))
      have hq2 : (F.toList == s.toList) = true := (Lib.bytes_beq_iff _ _).2 hq
      clear hq
      go_wp2_with fail
      exact bodyPost_ret (v := .tuple #[.agg #[.string a, .int .i64 x, .int .i64 y], .bool true]) (by simp [results, Tryd.results6, go_sem, c0, c1, c2]) rfl
        ⟨by rw [E2.out], by rw [HB.out]; exact ((B4.setCell (Nat.le_refl _) _).setCell (Nat.le_refl _) _).setCell (Nat.le_refl _) _⟩
    · have E2 : Hid (parES s = .tuple #[.agg #[.string ⟨#[]⟩, .int .i64 0, .int .i64 0], .bool false]) := Lib.hid ((((E.out _).1 rfl)).trans (by rw [if_pos (.inr hq)]))
      have hq2 : (F.toList == s.toList) = false := (Lib.bytes_beq_false_iff _ _).2 hq
      clear hq
      go_wp2_with fail
      exact bodyPost_ret (v := .tuple #[.agg #[.string ⟨#[]⟩, .int .i64 0, .int .i64 0], .bool false]) (by simp [results, Tryd.results6, go_sem, c0, c1, c2]) rfl
        ⟨by rw [E2.out], by rw [HB.out]; exact ((B4.setCell (Nat.le_refl _) _).setCell (Nat.le_refl _) _).setCell (Nat.le_refl _) _⟩
end Go.Proofs.YtpdbkohfmkmemaaDoor
