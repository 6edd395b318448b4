/-
  ParseDeed, ParseEvent, by the program.
-/
import Derived.Test.YtpdbkohfmkmemaaDoorParse2
import Derived.Test.YtpdbkohfmkmemaaDoorEvt2
namespace Go.Proofs.YtpdbkohfmkmemaaDoor
open Go.RowKit Go.Shelf
set_option linter.unusedSimpArgs false
set_option linter.unusedVariables false

/-- an event out of its text, by the program -/
def parEI (s : ByteArray) : Value :=
  if (actI s).2.2.2 = 0 ∨ fmtE (actI s).1 (actI s).2.1 (actI s).2.2.1 ≠ s then .tuple #[.agg #[.string ⟨#[]⟩, .int .i64 0, .int .i64 0], .bool false]
  else .tuple #[.agg #[.string (actI s).1, .int .i64 (actI s).2.1, .int .i64 (actI s).2.2.1], .bool true]
set_option maxHeartbeats 1000000 in
theorem iParseEvent_any (s : ByteArray) (w : World) (ht : Tab w) (he : ErrIs w) (hs : s.size ≤ 1048576) :
    Calls Tryd.prog 7 #[.string s] w fun e w' => e = .returned (parEI s) ∧ Below w.heap.size w w' := by
  have hz := actI_size s
  have hA := fun W ht he => parseAct_any s W ht he hs
  have hF := fun W ht => iFormatEvent_any (actI s).1 (actI s).2.1 (actI s).2.2.1 W ht (Nat.le_trans hz hs)
  have E : Hid (∀ r, r = parEI s ↔ r = if (actI s).2.2.2 = 0 ∨ fmtE (actI s).1 (actI s).2.1 (actI s).2.2.1 ≠ s then .tuple #[.agg #[.string ⟨#[]⟩, .int .i64 0, .int .i64 0], .bool false]
    else .tuple #[.agg #[.string (actI s).1, .int .i64 (actI s).2.1, .int .i64 (actI s).2.2.1], .bool true]) := Lib.hid (fun r => Iff.rfl)
  obtain ⟨D, hD⟩ : ∃ D, actI s = D := ⟨_, rfl⟩
  rw [hD] at hA hF E
  clear hz hD hs
  obtain ⟨a, x, y, n⟩ := D
  simp only at hA hF E
  have k1 := Blk.new w 23 #[.string ⟨#[]⟩, .int .i64 0, .int .i64 0]
  have B1 := (Below.refl w.heap.size w).alloc (Nat.le_refl _) (.cells #[.string ⟨#[]⟩, .int .i64 0, .int .i64 0] 23)
  go_enter Tryd.func7, Tryd.ntmps7
  go_wp2_with fail
  generalize w.alloc (.cells #[.string ⟨#[]⟩, .int .i64 0, .int .i64 0] 23) = w0 at k1 B1 ⊢
  obtain ⟨b, hb⟩ : ∃ b, w.heap.size = b := ⟨_, rfl⟩
  have htb := fun W (h : Below b w W) => ht.below (hb ▸ h)
  have heb := fun W (h : Below b w W) => he.below (hb ▸ h)
  rw [hb] at k1 B1 ⊢
  have HB := Lib.hid hb
  have hle : b ≤ w.heap.size := Nat.le_of_eq hb.symm
  clear hb ht he
  refine (hA _ (htb _ B1) (heb _ B1)).mono ?_
  rintro e w1 ⟨rfl, hb1⟩
  have k2 := k1.below hb1 k1.lt
  have B2 := B1.trans (hb1.mono (Nat.le_trans hle B1.size))
  clear k1 B1 hb1
  have k3 := (k2.alloc (.cells #[.int .i64 x, .int .i64 y] 44)).alloc (.cells #[.string a, .int .i64 x, .int .i64 y] 23)
  have B3 := (B2.alloc (Nat.le_trans hle B2.size) (.cells #[.int .i64 x, .int .i64 y] 44)).alloc (by have := B2.size; simp; omega) (.cells #[.string a, .int .i64 x, .int .i64 y] 23)
  have k4 := Blk.new (w1.alloc (.cells #[.int .i64 x, .int .i64 y] 44)) 23 #[.string a, .int .i64 x, .int .i64 y]
  have hbz : b < w1.heap.size := k2.lt
  rw [World.size_alloc] at k4
  have K2 := Lib.hid k2
  have BB2 := Lib.hid B2
  clear k2 B2
  obtain ⟨F, hFF⟩ : ∃ F, fmtE a x y = F := ⟨_, rfl⟩
  rw [hFF] at hF E
  clear hFF
  by_cases hn : n = 0
  · have E2 : Hid (parEI s = .tuple #[.agg #[.string ⟨#[]⟩, .int .i64 0, .int .i64 0], .bool false]) := Lib.hid ((((E.out _).1 rfl)).trans (by rw [if_pos (.inl hn)]))
    subst hn
    have c0 : w1.cell? ⟨b, 0, none⟩ = some (.string ⟨#[]⟩) := K2.out.cell 0
    have c1 : w1.cell? ⟨b, 1, none⟩ = some (.int .i64 0) := K2.out.cell 1
    have c2 : w1.cell? ⟨b, 2, none⟩ = some (.int .i64 0) := K2.out.cell 2
    have cf := K2.out.frozen
    go_wp2_with fail
    have kf := ((((K2.out.set_ 0 (.string ⟨#[]⟩)).set_ 1 (.int .i64 0)).set_ 2 (.int .i64 0)).alloc (.cells #[.int .i64 x, .int .i64 y] 44)).alloc (.cells #[.string a, .int .i64 x, .int .i64 y] 23)
    have g0 := (kf.cell 0).trans (show _ = some (Value.string ⟨#[]⟩) from rfl)
    have g1 := (kf.cell 1).trans (show _ = some (Value.int .i64 0) from rfl)
    have g2 := (kf.cell 2).trans (show _ = some (Value.int .i64 0) from rfl)
    have Bf := ((((BB2.out.setCell (p := ⟨b, 0, none⟩) (Nat.le_refl _) (.string ⟨#[]⟩)).setCell (p := ⟨b, 1, none⟩) (Nat.le_refl _) (.int .i64 0)).setCell (p := ⟨b, 2, none⟩) (Nat.le_refl _) (.int .i64 0)).alloc (by have := BB2.out.size; simp; omega) (.cells #[.int .i64 x, .int .i64 y] 44)).alloc (by have := BB2.out.size; simp; omega) (.cells #[.string a, .int .i64 x, .int .i64 y] 23)
    exact bodyPost_ret (v := .tuple #[.agg #[.string ⟨#[]⟩, .int .i64 0, .int .i64 0], .bool false]) (by simp [results, Tryd.results7, go_sem, g0, g1, g2]) rfl
      ⟨by rw [E2.out], by rw [HB.out]; exact Bf⟩
  · go_wp2_with fail
    generalize (w1.alloc (.cells #[.int .i64 x, .int .i64 y] 44)).alloc (.cells #[.string a, .int .i64 x, .int .i64 y] 23) = w2 at k3 k4 B3 ⊢
    obtain ⟨d, hd⟩ : ∃ d, w1.heap.size = d := ⟨_, rfl⟩
    rw [hd] at k4 hbz ⊢
    clear hd
    refine (hF _ (htb _ B3)).mono ?_
    rintro e w3 ⟨rfl, hb3⟩
    have k5 := k3.below hb3 k3.lt
    have k6 := k4.below hb3 k4.lt
    have B4 := B3.trans (hb3.mono (Nat.le_trans hle B3.size))
    clear k3 k4 B3 hb3 hA hF htb heb
    have c0 : w3.cell? ⟨b, 0, none⟩ = some (.string ⟨#[]⟩) := k5.cell 0
    have c1 : w3.cell? ⟨b, 1, none⟩ = some (.int .i64 0) := k5.cell 1
    have c2 : w3.cell? ⟨b, 2, none⟩ = some (.int .i64 0) := k5.cell 2
    have cf := k5.frozen
    have d0 : w3.cell? ⟨d + 1, 0, none⟩ = some (.string a) := k6.cell 0
    have d1 : w3.cell? ⟨d + 1, 1, none⟩ = some (.int .i64 x) := k6.cell 1
    have d2 : w3.cell? ⟨d + 1, 2, none⟩ = some (.int .i64 y) := k6.cell 2
    by_cases hq : F = s
    · have E2 : Hid (parEI s = .tuple #[.agg #[.string a, .int .i64 x, .int .i64 y], .bool true]) := Lib.hid ((((E.out _).1 rfl)).trans (by rw [if_neg (by simp [hn, hq])]))
      have hq2 : (F.toList == s.toList) = true := (Lib.bytes_beq_iff _ _).2 hq
      clear hq
      go_wp2_with fail
      exact bodyPost_ret (v := .tuple #[.agg #[.string a, .int .i64 x, .int .i64 y], .bool true]) (by simp [results, Tryd.results7, go_sem, c0, c1, c2]) rfl
        ⟨by rw [E2.out], by rw [HB.out]; exact ((B4.setCell (Nat.le_refl _) _).setCell (Nat.le_refl _) _).setCell (Nat.le_refl _) _⟩
    · have E2 : Hid (parEI s = .tuple #[.agg #[.string ⟨#[]⟩, .int .i64 0, .int .i64 0], .bool false]) := Lib.hid ((((E.out _).1 rfl)).trans (by rw [if_pos (.inr hq)]))
      have hq2 : (F.toList == s.toList) = false := (Lib.bytes_beq_false_iff _ _).2 hq
      clear hq
      go_wp2_with fail
      exact bodyPost_ret (v := .tuple #[.agg #[.string ⟨#[]⟩, .int .i64 0, .int .i64 0], .bool false]) (by simp [results, Tryd.results7, go_sem, c0, c1, c2]) rfl
        ⟨by rw [E2.out], by rw [HB.out]; exact ((B4.setCell (Nat.le_refl _) _).setCell (Nat.le_refl _) _).setCell (Nat.le_refl _) _⟩
end Go.Proofs.YtpdbkohfmkmemaaDoor
