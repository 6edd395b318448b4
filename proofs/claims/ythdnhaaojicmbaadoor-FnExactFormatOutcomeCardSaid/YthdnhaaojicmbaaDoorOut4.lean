/-
  The law FnExactFormatOutcome's own functions: szOutcome, toOutcome, eqOutcome.
-/
import Derived.Test.YthdnhaaojicmbaaDoorOut3
namespace Go.Proofs.YthdnhaaojicmbaaDoor
open Go.RowKit
set_option linter.unusedSimpArgs false
set_option linter.unusedVariables false

theorem szIntS_no (A : Option Addr) (c n : Nat) (left : Int) (w : World) (hn : n ≤ maxLen) (h0 : 0 ≤ left) (h1 : left ≤ 1048576) (h : left < n) : Calls Tryd.prog 11 #[.slice A n c, .int .i64 left] w fun e w' =>
    e = .returned (.int .i64 (-1)) ∧ w' = w := by
  unfold maxLen at hn
  go_enter Tryd.func11, Tryd.ntmps11
  go_wp2
  go_ret
  exact ⟨rfl, rfl⟩
theorem szIntS_ok (A : Option Addr) (c n : Nat) (left : Int) (w : World) (h1 : left ≤ 1048576) (h : n ≤ left) : Calls Tryd.prog 11 #[.slice A n c, .int .i64 left] w fun e w' =>
    e = .returned (.int .i64 (left - n)) ∧ w' = w := by
  go_enter Tryd.func11, Tryd.ntmps11
  go_wp2
  go_ret
  exact ⟨rfl, rfl⟩
theorem szOutcome_no1 (A : Option Addr) (c n : Nat) (s : ByteArray) (y left : Int) (w : World) (hn : n ≤ maxLen) (h0 : 0 ≤ left) (h1 : left ≤ 1048576) (h : left < n) : Calls Tryd.prog 5 #[.agg #[.slice A n c, .string s, .int .i64 y], .int .i64 left] w fun e w' =>
    e = .returned (.int .i64 (-1)) ∧ Below w.heap.size w w' := by
  have hk := fun W => szIntS_no A c n left W hn h0 h1 h
  clear hn h0 h1 h
  go_enter Tryd.func5, Tryd.ntmps5
  go_wp2_with fail
  refine (hk _).mono ?_
  rintro e w1 ⟨rfl, rfl⟩
  go_wp2_with fail
  go_ret
  exact ⟨rfl, (Below.refl _ _).alloc (Nat.le_refl _) _⟩
theorem szOutcome_no2 (A : Option Addr) (c n : Nat) (s : ByteArray) (y left : Int) (w : World) (hs : s.size ≤ maxLen) (h1 : left ≤ 1048576) (h : n ≤ left) (h2 : left - n < s.size) : Calls Tryd.prog 5 #[.agg #[.slice A n c, .string s, .int .i64 y], .int .i64 left] w fun e w' =>
    e = .returned (.int .i64 (-1)) ∧ Below w.heap.size w w' := by
  unfold maxLen at hs
  have hk := fun W => szIntS_ok A c n left W h1 h
  go_enter Tryd.func5, Tryd.ntmps5
  go_wp2_with fail
  refine (hk _).mono ?_
  rintro e w1 ⟨rfl, rfl⟩
  go_wp2_with fail
  go_ret
  exact ⟨rfl, (Below.refl _ _).alloc (Nat.le_refl _) _⟩
theorem szOutcome_ok (A : Option Addr) (c n : Nat) (s : ByteArray) (y left : Int) (w : World) (h1 : left ≤ 1048576) (h : n ≤ left) (h2 : s.size ≤ left - n) : Calls Tryd.prog 5 #[.agg #[.slice A n c, .string s, .int .i64 y], .int .i64 left] w fun e w' =>
    e = .returned (.int .i64 (left - n - s.size)) ∧ Below w.heap.size w w' := by
  have hk := fun W => szIntS_ok A c n left W h1 h
  go_enter Tryd.func5, Tryd.ntmps5
  go_wp2_with fail
  refine (hk _).mono ?_
  rintro e w1 ⟨rfl, rfl⟩
  go_wp2_with fail
  go_ret
  exact ⟨rfl, (Below.refl _ _).alloc (Nat.le_refl _) _⟩
/-- an outcome of its own -/
def NewO (w : World) (l : List Int) (s : ByteArray) (y : Int) (e : Ending) (w' : World) : Prop :=
  ∃ g, e = .returned (.agg #[.slice (some ⟨g, 0, none⟩) l.length l.length, .string s, .int .i64 y]) ∧ w.heap.size ≤ g ∧ Blk w' g 3 (ints l).toArray ∧ Below w.heap.size w w'
set_option maxHeartbeats 1000000 in
theorem toOutcome_any (A : Option Addr) (c : Nat) (l : List Int) (s : ByteArray) (y : Int) (w : World) (h : RI w w.heap.size A l) (hn : l.length ≤ 1048576) :
    Calls Tryd.prog 7 #[.agg #[.slice A l.length c, .string s, .int .i64 y]] w (NewO w l s y) := by
  have hT := fun W hR => toIntS_any A c l W hR hn
  have k1 := Blk.new w 24 #[.slice A l.length c, .string s, .int .i64 y]
  have k2 := Blk.new (w.alloc (.cells #[.slice A l.length c, .string s, .int .i64 y] 24)) 27 #[.slice none 0 0, .string ⟨#[]⟩, .int .i64 0]
  have k3 := Blk.new ((w.alloc (.cells #[.slice A l.length c, .string s, .int .i64 y] 24)).alloc (.cells #[.slice none 0 0, .string ⟨#[]⟩, .int .i64 0] 27)) 27 #[.slice none 0 0, .string ⟨#[]⟩, .int .i64 0]
  have k1' := (k1.alloc (.cells #[.slice none 0 0, .string ⟨#[]⟩, .int .i64 0] 27)).alloc (.cells #[.slice none 0 0, .string ⟨#[]⟩, .int .i64 0] 27)
  have k2' := k2.alloc (.cells #[.slice none 0 0, .string ⟨#[]⟩, .int .i64 0] 27)
  have B3 := (((Below.refl w.heap.size w).alloc (Nat.le_refl _) (.cells #[.slice A l.length c, .string s, .int .i64 y] 24)).alloc (by simp) (.cells #[.slice none 0 0, .string ⟨#[]⟩, .int .i64 0] 27)).alloc (by simp; omega) (.cells #[.slice none 0 0, .string ⟨#[]⟩, .int .i64 0] 27)
  have hz : ((((w.alloc (.cells #[.slice A l.length c, .string s, .int .i64 y] 24)).alloc (.cells #[.slice none 0 0, .string ⟨#[]⟩, .int .i64 0] 27)).alloc (.cells #[.slice none 0 0, .string ⟨#[]⟩, .int .i64 0] 27))).heap.size = w.heap.size + 3 := by simp
  have hR := (h.below B3).more (B3.size)
  simp only [World.size_alloc] at k2' k3
  clear k1 k2
  go_enter Tryd.func7, Tryd.ntmps7
  go_wp2_with fail
  generalize (((w.alloc (.cells #[.slice A l.length c, .string s, .int .i64 y] 24)).alloc (.cells #[.slice none 0 0, .string ⟨#[]⟩, .int .i64 0] 27)).alloc (.cells #[.slice none 0 0, .string ⟨#[]⟩, .int .i64 0] 27)) = w0 at k1' k2' k3 B3 hz hR ⊢
  refine (hT _ hR).mono ?_
  rintro e w1 ⟨g, rfl, hg, hblk, hb1⟩
  have q1 := k1'.below hb1 (by omega)
  have q2 := k2'.below hb1 (by omega)
  have q3 := k3.below hb1 (by omega)
  have B4 := B3.trans (hb1.mono B3.size)
  obtain ⟨b, hb⟩ : ∃ b, w.heap.size = b := ⟨_, rfl⟩
  rw [hb] at q1 q2 q3 hz B4 ⊢
  have HB := Lib.hid hb
  clear hb k1' k2' k3 hR B3 hb1
  have a0 : w1.cell? ⟨b, 0, none⟩ = some (.slice A l.length c) := q1.cell 0
  have a1 : w1.cell? ⟨b, 1, none⟩ = some (.string s) := q1.cell 1
  have a2 : w1.cell? ⟨b, 2, none⟩ = some (.int .i64 y) := q1.cell 2
  have f3 := q3.frozen
  have f2 := q2.frozen
  have c20 : w1.cell? ⟨b + 1, 0, none⟩ = some (.slice none 0 0) := q2.cell 0
  have c21 : w1.cell? ⟨b + 1, 1, none⟩ = some (.string ⟨#[]⟩) := q2.cell 1
  have c22 : w1.cell? ⟨b + 1, 2, none⟩ = some (.int .i64 0) := q2.cell 2
  have c30 : w1.cell? ⟨b + 1 + 1, 0, none⟩ = some (.slice none 0 0) := q3.cell 0
  have c31 : w1.cell? ⟨b + 1 + 1, 1, none⟩ = some (.string ⟨#[]⟩) := q3.cell 1
  have c32 : w1.cell? ⟨b + 1 + 1, 2, none⟩ = some (.int .i64 0) := q3.cell 2
  go_wp2_with fail
  exact bodyPost_ret (v := .agg #[.slice (some ⟨g, 0, none⟩) l.length l.length, .string s, .int .i64 y]) (by simp [results, Tryd.results7, go_sem, c20, c21, c22, c30, c31, c32]) rfl
    ⟨g, rfl, by have := HB.out; omega, (((((hblk.far (p := ⟨b + 1 + 1, 0, none⟩) (by show g ≠ b + 1 + 1; omega) _).far (p := ⟨b + 1 + 1, 1, none⟩) (by show g ≠ b + 1 + 1; omega) _).far (p := ⟨b + 1 + 1, 2, none⟩) (by show g ≠ b + 1 + 1; omega) _).far (p := ⟨b + 1, 0, none⟩) (by show g ≠ b + 1; omega) _).far (p := ⟨b + 1, 1, none⟩) (by show g ≠ b + 1; omega) _).far (p := ⟨b + 1, 2, none⟩) (by show g ≠ b + 1; omega) _,
      by rw [HB.out]; exact (((((B4.setCell (by show b ≤ b + 1 + 1; omega) _).setCell (by show b ≤ b + 1 + 1; omega) _).setCell (by show b ≤ b + 1 + 1; omega) _).setCell (by show b ≤ b + 1; omega) _).setCell (by show b ≤ b + 1; omega) _).setCell (by show b ≤ b + 1; omega) _⟩
set_option maxHeartbeats 1000000 in
theorem eqOutcome_same (A A' : Option Addr) (c c' : Nat) (l : List Int) (s : ByteArray) (y : Int) (w : World) (B B' : Nat) (h : RI w w.heap.size A l) (h' : RI w w.heap.size A' l) (hn : l.length ≤ 1048576) :
    Calls Tryd.prog 9 #[.agg #[.slice A l.length c, .string s, .int .i64 y], .agg #[.slice A' l.length c', .string s, .int .i64 y]] w fun e w' => e = .returned (.bool true) ∧ Below w.heap.size w w' := by
  have hE := fun W B B' h h' => eqIntS_any A A' c c' l l W B B' h h' hn hn
  go_enter Tryd.func9, Tryd.ntmps9
  go_wp2_with fail
  have B1 := ((Below.refl w.heap.size w).alloc (Nat.le_refl _) (.cells #[.slice A l.length c, .string s, .int .i64 y] 27)).alloc (by simp) (.cells #[.slice A' l.length c', .string s, .int .i64 y] 27)
  refine (hE _ w.heap.size w.heap.size (h.below B1) (h'.below B1)).mono ?_
  rintro e w1 ⟨rfl, n, rfl⟩
  have hb : (l == l) = true := by simp
  rw [hb]
  have B2 := below_drewN B1 n
  go_wp2_with fail
  go_ret
  exact ⟨rfl, B2⟩
end Go.Proofs.YthdnhaaojicmbaaDoor
