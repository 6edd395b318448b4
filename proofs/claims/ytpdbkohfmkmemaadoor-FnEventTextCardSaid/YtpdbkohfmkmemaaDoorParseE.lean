/-
  The plain law: an event out of its text, by both alike; the law FnExactParseEvent, walked.
-/
import Derived.Test.YtpdbkohfmkmemaaDoorParseP
import Derived.Test.YtpdbkohfmkmemaaDoorParse3E
import Derived.Test.YtpdbkohfmkmemaaDoorParse4E
namespace Go.Proofs.YtpdbkohfmkmemaaDoor
open Go.RowKit Go.Shelf
set_option linter.unusedSimpArgs false
set_option linter.unusedVariables false

theorem kind_no_space {a : ByteArray} {x y : Int} (h : eventIn a.toList x y 4 = true) : (32 : UInt8) ∉ a.data.toList := by
  rw [← ByteArray.toList_eq]
  simp only [eventIn, Bool.or_eq_true, Bool.and_eq_true, beq_iff_eq] at h
  rcases h with ((h | h) | h) | h
  · rw [h.1.1]; decide
  · rw [h.1.1]; decide
  · rcases h.1.1 with h | h <;> rw [h] <;> decide
  · rw [h.1.1]; decide
theorem event_noring {L : List UInt8} {x y : Int} (h : eventIn L x y 4 = true) (hr : (L == ringL) = false) : y = 0 := by
  simp only [eventIn, hr, Bool.false_and, Bool.false_or, Bool.or_eq_true, Bool.and_eq_true, beq_iff_eq] at h
  rcases h with (h | h) | h <;> exact h.2
def yesD (a : ByteArray) (x y : Int) : Value := .tuple #[.agg #[.string a, .int .i64 x, .int .i64 y], .bool true]
def noD : Value := .tuple #[.agg #[.string ⟨#[]⟩, .int .i64 0, .int .i64 0], .bool false]
/-- a valid event's text is read by both as the event -/
theorem read_valid {a : ByteArray} {x y : Int} (h : eventIn a.toList x y 4 = true) : (∃ c, c ≠ 0 ∧ actI (fmtE a x y) = (a, x, y, c)) ∧ readS (fmtE a x y) = (a, x, y, true) := by
  obtain ⟨⟨x0, x6⟩, ⟨y0, y6⟩⟩ := event_parts h
  obtain ⟨X, rfl⟩ := Int.eq_ofNat_of_zero_le x0
  obtain ⟨Y, rfl⟩ := Int.eq_ofNat_of_zero_le y0
  have ha := kind_no_space h
  have hx : X ≤ 1000000 := by omega
  have hy : Y ≤ 1000000 := by omega
  rw [fmtE_yes h]
  cases hp : a.toList == ringL
  · have hY : Y = 0 := by
      have := event_noring h hp
      omega
    subst hY
    rw [tailE_no hp]
    have e : a ++ ⟨#[32]⟩ ++ decS X ++ ByteArray.empty = a ++ ⟨#[32]⟩ ++ decS X := by apply bytes_ext; simp [ByteArray.data_append]
    rw [e]
    exact ⟨⟨1, by decide, (both_two a X ha hx).1⟩, (both_two a X ha hx).2⟩
  · rw [tailE_ring hp]
    exact ⟨⟨2, by decide, (both_three a X Y ha hx hy).1⟩, (both_three a X Y ha hx hy).2⟩
theorem par_valid {a : ByteArray} {x y : Int} (h : eventIn a.toList x y 4 = true) : parEI (fmtE a x y) = yesD a x y ∧ parES (fmtE a x y) = yesD a x y := by
  obtain ⟨⟨c, hc, h1⟩, h2⟩ := read_valid h
  constructor
  · unfold parEI
    rw [h1, if_neg (by simp [hc])]
    rfl
  · unfold parES
    rw [h2, if_neg (by simp)]
    rfl
theorem par_none {s : ByteArray} (h : ¬ ∃ a x y, eventIn a.toList x y 4 = true ∧ fmtE a x y = s) : parEI s = noD ∧ parES s = noD := by
  constructor
  · unfold parEI
    rw [if_pos]
    · rfl
    · by_cases hc : (actI s).2.2.2 = 0
      · exact .inl hc
      · refine .inr fun e => ?_
        cases hv : eventIn (actI s).1.toList (actI s).2.1 (actI s).2.2.1 4 with
        | true => exact h ⟨_, _, _, hv, e⟩
        | false =>
          rw [fmtE_no hv] at e
          rw [← e] at hc
          exact hc actI_none
  · unfold parES
    rw [if_pos]
    · rfl
    · by_cases hc : (readS s).2.2.2 = false
      · exact .inl hc
      · refine .inr fun e => ?_
        cases hv : eventIn (readS s).1.toList (readS s).2.1 (readS s).2.2.1 4 with
        | true => exact h ⟨_, _, _, hv, e⟩
        | false =>
          rw [fmtE_no hv] at e
          rw [← e] at hc
          exact hc readS_none
theorem par_cases (s : ByteArray) : (∃ a x y, eventIn a.toList x y 4 = true ∧ fmtE a x y = s ∧ parEI s = yesD a x y ∧ parES s = yesD a x y) ∨ (parEI s = noD ∧ parES s = noD) := by
  by_cases h : ∃ a x y, eventIn a.toList x y 4 = true ∧ fmtE a x y = s
  · obtain ⟨a, x, y, hv, rfl⟩ := h
    exact .inl ⟨a, x, y, hv, rfl, par_valid hv⟩
  · exact .inr (par_none h)
theorem eqEvent_same (s : ByteArray) (x y : Int) (w : World) : Calls Tryd.prog 8 #[.agg #[.string s, .int .i64 x, .int .i64 y], .agg #[.string s, .int .i64 x, .int .i64 y]] w fun e w' => e = .returned (.bool true) ∧ Below w.heap.size w w' := by
  go_enter Tryd.func8, Tryd.ntmps8
  go_wp2
  go_ret
  exact ⟨rfl, ((Below.refl _ _).alloc (Nat.le_refl _) _).alloc (by simp) _⟩
set_option maxHeartbeats 1000000 in
theorem FnExactParseEvent_walk (s : ByteArray) (w : World) (ht : Tab w) (he : ErrIs w) (hs : s.size ≤ maxLen) :
    Calls Tryd.prog 3 #[.string s] w fun e w' => e = .returned (.bool true) ∧ Below w.heap.size w w' := by
  by_cases h : (1048576 : Int) < s.size
  · unfold maxLen at hs
    go_enter Tryd.func3, Tryd.ntmps3
    go_wp2_with fail
    go_ret
    exact ⟨rfl, Below.refl _ _⟩
  have hs6 : s.size ≤ 1048576 := by omega
  have hI := fun W ht he => iParseEvent_any s W ht he hs6
  have hS := fun W => sParseEvent_any s W hs6
  obtain ⟨a, x, y, ok, e1, e2⟩ : ∃ a x y ok, parEI s = .tuple #[.agg #[.string a, .int .i64 x, .int .i64 y], .bool ok] ∧ parES s = .tuple #[.agg #[.string a, .int .i64 x, .int .i64 y], .bool ok] := by
    rcases par_cases s with ⟨a, x, y, _, _, h1, h2⟩ | ⟨h1, h2⟩
    · exact ⟨a, x, y, true, h1, h2⟩
    · exact ⟨_, _, _, false, h1, h2⟩
  rw [e1] at hI
  rw [e2] at hS
  have hb : (ok != ok) = false := by cases ok <;> rfl
  clear e1 e2 hs6 hs
  go_enter Tryd.func3, Tryd.ntmps3
  go_wp2_with fail
  refine (hS _).mono ?_
  rintro e w1 ⟨rfl, hb1⟩
  have k1 := Blk.new w1 23 #[.string a, .int .i64 x, .int .i64 y]
  have B1 := hb1.alloc hb1.size (.cells #[.string a, .int .i64 x, .int .i64 y] 23)
  go_wp2_with fail
  generalize w1.alloc (.cells #[.string a, .int .i64 x, .int .i64 y] 23) = w2 at k1 B1 ⊢
  obtain ⟨d, hd⟩ : ∃ d, w1.heap.size = d := ⟨_, rfl⟩
  rw [hd] at k1 ⊢
  clear hd hb1
  refine (hI _ (ht.below B1) (he.below B1)).mono ?_
  rintro e w3 ⟨rfl, hb3⟩
  have k2 := k1.below hb3 k1.lt
  have B2 := B1.trans (hb3.mono B1.size)
  have k3 := k2.alloc (.cells #[.string a, .int .i64 x, .int .i64 y] 23)
  have k4 := Blk.new w3 23 #[.string a, .int .i64 x, .int .i64 y]
  have B3 := B2.alloc B2.size (.cells #[.string a, .int .i64 x, .int .i64 y] 23)
  clear k1 B1 hb3 hI hS
  have c0 : w3.cell? ⟨d, 0, none⟩ = some (.string a) := k2.cell 0
  have c1 : w3.cell? ⟨d, 1, none⟩ = some (.int .i64 x) := k2.cell 1
  have c2 : w3.cell? ⟨d, 2, none⟩ = some (.int .i64 y) := k2.cell 2
  have hdl : d < w3.heap.size := k2.lt
  go_wp2_with fail
  refine (eqEvent_same a x y _).mono ?_
  rintro e w4 ⟨rfl, hb4⟩
  have B4 := B3.trans (hb4.mono B3.size)
  go_wp2_with fail
  go_ret
  exact ⟨rfl, B4⟩
end Go.Proofs.YtpdbkohfmkmemaaDoor
