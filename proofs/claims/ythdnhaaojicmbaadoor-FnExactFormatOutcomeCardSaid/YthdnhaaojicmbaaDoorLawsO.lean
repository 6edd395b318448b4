/-
  The law FnExactFormatOutcome, walked.
-/
import Derived.Test.YthdnhaaojicmbaaDoorOut4
namespace Go.Proofs.YthdnhaaojicmbaaDoor
open Go.RowKit
set_option linter.unusedSimpArgs false
set_option linter.unusedVariables false

theorem wf_i64 {x : Int} (h : (Lit.int .i64 x).wf = true) : -9223372036854775808 ≤ x ∧ x ≤ 9223372036854775807 := by
  simpa [Lit.wf, IntKind.min, IntKind.max, IntKind.signed, IntKind.bits] using h
theorem Blk.own_ {w w' : World} {g B : Nat} {t : TypeId} {cs : Array Value} (h : Blk w g t cs) (hb : Below w.heap.size w w') : Blk w' g t cs := h.below hb h.lt
set_option maxHeartbeats 4000000 in
theorem FnExactFormatOutcome_walk (A : Option Addr) (l : List Int) (c : Nat) (s : ByteArray) (y : Int) (w : World) (ht : Tab w) (hr : Reads w w.heap.size 1 A l.length (l.map (Value.int .i64))) (hc : l.length ≤ c) (hm : c ≤ maxLen) (hw : ∀ x ∈ l, (Lit.int .i64 x).wf = true) (hs : s.size ≤ maxLen) (wy : (Lit.int .i64 y).wf = true) :
    Calls Tryd.prog 3 #[.agg #[.slice A l.length c, .string s, .int .i64 y]] w fun e w' => e = .returned (.bool true) ∧ Below w.heap.size w w' := by
  have hn : l.length ≤ maxLen := Nat.le_trans hc hm
  obtain ⟨y0, y1⟩ := wf_i64 wy
  have hv := fun x hx => wf_i64 (hw x hx)
  have hR : RI w w.heap.size A l := hr
  clear hr hw wy hc hm
  have B1 := (Below.refl w.heap.size w).alloc (Nat.le_refl _) (.cells #[.slice A l.length c, .string s, .int .i64 y] 24)
  by_cases h1 : (1048576 : Int) < l.length
  · clear ht hv
    go_enter Tryd.func3, Tryd.ntmps3
    go_wp2_with fail
    refine (szOutcome_no1 A c l.length s y _ _ hn (by omega) (by omega) h1).mono ?_
    rintro e w1 ⟨rfl, hb1⟩
    go_wp2_with fail
    go_ret
    exact ⟨rfl, B1.trans (hb1.mono (by simp))⟩
  by_cases h2 : (1048576 : Int) - l.length < s.size
  · clear ht hv
    go_enter Tryd.func3, Tryd.ntmps3
    go_wp2_with fail
    refine (szOutcome_no2 A c l.length s y _ _ hs (by omega) (by omega) h2).mono ?_
    rintro e w1 ⟨rfl, hb1⟩
    go_wp2_with fail
    go_ret
    exact ⟨rfl, B1.trans (hb1.mono (by simp))⟩
  have n1 : l.length ≤ 1048576 := by omega
  have n2 : s.size ≤ 1048576 := by omega
  have n3 : (s.size : Int) ≤ 1048576 - l.length := by omega
  have n4 : (l.length : Int) ≤ 1048576 := by omega
  have m1 : ¬ (1048576 : Int) - l.length - s.size < 0 := by omega
  have S := Lib.hid (fun A' W h => sFormatOutcome_any A' l.length l s y W h n1 hv n2 y0 y1)
  have I := Lib.hid (fun A' W ht h => iFormatOutcome_any A' l.length l s y W ht h n1 hv n2 y0 y1)
  have T := Lib.hid (fun W h => toOutcome_any A c l s y W h n1)
  have E := Lib.hid (fun A1 A2 W h h' => eqOutcome_same A1 A2 l.length l.length l s y W 0 0 h h' n1)
  obtain ⟨O, hO⟩ : ∃ O, outT l s y = O := ⟨_, rfl⟩
  rw [hO] at S I
  clear hO hv h1 h2 hn hs
  have k1 := Blk.new w 24 #[.slice A l.length c, .string s, .int .i64 y]
  go_enter Tryd.func3, Tryd.ntmps3
  go_wp2_with fail
  generalize w.alloc (.cells #[.slice A l.length c, .string s, .int .i64 y] 24) = w0 at k1 B1 ⊢
  obtain ⟨b, hb⟩ : ∃ b, w.heap.size = b := ⟨_, rfl⟩
  rw [hb] at k1 B1 hR ⊢
  have HB := Lib.hid hb
  have hle : b ≤ w.heap.size := Nat.le_of_eq hb.symm
  have RR : ∀ W, Below b w W → RI W W.heap.size A l := fun W h => (hR.below h).more (Nat.le_trans hle h.size)
  have TT : ∀ W, Below b w W → Tab W := fun W h => ht.below (hb ▸ h)
  clear hb hR ht
  refine (szOutcome_ok A c l.length s y _ _ (by omega) n4 n3).mono ?_
  rintro e w1 ⟨rfl, hb1⟩
  have q1 := k1.own_ (B := 0) hb1
  have B2 := B1.trans (hb1.mono (Nat.le_trans hle B1.size))
  have a0 : w1.cell? ⟨b, 0, none⟩ = some (.slice A l.length c) := q1.cell 0
  have a1 : w1.cell? ⟨b, 1, none⟩ = some (.string s) := q1.cell 1
  have a2 : w1.cell? ⟨b, 2, none⟩ = some (.int .i64 y) := q1.cell 2
  clear k1 B1 hb1
  go_wp2_with fail
  refine (T.out _ (RR _ B2)).mono ?_
  rintro e w2 ⟨g1, rfl, hg1, hblk1, hb2⟩
  have q2 := q1.own_ (B := 0) hb2
  have B3 := B2.trans (hb2.mono (Nat.le_trans hle B2.size))
  clear a0 a1 a2 q1
  go_wp2_with fail
  refine (S.out _ _ hblk1.RI).mono ?_
  rintro e w3 ⟨rfl, hb3⟩
  have q3 := q2.own_ (B := 0) hb3
  have B4 := B3.trans (hb3.mono (Nat.le_trans hle B3.size))
  have a0 : w3.cell? ⟨b, 0, none⟩ = some (.slice A l.length c) := q3.cell 0
  have a1 : w3.cell? ⟨b, 1, none⟩ = some (.string s) := q3.cell 1
  have a2 : w3.cell? ⟨b, 2, none⟩ = some (.int .i64 y) := q3.cell 2
  clear hblk1 hb3 q2 B3 hg1 hb2 B2
  go_wp2_with fail
  refine (T.out _ (RR _ B4)).mono ?_
  rintro e w4 ⟨g2, rfl, hg2, hblk2, hb4⟩
  have q4 := q3.own_ (B := 0) hb4
  have B5 := B4.trans (hb4.mono (Nat.le_trans hle B4.size))
  clear a0 a1 a2 q3
  go_wp2_with fail
  have k5 := Blk.new w4 27 #[.slice (some ⟨g2, 0, none⟩) l.length l.length, .string s, .int .i64 y]
  have r5 := (hblk2.alloc (.cells #[.slice (some ⟨g2, 0, none⟩) l.length l.length, .string s, .int .i64 y] 27))
  have q5 := (q4.alloc (.cells #[.slice (some ⟨g2, 0, none⟩) l.length l.length, .string s, .int .i64 y] 27))
  have B6 := B5.alloc (Nat.le_trans hle B5.size) (.cells #[.slice (some ⟨g2, 0, none⟩) l.length l.length, .string s, .int .i64 y] 27)
  generalize w4.alloc (.cells #[.slice (some ⟨g2, 0, none⟩) l.length l.length, .string s, .int .i64 y] 27) = w5 at k5 r5 q5 B6 ⊢
  obtain ⟨d, hd⟩ : ∃ d, w4.heap.size = d := ⟨_, rfl⟩
  rw [hd] at k5 ⊢
  clear hd hblk2 q4 B5 hb4 hg2 B4
  refine (I.out _ _ (TT _ B6) r5.RI).mono ?_
  rintro e w6 ⟨rfl, hb6⟩
  have k6 := k5.own_ (B := 0) hb6
  have r6 := r5.own_ (B := 0) hb6
  have q6 := q5.own_ (B := 0) hb6
  have B7 := B6.trans (hb6.mono (Nat.le_trans hle B6.size))
  clear k5 r5 q5 hb6 B6
  go_wp2_with fail
  have e0 : w6.drew.cell? ⟨b, 0, none⟩ = some (.slice A l.length c) := q6.cell 0
  have e1 : w6.drew.cell? ⟨b, 1, none⟩ = some (.string s) := q6.cell 1
  have e2 : w6.drew.cell? ⟨b, 2, none⟩ = some (.int .i64 y) := q6.cell 2
  have f0 : w6.drew.cell? ⟨d, 0, none⟩ = some (.slice (some ⟨g2, 0, none⟩) l.length l.length) := k6.cell 0
  have f1 : w6.drew.cell? ⟨d, 1, none⟩ = some (.string s) := k6.cell 1
  have f2 : w6.drew.cell? ⟨d, 2, none⟩ = some (.int .i64 y) := k6.cell 2
  have B8 : Below b w w6.drew := B7.drew
  go_region_held3 (fun w' => w'.cell? ⟨b, 0, none⟩ = some (.slice A l.length c) ∧ w'.cell? ⟨b, 1, none⟩ = some (.string s) ∧ w'.cell? ⟨b, 2, none⟩ = some (.int .i64 y) ∧ w'.cell? ⟨d, 0, none⟩ = some (.slice (some ⟨g2, 0, none⟩) l.length l.length) ∧ w'.cell? ⟨d, 1, none⟩ = some (.string s) ∧ w'.cell? ⟨d, 2, none⟩ = some (.int .i64 y)) (first | exact ⟨e0, e1, e2, f0, f1, f2⟩ | exact ⟨n0, n1, n2, n3, n4, n5⟩ | exact ⟨m0, m1, m2, m3, m4, m5⟩) (first | (go_at_call 7; refine (T.out w6.drew (RR _ B8)).mono ?_; rintro e w7 ⟨g3, rfl, hg3, hblk3, hb7⟩; have n0 : w7.cell? ⟨b, 0, none⟩ = some (.slice A l.length c) := (q6.drew.own_ (B := 0) hb7).cell 0; have n1 := (q6.drew.own_ (B := 0) hb7).cell 1; have n2 := (q6.drew.own_ (B := 0) hb7).cell 2; have n3 := (k6.drew.own_ (B := 0) hb7).cell 0; have n4 := (k6.drew.own_ (B := 0) hb7).cell 1; have n5 := (k6.drew.own_ (B := 0) hb7).cell 2) | (go_at_call 9; refine (E.out _ _ _ (r6.drew.own_ (B := 0) hb7).RI hblk3.RI).mono ?_; rintro e w8 ⟨rfl, hb8⟩; have m0 := ((q6.drew.own_ (B := 0) hb7).own_ (B := 0) hb8).cell 0; have m1 := ((q6.drew.own_ (B := 0) hb7).own_ (B := 0) hb8).cell 1; have m2 := ((q6.drew.own_ (B := 0) hb7).own_ (B := 0) hb8).cell 2; have m3 := ((k6.drew.own_ (B := 0) hb7).own_ (B := 0) hb8).cell 0; have m4 := ((k6.drew.own_ (B := 0) hb7).own_ (B := 0) hb8).cell 1; have m5 := ((k6.drew.own_ (B := 0) hb7).own_ (B := 0) hb8).cell 2))
  have B9 := B8.trans (hb7.mono (Nat.le_trans hle B8.size))
  have B10 := B9.trans (hb8.mono (Nat.le_trans hle B9.size))
  go_wp2_with fail
  go_ret
  exact ⟨rfl, by rw [HB.out]; exact B10⟩
end Go.Proofs.YthdnhaaojicmbaaDoor
