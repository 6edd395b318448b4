/-
  FormatOutcome, by the program: the walk.
-/
import Derived.Test.YthdnhaaojicmbaaDoorOut2
namespace Go.Proofs.YthdnhaaojicmbaaDoor
open Go.RowKit
set_option linter.unusedSimpArgs false
set_option linter.unusedVariables false

set_option maxHeartbeats 4000000 in
theorem iFormatOutcome_any (A : Option Addr) (c : Nat) (l : List Int) (s : ByteArray) (y : Int) (w : World) (ht : Tab w) (h : RI w w.heap.size A l) (hn : l.length ≤ 1048576) (hv : ∀ x ∈ l, -9223372036854775808 ≤ x ∧ x ≤ 9223372036854775807) (hs : s.size ≤ 1048576) (y0 : -9223372036854775808 ≤ y) (y1 : y ≤ 9223372036854775807) :
    Calls Tryd.prog 8 #[.agg #[.slice A l.length c, .string s, .int .i64 y]] w fun e w' => e = .returned (.string (outT l s y)) ∧ Below w.heap.size w w' := by
  have B1 := (Below.refl w.heap.size w).alloc (Nat.le_refl _) (.cells #[.slice A l.length c, .string s, .int .i64 y] 27)
  have hbx := box_newO w A l.length c s y
  have hlt : w.heap.size < (w.alloc (.cells #[.slice A l.length c, .string s, .int .i64 y] 27)).heap.size := by simp
  have hsp : (⟨#[32]⟩ : ByteArray).size = 1 := rfl
  have HV := Lib.hid hv
  have hsz := Lib.hid (notesT_size hv)
  have hys := itoS_size y0 y1
  clear hv
  have hb0 := bld_new (w.alloc (.cells #[.slice A l.length c, .string s, .int .i64 y] 27))
  have B2 := B1.alloc B1.size (.cells #[.pointer none, .slice none 0 0] 39)
  have hbx2 := fun o => ((Below.refl (w.alloc (.cells #[.slice A l.length c, .string s, .int .i64 y] 27)).heap.size (w.alloc (.cells #[.slice A l.length c, .string s, .int .i64 y] 27))).alloc (Nat.le_refl _) (.cells #[.pointer none, .slice none 0 0] 39)).cell (p := ⟨w.heap.size, o, none⟩) hlt
  have hsB : ((w.alloc (.cells #[.slice A l.length c, .string s, .int .i64 y] 27)).alloc (.cells #[.pointer none, .slice none 0 0] 39)).heap.size = w.heap.size + 2 := by simp
  rw [World.size_alloc] at hb0
  have c0 := (hbx2 0).trans hbx.1
  have c1 := (hbx2 1).trans hbx.2.1
  have c2 := (hbx2 2).trans hbx.2.2
  clear hbx2 hbx hlt B1
  go_enter Tryd.func8, Tryd.ntmps8
  go_wp2_with fail
  generalize (w.alloc (.cells #[.slice A l.length c, .string s, .int .i64 y] 27)).alloc (.cells #[.pointer none, .slice none 0 0] 39) = w1 at hb0 B2 c0 c1 c2 hsB ⊢
  obtain ⟨b, hb⟩ : ∃ b, w.heap.size = b := ⟨_, rfl⟩
  rw [hb] at hb0 B2 c0 c1 c2 hsB h ⊢
  have HB := Lib.hid hb
  have h1 := h.below B2
  clear hb h
  go_loopw [9, 5] (fun i _ wr => ∃ k : Nat, k ≤ l.length ∧ i = .int .i64 k ∧ Bld wr (b + 1) (b + 1) (notesT (l.take k)) ∧ Below (b + 1) w1 wr) (fun i _ _ => l.length - (intOf i).toNat)
  case atStart => exact ⟨0, Nat.zero_le _, rfl, by simpa [notesT] using hb0, Below.refl _ _⟩
  case round =>
    clear hb0
    obtain ⟨k, hk, rfl, hbl, hbr⟩ := hrel
    have hR := h1.below (hbr.mono (Nat.le_succ b))
    have hsk := hsz.out k hk
    have hsz1 := hbr.size
    have htr : Tab wr := ht.below (by rw [HB.out]; exact B2.trans (hbr.mono (Nat.le_succ b)))
    by_cases hlt2 : k < l.length
    · obtain ⟨ad, rfl, _, hc⟩ := hR.at_ hlt2
      have Hs := Lib.hid (notesT_succ hlt2)
      obtain ⟨n0, n1⟩ := HV.out _ (List.getElem_mem hlt2)
      obtain ⟨n, hne⟩ : ∃ n, l[k] = n := ⟨_, rfl⟩
      rw [hne] at hc Hs n0 n1
      have hni := itoS_size n0 n1
      obtain ⟨T, hT⟩ : ∃ T, notesT (l.take k) = T := ⟨_, rfl⟩
      rw [hT] at hsk Hs hbl
      clear hne hT
      go_wp2_with fail
      refine (itoa_all n wr htr n0 n1).mono ?_
      rintro e w2 ⟨rfl, hb2⟩
      have z2 := hb2.size
      have hbl2 := hbl.below hb2
      go_wp2_with fail
      refine (write_any (b + 1) (b + 1) T (itoS n) w2 hbl2 (by omega) (by omega)).mono ?_
      rintro e w3 ⟨rfl, hbl3, hb3⟩
      have z3 := hb3.size
      have hts : (T ++ itoS n).size = T.size + (itoS n).size := ByteArray.size_append
      have Hts := Lib.hid hts
      clear hts
      go_wp2_with fail
      refine (write_any (b + 1) (b + 1) (T ++ itoS n) ⟨#[32]⟩ w3 hbl3 (by rw [Hts.out]; omega) (by omega)).mono ?_
      rintro e w4 ⟨rfl, hbl4, hb4⟩
      go_wp2_with fail
      go_roundw
      case rel => exact ⟨k + 1, by omega, by go_num, by rw [Hs.out]; exact hbl4, ((hbr.trans (hb2.mono (by omega))).trans hb3).trans hb4⟩
      case measure => simp [intOf]; omega
    · obtain rfl : k = l.length := by omega
      rw [List.take_length] at hsk hbl
      have d1 := (hbr.cell (p := ⟨b, 1, none⟩) (Nat.lt_succ_self b)).trans c1
      have d2 := (hbr.cell (p := ⟨b, 2, none⟩) (Nat.lt_succ_self b)).trans c2
      obtain ⟨T, hT⟩ : ∃ T, notesT l = T := ⟨_, rfl⟩
      rw [hT] at hsk hbl
      have HT := Lib.hid hT
      have H1 : Hid ((T ++ s).size = T.size + s.size) := Lib.hid ByteArray.size_append
      have H2 : Hid ((T ++ s ++ ⟨#[32]⟩).size = T.size + s.size + 1) := Lib.hid (by rw [ByteArray.size_append, ByteArray.size_append]; rfl)
      clear hT
      go_wp2_with fail
      refine (write_any (b + 1) (b + 1) T s wr hbl (by omega) (by omega)).mono ?_
      rintro e w2 ⟨rfl, hbl2, hb2⟩
      have z2 := hb2.size
      have f2 := (hb2.cell (p := ⟨b, 2, none⟩) (Nat.lt_succ_self b)).trans d2
      go_wp2_with fail
      refine (write_any (b + 1) (b + 1) (T ++ s) ⟨#[32]⟩ w2 hbl2 (by rw [H1.out]; omega) (by omega)).mono ?_
      rintro e w3 ⟨rfl, hbl3, hb3⟩
      have z3 := hb3.size
      have g2 := (hb3.cell (p := ⟨b, 2, none⟩) (Nat.lt_succ_self b)).trans f2
      have B3 : Below b w w3 := B2.trans (((hbr.trans hb2).trans hb3).mono (Nat.le_succ b))
      have ht3 : Tab w3 := ht.below (by rw [HB.out]; exact B3)
      go_wp2_with fail
      refine (itoa_all y w3 ht3 y0 y1).mono ?_
      rintro e w4 ⟨rfl, hb4⟩
      have z4 := hb4.size
      have hbl4 := hbl3.below hb4
      go_wp2_with fail
      refine (write_any (b + 1) (b + 1) (T ++ s ++ ⟨#[32]⟩) (itoS y) w4 hbl4 (by rw [H2.out]; omega) (by omega)).mono ?_
      rintro e w5 ⟨rfl, hbl5, hb5⟩
      have z5 := hb5.size
      go_wp2_with fail
      refine (string_any (b + 1) (b + 1) _ w5 hbl5 (by omega)).mono ?_
      rintro e w6 ⟨rfl, hb6⟩
      go_wp2_with fail
      go_ret
      refine ⟨ret_str (by unfold outT; rw [HT.out]), ?_⟩
      rw [HB.out]
      exact (B3.trans (hb4.mono (by omega))).trans ((hb5.trans hb6).mono (Nat.le_succ b))
end Go.Proofs.YthdnhaaojicmbaaDoor
