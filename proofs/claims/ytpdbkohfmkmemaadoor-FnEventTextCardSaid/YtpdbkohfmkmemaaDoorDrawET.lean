/-
  Texts of events that are drawn.
-/
import Derived.Test.YtpdbkohfmkmemaaDoorDrawE
import Derived.Test.YtpdbkohfmkmemaaDoorEvt2
import Derived.Test.YtpdbkohfmkmemaaDoorParseE
namespace Go.Proofs.YtpdbkohfmkmemaaDoor
open Go.RowKit
set_option linter.unusedSimpArgs false
set_option linter.unusedVariables false

theorem fmtE_size (a : ByteArray) (x y : Int) (ha : a.size ≤ 10) : (fmtE a x y).size ≤ 100 := by
  cases hv : eventIn a.toList x y 4
  · rw [fmtE_no hv]; exact Nat.zero_le _
  · obtain ⟨⟨x0, x6⟩, ⟨y0, y6⟩⟩ := event_parts hv
    obtain ⟨X, rfl⟩ := Int.eq_ofNat_of_zero_le x0
    obtain ⟨Y, rfl⟩ := Int.eq_ofNat_of_zero_le y0
    have h1 := decS_size (n := X) (by omega)
    have h2 := decS_size (n := Y) (by omega)
    have hsp : (⟨#[32]⟩ : ByteArray).size = 1 := rfl
    have h0 : ByteArray.empty.size = 0 := rfl
    rw [fmtE_yes hv]
    unfold tailE
    split <;> simp only [ByteArray.size_append, hsp, h0] <;> omega
theorem size_of_nonempty {T : ByteArray} (h : T.toList.isEmpty = false) : 1 ≤ T.size := by
  have e : T.size = T.toList.length := by rw [Lib.toList_data]; exact (Array.length_toList).symm
  rw [e]
  cases hT : T.toList with
  | nil => rw [hT] at h; cases h
  | cons a t => simp
/-- some short event -/
def SomeDeed (w : World) (e : Ending) (w' : World) : Prop := ∃ (a : ByteArray) (x y : Int), e = .returned (.agg #[.string a, .int .i64 x, .int .i64 y]) ∧ a.size ≤ 10 ∧ isI x ∧ isI y ∧ Below w.heap.size w w'
/-- .. and a number of lines -/
def SomeDeed2 (w : World) (e : Ending) (w' : World) : Prop := ∃ (a : ByteArray) (x y n : Int), e = .returned (.tuple #[.agg #[.string a, .int .i64 x, .int .i64 y], .int .i64 n]) ∧ a.size ≤ 10 ∧ isI x ∧ isI y ∧ isI n ∧ Below w.heap.size w w'
theorem below_of_rdr {w w1 w2 : World} {R : Nat} (h : Below w.heap.size w w1) (hg : w1.grownBy w2 (some R)) (hR : w.heap.size ≤ R) : Below w.heap.size w w2 := h.grown hg h.size (fun k hk => by injection hk with hk; omega)
set_option maxHeartbeats 1000000 in
theorem DrawFormatEvent_any (A : Option Addr) (c : Nat) (l : List Int) (w : World) (h : RB w w.heap.size A l) (hc : l.length ≤ c) (hm : c ≤ maxLen) (hn : l.length ≤ 1048576) :
    Calls Tryd.prog 13 #[.slice A l.length c] w (SomeDeed w) := by
  have k1 := Blk.new w 23 #[.string ⟨#[]⟩, .int .i64 0, .int .i64 0]
  have B1 := (Below.refl w.heap.size w).alloc (Nat.le_refl _) (.cells #[.string ⟨#[]⟩, .int .i64 0, .int .i64 0] 23)
  have hz : (w.alloc (.cells #[.string ⟨#[]⟩, .int .i64 0, .int .i64 0] 23)).heap.size = w.heap.size + 1 := World.size_alloc _ _
  have hrb : RB (w.alloc (.cells #[.string ⟨#[]⟩, .int .i64 0, .int .i64 0] 23)) (w.alloc (.cells #[.string ⟨#[]⟩, .int .i64 0, .int .i64 0] 23)).heap.size A l := ⟨(h.1.alloc (Nat.le_refl _) _).more (by simp), h.2⟩
  go_enter Tryd.func13, Tryd.ntmps13
  go_wp2_with fail
  generalize w.alloc (.cells #[.string ⟨#[]⟩, .int .i64 0, .int .i64 0] 23) = w0 at k1 B1 hz hrb ⊢
  refine (l11Open_any A c l w0 hrb hc hm hn).mono ?_
  rintro e w1 ⟨R, A1, c1, l1, rfl, r1, b1⟩
  have k2 := k1.below b1 k1.lt
  have B2 := B1.trans (b1.mono B1.size)
  have hRB := r1.hB
  clear k1 B1 b1 hrb h
  go_wp2_with fail
  refine (l6One_any R w0.heap.size c1 A1 l1 0 w1 r1 (by omega)).mono ?_
  rintro e w2 ⟨a, x, y, p2, rfl, ha, hx, hy, r2, hp2, hg2⟩
  have k3 := k2.grown hg2 (fun e => by injection e with e; omega)
  have B3 := below_of_rdr B2 hg2 (by omega)
  have c0 : w2.cell? ⟨w.heap.size, 0, none⟩ = some (.string ⟨#[]⟩) := k3.cell 0
  have c1 : w2.cell? ⟨w.heap.size, 1, none⟩ = some (.int .i64 0) := k3.cell 1
  have c2 : w2.cell? ⟨w.heap.size, 2, none⟩ = some (.int .i64 0) := k3.cell 2
  have cf := k3.frozen
  go_wp2_with fail
  exact bodyPost_ret (v := .agg #[.string a, .int .i64 x, .int .i64 y]) (by simp [results, Tryd.results13, go_sem, c0, c1, c2]) rfl ⟨a, x, y, rfl, ha, hx, hy, ((B3.setCell (Nat.le_refl _) _).setCell (Nat.le_refl _) _).setCell (Nat.le_refl _) _⟩
set_option maxHeartbeats 1000000 in
theorem DrawEventValid_any (A : Option Addr) (c : Nat) (l : List Int) (w : World) (h : RB w w.heap.size A l) (hc : l.length ≤ c) (hm : c ≤ maxLen) (hn : l.length ≤ 1048576) :
    Calls Tryd.prog 16 #[.slice A l.length c] w (SomeDeed2 w) := by
  have k1 := Blk.new w 23 #[.string ⟨#[]⟩, .int .i64 0, .int .i64 0]
  have B1 := (Below.refl w.heap.size w).alloc (Nat.le_refl _) (.cells #[.string ⟨#[]⟩, .int .i64 0, .int .i64 0] 23)
  have hz : (w.alloc (.cells #[.string ⟨#[]⟩, .int .i64 0, .int .i64 0] 23)).heap.size = w.heap.size + 1 := World.size_alloc _ _
  have hrb : RB (w.alloc (.cells #[.string ⟨#[]⟩, .int .i64 0, .int .i64 0] 23)) (w.alloc (.cells #[.string ⟨#[]⟩, .int .i64 0, .int .i64 0] 23)).heap.size A l := ⟨(h.1.alloc (Nat.le_refl _) _).more (by simp), h.2⟩
  go_enter Tryd.func16, Tryd.ntmps16
  go_wp2_with fail
  generalize w.alloc (.cells #[.string ⟨#[]⟩, .int .i64 0, .int .i64 0] 23) = w0 at k1 B1 hz hrb ⊢
  refine (l11Open_any A c l w0 hrb hc hm hn).mono ?_
  rintro e w1 ⟨R, A1, c1, l1, rfl, r1, b1⟩
  have k2 := k1.below b1 k1.lt
  have B2 := B1.trans (b1.mono B1.size)
  have hRB := r1.hB
  clear k1 B1 b1 hrb h
  go_wp2_with fail
  refine (l6One_any R w0.heap.size c1 A1 l1 0 w1 r1 (by omega)).mono ?_
  rintro e w2 ⟨a, x, y, p2, rfl, ha, hx, hy, r2, hp2, hg2⟩
  have k3 := k2.grown hg2 (fun e => by injection e with e; omega)
  have B3 := below_of_rdr B2 hg2 (by omega)
  clear r1 hg2 k2 B2
  have k4 := k3.alloc (.cells #[.string a, .int .i64 x, .int .i64 y] 23)
  have r4 := r2.alloc (.cells #[.string a, .int .i64 x, .int .i64 y] 23)
  have B4 := B3.alloc B3.size (.cells #[.string a, .int .i64 x, .int .i64 y] 23)
  have kD := Blk.new w2 23 #[.string a, .int .i64 x, .int .i64 y]
  have hDR := r2.blk.lt
  clear r2 k3 B3
  go_wp2_with fail
  generalize w2.alloc (.cells #[.string a, .int .i64 x, .int .i64 y] 23) = w3 at k4 r4 B4 kD ⊢
  obtain ⟨d, hd⟩ : ∃ d, w2.heap.size = d := ⟨_, rfl⟩
  rw [hd] at kD hDR ⊢
  clear hd
  have d0 : w3.drew.cell? ⟨d, 0, none⟩ = some (.string a) := kD.cell 0
  have d1 : w3.drew.cell? ⟨d, 1, none⟩ = some (.int .i64 x) := kD.cell 1
  have d2 : w3.drew.cell? ⟨d, 2, none⟩ = some (.int .i64 y) := kD.cell 2
  have df := kD.frozen
  have r4d : Rdr w3.drew R w0.heap.size A1 c1 l1 p2 := r4.below (Below.refl _ _).drew
  have hlit := lit_ints w3.drew (R + 1) [2, 1, 4, 0, 5] (by have := r4.blk.lt; exact this) (by decide)
  have kD5 : Blk w3.drew d 23 #[.string a, .int .i64 x, .int .i64 y] := kD.below (Below.refl _ _).drew kD.lt
  have k5 : Blk w3.drew w.heap.size 23 #[.string ⟨#[]⟩, .int .i64 0, .int .i64 0] := k4.below (Below.refl _ _).drew k4.lt
  have kD6 := kD5.alloc (.cells (ints [2, 1, 4, 0, 5]).toArray 3)
  have k6 := k5.alloc (.cells (ints [2, 1, 4, 0, 5]).toArray 3)
  have D0 := kD6.cell 0
  have D1 := kD6.cell 1
  have D2 := kD6.cell 2
  have hdw : d ≠ w.heap.size := by have := k4.lt; omega
  go_wp2_with fail
  go_region_held3 (fun w' => w'.cell? ⟨d, 0, none⟩ = some (.string a) ∧ w'.cell? ⟨d, 1, none⟩ = some (.int .i64 x) ∧ w'.cell? ⟨d, 2, none⟩ = some (.int .i64 y)) (first | exact ⟨d0, d1, d2⟩ | exact ⟨D0, D1, D2⟩ | exact ⟨e0, e1, e2⟩ | exact ⟨(KF.out _ _ _).cell 0, (KF.out _ _ _).cell 1, (KF.out _ _ _).cell 2⟩) (first | (go_at_call 28; refine (num_any R w0.heap.size c1 A1 l1 p2 _ _ [2, 1, 4, 0, 5] _ (r4d.alloc _) (by omega) hlit (by decide) (by decide)).mono ?_; rintro e w5 ⟨n, hnm, rfl, r5, hg5⟩; have kD7 := kD6.grown hg5 (fun e => by injection e with e; omega); have k7 := k6.grown hg5 (fun e => by injection e with e; omega); have e0 := kD7.cell 0; have e1 := kD7.cell 1; have e2 := kD7.cell 2; have KF : Hid (∀ v0 v1 v2, Blk (((w5.setCell ⟨w.heap.size, 0, none⟩ v0).setCell ⟨w.heap.size, 1, none⟩ v1).setCell ⟨w.heap.size, 2, none⟩ v2) d 23 #[.string a, .int .i64 x, .int .i64 y]) := (Lib.hid fun v0 v1 v2 => ((kD7.far hdw _).far hdw _).far hdw _); have c0 := k7.cell 0; have c1 := k7.cell 1; have c2 := k7.cell 2; have cf := k7.frozen))
  go_wp2_with fail
  have C0 : w5.cell? ⟨w.heap.size, 0, none⟩ = some (.string ⟨#[]⟩) := c0
  have C1 : w5.cell? ⟨w.heap.size, 1, none⟩ = some (.int .i64 0) := c1
  have C2 : w5.cell? ⟨w.heap.size, 2, none⟩ = some (.int .i64 0) := c2
  have nI : isI n := by
    simp at hnm
    rcases hnm with rfl | rfl | rfl | rfl | rfl <;> constructor <;> omega
  have B5 := below_of_rdr (B4.drew.alloc B4.size (.cells (ints [2, 1, 4, 0, 5]).toArray 3)) hg5 (by omega)
  exact bodyPost_ret (v := .tuple #[.agg #[.string a, .int .i64 x, .int .i64 y], .int .i64 n]) (by simp [results, Tryd.results16, go_sem, C0, C1, C2]) rfl ⟨a, x, y, n, rfl, ha, hx, hy, nI, ((B5.setCell (Nat.le_refl _) _).setCell (Nat.le_refl _) _).setCell (Nat.le_refl _) _⟩
def spoilL : List ByteArray := [⟨#[]⟩, ⟨#[32]⟩, ⟨#[48]⟩, ⟨#[120]⟩, ⟨#[45]⟩]
theorem spoilL_size : ∀ a ∈ spoilL, a.size ≤ 10 := by decide
set_option maxHeartbeats 1000000 in
theorem DrawParseEvent_any (A : Option Addr) (c : Nat) (l : List Int) (w : World) (h : RB w w.heap.size A l) (hc : l.length ≤ c) (hm : c ≤ maxLen) (hn : l.length ≤ 1048576) :
    Calls Tryd.prog 15 #[.slice A l.length c] w fun e w' => ∃ T : ByteArray, e = .returned (.string T) ∧ T.size ≤ 1000 ∧ Below w.heap.size w w' := by
  go_enter Tryd.func15, Tryd.ntmps15
  go_wp2_with fail
  refine (l11Open_any A c l w h hc hm hn).mono ?_
  rintro e w1 ⟨R, A1, c1, l1, rfl, r1, b1⟩
  have hRB := r1.hB
  clear h
  go_wp2_with fail
  refine (l6One_any R w.heap.size c1 A1 l1 0 w1 r1 (by omega)).mono ?_
  rintro e w2 ⟨a, x, y, p2, rfl, ha, hx, hy, r2, hp2, hg2⟩
  have B2 := below_of_rdr b1 hg2 hRB
  clear r1 hg2 b1
  go_wp2_with fail
  refine (sFormatEvent_any a x y w2 (by omega)).mono ?_
  rintro e w3 ⟨rfl, hb3⟩
  have r3 := r2.below hb3
  have B3 := B2.trans (hb3.mono B2.size)
  have hT := fmtE_size a x y ha
  clear r2 hb3 B2
  obtain ⟨F, hF⟩ : ∃ F, fmtE a x y = F := ⟨_, rfl⟩
  rw [hF] at hT ⊢
  clear hF
  go_upto_if 12 with fail
  go_cut [3, 4] (fun s3 s4 wx => s3 = .pointer (some ⟨R, 0, none⟩) ∧ ∃ T : ByteArray, s4 = .string T ∧ 1 ≤ T.size ∧ T.size ≤ 100 ∧ Rdr wx R w.heap.size A1 c1 l1 p2 ∧ Below w.heap.size w wx)
  case first =>
    cases hE : F.toList.isEmpty
    · go_wp2_with fail
      go_meet
      exact ⟨rfl, F, rfl, size_of_nonempty hE, hT, r3, B3⟩
    · go_wp2_with fail
      go_meet
      exact ⟨rfl, ⟨#[114, 105, 110, 103, 32, 49, 32, 50]⟩, rfl, by decide, by decide, r3, B3⟩
  case rest =>
  clear hT r3 B3
  obtain ⟨rfl, T, rfl, T1, T2, r3, B3⟩ := hcut
  obtain ⟨w3, hw3⟩ : ∃ w3, wc = w3 := ⟨_, rfl⟩
  subst hw3
  go_wp2_with fail
  refine (pick_any R w.heap.size c1 A1 l1 p2 2 wc r3 (by omega) (by omega) (by omega)).mono ?_
  rintro e w4 ⟨v, v0, v1, rfl, r4, hg4⟩
  have B4 := below_of_rdr B3 hg4 hRB
  clear r3 hg4 B3
  by_cases hv : v = 0
  · subst hv
    go_wp2_with fail
    go_ret
    exact ⟨T, rfl, by omega, B4⟩
  · have nv : (v == 0) = false := beq_eq_false_iff_ne.2 hv
    clear hv
    go_wp2_with fail
    refine (pick_any R w.heap.size c1 A1 l1 (p2 + 1) T.size w4 r4 (by omega) (by omega) (by omega)).mono ?_
    rintro e w5 ⟨k, k0, k1, rfl, r5, hg5⟩
    have B5 := below_of_rdr B4 hg5 hRB
    clear r4 hg5 B4
    obtain ⟨K, rfl⟩ := Int.eq_ofNat_of_zero_le k0
    have r5d : Rdr w5.drew R w.heap.size A1 c1 l1 (p2 + 1 + 1) := r5.below (Below.refl _ _).drew
    have hlit := lit_strs w5.drew (R + 1) spoilL (by have := r5.blk.lt; exact this) (by decide)
    have hT0 : ¬ (9223372036854775807 : Int) < T.size := by omega
    have hKT : (K : Int) ≤ (T.size : Int) := by omega
    have hsz1 : (T.extract 0 K).size ≤ 100 := by rw [ByteArray.size_extract]; omega
    obtain ⟨U, hU⟩ : ∃ U, T.extract 0 K = U := ⟨_, rfl⟩
    rw [hU] at hsz1
    go_wp2_with fail
    go_region_held3 (fun _ => True) (exact trivial) (first | (go_at_call 27; refine (of_any R w.heap.size c1 A1 l1 (p2 + 1 + 1) _ _ spoilL _ (r5d.alloc _) (by omega) hlit (by decide) (by decide)).mono ?_; rintro e w6 ⟨Z, hZ, rfl, r6, hg6⟩; have hZ10 := spoilL_size Z hZ; have hcat : ¬ 9223372036854775807 < U.size + Z.size := (by omega); obtain ⟨V, hV⟩ : ∃ V, U ++ Z = V := ⟨_, rfl⟩; have hVs : V.size ≤ 200 := (by rw [← hV, ByteArray.size_append]; omega)) | (go_at_call 26; refine (pick_any R w.heap.size c1 A1 l1 (p2 + 1 + 1 + 1) 2 w6 r6 (by omega) (by omega) (by omega)).mono ?_; rintro e w7 ⟨u0, u1, u2, rfl, r7, hg7⟩; obtain ⟨u, rfl⟩ := Int.eq_ofNat_of_zero_le u1; have hku : (K : Int) + (u : Int) ≤ (T.size : Int) := (by omega); have hku0 : (0 : Int) ≤ (K : Int) + (u : Int) := (by omega); have hwr : IntKind.i64.wrap ((K : Int) + (u : Int)) = (K : Int) + (u : Int) := (by rw [IntKind.wrap_i64]; omega); have hcat2 : ¬ 9223372036854775807 < V.size + (T.size - ((K : Int) + (u : Int)).toNat) := (by omega)))
    have B7 := below_of_rdr (below_of_rdr (B5.drew.alloc B5.size (.cells (spoilL.map Value.string).toArray 9)) hg6 hRB) hg7 hRB
    go_wp2_with fail
    go_ret
    exact ⟨_, rfl, by rw [ByteArray.size_append, ByteArray.size_extract]; omega, B7⟩
end Go.Proofs.YtpdbkohfmkmemaaDoor
