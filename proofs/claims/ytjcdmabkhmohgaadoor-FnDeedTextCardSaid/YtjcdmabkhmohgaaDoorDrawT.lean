/-
  Texts of deeds that are drawn.
-/
import Derived.Test.YtjcdmabkhmohgaaDoorDrawD
namespace Go.Proofs.YtjcdmabkhmohgaaDoor
open Go.RowKit
set_option linter.unusedSimpArgs false
set_option linter.unusedVariables false

theorem itoS_sz {n : Int} (h : isI n) : (itoS n).size ≤ 20 := by
  obtain ⟨h0, h1⟩ := h
  have e : (itoS n).size = (Lib.itoa n).length := by simp [itoS, ByteArray.size]
  rw [e]
  unfold Lib.itoa
  split
  · have := dec_len 18 n.natAbs (by omega)
    simp
    omega
  · have := dec_len 18 n.toNat (by omega)
    omega
/-- some short text -/
def SomeText (w : World) (e : Ending) (w' : World) : Prop := ∃ T : ByteArray, e = .returned (.string T) ∧ 1 ≤ T.size ∧ T.size ≤ 100 ∧ Below w.heap.size w w'
set_option maxHeartbeats 1000000 in
theorem l1Text_gen (s : ByteArray) (x y : Int) (w : World) (ha : s.size ≤ 10) (hx : isI x) (hy : isI y) :
    Calls Tryd.prog 22 #[.agg #[.string s, .int .i64 x, .int .i64 y]] w (SomeText w) := by
  have h1 := itoS_sz hx
  have h2 := itoS_sz hy
  have hsp : (⟨#[32]⟩ : ByteArray).size = 1 := rfl
  obtain ⟨x0, x1⟩ := hx
  obtain ⟨y0, y1⟩ := hy
  have hbx := box_new w s x y
  have B1 := (Below.refl w.heap.size w).alloc (Nat.le_refl _) (.cells #[.string s, .int .i64 x, .int .i64 y] 24)
  have hlt : w.heap.size < (w.alloc (.cells #[.string s, .int .i64 x, .int .i64 y] 24)).heap.size := by simp
  have HD := Lib.hid (fun W => l11Dec_all x W x0 x1)
  have HE := Lib.hid (fun W => l11Dec_all y W y0 y1)
  obtain ⟨X, hX⟩ : ∃ X, itoS x = X := ⟨_, rfl⟩
  obtain ⟨Y, hY⟩ : ∃ Y, itoS y = Y := ⟨_, rfl⟩
  rw [hX] at h1 HD
  rw [hY] at h2 HE
  clear hX hY x0 x1 y0 y1
  have n1 : ¬ 9223372036854775807 < s.size + 1 := by omega
  have n2 : ¬ 9223372036854775807 < s.size + 1 + X.size := by omega
  have n3 : ¬ 9223372036854775807 < s.size + 1 + X.size + 1 := by omega
  have n4 : ¬ 9223372036854775807 < s.size + 1 + X.size + 1 + Y.size := by omega
  go_enter Tryd.func22, Tryd.ntmps22
  go_wp2_with fail
  generalize w.alloc (.cells #[.string s, .int .i64 x, .int .i64 y] 24) = w1 at hbx B1 hlt ⊢
  obtain ⟨b, hb⟩ : ∃ b, w.heap.size = b := ⟨_, rfl⟩
  rw [hb] at hbx B1 hlt ⊢
  have HB := Lib.hid hb
  clear hb
  obtain ⟨c0, c1, c2⟩ := hbx
  have d0 : w1.drew.cell? ⟨b, 0, none⟩ = some (.string s) := c0
  have d1 : w1.drew.cell? ⟨b, 1, none⟩ = some (.int .i64 x) := c1
  go_region_held3 (fun w' => w'.cell? ⟨b, 0, none⟩ = some (.string s) ∧ w'.cell? ⟨b, 1, none⟩ = some (.int .i64 x)) (first | exact ⟨d0, d1⟩ | exact ⟨k0, k1⟩) (first | (go_at_call 32; refine (HD.out w1.drew).mono ?_; rintro e w2 ⟨rfl, hb2⟩; have k0 := (hb2.cell (p := ⟨b, 0, none⟩) hlt).trans c0; have k1 := (hb2.cell (p := ⟨b, 1, none⟩) hlt).trans c1))
  have B2 : Below w.heap.size w w2 := by rw [HB.out]; exact B1.trans ((below_drew_ hb2).mono (Nat.le_of_lt hlt))
  have e0 := k0
  have e2 := (hb2.cell (p := ⟨b, 2, none⟩) hlt).trans c2
  clear c0 c1 c2 d0 d1 k0 k1 hb2 B1
  have hT1 : 1 ≤ (s ++ ⟨#[32]⟩ ++ X).size ∧ (s ++ ⟨#[32]⟩ ++ X).size ≤ 100 := by simp only [ByteArray.size_append, hsp]; omega
  have hT2 : 1 ≤ (s ++ ⟨#[32]⟩ ++ X ++ ⟨#[32]⟩ ++ Y).size ∧ (s ++ ⟨#[32]⟩ ++ X ++ ⟨#[32]⟩ ++ Y).size ≤ 100 := by simp only [ByteArray.size_append, hsp]; omega
  have H1 := Lib.hid hT1
  have H2 := Lib.hid hT2
  clear hT1 hT2
  by_cases hy0 : (0 : Int) < y
  · go_wp2_with fail
    refine (HE.out w2).mono ?_
    rintro e w3 ⟨rfl, hb3⟩
    go_wp2_with fail
    go_ret
    exact ⟨_, rfl, H2.out.1, H2.out.2, B2.trans (hb3.mono B2.size)⟩
  · cases hput : s.toList == putL
    · go_wp2_with fail
      refine (l1Words_any s w2).mono ?_
      rintro e w' ⟨rfl, rfl⟩
      rw [hput]
      clear hput
      go_wp2_with fail
      go_ret
      exact ⟨_, rfl, H1.out.1, H1.out.2, B2⟩
    · go_wp2_with fail
      refine (l1Words_any s w2).mono ?_
      rintro e w' ⟨rfl, rfl⟩
      rw [hput]
      clear hput
      go_wp2_with fail
      refine (HE.out w2).mono ?_
      rintro e w3 ⟨rfl, hb3⟩
      go_wp2_with fail
      go_ret
      exact ⟨_, rfl, H2.out.1, H2.out.2, B2.trans (hb3.mono B2.size)⟩
/-- some short deed -/
def SomeDeed (w : World) (e : Ending) (w' : World) : Prop := ∃ (a : ByteArray) (x y : Int), e = .returned (.agg #[.string a, .int .i64 x, .int .i64 y]) ∧ a.size ≤ 10 ∧ isI x ∧ isI y ∧ Below w.heap.size w w'
/-- .. and a number of lines -/
def SomeDeed2 (w : World) (e : Ending) (w' : World) : Prop := ∃ (a : ByteArray) (x y n : Int), e = .returned (.tuple #[.agg #[.string a, .int .i64 x, .int .i64 y], .int .i64 n]) ∧ a.size ≤ 10 ∧ isI x ∧ isI y ∧ isI n ∧ Below w.heap.size w w'
theorem below_of_rdr {w w1 w2 : World} {R : Nat} (h : Below w.heap.size w w1) (hg : w1.grownBy w2 (some R)) (hR : w.heap.size ≤ R) : Below w.heap.size w w2 := h.grown hg h.size (fun k hk => by injection hk with hk; omega)
set_option maxHeartbeats 1000000 in
theorem DrawFormatDeed_any (A : Option Addr) (c : Nat) (l : List Int) (w : World) (h : RB w w.heap.size A l) (hc : l.length ≤ c) (hm : c ≤ maxLen) (hn : l.length ≤ 1048576) :
    Calls Tryd.prog 6 #[.slice A l.length c] w (SomeDeed w) := by
  have k1 := Blk.new w 24 #[.string ⟨#[]⟩, .int .i64 0, .int .i64 0]
  have B1 := (Below.refl w.heap.size w).alloc (Nat.le_refl _) (.cells #[.string ⟨#[]⟩, .int .i64 0, .int .i64 0] 24)
  have hz : (w.alloc (.cells #[.string ⟨#[]⟩, .int .i64 0, .int .i64 0] 24)).heap.size = w.heap.size + 1 := World.size_alloc _ _
  have hrb : RB (w.alloc (.cells #[.string ⟨#[]⟩, .int .i64 0, .int .i64 0] 24)) (w.alloc (.cells #[.string ⟨#[]⟩, .int .i64 0, .int .i64 0] 24)).heap.size A l := ⟨(h.1.alloc (Nat.le_refl _) _).more (by simp), h.2⟩
  go_enter Tryd.func6, Tryd.ntmps6
  go_wp2_with fail
  generalize w.alloc (.cells #[.string ⟨#[]⟩, .int .i64 0, .int .i64 0] 24) = w0 at k1 B1 hz hrb ⊢
  refine (l11Open_any A c l w0 hrb hc hm hn).mono ?_
  rintro e w1 ⟨R, A1, c1, l1, rfl, r1, b1⟩
  have k2 := k1.below b1 k1.lt
  have B2 := B1.trans (b1.mono B1.size)
  have hRB := r1.hB
  clear k1 B1 b1 hrb h
  go_wp2_with fail
  refine (l1One_any R w0.heap.size c1 A1 l1 0 6 w1 r1 (by omega) (by omega) (by omega)).mono ?_
  rintro e w2 ⟨a, x, y, p2, rfl, ha, hx, hy, r2, hp2, hg2⟩
  have k3 := k2.grown hg2 (fun e => by injection e with e; omega)
  have B3 := below_of_rdr B2 hg2 (by omega)
  have c0 : w2.cell? ⟨w.heap.size, 0, none⟩ = some (.string ⟨#[]⟩) := k3.cell 0
  have c1 : w2.cell? ⟨w.heap.size, 1, none⟩ = some (.int .i64 0) := k3.cell 1
  have c2 : w2.cell? ⟨w.heap.size, 2, none⟩ = some (.int .i64 0) := k3.cell 2
  have cf := k3.frozen
  go_wp2_with fail
  exact bodyPost_ret (v := .agg #[.string a, .int .i64 x, .int .i64 y]) (by simp [results, Tryd.results6, go_sem, c0, c1, c2]) rfl ⟨a, x, y, rfl, ha, hx, hy, ((B3.setCell (Nat.le_refl _) _).setCell (Nat.le_refl _) _).setCell (Nat.le_refl _) _⟩
set_option maxHeartbeats 1000000 in
theorem DrawDeedValid_any (A : Option Addr) (c : Nat) (l : List Int) (w : World) (h : RB w w.heap.size A l) (hc : l.length ≤ c) (hm : c ≤ maxLen) (hn : l.length ≤ 1048576) :
    Calls Tryd.prog 13 #[.slice A l.length c] w (SomeDeed2 w) := by
  have k1 := Blk.new w 24 #[.string ⟨#[]⟩, .int .i64 0, .int .i64 0]
  have B1 := (Below.refl w.heap.size w).alloc (Nat.le_refl _) (.cells #[.string ⟨#[]⟩, .int .i64 0, .int .i64 0] 24)
  have hz : (w.alloc (.cells #[.string ⟨#[]⟩, .int .i64 0, .int .i64 0] 24)).heap.size = w.heap.size + 1 := World.size_alloc _ _
  have hrb : RB (w.alloc (.cells #[.string ⟨#[]⟩, .int .i64 0, .int .i64 0] 24)) (w.alloc (.cells #[.string ⟨#[]⟩, .int .i64 0, .int .i64 0] 24)).heap.size A l := ⟨(h.1.alloc (Nat.le_refl _) _).more (by simp), h.2⟩
  go_enter Tryd.func13, Tryd.ntmps13
  go_wp2_with fail
  generalize w.alloc (.cells #[.string ⟨#[]⟩, .int .i64 0, .int .i64 0] 24) = w0 at k1 B1 hz hrb ⊢
  refine (l11Open_any A c l w0 hrb hc hm hn).mono ?_
  rintro e w1 ⟨R, A1, c1, l1, rfl, r1, b1⟩
  have k2 := k1.below b1 k1.lt
  have B2 := B1.trans (b1.mono B1.size)
  have hRB := r1.hB
  have hlit := lit_ints w1 (R + 1) [2, 1, 3, 6, 0, 7] (by have := r1.blk.lt; omega) (by decide)
  clear k1 B1 b1 hrb h
  go_wp2_with fail
  refine (num_any R w0.heap.size c1 A1 l1 0 _ _ [2, 1, 3, 6, 0, 7] _ (r1.alloc _) (by omega) hlit (by decide) (by decide)).mono ?_
  rintro e w2 ⟨n, hnm, rfl, r2, hg2⟩
  have k3 := (k2.alloc (.cells (ints [2, 1, 3, 6, 0, 7]).toArray 3)).grown hg2 (fun e => by injection e with e; omega)
  have B3 := below_of_rdr (B2.alloc B2.size (.cells (ints [2, 1, 3, 6, 0, 7]).toArray 3)) hg2 (by omega)
  have n0 : 0 ≤ n ∧ n ≤ 100 := by
    simp at hnm
    omega
  clear hlit r1 hg2 k2 B2 hnm
  go_wp2_with fail
  refine (l1One_any R w0.heap.size c1 A1 l1 _ n w2 r2 (by omega) n0.1 n0.2).mono ?_
  rintro e w3 ⟨a, x, y, p2, rfl, ha, hx, hy, r3, hp2, hg3⟩
  have k4 := k3.grown hg3 (fun e => by injection e with e; omega)
  have B4 := below_of_rdr B3 hg3 (by omega)
  have c0 : w3.cell? ⟨w.heap.size, 0, none⟩ = some (.string ⟨#[]⟩) := k4.cell 0
  have c1 : w3.cell? ⟨w.heap.size, 1, none⟩ = some (.int .i64 0) := k4.cell 1
  have c2 : w3.cell? ⟨w.heap.size, 2, none⟩ = some (.int .i64 0) := k4.cell 2
  have cf := k4.frozen
  go_wp2_with fail
  exact bodyPost_ret (v := .tuple #[.agg #[.string a, .int .i64 x, .int .i64 y], .int .i64 n]) (by simp [results, Tryd.results13, go_sem, c0, c1, c2]) rfl ⟨a, x, y, n, rfl, ha, hx, hy, ⟨by omega, by omega⟩, ((B4.setCell (Nat.le_refl _) _).setCell (Nat.le_refl _) _).setCell (Nat.le_refl _) _⟩
def spoilL : List ByteArray := [⟨#[]⟩, ⟨#[32]⟩, ⟨#[48]⟩, ⟨#[120]⟩, ⟨#[45]⟩]
theorem spoilL_size : ∀ a ∈ spoilL, a.size ≤ 10 := by decide
set_option maxHeartbeats 1000000 in
theorem DrawParseDeed_any (A : Option Addr) (c : Nat) (l : List Int) (w : World) (h : RB w w.heap.size A l) (hc : l.length ≤ c) (hm : c ≤ maxLen) (hn : l.length ≤ 1048576) :
    Calls Tryd.prog 11 #[.slice A l.length c] w fun e w' => ∃ T : ByteArray, e = .returned (.string T) ∧ T.size ≤ 1000 ∧ Below w.heap.size w w' := by
  go_enter Tryd.func11, Tryd.ntmps11
  go_wp2_with fail
  refine (l11Open_any A c l w h hc hm hn).mono ?_
  rintro e w1 ⟨R, A1, c1, l1, rfl, r1, b1⟩
  have hRB := r1.hB
  clear h
  go_wp2_with fail
  refine (l1One_any R w.heap.size c1 A1 l1 0 6 w1 r1 (by omega) (by omega) (by omega)).mono ?_
  rintro e w2 ⟨a, x, y, p2, rfl, ha, hx, hy, r2, hp2, hg2⟩
  have B2 := below_of_rdr b1 hg2 hRB
  clear r1 hg2 b1
  go_wp2_with fail
  refine (l1Text_gen a x y w2 ha hx hy).mono ?_
  rintro e w3 ⟨T, rfl, T1, T2, hb3⟩
  have r3 := r2.below hb3
  have B3 := B2.trans (hb3.mono B2.size)
  clear r2 hb3 B2
  go_wp2_with fail
  refine (pick_any R w.heap.size c1 A1 l1 p2 2 w3 r3 (by omega) (by omega) (by omega)).mono ?_
  rintro e w4 ⟨v, v0, v1, rfl, r4, hg4⟩
  have B4 := below_of_rdr B3 hg4 hRB
  clear r3 hg4 B3
  by_cases hv : v = 0
  · subst hv
    go_wp2_with fail
    go_ret
    exact ⟨T, rfl, by omega, B4⟩
  · have nv : (v == 0) = false := beq_eq_false_iff_ne.2 hv
    clear hv
    go_wp2_with fail
    refine (pick_any R w.heap.size c1 A1 l1 (p2 + 1) T.size w4 r4 (by omega) (by omega) (by omega)).mono ?_
    rintro e w5 ⟨k, k0, k1, rfl, r5, hg5⟩
    have B5 := below_of_rdr B4 hg5 hRB
    clear r4 hg5 B4
    obtain ⟨K, rfl⟩ := Int.eq_ofNat_of_zero_le k0
    have r5d : Rdr w5.drew R w.heap.size A1 c1 l1 (p2 + 1 + 1) := r5.below (Below.refl _ _).drew
    have hlit := lit_strs w5.drew (R + 1) spoilL (by have := r5.blk.lt; exact this) (by decide)
    have hT0 : ¬ (9223372036854775807 : Int) < T.size := by omega
    have hKT : (K : Int) ≤ (T.size : Int) := by omega
    have hsz1 : (T.extract 0 K).size ≤ 100 := by rw [ByteArray.size_extract]; omega
    obtain ⟨U, hU⟩ : ∃ U, T.extract 0 K = U := ⟨_, rfl⟩
    rw [hU] at hsz1
    go_wp2_with fail
    go_region_held3 (fun _ => True) (exact trivial) (first | (go_at_call 25; refine (of_any R w.heap.size c1 A1 l1 (p2 + 1 + 1) _ _ spoilL _ (r5d.alloc _) (by omega) hlit (by decide) (by decide)).mono ?_; rintro e w6 ⟨Z, hZ, rfl, r6, hg6⟩; have hZ10 := spoilL_size Z hZ; have hcat : ¬ 9223372036854775807 < U.size + Z.size := (by omega); obtain ⟨V, hV⟩ : ∃ V, U ++ Z = V := ⟨_, rfl⟩; have hVs : V.size ≤ 200 := (by rw [← hV, ByteArray.size_append]; omega)) | (go_at_call 24; refine (pick_any R w.heap.size c1 A1 l1 (p2 + 1 + 1 + 1) 2 w6 r6 (by omega) (by omega) (by omega)).mono ?_; rintro e w7 ⟨u0, u1, u2, rfl, r7, hg7⟩; obtain ⟨u, rfl⟩ := Int.eq_ofNat_of_zero_le u1; have hku : (K : Int) + (u : Int) ≤ (T.size : Int) := (by omega); have hku0 : (0 : Int) ≤ (K : Int) + (u : Int) := (by omega); have hwr : IntKind.i64.wrap ((K : Int) + (u : Int)) = (K : Int) + (u : Int) := (by rw [IntKind.wrap_i64]; omega); have hcat2 : ¬ 9223372036854775807 < V.size + (T.size - ((K : Int) + (u : Int)).toNat) := (by omega)))
    have B7 := below_of_rdr (below_of_rdr (B5.drew.alloc B5.size (.cells (spoilL.map Value.string).toArray 9)) hg6 hRB) hg7 hRB
    go_wp2_with fail
    go_ret
    exact ⟨_, rfl, by rw [ByteArray.size_append, ByteArray.size_extract]; omega, B7⟩
end Go.Proofs.YtjcdmabkhmohgaaDoor
