/-
  The law FnEventText, walked.
-/
import Derived.Test.YtpdbkohfmkmemaaDoorDrawET
import Derived.Test.YtpdbkohfmkmemaaDoorParseE
namespace Go.Proofs.YtpdbkohfmkmemaaDoor
open Go.RowKit
set_option linter.unusedSimpArgs false
set_option linter.unusedVariables false

theorem wf_u8 {x : Int} (h : (Lit.int .u8 x).wf = true) : 0 ≤ x ∧ x ≤ 255 := by simpa [Lit.wf, IntKind.min, IntKind.max, IntKind.signed, IntKind.bits] using h
theorem fmtE_nonempty {a : ByteArray} {x y : Int} (hv : eventIn a.toList x y 4 = true) : (fmtE a x y).toList.isEmpty = false := by
  obtain ⟨⟨x0, x6⟩, ⟨y0, y6⟩⟩ := event_parts hv
  obtain ⟨X, rfl⟩ := Int.eq_ofNat_of_zero_le x0
  obtain ⟨Y, rfl⟩ := Int.eq_ofNat_of_zero_le y0
  rw [fmtE_yes hv, Lib.toList_data]
  simp [ByteArray.data_append]
theorem event_kind_size {a : ByteArray} {x y : Int} (h : eventIn a.toList x y 4 = true) : a.size ≤ 1048576 := by
  have e : a.size = a.toList.length := by rw [Lib.toList_data]; exact (Array.length_toList).symm
  simp only [eventIn, Bool.or_eq_true, Bool.and_eq_true, beq_iff_eq] at h
  rw [e]
  rcases h with ((⟨⟨h, _⟩, _⟩ | ⟨⟨h, _⟩, _⟩) | ⟨⟨h | h, _⟩, _⟩) | ⟨⟨h, _⟩, _⟩ <;> rw [h] <;> decide
/-- the cells of three boxes, kept -/
theorem keep9 {w w' : World} {g k j : Nat} {a0 a1 a2 b0 b1 b2 c0 c1 c2 : Value} (hb : Below w.heap.size w w') (hg : g < w.heap.size) (hk : k < w.heap.size) (hj : j < w.heap.size)
    (g0 : w.cell? ⟨g, 0, none⟩ = some a0) (g1 : w.cell? ⟨g, 1, none⟩ = some a1) (g2 : w.cell? ⟨g, 2, none⟩ = some a2) (k0 : w.cell? ⟨k, 0, none⟩ = some b0) (k1 : w.cell? ⟨k, 1, none⟩ = some b1) (k2 : w.cell? ⟨k, 2, none⟩ = some b2) (j0 : w.cell? ⟨j, 0, none⟩ = some c0) (j1 : w.cell? ⟨j, 1, none⟩ = some c1) (j2 : w.cell? ⟨j, 2, none⟩ = some c2) :
    w'.cell? ⟨g, 0, none⟩ = some a0 ∧ w'.cell? ⟨g, 1, none⟩ = some a1 ∧ w'.cell? ⟨g, 2, none⟩ = some a2 ∧ w'.cell? ⟨k, 0, none⟩ = some b0 ∧ w'.cell? ⟨k, 1, none⟩ = some b1 ∧ w'.cell? ⟨k, 2, none⟩ = some b2 ∧ w'.cell? ⟨j, 0, none⟩ = some c0 ∧ w'.cell? ⟨j, 1, none⟩ = some c1 ∧ w'.cell? ⟨j, 2, none⟩ = some c2 :=
  ⟨(hb.cell (p := ⟨g, 0, none⟩) hg).trans g0, (hb.cell (p := ⟨g, 1, none⟩) hg).trans g1, (hb.cell (p := ⟨g, 2, none⟩) hg).trans g2, (hb.cell (p := ⟨k, 0, none⟩) hk).trans k0, (hb.cell (p := ⟨k, 1, none⟩) hk).trans k1, (hb.cell (p := ⟨k, 2, none⟩) hk).trans k2, (hb.cell (p := ⟨j, 0, none⟩) hj).trans j0, (hb.cell (p := ⟨j, 1, none⟩) hj).trans j1, (hb.cell (p := ⟨j, 2, none⟩) hj).trans j2⟩
theorem lt_of_cell_ {w : World} {a : Addr} {v : Value} (h : w.cell? a = some v) : a.block < w.heap.size := World.block_lt_of_cell? w a h
theorem keep9' {w w' : World} {g k j : Nat} {a0 a1 a2 b0 b1 b2 c0 c1 c2 : Value} (hb : Below w.heap.size w w')
    (h : w.cell? ⟨g, 0, none⟩ = some a0 ∧ w.cell? ⟨g, 1, none⟩ = some a1 ∧ w.cell? ⟨g, 2, none⟩ = some a2 ∧ w.cell? ⟨k, 0, none⟩ = some b0 ∧ w.cell? ⟨k, 1, none⟩ = some b1 ∧ w.cell? ⟨k, 2, none⟩ = some b2 ∧ w.cell? ⟨j, 0, none⟩ = some c0 ∧ w.cell? ⟨j, 1, none⟩ = some c1 ∧ w.cell? ⟨j, 2, none⟩ = some c2) :
    w'.cell? ⟨g, 0, none⟩ = some a0 ∧ w'.cell? ⟨g, 1, none⟩ = some a1 ∧ w'.cell? ⟨g, 2, none⟩ = some a2 ∧ w'.cell? ⟨k, 0, none⟩ = some b0 ∧ w'.cell? ⟨k, 1, none⟩ = some b1 ∧ w'.cell? ⟨k, 2, none⟩ = some b2 ∧ w'.cell? ⟨j, 0, none⟩ = some c0 ∧ w'.cell? ⟨j, 1, none⟩ = some c1 ∧ w'.cell? ⟨j, 2, none⟩ = some c2 := by
  obtain ⟨g0, g1, g2, k0, k1, k2, j0, j1, j2⟩ := h
  exact keep9 hb (lt_of_cell_ g0) (lt_of_cell_ k0) (lt_of_cell_ j0) g0 g1 g2 k0 k1 k2 j0 j1 j2
set_option maxRecDepth 100000 in
set_option maxHeartbeats 8000000 in
theorem FnEventText_walk (A0 : Option Addr) (l0 : List Int) (c0 : Nat) (A1 : Option Addr) (l1 : List Int) (c1 : Nat) (w : World) (ht : Tab w) (he : ErrIs w) (h0 : Reads w w.heap.size 1 A0 l0.length (l0.map (Value.int .u8))) (hc0 : l0.length ≤ c0) (hm0 : c0 ≤ maxLen) (hw0 : ∀ x ∈ l0, (Lit.int .u8 x).wf = true) (h1 : Reads w w.heap.size 1 A1 l1.length (l1.map (Value.int .u8))) (hc1 : l1.length ≤ c1) (hm1 : c1 ≤ maxLen) (hw1 : ∀ x ∈ l1, (Lit.int .u8 x).wf = true) :
    Calls Tryd.prog 5 #[.slice A0 l0.length c0, .slice A1 l1.length c1] w fun e w' => e = .returned (.bool true) ∧ Below w.heap.size w w' := by
  by_cases hn0 : l0.length ≤ 1048576
  case neg =>
    have h' : (1048576 : Int) < l0.length := by omega
    clear h0 hn0 hw0 hc0 hm0 h1 hw1 hc1 hm1 ht he
    go_enter Tryd.func5, Tryd.ntmps5
    go_wp2
    go_ret
    exact ⟨rfl, Below.refl _ _⟩
  by_cases hn1 : l1.length ≤ 1048576
  case neg =>
    have h' : (1048576 : Int) < l1.length := by omega
    have h'' : ¬ (1048576 : Int) < l0.length := by omega
    clear h0 hn0 hw0 hc0 hm0 h1 hn1 hw1 hc1 hm1 ht he
    go_enter Tryd.func5, Tryd.ntmps5
    go_wp2
    go_ret
    exact ⟨rfl, Below.refl _ _⟩
  have f0 : ¬ (1048576 : Int) < l0.length := by omega
  have f1 : ¬ (1048576 : Int) < l1.length := by omega
  have hRB : RB w w.heap.size A0 l0 := ⟨h0, fun x hx => wf_u8 (hw0 x hx)⟩
  have hRB1 : Hid (∀ W, Below w.heap.size w W → RB W W.heap.size A1 l1) := Lib.hid fun W h => ⟨(Reads.below h1 h).more h.size, fun x hx => wf_u8 (hw1 x hx)⟩
  have HD1 := Lib.hid (fun W h => DrawParseEvent_any A1 c1 l1 W (hRB1.out W h) hc1 hm1 hn1)
  have HD2 := Lib.hid (fun W h => DrawEventValid_any A1 c1 l1 W (hRB1.out W h) hc1 hm1 hn1)
  have HD0 := Lib.hid (DrawFormatEvent_any A0 c0 l0 w hRB hc0 hm0 hn0)
  have TT : ∀ W, Below w.heap.size w W → Tab W := fun W h => ht.below h
  have EE : ∀ W, Below w.heap.size w W → ErrIs W := fun W h => he.below h
  clear h0 hw0 hm0 h1 hw1 hm1 hc0 hc1 hn0 hn1 hRB hRB1 ht he
  go_enter Tryd.func5, Tryd.ntmps5
  go_wp2_with fail
  refine HD0.out.mono ?_
  rintro e w1 ⟨a, x, y, rfl, ha, hx, hy, B1⟩
  clear HD0
  have hsz := fmtE_size a x y ha
  have ha6 : a.size ≤ 1048576 := by omega
  have kD := Blk.new w1 23 #[.string a, .int .i64 x, .int .i64 y]
  have B2 := B1.alloc B1.size (.cells #[.string a, .int .i64 x, .int .i64 y] 23)
  go_wp2_with fail
  generalize w1.alloc (.cells #[.string a, .int .i64 x, .int .i64 y] 23) = w2 at kD B2 ⊢
  obtain ⟨d, hd⟩ : ∃ d, w1.heap.size = d := ⟨_, rfl⟩
  rw [hd] at kD ⊢
  clear hd B1
  refine (iFormatEvent_any a x y w2 (TT _ B2) ha6).mono ?_
  rintro e w3 ⟨rfl, hb3⟩
  have kD3 := kD.below hb3 kD.lt
  have B3 := B2.trans (hb3.mono B2.size)
  have S := Lib.hid (fun W => sFormatEvent_any a x y W ha6)
  have V0 := fun W => iEventValid_any a x y 4 W
  simp only [eventB_rest (show (1 : Int) ≤ 4 ∧ (4 : Int) ≤ 4 by omega)] at V0
  have V := Lib.hid V0
  clear V0
  clear kD hb3 B2
  have hFno : Hid (eventIn a.toList x y 4 = false → (fmtE a x y).toList.isEmpty = true) := Lib.hid (fun h => by rw [fmtE_no h, Lib.toList_data]; rfl)
  have hFyes : Hid (eventIn a.toList x y 4 = true → (fmtE a x y).toList.isEmpty = false ∧ parEI (fmtE a x y) = yesD a x y) := Lib.hid (fun h => ⟨fmtE_nonempty h, (par_valid h).1⟩)
  have hIP := Lib.hid (fun W ht he => iParseEvent_any (fmtE a x y) W ht he (Nat.le_trans hsz (by omega)))
  obtain ⟨F, hF⟩ : ∃ F, fmtE a x y = F := ⟨_, rfl⟩
  rw [hF] at S hFno hFyes hIP hsz ⊢
  clear hF ha hx hy ha6 hsz
  obtain ⟨bv, hbv⟩ : ∃ bv, eventIn a.toList x y 4 = bv := ⟨_, rfl⟩
  rw [hbv] at V hFno hFyes
  clear hbv
  go_upto_region 5 with fail
  go_cut [5, 6, 38] (fun s5 s6 s38 wx => s5 = .pointer (some ⟨d, 0, none⟩) ∧ s6 = .string F ∧ s38 = .bool false ∧ Blk wx d 23 #[.string a, .int .i64 x, .int .i64 y] ∧ Below w.heap.size w wx)
  case first =>
    have d0 : w3.cell? ⟨d, 0, none⟩ = some (.string a) := kD3.cell 0
    have d1 : w3.cell? ⟨d, 1, none⟩ = some (.int .i64 x) := kD3.cell 1
    have d2 : w3.cell? ⟨d, 2, none⟩ = some (.int .i64 y) := kD3.cell 2
    go_wp2_with fail
    refine (S.out w3).mono ?_
    rintro e w4 ⟨rfl, hb4⟩
    have kD4 := kD3.below hb4 kD3.lt
    have B4 := B3.trans (hb4.mono B3.size)
    clear d0 d1 d2 kD3 hb4
    have d0 : w4.cell? ⟨d, 0, none⟩ = some (.string a) := kD4.cell 0
    have d1 : w4.cell? ⟨d, 1, none⟩ = some (.int .i64 x) := kD4.cell 1
    have d2 : w4.cell? ⟨d, 2, none⟩ = some (.int .i64 y) := kD4.cell 2
    cases bv
    · have hFe : (!F.toList.isEmpty) = false := by rw [hFno.out rfl]; rfl
      go_wp2_with fail
      refine (V.out w4).mono ?_
      rintro e w5 ⟨rfl, hb5⟩
      go_wp2_with fail
      go_meet
      exact ⟨rfl, rfl, rfl, kD4.below hb5 kD4.lt, B4.trans (hb5.mono B4.size)⟩
    · have hFe : (!F.toList.isEmpty) = true := by rw [(hFyes.out rfl).1]; rfl
      go_wp2_with fail
      refine (V.out w4).mono ?_
      rintro e w5 ⟨rfl, hb5⟩
      go_wp2_with fail
      go_meet
      exact ⟨rfl, rfl, rfl, kD4.below hb5 kD4.lt, B4.trans (hb5.mono B4.size)⟩
  case rest =>
    clear kD3 B3 S V
    obtain ⟨rfl, rfl, rfl, kD3, B3⟩ := hcut
    have hFb : Hid ((!F.toList.isEmpty) = bv) := by
      cases bv
      · exact Lib.hid (by rw [hFno.out rfl]; rfl)
      · exact Lib.hid (by rw [(hFyes.out rfl).1]; rfl)
    go_upto_region 7 with fail
    go_cut [5, 6, 40] (fun s5 s6 s40 wx => s5 = .pointer (some ⟨d, 0, none⟩) ∧ s6 = .string F ∧ s40 = .bool bv ∧ Blk wx d 23 #[.string a, .int .i64 x, .int .i64 y] ∧ Below w.heap.size w wx)
    case first =>
      go_wp2_with fail
      go_meet
      exact ⟨rfl, rfl, by rw [← hFb.out], kD3, B3⟩
    case rest =>
    clear kD3 B3 hFb
    obtain ⟨rfl, rfl, rfl, kD3, B3⟩ := hcut
    go_upto_if 40 with fail
    go_cut [5] (fun _ wx => Below w.heap.size w wx)
    case first =>
      cases bv
      · go_wp2_with fail
        go_meet
        exact B3
      · obtain ⟨_, hpar⟩ := hFyes.out rfl
        rw [hpar] at hIP
        clear hpar
        go_wp2_with fail
        refine (hIP.out wc (TT _ B3) (EE _ B3)).mono ?_
        rintro e w5 ⟨rfl, hb5⟩
        have kD5 := kD3.below hb5 kD3.lt
        have B5 := B3.trans (hb5.mono B3.size)
        have d0 : w5.cell? ⟨d, 0, none⟩ = some (.string a) := kD5.cell 0
        have d1 : w5.cell? ⟨d, 1, none⟩ = some (.int .i64 x) := kD5.cell 1
        have d2 : w5.cell? ⟨d, 2, none⟩ = some (.int .i64 y) := kD5.cell 2
        have hdl := kD5.lt
        unfold yesD
        go_wp2_with fail
        go_meet
        exact B5.alloc B5.size _
    case rest =>
      clear B3 kD3 hFno hFyes hIP
      have B3 := hcut
      clear hcut
      go_wp2_with fail
      refine (HD1.out _ B3).mono ?_
      rintro e w4 ⟨T, rfl, hT, hb4⟩
      have B4 := B3.trans (hb4.mono B3.size)
      have hI := Lib.hid (fun W ht he => iParseEvent_any T W ht he (Nat.le_trans hT (by omega)))
      have hS := Lib.hid (fun W => sParseEvent_any T W (Nat.le_trans hT (by omega)))
      have hIF := Lib.hid (fun g x y W ht h => iFormatEvent_any g x y W ht h)
      have hcases := Lib.hid (par_cases T)
      clear B3 hb4 hT HD1
      go_wp2_with fail
      rcases hcases.out with ⟨gg, gx, gy, hdv, hfm, e1, e2⟩ | ⟨e1, e2⟩
      · have hgs : gg.size ≤ 1048576 := (event_kind_size hdv)
        rw [e1] at hI
        rw [e2] at hS
        clear e1 e2
        refine (hI.out _ (TT _ B4) (EE _ B4)).mono ?_
        rintro e w5 ⟨rfl, hb5⟩
        have kG := Blk.new w5 23 #[.string gg, .int .i64 gx, .int .i64 gy]
        have B5 := (B4.trans (hb5.mono B4.size)).alloc (Nat.le_trans B4.size hb5.size) (.cells #[.string gg, .int .i64 gx, .int .i64 gy] 23)
        unfold yesD
        go_wp2_with fail
        generalize w5.alloc (.cells #[.string gg, .int .i64 gx, .int .i64 gy] 23) = w6 at kG B5 ⊢
        obtain ⟨g, hg⟩ : ∃ g, w5.heap.size = g := ⟨_, rfl⟩
        rw [hg] at kG ⊢
        clear hg hb5 B4
        refine (hS.out w6).mono ?_
        rintro e w7 ⟨rfl, hb7⟩
        have kG7 := kG.below hb7 kG.lt
        have B7 := B5.trans (hb7.mono B5.size)
        have kW := Blk.new w7 23 #[.string gg, .int .i64 gx, .int .i64 gy]
        have kG8 := kG7.alloc (.cells #[.string gg, .int .i64 gx, .int .i64 gy] 23)
        have B8 := B7.alloc B7.size (.cells #[.string gg, .int .i64 gx, .int .i64 gy] 23)
        clear kG hb7 B5 kG7 B7 hI hS
        unfold yesD
        go_wp2_with fail
        generalize w7.alloc (.cells #[.string gg, .int .i64 gx, .int .i64 gy] 23) = w8 at kG8 kW B8 ⊢
        obtain ⟨k, hk⟩ : ∃ k, w7.heap.size = k := ⟨_, rfl⟩
        rw [hk] at kW ⊢
        clear hk
        refine (HD2.out w8 B8).mono ?_
        rintro e w9 ⟨ea, ex, ey, n, rfl, hea, hex, hey, hen, hb9⟩
        have kG9 := (kG8.below hb9 kG8.lt).alloc (.cells #[.string ea, .int .i64 ex, .int .i64 ey] 23)
        have kW9 := (kW.below hb9 kW.lt).alloc (.cells #[.string ea, .int .i64 ex, .int .i64 ey] 23)
        have kE := Blk.new w9 23 #[.string ea, .int .i64 ex, .int .i64 ey]
        have B9 := (B8.trans (hb9.mono B8.size)).alloc (Nat.le_trans B8.size hb9.size) (.cells #[.string ea, .int .i64 ex, .int .i64 ey] 23)
        clear kG8 kW B8 hb9 HD2
        go_wp2_with fail
        generalize w9.alloc (.cells #[.string ea, .int .i64 ex, .int .i64 ey] 23) = w10 at kG9 kW9 kE B9 ⊢
        obtain ⟨j, hj⟩ : ∃ j, w9.heap.size = j := ⟨_, rfl⟩
        rw [hj] at kE ⊢
        clear hj
        have T9 := TT _ B9.drew
        clear TT EE
        have g0 : w10.drew.cell? ⟨g, 0, none⟩ = some (.string gg) := kG9.cell 0
        have g1 : w10.drew.cell? ⟨g, 1, none⟩ = some (.int .i64 gx) := kG9.cell 1
        have g2 : w10.drew.cell? ⟨g, 2, none⟩ = some (.int .i64 gy) := kG9.cell 2
        have k0 : w10.drew.cell? ⟨k, 0, none⟩ = some (.string gg) := kW9.cell 0
        have k1 : w10.drew.cell? ⟨k, 1, none⟩ = some (.int .i64 gx) := kW9.cell 1
        have k2 : w10.drew.cell? ⟨k, 2, none⟩ = some (.int .i64 gy) := kW9.cell 2
        have j0 : w10.drew.cell? ⟨j, 0, none⟩ = some (.string ea) := kE.cell 0
        have j1 : w10.drew.cell? ⟨j, 1, none⟩ = some (.int .i64 ex) := kE.cell 1
        have j2 : w10.drew.cell? ⟨j, 2, none⟩ = some (.int .i64 ey) := kE.cell 2
        have hIF2 := hIF.out gg gx gy
        rw [hfm] at hIF2
        have hb11 := fun W => iEventValid_any ea ex ey n W
        have hb12 := fun W => sEventValid_any ea ex ey n W
        obtain ⟨bv2, hbv2⟩ : ∃ bv2, eventB ea.toList ex ey n = bv2 := ⟨_, rfl⟩
        simp only [hbv2] at hb11 hb12
        clear hbv2 hfm hcases hdv
        have hbb : (bv2 == bv2) = true := by cases bv2 <;> rfl
        have hgl : g < w10.drew.heap.size := kG9.lt
        have hkl : k < w10.drew.heap.size := kW9.lt
        have hjl : j < w10.drew.heap.size := kE.lt
        go_region_held3 (fun w' => w'.cell? ⟨g, 0, none⟩ = some (.string gg) ∧ w'.cell? ⟨g, 1, none⟩ = some (.int .i64 gx) ∧ w'.cell? ⟨g, 2, none⟩ = some (.int .i64 gy) ∧ w'.cell? ⟨k, 0, none⟩ = some (.string gg) ∧ w'.cell? ⟨k, 1, none⟩ = some (.int .i64 gx) ∧ w'.cell? ⟨k, 2, none⟩ = some (.int .i64 gy) ∧ w'.cell? ⟨j, 0, none⟩ = some (.string ea) ∧ w'.cell? ⟨j, 1, none⟩ = some (.int .i64 ex) ∧ w'.cell? ⟨j, 2, none⟩ = some (.int .i64 ey)) (first | exact ⟨g0, g1, g2, k0, k1, k2, j0, j1, j2⟩ | exact K11.out | exact K12.out | exact K13.out) (first | (go_at_call 12; refine (hIF2 w10.drew T9 hgs).mono ?_; rintro e w11 ⟨rfl, hb11'⟩; have K11 := Lib.hid (keep9 hb11' hgl hkl hjl g0 g1 g2 k0 k1 k2 j0 j1 j2)) | (go_at_call 14; refine (hb11 w11).mono ?_; rintro e w12 ⟨rfl, hb12'⟩; have K12 := Lib.hid (keep9' hb12' K11.out)) | (go_at_call 17; refine (hb12 w12).mono ?_; rintro e w13 ⟨rfl, hb13'⟩; have K13 := Lib.hid (keep9' hb13' K12.out)))
        have B13 := ((B9.drew.trans (hb11'.mono B9.drew.size)).trans (hb12'.mono (Nat.le_trans B9.drew.size hb11'.size))).trans (hb13'.mono (Nat.le_trans (Nat.le_trans B9.drew.size hb11'.size) hb12'.size))
        go_wp2_with fail
        go_ret
        exact ⟨rfl, B13⟩
      · rw [e1] at hI
        rw [e2] at hS
        clear e1 e2
        refine (hI.out _ (TT _ B4) (EE _ B4)).mono ?_
        rintro e w5 ⟨rfl, hb5⟩
        have kG := Blk.new w5 23 #[.string ⟨#[]⟩, .int .i64 0, .int .i64 0]
        have B5 := (B4.trans (hb5.mono B4.size)).alloc (Nat.le_trans B4.size hb5.size) (.cells #[.string ⟨#[]⟩, .int .i64 0, .int .i64 0] 23)
        unfold noD
        go_wp2_with fail
        generalize w5.alloc (.cells #[.string ⟨#[]⟩, .int .i64 0, .int .i64 0] 23) = w6 at kG B5 ⊢
        obtain ⟨g, hg⟩ : ∃ g, w5.heap.size = g := ⟨_, rfl⟩
        rw [hg] at kG ⊢
        clear hg hb5 B4
        refine (hS.out w6).mono ?_
        rintro e w7 ⟨rfl, hb7⟩
        have kG7 := kG.below hb7 kG.lt
        have B7 := B5.trans (hb7.mono B5.size)
        have kW := Blk.new w7 23 #[.string ⟨#[]⟩, .int .i64 0, .int .i64 0]
        have kG8 := kG7.alloc (.cells #[.string ⟨#[]⟩, .int .i64 0, .int .i64 0] 23)
        have B8 := B7.alloc B7.size (.cells #[.string ⟨#[]⟩, .int .i64 0, .int .i64 0] 23)
        clear kG hb7 B5 kG7 B7 hI hS
        unfold noD
        go_wp2_with fail
        generalize w7.alloc (.cells #[.string ⟨#[]⟩, .int .i64 0, .int .i64 0] 23) = w8 at kG8 kW B8 ⊢
        obtain ⟨k, hk⟩ : ∃ k, w7.heap.size = k := ⟨_, rfl⟩
        rw [hk] at kW ⊢
        clear hk
        refine (HD2.out w8 B8).mono ?_
        rintro e w9 ⟨ea, ex, ey, n, rfl, hea, hex, hey, hen, hb9⟩
        have kG9 := (kG8.below hb9 kG8.lt).alloc (.cells #[.string ea, .int .i64 ex, .int .i64 ey] 23)
        have kW9 := (kW.below hb9 kW.lt).alloc (.cells #[.string ea, .int .i64 ex, .int .i64 ey] 23)
        have kE := Blk.new w9 23 #[.string ea, .int .i64 ex, .int .i64 ey]
        have B9 := (B8.trans (hb9.mono B8.size)).alloc (Nat.le_trans B8.size hb9.size) (.cells #[.string ea, .int .i64 ex, .int .i64 ey] 23)
        clear kG8 kW B8 hb9 HD2
        go_wp2_with fail
        generalize w9.alloc (.cells #[.string ea, .int .i64 ex, .int .i64 ey] 23) = w10 at kG9 kW9 kE B9 ⊢
        obtain ⟨j, hj⟩ : ∃ j, w9.heap.size = j := ⟨_, rfl⟩
        rw [hj] at kE ⊢
        clear hj
        have T9 := TT _ B9.drew
        clear TT EE
        have g0 : w10.drew.cell? ⟨g, 0, none⟩ = some (.string ⟨#[]⟩) := kG9.cell 0
        have g1 : w10.drew.cell? ⟨g, 1, none⟩ = some (.int .i64 0) := kG9.cell 1
        have g2 : w10.drew.cell? ⟨g, 2, none⟩ = some (.int .i64 0) := kG9.cell 2
        have k0 : w10.drew.cell? ⟨k, 0, none⟩ = some (.string ⟨#[]⟩) := kW9.cell 0
        have k1 : w10.drew.cell? ⟨k, 1, none⟩ = some (.int .i64 0) := kW9.cell 1
        have k2 : w10.drew.cell? ⟨k, 2, none⟩ = some (.int .i64 0) := kW9.cell 2
        have j0 : w10.drew.cell? ⟨j, 0, none⟩ = some (.string ea) := kE.cell 0
        have j1 : w10.drew.cell? ⟨j, 1, none⟩ = some (.int .i64 ex) := kE.cell 1
        have j2 : w10.drew.cell? ⟨j, 2, none⟩ = some (.int .i64 ey) := kE.cell 2
        have hb11 := fun W => iEventValid_any ea ex ey n W
        have hb12 := fun W => sEventValid_any ea ex ey n W
        obtain ⟨bv2, hbv2⟩ : ∃ bv2, eventB ea.toList ex ey n = bv2 := ⟨_, rfl⟩
        simp only [hbv2] at hb11 hb12
        clear hbv2 hcases hIF
        have hbb : (bv2 == bv2) = true := by cases bv2 <;> rfl
        have hgl : g < w10.drew.heap.size := kG9.lt
        have hkl : k < w10.drew.heap.size := kW9.lt
        have hjl : j < w10.drew.heap.size := kE.lt
        go_wp2_with fail
        refine wp_region_noPanic ?_
        refine wp_region_held_drew (S := (fun w' => w'.cell? ⟨g, 0, none⟩ = some (.string ⟨#[]⟩) ∧ w'.cell? ⟨g, 1, none⟩ = some (.int .i64 0) ∧ w'.cell? ⟨g, 2, none⟩ = some (.int .i64 0) ∧ w'.cell? ⟨k, 0, none⟩ = some (.string ⟨#[]⟩) ∧ w'.cell? ⟨k, 1, none⟩ = some (.int .i64 0) ∧ w'.cell? ⟨k, 2, none⟩ = some (.int .i64 0) ∧ w'.cell? ⟨j, 0, none⟩ = some (.string ea) ∧ w'.cell? ⟨j, 1, none⟩ = some (.int .i64 ex) ∧ w'.cell? ⟨j, 2, none⟩ = some (.int .i64 ey))) (by kernel_rfl) (⟨g0, g1, g2, k0, k1, k2, j0, j1, j2⟩) (fun hHeld => ?_)
        refine' wpAnyH_take (i := 0) (oi := _) (v := _) rfl (by kernel_rfl) (by kernel_rfl) (by kernel_rfl) (fun _ _ _ h => h) (Or.inl ⟨by rfl, ?hy0⟩) hHeld ?rest0
        case hy0 => (intro w' hSw; (try dsimp only at hSw); go_simp; try with_reducible rfl)
        case' rest0 => try simp only [Act.put, List.setIfInBounds_toArray, List.set_cons_zero, List.set_cons_succ, List.getElem_toArray, List.getElem_cons_succ, List.getElem_cons_zero]
        refine' wpAnyH_take (i := 1) (oi := _) (v := _) rfl (by kernel_rfl) (by kernel_rfl) (by kernel_rfl) (fun _ _ _ h => h) (Or.inl ⟨by rfl, ?hy1⟩) hHeld ?rest1
        case hy1 => (intro w' hSw; (try dsimp only at hSw); go_simp; try with_reducible rfl)
        case' rest1 => try simp only [Act.put, List.setIfInBounds_toArray, List.set_cons_zero, List.set_cons_succ, List.getElem_toArray, List.getElem_cons_succ, List.getElem_cons_zero]
        refine' wpAnyH_take (i := 2) (oi := _) (v := _) rfl (by kernel_rfl) (by kernel_rfl) (by kernel_rfl) (fun _ _ _ h => h) (Or.inl ⟨by rfl, ?hy2⟩) hHeld ?rest2
        case hy2 => (intro w' hSw; (try dsimp only at hSw); go_simp; try with_reducible rfl)
        case' rest2 => try simp only [Act.put, List.setIfInBounds_toArray, List.set_cons_zero, List.set_cons_succ, List.getElem_toArray, List.getElem_cons_succ, List.getElem_cons_zero]
        refine' wpAnyH_take (i := 3) (oi := _) (v := _) rfl (by kernel_rfl) (by kernel_rfl) (by kernel_rfl) (fun _ _ _ h => h) (Or.inl ⟨by rfl, ?hy3⟩) hHeld ?rest3
        case hy3 => (intro w' hSw; (try dsimp only at hSw); go_simp; try with_reducible rfl)
        case' rest3 => try simp only [Act.put, List.setIfInBounds_toArray, List.set_cons_zero, List.set_cons_succ, List.getElem_toArray, List.getElem_cons_succ, List.getElem_cons_zero]
        refine' wpAnyH_take (i := 4) (oi := _) (v := _) rfl (by kernel_rfl) (by kernel_rfl) (by kernel_rfl) (fun _ _ _ h => h) (Or.inl ⟨by rfl, ?hy4⟩) hHeld ?rest4
        case hy4 => (intro w' hSw; (try dsimp only at hSw); go_simp; try with_reducible rfl)
        case' rest4 => try simp only [Act.put, List.setIfInBounds_toArray, List.set_cons_zero, List.set_cons_succ, List.getElem_toArray, List.getElem_cons_succ, List.getElem_cons_zero]
        refine' wpAnyH_take (i := 5) (oi := _) (v := _) rfl (by kernel_rfl) (by kernel_rfl) (by kernel_rfl) (fun _ _ _ h => h) (Or.inl ⟨by rfl, ?hy5⟩) hHeld ?rest5
        case hy5 => (intro w' hSw; (try dsimp only at hSw); go_simp; try with_reducible rfl)
        case' rest5 => try simp only [Act.put, List.setIfInBounds_toArray, List.set_cons_zero, List.set_cons_succ, List.getElem_toArray, List.getElem_cons_succ, List.getElem_cons_zero]
        refine' wpAnyH_take (i := 6) (oi := _) (v := _) rfl (by kernel_rfl) (by kernel_rfl) (by kernel_rfl) (fun _ _ _ h => h) (Or.inl ⟨by rfl, ?hy6⟩) hHeld ?rest6
        case hy6 => (intro w' hSw; (try dsimp only at hSw); go_simp; try with_reducible rfl)
        case' rest6 => try simp only [Act.put, List.setIfInBounds_toArray, List.set_cons_zero, List.set_cons_succ, List.getElem_toArray, List.getElem_cons_succ, List.getElem_cons_zero]
        refine' wpAnyH_take (i := 7) (oi := _) (v := _) rfl (by kernel_rfl) (by kernel_rfl) (by kernel_rfl) (fun _ _ _ h => h) (Or.inl ⟨by rfl, ?hy7⟩) hHeld ?rest7
        case hy7 => (intro w' hSw; (try dsimp only at hSw); go_simp; try with_reducible rfl)
        case' rest7 => try simp only [Act.put, List.setIfInBounds_toArray, List.set_cons_zero, List.set_cons_succ, List.getElem_toArray, List.getElem_cons_succ, List.getElem_cons_zero]
        refine' wpAnyH_take (i := 8) (oi := _) (v := _) rfl (by kernel_rfl) (by kernel_rfl) (by kernel_rfl) (fun _ _ _ h => h) (Or.inl ⟨by rfl, ?hy8⟩) hHeld ?rest8
        case hy8 => (intro w' hSw; (try dsimp only at hSw); go_simp; try with_reducible rfl)
        case' rest8 => try simp only [Act.put, List.setIfInBounds_toArray, List.set_cons_zero, List.set_cons_succ, List.getElem_toArray, List.getElem_cons_succ, List.getElem_cons_zero]
        refine' wpAnyH_take (i := 9) (oi := _) (v := _) rfl (by kernel_rfl) (by kernel_rfl) (by kernel_rfl) (fun _ _ _ h => h) (Or.inl ⟨by rfl, ?hy9⟩) hHeld ?rest9
        case hy9 => (intro w' hSw; (try dsimp only at hSw); go_simp; try with_reducible rfl)
        case' rest9 => try simp only [Act.put, List.setIfInBounds_toArray, List.set_cons_zero, List.set_cons_succ, List.getElem_toArray, List.getElem_cons_succ, List.getElem_cons_zero]
        refine' wpAnyH_take (i := 10) (oi := _) (v := _) rfl (by kernel_rfl) (by kernel_rfl) (by kernel_rfl) (fun _ _ _ h => h) (Or.inl ⟨by rfl, ?hy10⟩) hHeld ?rest10
        case hy10 => (intro w' hSw; (try dsimp only at hSw); go_simp; try with_reducible rfl)
        case' rest10 => try simp only [Act.put, List.setIfInBounds_toArray, List.set_cons_zero, List.set_cons_succ, List.getElem_toArray, List.getElem_cons_succ, List.getElem_cons_zero]
        refine' wpAnyH_take (i := 11) (oi := _) (v := _) rfl (by kernel_rfl) (by kernel_rfl) (by kernel_rfl) (fun _ _ _ h => h) (Or.inl ⟨by rfl, ?hy11⟩) hHeld ?rest11
        case hy11 => (intro w' hSw; (try dsimp only at hSw); go_simp; try with_reducible rfl)
        case' rest11 => try simp only [Act.put, List.setIfInBounds_toArray, List.set_cons_zero, List.set_cons_succ, List.getElem_toArray, List.getElem_cons_succ, List.getElem_cons_zero]
        refine' wpAnyH_take (i := 12) (oi := _) (v := _) rfl (by kernel_rfl) (by kernel_rfl) (by kernel_rfl) (fun _ _ _ h => h) (Or.inr ⟨by rfl, rfl⟩) hHeld ?rest12
        case' rest12 => try simp only [Act.put, List.setIfInBounds_toArray, List.set_cons_zero, List.set_cons_succ, List.getElem_toArray, List.getElem_cons_succ, List.getElem_cons_zero]
        refine' wpAnyH_take (i := 13) (oi := _) (v := _) rfl (by kernel_rfl) (by kernel_rfl) (by kernel_rfl) (fun _ _ _ h => h) (Or.inr ⟨by rfl, rfl⟩) hHeld ?rest13
        case' rest13 => try simp only [Act.put, List.setIfInBounds_toArray, List.set_cons_zero, List.set_cons_succ, List.getElem_toArray, List.getElem_cons_succ, List.getElem_cons_zero]
        refine' wpAnyH_take (i := 14) (oi := _) (v := _) rfl (by kernel_rfl) (by kernel_rfl) (by kernel_rfl) (fun _ _ _ h => h) (Or.inr ⟨by rfl, rfl⟩) hHeld ?rest14
        case' rest14 => try simp only [Act.put, List.setIfInBounds_toArray, List.set_cons_zero, List.set_cons_succ, List.getElem_toArray, List.getElem_cons_succ, List.getElem_cons_zero]
        refine' wpAnyH_take (i := 15) (oi := _) (v := _) rfl (by kernel_rfl) (by kernel_rfl) (by kernel_rfl) (fun _ _ _ h => h) (Or.inr ⟨by rfl, rfl⟩) hHeld ?rest15
        case' rest15 => try simp only [Act.put, List.setIfInBounds_toArray, List.set_cons_zero, List.set_cons_succ, List.getElem_toArray, List.getElem_cons_succ, List.getElem_cons_zero]
        refine' wpAnyH_take (i := 16) (oi := _) (v := _) rfl (by kernel_rfl) (by kernel_rfl) (by kernel_rfl) (fun _ _ _ h => h) (Or.inl ⟨by rfl, ?hy16⟩) hHeld ?rest16
        case hy16 => (intro w' hSw; (try dsimp only at hSw); go_simp; try with_reducible rfl)
        case' rest16 => try simp only [Act.put, List.setIfInBounds_toArray, List.set_cons_zero, List.set_cons_succ, List.getElem_toArray, List.getElem_cons_succ, List.getElem_cons_zero]
        refine' wpAnyH_take (i := 17) (oi := _) (v := _) rfl (by kernel_rfl) (by kernel_rfl) (by kernel_rfl) (fun _ _ _ h => h) (Or.inl ⟨by rfl, ?hy17⟩) hHeld ?rest17
        case hy17 => (intro w' hSw; (try dsimp only at hSw); go_simp; try with_reducible rfl)
        case' rest17 => try simp only [Act.put, List.setIfInBounds_toArray, List.set_cons_zero, List.set_cons_succ, List.getElem_toArray, List.getElem_cons_succ, List.getElem_cons_zero]
        refine' wpAnyH_take (i := 18) (oi := _) (v := _) rfl (by kernel_rfl) (by kernel_rfl) (by kernel_rfl) (fun _ _ _ h => h) (Or.inl ⟨by rfl, ?hy18⟩) hHeld ?rest18
        case hy18 => (intro w' hSw; (try dsimp only at hSw); go_simp; try with_reducible rfl)
        case' rest18 => try simp only [Act.put, List.setIfInBounds_toArray, List.set_cons_zero, List.set_cons_succ, List.getElem_toArray, List.getElem_cons_succ, List.getElem_cons_zero]
        refine' wpAnyH_take (i := 19) (oi := _) (v := _) rfl (by kernel_rfl) (by kernel_rfl) (by kernel_rfl) (fun _ _ _ h => h) (Or.inl ⟨by rfl, ?hy19⟩) hHeld ?rest19
        case hy19 => (intro w' hSw; (try dsimp only at hSw); go_simp; try with_reducible rfl)
        case' rest19 => try simp only [Act.put, List.setIfInBounds_toArray, List.set_cons_zero, List.set_cons_succ, List.getElem_toArray, List.getElem_cons_succ, List.getElem_cons_zero]
        refine' wpAnyH_take (i := 20) (oi := _) (v := _) rfl (by kernel_rfl) (by kernel_rfl) (by kernel_rfl) (fun _ _ _ h => h) (Or.inl ⟨by rfl, ?hy20⟩) hHeld ?rest20
        case hy20 => (intro w' hSw; (try dsimp only at hSw); go_simp; try with_reducible rfl)
        case' rest20 => try simp only [Act.put, List.setIfInBounds_toArray, List.set_cons_zero, List.set_cons_succ, List.getElem_toArray, List.getElem_cons_succ, List.getElem_cons_zero]
        refine' wpAnyH_take (i := 22) (oi := _) (v := _) rfl (by kernel_rfl) (by kernel_rfl) (by kernel_rfl) (fun _ _ _ h => h) (Or.inl ⟨by rfl, ?hy22⟩) hHeld ?rest22
        case hy22 => (intro w' hSw; (try dsimp only at hSw); go_simp; try with_reducible rfl)
        case' rest22 => try simp only [Act.put, List.setIfInBounds_toArray, List.set_cons_zero, List.set_cons_succ, List.getElem_toArray, List.getElem_cons_succ, List.getElem_cons_zero]
        refine' wpAnyH_take (i := 23) (oi := _) (v := _) rfl (by kernel_rfl) (by kernel_rfl) (by kernel_rfl) (fun _ _ _ h => h) (Or.inl ⟨by rfl, ?hy23⟩) hHeld ?rest23
        case hy23 => (intro w' hSw; (try dsimp only at hSw); go_simp; try with_reducible rfl)
        case' rest23 => try simp only [Act.put, List.setIfInBounds_toArray, List.set_cons_zero, List.set_cons_succ, List.getElem_toArray, List.getElem_cons_succ, List.getElem_cons_zero]
        refine wpAnyH_ready (rs := [21]) (by kernel_rfl) (by simp) ?_
        refine AllReadyH.cons (o := _) rfl (fun K hK => ?_) AllReadyH.nil
        go_simp
        refine (hb11 w10.drew).mono ?_
        rintro e w12 ⟨rfl, hb12'⟩
        have K12 := Lib.hid (keep9 hb12' hgl hkl hjl g0 g1 g2 k0 k1 k2 j0 j1 j2)
        try go_wp2_with fail
        refine hK.out _ _ (K12.out) (fun hHeld => ?_)
        clear hK K
        try simp only [Act.put, List.setIfInBounds_toArray, List.set_cons_zero, List.set_cons_succ, List.getElem_toArray, List.getElem_cons_succ, List.getElem_cons_zero]
        refine wpAnyH_ready (rs := [24]) (by kernel_rfl) (by simp) ?_
        refine AllReadyH.cons (o := _) rfl (fun K hK => ?_) AllReadyH.nil
        go_simp
        refine (hb12 w12).mono ?_
        rintro e w13 ⟨rfl, hb13'⟩
        have K13 := Lib.hid (keep9' hb13' K12.out)
        try go_wp2_with fail
        refine hK.out _ _ (K13.out) (fun hHeld => ?_)
        clear hK K
        try simp only [Act.put, List.setIfInBounds_toArray, List.set_cons_zero, List.set_cons_succ, List.getElem_toArray, List.getElem_cons_succ, List.getElem_cons_zero]
        refine' wpAnyH_take (i := 25) (oi := _) (v := _) rfl (by kernel_rfl) (by kernel_rfl) (by kernel_rfl) (fun _ _ _ h => h) (Or.inl ⟨by rfl, ?hy25⟩) hHeld ?rest25
        case hy25 => (intro w' hSw; (try dsimp only at hSw); go_simp; try with_reducible rfl)
        case' rest25 => try simp only [Act.put, List.setIfInBounds_toArray, List.set_cons_zero, List.set_cons_succ, List.getElem_toArray, List.getElem_cons_succ, List.getElem_cons_zero]
        refine' wpAnyH_take (i := 26) (oi := _) (v := _) rfl (by kernel_rfl) (by kernel_rfl) (by kernel_rfl) (fun _ _ _ h => h) (Or.inl ⟨by rfl, ?hy26⟩) hHeld ?rest26
        case hy26 => (intro w' hSw; (try dsimp only at hSw); go_simp; try with_reducible rfl)
        case' rest26 => try simp only [Act.put, List.setIfInBounds_toArray, List.set_cons_zero, List.set_cons_succ, List.getElem_toArray, List.getElem_cons_succ, List.getElem_cons_zero]
        refine' wpAnyH_take (i := 27) (oi := _) (v := _) rfl (by kernel_rfl) (by kernel_rfl) (by kernel_rfl) (fun _ _ _ h => h) (Or.inl ⟨by rfl, ?hy27⟩) hHeld ?rest27
        case hy27 => (intro w' hSw; (try dsimp only at hSw); go_simp; try with_reducible rfl)
        case' rest27 => try simp only [Act.put, List.setIfInBounds_toArray, List.set_cons_zero, List.set_cons_succ, List.getElem_toArray, List.getElem_cons_succ, List.getElem_cons_zero]
        refine wpAnyH_done (by kernel_rfl) ?_ _
        refine NoPanic.normal ?_
        have B13 := (B9.drew.trans (hb12'.mono B9.drew.size)).trans (hb13'.mono (Nat.le_trans B9.drew.size hb12'.size))
        go_wp2_with fail
        go_ret
        exact ⟨rfl, B13⟩
end Go.Proofs.YtpdbkohfmkmemaaDoor
