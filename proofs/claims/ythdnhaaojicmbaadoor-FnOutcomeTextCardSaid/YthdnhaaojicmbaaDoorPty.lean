/-
  A party: stopped, its line, its word, what it hears.
-/
import Derived.Test.YthdnhaaojicmbaaDoorBoth
namespace Go.Proofs.YthdnhaaojicmbaaDoor
open Go.RowKit
set_option linter.unusedSimpArgs false
set_option linter.unusedVariables false

def stopB (fin : ByteArray) (k n : Nat) : Bool := !fin.toList.isEmpty || decide ((n : Int) ≤ (k : Int))
theorem l3Stopped_any (A : Option Addr) (n c k : Nat) (hv : Value) (fin : ByteArray) (last ear : Int) (w : World) :
    Calls Tryd.prog 62 #[.agg #[.slice A n c, .int .i64 k, hv, .string fin, .int .i64 last, .int .i64 ear]] w fun e w' => e = .returned (.bool (stopB fin k n)) ∧ Below w.heap.size w w' := by
  have B1 := (Below.refl w.heap.size w).alloc (Nat.le_refl _) (.cells #[.slice A n c, .int .i64 k, hv, .string fin, .int .i64 last, .int .i64 ear] 93)
  cases hf : fin.toList.isEmpty
  · have E : Hid (stopB fin k n = true) := Lib.hid (by simp [stopB, hf])
    go_enter Tryd.func62, Tryd.ntmps62
    go_wp2_with fail
    go_ret
    exact ⟨ret_bool E.out.symm, B1⟩
  · by_cases hk : (n : Int) ≤ (k : Int)
    · have E : Hid (stopB fin k n = true) := Lib.hid (by simp [stopB, hf, hk])
      go_enter Tryd.func62, Tryd.ntmps62
      go_wp2_with fail
      go_ret
      exact ⟨ret_bool E.out.symm, B1⟩
    · have E : Hid (stopB fin k n = false) := Lib.hid (by simp [stopB, hf]; omega)
      go_enter Tryd.func62, Tryd.ntmps62
      go_wp2_with fail
      go_ret
      exact ⟨ret_bool E.out.symm, B1⟩
theorem l3Line_any (A : Option Addr) (l : List Dd) (c k : Nat) (hv fv : Value) (last ear : Int) (w : World) (h : RD w w.heap.size A l) (hk : k < l.length) (h9 : (l[k].2.1 == 9) = false) :
    Calls Tryd.prog 65 #[.agg #[.slice A l.length c, .int .i64 k, hv, fv, .int .i64 last, .int .i64 ear]] w fun e w' => e = .returned (.int .i64 l[k].2.1) ∧ Below w.heap.size w w' := by
  have B1 := (Below.refl w.heap.size w).alloc (Nat.le_refl _) (.cells #[.slice A l.length c, .int .i64 k, hv, fv, .int .i64 last, .int .i64 ear] 93)
  obtain ⟨ad, rfl, hbl, h1, h2, h3⟩ := (h.below B1).at_ hk
  have hk' : (k : Int) < (l.length : Int) := by omega
  obtain ⟨d, hd⟩ : ∃ d, l[k] = d := ⟨_, rfl⟩
  rw [hd] at h1 h2 h3 h9 ⊢
  clear hd h
  go_enter Tryd.func65, Tryd.ntmps65
  go_wp2_with fail
  go_ret
  exact ⟨rfl, B1⟩
set_option maxHeartbeats 1000000 in
theorem l3Word_any (A : Option Addr) (l : List Dd) (c k : Nat) (hv fv : Value) (last ear : Int) (w : World) (h : RD w w.heap.size A l) (hk : k < l.length) (hh : (l[k].1.toList == [104, 97, 110, 100]) = false) :
    Calls Tryd.prog 68 #[.agg #[.slice A l.length c, .int .i64 k, hv, fv, .int .i64 last, .int .i64 ear]] w fun e w' => (e = .returned (.int .i64 last) ∨ e = .returned (.int .i64 l[k].2.2)) ∧ Below w.heap.size w w' := by
  have B1 := (Below.refl w.heap.size w).alloc (Nat.le_refl _) (.cells #[.slice A l.length c, .int .i64 k, hv, fv, .int .i64 last, .int .i64 ear] 93)
  obtain ⟨ad, rfl, hbl, h1, h2, h3⟩ := (h.below B1).at_ hk
  have hk' : (k : Int) < (l.length : Int) := by omega
  obtain ⟨d, hd⟩ : ∃ d, l[k] = d := ⟨_, rfl⟩
  rw [hd] at h1 h2 h3 hh ⊢
  clear hd h
  have B2 := B1.alloc B1.size (.cells #[.string d.1, .int .i64 d.2.1, .int .i64 d.2.2] 67)
  cases hp : d.1.toList == [112, 97, 115, 115]
  · go_enter Tryd.func68, Tryd.ntmps68
    go_wp2_with fail
    go_ret
    exact ⟨.inr rfl, B2⟩
  · go_enter Tryd.func68, Tryd.ntmps68
    go_wp2_with fail
    go_ret
    exact ⟨.inl rfl, B2⟩
theorem ownsRow_emptyI (w : World) : (w.alloc (.cells #[] 3)).ownsRow w.heap.size 3 1 (.slice (some ⟨w.heap.size, 0, none⟩) 0 0) 0 (ints []) := ownsRow_empty w
/-- what l3Hears leaves: a party -/
def Heard (w : World) (pv : Value) (k : Int) (hl : List Int) (fv : Value) (ear : Int) (e : Ending) (w' : World) : Prop :=
  ∃ A' c' last, e = .returned (.agg #[pv, .int .i64 k, .slice A' hl.length c', fv, .int .i64 last, .int .i64 ear]) ∧ 0 ≤ last ∧ last ≤ 1000 ∧ w'.ownsRow w.heap.size 3 1 (.slice A' hl.length c') hl.length (ints hl) ∧ Below w.heap.size w w'
set_option maxHeartbeats 8000000 in
theorem l3Hears_any (A : Option Addr) (l : List Dd) (c k : Nat) (Ah : Option Addr) (hl : List Int) (ch : Nat) (fz : ByteArray) (last ear word : Int) (w : World) (h : RD w w.heap.size A l) (hh : RI w w.heap.size Ah hl) (hk : k < l.length) (hl13 : l.length ≤ 13) (hl2 : hl.length ≤ 1000) (hw : -1 ≤ word) (hw2 : word ≤ 1000) :
    Calls Tryd.prog 70 #[.agg #[.slice A l.length c, .int .i64 k, .slice Ah hl.length ch, .string fz, .int .i64 last, .int .i64 ear], .int .i64 word] w (Heard w (.slice A l.length c) (if (l[k].1.toList == takeL) = true then (k : Int) + 1 else k) (hl ++ [word]) (.string fz) ear) := by
  obtain ⟨i0, hi, hz0, hz1, hz2⟩ := info_parts int_info
  obtain ⟨d, hd⟩ : ∃ d, l[k] = d := ⟨_, rfl⟩
  obtain ⟨kn, hkn⟩ : ∃ kn, (if (l[k].1.toList == takeL) = true then (k : Int) + 1 else k) = kn := ⟨_, rfl⟩
  rw [hkn]
  rw [hd] at hkn
  have Hkn := Lib.hid hkn
  have Hd := Lib.hid hd
  clear hkn hd
  have B1 := ((Below.refl w.heap.size w).alloc (Nat.le_refl _) (.cells #[.slice A l.length c, .int .i64 k, .slice Ah hl.length ch, .string fz, .int .i64 last, .int .i64 ear] 93)).alloc (by simp) (.cells #[.slice none 0 0, .int .i64 0, .slice none 0 0, .string ⟨#[]⟩, .int .i64 0, .int .i64 0] 93)
  have k1 := (Blk.new w 93 #[.slice A l.length c, .int .i64 k, .slice Ah hl.length ch, .string fz, .int .i64 last, .int .i64 ear]).alloc (.cells #[.slice none 0 0, .int .i64 0, .slice none 0 0, .string ⟨#[]⟩, .int .i64 0, .int .i64 0] 93)
  have k2 := Blk.new (w.alloc (.cells #[.slice A l.length c, .int .i64 k, .slice Ah hl.length ch, .string fz, .int .i64 last, .int .i64 ear] 93)) 93 #[.slice none 0 0, .int .i64 0, .slice none 0 0, .string ⟨#[]⟩, .int .i64 0, .int .i64 0]
  simp only [World.size_alloc] at k2
  go_enter Tryd.func70, Tryd.ntmps70
  go_upto_region 1 with fail
  generalize (w.alloc (.cells #[.slice A l.length c, .int .i64 k, .slice Ah hl.length ch, .string fz, .int .i64 last, .int .i64 ear] 93)).alloc (.cells #[.slice none 0 0, .int .i64 0, .slice none 0 0, .string ⟨#[]⟩, .int .i64 0, .int .i64 0] 93) = wB at B1 k1 k2 ⊢
  obtain ⟨b, hb⟩ : ∃ b, w.heap.size = b := ⟨_, rfl⟩
  rw [hb] at B1 k1 k2 h hh
  simp only [hb]
  have HB := Lib.hid hb
  have hlt := k2.lt
  have HD := Lib.hid (fun W (hB : Below b w W) => RD.below h hB)
  have hI := Reads.more (Reads.alloc (Reads.below hh B1) (by omega) (.cells #[] 3)) (B' := (wB.alloc (.cells #[] 3)).heap.size) (by simp; omega)
  have o1 := own_mono (ownsRow_emptyI wB) (base' := b) (by omega)
  have K1 := k1.alloc (.cells #[] 3)
  have K2 := k2.alloc (.cells #[] 3)
  have B2 := B1.alloc (by omega) (.cells #[] 3)
  have hF : ∀ q, (Value.slice (some ⟨wB.heap.size, 0, none⟩) 0 0).ownBlock = some q → wB.heap.size ≤ q := by
    intro q hq
    simp [Value.ownBlock] at hq
    omega
  have c2 : (wB.alloc (.cells #[] 3)).cell? ⟨b, 2, none⟩ = some (.slice Ah hl.length ch) := K1.cell 2
  have hs2 : b ≤ (wB.alloc (.cells #[] 3)).heap.size := by simp; omega
  clear h hh hb k1 k2 B1
  go_upto_region 2 with (first | (at_builtin; refine wpList_append_any _ rfl _ _ 22 rfl b 3 i0 (.int .i64 0) 1 8 Tryd.underlying22 hi hz0 hz1 hz2 rfl (by decide) (.slice (some ⟨wB.heap.size, 0, none⟩) 0 0) _ _ rfl o1 _ Ah hl.length ch (ints hl) rfl hI (ints_oneCell' hl) ?_ ?_ ?_ ?_; (unfold maxLen; omega); omega; exact hs2; intro v' w4 hown' hgrow hloc; have hz4 : wB.heap.size < w4.heap.size := (Nat.lt_of_lt_of_le (by simp) hgrow.size); have K3 := (K1.grown hgrow (fun e => by have := hF b e.symm; omega)).alloc (.cells #[.int .i64 word] 3); have K4 := (K2.grown hgrow (fun e => by have := hF (b + 1) e.symm; omega)).alloc (.cells #[.int .i64 word] 3); have B4 := (below_own B2 hgrow hs2 (fun q hq => by have := hF q hq; omega)).alloc (by omega) (.cells #[.int .i64 word] 3); have o4 : (w4.alloc (.cells #[.int .i64 word] 3)).ownsRow b 3 1 v' hl.length (ints hl) := ((by simpa [ints] using hown' : w4.ownsRow b 3 1 v' hl.length (ints hl)).alloc _); have hF4 : ∀ q, v'.ownBlock = some q → wB.heap.size ≤ q := (fun q hq => by rcases hloc with e | e; exact hF q (e.symm.trans hq); rw [e] at hq; injection hq with hq; subst hq; simp); have hs4 : b ≤ (w4.alloc (.cells #[.int .i64 word] 3)).heap.size := (by have := B4.size; have := HB.out; omega); clear K1 K2 B2 o1 hI c2 hown' hgrow hloc hs2) | (at_builtin; refine wpList_append_own_at _ rfl _ _ 22 rfl b 3 i0 (.int .i64 0) 1 8 Tryd.underlying22 hi hz0 hz1 hz2 rfl (by decide) v' _ _ rfl o4 ⟨w4.heap.size, 0, none⟩ 1 1 [.int .i64 word] rfl rfl (cell_one_new _ _ _) (ints_oneCell .i64 [word]) ?_ ?_ ?_ ?_; (unfold maxLen; omega); omega; exact hs4; intro v8 w8 hown8 hgrow8 hnil8 hloc8; have K5 := K3.grown hgrow8 (fun e => by have := hF4 b e.symm; omega); have K6 := K4.grown hgrow8 (fun e => by have := hF4 (b + 1) e.symm; omega); have B8 := below_own B4 hgrow8 hs4 (fun q hq => by have := hF4 q hq; omega); have c2 : w8.cell? ⟨b, 2, none⟩ = some (.slice Ah hl.length ch) := K5.cell 2; have cf := K5.frozen; obtain ⟨A8, c8, rfl⟩ := own_form hown8))
  go_cut [] (fun wx => ∃ m : Int, 0 ≤ m ∧ m ≤ 1000 ∧ Blk wx b 93 #[.slice A l.length c, .int .i64 k, .slice A8 (hl.length + 1) c8, .string fz, .int .i64 m, .int .i64 ear] ∧ Blk wx (b + 1) 93 #[.slice none 0 0, .int .i64 0, .slice none 0 0, .string ⟨#[]⟩, .int .i64 0, .int .i64 0] ∧ wx.ownsRow b 3 1 (.slice A8 (hl.length + 1) c8) (hl.length + 1) (ints (hl ++ [word])) ∧ Below b w wx)
  case first =>
    have hne8 : (Value.slice A8 (hl.length + 1) c8).ownBlock ≠ some b := by
      intro e
      rcases hloc8 with e2 | e2
      · have := hF4 b (e2.symm.trans e); omega
      · rw [e2] at e; injection e with e; simp at e; omega
    have K7 := K5.set_ 2 (.slice A8 (hl.length + 1) c8)
    have K8 := K6.far (p := ⟨b, 2, none⟩) (by show b + 1 ≠ b; omega) (.slice A8 (hl.length + 1) c8)
    have o8 := ownsRow_setCell_other hown8 (a := ⟨b, 2, none⟩) hne8 (.slice A8 (hl.length + 1) c8)
    have B9 : Below b w (w8.setCell ⟨b, 2, none⟩ (.slice A8 (hl.length + 1) c8)) := B8.setCell (Nat.le_refl _) _
    generalize w8.setCell ⟨b, 2, none⟩ (.slice A8 (hl.length + 1) c8) = w9 at K7 K8 o8 B9 ⊢
    clear K5 K6 hown8 B8 c2 cf
    have c4 : w9.cell? ⟨b, 4, none⟩ = some (.int .i64 last) := K7.cell 4
    have cf := K7.frozen
    have fin : ∀ m : Int, 0 ≤ m → m ≤ 1000 → ∃ m' : Int, 0 ≤ m' ∧ m' ≤ 1000 ∧ Blk (w9.setCell ⟨b, 4, none⟩ (.int .i64 m)) b 93 #[.slice A l.length c, .int .i64 k, .slice A8 (hl.length + 1) c8, .string fz, .int .i64 m', .int .i64 ear] ∧ Blk (w9.setCell ⟨b, 4, none⟩ (.int .i64 m)) (b + 1) 93 #[.slice none 0 0, .int .i64 0, .slice none 0 0, .string ⟨#[]⟩, .int .i64 0, .int .i64 0] ∧ (w9.setCell ⟨b, 4, none⟩ (.int .i64 m)).ownsRow b 3 1 (.slice A8 (hl.length + 1) c8) (hl.length + 1) (ints (hl ++ [word])) ∧ Below b w (w9.setCell ⟨b, 4, none⟩ (.int .i64 m)) := fun m m0 m1 =>
      ⟨m, m0, m1, K7.set_ 4 (.int .i64 m), K8.far (p := ⟨b, 4, none⟩) (by show b + 1 ≠ b; omega) _, by simpa [ints] using ownsRow_setCell_other o8 (a := ⟨b, 4, none⟩) hne8 (.int .i64 m), B9.setCell (Nat.le_refl _) _⟩
    by_cases h0 : 0 ≤ word
    · go_wp2_with fail
      go_meet
      exact fin word h0 hw2
    · have h0' : word < 0 := by omega
      go_wp2_with fail
      go_meet
      exact fin 0 (by omega) (by omega)
  case rest =>
  clear K5 K6 hown8 B8 c2 cf hnil8 hloc8
  obtain ⟨m, m0, m1, K1, K2, o8, B8⟩ := hcut
  obtain ⟨ad, rfl, hbl, h1, h2, h3⟩ := (HD.out _ B8).at_ hk
  have hk' : (k : Int) < (l.length : Int) := by omega
  have hadb : ad.block ≠ b := by omega
  rw [Hd.out] at h1 h2 h3
  have hw3 : ¬ (2000 : Int) < word := by omega
  have hkw : wrap64 ((k : Int) + 1) = (k : Int) + 1 := by unfold wrap64; omega
  clear HD
  have a0 : wc.cell? ⟨b, 0, none⟩ = some (.slice (some ad) l.length c) := K1.cell 0
  have a1 : wc.cell? ⟨b, 1, none⟩ = some (.int .i64 k) := K1.cell 1
  have a2 : wc.cell? ⟨b, 2, none⟩ = some (.slice A8 (hl.length + 1) c8) := K1.cell 2
  have a3 : wc.cell? ⟨b, 3, none⟩ = some (.string fz) := K1.cell 3
  have a4 : wc.cell? ⟨b, 4, none⟩ = some (.int .i64 m) := K1.cell 4
  have a5 : wc.cell? ⟨b, 5, none⟩ = some (.int .i64 ear) := K1.cell 5
  have af := K1.frozen
  have b0 : wc.cell? ⟨b + 1, 0, none⟩ = some (.slice none 0 0) := K2.cell 0
  have b1 : wc.cell? ⟨b + 1, 1, none⟩ = some (.int .i64 0) := K2.cell 1
  have b2 : wc.cell? ⟨b + 1, 2, none⟩ = some (.slice none 0 0) := K2.cell 2
  have b3 : wc.cell? ⟨b + 1, 3, none⟩ = some (.string ⟨#[]⟩) := K2.cell 3
  have b4 : wc.cell? ⟨b + 1, 4, none⟩ = some (.int .i64 0) := K2.cell 4
  have b5 : wc.cell? ⟨b + 1, 5, none⟩ = some (.int .i64 0) := K2.cell 5
  have bf := K2.frozen
  have hq0 : (Value.slice A8 (hl.length + 1) c8).ownBlock ≠ some b := own_blk_ne o8 K1 (by decide)
  have hq1 : (Value.slice A8 (hl.length + 1) c8).ownBlock ≠ some (b + 1) := own_blk_ne o8 K2 (by decide)
  cases ht : d.1.toList == [116, 97, 107, 101]
  · have ht' : (d.1.toList == takeL) = false := ht
    go_wp2_with fail
    exact bodyPost_ret (v := .agg #[.slice (some ad) l.length c, .int .i64 k, .slice A8 (hl.length + 1) c8, .string fz, .int .i64 m, .int .i64 ear]) (by simp [results, Tryd.results70, go_sem, b0, b1, b2, b3, b4, b5]) rfl ⟨A8, c8, m, by rw [← Hkn.out, ht']; simp, m0, m1, by simpa [ints, HB.out] using ownsRow_setCell_other (ownsRow_setCell_other (ownsRow_setCell_other (ownsRow_setCell_other (ownsRow_setCell_other (ownsRow_setCell_other (o8) (a := ⟨b + 1, 0, none⟩) hq1 _) (a := ⟨b + 1, 1, none⟩) hq1 _) (a := ⟨b + 1, 2, none⟩) hq1 _) (a := ⟨b + 1, 3, none⟩) hq1 _) (a := ⟨b + 1, 4, none⟩) hq1 _) (a := ⟨b + 1, 5, none⟩) hq1 _, by rw [HB.out]; exact Below.setCell (Below.setCell (Below.setCell (Below.setCell (Below.setCell (Below.setCell (B8) (show b ≤ b + 1 by omega) _) (show b ≤ b + 1 by omega) _) (show b ≤ b + 1 by omega) _) (show b ≤ b + 1 by omega) _) (show b ≤ b + 1 by omega) _) (show b ≤ b + 1 by omega) _⟩
  · have ht' : (d.1.toList == takeL) = true := ht
    go_wp2_with fail
    exact bodyPost_ret (v := .agg #[.slice (some ad) l.length c, .int .i64 ((k : Int) + 1), .slice A8 (hl.length + 1) c8, .string fz, .int .i64 m, .int .i64 ear]) (by simp [results, Tryd.results70, go_sem, b0, b1, b2, b3, b4, b5]) rfl ⟨A8, c8, m, by rw [← Hkn.out, ht']; simp, m0, m1, by simpa [ints, HB.out] using ownsRow_setCell_other (ownsRow_setCell_other (ownsRow_setCell_other (ownsRow_setCell_other (ownsRow_setCell_other (ownsRow_setCell_other (ownsRow_setCell_other o8 (a := ⟨b, 1, none⟩) hq0 _) (a := ⟨b + 1, 0, none⟩) hq1 _) (a := ⟨b + 1, 1, none⟩) hq1 _) (a := ⟨b + 1, 2, none⟩) hq1 _) (a := ⟨b + 1, 3, none⟩) hq1 _) (a := ⟨b + 1, 4, none⟩) hq1 _) (a := ⟨b + 1, 5, none⟩) hq1 _, by rw [HB.out]; exact Below.setCell (Below.setCell (Below.setCell (Below.setCell (Below.setCell (Below.setCell (Below.setCell B8 (show b ≤ b by omega) _) (show b ≤ b + 1 by omega) _) (show b ≤ b + 1 by omega) _) (show b ≤ b + 1 by omega) _) (show b ≤ b + 1 by omega) _) (show b ≤ b + 1 by omega) _) (show b ≤ b + 1 by omega) _⟩
end Go.Proofs.YthdnhaaojicmbaaDoor
