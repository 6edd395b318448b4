/-
  Comparing, marking and reading slices of slices; the law FnExactGroupsOf, walked.
-/
import Derived.Test.YtbihnjfckaeioaaGroups2
namespace Go.Proofs.Ytbihnjfckaeioaa
open Go.RowKit
set_option linter.unusedSimpArgs false
set_option linter.unusedVariables false

theorem below_drew_ {w w' : World} (h : Below w.drew.heap.size w.drew w') : Below w.heap.size w w' := ((Below.refl _ _).drew).trans h
set_option maxHeartbeats 2000000 in
theorem eqIntSS_same (A A' : Option Addr) (c c' : Nat) (G : List (List Int)) (V V' : List Value) (b b' : Nat) (w : World) (h : OII w b (.slice A G.length c) V G) (h' : OII w b' (.slice A' G.length c') V' G) (hn : G.length ≤ 100) (hn2 : ∀ l ∈ G, l.length ≤ 100) :
    Calls Try.prog 16 #[.slice A G.length c, .slice A' G.length c'] w fun e w' => e = .returned (.bool true) ∧ Below w.heap.size w w' := by
  have hne : ((G.length : Int) != (G.length : Int)) = false := by simp
  go_enter Try.func16, Try.ntmps16
  go_wp2
  go_loopw [5] (fun i wr => ∃ k : Nat, k ≤ G.length ∧ i = .int .i64 k ∧ Below w.heap.size w wr) (fun i _ => G.length - (intOf i).toNat)
  case atStart => exact ⟨0, Nat.zero_le _, rfl, Below.refl _ _⟩
  case round =>
    obtain ⟨k, hk, rfl, hbel⟩ := hrel
    by_cases hlt : k < G.length
    · obtain ⟨ad, A1, c1, rfl, hb, hc1, _, hr1⟩ := (h.below hbel).at_ hlt
      obtain ⟨ad', A2, c2, rfl, hb', hc2, _, hr2⟩ := (h'.below hbel).at_ hlt
      have hs := hbel.size
      have hn1 := hn2 G[k] (List.getElem_mem _)
      obtain ⟨l, hl⟩ : ∃ l, G[k] = l := ⟨_, rfl⟩
      rw [hl] at hc1 hc2 hr1 hr2 hn1
      have R1 := RI.of_own hr1
      have R2 := RI.of_own hr2
      have hl6 : l.length ≤ 1048576 := by omega
      clear hl hne hn2 h h' hr1 hr2
      have hbk : (ad.add k).block < wr.heap.size := by rw [block_of_add]; omega
      have hbk' : (ad'.add k).block < wr.heap.size := by rw [block_of_add]; omega
      have hll : (l == l) = true := by simp
      go_wp2
      go_region_held3 (fun w' => w'.cell? (ad.add k) = some (.slice A1 l.length c1) ∧ w'.cell? (ad'.add k) = some (.slice A2 l.length c2)) (go_keep) (first | (go_at_call 17; refine (eqIntS_any A1 A2 c1 c2 l l wr.drew _ _ R1 R2 hl6 hl6).mono ?_; rintro e w2 ⟨rfl, n2, rfl⟩; have hb2 := below_drewN (Below.refl wr.drew.heap.size wr.drew) n2; have k1 := (hb2.cell (p := ad.add k) hbk).trans hc1; have k2 := (hb2.cell (p := ad'.add k) hbk').trans hc2))
      go_wp2
      go_roundw
      case rel => exact ⟨k + 1, by omega, by go_num, below_drewN hbel _⟩
      case measure => simp [intOf]; omega
    · obtain rfl : k = G.length := by omega
      clear h h' hn2
      go_wp2
      go_ret
      exact ⟨rfl, hbel⟩
/-- the marks before row i -/
def kTo (k : Int) (G : List (List Int)) (i : Nat) : Int := k + (((G.map List.length).take i).sum : Nat)
theorem kTo_succ (k : Int) (G : List (List Int)) {i : Nat} (h : i < G.length) : kTo k G (i + 1) = kTo k G i + G[i].length := by
  unfold kTo
  rw [take_snoc (G.map List.length) i (by simpa using h), List.sum_append]
  simp only [List.sum_cons, List.sum_nil, List.getElem_map, Nat.add_zero]
  omega
theorem kTo_bound {G : List (List Int)} (h2 : ∀ l ∈ G, l.length ≤ 100) (k : Int) {i : Nat} (hi : i ≤ G.length) : k ≤ kTo k G i ∧ kTo k G i ≤ k + 100 * i := by
  induction i with
  | zero => simp [kTo]
  | succ i ih =>
    have hlt : i < G.length := by omega
    have := ih (by omega)
    rw [kTo_succ k G hlt]
    have := h2 _ (List.getElem_mem hlt)
    omega
/-- the first i rows marked -/
def mTo (k : Int) (G : List (List Int)) (i : Nat) : List (List Int) := G.mapIdx fun j l => if j < i then markL (kTo k G j) l.length else l
@[simp] theorem mTo_length (k : Int) (G : List (List Int)) (i : Nat) : (mTo k G i).length = G.length := by simp [mTo]
theorem mTo_zero (k : Int) (G : List (List Int)) : mTo k G 0 = G := by
  apply List.ext_getElem?
  intro j
  simp only [mTo, List.getElem?_mapIdx]
  by_cases h : j < G.length <;> simp [h]
theorem mTo_at (k : Int) (G : List (List Int)) {i : Nat} (h : i < G.length) : (mTo k G i)[i]? = some G[i] := by simp [mTo, List.getElem?_mapIdx, h]
theorem mTo_all (k : Int) (G : List (List Int)) {i : Nat} (h : i < G.length) : (mTo k G G.length)[i]? = some (markL (kTo k G i) G[i].length) := by simp [mTo, List.getElem?_mapIdx, h]
theorem mTo_set (k : Int) (G : List (List Int)) {i : Nat} (h : i < G.length) : (mTo k G i).set i (markL (kTo k G i) G[i].length) = mTo k G (i + 1) := by
  apply List.ext_getElem?
  intro j
  rw [List.getElem?_set]
  simp only [mTo, List.getElem?_mapIdx, List.length_mapIdx]
  by_cases hj : i = j
  · subst hj
    simp [h]
  · rw [if_neg hj]
    by_cases hjl : j < G.length
    · simp only [List.getElem?_eq_getElem hjl, Option.map_some]
      have : (j < i + 1) = (j < i) := by rw [eq_iff_iff]; omega
      simp only [this]
    · simp [hjl]
theorem own_blocks {w w' : World} {base n sz : Nat} {e : TypeId} {v : Value} {xs : List Value} (h : w.ownsRow base e sz v n xs) (he : ∀ k, v.ownBlock = some k → w'.heap[k]? = w.heap[k]?) : w'.ownsRow base e sz v n xs := by
  refine ⟨h.1, ?_⟩
  rcases h.2 with h2 | ⟨g, cap, cur, h1, h2, h3, h4⟩
  · exact .inl h2
  · exact .inr ⟨g, cap, cur, h1, h2, (he g (by rw [h1]; rfl)).trans h3, h4⟩
theorem OII.keep {w0 w w' : World} {base : Nat} {v : Value} {V : List Value} {G G0 : List (List Int)} (h0 : OII w0 base v V G0) (h : OII w base v V G) (he : ∀ k, base ≤ k → k < w0.heap.size → w'.heap[k]? = w.heap[k]?) : OII w' base v V G := by
  refine ⟨h.len, own_blocks h.hdr fun k hk => he k (h.hdr.lt k hk).1 (h0.hdr.lt k hk).2, fun i u l h1 h2 => own_blocks (h.row i u l h1 h2) fun k hk => ?_, h.apart⟩
  have hi : i < G0.length := by rw [h0.len]; exact (List.getElem?_eq_some_iff.1 h1).1
  have h3 := (h0.row i u G0[i] h1 (List.getElem?_eq_getElem hi)).lt k hk
  exact he k h3.1 h3.2
theorem OII.base_row {w : World} {base : Nat} {v : Value} {V : List Value} {G : List (List Int)} (h : OII w base v V G) {i : Nat} {u : Value} (hu : V[i]? = some u) : ∀ k, u.ownBlock = some k → base ≤ k := by
  intro k hk
  have hi : i < G.length := by rw [h.len]; exact (List.getElem?_eq_some_iff.1 hu).1
  exact ((h.row i u G[i] hu (List.getElem?_eq_getElem hi)).lt k hk).1
set_option maxHeartbeats 2000000 in
theorem markIntSS_any (A : Option Addr) (c : Nat) (G : List (List Int)) (V : List Value) (base : Nat) (w : World) (h : OII w base (.slice A G.length c) V G) (hn : G.length ≤ 100) (hn2 : ∀ l ∈ G, l.length ≤ 100) (hB : base ≤ w.heap.size) :
    Calls Try.prog 19 #[.slice A G.length c, .int .i64 1] w fun e w' => e = .returned (.int .i64 (kTo 1 G G.length)) ∧ OII w' base (.slice A G.length c) V (mTo 1 G G.length) ∧ Below base w w' := by
  go_enter Try.func19, Try.ntmps19
  go_wp2
  go_loopw [1, 5] (fun m i wr => ∃ k : Nat, k ≤ G.length ∧ i = .int .i64 k ∧ m = .int .i64 (kTo 1 G k) ∧ OII wr base (.slice A G.length c) V (mTo 1 G k) ∧ Below base w wr) (fun _ i _ => G.length - (intOf i).toNat)
  case atStart => exact ⟨0, Nat.zero_le _, rfl, rfl, by rw [mTo_zero]; exact h, Below.refl _ _⟩
  case round =>
    clear h
    obtain ⟨k, hk, rfl, rfl, ho, hbel⟩ := hrel
    by_cases hlt : k < G.length
    · have hlt' : k < (mTo 1 G k).length := by simpa using hlt
      have ho2 := ho
      rw [← mTo_length 1 G k] at ho2
      obtain ⟨ad, A1, c1, rfl, hb, hc, hV, hrow⟩ := ho2.at_ hlt'
      have hg : (mTo 1 G k)[k] = G[k] := by
        have h1 := mTo_at 1 G hlt
        rw [List.getElem?_eq_getElem hlt'] at h1
        exact Option.some.inj h1
      rw [hg] at hc hV hrow
      have Hat := Lib.hid (mTo_at 1 G hlt)
      have Hst := Lib.hid (mTo_set 1 G hlt)
      have Hk := Lib.hid (kTo_succ 1 G hlt)
      have hle := hn2 _ (List.getElem_mem hlt)
      have hkb := kTo_bound hn2 1 (Nat.le_of_lt hlt)
      have hbl := ho.base_row hV
      obtain ⟨l, hl⟩ : ∃ l, G[k] = l := ⟨_, rfl⟩
      rw [hl] at hc hV hrow Hat Hst Hk hle hbl
      have HV := Lib.hid hV
      clear hl hg hV ho2 hn2
      have hB2 : base ≤ wr.heap.size := by have := hbel.size; omega
      go_wp2_with fail
      refine (markIntS_any A1 c1 l (kTo 1 G k) wr base hrow (by omega) (by omega) (by omega)).mono ?_
      rintro e w2 ⟨rfl, hm, hg2⟩
      have hset := ho.set_ HV.out Hat.out (l' := markL (kTo 1 G k) l.length) (by rw [markL_length]; exact hm) hg2
      rw [Hst.out] at hset
      have HS := Lib.hid hset
      clear hset hm
      go_wp2_with fail
      go_roundw
      case rel => exact ⟨k + 1, by omega, by go_num, by rw [Hk.out], HS.out, hbel.grown hg2 hB2 hbl⟩
      case measure => simp [intOf]; omega
    · obtain rfl : k = G.length := by omega
      clear hn2
      go_wp2
      go_ret
      exact ⟨rfl, ho, hbel⟩
set_option maxHeartbeats 2000000 in
theorem heldIntSS_ok (A : Option Addr) (c : Nat) (G : List (List Int)) (V : List Value) (base : Nat) (w : World) (h : OII w base (.slice A G.length c) V (mTo 1 G G.length)) (hn : G.length ≤ 100) (hn2 : ∀ l ∈ G, l.length ≤ 100) :
    Calls Try.prog 20 #[.slice A G.length c, .int .i64 1] w fun e w' => e = .returned (.int .i64 (kTo 1 G G.length)) ∧ w = w' := by
  go_enter Try.func20, Try.ntmps20
  go_wp2
  go_loop [1, 5] (fun m i => ∃ k : Nat, k ≤ G.length ∧ i = .int .i64 k ∧ m = .int .i64 (kTo 1 G k)) (fun _ i => G.length - (intOf i).toNat)
  case atStart => exact ⟨0, Nat.zero_le _, rfl, rfl⟩
  case round =>
    obtain ⟨k, hk, rfl, rfl⟩ := hrel
    by_cases hlt : k < G.length
    · have hlt' : k < (mTo 1 G G.length).length := by simpa using hlt
      obtain ⟨ad, A1, c1, rfl, hb, hc, hV, hrow⟩ := OII.at_ (G := mTo 1 G G.length) (A := A) (c := c) (by rw [mTo_length]; exact h) hlt'
      have hg : (mTo 1 G G.length)[k] = markL (kTo 1 G k) G[k].length := by
        have h1 := mTo_all 1 G hlt
        rw [List.getElem?_eq_getElem hlt'] at h1
        exact Option.some.inj h1
      rw [hg] at hc hV hrow
      rw [markL_length] at hc hrow
      have Hk := Lib.hid (kTo_succ 1 G hlt)
      have hle := hn2 _ (List.getElem_mem hlt)
      have hkb := kTo_bound hn2 1 (Nat.le_of_lt hlt)
      have R1 := RI.of_marks hrow
      obtain ⟨n, hl⟩ : ∃ n, G[k].length = n := ⟨_, rfl⟩
      rw [hl] at hc R1 Hk hle
      clear hl hg hV hn2 h hrow
      have hpos : ¬ (kTo 1 G k + (n : Int) < 0) := by omega
      go_wp2_with fail
      refine (heldIntS_ok A1 c1 n (kTo 1 G k) w _ R1 (by omega) (by omega) (by omega)).mono ?_
      rintro e w2 ⟨rfl, rfl⟩
      go_wp2_with fail
      go_round
      case rel => exact ⟨k + 1, by omega, by go_num, by rw [Hk.out]⟩
      case measure => simp [intOf]; omega
    · obtain rfl : k = G.length := by omega
      clear hn2 h
      go_wp2
      go_ret
      exact ⟨rfl, rfl⟩
set_option maxHeartbeats 4000000 in
theorem FnExactGroupsOf_walk (A0 : Option Addr) (l0 : List Int) (c0 : Nat) (w : World) (h0 : RI w w.heap.size A0 l0) (hc0 : l0.length ≤ c0) (hm0 : c0 ≤ maxLen) (hw0 : ∀ x ∈ l0, (Lit.int .i64 x).wf = true) :
    Calls Try.prog 4 #[.slice A0 l0.length c0] w fun e w' => e = .returned (.bool true) ∧ Below w.heap.size w w' := by
  clear hw0
  clear hc0 hm0
  by_cases hn0 : l0.length ≤ 1048576
  case neg =>
    have h' : 1048576 < l0.length := by omega
    clear h0 hn0
    go_enter Try.func4, Try.ntmps4
    go_wp2
    go_ret
    exact ⟨rfl, Below.refl _ _⟩
  obtain ⟨G, hG⟩ : ∃ G, groupsL l0 = G := ⟨_, rfl⟩
  have hn := groupsL_len l0
  have hn2 := groupsL_row l0
  have S := Lib.hid (fun A c w h => sGroupsOf_any A c l0 w h hn0)
  have I := Lib.hid (fun A c w h => iGroupsOf_any A c l0 w h hn0)
  rw [hG] at hn hn2 S I
  have HN2 := Lib.hid hn2
  have hkb := kTo_bound hn2 1 (Nat.le_refl _)
  obtain ⟨K, hK⟩ : ∃ K, kTo 1 G G.length = K := ⟨_, rfl⟩
  have HK := Lib.hid hK
  rw [hK] at hkb
  have hKK : (K != K) = false := by simp
  have hK0 : ¬ K < 0 := by omega
  have hll : (l0 == l0) = true := by simp
  clear hG hn2 hkb hK
  go_enter Try.func4, Try.ntmps4
  go_wp2_with fail
  refine (toIntS_any A0 c0 l0 w h0 hn0).mono ?_
  rintro e w1 ⟨g1, rfl, hg1, hb1, B1⟩
  have hs1 := B1.size
  have x1 := ownsRow_blk hb1 hg1 hn0
  clear hb1 hg1
  go_wp2_with fail
  refine (S.out _ _ w1 (RI.of_own x1)).mono ?_
  rintro e w2 ⟨A2, c2, V2, rfl, s2, hb2⟩
  have B2 := B1.trans (hb2.mono hs1)
  have hs2 := B2.size
  clear x1
  go_wp2_with fail
  refine (toIntS_any A0 c0 l0 w2 ((h0.below B2).more hs2) hn0).mono ?_
  rintro e w3 ⟨g3, rfl, hg3, hb3, hbel3⟩
  have B3 := B2.trans (hbel3.mono hs2)
  have hs3 := hbel3.size
  have x3 := ownsRow_blk hb3 hg3 hn0
  have s3 := s2.below hbel3
  have hg3' := hb3.lt
  have Z2 := Lib.hid s2
  clear hb3 s2
  go_wp2_with fail
  refine (I.out _ _ w3 (RI.of_own x3)).mono ?_
  rintro e w4 ⟨A4, c4, V4, rfl, o4, hbel4⟩
  have B4 := B3.trans (hbel4.mono (by omega))
  have hs4 := hbel4.size
  have x4 := own_below x3 hbel4
  have s4 := s3.below hbel4
  clear x3 s3
  go_wp2_with fail
  refine (eqIntSS_same A4 A2 c4 c2 G V4 V2 _ _ w4 o4 s4 hn HN2.out).mono ?_
  rintro e w5 ⟨rfl, hbel5⟩
  have B5 := B4.trans (hbel5.mono (by omega))
  have hs5 := hbel5.size
  have x5 := own_below x4 hbel5
  have s5 := s4.below hbel5
  have o5 := o4.below hbel5
  clear x4 s4 o4
  go_wp2_with fail
  refine (toIntS_any A0 c0 l0 w5 ((h0.below B5).more (by omega)) hn0).mono ?_
  rintro e w6 ⟨g6, rfl, hg6, hb6, hbel6⟩
  have B6 := B5.trans (hbel6.mono (by omega))
  have hs6 := hbel6.size
  have x6 := own_below x5 hbel6
  have s6 := s5.below hbel6
  have o6 := o5.below hbel6
  clear x5 s5 o5
  go_wp2_with fail
  refine (eqIntS_any _ _ _ _ l0 l0 w6 _ _ (RI.of_own x6) hb6.RI hn0 hn0).mono ?_
  rintro e v7 ⟨rfl, n7, rfl⟩
  rw [hll]
  have B7 := below_drewN B6 n7
  have x7 := own_drewN x6 n7
  have s7 := s6.drewN n7
  have o7 := o6.drewN n7
  have hs7 : (w6.drewN n7).heap.size = w6.heap.size := by simp
  clear x6 s6 o6 hb6
  generalize w6.drewN n7 = w7 at B7 x7 s7 o7 hs7 ⊢
  go_wp2_with fail
  refine (markIntS_any _ _ _ 1 w7 _ x7 hn0 (by omega) (by omega)).mono ?_
  rintro e w8 ⟨rfl, m8, hg8⟩
  have B8 := below_mark B7 hg8 (by omega) (fun k hk => by have := (x7.lt k hk).1; omega)
  have hs8 := hg8.size
  have hg8' : w7.grownBy w8 (some g3) := hg8
  have s8 := Z2.out.keep s7 (w' := w8) (fun k hk1 hk2 => hg8'.block k (by omega) (fun e => by injection e with e; omega))
  have o8 := o7.keep o7 (w' := w8) (fun k hk1 hk2 => hg8'.block k (by omega) (fun e => by injection e with e; omega))
  clear s7 o7 x7 m8
  go_wp2_with fail
  refine (eqIntSS_same A4 A2 c4 c2 G V4 V2 _ _ w8 o8 s8 hn HN2.out).mono ?_
  rintro e w9 ⟨rfl, hbel9⟩
  have B9 := B8.trans (hbel9.mono (by omega))
  have hs9 := hbel9.size
  have s9 := s8.below hbel9
  have o9 := o8.below hbel9
  clear s8 o8
  go_wp2_with fail
  refine (markIntSS_any A4 c4 G V4 _ w9 o9 hn HN2.out (by omega)).mono ?_
  rintro e w10 ⟨rfl, m10, hbel10⟩
  rw [HK.out]
  have B10 := B9.trans (hbel10.mono (by omega))
  have hs10 := hbel10.size
  have s10 := Z2.out.keep s9 (w' := w10) (fun k hk1 hk2 => hbel10.block k (by omega))
  clear s9 o9
  go_wp2_with fail
  refine (heldIntSS_ok A4 c4 G V4 _ w10 m10 hn HN2.out).mono ?_
  rintro e w' ⟨rfl, rfl⟩
  rw [HK.out]
  go_wp2_with fail
  refine (toIntS_any A0 c0 l0 w10 ((h0.below B10).more (by omega)) hn0).mono ?_
  rintro e w11 ⟨g11, rfl, hg11, hb11, hbel11⟩
  have B11 := B10.trans (hbel11.mono (by omega))
  have hs11 := hbel11.size
  have x11 := ownsRow_blk hb11 hg11 hn0
  have s11 := s10.below hbel11
  have m11 := m10.below hbel11
  clear hb11 s10 m10
  go_wp2_with fail
  refine (I.out _ _ w11 (RI.of_own x11)).mono ?_
  rintro e w12 ⟨A12, c12, V12, rfl, o12, hbel12⟩
  have B12 := B11.trans (hbel12.mono (by omega))
  have hs12 := hbel12.size
  have s12 := s11.below hbel12
  have m12 := m11.below hbel12
  clear s11 m11 x11
  go_wp2_with fail
  refine (eqIntSS_same A12 A2 c12 c2 G V12 V2 _ _ w12 o12 s12 hn HN2.out).mono ?_
  rintro e w13 ⟨rfl, hbel13⟩
  have B13 := B12.trans (hbel13.mono (by omega))
  have m13 := m12.below hbel13
  clear s12 o12 m12
  go_wp2_with fail
  refine (heldIntSS_ok A4 c4 G V4 _ w13 m13 hn HN2.out).mono ?_
  rintro e w' ⟨rfl, rfl⟩
  rw [HK.out]
  go_wp2_with fail
  go_ret
  exact ⟨rfl, B13⟩
end Go.Proofs.Ytbihnjfckaeioaa
