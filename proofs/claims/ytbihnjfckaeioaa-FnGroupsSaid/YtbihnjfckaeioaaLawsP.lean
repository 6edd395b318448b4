/-
  The laws FnPlugIn and FnMovePlugs, walked: they return true and write nothing that was there.
-/
import Derived.Test.YtbihnjfckaeioaaField5
import Derived.Test.YtbihnjfckaeioaaField4
import Derived.Test.YtbihnjfckaeioaaDrawF
namespace Go.Proofs.Ytbihnjfckaeioaa
open Go.RowKit
set_option linter.unusedSimpArgs false
set_option linter.unusedVariables false

theorem wf_u8 {x : Int} (h : (Lit.int .u8 x).wf = true) : 0 ≤ x ∧ x ≤ 255 := by simpa [Lit.wf, IntKind.min, IntKind.max, IntKind.signed, IntKind.bits] using h
theorem fieldB_of {l : List Int} (h1 : l.length ≤ 20) (h2 : ∀ x ∈ l, 0 ≤ x ∧ x ≤ 6) : fieldB l = true := by
  unfold fieldB allIn
  rw [Bool.and_eq_true, List.all_eq_true]
  exact ⟨fun x hx => inB_true.2 (h2 x hx), by simp; omega⟩
theorem plugIn_parts {l : List Int} {i x : Int} (h : plugInB l i x = true) : fieldB l = true ∧ (0 ≤ i ∧ i < l.length) ∧ 0 ≤ x ∧ x ≤ 6 := by
  unfold plugInB at h
  simp only [Bool.and_eq_true] at h
  exact ⟨h.1.1, plugB_true h.1.2, inB_true.1 h.2⟩
theorem plugIn_field {l : List Int} {i x : Int} (h : plugInB l i x = true) : fieldB (l.set i.toNat x) = true := by
  obtain ⟨h1, h2, h3⟩ := plugIn_parts h
  obtain ⟨a, b⟩ := fieldB_true h1
  refine fieldB_of (by simpa using a) fun y hy => ?_
  rcases List.mem_or_eq_of_mem_set hy with hy | rfl
  · exact b y hy
  · exact h3
/-- put back, it is as it was -/
theorem plugIn_back {l : List Int} {i x : Int} (h : plugInB l i x = true) : plugInB (l.set i.toNat x) i (l.getD i.toNat 0) = true ∧ plugInL (l.set i.toNat x) i (l.getD i.toNat 0) = l := by
  obtain ⟨h1, ⟨h2, h3⟩, h4⟩ := plugIn_parts h
  obtain ⟨a, b⟩ := fieldB_true h1
  have hg : l.getD i.toNat 0 = l[i.toNat]'(by omega) := by rw [List.getD_eq_getElem?_getD, List.getElem?_eq_getElem (by omega)]; rfl
  have hv := b _ (List.getElem_mem (show i.toNat < l.length by omega))
  have e : plugInB (l.set i.toNat x) i (l.getD i.toNat 0) = true := by
    unfold plugInB
    rw [plugIn_field h, hg, inB_true.2 hv]
    have : plugB (l.set i.toNat x) i = true := inB_true.2 (by simp; omega)
    rw [this]
    rfl
  refine ⟨e, ?_⟩
  unfold plugInL
  rw [if_pos e, List.set_set, hg, List.set_getElem_self]
theorem plugIn_at {l : List Int} {i x : Int} (h : plugInB l i x = true) : (l.set i.toNat x)[i.toNat]? = some x := by
  obtain ⟨h1, ⟨h2, h3⟩, h4⟩ := plugIn_parts h
  rw [List.getElem?_set_self (by omega)]
/-- a free line is none that a plug leads to -/
theorem free_not {l : List Int} {y : Int} (h : y ∈ freeL l 6) : posOf l y = [] := by
  unfold freeL at h
  split at h
  · unfold freeTo at h
    have := (List.mem_filter.1 h).2
    simpa using this
  · cases h
theorem free_ne {l : List Int} {y x : Int} {k : Nat} (h : y ∈ freeL l 6) (hk : l[k]? = some x) : y ≠ x := by
  rintro rfl
  have h1 := free_not h
  have h2 : (k : Int) ∈ posOf l y := mem_posOf.2 ⟨k, rfl, hk⟩
  rw [h1] at h2
  cases h2
theorem free_plugs {l : List Int} {y : Int} (h : y ∈ freeL l 6) : plugsL l y = [] := by
  unfold plugsL
  rw [free_not h]
  simp
theorem posOf_count (l : List Int) (x : Int) : (posOf l x).length = l.countP fun y => decide (y = x) := by
  have h : ∀ k, k ≤ l.length → (posOf (l.take k) x).length = (l.take k).countP fun y => decide (y = x) := by
    intro k
    induction k with
    | zero => intro _; rfl
    | succ k ih =>
      intro hk
      rw [take_snoc l k (by omega), posOf_snoc, List.length_append, List.countP_append, ih (by omega)]
      by_cases h : l[k] = x <;> simp [h]
  have := h l.length (Nat.le_refl _)
  rwa [List.take_length] at this
theorem move_to {l : List Int} {a b : Int} (h : a ≠ b) : (posOf (l.map (mv a b)) b).length = (posOf l a).length + (posOf l b).length := by
  rw [posOf_count, posOf_count, posOf_count]
  induction l with
  | nil => rfl
  | cons y l ih =>
    simp only [List.map_cons, List.countP_cons, ih]
    unfold mv
    by_cases h1 : y = a
    · subst h1
      simp [h]
      omega
    · simp [h1]
      omega
theorem move_from {l : List Int} {a b : Int} (h : a ≠ b) : posOf (l.map (mv a b)) a = [] := by
  apply List.eq_nil_of_length_eq_zero
  rw [posOf_count, List.countP_eq_zero]
  intro y hy
  obtain ⟨z, hz, rfl⟩ := List.mem_map.1 hy
  unfold mv
  split
  · simpa using fun e => h e.symm
  · simpa using by assumption
theorem move_none (l : List Int) (a : Int) : l.map (mv a a) = l := by
  conv => rhs; rw [← List.map_id l]
  refine List.map_congr_left fun y _ => ?_
  unfold mv
  split <;> simp_all
theorem move_parts {l : List Int} {a b : Int} (h : moveB l a b = true) : fieldB l = true ∧ (0 ≤ a ∧ a ≤ 6) ∧ 0 ≤ b ∧ b ≤ 6 := by
  unfold moveB at h
  simp only [Bool.and_eq_true] at h
  exact ⟨h.1.1, inB_true.1 h.1.2, inB_true.1 h.2⟩
theorem move_field {l : List Int} {a b : Int} (h : moveB l a b = true) : fieldB (l.map (mv a b)) = true := by
  obtain ⟨h1, h2, h3⟩ := move_parts h
  obtain ⟨p, q⟩ := fieldB_true h1
  refine fieldB_of (by simpa using p) fun y hy => ?_
  obtain ⟨z, hz, rfl⟩ := List.mem_map.1 hy
  unfold mv
  split
  · exact h3
  · exact q z hz
theorem map_same {l : List Int} {f : Int → Int} (h : fieldB (l.map f) = true) {i j : Int} (hs : sameB l i j = true) : sameB (l.map f) i j = true := by
  unfold sameB at hs ⊢
  simp only [Bool.and_eq_true, beq_iff_eq] at hs ⊢
  obtain ⟨⟨⟨a, b⟩, c⟩, d⟩ := hs
  have pb := plugB_true b
  have pc := plugB_true c
  refine ⟨⟨⟨h, ?_⟩, ?_⟩, ?_⟩
  · unfold plugB at b ⊢
    simpa using b
  · unfold plugB at c ⊢
    simpa using c
  · rw [List.getD_eq_getElem?_getD, List.getD_eq_getElem?_getD, List.getElem?_eq_getElem (by omega), List.getElem?_eq_getElem (by omega)] at d
    rw [List.getD_eq_getElem?_getD, List.getD_eq_getElem?_getD, List.getElem?_eq_getElem (by simp; omega), List.getElem?_eq_getElem (by simp; omega)]
    simp only [Option.getD_some, List.getElem_map] at d ⊢
    rw [d]
set_option maxRecDepth 100000 in
set_option maxHeartbeats 2000000 in
theorem FnPlugIn_walk (A0 : Option Addr) (l0 : List Int) (c0 : Nat) (w : World) (h0 : Reads w w.heap.size 1 A0 l0.length (l0.map (Value.int .u8))) (hc0 : l0.length ≤ c0) (hm0 : c0 ≤ maxLen) (hw0 : ∀ x ∈ l0, (Lit.int .u8 x).wf = true) :
    Calls Try.prog 6 #[.slice A0 l0.length c0] w fun e w' => e = .returned (.bool true) ∧ Below w.heap.size w w' := by
  by_cases hn0 : l0.length ≤ 1048576
  case neg =>
    have h' : 1048576 < l0.length := by omega
    clear h0 hn0 hw0 hc0 hm0
    go_enter Try.func6, Try.ntmps6
    go_wp2
    go_ret
    exact ⟨rfl, Below.refl _ _⟩
  have hRB : RB w w.heap.size A0 l0 := ⟨h0, fun x hx => wf_u8 (hw0 x hx)⟩
  have HM := Lib.hid hm0
  clear h0 hw0 hm0
  go_enter Try.func6, Try.ntmps6
  go_wp2_with fail
  refine (DrawPlugIn_any A0 c0 l0 w hRB hc0 HM.out hn0).mono ?_
  rintro e w1 ⟨F, A, c, x, y, rfl, hF, p1, B1⟩
  have hn : F.length ≤ 1048576 := by omega
  clear hRB hc0 hn0
  have hgl := plugInL_len (l := F) (i := x) (x := y) hn
  go_wp2_with fail
  refine (iPlugIn_any A c F x y w1 (RI.of_own p1) hn).mono ?_
  rintro e w2 ⟨A2, c2, rfl, q2, hbel2⟩
  have B2 := B1.trans (hbel2.mono B1.size)
  have p2 := own_below p1 hbel2
  clear p1
  go_wp2_with fail
  refine (sPlugIn_any A c F x y w2 (RI.of_own p2) hn).mono ?_
  rintro e w3 ⟨A3, c3, rfl, q3, hbel3⟩
  have B3 := B2.trans (hbel3.mono B2.size)
  have p3 := own_below p2 hbel3
  have q3' := own_below q2 hbel3
  clear p2 q2 hbel2
  have hbb : (plugInB F x y != plugInB F x y) = false := by simp
  have hbe : (plugInB F x y == plugInB F x y) = true := by simp
  go_wp2_with fail
  refine (cbSame_same A2 A3 c2 c3 (plugInL F x y) w3 _ _ (RI.of_own q3') (RI.of_own q3) hgl).mono ?_
  rintro e v4 ⟨rfl, n4, rfl⟩
  have B4 := below_drewN B3 n4
  have p4 := own_drewN p3 n4
  have r4 := own_drewN q3' n4
  have s4 := own_drewN q3 n4
  generalize w3.drewN n4 = w4 at B4 p4 r4 s4 ⊢
  clear p3 q3 q3' B3 hbel3
  cases hff : plugInB F x y
  · go_wp2_with fail
    refine (cbSame_same A2 A3 c2 c3 (plugInL F x y) w4 _ _ (RI.of_own r4) (RI.of_own s4) hgl).mono ?_
    rintro e v5 ⟨rfl, n5, rfl⟩
    go_wp2_with fail
    go_ret
    exact ⟨rfl, below_drewN B4 n5⟩
  · have HFF := Lib.hid hff
    have hGL : plugInL F x y = F.set x.toNat y := by unfold plugInL; rw [if_pos hff]
    clear s4 hbb hbe hgl
    rw [hGL] at r4 ⊢
    have HG : Hid ((F.set x.toNat y).length = F.length) := Lib.hid (by simp)
    have hg6 : (F.set x.toNat y).length ≤ 1048576 := by rw [HG.out]; exact hn
    obtain ⟨G, hG⟩ : ∃ G, F.set x.toNat y = G := ⟨_, rfl⟩
    obtain ⟨_, ⟨x0, x1⟩, _⟩ := plugIn_parts hff
    have HBK := Lib.hid (plugIn_back hff)
    have HAT := Lib.hid (plugIn_at hff)
    rw [hG] at r4 HG hg6 HBK HAT ⊢
    clear hff hGL hG
    have x1g : x < G.length := by rw [HG.out]; exact x1
    obtain ⟨ad, rfl, _, hc⟩ := (RI.of_own p4).int_at x0 x1
    obtain ⟨u, hu⟩ : ∃ u, F.getD x.toNat 0 = u := ⟨_, rfl⟩
    rw [hu] at hc HBK
    clear hu
    go_wp2_with fail
    refine (iPlugIn_any A2 c2 G x u w4 (RI.of_own r4) hg6).mono ?_
    rintro e w5 ⟨A5, c5, rfl, q5, hbel5⟩
    rw [HBK.out.2] at q5 ⊢
    rw [HBK.out.1]
    have B5 := B4.trans (hbel5.mono B4.size)
    have p5 := own_below p4 hbel5
    have r5 := own_below r4 hbel5
    clear p4 r4 hc
    go_wp2_with fail
    refine (iFreeLines_any A2 c2 G 6 w5 (RI.of_own r5) hg6).mono ?_
    rintro e w6 ⟨A6, c6, rfl, f6, hbel6⟩
    have B6 := B5.trans (hbel6.mono B5.size)
    have p6 := own_below p5 hbel6
    have r6 := own_below r5 hbel6
    have q6 := own_below q5 hbel6
    clear p5 r5 q5 hbel5
    go_wp2_with fail
    refine (sFreeLines_any A2 c2 G 6 w6 (RI.of_own r6) hg6).mono ?_
    rintro e w7 ⟨A7, c7, rfl, f7, hbel7⟩
    have B7 := B6.trans (hbel7.mono B6.size)
    have p7 := own_below p6 hbel7
    have r7 := own_below r6 hbel7
    have q7 := own_below q6 hbel7
    have f7' := own_below f6 hbel7
    clear p6 r6 q6 f6 hbel6
    go_wp2_with fail
    refine (cbSame_same A6 A7 c6 c7 (freeL G 6) w7 _ _ (RI.of_own f7') (RI.of_own f7) freeL_len).mono ?_
    rintro e v8 ⟨rfl, n8, rfl⟩
    have B8 := below_drewN B7 n8
    have p8 := own_drewN p7 n8
    have r8 := own_drewN r7 n8
    have q8 := own_drewN q7 n8
    have f8 := own_drewN f7' n8
    clear p7 r7 q7 f7 f7' B7
    generalize w7.drewN n8 = w8 at B8 p8 r8 q8 f8 ⊢
    have hfl : (freeL G 6).length ≤ 1048576 := freeL_len
    go_wp2_with fail
    go_loopw [13] (fun i wr => ∃ k : Nat, k ≤ (freeL G 6).length ∧ i = .int .i64 k ∧ Below w8.heap.size w8 wr) (fun i _ => (freeL G 6).length - (intOf i).toNat)
    case atStart => exact ⟨0, Nat.zero_le _, rfl, Below.refl _ _⟩
    case round =>
      obtain ⟨k, hk, rfl, hbr⟩ := hrel
      have rr := own_below r8 hbr
      have fr := own_below f8 hbr
      by_cases hlt : k < (freeL G 6).length
      · obtain ⟨af, rfl, _, hcf⟩ := (RI.of_own fr).at_ hlt
        have hm := List.getElem_mem hlt
        generalize (freeL G 6)[k] = v at hcf hm
        have hne : (v == y) = false := by rw [beq_eq_false_iff_ne]; exact free_ne hm HAT.out
        have HP := Lib.hid (free_plugs hm)
        clear hm
        go_wp2_with fail
        refine (iPlugsOf_any A2 c2 G v wr (RI.of_own rr) hg6).mono ?_
        rintro e w9 ⟨A9, c9, rfl, _, hbel9⟩
        rw [HP.out]
        go_wp2_with fail
        go_roundw
        case rel => exact ⟨k + 1, by omega, by go_num, hbr.trans (hbel9.mono hbr.size)⟩
        case measure => simp [intOf]; omega
      · obtain rfl : k = (freeL G 6).length := by omega
        have pr := own_below p8 hbr
        have qr := own_below q8 hbr
        obtain ⟨ag, rfl, _, hcg⟩ := (RI.of_own rr).at_ (k := x.toNat) (by omega)
        have hgv : G[x.toNat]'(by omega) = y := by
          have h1 := HAT.out
          rw [List.getElem?_eq_getElem (by omega)] at h1
          exact Option.some.inj h1
        rw [hgv] at hcg
        have hyy : (y == y) = true := by simp
        clear hgv
        have Br := B8.trans (hbr.mono B8.size)
        go_wp2_with fail
        refine (cbSame_same A5 (some ad) c5 c F wr _ _ (RI.of_own qr) (RI.of_own pr) hn).mono ?_
        rintro e v10 ⟨rfl, n10, rfl⟩
        go_wp2_with fail
        go_ret
        exact ⟨rfl, below_drewN Br n10⟩
end Go.Proofs.Ytbihnjfckaeioaa
