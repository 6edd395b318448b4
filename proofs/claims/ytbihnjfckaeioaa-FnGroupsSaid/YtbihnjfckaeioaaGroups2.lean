/-
  The groups of a field, by the reference and by the program; comparing, marking and reading slices of slices.
-/
import Derived.Test.YtbihnjfckaeioaaGroups
import Derived.Deep.RegionHeld3
namespace Go.Proofs.Ytbihnjfckaeioaa
open Go.RowKit
set_option linter.unusedSimpArgs false
set_option linter.unusedVariables false

theorem take_get_snoc {α : Type} {G : List α} {k : Nat} (h : k < G.length) : G.take (k + 1) = G.take k ++ [G[k]] := take_snoc G k h
set_option maxHeartbeats 4000000 in
theorem l11OwnListListint_any (A : Option Addr) (c : Nat) (G : List (List Int)) (V : List Value) (base : Nat) (w : World) (h : OII w base (.slice A G.length c) V G) (hn : G.length ≤ 100) (hn2 : ∀ l ∈ G, l.length ≤ 100) :
    Calls Try.prog 38 #[.slice A G.length c] w (NewII w G) := by
  obtain ⟨i0, hi, hz0, hz1, hz2⟩ := info_parts ints_info
  obtain ⟨j0, hj, hy0, hy1, hy2⟩ := info_parts int_info
  go_enter Try.func38, Try.ntmps38
  go_wp2
  go_loopw [9, 3] (fun i v wr => ∃ (k : Nat) (U : List Value), k ≤ G.length ∧ i = .int .i64 k ∧ OII wr w.heap.size v U (G.take k) ∧ Below w.heap.size w wr) (fun i _ _ => G.length - (intOf i).toNat)
  case atStart => exact ⟨0, [], Nat.zero_le _, rfl, OII.empty w, (Below.refl _ _).alloc (Nat.le_refl _) _⟩
  case round =>
    obtain ⟨k, U, hk, rfl, ho, hbel⟩ := hrel
    have hs := hbel.size
    by_cases hlt : k < G.length
    · obtain ⟨ad, A1, c1, rfl, hb, hc, _, hrow⟩ := (h.below hbel).at_ hlt
      have Ht := Lib.hid (take_get_snoc hlt)
      have hle := hn2 _ (List.getElem_mem hlt)
      obtain ⟨l, hl⟩ : ∃ l, G[k] = l := ⟨_, rfl⟩
      rw [hl] at hc hrow Ht hle
      have hUl : U.length ≤ 100 := by have := ho.len; simp at this; omega
      have hv : ∀ q, u3.ownBlock = some q → w.heap.size ≤ q := fun q hq => (ho.hdr.lt q hq).1
      have R1 := RI.of_own hrow
      clear hl hrow h hn2
      go_wp2_with (first | (at_builtin; refine wpList_append_any _ rfl _ _ 23 rfl wr.heap.size 3 j0 (.int .i64 0) 1 8 Try.underlying23 hj hy0 hy1 hy2 rfl (by decide) (.slice (some ⟨wr.heap.size, 0, none⟩) 0 0) 0 [] rfl (ownsRow_empty wr) wr.heap.size A1 l.length c1 (ints l) rfl (R1.alloc_ _) (ints_oneCell' l) ?_ ?_ ?_ ?_; (unfold maxLen; omega); omega; (simp); intro r' w2 hown2 hgrow2 hloc2; simp only [Nat.zero_add, List.nil_append] at hown2; obtain ⟨A3, c3, hr3⟩ := own_form hown2; rw [hr3] at hown2; rw [hr3]; have hb2 : Below wr.heap.size wr w2 := ((Below.refl _ _).alloc (Nat.le_refl _) _).grown hgrow2 (by simp) (fun q hq => by simp [Value.ownBlock] at hq; omega); have hs2 := hb2.size; have hbb := hbel.trans (hb2.mono hs); clear hgrow2 hloc2 hr3) | (at_builtin; refine wpList_append_own_at _ rfl _ _ 32 rfl w.heap.size 23 i0 (.slice none 0 0) 1 24 Try.underlying32 hi hz0 hz1 hz2 rfl (by decide) u3 _ _ rfl ((ho.below hb2).hdr.alloc _) ⟨w2.heap.size, 0, none⟩ 1 1 [.slice A3 l.length c3] rfl rfl (cell_one_new _ _ _) (by intro u hu; obtain rfl := List.mem_singleton.1 hu; rfl) ?_ ?_ ?_ ?_; (unfold maxLen; omega); omega; (simp; omega); intro v' w3 hown' hgrow hnil hloc))
      have hsn := ho.snoc hb2 hown2 _ hown' hgrow hs
      go_roundw
      case rel => exact ⟨k + 1, _, by omega, by go_num, by rw [Ht.out]; exact hsn, below_of_grown hbb hgrow (by omega) hv⟩
      case measure => simp [intOf]; omega
    · obtain rfl : k = G.length := by omega
      rw [List.take_length] at ho
      clear h hn2
      go_wp2
      go_ret
      exact NewII.mk_ ho hbel
theorem groupsL_len (l : List Int) : (groupsL l).length ≤ 100 := by
  unfold groupsL
  split
  · have := gTo_len l l.length
    have := (fieldB_true (by assumption)).1
    omega
  · simp
theorem groupsL_row (l : List Int) : ∀ g ∈ groupsL l, g.length ≤ 100 := by
  intro g hg
  unfold groupsL at hg
  split at hg
  · have hf := (fieldB_true (by assumption)).1
    unfold gTo at hg
    obtain ⟨i, _, rfl⟩ := List.mem_map.1 hg
    have := posOf_length_le l (l.getD i 0)
    omega
  · cases hg
theorem sGroupsOf_any (A : Option Addr) (c : Nat) (l : List Int) (w : World) (h : RI w w.heap.size A l) (hn : l.length ≤ 1048576) :
    Calls Try.prog 13 #[.slice A l.length c] w (NewII w (groupsL l)) := by
  go_enter Try.func13, Try.ntmps13
  go_wp2_with fail
  refine (l2RawGroupsOf_any A c l w h hn).mono ?_
  rintro e w1 ⟨A1, c1, V1, rfl, o1, b1⟩
  go_wp2_with fail
  refine (l11OwnListListint_any A1 c1 (groupsL l) V1 _ w1 o1 (groupsL_len l) (groupsL_row l)).mono ?_
  rintro e w2 ⟨A2, c2, V2, rfl, o2, b2⟩
  go_wp2_with fail
  go_ret
  exact ⟨A2, c2, V2, rfl, o2.mono b1.size, b1.trans (b2.mono b1.size)⟩
@[go_sem] theorem neq_ch (a b : Option Nat) (w : World) : (binOp .neq 51 (.chan a) (.chan b)).run Try.prog w = .ok (.bool (!(a == b))) w := run_neq_ch Try.underlying51 a b w
theorem nodup_inj {l : List Nat} (h : l.Nodup) {i j : Nat} (hi : i < l.length) (hj : j < l.length) (e : l[i] = l[j]) : i = j := by
  rcases Nat.lt_trichotomy i j with h1 | h1 | h1
  · exact absurd e (List.pairwise_iff_getElem.1 h i j hi hj h1)
  · exact h1
  · exact absurd e.symm (List.pairwise_iff_getElem.1 h j i hj hi h1)
theorem headTo_at {l : List Int} {k j i : Nat} (h : (headTo l k)[j]? = some i) : i < k ∧ headI l i = true := by
  have hm := List.mem_of_getElem? h
  unfold headTo at hm
  have h2 := List.mem_filter.1 hm
  exact ⟨List.mem_range.1 h2.1, h2.2⟩
theorem headTo_inj {l : List Int} {k j j' i : Nat} (h : (headTo l k)[j]? = some i) (h' : (headTo l k)[j']? = some i) : j = j' := by
  have hnd : (headTo l k).Nodup := (List.nodup_range).filter _
  obtain ⟨p, hp⟩ := List.getElem?_eq_some_iff.1 h
  obtain ⟨p', hp'⟩ := List.getElem?_eq_some_iff.1 h'
  exact nodup_inj hnd p p' (hp.trans hp'.symm)
/-- the headers that the program takes out of its map -/
def valsTo (w : World) (b : Nat) (ch : Int → Option Nat) (l : List Int) (k : Nat) : List Value := (headTo l k).map fun i => mgetD w b (ch (l.getD i 0))
theorem valsTo_succ (w : World) (b : Nat) (ch : Int → Option Nat) (l : List Int) (k : Nat) : valsTo w b ch l (k + 1) = valsTo w b ch l k ++ (if headI l k = true then [mgetD w b (ch (l.getD k 0))] else []) := by
  unfold valsTo
  rw [headTo_succ, List.map_append]
  split <;> rfl
theorem Groups.oii {w wr : World} {base b : Nat} {ch : Int → Option Nat} {l : List Int} {v : Value} (hg : Groups w base b (fun r => posOf (l.map ch) r)) (hch : ∀ x y : Int, x ∈ l → y ∈ l → ch x = ch y → x = y)
    (hb : Below w.heap.size w wr) (hbase : base ≤ w.heap.size) (hdr : wr.ownsRow w.heap.size 23 1 v (valsTo w b ch l l.length).length (valsTo w b ch l l.length)) : OII wr base v (valsTo w b ch l l.length) (gTo l l.length) := by
  have hmem : ∀ i, i < l.length → l.getD i 0 ∈ l := fun i hi => by rw [getD_at hi]; exact List.getElem_mem _
  have e0 : ∀ i, i < l.length → posOf (l.map ch) (ch (l.getD i 0)) = posOf l (l.getD i 0) := fun i hi => posOf_map ch l _ fun y hy => ⟨fun e => hch _ _ hy (hmem i hi) e, fun e => by rw [e]⟩
  refine ⟨by simp [gTo, valsTo], own_mono hdr hbase, fun j u g h1 h2 => ?_, fun j j' u u' hjj h1 h2 k hk hk' => ?_⟩
  · unfold valsTo at h1
    unfold gTo at h2
    rw [List.getElem?_map] at h1 h2
    cases hi : (headTo l l.length)[j]? with
    | none => rw [hi] at h1; cases h1
    | some i =>
      rw [hi] at h1 h2
      obtain rfl : mgetD w b (ch (l.getD i 0)) = u := Option.some.inj h1
      obtain rfl : posOf l (l.getD i 0) = g := Option.some.inj h2
      have := hg.at_ (ch (l.getD i 0))
      simp only [e0 i (headTo_at hi).1] at this
      exact own_below this hb
  · unfold valsTo at h1 h2
    rw [List.getElem?_map] at h1 h2
    cases hi : (headTo l l.length)[j]? with
    | none => rw [hi] at h1; cases h1
    | some i =>
      cases hi' : (headTo l l.length)[j']? with
      | none => rw [hi'] at h2; cases h2
      | some i' =>
        rw [hi] at h1
        rw [hi'] at h2
        obtain rfl : mgetD w b (ch (l.getD i 0)) = u := Option.some.inj h1
        obtain rfl : mgetD w b (ch (l.getD i' 0)) = u' := Option.some.inj h2
        obtain ⟨a1, a2⟩ := headTo_at hi
        obtain ⟨b1, b2⟩ := headTo_at hi'
        have hne : ch (l.getD i 0) ≠ ch (l.getD i' 0) := by
          intro e
          have e2 := hch _ _ (hmem i a1) (hmem i' b1) e
          have e3 := head_one a2 b2 e2
          subst e3
          exact hjj (headTo_inj hi hi')
        have p1 : posOf (l.map ch) (ch (l.getD i 0)) ≠ [] := by rw [e0 i a1, getD_at a1]; exact posOf_ne_nil a1
        have p2 : posOf (l.map ch) (ch (l.getD i' 0)) ≠ [] := by rw [e0 i' b1, getD_at b1]; exact posOf_ne_nil b1
        obtain ⟨v1, g1, _⟩ := hg.some_ _ p1
        obtain ⟨v2, g2, _⟩ := hg.some_ _ p2
        have := hg.apart _ _ v1 v2 hne g1 g2
        unfold mgetD at hk hk'
        rw [g1] at hk
        rw [g2] at hk'
        exact this (hk.trans hk'.symm)
set_option maxHeartbeats 4000000 in
theorem iGroupsOf_any (A : Option Addr) (c : Nat) (l : List Int) (w : World) (h : RI w w.heap.size A l) (hn : l.length ≤ 1048576) :
    Calls Try.prog 15 #[.slice A l.length c] w (NewII w (groupsL l)) := by
  cases hf : fieldB l
  · have hl : groupsL l = [] := by simp [groupsL, hf]
    rw [hl]
    clear hl
    go_enter Try.func15, Try.ntmps15
    go_wp2_with (go_at_call 22; refine (iFieldValid_any _ _ l _ _ h hn).mono ?_; rintro e w' ⟨rfl, rfl⟩)
    go_ret
    exact NewII.mk_ (OII.nil_ _ _) (Below.refl _ _)
  have hl : groupsL l = gTo l l.length := by simp [groupsL, hf]
  obtain ⟨hn20, hval⟩ := fieldB_true hf
  rw [hl]
  clear hl
  obtain ⟨i0, hi, hz0, hz1, hz2⟩ := info_parts ints_info
  go_enter Try.func15, Try.ntmps15
  go_wp2_with fail
  refine (iFieldValid_any _ _ l _ _ h hn).mono ?_
  rintro e w' ⟨rfl, rfl⟩
  rw [hf]
  go_wp2_with fail
  refine (newPatchboard_any A c l w h hn20 hval).mono ?_
  rintro e w1 ⟨S, L, M, G, ch, rfl, hbd, g1, g2, g3, g4, hbel⟩
  go_wp2_with fail
  refine (groups_any S L M G ch l w1 hbd hn20).mono ?_
  rintro e w2 ⟨b, rfl, hb2, hgr, hbel2⟩
  have hbd2 := hbd.keep hbel2
  have Hgr := Lib.hid hgr
  have Hbd := Lib.hid hbd2
  have B2 := hbel.trans (hbel2.mono hbel.size)
  have bl := mcm_lt hgr.hcm
  have c2' : (w2.alloc (.cells #[] 23)).cell? ⟨S, 2, none⟩ = some (.slice (some ⟨G, 0, none⟩) l.length l.length) := (hbd2.keep ((Below.refl _ _).alloc (Nat.le_refl _) _)).s2
  clear hgr hbd hbd2 h hf
  have hz : (w2.alloc (.cells #[] 23)).ownsRow w2.heap.size 23 1 (.slice (some ⟨w2.heap.size, 0, none⟩) 0 0) (valsTo w2 b ch l 0).length (valsTo w2 b ch l 0) := (OII.empty w2).hdr
  have hlt2 : w2.heap.size < (w2.alloc (.cells #[] 23)).heap.size := by simp
  go_wp2_with fail
  go_loopw [21, 5, 6, 7] (fun i v _ _ wr => ∃ k : Nat, k ≤ l.length ∧ i = .int .i64 k ∧ wr.ownsRow w2.heap.size 23 1 v (valsTo w2 b ch l k).length (valsTo w2 b ch l k) ∧ Below w2.heap.size w2 wr) (fun i _ _ _ _ => l.length - (intOf i).toNat)
  case atStart => exact ⟨0, Nat.zero_le _, rfl, hz, (Below.refl _ _).alloc (Nat.le_refl _) _⟩
  case round =>
    clear hz c2'
    obtain ⟨k, hk, rfl, ho, hbl⟩ := hrel
    by_cases hlt : k < l.length
    · have hbd := Hbd.out.keep hbl
      have cg := hbd.cell hlt
      have hx6 := hval _ (List.getElem_mem hlt)
      have cm : mcm wr b = true := (mcm_below hbl bl).trans Hgr.out.hcm
      have hg : mgetD wr b (ch l[k]) = mgetD w2 b (ch l[k]) := by unfold mgetD; rw [mget_below hbl bl]
      have E0 : posOf (l.map ch) (ch l[k]) = posOf l l[k] := posOf_map ch l _ fun y hy => hbd.eq_iff (hval y hy) hx6
      have hrow := Hgr.out.at_ (ch l[k])
      simp only [E0] at hrow
      have hrow2 := own_below hrow hbl
      obtain ⟨A1, c1, hv1⟩ := own_form hrow2
      rw [hv1] at hrow2
      have Hp := posOf_pos hlt
      obtain ⟨ar, rfl, hbr, hcr⟩ := (RI.of_own hrow2).at_ Hp
      rw [getD_first Hp, add_none] at hcr
      have Hh := Lib.hid (headI_at hlt)
      have Hs := Lib.hid (valsTo_succ w2 b ch l k)
      have Hg := Lib.hid (getD_at hlt)
      have hnil : (ch l[k] == none) = (l[k] == 0) := by
        rw [Bool.eq_iff_iff]
        simp only [beq_iff_eq]
        have := hbd.eq_iff hx6 (show (0 : Int) ≤ 0 ∧ (0 : Int) ≤ 6 by omega)
        rw [hbd.h0] at this
        exact this
      have hVl : (valsTo w2 b ch l k).length ≤ 20 := by
        unfold valsTo headTo
        rw [List.length_map]
        refine Nat.le_trans (List.length_filter_le _ _) ?_
        simp
        omega
      have hbs := hbl.size
      obtain ⟨x, hx⟩ : ∃ x, l[k] = x := ⟨_, rfl⟩
      simp only [hx] at cg hx6 hg hcr Hh Hg hnil hv1 hrow2 Hp
      rw [hv1] at hg
      have Hv1 := Lib.hid hv1
      obtain ⟨z, hz⟩ : ∃ z, (posOf l x).getD 0 (-1) = z := ⟨_, rfl⟩
      rw [hz] at hcr Hh
      have Hx := Lib.hid hx
      clear hz hx hbd E0 hrow hv1
      by_cases h0 : 0 < x
      · have hne : (x == 0) = false := by rw [beq_eq_false_iff_ne]; omega
        rw [hne] at hnil
        cases h1 : z == (k : Int)
        · have E : Hid (headI l k = false) := Lib.hid (by rw [Hh.out, h1]; simp)
          go_wp2_with fail
          go_roundw
          case rel => exact ⟨k + 1, by omega, by go_num, by rw [Hs.out, E.out]; simpa using ho, hbl⟩
          case measure => simp [intOf]; omega
        · have E : Hid (headI l k = true) := Lib.hid (by rw [Hh.out, h1]; simp [h0])
          have hv : ∀ q, u5.ownBlock = some q → w2.heap.size ≤ q := fun q hq => (ho.lt q hq).1
          go_wp2_with (at_builtin; refine wpList_append_own_at _ rfl _ _ 32 rfl w2.heap.size 23 i0 (.slice none 0 0) 1 24 Try.underlying32 hi hz0 hz1 hz2 rfl (by decide) u5 _ _ rfl (ho.alloc _) ⟨wr.heap.size, 0, none⟩ 1 1 [.slice (some ar) (posOf l x).length c1] rfl rfl (cell_one_new _ _ _) (by intro u hu; obtain rfl := List.mem_singleton.1 hu; rfl) ?_ ?_ ?_ ?_; (unfold maxLen; omega); omega; (simp; omega); intro v' w3 hown' hgrow hnil hloc)
          go_roundw
          case rel => exact ⟨k + 1, by omega, by go_num, by rw [Hs.out, E.out, Hg.out, Hv1.out]; simpa using hown', below_of_grown hbl hgrow hbs hv⟩
          case measure => simp [intOf]; omega
      · have hx0 : x = 0 := by omega
        have hne : (x == 0) = true := by simp [hx0]
        rw [hne] at hnil
        have E : Hid (headI l k = false) := Lib.hid (by rw [Hh.out]; simp [h0])
        clear hx0
        go_wp2_with fail
        go_roundw
        case rel => exact ⟨k + 1, by omega, by go_num, by rw [Hs.out, E.out]; simpa using ho, hbl⟩
        case measure => simp [intOf]; omega
    · obtain rfl : k = l.length := by omega
      have hfin := Hgr.out.oii (fun x y hx hy e => (Hbd.out.eq_iff (hval x hx) (hval y hy)).1 e) hbl hbel2.size ho
      have Hf := Lib.hid (hfin.mono hbel.size)
      clear hfin ho
      go_wp2
      go_ret
      exact NewII.mk_ Hf.out (B2.trans (hbl.mono B2.size))
end Go.Proofs.Ytbihnjfckaeioaa
