/-
  The law FnGroups, walked: it returns true and writes nothing that was there.
-/
import Derived.Test.YtbihnjfckaeioaaLawsP
import Derived.Test.YtbihnjfckaeioaaGroups3
import Derived.IntWalk
namespace Go.Proofs.Ytbihnjfckaeioaa
open Go.RowKit
set_option linter.unusedSimpArgs false
set_option linter.unusedVariables false

theorem sum6 (H : List Nat) (f : Nat → Int) (g : Int → Nat) (h : ∀ x ∈ H, 1 ≤ f x ∧ f x ≤ 6) : (H.map fun x => g (f x)).sum = H.countP (fun x => f x == 1) * g 1 + H.countP (fun x => f x == 2) * g 2 + H.countP (fun x => f x == 3) * g 3 + H.countP (fun x => f x == 4) * g 4 + H.countP (fun x => f x == 5) * g 5 + H.countP (fun x => f x == 6) * g 6 := by
  induction H with
  | nil => simp
  | cons a H ih =>
    have h1 := ih fun x hx => h x (List.mem_cons_of_mem _ hx)
    obtain ⟨h2, h3⟩ := h a List.mem_cons_self
    have h4 : f a = 1 ∨ f a = 2 ∨ f a = 3 ∨ f a = 4 ∨ f a = 5 ∨ f a = 6 := by omega
    simp only [List.map_cons, List.sum_cons, List.countP_cons, h1]
    rcases h4 with e | e | e | e | e | e <;> rw [e] <;> simp [Nat.add_mul] <;> omega
theorem len7 (l : List Int) (h : ∀ x ∈ l, 0 ≤ x ∧ x ≤ 6) : l.length = (posOf l 0).length + ((posOf l 1).length + (posOf l 2).length + (posOf l 3).length + (posOf l 4).length + (posOf l 5).length + (posOf l 6).length) := by
  simp only [posOf_count]
  induction l with
  | nil => simp
  | cons a l ih =>
    have h1 := ih fun x hx => h x (List.mem_cons_of_mem _ hx)
    obtain ⟨h2, h3⟩ := h a List.mem_cons_self
    have h4 : a = 0 ∨ a = 1 ∨ a = 2 ∨ a = 3 ∨ a = 4 ∨ a = 5 ∨ a = 6 := by omega
    simp only [List.length_cons, List.countP_cons]
    rcases h4 with e | e | e | e | e | e | e <;> subst e <;> simp <;> omega
theorem count_one {H : List Nat} (hnd : H.Nodup) {p : Nat → Bool} {k : Nat} (hk : k ∈ H) (hp : p k = true) (hu : ∀ x ∈ H, p x = true → x = k) : H.countP p = 1 := by
  induction H with
  | nil => cases hk
  | cons a H ih =>
    rw [List.nodup_cons] at hnd
    rw [List.countP_cons]
    by_cases ha : p a = true
    · have e := hu a List.mem_cons_self ha
      subst e
      have h0 : H.countP p = 0 := by
        rw [List.countP_eq_zero]
        intro x hx hpx
        have := hu x (List.mem_cons_of_mem _ hx) hpx
        subst this
        exact hnd.1 hx
      simp [h0, ha]
    · have hk' : k ∈ H := by
        rcases List.mem_cons.1 hk with e | e
        · subst e
          exact absurd hp ha
        · exact e
      rw [ih hnd.2 hk' fun x hx => hu x (List.mem_cons_of_mem _ hx)]
      simp [ha]
theorem head_count {l : List Int} {y : Int} (hy : 0 < y) : (headTo l l.length).countP (fun h => l.getD h 0 == y) = if posOf l y = [] then 0 else 1 := by
  have hnd : (headTo l l.length).Nodup := (List.nodup_range).filter _
  split
  · rename_i he
    rw [List.countP_eq_zero]
    intro h hh hp
    obtain ⟨i, hi⟩ := List.mem_iff_getElem?.1 hh
    have h1 := (headTo_at hi).1
    have e : l.getD h 0 = y := by simpa using hp
    rw [getD_at h1] at e
    have : posOf l l[h] ≠ [] := posOf_ne_nil h1
    rw [e] at this
    exact this he
  · rename_i he
    have hp : 0 < (posOf l y).length := List.length_pos_iff.2 he
    obtain ⟨k, hk1, hk2⟩ := mem_posOf.1 (List.getElem_mem hp)
    obtain ⟨hk3, hk4⟩ := List.getElem?_eq_some_iff.1 hk2
    have hg : l.getD k 0 = y := by rw [getD_at hk3]; exact hk4
    have hh : headI l k = true := by
      unfold headI
      rw [hg, ← getD_first hp, hk1]
      simp [hy]
    refine count_one hnd (k := k) (List.mem_filter.2 ⟨List.mem_range.2 hk3, hh⟩) (by show (l.getD k 0 == y) = true; rw [hg]; simp) fun x hx hpx => ?_
    obtain ⟨i, hi⟩ := List.mem_iff_getElem?.1 hx
    exact head_one (headTo_at hi).2 hh (by rw [hg]; simpa using hpx)
theorem head_range {l : List Int} (hf : fieldB l = true) : ∀ h ∈ headTo l l.length, 1 ≤ l.getD h 0 ∧ l.getD h 0 ≤ 6 := by
  intro h hh
  obtain ⟨i, hi⟩ := List.mem_iff_getElem?.1 hh
  obtain ⟨h1, h2⟩ := headTo_at hi
  unfold headI at h2
  simp only [Bool.and_eq_true, decide_eq_true_eq] at h2
  have h3 := (fieldB_true hf).2 _ (List.getElem_mem h1)
  rw [getD_at h1] at h2 ⊢
  omega
/-- every plug is in air or in a group -/
theorem groups_all {l : List Int} (hf : fieldB l = true) : kTo ((posOf l 0).length : Int) (groupsL l) (groupsL l).length = l.length := by
  have h1 := sum6 (headTo l l.length) (fun h => l.getD h 0) (fun y => (posOf l y).length) (head_range hf)
  have h2 := len7 l (fieldB_true hf).2
  have h3 : ∀ y : Int, 0 < y → (headTo l l.length).countP (fun h => l.getD h 0 == y) * (posOf l y).length = (posOf l y).length := fun y hy => by
    rw [head_count hy]
    split
    · rename_i he
      rw [he]
      rfl
    · simp
  rw [h3 1 (by omega), h3 2 (by omega), h3 3 (by omega), h3 4 (by omega), h3 5 (by omega), h3 6 (by omega)] at h1
  unfold kTo
  have h4 : (groupsL l).map List.length = (headTo l l.length).map fun x => (posOf l (l.getD x 0)).length := by
    unfold groupsL
    rw [if_pos hf]
    unfold gTo
    rw [List.map_map]
    rfl
  have h5 : ((groupsL l).map List.length).take (groupsL l).length = (groupsL l).map List.length := List.take_of_length_le (by simp)
  rw [h5, h4, h1]
  omega
theorem groups_free {l : List Int} (hf : fieldB l = true) : (freeL l 6).length + (groupsL l).length = 6 := by
  have h1 := sum6 (headTo l l.length) (fun h => l.getD h 0) (fun _ => 1) (head_range hf)
  have h2 : ((headTo l l.length).map fun _ => 1).sum = (headTo l l.length).length := by
    generalize headTo l l.length = H
    induction H with
    | nil => rfl
    | cons a H ih => simp [ih]; omega
  have h3 : (groupsL l).length = (headTo l l.length).length := by
    unfold groupsL
    rw [if_pos hf]
    simp [gTo]
  have h4 : freeL l 6 = freeTo l 6 := by simp [freeL, freeB, hf, inB]
  rw [h2, head_count (by omega), head_count (by omega), head_count (by omega), head_count (by omega), head_count (by omega), head_count (by omega)] at h1
  have h5 : (freeTo l 6).length = (if posOf l 1 = [] then 1 else 0) + (if posOf l 2 = [] then 1 else 0) + (if posOf l 3 = [] then 1 else 0) + (if posOf l 4 = [] then 1 else 0) + (if posOf l 5 = [] then 1 else 0) + (if posOf l 6 = [] then 1 else 0) := by
    have e : ∀ k, (freeTo l (k + 1)).length = (freeTo l k).length + if posOf l ((k : Int) + 1) = [] then 1 else 0 := fun k => by
      rw [freeTo_succ, List.length_append]
      split <;> rfl
    have e0 : (freeTo l 0).length = 0 := rfl
    rw [e 5, e 4, e 3, e 2, e 1, e 0, e0, Nat.zero_add]
    rfl
  rw [h4, h3, h1, h5]
  split <;> split <;> split <;> split <;> split <;> split <;> omega
/-- a group, and its head -/
theorem grp_at {l : List Int} (hf : fieldB l = true) {i : Nat} (hi : i < (groupsL l).length) : ∃ h : Nat, h < l.length ∧ (headTo l l.length)[i]? = some h ∧ (groupsL l)[i]? = some (posOf l (l.getD h 0)) ∧ (posOf l (l.getD h 0)).getD 0 (-1) = h ∧ 0 < (posOf l (l.getD h 0)).length := by
  have e : groupsL l = (headTo l l.length).map fun i => posOf l (l.getD i 0) := by
    unfold groupsL
    rw [if_pos hf]
    rfl
  have hi' : i < (headTo l l.length).length := by rw [e] at hi; simpa using hi
  have h1 : (headTo l l.length)[i]? = some (headTo l l.length)[i] := List.getElem?_eq_getElem hi'
  obtain ⟨h2, h3⟩ := headTo_at h1
  refine ⟨(headTo l l.length)[i], h2, h1, ?_, ?_, ?_⟩
  · rw [e, List.getElem?_map, h1]
    rfl
  · unfold headI at h3
    simp only [Bool.and_eq_true, beq_iff_eq] at h3
    exact h3.2
  · rw [getD_at h2]
    exact posOf_pos h2
theorem heads_lt {l : List Int} {n i j a b : Nat} (hij : i < j) (ha : (headTo l n)[i]? = some a) (hb : (headTo l n)[j]? = some b) : a < b := by
  have hp : (headTo l n).Pairwise (· < ·) := (List.pairwise_lt_range).filter _
  obtain ⟨p, hp1⟩ := List.getElem?_eq_some_iff.1 ha
  obtain ⟨q, hq1⟩ := List.getElem?_eq_some_iff.1 hb
  have := List.pairwise_iff_getElem.1 hp i j p q hij
  omega
theorem heads_apart {l : List Int} {i j a b : Nat} (hij : i ≠ j) (ha : (headTo l l.length)[i]? = some a) (hb : (headTo l l.length)[j]? = some b) : sameB l a b = false := by
  cases hs : sameB l a b with
  | false => rfl
  | true =>
    exfalso
    unfold sameB at hs
    simp only [Bool.and_eq_true, beq_iff_eq] at hs
    have e := head_one (headTo_at ha).2 (headTo_at hb).2 (by simpa using hs.2)
    subst e
    exact hij (headTo_inj ha hb)
set_option maxRecDepth 100000 in
set_option maxHeartbeats 4000000 in
theorem FnGroups_walk (A0 : Option Addr) (l0 : List Int) (c0 : Nat) (w : World) (h0 : Reads w w.heap.size 1 A0 l0.length (l0.map (Value.int .u8))) (hc0 : l0.length ≤ c0) (hm0 : c0 ≤ maxLen) (hw0 : ∀ x ∈ l0, (Lit.int .u8 x).wf = true) :
    Calls Try.prog 5 #[.slice A0 l0.length c0] w fun e w' => e = .returned (.bool true) ∧ Below w.heap.size w w' := by
  by_cases hn0 : l0.length ≤ 1048576
  case neg =>
    have h' : 1048576 < l0.length := by omega
    clear h0 hn0 hw0 hc0 hm0
    go_enter Try.func5, Try.ntmps5
    go_wp2
    go_ret
    exact ⟨rfl, Below.refl _ _⟩
  have hRB : RB w w.heap.size A0 l0 := ⟨h0, fun x hx => wf_u8 (hw0 x hx)⟩
  have HM := Lib.hid hm0
  clear h0 hw0 hm0
  go_enter Try.func5, Try.ntmps5
  go_wp2_with fail
  refine (DrawGroupsOf_any A0 c0 l0 w hRB hc0 HM.out hn0).mono ?_
  rintro e w1 ⟨F, A, c, rfl, hF, p1, B1⟩
  have hn : F.length ≤ 1048576 := by omega
  clear hRB hc0 hn0
  go_wp2_with fail
  refine (iGroupsOf_any A c F w1 (RI.of_own p1) hn).mono ?_
  rintro e w2 ⟨A2, c2, V2, rfl, q2, hbel2⟩
  have B2 := B1.trans (hbel2.mono B1.size)
  have p2 := own_below p1 hbel2
  clear p1
  go_wp2_with fail
  refine (sGroupsOf_any A c F w2 (RI.of_own p2) hn).mono ?_
  rintro e w3 ⟨A3, c3, V3, rfl, q3, hbel3⟩
  have B3 := B2.trans (hbel3.mono B2.size)
  have p3 := own_below p2 hbel3
  have q3' := q2.below hbel3
  clear p2 q2 hbel2 hbel3
  have hgl := groupsL_len F
  have hgr := Lib.hid (groupsL_row F)
  have hlne : (((groupsL F).length : Int) != ((groupsL F).length : Int)) = false := by simp
  have hleq : (((groupsL F).length : Int) == ((groupsL F).length : Int)) = true := by simp
  go_wp2_with fail
  refine (iFieldValid_any A c F _ _ (RI.of_own p3) hn).mono ?_
  rintro e w' ⟨rfl, rfl⟩
  cases hf : fieldB F
  · have hG : groupsL F = [] := by unfold groupsL; rw [hf]; rfl
    rw [hG] at hlne hleq ⊢
    go_wp2_with fail
    go_ret
    exact ⟨rfl, B3⟩
  have hn20 := (fieldB_true hf).1
  have HD := Lib.hid (fun i hi => grp_at hf (i := i) hi)
  have HALL := Lib.hid (groups_all hf)
  have HFREE := Lib.hid (groups_free hf)
  have HP : Hid (∀ v, plugsL F v = posOf F v) := Lib.hid (fun v => by unfold plugsL; rw [if_pos hf])
  obtain ⟨G, hG⟩ : ∃ G, groupsL F = G := ⟨_, rfl⟩
  simp only [hG] at hgl hgr hlne hleq HD HALL HFREE q3 q3' ⊢
  clear hG hf
  go_wp2_with fail
  refine (iPlugsOf_any A c F 0 w3 (RI.of_own p3) hn).mono ?_
  rintro e w4 ⟨A4, c4, rfl, _, hbel4⟩
  rw [HP.out]
  have B4 := B3.trans (hbel4.mono B3.size)
  have p4 := own_below p3 hbel4
  have q4 := q3'.below hbel4
  have s4 := q3.below hbel4
  clear p3 q3 q3' hbel4 hlne hleq
  have hp0 : (posOf F 0).length ≤ 30 := Nat.le_trans (posOf_length_le _ _) hF
  have hkb0 := fun i hi => kTo_bound (G := G) hgr.out ((posOf F 0).length : Int) (i := i) hi
  have HKB := Lib.hid hkb0
  have Hk0 : Hid (kTo ((posOf F 0).length : Int) G 0 = ((posOf F 0).length : Int)) := Lib.hid (by simp [kTo])
  obtain ⟨p0, hpe⟩ : ∃ p0 : Int, ((posOf F 0).length : Int) = p0 := ⟨_, rfl⟩
  have hp30 : 0 ≤ p0 ∧ p0 ≤ 30 := by omega
  simp only [hpe] at HKB Hk0 HALL
  clear hkb0
  go_wp2_with fail
  clear hpe hp0
  go_loopw [7, 6] (fun i s wr => ∃ k : Nat, k ≤ G.length ∧ i = .int .i64 k ∧ s = .int .i64 (kTo p0 G k) ∧ Below w4.heap.size w4 wr) (fun i _ _ => G.length - (intOf i).toNat)
  case atStart => exact ⟨0, Nat.zero_le _, rfl, by rw [Hk0.out], Below.refl _ _⟩
  case round =>
    obtain ⟨k, hk, rfl, rfl, hbr⟩ := hrel
    have pr := own_below p4 hbr
    have qr := q4.below hbr
    have sr := s4.below hbr
    have Br := B4.trans (hbr.mono B4.size)
    by_cases hlt : k < G.length
    · obtain ⟨h, hh1, hh2, hh3, hh4, hh5⟩ := HD.out k hlt
      have hgk : G[k] = posOf F (F.getD h 0) := by
        rw [List.getElem?_eq_getElem hlt] at hh3
        exact Option.some.inj hh3
      have Hadd := Lib.hid (kTo_succ p0 G hlt)
      have hkb := HKB.out k hk
      have hgle := hgr.out _ (List.getElem_mem hlt)
      obtain ⟨aq, Ai, ci, rfl, hbq, cq, _, rowq⟩ := qr.at_ hlt
      obtain ⟨asx, Bi, di, rfl, hbs, cs, _, rows⟩ := sr.at_ hlt
      obtain ⟨af, rfl, hbf, cf⟩ := (RI.of_own pr).at_ hh1
      obtain ⟨g, hg⟩ : ∃ g, G[k] = g := ⟨_, rfl⟩
      rw [hg] at hgk Hadd hgle cq cs rowq rows
      obtain ⟨x, hx⟩ : ∃ x, F[h] = x := ⟨_, rfl⟩
      rw [getD_at hh1, hx] at hgk hh4 hh5
      rw [hx] at cf
      rw [← hgk] at hh4 hh5
      obtain ⟨ar, rfl, hba, cr⟩ := (RI.of_own rowq).at_ hh5
      rw [getD_first hh5, add_none, hh4] at cr
      have RQ := RI.of_own rowq
      have RS := RI.of_own rows
      have hg6 : g.length ≤ 1048576 := by omega
      have HX := Lib.hid hgk
      have Hh2 := Lib.hid hh2
      have hblq : (aq.add k).block < wr.heap.size := by rw [block_of_add]; exact hbq
      have hbls : (asx.add k).block < wr.heap.size := by rw [block_of_add]; exact hbs
      have hblf : (af.add h).block < wr.heap.size := by rw [block_of_add]; exact hbf
      have hgne : ((g.length : Int) == 0) = false := by rw [beq_eq_false_iff_ne]; omega
      have HC1 : Hid (∀ W, Below wr.heap.size wr W → Calls Try.prog 10 #[.slice (some ar) g.length ci, .slice Bi g.length di] W fun e w' => e = .returned (.bool true) ∧ ∃ n, w' = W.drewN n) :=
        Lib.hid fun W hW => cbSame_same (some ar) Bi ci di g W _ _ (RQ.below hW) (RS.below hW) hg6
      have HC2 : Hid (∀ W, Below wr.heap.size wr W → Calls Try.prog 12 #[.slice (some af) F.length c, .int .i64 x] W (OwnInts W g)) :=
        Lib.hid fun W hW => by
          have := iPlugsOf_any (some af) c F x W (((RI.of_own pr).below hW).more hW.size) hn
          rwa [HP.out, ← HX.out] at this
      have HC3 : Hid (∀ W A9 c9 B9, Below wr.heap.size wr W → RI W B9 A9 g → Calls Try.prog 10 #[.slice A9 g.length c9, .slice (some ar) g.length ci] W fun e w' => e = .returned (.bool true) ∧ ∃ n, w' = W.drewN n) :=
        Lib.hid fun W A9 c9 B9 hW h9 => cbSame_same A9 (some ar) c9 ci g W _ _ h9 (RQ.below hW) hg6
      have hx0 : (h : Int) < F.length := by omega
      clear hgk hg hx hh2 hh3 hh4 rowq rows RS
      by_cases hk0 : 0 < k
      · obtain ⟨p, hpk⟩ : ∃ p, k = p + 1 := ⟨k - 1, by omega⟩
        have hsub : IntKind.i64.wrap ((k : Int) - 1) = (p : Int) := by rw [IntWalk.i64_in _ (by omega)]; omega
        have hpl : p < G.length := by omega
        obtain ⟨hp, hp1, hp2, hp3, hp4, hp5⟩ := HD.out p hpl
        have hlt2 := heads_lt (show p < k by omega) hp2 Hh2.out
        obtain ⟨aq', Ap, cp, e', _, cqp, _, rowp⟩ := qr.at_ hpl
        obtain rfl : aq = aq' := by injection e'
        have hgp : G[p] = posOf F (F.getD hp 0) := by
          rw [List.getElem?_eq_getElem hpl] at hp3
          exact Option.some.inj hp3
        obtain ⟨gp, hgpe⟩ : ∃ gp, G[p] = gp := ⟨_, rfl⟩
        rw [hgpe] at hgp cqp rowp
        rw [← hgp] at hp4 hp5
        obtain ⟨arp, rfl, hbap, crp⟩ := (RI.of_own rowp).at_ hp5
        rw [getD_first hp5, add_none, hp4] at crp
        have hblp : (aq.add p).block < wr.heap.size := by rw [block_of_add]; exact hbq
        have HK : Hid (∀ W, Below wr.heap.size wr W → W.cell? (aq.add k) = some (.slice (some ar) g.length ci) ∧ W.cell? (asx.add k) = some (.slice Bi g.length di) ∧ W.cell? ar = some (.int .i64 h) ∧ W.cell? (af.add h) = some (.int .i64 x) ∧ W.cell? (aq.add p) = some (.slice (some arp) gp.length cp) ∧ W.cell? arp = some (.int .i64 hp)) :=
          Lib.hid fun W hW => ⟨(hW.cell hblq).trans cq, (hW.cell hbls).trans cs, (hW.cell hba).trans cr, (hW.cell hblf).trans cf, (hW.cell hblp).trans cqp, (hW.cell hbap).trans crp⟩
        have hle : decide (h ≤ hp) = false := by simp; omega
        have hpl0 : (p : Int) < G.length := by omega
        have hki : decide ((0 : Int) < k) = true := by simp; omega
        clear hgp hgpe rowp hp2 hp3 hp4 hlt2 e'
        clear hpk
        go_wp2_with fail
        go_region_held3 (fun w' => w'.cell? (aq.add k) = some (.slice (some ar) g.length ci) ∧ w'.cell? (asx.add k) = some (.slice Bi g.length di) ∧ w'.cell? ar = some (.int .i64 h) ∧ w'.cell? (af.add h) = some (.int .i64 x) ∧ w'.cell? (aq.add p) = some (.slice (some arp) gp.length cp) ∧ w'.cell? arp = some (.int .i64 hp)) (first | exact HK.out _ (below_drewN (Below.refl _ _) _) | exact HK.out _ (Below.refl _ _).drew | exact HK.out _ (Below.refl _ _) | exact HK.out _ (below_drewN hb30 _) | exact HK.out _ hb30.drew | exact HK.out _ hb30) (first
          | (go_at_call_of 10 (Value.slice Bi g.length di); refine (HC1.out _ (by first | exact (Below.refl _ _).drew | exact below_drewN (Below.refl _ _) _ | exact Below.refl _ _)).mono ?_; rintro e w5 ⟨rfl, n5, rfl⟩)
          | (go_at_call 12; refine (HC2.out _ (by first | exact below_drewN (Below.refl _ _) _ | exact (Below.refl _ _).drew | exact Below.refl _ _)).mono ?_; rintro e w6 ⟨A6, c6, rfl, o6, hb6⟩; have hb30 : Below wr.heap.size wr w6 := Below.trans (by first | exact below_drewN (Below.refl _ _) _ | exact (Below.refl _ _).drew | exact Below.refl _ _) hb6; have R6 := RI.of_own o6)
          | (go_at_call_of 10 (Value.slice (some ar) g.length ci); refine (HC3.out _ A6 c6 _ (by first | exact below_drewN hb30 _ | exact hb30.drew | exact hb30) (by first | exact R6 | exact R6.drewN _)).mono ?_; rintro e w7 ⟨rfl, n7, rfl⟩))
        have hW := below_drewN hb30 n7
        have hbW := hbr.trans (hW.mono hbr.size)
        have cqW := (HK.out _ hW).1
        have crW := (HK.out _ hW).2.2.1
        have hsW := hW.size
        try clear hsub
        clear HK HC1 HC2 HC3
        generalize w6.drewN n7 = W at hW hbW cqW crW hsW ⊢
        go_wp2_with fail
        go_loopw [8] (fun i wj => ∃ j : Nat, j ≤ k ∧ i = .int .i64 j ∧ Below W.heap.size W wj) (fun i _ => k - (intOf i).toNat)
        case atStart => exact ⟨0, Nat.zero_le _, rfl, Below.refl _ _⟩
        case round =>
          obtain ⟨j, hj, rfl, hbj⟩ := hrel
          have hb2 := hbW.trans (hbj.mono hbW.size)
          by_cases hlt3 : j < k
          · have hjl : j < G.length := by omega
            obtain ⟨hd, d1, d2, d3, d4, d5⟩ := HD.out j hjl
            have hsb := heads_apart (show k ≠ j by omega) Hh2.out d2
            have qj := q4.below hb2
            have pj := own_below p4 hb2
            obtain ⟨aq', Aj, cj, e', _, cqj, _, rowj⟩ := qj.at_ hjl
            obtain rfl : aq = aq' := by injection e'
            have hgj : G[j] = posOf F (F.getD hd 0) := by
              rw [List.getElem?_eq_getElem hjl] at d3
              exact Option.some.inj d3
            obtain ⟨gj, hgje⟩ : ∃ gj, G[j] = gj := ⟨_, rfl⟩
            rw [hgje] at hgj cqj rowj
            rw [← hgj] at d4 d5
            obtain ⟨arj, rfl, hbaj, crj⟩ := (RI.of_own rowj).at_ d5
            rw [getD_first d5, add_none, d4] at crj
            have hsj := hbj.size
            have hblj : (aq.add j).block < wr.heap.size := by rw [block_of_add]; omega
            have hblk : (aq.add k).block < wr.heap.size := by rw [block_of_add]; omega
            have hbak : ar.block < wr.heap.size := by omega
            have cqk := (hbj.cell (p := aq.add k) (by rw [block_of_add]; omega)).trans cqW
            have crk := (hbj.cell (p := ar) (by omega)).trans crW
            have hjG : (j : Int) < G.length := by omega
            have hRF := RI.of_own pj
            clear hgj hgje rowj d2 d3 d4 e'
            go_wp2_with fail
            go_region_held3 (fun w' => w'.cell? (aq.add k) = some (.slice (some ar) g.length ci) ∧ w'.cell? ar = some (.int .i64 h) ∧ w'.cell? (aq.add j) = some (.slice (some arj) gj.length cj) ∧ w'.cell? arj = some (.int .i64 hd)) (go_keep) (first | (go_at_call 11; refine (iSameLine_any (some af) c F h hd wr.drew hRF hn).mono ?_; rintro e w8 ⟨rfl, hb8⟩; have k1 := (hb8.cell (p := aq.add k) hblk).trans cqk; have k2 := (hb8.cell (p := ar) hbak).trans crk; have k3 := (hb8.cell (p := aq.add j) hblj).trans cqj; have k4 := (hb8.cell (p := arj) hbaj).trans crj))
            go_wp2_with fail
            go_roundw
            case rel => exact ⟨j + 1, by omega, by go_num, hbj.trans ((below_drew_ hb8).mono hsj)⟩
            case measure => simp [intOf]; omega
          · have hjk : ¬ (j : Int) < k := by omega
            go_wp2_with fail
            go_roundw
            case rel => exact ⟨k + 1, by omega, by go_num, by rw [Hadd.out], hb2⟩
            case measure => simp [intOf]; omega
      · have hki : decide ((0 : Int) < k) = false := by simp; omega
        have HK : Hid (∀ W, Below wr.heap.size wr W → W.cell? (aq.add k) = some (.slice (some ar) g.length ci) ∧ W.cell? (asx.add k) = some (.slice Bi g.length di) ∧ W.cell? ar = some (.int .i64 h) ∧ W.cell? (af.add h) = some (.int .i64 x)) :=
          Lib.hid fun W hW => ⟨(hW.cell hblq).trans cq, (hW.cell hbls).trans cs, (hW.cell hba).trans cr, (hW.cell hblf).trans cf⟩
        go_wp2_with fail
        refine wp_region_noPanic ?_
        refine wp_region_held_drew (S := fun w' => w'.cell? (aq.add k) = some (.slice (some ar) g.length ci) ∧ w'.cell? (asx.add k) = some (.slice Bi g.length di) ∧ w'.cell? ar = some (.int .i64 h) ∧ w'.cell? (af.add h) = some (.int .i64 x)) (by kernel_rfl) (HK.out _ (Below.refl _ _).drew) (fun hHeld => ?_)
        refine' wpAnyH_take (i := 0) (oi := _) (v := _) rfl (by kernel_rfl) (by kernel_rfl) (by kernel_rfl) (fun _ _ _ h => h) (Or.inl ⟨by rfl, ?hy0⟩) hHeld ?rest0
        case hy0 => (intro w' hSw; (try dsimp only at hSw); go_simp; try with_reducible rfl)
        case' rest0 => try simp only [Act.put, List.setIfInBounds_toArray, List.set_cons_zero, List.set_cons_succ, List.getElem_toArray, List.getElem_cons_succ, List.getElem_cons_zero]
        refine' wpAnyH_take (i := 1) (oi := _) (v := _) rfl (by kernel_rfl) (by kernel_rfl) (by kernel_rfl) (fun _ _ _ h => h) (Or.inl ⟨by rfl, ?hy1⟩) hHeld ?rest1
        case hy1 => (intro w' hSw; (try dsimp only at hSw); go_simp; try with_reducible rfl)
        case' rest1 => try simp only [Act.put, List.setIfInBounds_toArray, List.set_cons_zero, List.set_cons_succ, List.getElem_toArray, List.getElem_cons_succ, List.getElem_cons_zero]
        refine' wpAnyH_take (i := 2) (oi := _) (v := _) rfl (by kernel_rfl) (by kernel_rfl) (by kernel_rfl) (fun _ _ _ h => h) (Or.inl ⟨by rfl, ?hy2⟩) hHeld ?rest2
        case hy2 => (intro w' hSw; (try dsimp only at hSw); go_simp; try with_reducible rfl)
        case' rest2 => try simp only [Act.put, List.setIfInBounds_toArray, List.set_cons_zero, List.set_cons_succ, List.getElem_toArray, List.getElem_cons_succ, List.getElem_cons_zero]
        refine' wpAnyH_take (i := 3) (oi := _) (v := _) rfl (by kernel_rfl) (by kernel_rfl) (by kernel_rfl) (fun _ _ _ h => h) (Or.inl ⟨by rfl, ?hy3⟩) hHeld ?rest3
        case hy3 => (intro w' hSw; (try dsimp only at hSw); go_simp; try with_reducible rfl)
        case' rest3 => try simp only [Act.put, List.setIfInBounds_toArray, List.set_cons_zero, List.set_cons_succ, List.getElem_toArray, List.getElem_cons_succ, List.getElem_cons_zero]
        refine' wpAnyH_take (i := 4) (oi := _) (v := _) rfl (by kernel_rfl) (by kernel_rfl) (by kernel_rfl) (fun _ _ _ h => h) (Or.inl ⟨by rfl, ?hy4⟩) hHeld ?rest4
        case hy4 => (intro w' hSw; (try dsimp only at hSw); go_simp; try with_reducible rfl)
        case' rest4 => try simp only [Act.put, List.setIfInBounds_toArray, List.set_cons_zero, List.set_cons_succ, List.getElem_toArray, List.getElem_cons_succ, List.getElem_cons_zero]
        refine' wpAnyH_take (i := 5) (oi := _) (v := _) rfl (by kernel_rfl) (by kernel_rfl) (by kernel_rfl) (fun _ _ _ h => h) (Or.inl ⟨by rfl, ?hy5⟩) hHeld ?rest5
        case hy5 => (intro w' hSw; (try dsimp only at hSw); go_simp; try with_reducible rfl)
        case' rest5 => try simp only [Act.put, List.setIfInBounds_toArray, List.set_cons_zero, List.set_cons_succ, List.getElem_toArray, List.getElem_cons_succ, List.getElem_cons_zero]
        refine' wpAnyH_take (i := 6) (oi := _) (v := _) rfl (by kernel_rfl) (by kernel_rfl) (by kernel_rfl) (fun _ _ _ h => h) (Or.inl ⟨by rfl, ?hy6⟩) hHeld ?rest6
        case hy6 => (intro w' hSw; (try dsimp only at hSw); go_simp; try with_reducible rfl)
        case' rest6 => try simp only [Act.put, List.setIfInBounds_toArray, List.set_cons_zero, List.set_cons_succ, List.getElem_toArray, List.getElem_cons_succ, List.getElem_cons_zero]
        refine' wpAnyH_take (i := 7) (oi := _) (v := _) rfl (by kernel_rfl) (by kernel_rfl) (by kernel_rfl) (fun _ _ _ h => h) (Or.inl ⟨by rfl, ?hy7⟩) hHeld ?rest7
        case hy7 => (intro w' hSw; (try dsimp only at hSw); go_simp; try with_reducible rfl)
        case' rest7 => try simp only [Act.put, List.setIfInBounds_toArray, List.set_cons_zero, List.set_cons_succ, List.getElem_toArray, List.getElem_cons_succ, List.getElem_cons_zero]
        refine wpAnyH_ready (rs := [8]) (by kernel_rfl) (by simp) ?_
        refine AllReadyH.cons (o := _) rfl (fun K hK => ?_) AllReadyH.nil
        go_simp
        refine (HC1.out _ (Below.refl _ _).drew).mono ?_
        rintro e w5 ⟨rfl, n5, rfl⟩
        try go_wp2_with fail
        refine hK.out _ _ (HK.out _ (below_drewN (Below.refl _ _) _)) (fun hHeld => ?_)
        clear hK K
        try simp only [Act.put, List.setIfInBounds_toArray, List.set_cons_zero, List.set_cons_succ, List.getElem_toArray, List.getElem_cons_succ, List.getElem_cons_zero]
        refine' wpAnyH_take (i := 9) (oi := _) (v := _) rfl (by kernel_rfl) (by kernel_rfl) (by kernel_rfl) (fun _ _ _ h => h) (Or.inl ⟨by rfl, ?hy9⟩) hHeld ?rest9
        case hy9 => (intro w' hSw; (try dsimp only at hSw); go_simp; try with_reducible rfl)
        case' rest9 => try simp only [Act.put, List.setIfInBounds_toArray, List.set_cons_zero, List.set_cons_succ, List.getElem_toArray, List.getElem_cons_succ, List.getElem_cons_zero]
        refine' wpAnyH_take (i := 10) (oi := _) (v := _) rfl (by kernel_rfl) (by kernel_rfl) (by kernel_rfl) (fun _ _ _ h => h) (Or.inl ⟨by rfl, ?hy10⟩) hHeld ?rest10
        case hy10 => (intro w' hSw; (try dsimp only at hSw); go_simp; try with_reducible rfl)
        case' rest10 => try simp only [Act.put, List.setIfInBounds_toArray, List.set_cons_zero, List.set_cons_succ, List.getElem_toArray, List.getElem_cons_succ, List.getElem_cons_zero]
        refine' wpAnyH_take (i := 11) (oi := _) (v := _) rfl (by kernel_rfl) (by kernel_rfl) (by kernel_rfl) (fun _ _ _ h => h) (Or.inl ⟨by rfl, ?hy11⟩) hHeld ?rest11
        case hy11 => (intro w' hSw; (try dsimp only at hSw); go_simp; try with_reducible rfl)
        case' rest11 => try simp only [Act.put, List.setIfInBounds_toArray, List.set_cons_zero, List.set_cons_succ, List.getElem_toArray, List.getElem_cons_succ, List.getElem_cons_zero]
        refine' wpAnyH_take (i := 12) (oi := _) (v := _) rfl (by kernel_rfl) (by kernel_rfl) (by kernel_rfl) (fun _ _ _ h => h) (Or.inl ⟨by rfl, ?hy12⟩) hHeld ?rest12
        case hy12 => (intro w' hSw; (try dsimp only at hSw); go_simp; try with_reducible rfl)
        case' rest12 => try simp only [Act.put, List.setIfInBounds_toArray, List.set_cons_zero, List.set_cons_succ, List.getElem_toArray, List.getElem_cons_succ, List.getElem_cons_zero]
        refine' wpAnyH_take (i := 13) (oi := _) (v := _) rfl (by kernel_rfl) (by kernel_rfl) (by kernel_rfl) (fun _ _ _ h => h) (Or.inl ⟨by rfl, ?hy13⟩) hHeld ?rest13
        case hy13 => (intro w' hSw; (try dsimp only at hSw); go_simp; try with_reducible rfl)
        case' rest13 => try simp only [Act.put, List.setIfInBounds_toArray, List.set_cons_zero, List.set_cons_succ, List.getElem_toArray, List.getElem_cons_succ, List.getElem_cons_zero]
        refine' wpAnyH_take (i := 14) (oi := _) (v := _) rfl (by kernel_rfl) (by kernel_rfl) (by kernel_rfl) (fun _ _ _ h => h) (Or.inl ⟨by rfl, ?hy14⟩) hHeld ?rest14
        case hy14 => (intro w' hSw; (try dsimp only at hSw); go_simp; try with_reducible rfl)
        case' rest14 => try simp only [Act.put, List.setIfInBounds_toArray, List.set_cons_zero, List.set_cons_succ, List.getElem_toArray, List.getElem_cons_succ, List.getElem_cons_zero]
        refine' wpAnyH_take (i := 15) (oi := _) (v := _) rfl (by kernel_rfl) (by kernel_rfl) (by kernel_rfl) (fun _ _ _ h => h) (Or.inl ⟨by rfl, ?hy15⟩) hHeld ?rest15
        case hy15 => (intro w' hSw; (try dsimp only at hSw); go_simp; try with_reducible rfl)
        case' rest15 => try simp only [Act.put, List.setIfInBounds_toArray, List.set_cons_zero, List.set_cons_succ, List.getElem_toArray, List.getElem_cons_succ, List.getElem_cons_zero]
        refine' wpAnyH_take (i := 16) (oi := _) (v := _) rfl (by kernel_rfl) (by kernel_rfl) (by kernel_rfl) (fun _ _ _ h => h) (Or.inl ⟨by rfl, ?hy16⟩) hHeld ?rest16
        case hy16 => (intro w' hSw; (try dsimp only at hSw); go_simp; try with_reducible rfl)
        case' rest16 => try simp only [Act.put, List.setIfInBounds_toArray, List.set_cons_zero, List.set_cons_succ, List.getElem_toArray, List.getElem_cons_succ, List.getElem_cons_zero]
        refine' wpAnyH_take (i := 17) (oi := _) (v := _) rfl (by kernel_rfl) (by kernel_rfl) (by kernel_rfl) (fun _ _ _ h => h) (Or.inl ⟨by rfl, ?hy17⟩) hHeld ?rest17
        case hy17 => (intro w' hSw; (try dsimp only at hSw); go_simp; try with_reducible rfl)
        case' rest17 => try simp only [Act.put, List.setIfInBounds_toArray, List.set_cons_zero, List.set_cons_succ, List.getElem_toArray, List.getElem_cons_succ, List.getElem_cons_zero]
        refine' wpAnyH_take (i := 18) (oi := _) (v := _) rfl (by kernel_rfl) (by kernel_rfl) (by kernel_rfl) (fun _ _ _ h => h) (Or.inl ⟨by rfl, ?hy18⟩) hHeld ?rest18
        case hy18 => (intro w' hSw; (try dsimp only at hSw); go_simp; try with_reducible rfl)
        case' rest18 => try simp only [Act.put, List.setIfInBounds_toArray, List.set_cons_zero, List.set_cons_succ, List.getElem_toArray, List.getElem_cons_succ, List.getElem_cons_zero]
        refine' wpAnyH_take (i := 19) (oi := _) (v := _) rfl (by kernel_rfl) (by kernel_rfl) (by kernel_rfl) (fun _ _ _ h => h) (Or.inl ⟨by rfl, ?hy19⟩) hHeld ?rest19
        case hy19 => (intro w' hSw; (try dsimp only at hSw); go_simp; try with_reducible rfl)
        case' rest19 => try simp only [Act.put, List.setIfInBounds_toArray, List.set_cons_zero, List.set_cons_succ, List.getElem_toArray, List.getElem_cons_succ, List.getElem_cons_zero]
        refine' wpAnyH_take (i := 20) (oi := _) (v := _) rfl (by kernel_rfl) (by kernel_rfl) (by kernel_rfl) (fun _ _ _ h => h) (Or.inl ⟨by rfl, ?hy20⟩) hHeld ?rest20
        case hy20 => (intro w' hSw; (try dsimp only at hSw); go_simp; try with_reducible rfl)
        case' rest20 => try simp only [Act.put, List.setIfInBounds_toArray, List.set_cons_zero, List.set_cons_succ, List.getElem_toArray, List.getElem_cons_succ, List.getElem_cons_zero]
        refine' wpAnyH_take (i := 21) (oi := _) (v := _) rfl (by kernel_rfl) (by kernel_rfl) (by kernel_rfl) (fun _ _ _ h => h) (Or.inl ⟨by rfl, ?hy21⟩) hHeld ?rest21
        case hy21 => (intro w' hSw; (try dsimp only at hSw); go_simp; try with_reducible rfl)
        case' rest21 => try simp only [Act.put, List.setIfInBounds_toArray, List.set_cons_zero, List.set_cons_succ, List.getElem_toArray, List.getElem_cons_succ, List.getElem_cons_zero]
        refine' wpAnyH_take (i := 22) (oi := _) (v := _) rfl (by kernel_rfl) (by kernel_rfl) (by kernel_rfl) (fun _ _ _ h => h) (Or.inr ⟨by rfl, rfl⟩) hHeld ?rest22
        case' rest22 => try simp only [Act.put, List.setIfInBounds_toArray, List.set_cons_zero, List.set_cons_succ, List.getElem_toArray, List.getElem_cons_succ, List.getElem_cons_zero]
        refine' wpAnyH_take (i := 23) (oi := _) (v := _) rfl (by kernel_rfl) (by kernel_rfl) (by kernel_rfl) (fun _ _ _ h => h) (Or.inr ⟨by rfl, rfl⟩) hHeld ?rest23
        case' rest23 => try simp only [Act.put, List.setIfInBounds_toArray, List.set_cons_zero, List.set_cons_succ, List.getElem_toArray, List.getElem_cons_succ, List.getElem_cons_zero]
        refine' wpAnyH_take (i := 24) (oi := _) (v := _) rfl (by kernel_rfl) (by kernel_rfl) (by kernel_rfl) (fun _ _ _ h => h) (Or.inr ⟨by rfl, rfl⟩) hHeld ?rest24
        case' rest24 => try simp only [Act.put, List.setIfInBounds_toArray, List.set_cons_zero, List.set_cons_succ, List.getElem_toArray, List.getElem_cons_succ, List.getElem_cons_zero]
        refine' wpAnyH_take (i := 25) (oi := _) (v := _) rfl (by kernel_rfl) (by kernel_rfl) (by kernel_rfl) (fun _ _ _ h => h) (Or.inr ⟨by rfl, rfl⟩) hHeld ?rest25
        case' rest25 => try simp only [Act.put, List.setIfInBounds_toArray, List.set_cons_zero, List.set_cons_succ, List.getElem_toArray, List.getElem_cons_succ, List.getElem_cons_zero]
        refine' wpAnyH_take (i := 26) (oi := _) (v := _) rfl (by kernel_rfl) (by kernel_rfl) (by kernel_rfl) (fun _ _ _ h => h) (Or.inr ⟨by rfl, rfl⟩) hHeld ?rest26
        case' rest26 => try simp only [Act.put, List.setIfInBounds_toArray, List.set_cons_zero, List.set_cons_succ, List.getElem_toArray, List.getElem_cons_succ, List.getElem_cons_zero]
        refine' wpAnyH_take (i := 27) (oi := _) (v := _) rfl (by kernel_rfl) (by kernel_rfl) (by kernel_rfl) (fun _ _ _ h => h) (Or.inr ⟨by rfl, rfl⟩) hHeld ?rest27
        case' rest27 => try simp only [Act.put, List.setIfInBounds_toArray, List.set_cons_zero, List.set_cons_succ, List.getElem_toArray, List.getElem_cons_succ, List.getElem_cons_zero]
        refine' wpAnyH_take (i := 28) (oi := _) (v := _) rfl (by kernel_rfl) (by kernel_rfl) (by kernel_rfl) (fun _ _ _ h => h) (Or.inr ⟨by rfl, rfl⟩) hHeld ?rest28
        case' rest28 => try simp only [Act.put, List.setIfInBounds_toArray, List.set_cons_zero, List.set_cons_succ, List.getElem_toArray, List.getElem_cons_succ, List.getElem_cons_zero]
        refine' wpAnyH_take (i := 29) (oi := _) (v := _) rfl (by kernel_rfl) (by kernel_rfl) (by kernel_rfl) (fun _ _ _ h => h) (Or.inr ⟨by rfl, rfl⟩) hHeld ?rest29
        case' rest29 => try simp only [Act.put, List.setIfInBounds_toArray, List.set_cons_zero, List.set_cons_succ, List.getElem_toArray, List.getElem_cons_succ, List.getElem_cons_zero]
        refine' wpAnyH_take (i := 30) (oi := _) (v := _) rfl (by kernel_rfl) (by kernel_rfl) (by kernel_rfl) (fun _ _ _ h => h) (Or.inr ⟨by rfl, rfl⟩) hHeld ?rest30
        case' rest30 => try simp only [Act.put, List.setIfInBounds_toArray, List.set_cons_zero, List.set_cons_succ, List.getElem_toArray, List.getElem_cons_succ, List.getElem_cons_zero]
        refine' wpAnyH_take (i := 31) (oi := _) (v := _) rfl (by kernel_rfl) (by kernel_rfl) (by kernel_rfl) (fun _ _ _ h => h) (Or.inr ⟨by rfl, rfl⟩) hHeld ?rest31
        case' rest31 => try simp only [Act.put, List.setIfInBounds_toArray, List.set_cons_zero, List.set_cons_succ, List.getElem_toArray, List.getElem_cons_succ, List.getElem_cons_zero]
        refine' wpAnyH_take (i := 32) (oi := _) (v := _) rfl (by kernel_rfl) (by kernel_rfl) (by kernel_rfl) (fun _ _ _ h => h) (Or.inr ⟨by rfl, rfl⟩) hHeld ?rest32
        case' rest32 => try simp only [Act.put, List.setIfInBounds_toArray, List.set_cons_zero, List.set_cons_succ, List.getElem_toArray, List.getElem_cons_succ, List.getElem_cons_zero]
        refine' wpAnyH_take (i := 33) (oi := _) (v := _) rfl (by kernel_rfl) (by kernel_rfl) (by kernel_rfl) (fun _ _ _ h => h) (Or.inr ⟨by rfl, rfl⟩) hHeld ?rest33
        case' rest33 => try simp only [Act.put, List.setIfInBounds_toArray, List.set_cons_zero, List.set_cons_succ, List.getElem_toArray, List.getElem_cons_succ, List.getElem_cons_zero]
        refine' wpAnyH_take (i := 34) (oi := _) (v := _) rfl (by kernel_rfl) (by kernel_rfl) (by kernel_rfl) (fun _ _ _ h => h) (Or.inr ⟨by rfl, rfl⟩) hHeld ?rest34
        case' rest34 => try simp only [Act.put, List.setIfInBounds_toArray, List.set_cons_zero, List.set_cons_succ, List.getElem_toArray, List.getElem_cons_succ, List.getElem_cons_zero]
        refine' wpAnyH_take (i := 35) (oi := _) (v := _) rfl (by kernel_rfl) (by kernel_rfl) (by kernel_rfl) (fun _ _ _ h => h) (Or.inr ⟨by rfl, rfl⟩) hHeld ?rest35
        case' rest35 => try simp only [Act.put, List.setIfInBounds_toArray, List.set_cons_zero, List.set_cons_succ, List.getElem_toArray, List.getElem_cons_succ, List.getElem_cons_zero]
        refine' wpAnyH_take (i := 36) (oi := _) (v := _) rfl (by kernel_rfl) (by kernel_rfl) (by kernel_rfl) (fun _ _ _ h => h) (Or.inl ⟨by rfl, ?hy36⟩) hHeld ?rest36
        case hy36 => (intro w' hSw; (try dsimp only at hSw); go_simp; try with_reducible rfl)
        case' rest36 => try simp only [Act.put, List.setIfInBounds_toArray, List.set_cons_zero, List.set_cons_succ, List.getElem_toArray, List.getElem_cons_succ, List.getElem_cons_zero]
        refine' wpAnyH_take (i := 37) (oi := _) (v := _) rfl (by kernel_rfl) (by kernel_rfl) (by kernel_rfl) (fun _ _ _ h => h) (Or.inl ⟨by rfl, ?hy37⟩) hHeld ?rest37
        case hy37 => (intro w' hSw; (try dsimp only at hSw); go_simp; try with_reducible rfl)
        case' rest37 => try simp only [Act.put, List.setIfInBounds_toArray, List.set_cons_zero, List.set_cons_succ, List.getElem_toArray, List.getElem_cons_succ, List.getElem_cons_zero]
        refine' wpAnyH_take (i := 38) (oi := _) (v := _) rfl (by kernel_rfl) (by kernel_rfl) (by kernel_rfl) (fun _ _ _ h => h) (Or.inl ⟨by rfl, ?hy38⟩) hHeld ?rest38
        case hy38 => (intro w' hSw; (try dsimp only at hSw); go_simp; try with_reducible rfl)
        case' rest38 => try simp only [Act.put, List.setIfInBounds_toArray, List.set_cons_zero, List.set_cons_succ, List.getElem_toArray, List.getElem_cons_succ, List.getElem_cons_zero]
        refine' wpAnyH_take (i := 39) (oi := _) (v := _) rfl (by kernel_rfl) (by kernel_rfl) (by kernel_rfl) (fun _ _ _ h => h) (Or.inl ⟨by rfl, ?hy39⟩) hHeld ?rest39
        case hy39 => (intro w' hSw; (try dsimp only at hSw); go_simp; try with_reducible rfl)
        case' rest39 => try simp only [Act.put, List.setIfInBounds_toArray, List.set_cons_zero, List.set_cons_succ, List.getElem_toArray, List.getElem_cons_succ, List.getElem_cons_zero]
        refine' wpAnyH_take (i := 40) (oi := _) (v := _) rfl (by kernel_rfl) (by kernel_rfl) (by kernel_rfl) (fun _ _ _ h => h) (Or.inl ⟨by rfl, ?hy40⟩) hHeld ?rest40
        case hy40 => (intro w' hSw; (try dsimp only at hSw); go_simp; try with_reducible rfl)
        case' rest40 => try simp only [Act.put, List.setIfInBounds_toArray, List.set_cons_zero, List.set_cons_succ, List.getElem_toArray, List.getElem_cons_succ, List.getElem_cons_zero]
        refine' wpAnyH_take (i := 41) (oi := _) (v := _) rfl (by kernel_rfl) (by kernel_rfl) (by kernel_rfl) (fun _ _ _ h => h) (Or.inl ⟨by rfl, ?hy41⟩) hHeld ?rest41
        case hy41 => (intro w' hSw; (try dsimp only at hSw); go_simp; try with_reducible rfl)
        case' rest41 => try simp only [Act.put, List.setIfInBounds_toArray, List.set_cons_zero, List.set_cons_succ, List.getElem_toArray, List.getElem_cons_succ, List.getElem_cons_zero]
        refine' wpAnyH_take (i := 42) (oi := _) (v := _) rfl (by kernel_rfl) (by kernel_rfl) (by kernel_rfl) (fun _ _ _ h => h) (Or.inl ⟨by rfl, ?hy42⟩) hHeld ?rest42
        case hy42 => (intro w' hSw; (try dsimp only at hSw); go_simp; try with_reducible rfl)
        case' rest42 => try simp only [Act.put, List.setIfInBounds_toArray, List.set_cons_zero, List.set_cons_succ, List.getElem_toArray, List.getElem_cons_succ, List.getElem_cons_zero]
        refine' wpAnyH_take (i := 43) (oi := _) (v := _) rfl (by kernel_rfl) (by kernel_rfl) (by kernel_rfl) (fun _ _ _ h => h) (Or.inl ⟨by rfl, ?hy43⟩) hHeld ?rest43
        case hy43 => (intro w' hSw; (try dsimp only at hSw); go_simp; try with_reducible rfl)
        case' rest43 => try simp only [Act.put, List.setIfInBounds_toArray, List.set_cons_zero, List.set_cons_succ, List.getElem_toArray, List.getElem_cons_succ, List.getElem_cons_zero]
        refine' wpAnyH_take (i := 44) (oi := _) (v := _) rfl (by kernel_rfl) (by kernel_rfl) (by kernel_rfl) (fun _ _ _ h => h) (Or.inl ⟨by rfl, ?hy44⟩) hHeld ?rest44
        case hy44 => (intro w' hSw; (try dsimp only at hSw); go_simp; try with_reducible rfl)
        case' rest44 => try simp only [Act.put, List.setIfInBounds_toArray, List.set_cons_zero, List.set_cons_succ, List.getElem_toArray, List.getElem_cons_succ, List.getElem_cons_zero]
        refine' wpAnyH_take (i := 45) (oi := _) (v := _) rfl (by kernel_rfl) (by kernel_rfl) (by kernel_rfl) (fun _ _ _ h => h) (Or.inl ⟨by rfl, ?hy45⟩) hHeld ?rest45
        case hy45 => (intro w' hSw; (try dsimp only at hSw); go_simp; try with_reducible rfl)
        case' rest45 => try simp only [Act.put, List.setIfInBounds_toArray, List.set_cons_zero, List.set_cons_succ, List.getElem_toArray, List.getElem_cons_succ, List.getElem_cons_zero]
        refine' wpAnyH_take (i := 46) (oi := _) (v := _) rfl (by kernel_rfl) (by kernel_rfl) (by kernel_rfl) (fun _ _ _ h => h) (Or.inl ⟨by rfl, ?hy46⟩) hHeld ?rest46
        case hy46 => (intro w' hSw; (try dsimp only at hSw); go_simp; try with_reducible rfl)
        case' rest46 => try simp only [Act.put, List.setIfInBounds_toArray, List.set_cons_zero, List.set_cons_succ, List.getElem_toArray, List.getElem_cons_succ, List.getElem_cons_zero]
        refine' wpAnyH_take (i := 47) (oi := _) (v := _) rfl (by kernel_rfl) (by kernel_rfl) (by kernel_rfl) (fun _ _ _ h => h) (Or.inl ⟨by rfl, ?hy47⟩) hHeld ?rest47
        case hy47 => (intro w' hSw; (try dsimp only at hSw); go_simp; try with_reducible rfl)
        case' rest47 => try simp only [Act.put, List.setIfInBounds_toArray, List.set_cons_zero, List.set_cons_succ, List.getElem_toArray, List.getElem_cons_succ, List.getElem_cons_zero]
        refine' wpAnyH_take (i := 48) (oi := _) (v := _) rfl (by kernel_rfl) (by kernel_rfl) (by kernel_rfl) (fun _ _ _ h => h) (Or.inl ⟨by rfl, ?hy48⟩) hHeld ?rest48
        case hy48 => (intro w' hSw; (try dsimp only at hSw); go_simp; try with_reducible rfl)
        case' rest48 => try simp only [Act.put, List.setIfInBounds_toArray, List.set_cons_zero, List.set_cons_succ, List.getElem_toArray, List.getElem_cons_succ, List.getElem_cons_zero]
        refine' wpAnyH_take (i := 50) (oi := _) (v := _) rfl (by kernel_rfl) (by kernel_rfl) (by kernel_rfl) (fun _ _ _ h => h) (Or.inl ⟨by rfl, ?hy50⟩) hHeld ?rest50
        case hy50 => (intro w' hSw; (try dsimp only at hSw); go_simp; try with_reducible rfl)
        case' rest50 => try simp only [Act.put, List.setIfInBounds_toArray, List.set_cons_zero, List.set_cons_succ, List.getElem_toArray, List.getElem_cons_succ, List.getElem_cons_zero]
        refine' wpAnyH_take (i := 51) (oi := _) (v := _) rfl (by kernel_rfl) (by kernel_rfl) (by kernel_rfl) (fun _ _ _ h => h) (Or.inl ⟨by rfl, ?hy51⟩) hHeld ?rest51
        case hy51 => (intro w' hSw; (try dsimp only at hSw); go_simp; try with_reducible rfl)
        case' rest51 => try simp only [Act.put, List.setIfInBounds_toArray, List.set_cons_zero, List.set_cons_succ, List.getElem_toArray, List.getElem_cons_succ, List.getElem_cons_zero]
        refine' wpAnyH_take (i := 52) (oi := _) (v := _) rfl (by kernel_rfl) (by kernel_rfl) (by kernel_rfl) (fun _ _ _ h => h) (Or.inl ⟨by rfl, ?hy52⟩) hHeld ?rest52
        case hy52 => (intro w' hSw; (try dsimp only at hSw); go_simp; try with_reducible rfl)
        case' rest52 => try simp only [Act.put, List.setIfInBounds_toArray, List.set_cons_zero, List.set_cons_succ, List.getElem_toArray, List.getElem_cons_succ, List.getElem_cons_zero]
        refine' wpAnyH_take (i := 53) (oi := _) (v := _) rfl (by kernel_rfl) (by kernel_rfl) (by kernel_rfl) (fun _ _ _ h => h) (Or.inl ⟨by rfl, ?hy53⟩) hHeld ?rest53
        case hy53 => (intro w' hSw; (try dsimp only at hSw); go_simp; try with_reducible rfl)
        case' rest53 => try simp only [Act.put, List.setIfInBounds_toArray, List.set_cons_zero, List.set_cons_succ, List.getElem_toArray, List.getElem_cons_succ, List.getElem_cons_zero]
        refine wpAnyH_ready (rs := [49]) (by kernel_rfl) (by simp) ?_
        refine AllReadyH.cons (o := _) rfl (fun K hK => ?_) AllReadyH.nil
        go_simp
        refine (HC2.out _ (below_drewN (Below.refl _ _) _)).mono ?_
        rintro e w6 ⟨A6, c6, rfl, o6, hb6⟩
        have hb30 : Below wr.heap.size wr w6 := Below.trans (below_drewN (Below.refl _ _) _) hb6
        have R6 := RI.of_own o6
        try go_wp2_with fail
        refine hK.out _ _ (HK.out _ hb30) (fun hHeld => ?_)
        clear hK K
        try simp only [Act.put, List.setIfInBounds_toArray, List.set_cons_zero, List.set_cons_succ, List.getElem_toArray, List.getElem_cons_succ, List.getElem_cons_zero]
        refine wpAnyH_ready (rs := [54]) (by kernel_rfl) (by simp) ?_
        refine AllReadyH.cons (o := _) rfl (fun K hK => ?_) AllReadyH.nil
        go_simp
        refine (HC3.out _ A6 c6 _ hb30 R6).mono ?_
        rintro e w7 ⟨rfl, n7, rfl⟩
        try go_wp2_with fail
        refine hK.out _ _ (HK.out _ (below_drewN hb30 _)) (fun hHeld => ?_)
        clear hK K
        try simp only [Act.put, List.setIfInBounds_toArray, List.set_cons_zero, List.set_cons_succ, List.getElem_toArray, List.getElem_cons_succ, List.getElem_cons_zero]
        refine' wpAnyH_take (i := 55) (oi := _) (v := _) rfl (by kernel_rfl) (by kernel_rfl) (by kernel_rfl) (fun _ _ _ h => h) (Or.inl ⟨by rfl, ?hy55⟩) hHeld ?rest55
        case hy55 => (intro w' hSw; (try dsimp only at hSw); go_simp; try with_reducible rfl)
        case' rest55 => try simp only [Act.put, List.setIfInBounds_toArray, List.set_cons_zero, List.set_cons_succ, List.getElem_toArray, List.getElem_cons_succ, List.getElem_cons_zero]
        refine' wpAnyH_take (i := 56) (oi := _) (v := _) rfl (by kernel_rfl) (by kernel_rfl) (by kernel_rfl) (fun _ _ _ h => h) (Or.inl ⟨by rfl, ?hy56⟩) hHeld ?rest56
        case hy56 => (intro w' hSw; (try dsimp only at hSw); go_simp; try with_reducible rfl)
        case' rest56 => try simp only [Act.put, List.setIfInBounds_toArray, List.set_cons_zero, List.set_cons_succ, List.getElem_toArray, List.getElem_cons_succ, List.getElem_cons_zero]
        refine wpAnyH_done (by kernel_rfl) ?_ _
        refine NoPanic.normal ?_
        have hW := below_drewN hb30 n7
        have hbW := hbr.trans (hW.mono hbr.size)
        have cqW := (HK.out _ hW).1
        have crW := (HK.out _ hW).2.2.1
        have hsW := hW.size
        try clear hsub
        clear HK HC1 HC2 HC3
        generalize w6.drewN n7 = W at hW hbW cqW crW hsW ⊢
        go_wp2_with fail
        go_loopw [8] (fun i wj => ∃ j : Nat, j ≤ k ∧ i = .int .i64 j ∧ Below W.heap.size W wj) (fun i _ => k - (intOf i).toNat)
        case atStart => exact ⟨0, Nat.zero_le _, rfl, Below.refl _ _⟩
        case round =>
          obtain ⟨j, hj, rfl, hbj⟩ := hrel
          have hb2 := hbW.trans (hbj.mono hbW.size)
          by_cases hlt3 : j < k
          · have hjl : j < G.length := by omega
            obtain ⟨hd, d1, d2, d3, d4, d5⟩ := HD.out j hjl
            have hsb := heads_apart (show k ≠ j by omega) Hh2.out d2
            have qj := q4.below hb2
            have pj := own_below p4 hb2
            obtain ⟨aq', Aj, cj, e', _, cqj, _, rowj⟩ := qj.at_ hjl
            obtain rfl : aq = aq' := by injection e'
            have hgj : G[j] = posOf F (F.getD hd 0) := by
              rw [List.getElem?_eq_getElem hjl] at d3
              exact Option.some.inj d3
            obtain ⟨gj, hgje⟩ : ∃ gj, G[j] = gj := ⟨_, rfl⟩
            rw [hgje] at hgj cqj rowj
            rw [← hgj] at d4 d5
            obtain ⟨arj, rfl, hbaj, crj⟩ := (RI.of_own rowj).at_ d5
            rw [getD_first d5, add_none, d4] at crj
            have hsj := hbj.size
            have hblj : (aq.add j).block < wr.heap.size := by rw [block_of_add]; omega
            have hblk : (aq.add k).block < wr.heap.size := by rw [block_of_add]; omega
            have hbak : ar.block < wr.heap.size := by omega
            have cqk := (hbj.cell (p := aq.add k) (by rw [block_of_add]; omega)).trans cqW
            have crk := (hbj.cell (p := ar) (by omega)).trans crW
            have hjG : (j : Int) < G.length := by omega
            have hRF := RI.of_own pj
            clear hgj hgje rowj d2 d3 d4 e'
            go_wp2_with fail
            go_region_held3 (fun w' => w'.cell? (aq.add k) = some (.slice (some ar) g.length ci) ∧ w'.cell? ar = some (.int .i64 h) ∧ w'.cell? (aq.add j) = some (.slice (some arj) gj.length cj) ∧ w'.cell? arj = some (.int .i64 hd)) (go_keep) (first | (go_at_call 11; refine (iSameLine_any (some af) c F h hd wr.drew hRF hn).mono ?_; rintro e w8 ⟨rfl, hb8⟩; have k1 := (hb8.cell (p := aq.add k) hblk).trans cqk; have k2 := (hb8.cell (p := ar) hbak).trans crk; have k3 := (hb8.cell (p := aq.add j) hblj).trans cqj; have k4 := (hb8.cell (p := arj) hbaj).trans crj))
            go_wp2_with fail
            go_roundw
            case rel => exact ⟨j + 1, by omega, by go_num, hbj.trans ((below_drew_ hb8).mono hsj)⟩
            case measure => simp [intOf]; omega
          · have hjk : ¬ (j : Int) < k := by omega
            go_wp2_with fail
            go_roundw
            case rel => exact ⟨k + 1, by omega, by go_num, by rw [Hadd.out], hb2⟩
            case measure => simp [intOf]; omega
    · obtain rfl : k = G.length := by omega
      have hall := HALL.out
      have hall2 : (kTo p0 G G.length == (F.length : Int)) = true := by rw [hall]; simp
      have hfr := HFREE.out
      have hfr2 : (((freeL F 6).length : Int) == 6 - (G.length : Int)) = true := by
        rw [beq_iff_eq]
        omega
      have hg6 : G.length ≤ 6 := by omega
      clear hall hfr
      go_wp2_with fail
      refine (iFreeLines_any A c F 6 wr (RI.of_own pr) hn).mono ?_
      rintro e w5 ⟨A5, c5, rfl, _, hbel5⟩
      go_wp2_with fail
      go_ret
      exact ⟨rfl, Br.trans (hbel5.mono Br.size)⟩
end Go.Proofs.Ytbihnjfckaeioaa
