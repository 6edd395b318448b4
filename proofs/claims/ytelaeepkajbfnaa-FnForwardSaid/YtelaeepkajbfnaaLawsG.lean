/-
  The law FnForward, walked: it returns true and writes nothing that was there.
-/
import Derived.Test.YtelaeepkajbfnaaLawsF
import Derived.Test.YtelaeepkajbfnaaRing
namespace Go.Proofs.Ytelaeepkajbfnaa
open Go.RowKit
set_option linter.unusedSimpArgs false
set_option linter.unusedVariables false

/-- n steps on the way of x, which rests at its end -/
def seqF (l : List (Int × Int)) (x : Int) : Nat → Int
  | 0 => x
  | n + 1 => (lkp l (seqF l x n)).getD (seqF l x n)
/-- is x one of the lines that are forwarded to themselves? -/
def onR (l : List (Int × Int)) (x : Int) : Bool := (ringTo l 6).any fun y => y == x
/-- does the way of x meet one of them in its first n places? -/
def arF (l : List (Int × Int)) (x : Int) : Nat → Bool
  | 0 => false
  | n + 1 => arF l x n || onR l (seqF l x n)
theorem onR_true {l : List (Int × Int)} {x : Int} : onR l x = true ↔ (1 ≤ x ∧ x ≤ 6) ∧ ringF l l.length x x = true := by
  unfold onR ringTo
  rw [List.any_eq_true]
  constructor
  · rintro ⟨y, hy, e⟩
    obtain ⟨h1, h2⟩ := List.mem_filter.1 hy
    obtain ⟨i, hi, rfl⟩ := List.mem_map.1 h1
    have := List.mem_range.1 hi
    have e2 : (i : Int) + 1 = x := by simpa using e
    rw [e2] at h2
    exact ⟨by omega, by simpa using h2⟩
  · rintro ⟨⟨h1, h2⟩, h3⟩
    refine ⟨x, List.mem_filter.2 ⟨List.mem_map.2 ⟨(x - 1).toNat, List.mem_range.2 (by omega), by omega⟩, by simpa using h3⟩, by simp⟩
theorem seqF_it {l : List (Int × Int)} {x : Int} {n : Nat} (h : (itL l n x).isSome = true) : itL l n x = some (seqF l x n) := by
  induction n with
  | zero => rfl
  | succ n ih =>
    have h1 := ih (itL_le h (by omega))
    have e : itL l (n + 1) x = (itL l n x).bind (lkp l) := rfl
    rw [e, h1] at h ⊢
    show lkp l (seqF l x n) = some ((lkp l (seqF l x n)).getD (seqF l x n))
    cases hl : lkp l (seqF l x n) with
    | none =>
      exfalso
      have h' : (lkp l (seqF l x n)).isSome = true := h
      rw [hl] at h'
      cases h'
    | some y => rfl
/-- an endless way -/
theorem seqF_never {l : List (Int × Int)} {x : Int} (h : endF l (l.length + 1) x = none) (n : Nat) : lkp l (seqF l x n) = some (seqF l x (n + 1)) := by
  have ha := itL_always ((endF_none_iff _ _ _).1 h)
  have h0 := seqF_it (ha n)
  have h1 := seqF_it (ha (n + 1))
  have e : itL l (n + 1) x = (itL l n x).bind (lkp l) := rfl
  rw [e, h0] at h1
  exact h1
theorem lkp_from {l : List (Int × Int)} (hr : rulesB l = true) {x y : Int} (h : lkp l x = some y) : 1 ≤ x ∧ x ≤ 6 := by
  have hm := lkp_mem (l := l) (x := x) (by rw [h]; rfl)
  obtain ⟨r, hr', rfl⟩ := List.mem_map.1 hm
  obtain ⟨k, hk, rfl⟩ := List.mem_iff_getElem.1 hr'
  exact (rulesB_at hr hk).1
theorem seqF_self {l : List (Int × Int)} (hr : rulesB l = true) {x : Int} (h : endF l (l.length + 1) x = none) {n : Nat} (hs : seqF l x (n + 1) = seqF l x n) : onR l (seqF l x n) = true := by
  have hl := seqF_never h n
  rw [hs] at hl
  refine onR_true.2 ⟨lkp_from hr hl, ?_⟩
  have hp : 1 ≤ l.length := by
    have hm := lkp_mem (l := l) (x := seqF l x n) (by rw [hl]; rfl)
    obtain ⟨r, hr', _⟩ := List.mem_map.1 hm
    exact List.length_pos_of_mem hr'
  exact (ringF_iff _ _ _ _).2 ⟨1, Nat.le_refl _, hp, hl⟩
theorem seqF_shift (l : List (Int × Int)) (x : Int) (a b : Nat) : seqF l x (a + b) = seqF l (seqF l x a) b := by
  induction b with
  | zero => rfl
  | succ b ih =>
    show (lkp l (seqF l x (a + b))).getD (seqF l x (a + b)) = _
    rw [ih]
    rfl
theorem arF_iff (l : List (Int × Int)) (x : Int) (n : Nat) : arF l x n = true ↔ ∃ i, i < n ∧ onR l (seqF l x i) = true := by
  induction n with
  | zero => simp [arF]
  | succ n ih =>
    rw [arF, Bool.or_eq_true, ih]
    constructor
    · rintro (⟨i, h1, h2⟩ | h)
      · exact ⟨i, by omega, h2⟩
      · exact ⟨n, by omega, h⟩
    · rintro ⟨i, h1, h2⟩
      by_cases he : i = n
      · subst he
        exact .inr h2
      · exact .inl ⟨i, by omega, h2⟩
theorem arF_never {l : List (Int × Int)} (hr : rulesB l = true) {x : Int} (h : endF l (l.length + 1) x = none) : arF l x (l.length + 1) = true := by
  obtain ⟨i, j, hij, hj, e⟩ := itL_meets ((endF_none_iff _ _ _).1 h)
  have ha := itL_always ((endF_none_iff _ _ _).1 h)
  refine (arF_iff _ _ _).2 ⟨i, by omega, onR_true.2 ⟨lkp_from hr (seqF_never h i), (ringF_iff _ _ _ _).2 ⟨j - i, by omega, by omega, ?_⟩⟩⟩
  have e2 : j = i + (j - i) := by omega
  rw [e2, itL_add, seqF_it (ha i)] at e
  exact e.symm
/-- a way that ends -/
theorem seqF_ends {l : List (Int × Int)} {x e : Int} {n : Nat} (h : endF l (n + 1) x = some e) : seqF l x n = e := by
  induction n generalizing x with
  | zero =>
    rw [endF] at h
    cases hl : lkp l x with
    | none => rw [hl] at h; exact Option.some.inj h
    | some y => rw [hl] at h; cases h
  | succ n ih =>
    rw [endF] at h
    have e1 : seqF l x (n + 1) = seqF l (seqF l x 1) n := by rw [Nat.add_comm]; exact seqF_shift l x 1 n
    have e2 : seqF l x 1 = (lkp l x).getD x := rfl
    rw [e1, e2]
    cases hl : lkp l x with
    | none =>
      rw [hl] at h
      have hxe : x = e := Option.some.inj h
      subst hxe
      exact ih (endF_stop hl n)
    | some y =>
      rw [hl] at h
      exact ih h
theorem seqF_rest {l : List (Int × Int)} {x : Int} (h : lkp l x = none) (n : Nat) : seqF l x n = x := by
  induction n with
  | zero => rfl
  | succ n ih =>
    show (lkp l (seqF l x n)).getD (seqF l x n) = x
    rw [ih, h]
    rfl
theorem onR_ends {l : List (Int × Int)} {x e : Int} (h : endF l (l.length + 1) x = some e) (n : Nat) : onR l (seqF l x n) = false := by
  cases ho : onR l (seqF l x n) with
  | false => rfl
  | true =>
    exfalso
    obtain ⟨_, h2⟩ := onR_true.1 ho
    obtain ⟨k, h3, h4, h5⟩ := (ringF_iff _ _ _ _).1 h2
    -- from y its way comes back to y: it never ends
    have hround : ∀ m, seqF l (seqF l x n) (m * k) = seqF l x n := by
      intro m
      induction m with
      | zero => simp [seqF]
      | succ m ih =>
        rw [Nat.succ_mul, seqF_shift, ih]
        have := seqF_it (l := l) (x := seqF l x n) (n := k) (by rw [h5]; rfl)
        rw [h5] at this
        exact (Option.some.inj this).symm
    have he := seqF_ends h
    have hl := endF_end h
    have h6 : seqF l x (n + l.length * k) = seqF l x n := by rw [seqF_shift, hround]
    have h7 : seqF l x (n + l.length * k) = e := by
      have hge : l.length ≤ n + l.length * k := by
        have : l.length * 1 ≤ l.length * k := Nat.mul_le_mul_left _ h3
        omega
      obtain ⟨c, hc⟩ := Nat.exists_eq_add_of_le hge
      rw [hc, seqF_shift, he, seqF_rest hl]
    rw [h7] at h6
    rw [← h6] at h5
    obtain ⟨k, rfl⟩ : ∃ j, k = j + 1 := ⟨k - 1, by omega⟩
    rw [itL_succ', hl] at h5
    cases h5
theorem arF_ends {l : List (Int × Int)} {x e : Int} (h : endF l (l.length + 1) x = some e) (n : Nat) : arF l x n = false := by
  cases ha : arF l x n with
  | false => rfl
  | true =>
    obtain ⟨i, _, h2⟩ := (arF_iff _ _ _).1 ha
    rw [onR_ends h] at h2
    cases h2
theorem anyEq_take_succ {l : List Int} {k : Nat} (h : k < l.length) (y : Int) : (l.take (k + 1)).any (fun z => z == y) = ((l.take k).any (fun z => z == y) || l[k] == y) := by
  rw [take_snoc l k h, List.any_append]
  simp
/-- the next place, as far as the first m rules tell -/
theorem nextF_succ {l : List (Int × Int)} (hr : rulesB l = true) {k : Nat} (hk : k < l.length) (a : Int) : (lkp (l.take (k + 1)) a).getD a = if l[k].1 = a then l[k].2 else (lkp (l.take k) a).getD a := by
  rw [lkp_take_succ hk]
  by_cases he : l[k].1 = a
  · subst he
    rw [rulesB_fresh hr hk]
    simp
  · rw [if_neg he]
    cases lkp (l.take k) a with
    | none => simp [he]
    | some y => simp [he]
set_option maxRecDepth 100000 in
set_option maxHeartbeats 16000000 in
theorem FnForward_walk (A0 : Option Addr) (l0 : List Int) (c0 : Nat) (w : World) (h0 : Reads w w.heap.size 1 A0 l0.length (l0.map (Value.int .u8))) (hc0 : l0.length ≤ c0) (hm0 : c0 ≤ maxLen) (hw0 : ∀ x ∈ l0, (Lit.int .u8 x).wf = true) :
    Calls Try.prog 7 #[.slice A0 l0.length c0] w fun e w' => e = .returned (.bool true) ∧ Below w.heap.size w w' := by
  by_cases hn0 : l0.length ≤ 1048576
  case neg =>
    have h' : 1048576 < l0.length := by omega
    clear h0 hn0 hw0 hc0 hm0
    go_enter Try.func7, Try.ntmps7
    go_wp2
    go_ret
    exact ⟨rfl, Below.refl _ _⟩
  have hRB : RB w w.heap.size A0 l0 := ⟨h0, fun x hx => wf_u8 (hw0 x hx)⟩
  have HM := Lib.hid hm0
  clear h0 hw0 hm0
  go_enter Try.func7, Try.ntmps7
  go_wp2_with fail
  refine (DrawForwardLine_any A0 c0 l0 w hRB hc0 HM.out hn0).mono ?_
  rintro e w1 ⟨L, A, c, x, rfl, hL, o1, B1⟩
  have hn : L.length ≤ 1048576 := by omega
  clear hRB hc0 hn0
  go_wp2_with fail
  refine (iForwardLine_any A c L x w1 (RR.of_own o1) hn).mono ?_
  rintro e w2 ⟨rfl, hbel2⟩
  have B2 := B1.trans (hbel2.mono B1.size)
  have o2 := own_below o1 hbel2
  clear o1
  go_wp2_with fail
  refine (sForwardLine_any A c L x w2 _ (RR.of_own o2) hn).mono ?_
  rintro e v3 ⟨rfl, n3, rfl⟩
  have B3 := below_drewN B2 n3
  have o3 := own_drewN o2 n3
  clear o2 hbel2 B2
  generalize w2.drewN n3 = w3 at B3 o3 ⊢
  have hvv : (flV L x != flV L x) = false := by simp
  have hve : (flV L x == flV L x) = true := by simp
  have hbb : (flB L x != flB L x) = false := by simp
  have hbe : (flB L x == flB L x) = true := by simp
  have hrr : (rulesB L != rulesB L) = false := by simp
  have hre : (rulesB L == rulesB L) = true := by simp
  go_wp2_with fail
  refine (RulesValid_any A c L w3 (RR.of_own o3) hn).mono ?_
  rintro e w4 ⟨rfl, hbel4⟩
  have B4 := B3.trans (hbel4.mono B3.size)
  have o4 := own_below o3 hbel4
  go_wp2_with fail
  refine (sRulesValid_any A c L w4 _ (RR.of_own o4) hn).mono ?_
  rintro e v5 ⟨rfl, n5, rfl⟩
  have B5 := below_drewN B4 n5
  have o5 := own_drewN o4 n5
  clear o3 o4 hbel4 B3 B4
  generalize w4.drewN n5 = w5 at B5 o5 ⊢
  go_wp2_with fail
  refine (RulesValid_any A c L w5 (RR.of_own o5) hn).mono ?_
  rintro e w6 ⟨rfl, hbel6⟩
  have B6 := B5.trans (hbel6.mono B5.size)
  have o6 := own_below o5 hbel6
  clear o5 hbel6 B5
  by_cases hin : rulesB L = true ∧ 0 ≤ x ∧ x ≤ 6
  case neg =>
    have hfb : flB L x = false := by
      cases hf : flB L x
      · rfl
      · exfalso
        unfold flB at hf
        simp only [Bool.and_eq_true] at hf
        exact hin ⟨hf.1.1, inB_true.1 hf.1.2⟩
    rw [hfb] at hbb hbe ⊢
    have HIN := Lib.hid hin
    cases hr : rulesB L
    · rw [hr] at hrr hre
      go_wp2_with fail
      refine (RulesValid_any A c L w6 (RR.of_own o6) hn).mono ?_
      rintro e w7 ⟨rfl, hbel7⟩
      have B7 := B6.trans (hbel7.mono B6.size)
      have o7 := own_below o6 hbel7
      rw [hr]
      go_wp2_with fail
      refine (sRulesValid_any A c L w7 _ (RR.of_own o7) hn).mono ?_
      rintro e v8 ⟨rfl, n8, rfl⟩
      have B8 := below_drewN B7 n8
      rw [hr]
      go_wp2_with fail
      go_ret
      exact ⟨rfl, B8⟩
    · by_cases hx0 : x < 0
      · rw [hr] at hrr hre
        go_wp2_with fail
        refine (RulesValid_any A c L w6 (RR.of_own o6) hn).mono ?_
        rintro e w7 ⟨rfl, hbel7⟩
        have B7 := B6.trans (hbel7.mono B6.size)
        have o7 := own_below o6 hbel7
        rw [hr]
        go_wp2_with fail
        refine (sRulesValid_any A c L w7 _ (RR.of_own o7) hn).mono ?_
        rintro e v8 ⟨rfl, n8, rfl⟩
        have B8 := below_drewN B7 n8
        rw [hr]
        go_wp2_with fail
        go_ret
        exact ⟨rfl, B8⟩
      · have hx6 : 6 < x := by
          rw [hr] at hin
          simp at hin
          omega
        rw [hr] at hrr hre
        go_wp2_with fail
        refine (RulesValid_any A c L w6 (RR.of_own o6) hn).mono ?_
        rintro e w7 ⟨rfl, hbel7⟩
        have B7 := B6.trans (hbel7.mono B6.size)
        have o7 := own_below o6 hbel7
        rw [hr]
        go_wp2_with fail
        refine (sRulesValid_any A c L w7 _ (RR.of_own o7) hn).mono ?_
        rintro e v8 ⟨rfl, n8, rfl⟩
        have B8 := below_drewN B7 n8
        rw [hr]
        go_wp2_with fail
        go_ret
        exact ⟨rfl, B8⟩
  obtain ⟨hr, x0, x6⟩ := hin
  have hgl : (ringL L).length ≤ 1048576 := ringL_len
  go_wp2_with fail
  refine (iRingLines_any A c L w6 (RR.of_own o6) hn).mono ?_
  rintro e w7 ⟨A7, c7, rfl, q7, hbel7⟩
  have B7 := B6.trans (hbel7.mono B6.size)
  have o7 := own_below o6 hbel7
  clear o6 B6 hbel7
  go_wp2_with fail
  refine (sRingLines_any A c L w7 (RR.of_own o7) hn).mono ?_
  rintro e w8 ⟨A8, c8, rfl, q8, hbel8⟩
  have B8 := B7.trans (hbel8.mono B7.size)
  have o8 := own_below o7 hbel8
  have p8 := own_below q7 hbel8
  clear o7 q7 B7 hbel8
  go_wp2_with fail
  refine (cbSame_same A7 A8 c7 c8 (ringL L) w8 _ _ (RI.of_own p8) (RI.of_own q8) hgl).mono ?_
  rintro e v9 ⟨rfl, n9, rfl⟩
  have B9 := below_drewN B8 n9
  have o9 := own_drewN o8 n9
  have R9 := RI.of_own (own_drewN p8 n9)
  clear o8 p8 q8 B8
  generalize w8.drewN n9 = w9 at B9 o9 R9 ⊢
  have hR : ringL L = ringTo L 6 := by unfold ringL; rw [if_pos hr]
  rw [hR] at R9 hgl ⊢
  obtain ⟨R, hRe⟩ : ∃ R, ringTo L 6 = R := ⟨_, rfl⟩
  have HO : Hid (∀ a, onR L a = R.any fun z => z == a) := Lib.hid (fun a => by rw [← hRe]; rfl)
  rw [hRe] at R9 hgl ⊢
  have HR := Lib.hid hr
  have HX : Hid (inB x 0 6 = true) := Lib.hid (inB_true.2 ⟨x0, x6⟩)
  have RL := RR.of_own o9
  obtain ⟨b, hb⟩ : ∃ b, flB L x = b := ⟨_, rfl⟩
  obtain ⟨v, hv⟩ : ∃ v, flV L x = v := ⟨_, rfl⟩
  rw [hb, hv]
  have HB : Hid ((endF L (L.length + 1) x).isSome = b) := Lib.hid (by rw [← hb]; simp [flB, hr, HX.out])
  have HV : Hid (endI (endF L (L.length + 1) x) = v) := Lib.hid (by rw [← hv]; simp [flV, hr, HX.out])
  have H1 : Hid (∀ n, arF L x (n + 1) = (arF L x n || R.any fun z => z == seqF L x n)) := Lib.hid (fun n => by rw [← HO.out]; rfl)
  have hnx : Hid (∀ n, (lkp L (seqF L x n)).getD (seqF L x n) = seqF L x (n + 1)) := Lib.hid (fun n => rfl)
  clear hR hRe hb hv hr hvv hve hbb hbe hrr hre
  go_wp2_with fail
  go_loop [12, 11, 9] (fun i s a => ∃ n : Nat, n ≤ L.length + 1 ∧ i = .int .i64 n ∧ s = .bool (arF L x n) ∧ a = .int .i64 (seqF L x n)) (fun i _ _ => L.length + 1 - (intOf i).toNat)
  case atStart => exact ⟨0, by omega, rfl, rfl, rfl⟩
  case round =>
    obtain ⟨n, hnn, rfl, rfl, rfl⟩ := hrel
    by_cases hlt : n ≤ L.length
    · obtain ⟨a, ha⟩ : ∃ a, seqF L x n = a := ⟨_, rfl⟩
      obtain ⟨s, hs⟩ : ∃ s, arF L x n = s := ⟨_, rfl⟩
      have h1 := H1.out n
      have h2 := hnx.out n
      rw [ha, hs] at h1
      rw [ha] at h2
      rw [ha, hs]
      have Ha := Lib.hid ha
      have Hs := Lib.hid hs
      have H1n := Lib.hid h1
      have H2n := Lib.hid h2
      clear ha hs h1 h2
      go_wp2_with fail
      go_loop [13, 11] (fun j s' => ∃ m : Nat, m ≤ R.length ∧ j = .int .i64 m ∧ s' = .bool (s || (R.take m).any fun z => z == a)) (fun j _ => R.length - (intOf j).toNat)
      case atStart => exact ⟨0, Nat.zero_le _, rfl, by simp⟩
      case round =>
        obtain ⟨m, hm, rfl, rfl⟩ := hrel
        by_cases hlt2 : m < R.length
        · obtain ⟨ad, rfl, _, hc⟩ := R9.at_ hlt2
          have Ht := Lib.hid (anyEq_take_succ hlt2 a)
          obtain ⟨z, hz⟩ : ∃ z, R[m] = z := ⟨_, rfl⟩
          rw [hz] at hc
          have Hz := Lib.hid hz
          clear hz
          obtain ⟨q, hq⟩ : ∃ q, (s || (R.take m).any fun z => z == a) = q := ⟨_, rfl⟩
          rw [hq]
          have Hq := Lib.hid hq
          clear hq
          cases q
          all_goals
            go_wp2_with fail
            go_round
            case rel => exact ⟨m + 1, by omega, by go_num, by rw [Ht.out, Hz.out, ← Bool.or_assoc, Hq.out]; rfl⟩
            case measure => simp [intOf]; omega
        · obtain rfl : m = R.length := by omega
          rw [List.take_length, ← H1n.out]
          obtain ⟨s1, hs1⟩ : ∃ s1, arF L x (n + 1) = s1 := ⟨_, rfl⟩
          rw [hs1]
          have Hs1 := Lib.hid hs1
          clear hs1
          go_wp2_with fail
          go_loop [15, 14] (fun j v' => ∃ m : Nat, m ≤ L.length ∧ j = .int .i64 m ∧ v' = .int .i64 ((lkp (L.take m) a).getD a)) (fun j _ => L.length - (intOf j).toNat)
          case atStart => exact ⟨0, Nat.zero_le _, rfl, rfl⟩
          case round =>
            obtain ⟨m, hm, rfl, rfl⟩ := hrel
            by_cases hlt3 : m < L.length
            · obtain ⟨ad, rfl, _, hc1, hc2⟩ := RL.at_ hlt3
              have Hn := Lib.hid (nextF_succ HR.out hlt3 a)
              by_cases he : L[m].1 = a
              · have hb1 : (L[m].1 == a) = true := by simp [he]
                have E := Lib.hid (Hn.out.trans (if_pos he))
                clear he Hn
                go_wp2_with fail
                go_round
                case rel => exact ⟨m + 1, by omega, by go_num, by rw [E.out]⟩
                case measure => simp [intOf]; omega
              · have hb1 : (L[m].1 == a) = false := by simp [he]
                have E := Lib.hid (Hn.out.trans (if_neg he))
                clear he Hn
                go_wp2_with fail
                go_round
                case rel => exact ⟨m + 1, by omega, by go_num, by rw [E.out]⟩
                case measure => simp [intOf]; omega
            · obtain rfl : m = L.length := by omega
              rw [List.take_length, H2n.out]
              obtain ⟨y, hy⟩ : ∃ y, seqF L x (n + 1) = y := ⟨_, rfl⟩
              rw [hy]
              have Hy := Lib.hid hy
              clear hy
              have fin : Hid (n + 1 ≤ L.length + 1 ∧ Value.bool s1 = .bool (arF L x (n + 1)) ∧ Value.int .i64 y = .int .i64 (seqF L x (n + 1))) := Lib.hid ⟨by omega, by rw [Hs1.out], by rw [Hy.out]⟩
              by_cases hya : y = a
              · have e1 : (y == a) = true := by simp [hya]
                have e2 : (y != a) = false := by simp [hya]
                have HS : Hid (b = false → s1 = true) := Lib.hid (fun h => by
                  have hb := HB.out
                  rw [h] at hb
                  have hN : endF L (L.length + 1) x = none := by
                    cases he : endF L (L.length + 1) x with
                    | none => rfl
                    | some e => rw [he] at hb; cases hb
                  have := seqF_self HR.out hN (n := n) (by rw [Hy.out, Ha.out, hya])
                  rw [Ha.out, HO.out] at this
                  rw [← Hs1.out, H1n.out, this]
                  simp)
                clear hya
                cases b
                · obtain rfl := HS.out rfl
                  go_wp2_with fail
                  go_round
                  case rel => exact ⟨n + 1, fin.out.1, by go_num, fin.out.2.1, fin.out.2.2⟩
                  case measure => simp [intOf]; omega
                · go_wp2_with fail
                  go_round
                  case rel => exact ⟨n + 1, fin.out.1, by go_num, fin.out.2.1, fin.out.2.2⟩
                  case measure => simp [intOf]; omega
              · have e1 : (y == a) = false := by simp [hya]
                have e2 : (y != a) = true := by simp [hya]
                have HS : Hid (b = true → ((n : Int) == (L.length : Int)) = false) := Lib.hid (fun h => by
                  rw [beq_eq_false_iff_ne]
                  intro hnl
                  have hnl' : n = L.length := by omega
                  have hb := HB.out
                  rw [h] at hb
                  obtain ⟨e, he⟩ := Option.isSome_iff_exists.1 hb
                  have h1 := seqF_ends he
                  have h2 := hnx.out n
                  rw [Ha.out, Hy.out] at h2
                  rw [← hnl', Ha.out] at h1
                  rw [h1, endF_end he] at h2
                  exact hya (by rw [← h2, h1]; rfl))
                clear hya
                cases b
                · go_wp2_with fail
                  go_round
                  case rel => exact ⟨n + 1, fin.out.1, by go_num, fin.out.2.1, fin.out.2.2⟩
                  case measure => simp [intOf]; omega
                · have hnl := HS.out rfl
                  go_wp2_with fail
                  go_round
                  case rel => exact ⟨n + 1, fin.out.1, by go_num, fin.out.2.1, fin.out.2.2⟩
                  case measure => simp [intOf]; omega
    · obtain rfl : n = L.length + 1 := by omega
      go_wp2_with fail
      refine (iForwardLine_any A c L v w9 RL hn).mono ?_
      rintro e w10 ⟨rfl, hbel10⟩
      have B10 := B9.trans (hbel10.mono B9.size)
      cases b
      · have hN : endF L (L.length + 1) x = none := by
          have hb := HB.out
          cases he : endF L (L.length + 1) x with
          | none => rfl
          | some e => rw [he] at hb; cases hb
        rw [arF_never HR.out hN]
        clear hN
        go_wp2_with fail
        go_ret
        exact ⟨rfl, B10⟩
      · obtain ⟨e, he⟩ := Option.isSome_iff_exists.1 HB.out
        have hve : v = e := by rw [← HV.out, he]; rfl
        subst hve
        have hl := endF_end he
        have hs : seqF L x (L.length + 1) = v := by
          show (lkp L (seqF L x L.length)).getD (seqF L x L.length) = v
          rw [seqF_ends he, hl]
          rfl
        have hvr := endF_range HR.out ⟨x0, x6⟩ he
        have hag : flV L v = v := by
          unfold flV
          rw [HR.out, inB_true.2 hvr, endF_stop hl]
          rfl
        rw [arF_ends he, hs, hag]
        have hvv : (v == v) = true := by simp
        clear he hl hs hag
        go_wp2_with fail
        go_ret
        exact ⟨rfl, B10⟩
end Go.Proofs.Ytelaeepkajbfnaa
