/-
  What FreeLines of the program and of the reference returns.
-/
import Derived.Test.YtbihnjfckaeioaaField3
namespace Go.Proofs.Ytbihnjfckaeioaa
open Go.RowKit
set_option linter.unusedSimpArgs false
set_option linter.unusedVariables false

/-- the lines from 1 to k that no plug leads to -/
def freeTo (l : List Int) (k : Nat) : List Int := ((List.range k).map fun (i : Nat) => (i : Int) + 1).filter fun x => (posOf l x).isEmpty
def freeB (l : List Int) (n : Int) : Bool := fieldB l && inB n 1 6
def freeL (l : List Int) (n : Int) : List Int := if freeB l n = true then freeTo l n.toNat else []
theorem freeTo_succ (l : List Int) (k : Nat) : freeTo l (k + 1) = freeTo l k ++ (if posOf l ((k : Int) + 1) = [] then [(k : Int) + 1] else []) := by
  unfold freeTo
  rw [List.range_succ, List.map_append, List.filter_append]
  congr 1
  cases h : posOf l ((k : Int) + 1) <;> simp [h]
theorem freeTo_len (l : List Int) (k : Nat) : (freeTo l k).length ≤ k := by
  unfold freeTo
  refine Nat.le_trans (List.length_filter_le _ _) ?_
  simp
theorem freeL_len {l : List Int} {n : Int} : (freeL l n).length ≤ 1048576 := by
  unfold freeL
  split
  · rename_i h
    have := freeTo_len l n.toNat
    simp [freeB] at h
    have := inB_true.1 h.2
    omega
  · simp
theorem sFreeLines_any (A : Option Addr) (c : Nat) (l : List Int) (n : Int) (w : World) (h : RI w w.heap.size A l) (hn : l.length ≤ 1048576) :
    Calls Try.prog 27 #[.slice A l.length c, .int .i64 n] w (OwnInts w (freeL l n)) := by
  cases hf : fieldB l
  · have hl : freeL l n = [] := by simp [freeL, freeB, hf]
    rw [hl]
    clear hl
    go_enter Try.func27, Try.ntmps27
    go_wp2_with fail
    go_loopw [6, 5] (fun i v wr => i = .int .i64 1 ∧ v = .slice (some ⟨w.heap.size, 0, none⟩) 0 0 ∧ wr = w.alloc (.cells #[] 3)) (fun _ _ _ => 0)
    case atStart => exact ⟨rfl, rfl, rfl⟩
    case round =>
      obtain ⟨rfl, rfl, rfl⟩ := hrel
      go_wp2_with (go_at_call 34; refine (sFieldValid_any _ _ l _ _ (h.alloc_ _) hn).mono ?_; rintro e w' ⟨rfl, rfl⟩)
      go_ret
      exact OwnInts.mk_ (l := []) (ownsRow_empty' w) ((Below.refl _ _).alloc (Nat.le_refl _) _)
  cases hx : inB n 1 6
  · have hl : freeL l n = [] := by simp [freeL, freeB, hx]
    rw [hl]
    clear hl
    go_enter Try.func27, Try.ntmps27
    go_wp2_with fail
    go_loopw [6, 5] (fun i v wr => i = .int .i64 1 ∧ v = .slice (some ⟨w.heap.size, 0, none⟩) 0 0 ∧ wr = w.alloc (.cells #[] 3)) (fun _ _ _ => 0)
    case atStart => exact ⟨rfl, rfl, rfl⟩
    case round =>
      obtain ⟨rfl, rfl, rfl⟩ := hrel
      go_wp2_with fail
      refine (sFieldValid_any _ _ l _ _ (h.alloc_ _) hn).mono ?_
      rintro e w' ⟨rfl, rfl⟩
      go_wp2_with fail
      refine (l1In_any _ _ _ _).mono ?_
      rintro e w' ⟨rfl, rfl⟩
      go_wp2_with fail
      go_ret
      exact OwnInts.mk_ (l := []) (ownsRow_empty' w) ((Below.refl _ _).alloc (Nat.le_refl _) _)
  have hl : freeL l n = freeTo l n.toNat := by simp [freeL, freeB, hx, hf]
  rw [hl]
  clear hl
  obtain ⟨n1, n6⟩ := inB_true.1 hx
  obtain ⟨m, rfl⟩ := Int.eq_ofNat_of_zero_le (show 0 ≤ n by omega)
  rw [Int.toNat_natCast]
  obtain ⟨ii0, hii, hz0, hz1, hz2⟩ := info_parts int_info
  go_enter Try.func27, Try.ntmps27
  go_wp2_with fail
  go_loopw [6, 5] (fun i v wr => ∃ k : Nat, k ≤ m ∧ i = .int .i64 ((k : Int) + 1) ∧ wr.ownsRow w.heap.size 3 1 v (freeTo l k).length (ints (freeTo l k)) ∧ Below w.heap.size w wr) (fun i _ _ => 8 - (intOf i).toNat)
  case atStart => exact ⟨0, Nat.zero_le _, rfl, ownsRow_empty' w, (Below.refl _ _).alloc (Nat.le_refl _) _⟩
  case round =>
    obtain ⟨k, hk, rfl, ho, hbel⟩ := hrel
    have hR : RI wr wr.heap.size A l := (h.below hbel).more hbel.size
    by_cases hlt : k < m
    · have hle := freeTo_len l k
      have Hs := Lib.hid (freeTo_succ l k)
      go_wp2_with fail
      refine (sFieldValid_any _ _ l _ _ hR hn).mono ?_
      rintro e w' ⟨rfl, rfl⟩
      go_wp2_with fail
      refine (l1In_any _ _ _ _).mono ?_
      rintro e w' ⟨rfl, rfl⟩
      go_wp2_with fail
      refine (l2Plugs_any A c l _ wr hR hn).mono ?_
      rintro e w1 ⟨A1, c1, rfl, o1, hbel1⟩
      have ho1 := own_below ho hbel1
      have B1 := hbel.trans (hbel1.mono hbel.size)
      have hbs := B1.size
      clear o1 hR
      by_cases he : posOf l ((k : Int) + 1) = []
      · have h1 : (((posOf l ((k : Int) + 1)).length : Int) == 0) = true := by simp [he]
        have He := Lib.hid he
        clear he
        have hv : ∀ q, u5.ownBlock = some q → w.heap.size ≤ q := fun q hq => (ho1.lt q hq).1
        go_wp2_with (at_builtin; refine wpList_append_own_at _ rfl _ _ 23 rfl w.heap.size 3 ii0 (.int .i64 0) 1 8 Try.underlying23 hii hz0 hz1 hz2 rfl (by decide) u5 _ _ rfl (ho1.alloc _) ⟨w1.heap.size, 0, none⟩ 1 1 [.int .i64 ((k : Int) + 1)] rfl rfl (cell_one_new _ _ _) (ints_oneCell .i64 [(k : Int) + 1]) ?_ ?_ ?_ ?_; (unfold maxLen; omega); omega; (simp; omega); intro v' w2 hown' hgrow hnil hloc)
        go_roundw
        case rel => exact ⟨k + 1, by omega, by go_num, by rw [Hs.out, if_pos He.out]; simpa [ints] using hown', below_of_grown B1 hgrow hbs hv⟩
        case measure => simp [intOf]; omega
      · have h1 : (((posOf l ((k : Int) + 1)).length : Int) == 0) = false := by
          rw [beq_eq_false_iff_ne]
          intro e
          exact he (List.eq_nil_of_length_eq_zero (by omega))
        have He := Lib.hid he
        clear he
        go_wp2
        go_roundw
        case rel => exact ⟨k + 1, by omega, by go_num, by rw [Hs.out, if_neg He.out, List.append_nil]; exact ho1, B1⟩
        case measure => simp [intOf]; omega
    · obtain rfl : k = m := by omega
      go_wp2_with fail
      refine (sFieldValid_any _ _ l _ _ hR hn).mono ?_
      rintro e w' ⟨rfl, rfl⟩
      go_wp2_with fail
      refine (l1In_any _ _ _ _).mono ?_
      rintro e w' ⟨rfl, rfl⟩
      go_wp2_with fail
      go_ret
      exact OwnInts.mk_ ho hbel
/-- is there something at the channel? -/
def mhas (w : World) (b : Nat) (r : Option Nat) : Bool := (mget w b r).isSome
@[go_sem] theorem look_grp_ok {w : World} {b : Nat} (h : mcm w b = true) (r : Option Nat) : (Instr.lookup 54 (.map (some b)) (.chan r) true).run Try.prog w = .ok (.tuple #[mgetD w b r, .bool (mhas w b r)]) w := by
  rw [run_lookup_ch Try.underlying54 Try.underlying51 (zero_ints w) h r true]
  unfold mgetD mhas
  cases mget w b r <;> rfl
theorem iFreeLines_any (A : Option Addr) (c : Nat) (l : List Int) (n : Int) (w : World) (h : RI w w.heap.size A l) (hn : l.length ≤ 1048576) :
    Calls Try.prog 23 #[.slice A l.length c, .int .i64 n] w (OwnInts w (freeL l n)) := by
  cases hf : fieldB l
  · have hl : freeL l n = [] := by simp [freeL, freeB, hf]
    rw [hl]
    clear hl
    go_enter Try.func23, Try.ntmps23
    go_wp2_with (go_at_call 22; refine (iFieldValid_any _ _ l _ _ h hn).mono ?_; rintro e w' ⟨rfl, rfl⟩)
    go_ret
    exact OwnInts.mk_ (l := []) (World.ownsRow_nil _ _ _ _) (Below.refl _ _)
  cases hx : inB n 1 6
  · have hl : freeL l n = [] := by simp [freeL, freeB, hx]
    rw [hl]
    clear hl
    have hx' := inB_false.1 hx
    by_cases h1 : n < 1
    all_goals
      have h6 : 1 ≤ n → 6 < n := by omega
      go_enter Try.func23, Try.ntmps23
      go_wp2_with (go_at_call 22; refine (iFieldValid_any _ _ l _ _ h hn).mono ?_; rintro e w' ⟨rfl, rfl⟩)
      all_goals (first | omega | (go_ret; exact OwnInts.mk_ (l := []) (World.ownsRow_nil _ _ _ _) (Below.refl _ _)))
  have hl : freeL l n = freeTo l n.toNat := by simp [freeL, freeB, hx, hf]
  rw [hl]
  clear hl
  obtain ⟨n1, n6⟩ := inB_true.1 hx
  obtain ⟨hn20, hval⟩ := fieldB_true hf
  obtain ⟨m, rfl⟩ := Int.eq_ofNat_of_zero_le (show 0 ≤ n by omega)
  rw [Int.toNat_natCast]
  obtain ⟨ii0, hii, hz0, hz1, hz2⟩ := info_parts int_info
  go_enter Try.func23, Try.ntmps23
  go_wp2_with fail
  refine (iFieldValid_any _ _ l _ _ h hn).mono ?_
  rintro e w' ⟨rfl, rfl⟩
  go_wp2_with fail
  refine (newPatchboard_any A c l w h hn20 hval).mono ?_
  rintro e w1 ⟨S, L, M, G, ch, rfl, hbd, g1, g2, g3, g4, hbel⟩
  go_wp2_with fail
  refine (groups_any S L M G ch l w1 hbd hn20).mono ?_
  rintro e w2 ⟨b, rfl, hb2, hgr, hbel2⟩
  have hbd2 := hbd.keep hbel2
  have Hgr := Lib.hid hgr
  have Hbd := Lib.hid hbd2
  have B2 := hbel.trans (hbel2.mono hbel.size)
  have bl := mcm_lt hgr.hcm
  clear hgr hbd hbd2 h
  go_wp2_with fail
  go_loopw [8, 7, 9, 10] (fun i v _ _ wr => ∃ k : Nat, k ≤ m ∧ i = .int .i64 ((k : Int) + 1) ∧ wr.ownsRow w2.heap.size 3 1 v (freeTo l k).length (ints (freeTo l k)) ∧ Below w2.heap.size w2 wr) (fun i _ _ _ _ => 8 - (intOf i).toNat)
  case atStart => exact ⟨0, Nat.zero_le _, rfl, ownsRow_empty' w2, (Below.refl _ _).alloc (Nat.le_refl _) _⟩
  case round =>
    obtain ⟨k, hk, rfl, ho, hbl⟩ := hrel
    by_cases hlt : k < m
    · have hle := freeTo_len l k
      have Hs := Lib.hid (freeTo_succ l k)
      have hbd := Hbd.out.keep hbl
      have c0 := hbd.s0
      have cl := hbd.line (x := (k : Int) + 1) (by omega) (by omega)
      rw [show ((k : Int) + 1).toNat = k + 1 by omega] at cl
      have cm : mcm wr b = true := (mcm_below hbl bl).trans Hgr.out.hcm
      have hg : mget wr b (ch ((k : Int) + 1)) = mget w2 b (ch ((k : Int) + 1)) := mget_below hbl bl
      have E0 : posOf (l.map ch) (ch ((k : Int) + 1)) = posOf l ((k : Int) + 1) := posOf_map ch l _ fun y hy => hbd.eq_iff (hval y hy) ⟨by omega, by omega⟩
      have hbs := hbl.size
      clear hbd
      by_cases he : posOf l ((k : Int) + 1) = []
      · have h1 : mhas wr b (ch ((k : Int) + 1)) = false := by
          unfold mhas
          rw [hg, Hgr.out.none_ _ (E0.trans he)]
          rfl
        have He := Lib.hid he
        clear he hg E0
        have hv : ∀ q, u7.ownBlock = some q → w2.heap.size ≤ q := fun q hq => (ho.lt q hq).1
        go_wp2_with (at_builtin; refine wpList_append_own_at _ rfl _ _ 23 rfl w2.heap.size 3 ii0 (.int .i64 0) 1 8 Try.underlying23 hii hz0 hz1 hz2 rfl (by decide) u7 _ _ rfl (ho.alloc _) ⟨wr.heap.size, 0, none⟩ 1 1 [.int .i64 ((k : Int) + 1)] rfl rfl (cell_one_new _ _ _) (ints_oneCell .i64 [(k : Int) + 1]) ?_ ?_ ?_ ?_; (unfold maxLen; omega); omega; (simp; omega); intro v' w3 hown' hgrow hnil hloc)
        go_roundw
        case rel => exact ⟨k + 1, by omega, by go_num, by rw [Hs.out, if_pos He.out]; simpa [ints] using hown', below_of_grown hbl hgrow hbs hv⟩
        case measure => simp [intOf]; omega
      · have h1 : mhas wr b (ch ((k : Int) + 1)) = true := by
          unfold mhas
          obtain ⟨v, hv, _⟩ := Hgr.out.some_ (ch ((k : Int) + 1)) (fun e => he (E0.symm.trans e))
          rw [hg, hv]
          rfl
        have He := Lib.hid he
        clear he hg E0
        go_wp2
        go_roundw
        case rel => exact ⟨k + 1, by omega, by go_num, by rw [Hs.out, if_neg He.out, List.append_nil]; exact ho, hbl⟩
        case measure => simp [intOf]; omega
    · obtain rfl : k = m := by omega
      go_wp2
      go_ret
      exact OwnInts.mk_ (own_mono ho B2.size) (B2.trans (hbl.mono B2.size))
end Go.Proofs.Ytbihnjfckaeioaa
