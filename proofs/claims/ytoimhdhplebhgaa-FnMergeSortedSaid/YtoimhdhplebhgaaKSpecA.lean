/-
  The reference's MergeAround.
-/
import Derived.Test.YtoimhdhplebhgaaG10
namespace Go.Proofs.Ytoimhdhplebhgaa
open Go.RowKit
set_option linter.unusedSimpArgs false
set_option linter.unusedVariables false

/-- What is out before list i is asked in round k. -/
def sTo (M : List (List Int)) (k i : Nat) : List Int := (List.range k).flatMap (rowK M) ++ (M.take i).flatMap fun l => (l.drop k).take 1
theorem sTo_zero (M : List (List Int)) : sTo M 0 0 = [] := by simp [sTo]
theorem sTo_round (M : List (List Int)) (k : Nat) : sTo M (k + 1) 0 = sTo M k M.length := by simp [sTo, List.range_succ, rowK]
theorem sTo_yes {M : List (List Int)} {k i : Nat} (hi : i < M.length) (hk : k < M[i].length) : sTo M k (i + 1) = sTo M k i ++ [M[i][k]] := by
  unfold sTo
  rw [take_snoc M i hi, List.flatMap_append, ← List.append_assoc]
  congr 1
  simp only [List.flatMap_cons, List.flatMap_nil, List.append_nil]
  rw [List.drop_eq_getElem_cons hk]
  rfl
theorem sTo_no {M : List (List Int)} {k i : Nat} (hi : i < M.length) (hk : M[i].length ≤ k) : sTo M k (i + 1) = sTo M k i := by
  unfold sTo
  rw [take_snoc M i hi, List.flatMap_append]
  simp only [List.flatMap_cons, List.flatMap_nil, List.append_nil]
  rw [List.drop_eq_nil_of_le hk]
  simp
theorem sTo_len (M : List (List Int)) (k i : Nat) : (sTo M k i).length ≤ k * M.length + i := by
  have h1 : ∀ (L : List (List Int)), (L.flatMap fun l => (l.drop k).take 1).length ≤ L.length := fun L => by
    induction L with
    | nil => simp
    | cons x L ih =>
      rw [List.flatMap_cons, List.length_append, List.length_cons]
      have : ((x.drop k).take 1).length ≤ 1 := by rw [List.length_take]; omega
      omega
  have h2 : ((List.range k).flatMap (rowK M)).length ≤ k * M.length := by
    induction k with
    | zero => simp
    | succ k ih =>
      rw [List.range_succ, List.flatMap_append, List.length_append, Nat.succ_mul]
      have h3 : ∀ (L : List (List Int)), (rowK L k).length ≤ L.length := fun L => by
        induction L with
        | nil => simp [rowK]
        | cons x L ih2 =>
          unfold rowK at *
          rw [List.flatMap_cons, List.length_append, List.length_cons]
          have : ((x.drop k).take 1).length ≤ 1 := by rw [List.length_take]; omega
          omega
      have h4 := h3 M
      have h5 : ((List.range k).flatMap (rowK M)).length ≤ k * M.length := by
        refine ih ?_
        intro L
        induction L with
        | nil => simp
        | cons x L ih =>
          rw [List.flatMap_cons, List.length_append, List.length_cons]
          have : ((x.drop k).take 1).length ≤ 1 := by rw [List.length_take]; omega
          omega
      simp only [List.flatMap_cons, List.flatMap_nil, List.append_nil]
      omega
  have h6 := h1 (M.take i)
  have h7 : (M.take i).length ≤ i := by rw [List.length_take]; omega
  unfold sTo
  rw [List.length_append]
  omega
set_option maxHeartbeats 4000000 in
theorem sMergeAround_any (A : Option Addr) (c : Nat) (M : List (List Int)) (V : List Value) (base : Nat) (w : World) (h : OII w base (.slice A M.length c) V M) (hn : M.length ≤ 1048576) (hn2 : ∀ l ∈ M, l.length ≤ 1048576) :
    Calls Try.prog 9 #[.slice A M.length c] w (OwnInts2 w (aL M) (listsB M)) := by
  have hb1 : Below w.heap.size w (w.alloc (.cells #[] 3)) := (Below.refl _ _).alloc (Nat.le_refl _) _
  have hlv := l5Lists_any A c M V base (w.alloc (.cells #[] 3)) (h.below hb1) hn hn2
  cases hv : listsB M
  · rw [hv] at hlv
    have e : aL M = [] := by simp [aL, hv]
    rw [e]
    clear hv e h hn2
    go_enter Try.func9, Try.ntmps9
    go_wp2_with fail
    refine hlv.mono ?_
    rintro e w' ⟨rfl, rfl⟩
    go_wp2_with fail
    go_ret2
    exact OwnInts2.mk_ (ownsRow_empty' w) hb1
  rw [hv] at hlv
  obtain ⟨h6, h40⟩ := listsB_true hv
  have E : Hid (aL M = sTo M 40 0) := Lib.hid (by simp [aL, hv, aroundL_eq h40, sTo])
  rw [E.out]
  clear hv
  obtain ⟨i0, hi, hz0, hz1, hz2⟩ := info_parts int_info
  go_enter Try.func9, Try.ntmps9
  go_wp2_with fail
  refine hlv.mono ?_
  rintro e w' ⟨rfl, rfl⟩
  clear hlv
  go_wp2_with fail
  go_loopw [4, 5] (fun v i wr => ∃ k : Nat, k ≤ 40 ∧ i = .int .i64 k ∧ wr.ownsRow w.heap.size 3 1 v (sTo M k 0).length (ints (sTo M k 0)) ∧ Below w.heap.size w wr) (fun _ i _ => 40 - (intOf i).toNat)
  case atStart => exact ⟨0, Nat.zero_le _, rfl, by rw [sTo_zero]; exact ownsRow_empty' w, hb1⟩
  case round =>
    obtain ⟨k, hk, rfl, hown, hbel⟩ := hrel
    by_cases hk40 : k < 40
    · have hR := Lib.hid (sTo_round M k)
      have hk40' : (k : Int) < 40 := by omega
      have Hown := Lib.hid hown
      clear hown
      go_wp2_with fail
      go_loopw [4, 6] (fun v i wx => ∃ j : Nat, j ≤ M.length ∧ i = .int .i64 j ∧ wx.ownsRow w.heap.size 3 1 v (sTo M k j).length (ints (sTo M k j)) ∧ Below w.heap.size w wx) (fun _ i _ => M.length - (intOf i).toNat)
      case atStart => exact ⟨0, Nat.zero_le _, rfl, Hown.out, hbel⟩
      case round =>
        obtain ⟨j, hj, rfl, hownj, hbelj⟩ := hrel
        clear hbel Hown
        have hs := hbelj.size
        by_cases hlt : j < M.length
        · obtain ⟨ad, A1, c1, rfl, hb, hc1, _, hr1⟩ := (h.below hbelj).at_ hlt
          have hn1 := h40 M[j] (List.getElem_mem _)
          have hlen := sTo_len M k j
          have hlen2 : k * M.length ≤ 40 * 6 := Nat.mul_le_mul (by omega) h6
          have R1 := RI.of_own hr1
          by_cases hkl : k < M[j].length
          · have Hy := Lib.hid (sTo_yes hlt hkl)
            obtain ⟨ar, rfl, hbr, hcr⟩ := R1.at_ hkl
            obtain ⟨y, hy⟩ : ∃ y, M[j][k] = y := ⟨_, rfl⟩
            rw [hy] at hcr Hy
            obtain ⟨n, hnl⟩ : ∃ n, M[j].length = n := ⟨_, rfl⟩
            rw [hnl] at hc1 hkl hn1
            obtain ⟨L, hL⟩ : ∃ L, sTo M k j = L := ⟨_, rfl⟩
            rw [hL] at hownj Hy hlen
            clear hy hnl hL hr1 R1 h h40
            have hv : ∀ q, u4.ownBlock = some q → w.heap.size ≤ q := fun q hq => (hownj.lt q hq).1
            go_wp2_with (at_builtin; refine wpList_append_own_at _ rfl _ _ 25 rfl w.heap.size 3 i0 (.int .i64 0) 1 8 Try.underlying25 hi hz0 hz1 hz2 rfl (by decide) u4 _ _ rfl (hownj.alloc _) ⟨wr.heap.size, 0, none⟩ 1 1 [.int .i64 y] rfl rfl (cell_one_new _ _ _) (by intro u hu; obtain rfl := List.mem_singleton.1 hu; rfl) ?_ ?_ ?_ ?_; (unfold maxLen; omega); omega; (simp; omega); intro v' w3 hown' hgrow hnil hloc)
            have ho : w3.ownsRow w.heap.size 3 1 v' (L ++ [y]).length (ints (L ++ [y])) := by simpa [ints] using hown'
            go_roundw
            case rel => exact ⟨j + 1, by omega, by go_num, by rw [Hy.out]; exact ho, below_of_grown hbelj hgrow (by omega) hv⟩
            case measure => simp [intOf]; omega
          · have Hno := Lib.hid (sTo_no hlt (show M[j].length ≤ k by omega))
            obtain ⟨n, hnl⟩ : ∃ n, M[j].length = n := ⟨_, rfl⟩
            rw [hnl] at hc1 hkl hn1
            clear hnl hr1 R1 h h40
            go_wp2
            go_roundw
            case rel => exact ⟨j + 1, by omega, by go_num, by rw [Hno.out]; exact hownj, hbelj⟩
            case measure => simp [intOf]; omega
        · obtain rfl : j = M.length := by omega
          clear h h40
          go_wp2
          go_roundw
          case rel => exact ⟨k + 1, by omega, by go_num, by rw [hR.out]; exact hownj, hbelj⟩
          case measure => simp [intOf]; omega
    · obtain rfl : k = 40 := by omega
      have Hown := Lib.hid hown
      clear hown h h40
      go_wp2
      go_ret2
      exact OwnInts2.mk_ Hown.out hbel
end Go.Proofs.Ytoimhdhplebhgaa
