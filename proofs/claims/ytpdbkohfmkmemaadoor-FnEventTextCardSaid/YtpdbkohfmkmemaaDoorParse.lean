/-
  The library under the program's parsing: strings.Split at one byte; parseNumber.
-/
import Derived.Test.YtpdbkohfmkmemaaDoorFmt
import Derived.Lib.IndexBytes
import Derived.Lib.AtoiBound
import Derived.Lib.SlicesS
namespace Go.Proofs.YtpdbkohfmkmemaaDoor
open Go.RowKit Go.Shelf
set_option linter.unusedSimpArgs false
set_option linter.unusedVariables false

theorem indexB_one (x : ByteArray) (c : UInt8) : Lib.indexB x ⟨#[c]⟩ = Lib.indexByte x.data.toList c := by
  show Lib.index x.data.toList [c] = _
  exact Lib.index_one _ _
theorem countB_one (x : ByteArray) (c : UInt8) : Lib.countB x ⟨#[c]⟩ = Lib.countByte x.data.toList c := by
  show Lib.count x.data.toList [c] = _
  rw [Lib.count_one]
  rfl
section
variable {P : Program} {ρ : Ren}
theorem genSplit1 (L : Lays.n221 P ρ) (hi9 : (P.info? (ρ.t 9)).map (fun i => (i.zero, i.size, i.bytes)) = some (some (.string ByteArray.empty), 1, 16)) (s : ByteArray) (c : UInt8) (w : World) (hs : s.size < 4294967281) :
    Calls P (ρ.f 221) #[.string s, .string ⟨#[c]⟩, .int .i64 0, .int .i64 (-1)] w fun e w' =>
      e = .returned (.slice (some ⟨w.heap.size, 0, none⟩) (Lib.splitB ⟨#[c]⟩ 0 (Lib.countB s ⟨#[c]⟩) s).length (Lib.countB s ⟨#[c]⟩ + 1)) ∧ w' = w.alloc (.cells (Lib.cellsOf (Lib.splitB ⟨#[c]⟩ 0 (Lib.countB s ⟨#[c]⟩) s) (Lib.countB s ⟨#[c]⟩ + 1)) (ρ.t 9)) := by
  have h1 : 1 ≤ (⟨#[c]⟩ : ByteArray).size := Nat.le_refl 1
  have hle := Lib.countB_le ⟨#[c]⟩ h1 s.size s (Nat.le_refl _)
  exact Any.strings_genSplit_core L hi9 s ⟨#[c]⟩ 0 (-1) (Lib.countB s ⟨#[c]⟩ + 1) w hs h1 (Nat.zero_le _)
    (fun x k hx => (Any.strings_Index_one { L with } x c _).mono fun e w' ⟨he, hw⟩ => ⟨by rw [he, indexB_one], hw⟩)
    ((Any.strings_Count_one { L with } s c w).mono fun e w' ⟨he, hw⟩ => ⟨by rw [he, countB_one], hw⟩) (by decide) (by decide) (by rw [if_pos (by decide)]; omega)
set_option maxHeartbeats 1000000 in
theorem split1 (L : Lays.n146 P ρ) (hi9 : (P.info? (ρ.t 9)).map (fun i => (i.zero, i.size, i.bytes)) = some (some (.string ByteArray.empty), 1, 16)) (s : ByteArray) (c : UInt8) (w : World) (hs : s.size < 4294967281) :
    Calls P (ρ.f 146) #[.string s, .string ⟨#[c]⟩] w fun e w' =>
      e = .returned (.slice (some ⟨w.heap.size, 0, none⟩) (Lib.countB s ⟨#[c]⟩ + 1) (Lib.countB s ⟨#[c]⟩ + 1)) ∧ w' = w.alloc (.cells ((Lib.splitB ⟨#[c]⟩ 0 (Lib.countB s ⟨#[c]⟩) s).map Value.string).toArray (ρ.t 9)) := by
  have h1 : 1 ≤ (⟨#[c]⟩ : ByteArray).size := Nat.le_refl 1
  have hle := Lib.countB_le ⟨#[c]⟩ h1 s.size s (Nat.le_refl _)
  have hlen := Lib.splitB_all ⟨#[c]⟩ h1 0 _ s rfl
  have k := genSplit1 { L with } hi9 s c w hs
  rw [hlen] at k
  have e2 : Lib.cellsOf (Lib.splitB ⟨#[c]⟩ 0 (Lib.countB s ⟨#[c]⟩) s) (Lib.countB s ⟨#[c]⟩ + 1) = ((Lib.splitB ⟨#[c]⟩ 0 (Lib.countB s ⟨#[c]⟩) s).map Value.string).toArray := by rw [← hlen]; exact Lib.cellsOf_full _
  rw [e2] at k
  have t3 := L.t3; have t9 := L.t9; have t31 := L.t31
  have a3 := L.a3; have a9 := L.a9; have a31 := L.a31
  have z3 := L.z3; have v3 := L.v3; have z9 := L.z9; have v9 := L.v9; have z31 := L.z31; have v31 := L.v31
  have e221 : ∀ args w, (callFunc (ρ.f 221) args).run P w = .ok (.enter (ρ.f 221) args) w := enters_of L.f221 (by kernel_rfl) rfl
  go_enter L.f146, Body.n146_ntmps ρ
  go_wp2_with (go_at_fn (ρ.f 221); refine k.mono ?_; rintro e w' ⟨rfl, hw⟩; rw [hw])
  go_ret
  exact ⟨rfl, rfl⟩
end
/-- the pieces between spaces -/
def piecesB (s : ByteArray) : List ByteArray := Lib.splitB ⟨#[32]⟩ 0 (Lib.countB s ⟨#[32]⟩) s
theorem split_any (s : ByteArray) (w : World) (hs : s.size ≤ 1048576) :
    Calls Tryd.prog 32 #[.string s, .string ⟨#[32]⟩] w fun e w' =>
      e = .returned (.slice (some ⟨w.heap.size, 0, none⟩) (piecesB s).length (piecesB s).length) ∧ w' = w.alloc (.cells ((piecesB s).map Value.string).toArray 9) := by
  have hlen : (piecesB s).length = Lib.countB s ⟨#[32]⟩ + 1 := Lib.splitB_all ⟨#[32]⟩ (Nat.le_refl 1) 0 _ s rfl
  rw [hlen]
  exact split1 Tryd.lays146 (by kernel_rfl) s 32 w (by omega)
/-- the variable that Atoi's error bears -/
def ErrIs (w : World) : Prop := ∃ tp p, w.var? Tryd.prog "strconv.ErrSyntax" = some #[.iface tp p]
theorem ErrIs.below {w w' : World} (h : ErrIs w) (hb : Below w.heap.size w w') : ErrIs w' := let ⟨tp, p, h⟩ := h; ⟨tp, p, var_below h hb⟩
def trimM (s : ByteArray) : ByteArray := ⟨(Lib.trimPrefix s.data.toList [45]).toArray⟩
/-- a number in a text, by the program -/
def numI (s : ByteArray) : Int × Bool :=
  if (trimM s).size = 0 ∨ 17 < (trimM s).size then (0, false) else
  match Lib.atoi s.data.toList with
  | none => (0, false)
  | some n => if itoS n = s then (n, true) else (0, false)
theorem numI_empty {s : ByteArray} (h : (trimM s).size = 0) : numI s = (0, false) := by unfold numI; rw [if_pos (.inl h)]
theorem numI_long {s : ByteArray} (h : 17 < (trimM s).size) : numI s = (0, false) := by unfold numI; rw [if_pos (.inr h)]
theorem numI_none {s : ByteArray} (h : Lib.atoi s.data.toList = none) : numI s = (0, false) := by
  unfold numI
  rw [h]
  split <;> rfl
theorem numI_some {s : ByteArray} {n : Int} (h0 : ¬ (trimM s).size = 0) (h1 : ¬ 17 < (trimM s).size) (h : Lib.atoi s.data.toList = some n) : numI s = if itoS n = s then (n, true) else (0, false) := by
  unfold numI
  rw [if_neg (by omega), h]
theorem trim_len (s : ByteArray) : s.size ≤ (trimM s).size + 1 := by
  have e : s.size = s.data.toList.length := (Array.length_toList).symm
  have e2 : (trimM s).size = (Lib.trimPrefix s.data.toList [45]).length := by
    show (Lib.trimPrefix s.data.toList [45]).toArray.size = _
    exact List.size_toArray
  rw [e, e2]
  unfold Lib.trimPrefix
  split <;> simp <;> omega
set_option maxHeartbeats 1000000 in
theorem parseNumber_any (s : ByteArray) (w : World) (ht : Tab w) (he : ErrIs w) :
    Calls Tryd.prog 33 #[.string s] w fun e w' => e = .returned (.tuple #[.int .i64 (numI s).1, .bool (numI s).2]) ∧ Below w.heap.size w w' := by
  have hL := trim_len s
  have hT : Calls Tryd.prog 39 #[.string s, .string ⟨#[45]⟩] w fun e w' => e = .returned (.string (trimM s)) ∧ w' = w := Tryd.strings_TrimPrefix s ⟨#[45]⟩ w
  by_cases h0 : (trimM s).size = 0
  · have E := Lib.hid (numI_empty h0)
    obtain ⟨D, hD⟩ : ∃ D, trimM s = D := ⟨_, rfl⟩
    rw [hD] at hT h0
    clear hD hL
    obtain rfl : D = ⟨#[]⟩ := by
      obtain ⟨⟨l⟩⟩ := D
      cases l with
      | nil => rfl
      | cons x l => exact absurd h0 (by show ¬ (x :: l).length = 0; simp)
    go_enter Tryd.func33, Tryd.ntmps33
    go_wp2_with fail
    refine hT.mono ?_
    rintro e w1 ⟨rfl, rfl⟩
    go_wp2_with fail
    go_ret2
    exact ⟨by rw [E.out]; rfl, Below.refl _ _⟩
  have hne : ∀ D : ByteArray, ¬ D.size = 0 → (D.toList == []) = false := by
    intro D hD
    rw [Lib.toList_data]
    obtain ⟨⟨l⟩⟩ := D
    cases l with
    | nil => exact absurd rfl hD
    | cons x l => rfl
  by_cases h1 : 17 < (trimM s).size
  · have E := Lib.hid (numI_long h1)
    have hn := hne _ h0
    obtain ⟨D, hD⟩ : ∃ D, trimM s = D := ⟨_, rfl⟩
    rw [hD] at hT h0 h1 hn
    clear hD hL hne
    go_enter Tryd.func33, Tryd.ntmps33
    go_wp2_with fail
    refine hT.mono ?_
    rintro e w1 ⟨rfl, rfl⟩
    go_wp2_with fail
    go_ret2
    exact ⟨by rw [E.out]; rfl, Below.refl _ _⟩
  have hl : s.size ≤ 18 := by omega
  cases ha : Lib.atoi s.data.toList with
  | none =>
    have E := Lib.hid (numI_none ha)
    have hn := hne _ h0
    obtain ⟨D, hD⟩ : ∃ D, trimM s = D := ⟨_, rfl⟩
    rw [hD] at hT h0 h1 hn
    obtain ⟨tp, p, hv⟩ := he
    have hA := fun W hv => Tryd.strconv_Atoi_err_var s hl ha tp p W hv
    clear hD hL hne ha
    go_enter Tryd.func33, Tryd.ntmps33
    go_wp2_with fail
    refine hT.mono ?_
    rintro e w1 ⟨rfl, rfl⟩
    go_wp2_with fail
    refine (hA _ hv).mono ?_
    rintro e w2 ⟨N, rfl, hN, hNc, hb⟩
    go_wp2_with fail
    go_ret2
    exact ⟨by rw [E.out]; rfl, hb⟩
  | some n =>
    have E := Lib.hid (numI_some h0 h1 ha)
    have hn := hne _ h0
    obtain ⟨n0, n1⟩ := Lib.atoi_bound ha (by rw [Array.length_toList]; exact hl)
    obtain ⟨D, hD⟩ : ∃ D, trimM s = D := ⟨_, rfl⟩
    rw [hD] at hT h0 h1 hn
    have hA := fun W => Tryd.strconv_Atoi s n hl ha W
    clear hD hL hne ha
    have hI : ∀ W, Tab W → Calls Tryd.prog 22 #[.int .i64 n] W fun e w' => e = .returned (.string (itoS n)) ∧ Below W.heap.size W w' := fun W hT =>
      (Tryd.strconv_Itoa n (by omega) (by omega) W hT).mono fun e w' ⟨he, k, os, hw⟩ => ⟨he, by rw [hw]; exact below_grow W k os⟩
    obtain ⟨Z, hZ⟩ : ∃ Z, itoS n = Z := ⟨_, rfl⟩
    rw [hZ] at hI E
    clear hZ
    by_cases hi : Z = s
    · rw [if_pos hi] at E
      have hi2 : (Z.toList == s.toList) = true := (Lib.bytes_beq_iff _ _).2 hi
      clear hi
      go_enter Tryd.func33, Tryd.ntmps33
      go_wp2_with fail
      refine hT.mono ?_
      rintro e w1 ⟨rfl, rfl⟩
      go_wp2_with fail
      refine (hA _).mono ?_
      rintro e w2 ⟨rfl, t, rfl⟩
      have B2 : Below w1.heap.size w1 (Lib.bytesWorld w1 5 t) := Lib.bytesWorld_below _ _ _
      have ht2 := ht.below B2
      generalize Lib.bytesWorld w1 5 t = w2 at B2 ht2 ⊢
      go_wp2_with fail
      refine (hI _ ht2).mono ?_
      rintro e w3 ⟨rfl, B3⟩
      have B4 := B2.trans (B3.mono B2.size)
      go_wp2_with fail
      go_ret2
      exact ⟨by rw [E.out]; rfl, B4⟩
    · rw [if_neg hi] at E
      have hi2 : (Z.toList == s.toList) = false := (Lib.bytes_beq_false_iff _ _).2 hi
      clear hi
      go_enter Tryd.func33, Tryd.ntmps33
      go_wp2_with fail
      refine hT.mono ?_
      rintro e w1 ⟨rfl, rfl⟩
      go_wp2_with fail
      refine (hA _).mono ?_
      rintro e w2 ⟨rfl, t, rfl⟩
      have B2 : Below w1.heap.size w1 (Lib.bytesWorld w1 5 t) := Lib.bytesWorld_below _ _ _
      have ht2 := ht.below B2
      generalize Lib.bytesWorld w1 5 t = w2 at B2 ht2 ⊢
      go_wp2_with fail
      refine (hI _ ht2).mono ?_
      rintro e w3 ⟨rfl, B3⟩
      have B4 := B2.trans (B3.mono B2.size)
      go_wp2_with fail
      go_ret2
      exact ⟨by rw [E.out]; rfl, B4⟩
end Go.Proofs.YtpdbkohfmkmemaaDoor
