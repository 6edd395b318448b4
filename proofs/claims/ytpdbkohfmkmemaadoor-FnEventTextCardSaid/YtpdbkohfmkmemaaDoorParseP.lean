/-
  The plain law under parsing: the decimal text of a number is read back by both; pieces of texts with single spaces.
-/
import Derived.Test.YtpdbkohfmkmemaaDoorRead
namespace Go.Proofs.YtpdbkohfmkmemaaDoor
open Go.RowKit Go.Shelf
set_option linter.unusedSimpArgs false
set_option linter.unusedVariables false

theorem dd_small {u : Nat} (h : u < 10) : Lib.decDigits u = [UInt8.ofNat (48 + u)] := Lib.decDigits_one h
theorem dd_big {u : Nat} (h : ¬ u < 10) : Lib.decDigits u = Lib.decDigits (u / 10) ++ [UInt8.ofNat (48 + u % 10)] := by rw [Lib.decDigits, dif_neg h]
theorem byte_toNat {d : Nat} (h : d < 10) : (UInt8.ofNat (48 + d)).toNat = 48 + d := by
  rw [UInt8.toNat_ofNat']; omega
theorem dd_digits : ∀ (u : Nat), ∀ b ∈ Lib.decDigits u, 48 ≤ b.toNat ∧ b.toNat ≤ 57 := by
  intro u
  induction u using Nat.strongRecOn with
  | _ u ih =>
    intro b hb
    by_cases h : u < 10
    · rw [dd_small h] at hb
      obtain rfl := List.mem_singleton.1 hb
      rw [byte_toNat h]; omega
    · rw [dd_big h] at hb
      rcases List.mem_append.1 hb with hb | hb
      · exact ih (u / 10) (by omega) b hb
      · obtain rfl := List.mem_singleton.1 hb
        rw [byte_toNat (Nat.mod_lt _ (by omega))]; omega
theorem dd_ne (u : Nat) : Lib.decDigits u ≠ [] := by
  by_cases h : u < 10
  · rw [dd_small h]; simp
  · rw [dd_big h]; simp
theorem dd_head0 : ∀ (u : Nat), (Lib.decDigits u).head? = some 48 → u = 0 := by
  intro u
  induction u using Nat.strongRecOn with
  | _ u ih =>
    intro hh
    by_cases h : u < 10
    · rw [dd_small h] at hh
      have h1 : UInt8.ofNat (48 + u) = 48 := by simpa using hh
      have h2 := byte_toNat h
      rw [h1] at h2
      have : (48 : UInt8).toNat = 48 := rfl
      omega
    · rw [dd_big h] at hh
      have hne := dd_ne (u / 10)
      have h2 := ih (u / 10) (by omega)
      cases hd : Lib.decDigits (u / 10) with
      | nil => exact absurd hd hne
      | cons b r =>
        rw [hd] at hh h2
        have := h2 hh
        omega
theorem decFrom_snoc : ∀ (l : List UInt8) (acc : Nat) (b : UInt8), Lib.decFrom acc (l ++ [b]) = (Lib.decFrom acc l).bind fun n => (Lib.digitVal b).map fun d => n * 10 + d
  | [], acc, b => by
    simp only [List.nil_append, Lib.decFrom, Option.bind_some]
    cases Lib.digitVal b <;> rfl
  | a :: l, acc, b => by
    simp only [List.cons_append, Lib.decFrom]
    cases Lib.digitVal a with
    | none => rfl
    | some d => exact decFrom_snoc l _ b
theorem digit_of {d : Nat} (h : d < 10) : Lib.digitVal (UInt8.ofNat (48 + d)) = some d := by
  unfold Lib.digitVal
  rw [byte_toNat h, if_pos (by omega)]
  congr 1
  omega
theorem dd_value : ∀ (u : Nat), Lib.decFrom 0 (Lib.decDigits u) = some u := by
  intro u
  induction u using Nat.strongRecOn with
  | _ u ih =>
    by_cases h : u < 10
    · rw [dd_small h]
      simp only [Lib.decFrom, digit_of h]
      simp
    · rw [dd_big h, decFrom_snoc, ih (u / 10) (by omega), digit_of (Nat.mod_lt _ (by omega))]
      simp only [Option.bind_some, Option.map_some]
      congr 1
      omega
theorem decS_list (n : Nat) : (decS n).data.toList = Lib.decDigits n := by simp [decS]
theorem decS_sz (n : Nat) : (decS n).size = (Lib.decDigits n).length := by
  show (Lib.decDigits n).toArray.size = _
  exact List.size_toArray
theorem dd_cons (n : Nat) : ∃ b r, Lib.decDigits n = b :: r ∧ 48 ≤ b.toNat ∧ b.toNat ≤ 57 := by
  cases h : Lib.decDigits n with
  | nil => exact absurd h (dd_ne n)
  | cons b r => exact ⟨b, r, rfl, dd_digits n b (by rw [h]; simp)⟩
theorem dd_not (n : Nat) (c : UInt8) (hc : c.toNat < 48 ∨ 57 < c.toNat) : c ∉ Lib.decDigits n := by
  intro h
  have := dd_digits n c h
  omega
theorem itoS_nat (n : Nat) : itoS n = decS n := by
  unfold itoS decS Lib.itoa
  rw [if_neg (by omega), Int.toNat_natCast]
theorem numI_dec {n : Nat} (h : n ≤ 1000000) : numI (decS n) = ((n : Int), true) := by
  obtain ⟨b, r, hbr, b0, b1⟩ := dd_cons n
  have hsz := decS_size h
  have hne : ¬ b = 45 := by intro e; subst e; exact absurd b0 (by decide)
  have hne2 : ¬ b = 43 := by intro e; subst e; exact absurd b0 (by decide)
  have ht : trimM (decS n) = decS n := by
    apply bytes_ext
    show (Lib.trimPrefix (decS n).data.toList [45]).toArray.toList = _
    rw [decS_list, hbr]
    have hne' : ¬ 45 = b := fun e => hne e.symm
    simp [Lib.trimPrefix, Lib.hasPrefix, hne']
  have h0 : ¬ (trimM (decS n)).size = 0 := by rw [ht, decS_sz, hbr]; simp
  have h1 : ¬ 17 < (trimM (decS n)).size := by rw [ht]; omega
  have ha : Lib.atoi (decS n).data.toList = some (n : Int) := by
    rw [decS_list, hbr]
    unfold Lib.atoi
    have e1 : (b == 45) = false := beq_eq_false_iff_ne.2 hne
    have e2 : (b == 43) = false := beq_eq_false_iff_ne.2 hne2
    have e3 : Lib.decNat (b :: r) = some n := by
      unfold Lib.decNat
      rw [← hbr, dd_value]
      rw [hbr]; rfl
    simp only [e1, e2, e3]
    rfl
  rw [numI_some h0 h1 ha, if_pos (itoS_nat n)]
theorem numS_dec {n : Nat} (h : n ≤ 1000000) : numS (decS n) = ((n : Int), true) := by
  obtain ⟨b, r, hbr, b0, b1⟩ := dd_cons n
  have hsz := decS_size h
  have hne : ¬ b = 45 := by intro e; subst e; exact absurd b0 (by decide)
  have hng : negB (decS n) = false := by
    unfold negB
    rw [decS_list, hbr]
    simpa using hne
  have h0 : ¬ (decS n).size = 0 := by rw [decS_sz, hbr]; simp
  have h2 : ¬ ((decS n).data.toList.head? = some 48 ∧ (1 < (decS n).size ∨ false = true)) := by
    rintro ⟨hh, h3⟩
    rw [decS_list] at hh
    have := dd_head0 n hh
    subst this
    rcases h3 with h3 | h3
    · rw [decS_sz, dd_small (by omega)] at h3
      simp at h3
    · cases h3
  unfold numS
  rw [hng]
  simp only [Bool.false_eq_true, if_false]
  rw [numD_else h0 (by omega) h2, decS_list, dd_value]
  rfl
/-! ### pieces -/
theorem pcs_plain : ∀ (l : List UInt8), (32 : UInt8) ∉ l → pcs l = [l]
  | [], _ => rfl
  | b :: l, h => by
    have hb : ¬ b = 32 := fun e => h (by rw [e]; simp)
    rw [pcs, if_neg hb, pcs_plain l (fun e => h (by simp [e]))]
    rfl
theorem pcs_app : ∀ (l r : List UInt8), (32 : UInt8) ∉ l → pcs (l ++ 32 :: r) = l :: pcs r
  | [], r, _ => by simp [pcs]
  | b :: l, r, h => by
    have hb : ¬ b = 32 := fun e => h (by rw [e]; simp)
    rw [List.cons_append, pcs, if_neg hb, pcs_app l r (fun e => h (by simp [e]))]
    rfl
theorem pieces_of {s : ByteArray} {l : List ByteArray} (h : pcs s.data.toList = l.map (·.data.toList)) : piecesB s = l := by
  rw [← pieces_data] at h
  exact (List.map_inj_right (fun x y hxy => by apply bytes_ext; exact hxy)).1 h
theorem dec_no_space (n : Nat) : (32 : UInt8) ∉ (decS n).data.toList := by rw [decS_list]; exact dd_not n 32 (by decide)
theorem pieces_two (a : ByteArray) (x : Nat) (ha : (32 : UInt8) ∉ a.data.toList) : piecesB (a ++ ⟨#[32]⟩ ++ decS x) = [a, decS x] := by
  apply pieces_of
  simp only [ByteArray.data_append, Array.toList_append, List.append_assoc, List.singleton_append, List.map_cons, List.map_nil]
  show pcs (a.data.toList ++ 32 :: (decS x).data.toList) = _
  rw [pcs_app _ _ ha, pcs_plain _ (dec_no_space x)]
theorem pieces_three (a : ByteArray) (x y : Nat) (ha : (32 : UInt8) ∉ a.data.toList) : piecesB (a ++ ⟨#[32]⟩ ++ decS x ++ (⟨#[32]⟩ ++ decS y)) = [a, decS x, decS y] := by
  apply pieces_of
  simp only [ByteArray.data_append, Array.toList_append, List.append_assoc, List.singleton_append, List.map_cons, List.map_nil]
  show pcs (a.data.toList ++ 32 :: ((decS x).data.toList ++ 32 :: (decS y).data.toList)) = _
  rw [pcs_app _ _ ha, pcs_app _ _ (dec_no_space x), pcs_plain _ (dec_no_space y)]
theorem zeroS_dec : zeroS = decS 0 := by
  apply bytes_ext
  rw [decS_list, dd_small (by omega)]
  rfl
/-- both read a text of two or three pieces alike -/
theorem both_two (a : ByteArray) (x : Nat) (ha : (32 : UInt8) ∉ a.data.toList) (hx : x ≤ 1000000) : actI (a ++ ⟨#[32]⟩ ++ decS x) = (a, (x : Int), 0, 1) ∧ readS (a ++ ⟨#[32]⟩ ++ decS x) = (a, (x : Int), 0, true) := by
  constructor
  · unfold actI
    rw [pieces_two a x ha]
    simp [numI_dec hx]
  · unfold readS
    rw [pieces_two a x ha]
    unfold readL
    simp [numS_dec hx, zeroS_dec, numS_dec (n := 0) (by omega)]
theorem both_three (a : ByteArray) (x y : Nat) (ha : (32 : UInt8) ∉ a.data.toList) (hx : x ≤ 1000000) (hy : y ≤ 1000000) : actI (a ++ ⟨#[32]⟩ ++ decS x ++ (⟨#[32]⟩ ++ decS y)) = (a, (x : Int), (y : Int), 2) ∧ readS (a ++ ⟨#[32]⟩ ++ decS x ++ (⟨#[32]⟩ ++ decS y)) = (a, (x : Int), (y : Int), true) := by
  constructor
  · unfold actI
    rw [pieces_three a x y ha]
    simp [numI_dec hx, numI_dec hy]
  · unfold readS
    rw [pieces_three a x y ha]
    unfold readL
    simp [numS_dec hx, numS_dec hy]
theorem empty_pieces : piecesB ⟨#[]⟩ = [⟨#[]⟩] := pieces_of rfl
theorem actI_none : (actI ⟨#[]⟩).2.2.2 = 0 := by unfold actI; rw [empty_pieces]
theorem readS_none : (readS ⟨#[]⟩).2.2.2 = false := by unfold readS readL; rw [empty_pieces]
end Go.Proofs.YtpdbkohfmkmemaaDoor
