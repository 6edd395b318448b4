/-
  l11Cut of the reference: the pieces between spaces.
-/
import Derived.Test.YtpdbkohfmkmemaaDoorParse
import Derived.Test.YtpdbkohfmkmemaaDoorOwn
namespace Go.Proofs.YtpdbkohfmkmemaaDoor
open Go.RowKit Go.Shelf
set_option linter.unusedSimpArgs false
set_option linter.unusedVariables false

/-! ### the plain law -/
def gl (p : List UInt8) : List (List UInt8) → List (List UInt8)
  | [] => [p]
  | q :: qs => (p ++ q) :: qs
def pcs : List UInt8 → List (List UInt8)
  | [] => [[]]
  | b :: l => if b = 32 then [] :: pcs l else gl [b] (pcs l)
theorem pcs_ne (l : List UInt8) : pcs l ≠ [] := by
  cases l with
  | nil => simp [pcs]
  | cons b l => unfold pcs; split <;> (try simp) <;> (cases pcs l <;> simp [gl])
theorem gl_gl (p q : List UInt8) (x : List (List UInt8)) (h : x ≠ []) : gl p (gl q x) = gl (p ++ q) x := by
  cases x with
  | nil => exact absurd rfl h
  | cons a x => simp [gl]
theorem gl_nil (x : List (List UInt8)) (h : x ≠ []) : gl [] x = x := by
  cases x with
  | nil => exact absurd rfl h
  | cons a x => simp [gl]
theorem indexByte_cons (b c : UInt8) (l : List UInt8) : Lib.indexByte (b :: l) c = if b = c then 0 else if Lib.indexByte l c = -1 then -1 else Lib.indexByte l c + 1 := by
  rw [Lib.indexByte]
  by_cases h : b = c
  · simp [h]
  · simp [h]
theorem splitK_pcs : ∀ l : List UInt8, Lib.splitK [32] 0 (Lib.count l [32]) l = pcs l
  | [] => by
    have : Lib.count [] [32] = 0 := by rw [Lib.count_one]; rfl
    rw [this]; rfl
  | b :: l => by
    have ih := splitK_pcs l
    by_cases hb : b = 32
    · subst hb
      rw [Lib.count_cons_eq, Nat.add_comm, Lib.splitK, Lib.index_one, indexByte_cons, if_pos rfl]
      have : ((0 : Int) == -1) = false := rfl
      rw [this]
      simp only [Bool.false_eq_true, if_false]
      rw [pcs, if_pos rfl]
      simp [ih]
    · rw [Lib.count_cons_ne b 32 l hb, pcs, if_neg hb, ← ih]
      cases hk : Lib.count l [32] with
      | zero => rfl
      | succ k =>
        rw [Lib.splitK, Lib.splitK, Lib.index_one, Lib.index_one, indexByte_cons, if_neg hb]
        by_cases hi : Lib.indexByte l 32 = -1
        · rw [if_pos hi]; simp [hi, gl]
        · have hge := Lib.indexByte_ge l 32
          obtain ⟨i, hii⟩ := Int.eq_ofNat_of_zero_le (show 0 ≤ Lib.indexByte l 32 by omega)
          rw [if_neg hi, hii]
          have e1 : (((i : Int) + 1) == -1) = false := by rw [beq_eq_false_iff_ne]; omega
          have e2 : ((i : Int) == -1) = false := by rw [beq_eq_false_iff_ne]; omega
          rw [e1, e2]
          have t1 : ((i : Int) + 1).toNat = i + 1 := by omega
          have t2 : ((i : Int)).toNat = i := by omega
          simp only [Bool.false_eq_true, if_false, t1, t2, gl, List.length_cons, List.length_nil]
          rw [show i + 1 + (0 + 1) = (i + (0 + 1)) + 1 by omega, List.drop_succ_cons, show i + 1 + 0 = (i + 0) + 1 by omega, List.take_succ_cons]
          rfl
theorem pieces_data (s : ByteArray) : (piecesB s).map (·.data.toList) = pcs s.data.toList := by
  unfold piecesB
  rw [Lib.splitB_data]
  exact splitK_pcs _
/-- what is still to come, from position i on, the piece begun at f -/
def cutFrom (s : ByteArray) (f i : Nat) : List ByteArray :=
  if h : i < s.size then (if s[i] = 32 then s.extract f i :: cutFrom s (i + 1) (i + 1) else cutFrom s f (i + 1)) else [s.extract f s.size]
termination_by s.size - i
theorem cutFrom_space {s : ByteArray} {f i : Nat} (h : i < s.size) (hb : s[i] = 32) : cutFrom s f i = s.extract f i :: cutFrom s (i + 1) (i + 1) := by rw [cutFrom, dif_pos h, if_pos hb]
theorem cutFrom_other {s : ByteArray} {f i : Nat} (h : i < s.size) (hb : ¬ s[i] = 32) : cutFrom s f i = cutFrom s f (i + 1) := by rw [cutFrom, dif_pos h, if_neg hb]
theorem cutFrom_end {s : ByteArray} {f i : Nat} (h : ¬ i < s.size) : cutFrom s f i = [s.extract f s.size] := by rw [cutFrom, dif_neg h]
theorem ext_list (s : ByteArray) (f i : Nat) : (s.extract f i).data.toList = (s.data.toList.drop f).take (i - f) := by
  rw [Lib.extract_data]
theorem cutFrom_data (s : ByteArray) : ∀ (n f i : Nat), s.size - i = n → f ≤ i → i ≤ s.size → (cutFrom s f i).map (·.data.toList) = gl ((s.data.toList.drop f).take (i - f)) (pcs (s.data.toList.drop i))
  | 0, f, i, hn, hf, hi => by
    have e : i = s.size := by omega
    subst e
    rw [cutFrom_end (by omega)]
    have hl : s.data.toList.drop s.size = [] := List.drop_eq_nil_of_le (by rw [Array.length_toList]; exact Nat.le_refl _)
    rw [hl]
    simp [ext_list, gl, pcs]
  | n + 1, f, i, hn, hf, hi => by
    have hlt : i < s.size := by omega
    have hlt' : i < s.data.toList.length := by rw [Array.length_toList]; exact hlt
    have hd : s.data.toList.drop i = s[i] :: s.data.toList.drop (i + 1) := by
      rw [List.drop_eq_getElem_cons hlt']; rfl
    by_cases hb : s[i] = 32
    · rw [cutFrom_space hlt hb, List.map_cons, cutFrom_data s n (i + 1) (i + 1) (by omega) (Nat.le_refl _) hlt, hd, pcs, if_pos hb, ext_list]
      simp only [Nat.sub_self, List.take_zero]
      rw [gl_nil _ (pcs_ne _)]
      simp [gl]
    · rw [cutFrom_other hlt hb, cutFrom_data s n f (i + 1) (by omega) (by omega) hlt, hd, pcs, if_neg hb, gl_gl _ _ _ (pcs_ne _)]
      congr 1
      rw [show i + 1 - f = (i - f) + 1 by omega, List.take_add_one, List.getElem?_drop, show f + (i - f) = i by omega, List.getElem?_eq_getElem hlt']
      rfl
theorem cut_pieces (s : ByteArray) : cutFrom s 0 0 = piecesB s := by
  have h := cutFrom_data s (s.size - 0) 0 0 rfl (Nat.le_refl _) (Nat.zero_le _)
  rw [List.drop_zero, Nat.sub_self, List.take_zero, gl_nil _ (pcs_ne _), ← pieces_data] at h
  exact List.map_inj_right (fun x y hxy => by apply bytes_ext; exact hxy) |>.1 h
theorem cutFrom_len (s : ByteArray) : ∀ (n f i : Nat), s.size - i = n → (cutFrom s f i).length ≤ n + 1
  | 0, f, i, hn => by rw [cutFrom_end (by omega)]; simp
  | n + 1, f, i, hn => by
    by_cases hb : s[i]'(by omega) = 32
    · rw [cutFrom_space (by omega) hb]
      have := cutFrom_len s n (i + 1) (i + 1) (by omega)
      simp only [List.length_cons]; omega
    · rw [cutFrom_other (by omega) hb]
      have := cutFrom_len s n f (i + 1) (by omega)
      omega
theorem pieces_len (s : ByteArray) : (piecesB s).length ≤ s.size + 1 := by
  rw [← cut_pieces]
  exact cutFrom_len s _ 0 0 rfl
theorem strs_oneCell (l : List ByteArray) : ∀ u ∈ l.map Value.string, u.oneCell' = true := by
  intro u hu
  obtain ⟨x, _, rfl⟩ := List.mem_map.1 hu
  rfl
/-- a slice of strings of the call's own -/
def OwnStrs (w : World) (l : List ByteArray) (e : Ending) (w' : World) : Prop :=
  ∃ A c, e = .returned (.slice A l.length c) ∧ w'.ownsRow w.heap.size 9 1 (.slice A l.length c) l.length (l.map Value.string) ∧ Below w.heap.size w w'
theorem ownsStr_empty (w : World) : (w.alloc (.cells #[] 9)).ownsRow w.heap.size 9 1 (.slice (some ⟨w.heap.size, 0, none⟩) 0 0) 0 [] := ⟨rfl, .inr ⟨_, 0, #[], rfl, Nat.le_refl _, heap_alloc_new w _, Nat.le_refl _, by unfold maxLen; omega, rfl, rfl⟩⟩
theorem new_str (w : World) (x : ByteArray) : Reads (w.alloc (.cells #[.string x] 9)) (w.alloc (.cells #[.string x] 9)).heap.size 1 (some ⟨w.heap.size, 0, none⟩) 1 [.string x] := by
  have := (Blk.new w 9 #[.string x]).reads (l := [.string x]) rfl
  exact this
set_option maxHeartbeats 1000000 in
theorem l11Cut_any (s : ByteArray) (w : World) (hs : s.size ≤ 1048576) :
    Calls Tryd.prog 30 #[.string s, .int .u8 32] w (OwnStrs w (piecesB s)) := by
  obtain ⟨i0, hi, hz0, hz1, hz2⟩ := info_parts str_info
  have hcp := Lib.hid (cut_pieces s)
  have hlen := Lib.hid (pieces_len s)
  go_enter Tryd.func30, Tryd.ntmps30
  go_wp2
  go_loopw [5, 6, 7] (fun o f i wr => ∃ (k g : Nat) (done : List ByteArray), i = .int .i64 k ∧ f = .int .i64 g ∧ g ≤ k ∧ wr.ownsRow w.heap.size 9 1 o done.length (done.map Value.string) ∧ Below w.heap.size w wr ∧ ((k ≤ s.size ∧ piecesB s = done ++ cutFrom s g k) ∨ (k = s.size + 1 ∧ piecesB s = done))) (fun _ _ i _ => s.size + 1 - (intOf i).toNat)
  case atStart =>
    exact ⟨0, 0, [], rfl, rfl, Nat.le_refl _, ownsStr_empty w, (Below.refl _ _).alloc (Nat.le_refl _) _, .inl ⟨Nat.zero_le _, hcp.out.symm⟩⟩
  case round =>
    obtain ⟨k, g, done, rfl, rfl, hgk, hown, hbel, hrel⟩ := hrel
    have hsz := hbel.size
    rcases hrel with ⟨hk, hp⟩ | ⟨rfl, hp⟩
    · have hdl : done.length ≤ s.size + 1 := by
        have h1 := hlen.out
        rw [hp, List.length_append] at h1
        omega
      have Hp := Lib.hid hp
      clear hp
      have hk4 : k ≤ 1048576 := by omega
      by_cases hlt : k < s.size
      · have hne : ((k : Int) == (s.size : Int)) = false := by rw [beq_eq_false_iff_ne]; omega
        have hlt2 : (k : Int) < (s.size : Int) := by omega
        by_cases hb : s[k] = 32
        · have hb2 : ((s[k].toNat : Int) == 32) = true := by rw [hb]; rfl
          have He := Lib.hid (cutFrom_space (f := g) hlt hb)
          have hdl2 : done.length ≤ 1048577 := by omega
          clear hb hs hdl
          go_wp2_with (at_builtin; refine wpList_append_any _ rfl _ _ 48 rfl w.heap.size 9 i0 (.string ⟨#[]⟩) 1 16 Tryd.underlying48 hi hz0 hz1 hz2 rfl (by decide) u5 _ _ rfl (hown.alloc _) _ (some ⟨wr.heap.size, 0, none⟩) 1 1 [.string (s.extract g k)] rfl (new_str wr (s.extract g k)) (strs_oneCell [s.extract g k]) ?_ ?_ ?_ ?_; (unfold maxLen; omega); omega; (simp; omega); intro v' w3 hown' hgrow hloc)
          go_roundw
          case rel =>
            refine ⟨k + 1, k + 1, done ++ [s.extract g k], by go_num, by go_num, Nat.le_refl _, ?_, below_of_grown hbel hgrow hsz (fun q hq => (hown.lt q hq).1), .inl ⟨by omega, ?_⟩⟩
            · simpa using hown'
            · rw [Hp.out, He.out]; simp
          case measure => simp [intOf]; omega
        · have hb2 : ((s[k].toNat : Int) == 32) = false := by
            rw [beq_eq_false_iff_ne]
            intro h
            exact hb (UInt8.toNat_inj.1 (by show s[k].toNat = 32; omega))
          have He := Lib.hid (cutFrom_other (f := g) hlt hb)
          clear hb hs hdl
          go_wp2_with fail
          go_roundw
          case rel => exact ⟨k + 1, g, done, by go_num, rfl, by omega, hown, hbel, .inl ⟨by omega, by rw [Hp.out, He.out]⟩⟩
          case measure => simp [intOf]; omega
      · obtain rfl : k = s.size := by omega
        have hdl2 : done.length ≤ 1048577 := by omega
        have He := Lib.hid (cutFrom_end (f := g) hlt)
        clear hs hdl
        go_wp2_with (at_builtin; refine wpList_append_any _ rfl _ _ 48 rfl w.heap.size 9 i0 (.string ⟨#[]⟩) 1 16 Tryd.underlying48 hi hz0 hz1 hz2 rfl (by decide) u5 _ _ rfl (hown.alloc _) _ (some ⟨wr.heap.size, 0, none⟩) 1 1 [.string (s.extract g s.size)] rfl (new_str wr (s.extract g s.size)) (strs_oneCell [s.extract g s.size]) ?_ ?_ ?_ ?_; (unfold maxLen; omega); omega; (simp; omega); intro v' w3 hown' hgrow hloc)
        go_roundw
        case rel =>
          refine ⟨s.size + 1, s.size + 1, done ++ [s.extract g s.size], by go_num, by go_num, Nat.le_refl _, ?_, below_of_grown hbel hgrow hsz (fun q hq => (hown.lt q hq).1), .inr ⟨rfl, ?_⟩⟩
          · simpa using hown'
          · rw [Hp.out, He.out]
        case measure => simp [intOf]
    · have Hp := Lib.hid hp
      have hgt : ¬ ((s.size : Int) + 1 ≤ (s.size : Int)) := by omega
      clear hp hs
      go_wp2_with fail
      go_ret
      obtain ⟨A, c, rfl⟩ := own_form hown
      rw [← Hp.out] at hown
      exact ⟨A, c, by rw [Hp.out]; rfl, hown, hbel⟩
end Go.Proofs.YtpdbkohfmkmemaaDoor
