/-
  parseAct.
-/
import Derived.Test.YtpdbkohfmkmemaaDoorParse
import Derived.Test.YtpdbkohfmkmemaaDoorSmall
import Derived.RegionTactic
import Derived.ChangeAlike
namespace Go.Proofs.YtpdbkohfmkmemaaDoor
open Go.RowKit Go.Shelf
set_option linter.unusedSimpArgs false
set_option linter.unusedVariables false

def actI (s : ByteArray) : ByteArray × Int × Int × Int :=
  match piecesB s with
  | [a, p] => if (numI p).2 then (a, (numI p).1, 0, 1) else (⟨#[]⟩, 0, 0, 0)
  | [a, p, q] => if (numI p).2 then (if (numI q).2 then (a, (numI p).1, (numI q).1, 2) else (⟨#[]⟩, (numI p).1, 0, 0)) else (⟨#[]⟩, 0, 0, 0)
  | _ => (⟨#[]⟩, 0, 0, 0)
/-- the three blocks of the call -/
structure PAt (w : World) (b : Nat) (x y : Int) (l : List ByteArray) : Prop where
  res : Blk w b 44 #[.int .i64 0, .int .i64 0]
  nums : Blk w (b + 1) 44 #[.int .i64 x, .int .i64 y]
  parts : Blk w (b + 1 + 1) 9 (l.map Value.string).toArray
theorem PAt.below {w w' : World} {b : Nat} {x y : Int} {l : List ByteArray} (h : PAt w b x y l) (hb : Below w.heap.size w w') : PAt w' b x y l :=
  ⟨h.res.below hb h.res.lt, h.nums.below hb h.nums.lt, h.parts.below hb h.parts.lt⟩
theorem pAt_new (w : World) (l : List ByteArray) : PAt (((w.alloc (.cells #[.int .i64 0, .int .i64 0] 44)).alloc (.cells #[.int .i64 0, .int .i64 0] 44)).alloc (.cells (l.map Value.string).toArray 9)) w.heap.size 0 0 l := by
  have k1 := Blk.new w 44 #[.int .i64 0, .int .i64 0]
  have k2 := Blk.new (w.alloc (.cells #[.int .i64 0, .int .i64 0] 44)) 44 #[.int .i64 0, .int .i64 0]
  have k3 := Blk.new ((w.alloc (.cells #[.int .i64 0, .int .i64 0] 44)).alloc (.cells #[.int .i64 0, .int .i64 0] 44)) 9 (l.map Value.string).toArray
  simp only [World.size_alloc] at k2 k3
  exact ⟨(k1.alloc _).alloc _, k2.alloc _, k3⟩
theorem below_new3 (w : World) (o o' o'' : Obj) : Below w.heap.size w (((w.alloc o).alloc o').alloc o'') := (((Below.refl _ w).alloc (Nat.le_refl _) o).alloc (by simp) o').alloc (by simp; omega) o''
def nthI (l : List ByteArray) (j : Nat) : Int × Bool := numI (l.getD (j + 1) ⟨#[]⟩)
def valI (l : List ByteArray) (k j : Nat) : Int := if j < k then (nthI l j).1 else 0
theorem actI_ok {s : ByteArray} {l : List ByteArray} (hl : piecesB s = l) (h2 : 2 ≤ l.length) (h3 : l.length ≤ 3) (h : ∀ j, j < l.length - 1 → (nthI l j).2 = true) : actI s = (l.getD 0 ⟨#[]⟩, valI l (l.length - 1) 0, valI l (l.length - 1) 1, (l.length : Int) - 1) := by
  unfold actI
  rw [hl]
  match l, h2, h3, h with
  | [a, p], _, _, h => have := h 0 (by simp); simp [nthI, valI] at this ⊢; simp [this]
  | [a, p, q], _, _, h => have h1 := h 0 (by simp); have h2 := h 1 (by simp); simp [nthI, valI] at h1 h2 ⊢; simp [h1, h2]
  | a :: p :: q :: r :: l, _, h3, _ => simp at h3
theorem actI_no {s : ByteArray} {l : List ByteArray} (hl : piecesB s = l) (h2 : 2 ≤ l.length) (h3 : l.length ≤ 3) {k : Nat} (hk : k < l.length - 1) (h : ∀ j, j < k → (nthI l j).2 = true) (hn : (nthI l k).2 = false) : actI s = (⟨#[]⟩, valI l k 0, valI l k 1, 0) := by
  unfold actI
  rw [hl]
  match l, h2, h3, hk, h with
  | [a, p], _, _, hk, h => obtain rfl : k = 0 := by simp at hk; omega
                           simp [nthI, valI] at hn ⊢; simp [hn]
  | [a, p, q], _, _, hk, h =>
    simp at hk
    by_cases h0 : k = 0
    · subst h0; simp [nthI, valI] at hn ⊢; simp [hn]
    · obtain rfl : k = 1 := by omega
      have h1 := h 0 (by simp)
      simp [nthI, valI] at hn h1 ⊢; simp [hn, h1]
  | a :: p :: q :: r :: l, _, h3, _, _ => simp at h3
theorem valI_set (l : List ByteArray) (k : Nat) (hk : k < 2) : (#[Value.int .i64 (valI l k 0), Value.int .i64 (valI l k 1)] : Array Value).setIfInBounds k (.int .i64 (nthI l k).1) = #[.int .i64 (valI l (k + 1) 0), .int .i64 (valI l (k + 1) 1)] := by
  match k, hk with
  | 0, _ => simp [valI]
  | 1, _ => simp [valI]
set_option maxHeartbeats 1000000 in
theorem parseAct_any (s : ByteArray) (w : World) (ht : Tab w) (he : ErrIs w) (hs : s.size ≤ 1048576) :
    Calls Tryd.prog 19 #[.string s] w fun e w' => e = .returned (.tuple #[.string (actI s).1, .agg #[.int .i64 (actI s).2.1, .int .i64 (actI s).2.2.1], .int .i64 (actI s).2.2.2]) ∧ Below w.heap.size w w' := by
  have hS := fun W => split_any s W hs
  obtain ⟨l, hl⟩ : ∃ l, piecesB s = l := ⟨_, rfl⟩
  rw [hl] at hS
  have hP := pAt_new w l
  have hB := below_new3 w (.cells #[.int .i64 0, .int .i64 0] 44) (.cells #[.int .i64 0, .int .i64 0] 44) (.cells (l.map Value.string).toArray 9)
  have hL := Lib.hid hl
  clear hl
  by_cases h2 : l.length < 2 ∨ 3 < l.length
  · have hE : Hid (actI s = (⟨#[]⟩, 0, 0, 0)) := Lib.hid (by
      unfold actI
      rw [hL.out]
      match l, h2 with
      | [], _ => rfl
      | [a], _ => rfl
      | [a, p], h => simp at h
      | [a, p, q], h => simp at h
      | a :: p :: q :: r :: l, _ => rfl)
    by_cases h3 : (l.length : Int) < 2
    · go_enter Tryd.func19, Tryd.ntmps19
      go_wp2_with fail
      refine (hS _).mono ?_
      rintro e w1 ⟨rfl, rfl⟩
      go_wp2_with fail
      generalize ((w.alloc (.cells #[.int .i64 0, .int .i64 0] 44)).alloc (.cells #[.int .i64 0, .int .i64 0] 44)).alloc (.cells (l.map Value.string).toArray 9) = w0 at hP hB ⊢
      have a0 : w0.cell? ⟨w.heap.size, 0, none⟩ = some (.int .i64 0) := hP.res.cell 0
      have a1 : w0.cell? ⟨w.heap.size, 1, none⟩ = some (.int .i64 0) := hP.res.cell 1
      have af := hP.res.frozen
      have b0 : w0.cell? ⟨w.heap.size + 1, 0, none⟩ = some (.int .i64 0) := hP.nums.cell 0
      have b1 : w0.cell? ⟨w.heap.size + 1, 1, none⟩ = some (.int .i64 0) := hP.nums.cell 1
      go_region
      go_wp2_with fail
      exact bodyPost_ret (v := .tuple #[.string ⟨#[]⟩, .agg #[.int .i64 0, .int .i64 0], .int .i64 0]) (by simp [results, Tryd.results19, go_sem, a0, a1]) rfl
        ⟨by rw [hE.out], ((hB.setCell (Nat.le_refl _) _).setCell (Nat.le_refl _) _).drew⟩
    · have h4 : (3 : Int) < l.length := by omega
      go_enter Tryd.func19, Tryd.ntmps19
      go_wp2_with fail
      refine (hS _).mono ?_
      rintro e w1 ⟨rfl, rfl⟩
      go_wp2_with fail
      generalize ((w.alloc (.cells #[.int .i64 0, .int .i64 0] 44)).alloc (.cells #[.int .i64 0, .int .i64 0] 44)).alloc (.cells (l.map Value.string).toArray 9) = w0 at hP hB ⊢
      have a0 : w0.cell? ⟨w.heap.size, 0, none⟩ = some (.int .i64 0) := hP.res.cell 0
      have a1 : w0.cell? ⟨w.heap.size, 1, none⟩ = some (.int .i64 0) := hP.res.cell 1
      have af := hP.res.frozen
      have b0 : w0.cell? ⟨w.heap.size + 1, 0, none⟩ = some (.int .i64 0) := hP.nums.cell 0
      have b1 : w0.cell? ⟨w.heap.size + 1, 1, none⟩ = some (.int .i64 0) := hP.nums.cell 1
      go_region
      go_wp2_with fail
      exact bodyPost_ret (v := .tuple #[.string ⟨#[]⟩, .agg #[.int .i64 0, .int .i64 0], .int .i64 0]) (by simp [results, Tryd.results19, go_sem, a0, a1]) rfl
        ⟨by rw [hE.out], ((hB.setCell (Nat.le_refl _) _).setCell (Nat.le_refl _) _).drew⟩
  have hn1 : 2 ≤ l.length := by omega
  have hn2 : l.length ≤ 3 := by omega
  have hn3 : ¬ (l.length : Int) < 2 := by omega
  have hn4 : ¬ (3 : Int) < (l.length : Int) := by omega
  have hn5 : l.length - 1 ≠ 0 := by omega
  have hn6 : (l.length : Int) - 1 ≠ 0 := by omega
  have hn7 : (1 : Int) ≤ (l.length : Int) := by omega
  clear h2
  go_enter Tryd.func19, Tryd.ntmps19
  go_wp2_with fail
  refine (hS _).mono ?_
  rintro e w1 ⟨rfl, rfl⟩
  go_wp2_with fail
  generalize ((w.alloc (.cells #[.int .i64 0, .int .i64 0] 44)).alloc (.cells #[.int .i64 0, .int .i64 0] 44)).alloc (.cells (l.map Value.string).toArray 9) = w0 at hP hB ⊢
  obtain ⟨b, hb⟩ : ∃ b, w.heap.size = b := ⟨_, rfl⟩
  have htb := fun W (h : Below b w W) => ht.below (hb ▸ h)
  have heb := fun W (h : Below b w W) => he.below (hb ▸ h)
  rw [hb] at hP hB ⊢
  have HB := Lib.hid hb
  clear hb
  go_loopw [25] (fun i wr => ∃ k : Nat, k ≤ l.length - 1 ∧ i = .int .i64 k ∧ (∀ j, j < k → (nthI l j).2 = true) ∧ PAt wr b (valI l k 0) (valI l k 1) l ∧ Below b w wr) (fun i _ => l.length - (intOf i).toNat)
  case atStart => exact ⟨0, Nat.zero_le _, rfl, fun j hj => absurd hj (Nat.not_lt_zero j), hP, hB⟩
  case round =>
    clear hP hB
    obtain ⟨k, hk, rfl, hall, hP, hB⟩ := hrel
    have Hall := Lib.hid hall
    clear hall
    by_cases hlt : k < l.length - 1
    · have hp1 : wr.cell? ⟨b + 1 + 1, 1 + k, none⟩ = some (.string (l.getD (k + 1) ⟨#[]⟩)) := by
        rw [hP.parts.cell (1 + k)]
        simp [List.getD_eq_getElem?_getD, show 1 + k = k + 1 by omega, List.getElem?_eq_getElem (show k + 1 < l.length by omega)]
      have hk2 : k < 2 := by omega
      have hlt2 : (k : Int) < ((l.length - 1 : Nat) : Int) := by omega
      have Hset := Lib.hid (valI_set l k hk2)
      have hN := parseNumber_any (l.getD (k + 1) ⟨#[]⟩) wr (htb _ hB) (heb _ hB)
      have HN : Hid (nthI l k = numI (l.getD (k + 1) ⟨#[]⟩)) := Lib.hid rfl
      obtain ⟨P, hPn⟩ : ∃ P, l.getD (k + 1) ⟨#[]⟩ = P := ⟨_, rfl⟩
      rw [hPn] at hp1 hN HN
      clear hPn
      obtain ⟨N, hNn⟩ : ∃ N, numI P = N := ⟨_, rfl⟩
      rw [hNn] at hN HN
      clear hNn
      obtain ⟨n, ok⟩ := N
      cases ok
      · go_wp2_with fail
        refine hN.mono ?_
        rintro e w2 ⟨rfl, hb2⟩
        have hP2 := hP.below hb2
        have hB2 := hB.trans (hb2.mono (Nat.le_trans (Nat.le_of_eq HB.out.symm) hB.size))
        clear hP hB hb2 hN hp1
        have a0 : w2.cell? ⟨b, 0, none⟩ = some (.int .i64 0) := hP2.res.cell 0
        have a1 : w2.cell? ⟨b, 1, none⟩ = some (.int .i64 0) := hP2.res.cell 1
        have af := hP2.res.frozen
        have b0 : w2.cell? ⟨b + 1, 0, none⟩ = some (.int .i64 (valI l k 0)) := hP2.nums.cell 0
        have b1 : w2.cell? ⟨b + 1, 1, none⟩ = some (.int .i64 (valI l k 1)) := hP2.nums.cell 1
        have E := Lib.hid (actI_no hL.out hn1 hn2 hlt Hall.out (by rw [HN.out]))
        obtain ⟨X, hX⟩ : ∃ X, valI l k 0 = X := ⟨_, rfl⟩
        obtain ⟨Y, hY⟩ : ∃ Y, valI l k 1 = Y := ⟨_, rfl⟩
        rw [hX] at b0 E
        rw [hY] at b1 E
        clear hX hY
        go_wp2_with fail
        go_region
        go_wp2_with fail
        exact bodyPost_ret (v := .tuple #[.string ⟨#[]⟩, .agg #[.int .i64 X, .int .i64 Y], .int .i64 0]) (by simp [results, Tryd.results19, go_sem, a0, a1]) rfl
          ⟨by rw [E.out], by rw [HB.out]; exact ((hB2.setCell (Nat.le_refl _) _).setCell (Nat.le_refl _) _).drew⟩
      · go_wp2_with fail
        refine hN.mono ?_
        rintro e w2 ⟨rfl, hb2⟩
        have hP2 := hP.below hb2
        have hB2 := hB.trans (hb2.mono (Nat.le_trans (Nat.le_of_eq HB.out.symm) hB.size))
        clear hP hB hb2 hN hp1
        obtain ⟨v0, hv0⟩ : ∃ v, w2.cell? ⟨b + 1, k, none⟩ = some v := ⟨_, (hP2.nums.cell k).trans (Array.getElem?_eq_getElem (by simpa using hk2))⟩
        have hf0 := hP2.nums.frozen k
        go_wp2_with fail
        go_roundw
        case rel =>
          refine ⟨k + 1, by omega, by go_num, fun j hj => ?_, ⟨hP2.res.far (by show b ≠ b + 1; omega) _, ?_, hP2.parts.far (by show b + 1 + 1 ≠ b + 1; omega) _⟩, hB2.setCell (by show b ≤ b + 1; omega) _⟩
          · rcases Nat.lt_or_ge j k with h | h
            · exact Hall.out j h
            · obtain rfl : j = k := by omega
              rw [HN.out]
          · have := hP2.nums.set_ k (.int .i64 (nthI l k).1)
            rw [Hset.out, HN.out] at this
            exact this
        case measure => simp [intOf]; omega
    · obtain rfl : k = l.length - 1 := by omega
      have p0 : wr.cell? ⟨b + 1 + 1, 0, none⟩ = some (.string (l.getD 0 ⟨#[]⟩)) := by
        rw [hP.parts.cell 0]
        simp [List.getD_eq_getElem?_getD, List.getElem?_eq_getElem (show 0 < l.length by omega)]
      have a0 : wr.cell? ⟨b, 0, none⟩ = some (.int .i64 0) := hP.res.cell 0
      have a1 : wr.cell? ⟨b, 1, none⟩ = some (.int .i64 0) := hP.res.cell 1
      have af := hP.res.frozen
      have b0 : wr.cell? ⟨b + 1, 0, none⟩ = some (.int .i64 (valI l (l.length - 1) 0)) := hP.nums.cell 0
      have b1 : wr.cell? ⟨b + 1, 1, none⟩ = some (.int .i64 (valI l (l.length - 1) 1)) := hP.nums.cell 1
      have E := Lib.hid (actI_ok hL.out hn1 hn2 Hall.out)
      obtain ⟨X, hX⟩ : ∃ X, valI l (l.length - 1) 0 = X := ⟨_, rfl⟩
      obtain ⟨Y, hY⟩ : ∃ Y, valI l (l.length - 1) 1 = Y := ⟨_, rfl⟩
      obtain ⟨Z, hZ⟩ : ∃ Z, l.getD 0 ⟨#[]⟩ = Z := ⟨_, rfl⟩
      rw [hX] at b0 E
      rw [hY] at b1 E
      rw [hZ] at p0 E
      clear hX hY hZ hP
      have hpos : (0 : Int) < (l.length : Int) := by omega
      have hpos' : 0 < l.length := by omega
      go_wp2_with fail
      go_region
      go_wp2_with fail
      exact bodyPost_ret (v := .tuple #[.string Z, .agg #[.int .i64 X, .int .i64 Y], .int .i64 ((l.length : Int) - 1)]) (by simp [results, Tryd.results19, go_sem, a0, a1]) rfl
        ⟨by rw [E.out], by rw [HB.out]; exact ((hB.setCell (Nat.le_refl _) _).setCell (Nat.le_refl _) _).drew⟩
theorem splitB_sizes (sep : ByteArray) : ∀ (k : Nat) (s p : ByteArray), p ∈ Lib.splitB sep 0 k s → p.size ≤ s.size
  | 0, s, p, h => by rw [Lib.splitB_zero] at h; simp at h; rw [h]; exact Nat.le_refl _
  | k + 1, s, p, h => by
    unfold Lib.splitB at h
    split at h
    · simp at h; rw [h]; exact Nat.le_refl _
    · rcases List.mem_cons.1 h with h | h
      · rw [h, ByteArray.size_extract]; omega
      · have := splitB_sizes sep k _ p h
        rw [ByteArray.size_extract] at this
        omega
theorem actI_size (s : ByteArray) : (actI s).1.size ≤ s.size := by
  have hp : ∀ p, p ∈ piecesB s → p.size ≤ s.size := fun p h => splitB_sizes _ _ _ _ h
  have h0 : (⟨#[]⟩ : ByteArray).size ≤ s.size := Nat.zero_le _
  unfold actI
  match h : piecesB s with
  | [] => exact h0
  | [_] => exact h0
  | [a, p] => simp only; split <;> first | exact hp a (by rw [h]; simp) | exact h0
  | [a, p, q] => simp only; split <;> (try split) <;> first | exact hp a (by rw [h]; simp) | exact h0
  | _ :: _ :: _ :: _ :: _ => exact h0
end Go.Proofs.YtpdbkohfmkmemaaDoor
