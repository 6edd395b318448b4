/-
  The size of slices of slices of ints; their copies.
-/
import Derived.Test.YtoimhdhplebhgaaKOii
import Derived.Test.YtoimhdhplebhgaaKList
namespace Go.Proofs.Ytoimhdhplebhgaa
open Go.RowKit
set_option linter.unusedSimpArgs false
set_option linter.unusedVariables false

theorem szIntS_no (A : Option Addr) (c n : Nat) (left : Int) (w : World) (hn : n ≤ maxLen) (h0 : 0 ≤ left) (h1 : left ≤ 1048576) (h : left < n) : Calls Try.prog 27 #[.slice A n c, .int .i64 left] w fun e w' =>
    e = .returned (.int .i64 (-1)) ∧ w = w' := by
  unfold maxLen at hn
  go_enter Try.func27, Try.ntmps27
  go_wp2
  go_ret
  exact ⟨rfl, rfl⟩
theorem szIntS_ok (A : Option Addr) (c n : Nat) (left : Int) (w : World) (h1 : left ≤ 1048576) (h : n ≤ left) : Calls Try.prog 27 #[.slice A n c, .int .i64 left] w fun e w' =>
    e = .returned (.int .i64 (left - n)) ∧ w = w' := by
  go_enter Try.func27, Try.ntmps27
  go_wp2
  go_ret
  exact ⟨rfl, rfl⟩
abbrev IRow := Option Addr × List Int × Nat
abbrev RLI := RL encI 1
/-- The lists of the rows. -/
def rowsOf (R : List IRow) : List (List Int) := R.map fun r => r.2.1
theorem rowsOf_length (R : List IRow) : (rowsOf R).length = R.length := by simp [rowsOf]
def szR (M : List (List Int)) (k : Nat) : Nat := ((M.map List.length).take k).sum
def szAll (M : List (List Int)) : Nat := M.length + (M.map List.length).sum
theorem szR_succ {M : List (List Int)} {k : Nat} (h : k < M.length) : szR M (k + 1) = szR M k + M[k].length := by
  unfold szR
  rw [take_snoc (M.map List.length) k (by simpa using h), List.sum_append]
  simp
theorem szR_all (M : List (List Int)) : M.length + szR M M.length = szAll M := by
  unfold szR szAll
  rw [List.take_of_length_le (by simp)]
theorem szR_le (M : List (List Int)) (k : Nat) : M.length + szR M k ≤ szAll M := by
  have h := sum_take_le (M.map List.length) k
  unfold szR szAll
  omega
def leftR (M : List (List Int)) (left : Int) : Int := if (szAll M : Int) ≤ left then left - szAll M else -1
theorem leftR_ok {M : List (List Int)} {left : Int} (h : (szAll M : Int) ≤ left) : leftR M left = left - szAll M := if_pos h
theorem leftR_no {M : List (List Int)} {left : Int} (h : left < (szAll M : Int)) : leftR M left = -1 := if_neg (by omega)
theorem rl_at {w : World} {B : Nat} {A : Option Addr} {R : List IRow} (h : RLI w B A R) {k : Nat} (hk : k < R.length) : ∃ ad, A = some ad ∧ ad.block < B ∧ w.cell? (ad.add k) = some (.slice R[k].1 R[k].2.1.length R[k].2.2) ∧ R[k].2.2 ≤ maxLen ∧ R[k].2.1.length ≤ R[k].2.2 ∧ RI w B R[k].1 R[k].2.1 := by
  obtain ⟨ad, h1, h2, h3, h4, h5, h6⟩ := h.at_ hk
  refine ⟨ad, h1, h2, h3, h5, h4, ?_⟩
  rw [encI_ints] at h6
  exact h6
set_option maxHeartbeats 2000000 in
theorem szIntSS_any (A : Option Addr) (c : Nat) (R : List IRow) (left : Int) (w : World) (h : RLI w w.heap.size A R) (hm : R.length ≤ maxLen) (h0 : 0 ≤ left) (h1 : left ≤ 1048576) :
    Calls Try.prog 11 #[.slice A R.length c, .int .i64 left] w fun e w' => e = .returned (.int .i64 (leftR (rowsOf R) left)) ∧ w = w' := by
  by_cases hs : (R.length : Int) ≤ left
  · go_enter Try.func11, Try.ntmps11
    go_wp2
    go_loop [1, 5] (fun m i => ∃ k : Nat, k ≤ R.length ∧ i = .int .i64 k ∧ m = .int .i64 (left - R.length - szR (rowsOf R) k) ∧ 0 ≤ left - R.length - szR (rowsOf R) k) (fun _ i => R.length - (intOf i).toNat)
    case atStart => exact ⟨0, Nat.zero_le _, rfl, by simp [szR], by simp [szR]; omega⟩
    case round =>
      obtain ⟨k, hk, rfl, rfl, hpos⟩ := hrel
      by_cases hlt : k < R.length
      · obtain ⟨ad, rfl, hb, hc, hcm, hlc, hR⟩ := rl_at h hlt
        have Hsuc : Hid (szR (rowsOf R) (k + 1) = szR (rowsOf R) k + R[k].2.1.length) := Lib.hid (by
          have := szR_succ (M := rowsOf R) (k := k) (by simpa [rowsOf_length] using hlt)
          rw [this]; simp [rowsOf])
        have hle : Hid ((rowsOf R).length + szR (rowsOf R) (k + 1) ≤ szAll (rowsOf R)) := Lib.hid (szR_le (rowsOf R) (k + 1))
        obtain ⟨t, ht⟩ : ∃ t, szR (rowsOf R) k = t := ⟨_, rfl⟩
        have Ht := Lib.hid ht
        rw [ht] at hpos ⊢
        rw [ht] at Hsuc
        obtain ⟨r, hr⟩ : ∃ r, R[k] = r := ⟨_, rfl⟩
        rw [hr] at hc hcm hlc Hsuc
        obtain ⟨A1, l1, c1⟩ := r
        simp only at hc hcm hlc Hsuc
        clear ht hr hR h
        by_cases hfit : (l1.length : Int) ≤ left - R.length - t
        · go_wp2_with (go_at_call 27; refine (szIntS_ok A1 c1 l1.length _ _ (by omega) hfit).mono ?_; rintro e w1 ⟨rfl, rfl⟩)
          go_round
          case rel =>
            have e1 := Hsuc.out
            exact ⟨k + 1, by omega, by go_num, by rw [e1]; congr 1; omega, by rw [e1]; omega⟩
          case measure => simp [intOf]; omega
        · have E : Hid (leftR (rowsOf R) left = -1) := Lib.hid (leftR_no (by have e1 := Hsuc.out; have e2 := hle.out; simp only [rowsOf_length] at e2; omega))
          go_wp2_with (go_at_call 27; refine (szIntS_no A1 c1 l1.length _ _ (by omega) (by omega) (by omega) (by omega)).mono ?_; rintro e w1 ⟨rfl, rfl⟩)
          go_ret
          exact ⟨ret_int E.out.symm, rfl⟩
      · obtain rfl : k = R.length := by omega
        have E : Hid (leftR (rowsOf R) left = left - R.length - szR (rowsOf R) R.length) := Lib.hid (by
          have hall := szR_all (rowsOf R)
          simp only [rowsOf_length] at hall
          rw [leftR_ok (by omega)]; omega)
        go_wp2
        go_ret
        exact ⟨ret_int E.out.symm, rfl⟩
  · have E : Hid (leftR (rowsOf R) left = -1) := Lib.hid (leftR_no (by have := szR_le (rowsOf R) 0; simp only [rowsOf_length] at this; omega))
    have h' : left < (R.length : Int) := by omega
    unfold maxLen at hm
    clear h hs
    go_enter Try.func11, Try.ntmps11
    go_wp2
    go_ret
    exact ⟨ret_int E.out.symm, rfl⟩
/-- Headers laid one by one. -/
def hdrTo (V : List Value) (n : Nat) : Array Value := (V ++ List.replicate (n - V.length) (Value.slice none 0 0)).toArray
theorem hdrTo_set (V : List Value) (n : Nat) (h : V.length < n) (u : Value) : (hdrTo V n).setIfInBounds V.length u = hdrTo (V ++ [u]) n := by
  unfold hdrTo
  rw [show n - V.length = (n - (V ++ [u]).length) + 1 by simp; omega, List.replicate_succ]
  simp
/-- .. and the rows, each in a block of its own. -/
structure Copied (w wr : World) (M : List (List Int)) (V : List Value) : Prop where
  len : V.length ≤ M.length
  blk : Blk wr w.heap.size 25 (hdrTo V M.length)
  row : ∀ (i : Nat) (u : Value) (l : List Int), V[i]? = some u → M[i]? = some l → wr.ownsRow (w.heap.size + 1) 3 1 u l.length (ints l)
  apart : ∀ (i j : Nat) (u u' : Value), i ≠ j → V[i]? = some u → V[j]? = some u' → ∀ k, u.ownBlock = some k → u'.ownBlock ≠ some k
theorem Copied.start (w : World) (M : List (List Int)) : Copied w (w.alloc (.cells (Array.replicate M.length (.slice none 0 0)) 25)) M [] :=
  ⟨Nat.zero_le _, by have := Blk.new w 25 (Array.replicate M.length (.slice none 0 0)); simpa [hdrTo] using this, fun i u l h => by simp at h, fun i j u u' _ h => by simp at h⟩
theorem Copied.next {w wr w2 : World} {M : List (List Int)} {V : List Value} (h : Copied w wr M V) (hlt : V.length < M.length) (hw : w.heap.size < wr.heap.size) (hb : Below wr.heap.size wr w2) {g : Nat} (hg : wr.heap.size ≤ g) (hB : Blk w2 g 3 (ints M[V.length]).toArray) (hl : M[V.length].length ≤ 1048576) :
    Copied w (w2.setCell ⟨w.heap.size, V.length, none⟩ (.slice (some ⟨g, 0, none⟩) M[V.length].length M[V.length].length)) M (V ++ [.slice (some ⟨g, 0, none⟩) M[V.length].length M[V.length].length]) := by
  have hne : ∀ b, b ≠ w.heap.size → (w2.setCell ⟨w.heap.size, V.length, none⟩ (.slice (some ⟨g, 0, none⟩) M[V.length].length M[V.length].length)).heap[b]? = w2.heap[b]? := fun b hb => Below.heap_setCell _ _ _ _ hb
  refine ⟨by simp; omega, ?_, fun i u l h1 h2 => ?_, fun i j u u' hij h1 h2 k hk hk' => ?_⟩
  · rw [← hdrTo_set V M.length hlt]
    exact Blk.set_ ((hb.block _ hw).trans h.blk) _ _
  · rcases List.getElem?_append (l₁ := V) ▸ h1 with _
    by_cases hi : i < V.length
    · rw [List.getElem?_append_left hi] at h1
      have h3 := h.row i u l h1 h2
      exact own_blocks h3 fun b hb' => by
        have := h3.lt b hb'
        rw [hne b (by omega)]; exact hb.block b this.2
    · rw [List.getElem?_append_right (by omega)] at h1
      have hi0 : i - V.length = 0 := by
        rcases Nat.eq_zero_or_pos (i - V.length) with e | e
        · exact e
        · rw [List.getElem?_eq_none (by simp; omega)] at h1; cases h1
      have hi' : i = V.length := by omega
      subst hi'
      simp only [Nat.sub_self, List.getElem?_cons_zero, Option.some.injEq] at h1
      subst h1
      rw [List.getElem?_eq_getElem hlt] at h2
      obtain rfl := Option.some.inj h2
      exact ownsRow_blk ((hne g (by omega)).trans hB) (by omega) hl
  · have key : ∀ (a : Nat) (x : Value), (V ++ [Value.slice (some ⟨g, 0, none⟩) M[V.length].length M[V.length].length])[a]? = some x → (a < V.length ∧ V[a]? = some x ∧ ∀ k, x.ownBlock = some k → k < wr.heap.size) ∨ (a = V.length ∧ x.ownBlock = some g) := by
      intro a x hx
      by_cases ha : a < V.length
      · rw [List.getElem?_append_left ha] at hx
        exact .inl ⟨ha, hx, fun k hk => ((h.row a x M[a] hx (List.getElem?_eq_getElem (by omega))).lt k hk).2⟩
      · rw [List.getElem?_append_right (by omega)] at hx
        rcases Nat.eq_zero_or_pos (a - V.length) with e | e
        · rw [e] at hx
          simp only [List.getElem?_cons_zero, Option.some.injEq] at hx
          subst hx
          exact .inr ⟨by omega, rfl⟩
        · rw [List.getElem?_eq_none (by simp; omega)] at hx; cases hx
    rcases key i u h1 with ⟨a1, a2, a3⟩ | ⟨a1, a2⟩ <;> rcases key j u' h2 with ⟨b1, b2, b3⟩ | ⟨b1, b2⟩
    · exact h.apart i j u u' hij a2 b2 k hk hk'
    · have := a3 k hk
      rw [b2] at hk'
      have := Option.some.inj hk'
      omega
    · have := b3 k hk'
      rw [a2] at hk
      have := Option.some.inj hk
      omega
    · omega
theorem Copied.oii {w wr : World} {M : List (List Int)} {V : List Value} (h : Copied w wr M V) (he : V.length = M.length) (hm : M.length ≤ 1048576) : OII wr w.heap.size (.slice (some ⟨w.heap.size, 0, none⟩) M.length M.length) V M := by
  refine ⟨he.symm, ⟨by simp, .inr ⟨w.heap.size, M.length, hdrTo V M.length, by rw [he], Nat.le_refl _, h.blk, by omega, by unfold maxLen; omega, by simp [hdrTo]; omega, ?_⟩⟩, fun i u l h1 h2 => own_mono (h.row i u l h1 h2) (Nat.le_succ _), h.apart⟩
  simp only [hdrTo, ← he]
  simp
/-- The answer. -/
def NewCopy (w : World) (M : List (List Int)) (e : Ending) (w' : World) : Prop :=
  ∃ V, e = .returned (.slice (some ⟨w.heap.size, 0, none⟩) M.length M.length) ∧ OII w' w.heap.size (.slice (some ⟨w.heap.size, 0, none⟩) M.length M.length) V M ∧ Below w.heap.size w w'
set_option maxHeartbeats 4000000 in
theorem toIntSS_wp (A : Option Addr) (c : Nat) (R : List IRow) (w : World) (h : RLI w w.heap.size A R) (hn : R.length ≤ 1048576) (hn2 : ∀ l ∈ rowsOf R, l.length ≤ 1048576) {cd : Code} (hb : Try.f12.body = some cd) :
    cd.wp Try.prog (bodyPost Try.prog Try.f12 (NewCopy w (rowsOf R))) { tmps := #[.slice A R.length c] ++ Array.replicate (Try.f12.ntmps - (#[Value.slice A R.length c] : Array Value).size) undef, defers := [] } w := by
  obtain ⟨i0, hi, hz0, hz1, hz2⟩ := info_parts ints_info
  have hmk := fun W => run_makeN (P := Try.prog) 23 25 i0 _ Try.underlying23 hi hz0 hz1 rfl (by omega) R.length R.length (Nat.le_refl _) (by omega) W
  clear hi hz0 hz1 hz2
  cases hb
  simp only [Try.ntmps12, List.size_toArray, List.length_cons, List.length_nil, Nat.reduceAdd, Nat.reduceSub, Array.replicate_succ, Array.replicate_zero, List.push_toArray, List.append_toArray, List.nil_append, List.cons_append]
  go_wp2
  go_loopw [4] (fun i wr => ∃ (k : Nat) (V : List Value), k ≤ R.length ∧ i = .int .i64 k ∧ V.length = k ∧ Copied w wr (rowsOf R) V ∧ Below w.heap.size w wr ∧ w.heap.size < wr.heap.size) (fun i _ => R.length - (intOf i).toNat)
  case atStart => exact ⟨0, [], Nat.zero_le _, rfl, rfl, by have := Copied.start w (rowsOf R); rwa [rowsOf_length] at this, (Below.refl _ _).alloc (Nat.le_refl _) _, by simp⟩
  case round =>
    obtain ⟨k, V, hk, rfl, hVk, hco, hbel, hws⟩ := hrel
    by_cases hlt : k < R.length
    · have hk' : k < (rowsOf R).length := by simpa [rowsOf_length] using hlt
      obtain ⟨ad, rfl, hb, hc, hcm, hlc, hR⟩ := rl_at ((h.below hbel).more hbel.size) hlt
      have hn1 : R[k].2.1.length ≤ 1048576 := hn2 _ (by simp only [rowsOf]; exact List.mem_map_of_mem (List.getElem_mem hlt))
      have hVl : V.length < (rowsOf R).length := by omega
      have Hk : Hid ((rowsOf R)[V.length]'hVl = R[k].2.1) := Lib.hid (by subst hVk; simp [rowsOf])
      have Hco := Lib.hid hco
      obtain ⟨r, hr⟩ : ∃ r, R[k] = r := ⟨_, rfl⟩
      rw [hr] at hc hcm hlc hR hn1 Hk
      obtain ⟨A1, l1, c1⟩ := r
      simp only at hc hcm hlc hR hn1 Hk
      have hcell := hco.blk.cell k
      have hfz := hco.blk.frozen k
      have hcell0 : ∃ v, wr.cell? ⟨w.heap.size, k, none⟩ = some v := ⟨_, hcell.trans (Array.getElem?_eq_getElem (by simp [hdrTo]; omega))⟩
      obtain ⟨v0, hcell1⟩ := hcell0
      clear hr h hn2 hco hcell
      have HVk := Lib.hid hVk
      clear hVk
      go_wp2_with fail
      refine (toIntS_any A1 c1 l1 wr hR hn1).mono ?_
      rintro e w2 ⟨g, rfl, hg, hB, hb2⟩
      have hcell2 := (hb2.cell (p := ⟨w.heap.size, k, none⟩) hws).trans hcell1
      have hfz2 := (hb2.frozen (p := ⟨w.heap.size, k, none⟩) hws).trans hfz
      have HB := Lib.hid hB
      clear hcell1 hfz hB
      go_wp2_with fail
      have hsz2 := hb2.size
      have hnx := Hco.out.next hVl hws hb2 hg (by rw [Hk.out]; exact HB.out) (by rw [Hk.out]; exact hn1)
      rw [Hk.out, HVk.out] at hnx
      go_roundw
      case rel => exact ⟨k + 1, _, by omega, by go_num, by simp [HVk.out], hnx, (hbel.trans (hb2.mono (by omega))).setCell (Nat.le_refl _) _, by simp [World.setCell]; omega⟩
      case measure => simp [intOf]; omega
    · obtain rfl : k = R.length := by omega
      have ho := hco.oii (by rw [hVk]; simp [rowsOf_length]) (by simpa [rowsOf_length] using hn)
      have Ho := Lib.hid ho
      clear hco h hn2 ho
      go_wp2
      go_ret
      exact ⟨V, by rw [rowsOf_length]; rfl, Ho.out, hbel⟩
theorem toIntSS_any (A : Option Addr) (c : Nat) (R : List IRow) (w : World) (h : RLI w w.heap.size A R) (hn : R.length ≤ 1048576) (hn2 : ∀ l ∈ rowsOf R, l.length ≤ 1048576) :
    Calls Try.prog 12 #[.slice A R.length c] w (NewCopy w (rowsOf R)) := calls_of_wp Try.func12 rfl (toIntSS_wp A c R w h hn hn2 rfl)
end Go.Proofs.Ytoimhdhplebhgaa
