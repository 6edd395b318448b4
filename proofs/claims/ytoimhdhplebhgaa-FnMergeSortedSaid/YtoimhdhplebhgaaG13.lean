/-
  The lists that are drawn for merging: some few short lists, each of its own.
-/
import Derived.Test.YtoimhdhplebhgaaKOii
import Derived.Test.YtoimhdhplebhgaaKDraw3M
import Derived.Test.YtoimhdhplebhgaaKSpecA
namespace Go.Proofs.Ytoimhdhplebhgaa
open Go.RowKit
set_option linter.unusedSimpArgs false
set_option linter.unusedVariables false

section
variable {w w' w2 w3 : World} {base : Nat} {v : Value} {V : List Value} {M : List (List Int)}
theorem OII.grownR (h : OII w base v V M) {row : Option Nat} (hg : w.grownBy w' row) (hr : ∀ k, row = some k → k < base) : OII w' base v V M :=
  ⟨h.len, own_mark h.hdr hg (fun k hk e => by have := (h.hdr.lt k hk).1; have := hr k e; omega), fun i u l h1 h2 => own_mark (h.row i u l h1 h2) hg (fun k hk e => by have := ((h.row i u l h1 h2).lt k hk).1; have := hr k e; omega), h.apart⟩
theorem OII.snoc2 (h : OII w2 base v V M) {r v' : Value} {l : List Int} (hr : w2.ownsRow base 3 1 r l.length (ints l)) (hd : ∀ (i : Nat) (u : Value), V[i]? = some u → ∀ k, u.ownBlock = some k → r.ownBlock ≠ some k) (o : Obj)
    (hown : w3.ownsRow base 25 1 v' (V.length + 1) (V ++ [r])) (hg : (w2.alloc o).grownBy w3 v.ownBlock) : OII w3 base v' (V ++ [r]) (M ++ [l]) := by
  refine ⟨by simp [h.len], by simpa using hown, fun i u l' h1 h2 => ?_, fun i j u u' hij h1 h2 k hk hk' => ?_⟩
  · rcases snoc_get h1 with ⟨hi, h3⟩ | ⟨hi, e3⟩
    · rcases snoc_get h2 with ⟨_, h4⟩ | ⟨hi2, _⟩
      · have h5 := h.row i u l' h3 h4
        exact own_mark (World.ownsRow.alloc h5 o) hg (own_types h5 h.hdr (by decide))
      · have := h.len
        omega
    · rcases snoc_get h2 with ⟨hi2, _⟩ | ⟨_, e4⟩
      · have := h.len
        omega
      · rw [e3, e4]
        exact own_mark (World.ownsRow.alloc hr o) hg (own_types hr h.hdr (by decide))
  · rcases snoc_get h1 with ⟨hi, h3⟩ | ⟨hi, e3⟩
    · rcases snoc_get h2 with ⟨hj, h4⟩ | ⟨hj, e4⟩
      · exact h.apart i j u u' hij h3 h4 k hk hk'
      · rw [e4] at hk'
        exact hd i u h3 k hk hk'
    · rcases snoc_get h2 with ⟨hj, h4⟩ | ⟨hj, e4⟩
      · rw [e3] at hk
        exact hd j u' h4 k hk' hk
      · omega
theorem OII.rowsLt (h : OII w base v V M) {i : Nat} {u : Value} (hu : V[i]? = some u) : ∀ k, u.ownBlock = some k → base ≤ k ∧ k < w.heap.size := by
  intro k hk
  have hi : i < M.length := by rw [h.len]; exact (List.getElem?_eq_some_iff.1 hu).1
  exact (h.row i u M[i] hu (List.getElem?_eq_getElem hi)).lt k hk
end
theorem alloc_size_ (v : World) (o : Obj) : (v.alloc o).heap.size = v.heap.size + 1 := by simp
/-- Another row has grown. -/
theorem oii_other {w w' wc : World} {base B : Nat} {v lv : Value} {V : List Value} {M : List (List Int)} {L : List Int} (h : OII w base v V M) (hg : w.grownBy w' lv.ownBlock) (hl : wc.ownsRow B 3 1 lv L.length (ints L)) (hh : wc.ownsRow base 25 1 v V.length V)
    (hV : ∀ (i : Nat) (u : Value), V[i]? = some u → ∀ k, u.ownBlock = some k → k < B) (hv : ∀ q, lv.ownBlock = some q → B ≤ q) : OII w' base v V M :=
  ⟨h.len, own_mark h.hdr hg (fun k hk e => own_types hl hh (by decide) k e hk), fun i u l h1 h2 => own_mark (h.row i u l h1 h2) hg (fun k hk e => by have := hV i u h1 k hk; have := hv k e; omega), h.apart⟩
/-- Lists that are drawn. -/
def DrawnLists (w : World) (R B : Nat) (A : Option Addr) (c : Nat) (l : List Int) (e : Ending) (w' : World) : Prop :=
  ∃ (V : List Value) (M : List (List Int)) (A' : Option Addr) (c' : Nat) (p' : Int), e = .returned (.slice A' M.length c') ∧ M.length ≤ 4 ∧ (∀ l ∈ M, l.length ≤ 41) ∧ OII w' w.heap.size (.slice A' M.length c') V M ∧ Rdr w' R B A c l p' ∧ w.grownBy w' (some R)
theorem snoc_le {M : List (List Int)} {l : List Int} {n : Nat} (h : ∀ x ∈ M, x.length ≤ n) (hl : l.length ≤ n) : ∀ x ∈ M ++ [l], x.length ≤ n := by
  intro x hx
  rcases List.mem_append.1 hx with h1 | h1
  · exact h x h1
  · rw [List.mem_singleton.1 h1]; exact hl
/-- the end -/
theorem draw_end {w w' : World} {R B c : Nat} {A : Option Addr} {l : List Int} {p' : Int} {v' : Value} {V : List Value} {M : List (List Int)} (hod : OII w' w.heap.size v' V M) (h4 : M.length ≤ 4) (hM : ∀ l ∈ M, l.length ≤ 41) (hr : Rdr w' R B A c l p') (hg : w.grownBy w' (some R)) : DrawnLists w R B A c l (.returned v') w' := by
  obtain ⟨A', c', rfl⟩ := hod.form
  exact ⟨V, M, A', c', _, rfl, h4, hM, hod, hr, hg⟩
set_option maxHeartbeats 16000000 in
theorem l5Some_any (R B c : Nat) (A : Option Addr) (l : List Int) (asc : Bool) (w : World) (h : Rdr w R B A c l 0) :
    Calls Try.prog 21 #[.pointer (some ⟨R, 0, none⟩), .bool asc] w (DrawnLists w R B A c l) := by
  obtain ⟨i0, hi, hz0, hz1, hz2⟩ := info_parts int_info
  obtain ⟨i1, hj, hy0, hy1, hy2⟩ := info_parts ints_info
  have hR := h.blk.lt
  go_enter Try.func21, Try.ntmps21
  go_wp2_with fail
  refine (pick_any R B c A l 0 4 _ (h.alloc _) (by omega) (by omega) (by omega)).mono ?_
  rintro e w1 ⟨n, n0, n4, rfl, h1, hg1⟩
  have hg1' : w.grownBy w1 (some R) := grownBy_trans (World.grownBy_alloc w _ _) hg1
  have o1 : OII w1 w.heap.size (.slice (some ⟨w.heap.size, 0, none⟩) 0 0) [] [] := (OII.empty w).grownR hg1 (fun k e => by injection e with e; omega)
  clear h hg1
  go_wp2_with fail
  go_loopw [5, 6] (fun v i wr => ∃ (m : Nat) (V : List Value) (M : List (List Int)) (p' : Int), i = .int .i64 m ∧ m + M.length ≤ 3 ∧ (∀ l ∈ M, l.length ≤ 4) ∧ OII wr w.heap.size v V M ∧ Rdr wr R B A c l p' ∧ p' ≤ 1 + 20 * M.length ∧ w.grownBy wr (some R)) (fun _ i _ => (intOf i).toNat)
  case atStart =>
    obtain ⟨m, rfl⟩ := Int.eq_ofNat_of_zero_le n0
    exact ⟨m, [], [], 1, rfl, by simp; omega, by simp, o1, h1, by simp, hg1'⟩
  case round =>
    obtain ⟨m, V, M, p', rfl, hm, hM, ho, hr, hp', hg⟩ := hrel
    clear o1 h1 hg1'
    have hs := hg.size
    rename World => w5
    by_cases hlt : 0 < m
    · have hrl := hr.blk.lt
      go_wp2_with fail
      refine (pick_any R B c A l p' 5 _ (hr.alloc _) (by omega) (by omega) (by omega)).mono ?_
      rintro e wa ⟨k, k0, k5, rfl, ha, hga⟩
      have hga' : w.grownBy wa (some R) := grownBy_trans hg (grownBy_trans (World.grownBy_alloc w5 _ _) hga)
      have oa : OII wa w.heap.size u5 V M := (ho.below ((Below.refl _ _).alloc (Nat.le_refl _) _)).grownR hga (fun k e => by injection e with e; omega)
      have la := (ownsRow_empty w5).kept hga (.inr (by simp [Value.ownBlock]; omega))
      have hsa : w5.heap.size < wa.heap.size := by have := hga.size; rw [alloc_size_] at this; omega
      have hVl : ∀ (i : Nat) (u : Value), V[i]? = some u → ∀ k, u.ownBlock = some k → k < w5.heap.size := fun i u hu k hk => (ho.rowsLt hu k hk).2
      clear ho hr hg hga
      go_wp2_with fail
      go_loopw [7, 8, 9] (fun lv zv i wx => ∃ (q : Nat) (L : List Int) (z : Int) (pp : Int), i = .int .i64 q ∧ q + L.length ≤ 4 ∧ zv = .int .i64 z ∧ wx.ownsRow w5.heap.size 3 1 lv L.length (ints L) ∧ OII wx w.heap.size u5 V M ∧ Rdr wx R B A c l pp ∧ pp ≤ p' + 1 + 2 * L.length ∧ w.grownBy wx (some R) ∧ w5.heap.size < wx.heap.size) (fun _ _ i _ => (intOf i).toNat)
      case atStart =>
        obtain ⟨q, rfl⟩ := Int.eq_ofNat_of_zero_le k0
        exact ⟨q, [], 0, p' + 1, rfl, by simp; omega, rfl, by simpa [ints] using la, oa, ha, by simp, hga', hsa⟩
      case round =>
        obtain ⟨q, L, z, pp, rfl, hq, rfl, hl, hoo, hrr, hpp, hgg, hsx⟩ := hrel
        clear la oa ha hga' hsa
        by_cases hq0 : 0 < q
        · cases asc
          · go_wp2_with fail
            refine (pick_any R B c A l pp 4 wr hrr (by omega) (by omega) (by omega)).mono ?_
            rintro e wb ⟨x, x0, x4, rfl, hb, hgb⟩
            have hlb := hl.kept hgb (.inr (fun e => by have := (hl.lt R e).1; omega))
            have hob := hoo.grownR hgb (fun k e => by injection e with e; omega)
            have hggb := grownBy_trans hgg hgb
            clear hl hoo hrr hgg
            go_wp2_with fail
            refine (pick_any R B c A l (pp + 1) 10 wb hb (by omega) (by omega) (by omega)).mono ?_
            rintro e wc ⟨y, y0, y10, rfl, hc, hgc⟩
            have hlc := hlb.kept hgc (.inr (fun e => by have := (hlb.lt R e).1; omega))
            have hoc := hob.grownR hgc (fun k e => by injection e with e; omega)
            have hggc := grownBy_trans hggb hgc
            have hsc : w5.heap.size < wc.heap.size := by have := hgb.size; have := hgc.size; omega
            have hv : ∀ q, u7.ownBlock = some q → w5.heap.size ≤ q := fun q hq => (hlc.lt q hq).1
            clear hlb hob hb hggb hgb hgc
            go_wp2_with (at_builtin; refine wpList_append_own_at _ rfl _ _ 25 rfl w5.heap.size 3 i0 (.int .i64 0) 1 8 Try.underlying25 hi hz0 hz1 hz2 rfl (by decide) u7 _ _ rfl (hlc.alloc _) ⟨wc.heap.size, 0, none⟩ 1 1 [.int .i64 y] rfl rfl (cell_one_new _ _ _) (ints_oneCell .i64 [y]) ?_ ?_ ?_ ?_; (unfold maxLen; omega); omega; (simp; omega); intro v' wd hown' hgrow hnil hloc)
            have hgd := grownBy_new (grownBy_trans hggc (World.grownBy_alloc wc _ _)) hgrow (fun g e => by have := hv g e; omega)
            have hrd := (hc.alloc _).grown hgrow (fun k hk => by have := hv k hk; omega)
            have hod : OII wd w.heap.size u5 V M := oii_other (hoc.below ((Below.refl _ _).alloc (Nat.le_refl _) _)) hgrow hlc (hoc.hdr) hVl hv
            go_roundw
            case rel => exact ⟨q - 1, L ++ [y], y, pp + 1 + 1, by congr 1; omega, by simp; omega, rfl, by simpa [ints] using hown', hod, hrd, by simp; omega, hgd, by have := hgrow.size; rw [alloc_size_] at this; omega⟩
            case measure => simp [intOf]; omega
          · go_wp2_with fail
            refine (pick_any R B c A l pp 4 wr hrr (by omega) (by omega) (by omega)).mono ?_
            rintro e wc ⟨x, x0, x4, rfl, hc, hgc⟩
            have hlc := hl.kept hgc (.inr (fun e => by have := (hl.lt R e).1; omega))
            have hoc := hoo.grownR hgc (fun k e => by injection e with e; omega)
            have hggc := grownBy_trans hgg hgc
            have hsc : w5.heap.size < wc.heap.size := by have := hgc.size; omega
            have hv : ∀ q, u7.ownBlock = some q → w5.heap.size ≤ q := fun q hq => (hlc.lt q hq).1
            clear hl hoo hrr hgg hgc
            go_wp2_with (at_builtin; refine wpList_append_own_at _ rfl _ _ 25 rfl w5.heap.size 3 i0 (.int .i64 0) 1 8 Try.underlying25 hi hz0 hz1 hz2 rfl (by decide) u7 _ _ rfl (hlc.alloc _) ⟨wc.heap.size, 0, none⟩ 1 1 [.int .i64 (wrap64 (z + x))] rfl rfl (cell_one_new _ _ _) (ints_oneCell .i64 [wrap64 (z + x)]) ?_ ?_ ?_ ?_; (unfold maxLen; omega); omega; (simp; omega); intro v' wd hown' hgrow hnil hloc)
            have hgd := grownBy_new (grownBy_trans hggc (World.grownBy_alloc wc _ _)) hgrow (fun g e => by have := hv g e; omega)
            have hrd := (hc.alloc _).grown hgrow (fun k hk => by have := hv k hk; omega)
            have hod : OII wd w.heap.size u5 V M := oii_other (hoc.below ((Below.refl _ _).alloc (Nat.le_refl _) _)) hgrow hlc (hoc.hdr) hVl hv
            go_roundw
            case rel => exact ⟨q - 1, L ++ [wrap64 (z + x)], wrap64 (z + x), pp + 1, by congr 1; omega, by simp; omega, rfl, by simpa [ints] using hown', hod, hrd, by simp; omega, hgd, by have := hgrow.size; rw [alloc_size_] at this; omega⟩
            case measure => simp [intOf]; omega
        · obtain rfl : q = 0 := by omega
          have hv5 : ∀ q, u5.ownBlock = some q → w.heap.size ≤ q := fun q hq => (hoo.hdr.lt q hq).1
          have hVlen := hoo.len
          obtain ⟨Al, cl, rfl⟩ := own_form hl
          go_wp2_with (at_builtin; refine wpList_append_own_at _ rfl _ _ 23 rfl w.heap.size 25 i1 (.slice none 0 0) 1 24 Try.underlying23 hj hy0 hy1 hy2 rfl (by decide) u5 _ _ rfl (hoo.hdr.alloc _) ⟨wr.heap.size, 0, none⟩ 1 1 [.slice Al L.length cl] rfl rfl (cell_one_new _ _ _) (by intro u hu; obtain rfl := List.mem_singleton.1 hu; rfl) ?_ ?_ ?_ ?_; (unfold maxLen; omega); omega; (simp; omega); intro v' wd hown' hgrow hnil hloc)
          have hgd := grownBy_new (grownBy_trans hgg (World.grownBy_alloc wr _ _)) hgrow hv5
          have hrd := (hrr.alloc _).grown hgrow (fun k hk => by have := hv5 k hk; omega)
          have hod := hoo.snoc2 (own_mono hl (by omega)) (fun i u hu k hk e => by have := hVl i u hu k hk; have := (hl.lt k e).1; omega) _ hown' hgrow
          go_roundw
          case rel => exact ⟨m - 1, _, _, pp, by congr 1; omega, by simp; omega, snoc_le hM (by omega), hod, hrd, by simp; omega, hgd⟩
          case measure => simp [intOf]; omega
    · obtain rfl : m = 0 := by omega
      have hrl := hr.blk.lt
      go_wp2_with fail
      refine (pick_any R B c A l p' 24 w5 hr (by omega) (by omega) (by omega)).mono ?_
      rintro e wa ⟨x, x0, x24, rfl, ha, hga⟩
      have oa : OII wa w.heap.size u5 V M := ho.grownR hga (fun k e => by injection e with e; omega)
      have hgga := grownBy_trans hg hga
      have hsa := hgga.size
      have hv5 : ∀ q, u5.ownBlock = some q → w.heap.size ≤ q := fun q hq => (oa.hdr.lt q hq).1
      have hVlen := oa.len
      have hM' : ∀ x ∈ M, x.length ≤ 41 := fun x hx => by have := hM x hx; omega
      clear ho hr hg hga
      by_cases hx0 : x = 0
      · subst hx0
        go_wp2_with fail
        have hlit := lit_ints wa (R + 1) [1001, -1, 9223372036854775807] (by have := ha.blk.lt; omega) (by decide)
        refine (num_any R B c A l (p' + 1) _ _ [1001, -1, 9223372036854775807] _ (ha.alloc _) (by omega) hlit (by decide) (by decide)).mono ?_
        rintro e wb ⟨y, _, rfl, hb, hgb⟩
        clear hlit
        have hggb := grownBy_trans hgga (grownBy_trans (World.grownBy_alloc wa _ _) hgb)
        have ob := (oa.below ((Below.refl _ _).alloc (Nat.le_refl _) _)).grownR hgb (fun k e => by injection e with e; omega)
        have hsb := hggb.size
        go_wp2_with (at_builtin; refine wpList_append_own_at _ rfl _ _ 23 rfl w.heap.size 25 i1 (.slice none 0 0) 1 24 Try.underlying23 hj hy0 hy1 hy2 rfl (by decide) u5 _ _ rfl ((ob.hdr.alloc _).alloc _) ⟨wb.heap.size + 1, 0, none⟩ 1 1 [.slice (some ⟨wb.heap.size, 0, none⟩) 1 1] rfl rfl (by have h0 := cell_one_new (wb.alloc (.cells #[.int .i64 y] 3)) (.slice (some ⟨wb.heap.size, 0, none⟩) 1 1) 25; rw [alloc_size_] at h0; exact h0) (by intro u hu; obtain rfl := List.mem_singleton.1 hu; rfl) ?_ ?_ ?_ ?_; (unfold maxLen; omega); omega; (simp; omega); intro v' wd hown' hgrow hnil hloc)
        have hgd := grownBy_new (grownBy_trans (grownBy_trans hggb (World.grownBy_alloc wb _ _)) (World.grownBy_alloc _ _ _)) hgrow hv5
        have hrd := ((hb.alloc _).alloc _).grown hgrow (fun k hk => by have := hv5 k hk; omega)
        have hod := (ob.below ((Below.refl _ _).alloc (Nat.le_refl _) _)).snoc2 (own_mono (lit_ints wb wb.heap.size [y] (Nat.le_refl _) (by simp)) (by omega)) (fun i u hu k hk e => by have h1 := (ob.rowsLt hu k hk).2; simp only [Value.ownBlock, Option.some.injEq] at e; omega) _ hown' hgrow
        go_ret
        exact draw_end hod (by simp; omega) (snoc_le hM' (by simp)) hrd hgd
      · have e0 : (x == 0) = false := by rw [beq_eq_false_iff_ne]; exact hx0
        by_cases hx1 : x = 1
        · subst hx1
          go_wp2_with (at_builtin; refine wpList_append_own_at _ rfl _ _ 23 rfl w.heap.size 25 i1 (.slice none 0 0) 1 24 Try.underlying23 hj hy0 hy1 hy2 rfl (by decide) u5 _ _ rfl ((oa.hdr.alloc _).alloc _) ⟨wa.heap.size + 1, 0, none⟩ 1 1 [.slice (some ⟨wa.heap.size, 0, none⟩) 2 2] rfl rfl (by have h0 := cell_one_new (wa.alloc (.cells #[.int .i64 1, .int .i64 0] 3)) (.slice (some ⟨wa.heap.size, 0, none⟩) 2 2) 25; rw [alloc_size_] at h0; exact h0) (by intro u hu; obtain rfl := List.mem_singleton.1 hu; rfl) ?_ ?_ ?_ ?_; (unfold maxLen; omega); omega; (simp; omega); intro v' wd hown' hgrow hnil hloc)
          have hgd := grownBy_new (grownBy_trans (grownBy_trans hgga (World.grownBy_alloc wa _ _)) (World.grownBy_alloc _ _ _)) hgrow hv5
          have hrd := ((ha.alloc _).alloc _).grown hgrow (fun k hk => by have := hv5 k hk; omega)
          have hod := (oa.below ((Below.refl _ _).alloc (Nat.le_refl _) _)).snoc2 (own_mono (lit_ints wa wa.heap.size [1, 0] (Nat.le_refl _) (by decide)) (by omega)) (fun i u hu k hk e => by have h1 := (oa.rowsLt hu k hk).2; simp only [Value.ownBlock, Option.some.injEq] at e; omega) _ hown' hgrow
          go_ret
          exact draw_end hod (by simp; omega) (snoc_le hM' (by simp)) hrd hgd
        · have e1 : (x == 1) = false := by rw [beq_eq_false_iff_ne]; exact hx1
          by_cases hx2 : x = 2
          · subst hx2
            go_wp2_with fail
            refine (pick_any R B c A l (p' + 1) 2 wa ha (by omega) (by omega) (by omega)).mono ?_
            rintro e wb ⟨y, y0, y2, rfl, hb, hgb⟩
            have ob := oa.grownR hgb (fun k e => by injection e with e; omega)
            have hggb := grownBy_trans hgga hgb
            have hsb := hggb.size
            obtain ⟨m, hm⟩ : ∃ m : Nat, 40 + y = (m : Int) := ⟨(40 + y).toNat, by omega⟩
            have hmk := fun W => run_makeN (P := Try.prog) 25 3 i0 _ Try.underlying25 hi hz0 hz1 rfl (by omega) m m (Nat.le_refl _) (by omega) W
            have m41 : m ≤ 41 := by omega
            have hrep : (ints (List.replicate m 0)).toArray = Array.replicate m (Value.int .i64 0) := by simp [ints]
            have hlit := ownsRow_blk (base := wb.heap.size) (l := List.replicate m 0) (by rw [hrep]; exact Blk.new wb 3 _) (Nat.le_refl _) (by simp; omega)
            have hlit' : (wb.alloc (.cells (Array.replicate m (Value.int .i64 0)) 3)).ownsRow wb.heap.size 3 1 (.slice (some ⟨wb.heap.size, 0, none⟩) m m) (List.replicate m (0 : Int)).length (ints (List.replicate m 0)) := by simpa using hlit
            go_wp2_with (at_builtin; refine wpList_append_own_at _ rfl _ _ 23 rfl w.heap.size 25 i1 (.slice none 0 0) 1 24 Try.underlying23 hj hy0 hy1 hy2 rfl (by decide) u5 _ _ rfl ((ob.hdr.alloc _).alloc _) ⟨wb.heap.size + 1, 0, none⟩ 1 1 [.slice (some ⟨wb.heap.size, 0, none⟩) m m] rfl rfl (by have h0 := cell_one_new (wb.alloc (.cells (Array.replicate m (Value.int .i64 0)) 3)) (.slice (some ⟨wb.heap.size, 0, none⟩) m m) 25; rw [alloc_size_] at h0; exact h0) (by intro u hu; obtain rfl := List.mem_singleton.1 hu; rfl) ?_ ?_ ?_ ?_; (unfold maxLen; omega); omega; (simp; omega); intro v' wd hown' hgrow hnil hloc)
            have hgd := grownBy_new (grownBy_trans (grownBy_trans hggb (World.grownBy_alloc wb _ _)) (World.grownBy_alloc _ _ _)) hgrow hv5
            have hrd := ((hb.alloc _).alloc _).grown hgrow (fun k hk => by have := hv5 k hk; omega)
            have hod := (ob.below ((Below.refl _ _).alloc (Nat.le_refl _) _)).snoc2 (l := List.replicate m 0) (own_mono hlit' (by omega)) (fun i u hu k hk e => by have h1 := (ob.rowsLt hu k hk).2; simp only [Value.ownBlock, Option.some.injEq] at e; omega) _ hown' hgrow
            go_ret
            exact draw_end hod (by simp; omega) (snoc_le hM' (by simp; omega)) hrd hgd
          · have e2 : (x == 2) = false := by rw [beq_eq_false_iff_ne]; exact hx2
            go_wp2_with fail
            go_ret
            exact draw_end oa (by omega) hM' ha hgga
end Go.Proofs.Ytoimhdhplebhgaa
/-
  What DrawMergeAround returns: lists of the call's own; two equal lists compared.
-/
namespace Go.Proofs.Ytoimhdhplebhgaa
open Go.RowKit
set_option linter.unusedSimpArgs false
set_option linter.unusedVariables false

/-- two equal lists -/
theorem cbSame_same (A A' : Option Addr) (c c' : Nat) (l : List Int) (w : World) (B B' : Nat) (h : RI w B A l) (h' : RI w B' A' l) (hn : l.length ≤ 1048576) :
    Calls Try.prog 10 #[.slice A l.length c, .slice A' l.length c'] w fun e w' => e = .returned (.bool true) ∧ ∃ n, w' = w.drewN n := by
  have hee : ((l.length : Int) == (l.length : Int)) = true := by simp
  go_enter Try.func10, Try.ntmps10
  go_wp2
  go_loopw [5] (fun i wr => ∃ k : Nat, k ≤ l.length ∧ i = .int .i64 k ∧ ∃ n, wr = w.drewN n) (fun i _ => l.length - (intOf i).toNat)
  case atStart => exact ⟨0, Nat.zero_le _, rfl, 0, rfl⟩
  case round =>
    obtain ⟨k, hk, rfl, nq, rfl⟩ := hrel
    by_cases hlt : k < l.length
    · obtain ⟨ad, rfl, hb, hc⟩ := h.at_ hlt
      obtain ⟨ad', rfl, hb', hc'⟩ := h'.at_ hlt
      generalize l[k] = v at hc hc'
      have hne : (v != v) = false := by simp
      go_wp2
      go_quiet (fail)
      go_wp2
      go_roundw
      case rel => exact ⟨k + 1, by omega, by go_num, _, rfl⟩
      case measure => simp [intOf]; omega
    · obtain rfl : k = l.length := by omega
      go_wp2
      go_ret
      exact ⟨rfl, _, rfl⟩
/-- lists of the call's own -/
def DrewM (w : World) (e : Ending) (w' : World) : Prop :=
  ∃ (V : List Value) (M : List (List Int)) (A' : Option Addr) (c' : Nat), e = .returned (.slice A' M.length c') ∧ M.length ≤ 4 ∧ (∀ l ∈ M, l.length ≤ 41) ∧ OII w' w.heap.size (.slice A' M.length c') V M ∧ Below w.heap.size w w'
theorem DrawMergeAround_any (A : Option Addr) (c : Nat) (l : List Int) (w : World) (h : RB w w.heap.size A l) (hc : l.length ≤ c) (hm : c ≤ maxLen) (hn : l.length ≤ 1048576) :
    Calls Try.prog 7 #[.slice A l.length c] w (DrewM w) := by
  go_enter Try.func7, Try.ntmps7
  go_wp2_with fail
  refine (l11Open_any A c l w h hc hm hn).mono ?_
  rintro e w1 ⟨R, A1, c1, l1, rfl, r1, hb1⟩
  go_wp2_with fail
  refine (l5Some_any R w.heap.size c1 A1 l1 false w1 r1).mono ?_
  rintro e w2 ⟨V, M, A2, c2, p2, rfl, h4, hM, o2, r2, hg2⟩
  go_wp2_with fail
  go_ret
  exact ⟨V, M, A2, c2, rfl, h4, hM, o2.mono hb1.size, below_of_R hb1 hg2 r1.hB⟩
section
variable {M : List (List Int)}
theorem flat_take1 (k : Nat) : ∀ L : List (List Int), (L.flatMap fun l => (l.drop k).take 1).length + (L.map fun l => min l.length k).sum = (L.map fun l => min l.length (k + 1)).sum
  | [] => by simp
  | x :: L => by
    have ih := flat_take1 k L
    simp only [List.flatMap_cons, List.length_append, List.map_cons, List.sum_cons, List.length_take, List.length_drop] at ih ⊢
    omega
theorem sum_min0 : ∀ L : List (List Int), (L.map fun l => min l.length 0).sum = 0
  | [] => rfl
  | x :: L => by rw [List.map_cons, List.sum_cons, sum_min0 L, Nat.min_zero]
theorem sTo_count (M : List (List Int)) : ∀ k, (sTo M k 0).length = (M.map fun l => min l.length k).sum
  | 0 => by
    rw [sTo_zero, sum_min0]
    rfl
  | k + 1 => by
    have ih := sTo_count M k
    have h1 := flat_take1 k M
    have e0 : (sTo M k 0) = (List.range k).flatMap (rowK M) := by simp [sTo]
    rw [e0] at ih
    rw [sTo_round]
    unfold sTo
    rw [List.length_append, List.take_length, ih]
    omega
theorem min_all {k : Nat} : ∀ {L : List (List Int)}, (∀ l ∈ L, l.length ≤ k) → (L.map fun l => min l.length k) = L.map List.length := fun {L} h => List.map_congr_left fun l hl => Nat.min_eq_left (h l hl)
theorem sTo_step (M : List (List Int)) (k : Nat) {i : Nat} (hi : i < M.length) : sTo M k i <+: sTo M k (i + 1) := by
  by_cases hk : k < M[i].length
  · rw [sTo_yes hi hk]; exact List.prefix_append _ _
  · rw [sTo_no hi (by omega)]; exact List.prefix_rfl
theorem sTo_row (M : List (List Int)) (k : Nat) : ∀ (d i : Nat), i + d = M.length → sTo M k i <+: sTo M k M.length
  | 0, i, h => by rw [show i = M.length by omega]; exact List.prefix_rfl
  | d + 1, i, h => (sTo_step M k (by omega)).trans (sTo_row M k d (i + 1) (by omega))
theorem sTo_up (M : List (List Int)) : ∀ (d k : Nat), sTo M k 0 <+: sTo M (k + d) 0
  | 0, k => List.prefix_rfl
  | d + 1, k => by
    have h1 := sTo_row M k M.length 0 (by omega)
    rw [← sTo_round] at h1
    have h2 := sTo_up M d (k + 1)
    rw [show k + 1 + d = k + (d + 1) by omega] at h2
    exact h1.trans h2
theorem aL_sTo (h : listsB M = true) : aL M = sTo M 40 0 := by
  simp [aL, h, aroundL_eq (listsB_true h).2, sTo]
/-- what is out at the place of M[i][k] -/
theorem aL_get (h : listsB M = true) {k i : Nat} (hi : i < M.length) (hk : k < M[i].length) : ∃ hlt : (sTo M k i).length < (aL M).length, (aL M)[(sTo M k i).length] = M[i][k] := by
  have h40 := (listsB_true h).2 M[i] (List.getElem_mem _)
  have h1 := sTo_row M k (M.length - (i + 1)) (i + 1) (by omega)
  rw [← sTo_round] at h1
  have h2 := sTo_up M (40 - (k + 1)) (k + 1)
  rw [show k + 1 + (40 - (k + 1)) = 40 by omega] at h2
  obtain ⟨r, hr⟩ := h1.trans h2
  rw [sTo_yes hi hk] at hr
  have e : aL M = sTo M k i ++ ([M[i][k]] ++ r) := by rw [aL_sTo h, ← hr, List.append_assoc]
  have hlt : (sTo M k i).length < (aL M).length := by rw [e]; simp
  refine ⟨hlt, ?_⟩
  have e2 : (aL M)[(sTo M k i).length]? = some M[i][k] := by rw [e]; simp
  rw [List.getElem?_eq_getElem hlt] at e2
  exact Option.some.inj e2
theorem aL_count (h : listsB M = true) : (aL M).length = (M.map List.length).sum := by
  rw [aL_sTo h, sTo_count, min_all (listsB_true h).2]
end
end Go.Proofs.Ytoimhdhplebhgaa
/-
  What DrawMergeSorted returns.
-/
namespace Go.Proofs.Ytoimhdhplebhgaa
open Go.RowKit
set_option linter.unusedSimpArgs false
set_option linter.unusedVariables false

theorem DrawMergeSorted_any (A : Option Addr) (c : Nat) (l : List Int) (w : World) (h : RB w w.heap.size A l) (hc : l.length ≤ c) (hm : c ≤ maxLen) (hn : l.length ≤ 1048576) :
    Calls Try.prog 18 #[.slice A l.length c] w (DrewM w) := by
  go_enter Try.func18, Try.ntmps18
  go_wp2_with fail
  refine (l11Open_any A c l w h hc hm hn).mono ?_
  rintro e w1 ⟨R, A1, c1, l1, rfl, r1, hb1⟩
  go_wp2_with fail
  refine (l5Some_any R w.heap.size c1 A1 l1 true w1 r1).mono ?_
  rintro e w2 ⟨V, M, A2, c2, p2, rfl, h4, hM, o2, r2, hg2⟩
  go_wp2_with fail
  go_ret
  exact ⟨V, M, A2, c2, rfl, h4, hM, o2.mono hb1.size, below_of_R hb1 hg2 r1.hB⟩
end Go.Proofs.Ytoimhdhplebhgaa
