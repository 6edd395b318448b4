/-
  Plans that are drawn, some of them not valid; rooms and plans.
-/
import Derived.Test.YthdnhaaojicmbaaDoorPlans
namespace Go.Proofs.YthdnhaaojicmbaaDoor
open Go.RowKit
set_option linter.unusedSimpArgs false
set_option linter.unusedVariables false

theorem lit_deeds (w : World) (L : List Dd) (hl : L.length ≤ 1000) : (w.alloc (.cells (cells3 L).toArray 67)).ownsRow w.heap.size 67 3 (.slice (some ⟨w.heap.size, 0, none⟩) L.length L.length) L.length (cells3 L) :=
  ⟨by simp, .inr ⟨_, L.length, _, rfl, Nat.le_refl _, heap_alloc_new w _, Nat.le_refl _, by unfold maxLen; omega, by simp, by simp [List.take_of_length_le]⟩⟩
/-- plans that are laid, and the reader -/
def PlansAt (w : World) (base : Nat) (v : Value) (Rr : List DRow) : Prop := w.ownsRow base 68 1 v Rr.length (Rr.map rowV) ∧ RowsO w base Rr
theorem PlansAt.mark {w w' : World} {base : Nat} {v : Value} {Rr : List DRow} {row : Option Nat} (h : PlansAt w base v Rr) (hg : w.grownBy w' row) (h1 : ∀ k, v.ownBlock = some k → row ≠ some k) (h2 : ∀ r ∈ Rr, ∀ k, (rowV r).ownBlock = some k → row ≠ some k) : PlansAt w' base v Rr := ⟨own_mark h.1 hg h1, h.2.mark hg h2⟩
theorem PlansAt.alloc {w : World} {base : Nat} {v : Value} {Rr : List DRow} (h : PlansAt w base v Rr) (o : Obj) : PlansAt (w.alloc o) base v Rr := h.mark (World.grownBy_alloc w o none) (fun _ _ e => by cases e) (fun _ _ _ _ e => by cases e)
theorem PlansAt.picked {w w' : World} {R : Nat} {v : Value} {Rr : List DRow} (h : PlansAt w (R + 1) v Rr) (hg : w.grownBy w' (some R)) : PlansAt w' (R + 1) v Rr :=
  h.mark hg (fun k hk e => by injection e with e; have := (h.1.lt k hk).1; omega) (fun r hr k hk e => by injection e with e; have := ((h.2 r hr).1.lt k hk).1; omega)
theorem PlansAt.mono {w : World} {base base' : Nat} {v : Value} {Rr : List DRow} (h : PlansAt w base v Rr) (hb : base' ≤ base) : PlansAt w base' v Rr := ⟨own_mono h.1 hb, fun r hr => ⟨own_mono (h.2 r hr).1 hb, (h.2 r hr).2⟩⟩
/-- the same rows in another row of headers -/
theorem PlansAt.copied {w w' : World} {base : Nat} {v v' u : Value} {Rr : List DRow} {n : Nat} {xs : List Value} (h : PlansAt w base v Rr) (hu : w.ownsRow base 68 1 u n xs) (hg : w.grownBy w' u.ownBlock) (ho : w'.ownsRow base 68 1 v' Rr.length (Rr.map rowV)) : PlansAt w' base v' Rr :=
  ⟨ho, h.2.mark hg (fun r hr k hk e => apart_ty hu (h.2 r hr).1 (by decide) k e hk)⟩
theorem PlansAt.snoc {w w' : World} {base : Nat} {v v' : Value} {Rr : List DRow} {r : DRow} (h : PlansAt w base v Rr) (hg : w.grownBy w' v.ownBlock) (ho : w'.ownsRow base 68 1 v' (Rr ++ [r]).length ((Rr ++ [r]).map rowV)) (hr : w.ownsRow base 67 3 (rowV r) r.2.1.length (cells3 r.2.1)) (h13 : r.2.1.length ≤ 13) (hd : ∀ d ∈ r.2.1, d.1.size ≤ 10) : PlansAt w' base v' (Rr ++ [r]) := by
  refine ⟨ho, RowsO.mark (w := w) ?_ hg ?_⟩
  · intro x hx
    rcases List.mem_append.1 hx with hx | hx
    · exact h.2 x hx
    · obtain rfl := List.mem_singleton.1 hx
      exact ⟨hr, h13, hd⟩
  · intro x hx k hk e
    rcases List.mem_append.1 hx with hx | hx
    · exact apart_ty h.1 (h.2 x hx).1 (by decide) k e hk
    · obtain rfl := List.mem_singleton.1 hx
      exact apart_ty h.1 hr (by decide) k e hk
/-- plans behind l3Bad -/
def DrawnBad (w : World) (R B : Nat) (A : Option Addr) (c : Nat) (l : List Int) (p : Int) (n : Nat) (e : Ending) (w' : World) : Prop :=
  ∃ (Rr : List DRow) (A' : Option Addr) (c' : Nat) (p' : Int), e = .returned (.slice A' Rr.length c') ∧ Rr.length ≤ n ∧ PlansAt w' (R + 1) (.slice A' Rr.length c') Rr ∧ Rdr w' R B A c l p' ∧ p' ≤ p + 5 ∧ w.grownBy w' (some R)
theorem PlansAt.reads {w : World} {base c : Nat} {A : Option Addr} {Rr : List DRow} (h : PlansAt w base (.slice A Rr.length c) Rr) : Reads w w.heap.size 1 A Rr.length (Rr.map rowV) := Reads.of_own h.1
theorem rows_oneCell (Rr : List DRow) : ∀ u ∈ Rr.map rowV, u.oneCell' = true := by
  intro u hu
  obtain ⟨r, _, rfl⟩ := List.mem_map.1 hu
  rfl
def badL : List ByteArray := [⟨#[108, 111, 111, 107]⟩, ⟨#[116, 97, 107, 101]⟩, ⟨#[104, 97, 110, 100]⟩, ⟨#[101, 110, 100]⟩]
theorem badL_size : ∀ a ∈ badL, a.size ≤ 10 := by decide
set_option maxHeartbeats 8000000 in
theorem l3Bad_any (R B c : Nat) (A : Option Addr) (l : List Int) (p : Int) (A1 : Option Addr) (c1 : Nat) (Rr : List DRow) (w : World) (h : Rdr w R B A c l p) (hp : p < 19000) (hP : PlansAt w (R + 1) (.slice A1 Rr.length c1) Rr) (hn : Rr.length ≤ 4) :
    Calls Tryd.prog 25 #[.pointer (some ⟨R, 0, none⟩), .slice A1 Rr.length c1] w (DrawnBad w R B A c l p 5) := by
  obtain ⟨q0, hq, qz0, qz1, qz2⟩ := info_parts pslice_info
  obtain ⟨j0, hjd, jz0, jz1, jz2⟩ := info_parts deed_info
  have hR := h.blk.lt
  go_enter Tryd.func25, Tryd.ntmps25
  go_wp2_with fail
  refine (pick_any R B c A l p 24 w h (by omega) (by omega) (by omega)).mono ?_
  rintro e w1 ⟨x, x0, x4, rfl, h1, hg1⟩
  have P1 := hP.picked hg1
  have hR1 := h1.blk.lt
  clear h hP
  by_cases e0 : x = 0
  · subst e0
    go_wp2_with fail
    go_ret
    exact ⟨[], _, _, p + 1, rfl, by simp, ⟨own_mono (ownsRow_emptyP w1) (by omega), fun r hr => by cases hr⟩, h1.alloc _, by omega, grownBy_trans hg1 (World.grownBy_alloc _ _ _)⟩
  have n0 : (x == 0) = false := beq_eq_false_iff_ne.2 e0
  have P2 := P1.alloc (.cells #[] 68)
  have h2 := h1.alloc (.cells #[] 68)
  have o2 := own_mono (ownsRow_emptyP w1) (base' := R + 1) (by omega)
  have g2 := grownBy_trans hg1 (World.grownBy_alloc w1 (.cells #[] 68) (some R))
  have hz2 : R + 1 ≤ (w1.alloc (.cells #[] 68)).heap.size := by simp; omega
  have rd := P2.reads
  have hF : ∀ k, (Value.slice (some ⟨w1.heap.size, 0, none⟩) 0 0).ownBlock = some k → w.heap.size ≤ k := by
    intro k hk
    have := hg1.size
    simp [Value.ownBlock] at hk
    omega
  by_cases e1 : x = 1
  · subst e1
    go_wp2_with (first | (at_builtin; refine wpList_append_any _ rfl _ _ 48 rfl (R + 1) 68 q0 (.slice none 0 0) 1 24 Tryd.underlying48 hq qz0 qz1 qz2 rfl (by decide) (.slice (some ⟨w1.heap.size, 0, none⟩) 0 0) _ _ rfl o2 _ A1 Rr.length c1 (Rr.map rowV) rfl rd (rows_oneCell Rr) ?_ ?_ ?_ ?_; (unfold maxLen; omega); omega; exact hz2; intro v' w4 hown' hgrow hloc; have P4 : PlansAt w4 (R + 1) v' Rr := (P2.copied o2 hgrow (by simpa using hown')); have h4 := h2.grown hgrow (fun k hk => by have := (o2.lt k hk).1; omega); have g4 := grownBy_new g2 hgrow hF; have hF4 : ∀ k, v'.ownBlock = some k → w.heap.size ≤ k := (fun k hk => (by rcases hloc with e | e; exact hF k (e.symm.trans hk); rw [e] at hk; injection hk with hk; have := g2.size; omega)); have hz4 := g4.size; clear P2 o2 rd hown' hgrow hloc; have P5 := (P4.alloc (.cells #[.string ⟨#[112, 117, 116]⟩, .int .i64 1, .int .i64 1] 67)).alloc (.cells #[.slice (some ⟨w4.heap.size, 0, none⟩) 1 1] 68); have h5 := (h4.alloc (.cells #[.string ⟨#[112, 117, 116]⟩, .int .i64 1, .int .i64 1] 67)).alloc (.cells #[.slice (some ⟨w4.heap.size, 0, none⟩) 1 1] 68); have g5 := grownBy_trans (grownBy_trans g4 (World.grownBy_alloc w4 (.cells #[.string ⟨#[112, 117, 116]⟩, .int .i64 1, .int .i64 1] 67) (some R))) (World.grownBy_alloc (w4.alloc (.cells #[.string ⟨#[112, 117, 116]⟩, .int .i64 1, .int .i64 1] 67)) (.cells #[.slice (some ⟨w4.heap.size, 0, none⟩) 1 1] 68) (some R)); have r5 := own_mono ((lit_deeds w4 [(⟨#[112, 117, 116]⟩, 1, 1)] (by simp)).alloc (.cells #[.slice (some ⟨w4.heap.size, 0, none⟩) 1 1] 68)) (base' := R + 1) (by omega); have hz5 := g5.size; have hc5 := cell_one_new (w4.alloc (.cells #[.string ⟨#[112, 117, 116]⟩, .int .i64 1, .int .i64 1] 67)) (.slice (some ⟨w4.heap.size, 0, none⟩) 1 1) 68; have o5 := P5.1; simp only [World.size_alloc] at hc5) | (at_builtin; refine wpList_append_own_at _ rfl _ _ 48 rfl (R + 1) 68 q0 (.slice none 0 0) 1 24 Tryd.underlying48 hq qz0 qz1 qz2 rfl (by decide) v' _ _ rfl o5 ⟨w4.heap.size + 1, 0, none⟩ 1 1 [.slice (some ⟨w4.heap.size, 0, none⟩) 1 1] rfl rfl hc5 (fun u hu => by simp at hu; subst hu; rfl) ?_ ?_ ?_ ?_; (unfold maxLen; omega); omega; (exact Nat.le_trans (by omega) hz5); intro v8 w8 hown8 hgrow8 hnil8 hloc8))
    obtain ⟨A8, c8, rfl⟩ := own_form hown8
    have P8 := P5.snoc (v' := .slice A8 (Rr.length + 1) c8) (r := (some ⟨w4.heap.size, 0, none⟩, [(⟨#[112, 117, 116]⟩, 1, 1)], 1)) hgrow8 (by simpa [rowV] using hown8) r5 (by simp) (by intro d hd; simp at hd; subst hd; decide)
    have h8 := h5.grown hgrow8 (fun k hk => by have := hF4 k hk; omega)
    have g8 := grownBy_new g5 hgrow8 hF4
    go_ret
    exact ⟨Rr ++ [(some ⟨w4.heap.size, 0, none⟩, [(⟨#[112, 117, 116]⟩, 1, 1)], 1)], A8, c8, _, by simp, by simp; omega, by simpa using P8, h8, by omega, g8⟩

  have n1 : (x == 1) = false := beq_eq_false_iff_ne.2 e1
  by_cases e2 : x = 2
  · subst e2
    go_wp2_with (at_builtin; refine wpList_append_any _ rfl _ _ 48 rfl (R + 1) 68 q0 (.slice none 0 0) 1 24 Tryd.underlying48 hq qz0 qz1 qz2 rfl (by decide) (.slice (some ⟨w1.heap.size, 0, none⟩) 0 0) _ _ rfl o2 _ A1 Rr.length c1 (Rr.map rowV) rfl rd (rows_oneCell Rr) ?_ ?_ ?_ ?_; (unfold maxLen; omega); omega; exact hz2; intro v' w4 hown' hgrow hloc; have P4 : PlansAt w4 (R + 1) v' Rr := (P2.copied o2 hgrow (by simpa using hown')); have h4 := h2.grown hgrow (fun k hk => by have := (o2.lt k hk).1; omega); have g4 := grownBy_new g2 hgrow hF; have hF4 : ∀ k, v'.ownBlock = some k → w.heap.size ≤ k := (fun k hk => (by rcases hloc with e | e; exact hF k (e.symm.trans hk); rw [e] at hk; injection hk with hk; have := g2.size; omega)); have hz4 := g4.size; clear P2 o2 rd hown' hgrow hloc )
    have hlit := lit_strs w4 (R + 1) badL (by omega) (by decide)
    refine (of_any R B c A l (p + 1) _ _ badL _ (h4.alloc _) (by omega) hlit (by decide) (by decide)).mono ?_
    rintro e w5 ⟨a, ha, rfl, h5, hg5⟩
    have ha10 := badL_size a ha
    have P5 := (P4.alloc (.cells (badL.map Value.string).toArray 9)).picked hg5
    have g5 := grownBy_trans g4 (grownBy_trans (World.grownBy_alloc w4 _ _) hg5)
    have hz5 := g5.size
    clear P4 h4 g4 hz4 hlit hg5 ha
    go_wp2_with fail
    have hlit := lit_ints w5 (R + 1) [1, 7, 0, 9, -1] (by omega) (by decide)
    refine (num_any R B c A l (p + 1 + 1) _ _ [1, 7, 0, 9, -1] _ (h5.alloc _) (by omega) hlit (by decide) (by decide)).mono ?_
    rintro e w6 ⟨y, hy, rfl, h6, hg6⟩
    have P6 := (P5.alloc (.cells (ints [1, 7, 0, 9, -1]).toArray 3)).picked hg6
    have g6 := grownBy_trans g5 (grownBy_trans (World.grownBy_alloc w5 _ _) hg6)
    have hz6 := g6.size
    clear P5 h5 g5 hz5 hlit hg6 hy
    go_wp2_with fail
    refine (pick_any R B c A l (p + 1 + 1 + 1) 2 w6 h6 (by omega) (by omega) (by omega)).mono ?_
    rintro e w7 ⟨z, z0, z1, rfl, h7, hg7⟩
    have P4 := P6.picked hg7
    have g4 := grownBy_trans g6 hg7
    have hz4 := g4.size
    have h4 := h7
    clear P6 h6 g6 hz6 hg7
    have P5 := (P4.alloc (.cells #[.string a, .int .i64 y, .int .i64 z] 67)).alloc (.cells #[.slice (some ⟨w7.heap.size, 0, none⟩) 1 1] 68)
    have h5 := (h4.alloc (.cells #[.string a, .int .i64 y, .int .i64 z] 67)).alloc (.cells #[.slice (some ⟨w7.heap.size, 0, none⟩) 1 1] 68)
    have g5 := grownBy_trans (grownBy_trans g4 (World.grownBy_alloc w7 (.cells #[.string a, .int .i64 y, .int .i64 z] 67) (some R))) (World.grownBy_alloc (w7.alloc (.cells #[.string a, .int .i64 y, .int .i64 z] 67)) (.cells #[.slice (some ⟨w7.heap.size, 0, none⟩) 1 1] 68) (some R))
    have r5 := own_mono ((lit_deeds w7 [(a, y, z)] (by simp)).alloc (.cells #[.slice (some ⟨w7.heap.size, 0, none⟩) 1 1] 68)) (base' := R + 1) (by omega)
    have hz5 := g5.size
    have hc5 := cell_one_new (w7.alloc (.cells #[.string a, .int .i64 y, .int .i64 z] 67)) (.slice (some ⟨w7.heap.size, 0, none⟩) 1 1) 68
    have o5 := P5.1
    simp only [World.size_alloc] at hc5
    go_wp2_with (at_builtin; refine wpList_append_own_at _ rfl _ _ 48 rfl (R + 1) 68 q0 (.slice none 0 0) 1 24 Tryd.underlying48 hq qz0 qz1 qz2 rfl (by decide) v' _ _ rfl o5 ⟨w7.heap.size + 1, 0, none⟩ 1 1 [.slice (some ⟨w7.heap.size, 0, none⟩) 1 1] rfl rfl hc5 (fun u hu => by simp at hu; subst hu; rfl) ?_ ?_ ?_ ?_; (unfold maxLen; omega); omega; (exact Nat.le_trans (by omega) hz5); intro v8 w8 hown8 hgrow8 hnil8 hloc8)
    obtain ⟨A8, c8, rfl⟩ := own_form hown8
    have P8 := P5.snoc (v' := .slice A8 (Rr.length + 1) c8) (r := (some ⟨w7.heap.size, 0, none⟩, [(a, y, z)], 1)) hgrow8 (by simpa [rowV] using hown8) r5 (by simp) (by intro d hd; simp at hd; subst hd; exact ha10)
    have h8 := h5.grown hgrow8 (fun k hk => by have := hF4 k hk; omega)
    have g8 := grownBy_new g5 hgrow8 hF4
    go_ret
    exact ⟨Rr ++ [(some ⟨w7.heap.size, 0, none⟩, [(a, y, z)], 1)], A8, c8, _, by simp, by simp; omega, by simpa using P8, h8, by omega, g8⟩

  have n2 : (x == 2) = false := beq_eq_false_iff_ne.2 e2
  by_cases e3 : x = 3
  · subst e3
    go_upto_region 9 with fail
    have hmk13 : ∀ W : World, (Instr.makeSlice 68 (.int .i64 13) (.int .i64 13)).run Tryd.prog W = .ok (.slice (some ⟨W.heap.size, 0, none⟩) 13 13) (W.alloc (.cells (cells3 (List.replicate 13 zD)).toArray 67)) := fun W => by
      have hr := run_make (P := Tryd.prog) W 68 67 j0 _ Tryd.underlying68 hjd jz0 .i64 .i64 13 13 (by omega) (by omega) (by rw [jz2]; omega) (by omega)
      have e13 : (13 : Int).toNat = 13 := rfl
      rw [e13] at hr
      rw [hr, jz1]
      unfold cells3
      rw [flat_made (z := Value.agg #[.string ByteArray.empty, .int .i64 0, .int .i64 0]) (zs := zD) rfl encD_length (by omega)]
    have hl0 : (List.replicate 13 zD).length = 13 := by simp
    have h100 : ∀ d ∈ List.replicate 13 zD, d.1.size ≤ 10 := by intro d hd; rw [List.eq_of_mem_replicate hd]; decide
    obtain ⟨L13, hL13⟩ : ∃ L, List.replicate 13 zD = L := ⟨_, rfl⟩
    rw [hL13] at hl0 h100
    simp only [hL13] at hmk13
    clear hL13
    obtain ⟨hl13, h10⟩ := And.intro hl0 h100
    clear hl0 h100
    have lit13 : ∀ W : World, (W.alloc (.cells (cells3 L13).toArray 67)).ownsRow W.heap.size 67 3 (rowV ((some ⟨W.heap.size, 0, none⟩, L13, 13) : DRow)) L13.length (cells3 L13) := fun W => by
      have := lit_deeds W L13 (by omega)
      rw [hl13] at this ⊢
      simpa [rowV, hl13] using this
    clear hjd jz0 jz1 jz2
    have hs := hg1.size
    clear P2 h2 o2 g2 hz2 rd e0 n0 e1 n1 e2 n2 x0 x4
    have hR1 : R + 1 ≤ w.heap.size := hR
    have P : PlansAt w1.drew (R + 1) (.slice A1 Rr.length c1) Rr := P1
    have h : Rdr w1.drew R B A c l (p + 1) := h1.below (Below.refl _ _).drew
    have g : w.grownBy w1.drew (some R) := only_drewN_ hg1 1
    clear P1 h1 hg1 hF
    refine wp_region_noPanic ?_
    refine wp_region_held_drew (S := (fun _ => True)) (by kernel_rfl) trivial (fun hHeld => ?_)
    generalize w1.drew = W0 at P h g ⊢
    refine' wpAnyH_take (i := 1) (oi := _) (v := _) rfl (by kernel_rfl) (by kernel_rfl) (by kernel_rfl) (fun _ _ _ h => h) (Or.inl ⟨by rfl, ?hym1⟩) hHeld ?restm1
    case hym1 => (intro w' hSw; (try dsimp only at hSw); go_simp; try with_reducible rfl)
    case' restm1 => try simp only [Act.put, List.setIfInBounds_toArray, List.set_cons_zero, List.set_cons_succ, List.getElem_toArray, List.getElem_cons_succ, List.getElem_cons_zero]
    refine wpAnyH_ready (rs := [0, 3]) (by kernel_rfl) (by simp) ?_
    refine (AllReadyH.cons (o := _) rfl (fun K hK => ?_) (AllReadyH.cons (o := _) rfl (fun K hK => ?_) AllReadyH.nil))
    · skip
      go_simp
      refine hK.out _ _ trivial (fun hHeld => ?_)
      clear hK K
      try simp only [Act.put, List.setIfInBounds_toArray, List.set_cons_zero, List.set_cons_succ, List.getElem_toArray, List.getElem_cons_succ, List.getElem_cons_zero]
      have E := own_mono (ownsRow_emptyP W0) (base' := R + 1) (Nat.le_trans hR1 g.size)
      have hE : w.heap.size ≤ W0.heap.size := g.size
      replace P := P.alloc (.cells #[] 68)
      replace h := h.alloc (.cells #[] 68)
      replace g := grownBy_trans g (World.grownBy_alloc W0 (.cells #[] 68) (some R))
      generalize hW : W0.alloc (.cells #[] 68) = W1_1 at P h g E ⊢
      clear hW
      refine wpAnyH_ready (rs := [2, 3]) (by kernel_rfl) (by simp) ?_
      refine (AllReadyH.cons (o := _) rfl (fun K hK => ?_) (AllReadyH.cons (o := _) rfl (fun K hK => ?_) AllReadyH.nil))
      · skip
        refine wp_append_any _ _ _ 48 rfl (R + 1) 68 q0 (.slice none 0 0) 1 24 Tryd.underlying48 hq qz0 qz1 qz2 rfl (by decide) (.slice (some ⟨W0.heap.size, 0, none⟩) 0 0) _ _ rfl E _ A1 Rr.length c1 (Rr.map rowV) rfl P.reads (rows_oneCell Rr) (by unfold maxLen; omega) (by omega) (Nat.le_trans hR1 g.size) ?_
        intro v' W2_2 hown hgrow hloc
        refine hK.out _ _ trivial (fun hHeld => ?_)
        clear hK K
        try simp only [Act.put, List.setIfInBounds_toArray, List.set_cons_zero, List.set_cons_succ, List.getElem_toArray, List.getElem_cons_succ, List.getElem_cons_zero]
        have hF4 : ∀ k, v'.ownBlock = some k → w.heap.size ≤ k := fun k hk => by
          rcases hloc with e | e
          · rw [e] at hk; simp [Value.ownBlock] at hk; omega
          · rw [e] at hk; injection hk with hk; have := g.size; omega
        have hFE : ∀ k, (Value.slice (some ⟨W0.heap.size, 0, none⟩) 0 0).ownBlock = some k → w.heap.size ≤ k := fun k hk => by
          simp [Value.ownBlock] at hk; omega
        replace P : PlansAt _ (R + 1) v' Rr := P.copied E hgrow (by simpa using hown)
        replace h := h.grown hgrow (fun k hk => by have := (E.lt k hk).1; omega)
        replace g := grownBy_new g hgrow hFE
        clear E hown hgrow hloc hFE hE
        refine wpAnyH_ready (rs := [3]) (by kernel_rfl) (by simp) ?_
        refine (AllReadyH.cons (o := _) rfl (fun K hK => ?_) AllReadyH.nil)
        · skip
          go_simp
          refine hK.out _ _ trivial (fun hHeld => ?_)
          clear hK K
          try simp only [Act.put, List.setIfInBounds_toArray, List.set_cons_zero, List.set_cons_succ, List.getElem_toArray, List.getElem_cons_succ, List.getElem_cons_zero]
          have r := own_mono (lit13 W2_2) (base' := R + 1) (Nat.le_trans hR1 g.size)
          replace P := P.alloc (.cells (cells3 L13).toArray 67)
          replace h := h.alloc (.cells (cells3 L13).toArray 67)
          replace g := grownBy_trans g (World.grownBy_alloc W2_2 (.cells (cells3 L13).toArray 67) (some R))
          generalize hW : W2_2.alloc (.cells (cells3 L13).toArray 67) = W3_3 at P h g r ⊢
          clear hW
          refine wpAnyH_ready (rs := [4]) (by kernel_rfl) (by simp) ?_
          refine (AllReadyH.cons (o := _) rfl (fun K hK => ?_) AllReadyH.nil)
          · skip
            go_simp
            refine hK.out _ _ trivial (fun hHeld => ?_)
            clear hK K
            try simp only [Act.put, List.setIfInBounds_toArray, List.set_cons_zero, List.set_cons_succ, List.getElem_toArray, List.getElem_cons_succ, List.getElem_cons_zero]
            have Lb := Blk.new W3_3 68 #[.slice (some ⟨W2_2.heap.size, 0, none⟩) 13 13]
            replace P := P.alloc (.cells #[.slice (some ⟨W2_2.heap.size, 0, none⟩) 13 13] 68)
            replace h := h.alloc (.cells #[.slice (some ⟨W2_2.heap.size, 0, none⟩) 13 13] 68)
            replace g := grownBy_trans g (World.grownBy_alloc W3_3 (.cells #[.slice (some ⟨W2_2.heap.size, 0, none⟩) 13 13] 68) (some R))
            replace r := r.alloc (.cells #[.slice (some ⟨W2_2.heap.size, 0, none⟩) 13 13] 68)
            generalize hW : W3_3.alloc (.cells #[.slice (some ⟨W2_2.heap.size, 0, none⟩) 13 13] 68) = W4_4 at P h g r Lb ⊢
            clear hW
            refine wpAnyH_ready (rs := [5]) (by kernel_rfl) (by simp) ?_
            refine (AllReadyH.cons (o := _) rfl (fun K hK => ?_) AllReadyH.nil)
            · skip
              refine wp_append_any _ _ _ 48 rfl (R + 1) 68 q0 (.slice none 0 0) 1 24 Tryd.underlying48 hq qz0 qz1 qz2 rfl (by decide) v' _ _ rfl P.1 _ (some ⟨W3_3.heap.size, 0, none⟩) 1 1 [.slice (some ⟨W2_2.heap.size, 0, none⟩) 13 13] rfl (Blk.reads Lb rfl) (fun u hu => by simp at hu; subst hu; rfl) (by unfold maxLen; omega) (by omega) (Nat.le_trans hR1 g.size) ?_
              intro v8 W5_5 hown hgrow hloc
              refine hK.out _ _ trivial (fun hHeld => ?_)
              clear hK K
              try simp only [Act.put, List.setIfInBounds_toArray, List.set_cons_zero, List.set_cons_succ, List.getElem_toArray, List.getElem_cons_succ, List.getElem_cons_zero]
              obtain ⟨A8, c8, rfl⟩ := own_form hown
              replace P := P.snoc (v' := .slice A8 (Rr.length + 1) c8) (r := (some ⟨W2_2.heap.size, 0, none⟩, L13, 13)) hgrow (by simpa [rowV, hl13] using hown) r (by show L13.length ≤ 13; omega) h10
              replace h := h.grown hgrow (fun k hk => by have := hF4 k hk; omega)
              replace g := grownBy_new g hgrow hF4
              refine' wpAnyH_take (i := 6) (oi := _) (v := _) rfl (by kernel_rfl) (by kernel_rfl) (by kernel_rfl) (fun _ _ _ h => h) (Or.inl ⟨by rfl, ?hyt6⟩) hHeld ?restt6
              case hyt6 => (intro w' hSw; (try dsimp only at hSw); go_simp; try with_reducible rfl)
              case' restt6 => try simp only [Act.put, List.setIfInBounds_toArray, List.set_cons_zero, List.set_cons_succ, List.getElem_toArray, List.getElem_cons_succ, List.getElem_cons_zero]
              refine wpAnyH_done (by kernel_rfl) ?_ _
              refine NoPanic.normal ?_
              go_wp2_with fail
              go_ret
              exact ⟨Rr ++ [(some ⟨W2_2.heap.size, 0, none⟩, L13, 13)], A8, c8, _, by simp, by simp; omega, by simpa using P, h, by omega, g⟩
      · skip
        go_simp
        refine hK.out _ _ trivial (fun hHeld => ?_)
        clear hK K
        try simp only [Act.put, List.setIfInBounds_toArray, List.set_cons_zero, List.set_cons_succ, List.getElem_toArray, List.getElem_cons_succ, List.getElem_cons_zero]
        have r := own_mono (lit13 W1_1) (base' := R + 1) (Nat.le_trans hR1 g.size)
        replace P := P.alloc (.cells (cells3 L13).toArray 67)
        replace h := h.alloc (.cells (cells3 L13).toArray 67)
        replace g := grownBy_trans g (World.grownBy_alloc W1_1 (.cells (cells3 L13).toArray 67) (some R))
        replace E := E.alloc (.cells (cells3 L13).toArray 67)
        generalize hW : W1_1.alloc (.cells (cells3 L13).toArray 67) = W2_6 at P h g r E ⊢
        clear hW
        refine wpAnyH_ready (rs := [2, 4]) (by kernel_rfl) (by simp) ?_
        refine (AllReadyH.cons (o := _) rfl (fun K hK => ?_) (AllReadyH.cons (o := _) rfl (fun K hK => ?_) AllReadyH.nil))
        · skip
          refine wp_append_any _ _ _ 48 rfl (R + 1) 68 q0 (.slice none 0 0) 1 24 Tryd.underlying48 hq qz0 qz1 qz2 rfl (by decide) (.slice (some ⟨W0.heap.size, 0, none⟩) 0 0) _ _ rfl E _ A1 Rr.length c1 (Rr.map rowV) rfl P.reads (rows_oneCell Rr) (by unfold maxLen; omega) (by omega) (Nat.le_trans hR1 g.size) ?_
          intro v' W3_7 hown hgrow hloc
          refine hK.out _ _ trivial (fun hHeld => ?_)
          clear hK K
          try simp only [Act.put, List.setIfInBounds_toArray, List.set_cons_zero, List.set_cons_succ, List.getElem_toArray, List.getElem_cons_succ, List.getElem_cons_zero]
          have hF4 : ∀ k, v'.ownBlock = some k → w.heap.size ≤ k := fun k hk => by
            rcases hloc with e | e
            · rw [e] at hk; simp [Value.ownBlock] at hk; omega
            · rw [e] at hk; injection hk with hk; have := g.size; omega
          have hFE : ∀ k, (Value.slice (some ⟨W0.heap.size, 0, none⟩) 0 0).ownBlock = some k → w.heap.size ≤ k := fun k hk => by
            simp [Value.ownBlock] at hk; omega
          replace P : PlansAt _ (R + 1) v' Rr := P.copied E hgrow (by simpa using hown)
          replace h := h.grown hgrow (fun k hk => by have := (E.lt k hk).1; omega)
          replace g := grownBy_new g hgrow hFE
          replace r := own_mark r hgrow (fun k hk e => apart_ty E r (by decide) k e hk)
          clear E hown hgrow hloc hFE hE
          refine wpAnyH_ready (rs := [4]) (by kernel_rfl) (by simp) ?_
          refine (AllReadyH.cons (o := _) rfl (fun K hK => ?_) AllReadyH.nil)
          · skip
            go_simp
            refine hK.out _ _ trivial (fun hHeld => ?_)
            clear hK K
            try simp only [Act.put, List.setIfInBounds_toArray, List.set_cons_zero, List.set_cons_succ, List.getElem_toArray, List.getElem_cons_succ, List.getElem_cons_zero]
            have Lb := Blk.new W3_7 68 #[.slice (some ⟨W1_1.heap.size, 0, none⟩) 13 13]
            replace P := P.alloc (.cells #[.slice (some ⟨W1_1.heap.size, 0, none⟩) 13 13] 68)
            replace h := h.alloc (.cells #[.slice (some ⟨W1_1.heap.size, 0, none⟩) 13 13] 68)
            replace g := grownBy_trans g (World.grownBy_alloc W3_7 (.cells #[.slice (some ⟨W1_1.heap.size, 0, none⟩) 13 13] 68) (some R))
            replace r := r.alloc (.cells #[.slice (some ⟨W1_1.heap.size, 0, none⟩) 13 13] 68)
            generalize hW : W3_7.alloc (.cells #[.slice (some ⟨W1_1.heap.size, 0, none⟩) 13 13] 68) = W4_8 at P h g r Lb ⊢
            clear hW
            refine wpAnyH_ready (rs := [5]) (by kernel_rfl) (by simp) ?_
            refine (AllReadyH.cons (o := _) rfl (fun K hK => ?_) AllReadyH.nil)
            · skip
              refine wp_append_any _ _ _ 48 rfl (R + 1) 68 q0 (.slice none 0 0) 1 24 Tryd.underlying48 hq qz0 qz1 qz2 rfl (by decide) v' _ _ rfl P.1 _ (some ⟨W3_7.heap.size, 0, none⟩) 1 1 [.slice (some ⟨W1_1.heap.size, 0, none⟩) 13 13] rfl (Blk.reads Lb rfl) (fun u hu => by simp at hu; subst hu; rfl) (by unfold maxLen; omega) (by omega) (Nat.le_trans hR1 g.size) ?_
              intro v8 W5_9 hown hgrow hloc
              refine hK.out _ _ trivial (fun hHeld => ?_)
              clear hK K
              try simp only [Act.put, List.setIfInBounds_toArray, List.set_cons_zero, List.set_cons_succ, List.getElem_toArray, List.getElem_cons_succ, List.getElem_cons_zero]
              obtain ⟨A8, c8, rfl⟩ := own_form hown
              replace P := P.snoc (v' := .slice A8 (Rr.length + 1) c8) (r := (some ⟨W1_1.heap.size, 0, none⟩, L13, 13)) hgrow (by simpa [rowV, hl13] using hown) r (by show L13.length ≤ 13; omega) h10
              replace h := h.grown hgrow (fun k hk => by have := hF4 k hk; omega)
              replace g := grownBy_new g hgrow hF4
              refine' wpAnyH_take (i := 6) (oi := _) (v := _) rfl (by kernel_rfl) (by kernel_rfl) (by kernel_rfl) (fun _ _ _ h => h) (Or.inl ⟨by rfl, ?hyt10⟩) hHeld ?restt10
              case hyt10 => (intro w' hSw; (try dsimp only at hSw); go_simp; try with_reducible rfl)
              case' restt10 => try simp only [Act.put, List.setIfInBounds_toArray, List.set_cons_zero, List.set_cons_succ, List.getElem_toArray, List.getElem_cons_succ, List.getElem_cons_zero]
              refine wpAnyH_done (by kernel_rfl) ?_ _
              refine NoPanic.normal ?_
              go_wp2_with fail
              go_ret
              exact ⟨Rr ++ [(some ⟨W1_1.heap.size, 0, none⟩, L13, 13)], A8, c8, _, by simp, by simp; omega, by simpa using P, h, by omega, g⟩
        · skip
          go_simp
          refine hK.out _ _ trivial (fun hHeld => ?_)
          clear hK K
          try simp only [Act.put, List.setIfInBounds_toArray, List.set_cons_zero, List.set_cons_succ, List.getElem_toArray, List.getElem_cons_succ, List.getElem_cons_zero]
          have Lb := Blk.new W2_6 68 #[.slice (some ⟨W1_1.heap.size, 0, none⟩) 13 13]
          have hne : W2_6.heap.size ≠ W0.heap.size := Nat.ne_of_gt (E.lt _ rfl).2
          replace P := P.alloc (.cells #[.slice (some ⟨W1_1.heap.size, 0, none⟩) 13 13] 68)
          replace h := h.alloc (.cells #[.slice (some ⟨W1_1.heap.size, 0, none⟩) 13 13] 68)
          replace g := grownBy_trans g (World.grownBy_alloc W2_6 (.cells #[.slice (some ⟨W1_1.heap.size, 0, none⟩) 13 13] 68) (some R))
          replace r := r.alloc (.cells #[.slice (some ⟨W1_1.heap.size, 0, none⟩) 13 13] 68)
          replace E := E.alloc (.cells #[.slice (some ⟨W1_1.heap.size, 0, none⟩) 13 13] 68)
          generalize hW : W2_6.alloc (.cells #[.slice (some ⟨W1_1.heap.size, 0, none⟩) 13 13] 68) = W3_10 at P h g r Lb E ⊢
          clear hW
          refine wpAnyH_ready (rs := [2]) (by kernel_rfl) (by simp) ?_
          refine (AllReadyH.cons (o := _) rfl (fun K hK => ?_) AllReadyH.nil)
          · skip
            refine wp_append_any _ _ _ 48 rfl (R + 1) 68 q0 (.slice none 0 0) 1 24 Tryd.underlying48 hq qz0 qz1 qz2 rfl (by decide) (.slice (some ⟨W0.heap.size, 0, none⟩) 0 0) _ _ rfl E _ A1 Rr.length c1 (Rr.map rowV) rfl P.reads (rows_oneCell Rr) (by unfold maxLen; omega) (by omega) (Nat.le_trans hR1 g.size) ?_
            intro v' W4_11 hown hgrow hloc
            refine hK.out _ _ trivial (fun hHeld => ?_)
            clear hK K
            try simp only [Act.put, List.setIfInBounds_toArray, List.set_cons_zero, List.set_cons_succ, List.getElem_toArray, List.getElem_cons_succ, List.getElem_cons_zero]
            have hF4 : ∀ k, v'.ownBlock = some k → w.heap.size ≤ k := fun k hk => by
              rcases hloc with e | e
              · rw [e] at hk; simp [Value.ownBlock] at hk; omega
              · rw [e] at hk; injection hk with hk; have := g.size; omega
            have hFE : ∀ k, (Value.slice (some ⟨W0.heap.size, 0, none⟩) 0 0).ownBlock = some k → w.heap.size ≤ k := fun k hk => by
              simp [Value.ownBlock] at hk; omega
            replace P : PlansAt _ (R + 1) v' Rr := P.copied E hgrow (by simpa using hown)
            replace h := h.grown hgrow (fun k hk => by have := (E.lt k hk).1; omega)
            replace g := grownBy_new g hgrow hFE
            replace r := own_mark r hgrow (fun k hk e => apart_ty E r (by decide) k e hk)
            replace Lb := Lb.grown hgrow (fun q => hne (by simpa [Value.ownBlock] using q))
            clear hne
            clear E hown hgrow hloc hFE hE
            refine wpAnyH_ready (rs := [5]) (by kernel_rfl) (by simp) ?_
            refine (AllReadyH.cons (o := _) rfl (fun K hK => ?_) AllReadyH.nil)
            · skip
              refine wp_append_any _ _ _ 48 rfl (R + 1) 68 q0 (.slice none 0 0) 1 24 Tryd.underlying48 hq qz0 qz1 qz2 rfl (by decide) v' _ _ rfl P.1 _ (some ⟨W2_6.heap.size, 0, none⟩) 1 1 [.slice (some ⟨W1_1.heap.size, 0, none⟩) 13 13] rfl (Blk.reads Lb rfl) (fun u hu => by simp at hu; subst hu; rfl) (by unfold maxLen; omega) (by omega) (Nat.le_trans hR1 g.size) ?_
              intro v8 W5_12 hown hgrow hloc
              refine hK.out _ _ trivial (fun hHeld => ?_)
              clear hK K
              try simp only [Act.put, List.setIfInBounds_toArray, List.set_cons_zero, List.set_cons_succ, List.getElem_toArray, List.getElem_cons_succ, List.getElem_cons_zero]
              obtain ⟨A8, c8, rfl⟩ := own_form hown
              replace P := P.snoc (v' := .slice A8 (Rr.length + 1) c8) (r := (some ⟨W1_1.heap.size, 0, none⟩, L13, 13)) hgrow (by simpa [rowV, hl13] using hown) r (by show L13.length ≤ 13; omega) h10
              replace h := h.grown hgrow (fun k hk => by have := hF4 k hk; omega)
              replace g := grownBy_new g hgrow hF4
              refine' wpAnyH_take (i := 6) (oi := _) (v := _) rfl (by kernel_rfl) (by kernel_rfl) (by kernel_rfl) (fun _ _ _ h => h) (Or.inl ⟨by rfl, ?hyt13⟩) hHeld ?restt13
              case hyt13 => (intro w' hSw; (try dsimp only at hSw); go_simp; try with_reducible rfl)
              case' restt13 => try simp only [Act.put, List.setIfInBounds_toArray, List.set_cons_zero, List.set_cons_succ, List.getElem_toArray, List.getElem_cons_succ, List.getElem_cons_zero]
              refine wpAnyH_done (by kernel_rfl) ?_ _
              refine NoPanic.normal ?_
              go_wp2_with fail
              go_ret
              exact ⟨Rr ++ [(some ⟨W1_1.heap.size, 0, none⟩, L13, 13)], A8, c8, _, by simp, by simp; omega, by simpa using P, h, by omega, g⟩
    · skip
      go_simp
      refine hK.out _ _ trivial (fun hHeld => ?_)
      clear hK K
      try simp only [Act.put, List.setIfInBounds_toArray, List.set_cons_zero, List.set_cons_succ, List.getElem_toArray, List.getElem_cons_succ, List.getElem_cons_zero]
      have r := own_mono (lit13 W0) (base' := R + 1) (Nat.le_trans hR1 g.size)
      replace P := P.alloc (.cells (cells3 L13).toArray 67)
      replace h := h.alloc (.cells (cells3 L13).toArray 67)
      replace g := grownBy_trans g (World.grownBy_alloc W0 (.cells (cells3 L13).toArray 67) (some R))
      generalize hW : W0.alloc (.cells (cells3 L13).toArray 67) = W1_13 at P h g r ⊢
      clear hW
      refine wpAnyH_ready (rs := [0, 4]) (by kernel_rfl) (by simp) ?_
      refine (AllReadyH.cons (o := _) rfl (fun K hK => ?_) (AllReadyH.cons (o := _) rfl (fun K hK => ?_) AllReadyH.nil))
      · skip
        go_simp
        refine hK.out _ _ trivial (fun hHeld => ?_)
        clear hK K
        try simp only [Act.put, List.setIfInBounds_toArray, List.set_cons_zero, List.set_cons_succ, List.getElem_toArray, List.getElem_cons_succ, List.getElem_cons_zero]
        have E := own_mono (ownsRow_emptyP W1_13) (base' := R + 1) (Nat.le_trans hR1 g.size)
        have hE : w.heap.size ≤ W1_13.heap.size := g.size
        replace P := P.alloc (.cells #[] 68)
        replace h := h.alloc (.cells #[] 68)
        replace g := grownBy_trans g (World.grownBy_alloc W1_13 (.cells #[] 68) (some R))
        replace r := r.alloc (.cells #[] 68)
        generalize hW : W1_13.alloc (.cells #[] 68) = W2_14 at P h g E r ⊢
        clear hW
        refine wpAnyH_ready (rs := [2, 4]) (by kernel_rfl) (by simp) ?_
        refine (AllReadyH.cons (o := _) rfl (fun K hK => ?_) (AllReadyH.cons (o := _) rfl (fun K hK => ?_) AllReadyH.nil))
        · skip
          refine wp_append_any _ _ _ 48 rfl (R + 1) 68 q0 (.slice none 0 0) 1 24 Tryd.underlying48 hq qz0 qz1 qz2 rfl (by decide) (.slice (some ⟨W1_13.heap.size, 0, none⟩) 0 0) _ _ rfl E _ A1 Rr.length c1 (Rr.map rowV) rfl P.reads (rows_oneCell Rr) (by unfold maxLen; omega) (by omega) (Nat.le_trans hR1 g.size) ?_
          intro v' W3_15 hown hgrow hloc
          refine hK.out _ _ trivial (fun hHeld => ?_)
          clear hK K
          try simp only [Act.put, List.setIfInBounds_toArray, List.set_cons_zero, List.set_cons_succ, List.getElem_toArray, List.getElem_cons_succ, List.getElem_cons_zero]
          have hF4 : ∀ k, v'.ownBlock = some k → w.heap.size ≤ k := fun k hk => by
            rcases hloc with e | e
            · rw [e] at hk; simp [Value.ownBlock] at hk; omega
            · rw [e] at hk; injection hk with hk; have := g.size; omega
          have hFE : ∀ k, (Value.slice (some ⟨W1_13.heap.size, 0, none⟩) 0 0).ownBlock = some k → w.heap.size ≤ k := fun k hk => by
            simp [Value.ownBlock] at hk; omega
          replace P : PlansAt _ (R + 1) v' Rr := P.copied E hgrow (by simpa using hown)
          replace h := h.grown hgrow (fun k hk => by have := (E.lt k hk).1; omega)
          replace g := grownBy_new g hgrow hFE
          replace r := own_mark r hgrow (fun k hk e => apart_ty E r (by decide) k e hk)
          clear E hown hgrow hloc hFE hE
          refine wpAnyH_ready (rs := [4]) (by kernel_rfl) (by simp) ?_
          refine (AllReadyH.cons (o := _) rfl (fun K hK => ?_) AllReadyH.nil)
          · skip
            go_simp
            refine hK.out _ _ trivial (fun hHeld => ?_)
            clear hK K
            try simp only [Act.put, List.setIfInBounds_toArray, List.set_cons_zero, List.set_cons_succ, List.getElem_toArray, List.getElem_cons_succ, List.getElem_cons_zero]
            have Lb := Blk.new W3_15 68 #[.slice (some ⟨W0.heap.size, 0, none⟩) 13 13]
            replace P := P.alloc (.cells #[.slice (some ⟨W0.heap.size, 0, none⟩) 13 13] 68)
            replace h := h.alloc (.cells #[.slice (some ⟨W0.heap.size, 0, none⟩) 13 13] 68)
            replace g := grownBy_trans g (World.grownBy_alloc W3_15 (.cells #[.slice (some ⟨W0.heap.size, 0, none⟩) 13 13] 68) (some R))
            replace r := r.alloc (.cells #[.slice (some ⟨W0.heap.size, 0, none⟩) 13 13] 68)
            generalize hW : W3_15.alloc (.cells #[.slice (some ⟨W0.heap.size, 0, none⟩) 13 13] 68) = W4_16 at P h g r Lb ⊢
            clear hW
            refine wpAnyH_ready (rs := [5]) (by kernel_rfl) (by simp) ?_
            refine (AllReadyH.cons (o := _) rfl (fun K hK => ?_) AllReadyH.nil)
            · skip
              refine wp_append_any _ _ _ 48 rfl (R + 1) 68 q0 (.slice none 0 0) 1 24 Tryd.underlying48 hq qz0 qz1 qz2 rfl (by decide) v' _ _ rfl P.1 _ (some ⟨W3_15.heap.size, 0, none⟩) 1 1 [.slice (some ⟨W0.heap.size, 0, none⟩) 13 13] rfl (Blk.reads Lb rfl) (fun u hu => by simp at hu; subst hu; rfl) (by unfold maxLen; omega) (by omega) (Nat.le_trans hR1 g.size) ?_
              intro v8 W5_17 hown hgrow hloc
              refine hK.out _ _ trivial (fun hHeld => ?_)
              clear hK K
              try simp only [Act.put, List.setIfInBounds_toArray, List.set_cons_zero, List.set_cons_succ, List.getElem_toArray, List.getElem_cons_succ, List.getElem_cons_zero]
              obtain ⟨A8, c8, rfl⟩ := own_form hown
              replace P := P.snoc (v' := .slice A8 (Rr.length + 1) c8) (r := (some ⟨W0.heap.size, 0, none⟩, L13, 13)) hgrow (by simpa [rowV, hl13] using hown) r (by show L13.length ≤ 13; omega) h10
              replace h := h.grown hgrow (fun k hk => by have := hF4 k hk; omega)
              replace g := grownBy_new g hgrow hF4
              refine' wpAnyH_take (i := 6) (oi := _) (v := _) rfl (by kernel_rfl) (by kernel_rfl) (by kernel_rfl) (fun _ _ _ h => h) (Or.inl ⟨by rfl, ?hyt18⟩) hHeld ?restt18
              case hyt18 => (intro w' hSw; (try dsimp only at hSw); go_simp; try with_reducible rfl)
              case' restt18 => try simp only [Act.put, List.setIfInBounds_toArray, List.set_cons_zero, List.set_cons_succ, List.getElem_toArray, List.getElem_cons_succ, List.getElem_cons_zero]
              refine wpAnyH_done (by kernel_rfl) ?_ _
              refine NoPanic.normal ?_
              go_wp2_with fail
              go_ret
              exact ⟨Rr ++ [(some ⟨W0.heap.size, 0, none⟩, L13, 13)], A8, c8, _, by simp, by simp; omega, by simpa using P, h, by omega, g⟩
        · skip
          go_simp
          refine hK.out _ _ trivial (fun hHeld => ?_)
          clear hK K
          try simp only [Act.put, List.setIfInBounds_toArray, List.set_cons_zero, List.set_cons_succ, List.getElem_toArray, List.getElem_cons_succ, List.getElem_cons_zero]
          have Lb := Blk.new W2_14 68 #[.slice (some ⟨W0.heap.size, 0, none⟩) 13 13]
          have hne : W2_14.heap.size ≠ W1_13.heap.size := Nat.ne_of_gt (E.lt _ rfl).2
          replace P := P.alloc (.cells #[.slice (some ⟨W0.heap.size, 0, none⟩) 13 13] 68)
          replace h := h.alloc (.cells #[.slice (some ⟨W0.heap.size, 0, none⟩) 13 13] 68)
          replace g := grownBy_trans g (World.grownBy_alloc W2_14 (.cells #[.slice (some ⟨W0.heap.size, 0, none⟩) 13 13] 68) (some R))
          replace r := r.alloc (.cells #[.slice (some ⟨W0.heap.size, 0, none⟩) 13 13] 68)
          replace E := E.alloc (.cells #[.slice (some ⟨W0.heap.size, 0, none⟩) 13 13] 68)
          generalize hW : W2_14.alloc (.cells #[.slice (some ⟨W0.heap.size, 0, none⟩) 13 13] 68) = W3_18 at P h g r Lb E ⊢
          clear hW
          refine wpAnyH_ready (rs := [2]) (by kernel_rfl) (by simp) ?_
          refine (AllReadyH.cons (o := _) rfl (fun K hK => ?_) AllReadyH.nil)
          · skip
            refine wp_append_any _ _ _ 48 rfl (R + 1) 68 q0 (.slice none 0 0) 1 24 Tryd.underlying48 hq qz0 qz1 qz2 rfl (by decide) (.slice (some ⟨W1_13.heap.size, 0, none⟩) 0 0) _ _ rfl E _ A1 Rr.length c1 (Rr.map rowV) rfl P.reads (rows_oneCell Rr) (by unfold maxLen; omega) (by omega) (Nat.le_trans hR1 g.size) ?_
            intro v' W4_19 hown hgrow hloc
            refine hK.out _ _ trivial (fun hHeld => ?_)
            clear hK K
            try simp only [Act.put, List.setIfInBounds_toArray, List.set_cons_zero, List.set_cons_succ, List.getElem_toArray, List.getElem_cons_succ, List.getElem_cons_zero]
            have hF4 : ∀ k, v'.ownBlock = some k → w.heap.size ≤ k := fun k hk => by
              rcases hloc with e | e
              · rw [e] at hk; simp [Value.ownBlock] at hk; omega
              · rw [e] at hk; injection hk with hk; have := g.size; omega
            have hFE : ∀ k, (Value.slice (some ⟨W1_13.heap.size, 0, none⟩) 0 0).ownBlock = some k → w.heap.size ≤ k := fun k hk => by
              simp [Value.ownBlock] at hk; omega
            replace P : PlansAt _ (R + 1) v' Rr := P.copied E hgrow (by simpa using hown)
            replace h := h.grown hgrow (fun k hk => by have := (E.lt k hk).1; omega)
            replace g := grownBy_new g hgrow hFE
            replace r := own_mark r hgrow (fun k hk e => apart_ty E r (by decide) k e hk)
            replace Lb := Lb.grown hgrow (fun q => hne (by simpa [Value.ownBlock] using q))
            clear hne
            clear E hown hgrow hloc hFE hE
            refine wpAnyH_ready (rs := [5]) (by kernel_rfl) (by simp) ?_
            refine (AllReadyH.cons (o := _) rfl (fun K hK => ?_) AllReadyH.nil)
            · skip
              refine wp_append_any _ _ _ 48 rfl (R + 1) 68 q0 (.slice none 0 0) 1 24 Tryd.underlying48 hq qz0 qz1 qz2 rfl (by decide) v' _ _ rfl P.1 _ (some ⟨W2_14.heap.size, 0, none⟩) 1 1 [.slice (some ⟨W0.heap.size, 0, none⟩) 13 13] rfl (Blk.reads Lb rfl) (fun u hu => by simp at hu; subst hu; rfl) (by unfold maxLen; omega) (by omega) (Nat.le_trans hR1 g.size) ?_
              intro v8 W5_20 hown hgrow hloc
              refine hK.out _ _ trivial (fun hHeld => ?_)
              clear hK K
              try simp only [Act.put, List.setIfInBounds_toArray, List.set_cons_zero, List.set_cons_succ, List.getElem_toArray, List.getElem_cons_succ, List.getElem_cons_zero]
              obtain ⟨A8, c8, rfl⟩ := own_form hown
              replace P := P.snoc (v' := .slice A8 (Rr.length + 1) c8) (r := (some ⟨W0.heap.size, 0, none⟩, L13, 13)) hgrow (by simpa [rowV, hl13] using hown) r (by show L13.length ≤ 13; omega) h10
              replace h := h.grown hgrow (fun k hk => by have := hF4 k hk; omega)
              replace g := grownBy_new g hgrow hF4
              refine' wpAnyH_take (i := 6) (oi := _) (v := _) rfl (by kernel_rfl) (by kernel_rfl) (by kernel_rfl) (fun _ _ _ h => h) (Or.inl ⟨by rfl, ?hyt21⟩) hHeld ?restt21
              case hyt21 => (intro w' hSw; (try dsimp only at hSw); go_simp; try with_reducible rfl)
              case' restt21 => try simp only [Act.put, List.setIfInBounds_toArray, List.set_cons_zero, List.set_cons_succ, List.getElem_toArray, List.getElem_cons_succ, List.getElem_cons_zero]
              refine wpAnyH_done (by kernel_rfl) ?_ _
              refine NoPanic.normal ?_
              go_wp2_with fail
              go_ret
              exact ⟨Rr ++ [(some ⟨W0.heap.size, 0, none⟩, L13, 13)], A8, c8, _, by simp, by simp; omega, by simpa using P, h, by omega, g⟩
      · skip
        go_simp
        refine hK.out _ _ trivial (fun hHeld => ?_)
        clear hK K
        try simp only [Act.put, List.setIfInBounds_toArray, List.set_cons_zero, List.set_cons_succ, List.getElem_toArray, List.getElem_cons_succ, List.getElem_cons_zero]
        have Lb := Blk.new W1_13 68 #[.slice (some ⟨W0.heap.size, 0, none⟩) 13 13]
        replace P := P.alloc (.cells #[.slice (some ⟨W0.heap.size, 0, none⟩) 13 13] 68)
        replace h := h.alloc (.cells #[.slice (some ⟨W0.heap.size, 0, none⟩) 13 13] 68)
        replace g := grownBy_trans g (World.grownBy_alloc W1_13 (.cells #[.slice (some ⟨W0.heap.size, 0, none⟩) 13 13] 68) (some R))
        replace r := r.alloc (.cells #[.slice (some ⟨W0.heap.size, 0, none⟩) 13 13] 68)
        generalize hW : W1_13.alloc (.cells #[.slice (some ⟨W0.heap.size, 0, none⟩) 13 13] 68) = W2_21 at P h g r Lb ⊢
        clear hW
        refine wpAnyH_ready (rs := [0]) (by kernel_rfl) (by simp) ?_
        refine (AllReadyH.cons (o := _) rfl (fun K hK => ?_) AllReadyH.nil)
        · skip
          go_simp
          refine hK.out _ _ trivial (fun hHeld => ?_)
          clear hK K
          try simp only [Act.put, List.setIfInBounds_toArray, List.set_cons_zero, List.set_cons_succ, List.getElem_toArray, List.getElem_cons_succ, List.getElem_cons_zero]
          have E := own_mono (ownsRow_emptyP W2_21) (base' := R + 1) (Nat.le_trans hR1 g.size)
          have hE : w.heap.size ≤ W2_21.heap.size := g.size
          have hne : W1_13.heap.size ≠ W2_21.heap.size := Nat.ne_of_lt Lb.lt
          replace P := P.alloc (.cells #[] 68)
          replace h := h.alloc (.cells #[] 68)
          replace g := grownBy_trans g (World.grownBy_alloc W2_21 (.cells #[] 68) (some R))
          replace r := r.alloc (.cells #[] 68)
          replace Lb := Lb.alloc (.cells #[] 68)
          generalize hW : W2_21.alloc (.cells #[] 68) = W3_22 at P h g E r Lb ⊢
          clear hW
          refine wpAnyH_ready (rs := [2]) (by kernel_rfl) (by simp) ?_
          refine (AllReadyH.cons (o := _) rfl (fun K hK => ?_) AllReadyH.nil)
          · skip
            refine wp_append_any _ _ _ 48 rfl (R + 1) 68 q0 (.slice none 0 0) 1 24 Tryd.underlying48 hq qz0 qz1 qz2 rfl (by decide) (.slice (some ⟨W2_21.heap.size, 0, none⟩) 0 0) _ _ rfl E _ A1 Rr.length c1 (Rr.map rowV) rfl P.reads (rows_oneCell Rr) (by unfold maxLen; omega) (by omega) (Nat.le_trans hR1 g.size) ?_
            intro v' W4_23 hown hgrow hloc
            refine hK.out _ _ trivial (fun hHeld => ?_)
            clear hK K
            try simp only [Act.put, List.setIfInBounds_toArray, List.set_cons_zero, List.set_cons_succ, List.getElem_toArray, List.getElem_cons_succ, List.getElem_cons_zero]
            have hF4 : ∀ k, v'.ownBlock = some k → w.heap.size ≤ k := fun k hk => by
              rcases hloc with e | e
              · rw [e] at hk; simp [Value.ownBlock] at hk; omega
              · rw [e] at hk; injection hk with hk; have := g.size; omega
            have hFE : ∀ k, (Value.slice (some ⟨W2_21.heap.size, 0, none⟩) 0 0).ownBlock = some k → w.heap.size ≤ k := fun k hk => by
              simp [Value.ownBlock] at hk; omega
            replace P : PlansAt _ (R + 1) v' Rr := P.copied E hgrow (by simpa using hown)
            replace h := h.grown hgrow (fun k hk => by have := (E.lt k hk).1; omega)
            replace g := grownBy_new g hgrow hFE
            replace r := own_mark r hgrow (fun k hk e => apart_ty E r (by decide) k e hk)
            replace Lb := Lb.grown hgrow (fun q => hne (by simpa [Value.ownBlock] using q))
            clear hne
            clear E hown hgrow hloc hFE hE
            refine wpAnyH_ready (rs := [5]) (by kernel_rfl) (by simp) ?_
            refine (AllReadyH.cons (o := _) rfl (fun K hK => ?_) AllReadyH.nil)
            · skip
              refine wp_append_any _ _ _ 48 rfl (R + 1) 68 q0 (.slice none 0 0) 1 24 Tryd.underlying48 hq qz0 qz1 qz2 rfl (by decide) v' _ _ rfl P.1 _ (some ⟨W1_13.heap.size, 0, none⟩) 1 1 [.slice (some ⟨W0.heap.size, 0, none⟩) 13 13] rfl (Blk.reads Lb rfl) (fun u hu => by simp at hu; subst hu; rfl) (by unfold maxLen; omega) (by omega) (Nat.le_trans hR1 g.size) ?_
              intro v8 W5_24 hown hgrow hloc
              refine hK.out _ _ trivial (fun hHeld => ?_)
              clear hK K
              try simp only [Act.put, List.setIfInBounds_toArray, List.set_cons_zero, List.set_cons_succ, List.getElem_toArray, List.getElem_cons_succ, List.getElem_cons_zero]
              obtain ⟨A8, c8, rfl⟩ := own_form hown
              replace P := P.snoc (v' := .slice A8 (Rr.length + 1) c8) (r := (some ⟨W0.heap.size, 0, none⟩, L13, 13)) hgrow (by simpa [rowV, hl13] using hown) r (by show L13.length ≤ 13; omega) h10
              replace h := h.grown hgrow (fun k hk => by have := hF4 k hk; omega)
              replace g := grownBy_new g hgrow hF4
              refine' wpAnyH_take (i := 6) (oi := _) (v := _) rfl (by kernel_rfl) (by kernel_rfl) (by kernel_rfl) (fun _ _ _ h => h) (Or.inl ⟨by rfl, ?hyt25⟩) hHeld ?restt25
              case hyt25 => (intro w' hSw; (try dsimp only at hSw); go_simp; try with_reducible rfl)
              case' restt25 => try simp only [Act.put, List.setIfInBounds_toArray, List.set_cons_zero, List.set_cons_succ, List.getElem_toArray, List.getElem_cons_succ, List.getElem_cons_zero]
              refine wpAnyH_done (by kernel_rfl) ?_ _
              refine NoPanic.normal ?_
              go_wp2_with fail
              go_ret
              exact ⟨Rr ++ [(some ⟨W0.heap.size, 0, none⟩, L13, 13)], A8, c8, _, by simp, by simp; omega, by simpa using P, h, by omega, g⟩
  have n3 : (x == 3) = false := beq_eq_false_iff_ne.2 e3
  clear P2 h2 o2 g2 hz2 rd
  go_wp2_with fail
  go_ret
  exact ⟨Rr, A1, c1, p + 1, rfl, by omega, P1, h1, by omega, hg1⟩
end Go.Proofs.YthdnhaaojicmbaaDoor
