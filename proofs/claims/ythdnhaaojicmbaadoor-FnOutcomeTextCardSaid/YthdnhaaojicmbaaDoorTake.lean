/-
  l3Take: a party takes from a line.
-/
import Derived.Test.YthdnhaaojicmbaaDoorMoves
namespace Go.Proofs.YthdnhaaojicmbaaDoor
open Go.RowKit
set_option linter.unusedSimpArgs false
set_option linter.unusedVariables false

set_option maxHeartbeats 16000000 in
theorem l3Take_any (base gL gO gV gP cL cO cV cP nl p : Nat) (ls : List Ln) (os : List Int) (vs : List Value) (ps : List Pt) (w : World) (h : BD w base gL gO gV gP cL cO cV cP ls os vs ps) (ok : BOk nl ls os vs ps) (hp : p < ps.length) (hat : ps[p].at_ < ps[p].plan.2.1.length) (hnl : nl ≤ 6) :
    Calls Tryd.prog 64 #[.agg #[.slice (some ⟨gL, 0, none⟩) ls.length cL, .slice (some ⟨gO, 0, none⟩) os.length cO, .slice (some ⟨gV, 0, none⟩) vs.length cV, .slice (some ⟨gP, 0, none⟩) ps.length cP], .int .i64 p] w (Stepped base gL gO gV gP cL cO cV cP nl ls os vs ps w) := by
  have B1 := ((Below.refl w.heap.size w).alloc (Nat.le_refl _) (.cells #[.slice (some ⟨gL, 0, none⟩) ls.length cL, .slice (some ⟨gO, 0, none⟩) os.length cO, .slice (some ⟨gV, 0, none⟩) vs.length cV, .slice (some ⟨gP, 0, none⟩) ps.length cP] 79)).alloc (by simp) (.cells #[.slice none 0 0, .slice none 0 0, .slice none 0 0, .slice none 0 0] 79)
  have k1 := (Blk.new w 79 #[.slice (some ⟨gL, 0, none⟩) ls.length cL, .slice (some ⟨gO, 0, none⟩) os.length cO, .slice (some ⟨gV, 0, none⟩) vs.length cV, .slice (some ⟨gP, 0, none⟩) ps.length cP]).alloc (.cells #[.slice none 0 0, .slice none 0 0, .slice none 0 0, .slice none 0 0] 79)
  have k2 := Blk.new (w.alloc (.cells #[.slice (some ⟨gL, 0, none⟩) ls.length cL, .slice (some ⟨gO, 0, none⟩) os.length cO, .slice (some ⟨gV, 0, none⟩) vs.length cV, .slice (some ⟨gP, 0, none⟩) ps.length cP] 79)) 79 #[.slice none 0 0, .slice none 0 0, .slice none 0 0, .slice none 0 0]
  simp only [World.size_alloc] at k2
  have hp4 := ok.hp
  have hpt := ok.pt _ (List.getElem_mem hp)
  obtain ⟨q, hq⟩ : ∃ q, ps[p] = q := ⟨_, rfl⟩
  have Hr : ∀ W, Below w.heap.size w W → RD W W.heap.size q.plan.1 q.plan.2.1 := fun W hbW => by subst hq; exact Reads.of_own ((h.keep hbW).plan _ (List.getElem_mem hp))
  have Hc : ∀ W, Below w.heap.size w W → _ := fun W hbW => (h.keep (w' := W) hbW).party hp
  have HQ := Lib.hid hq
  simp only [hq] at hpt hat Hc
  obtain ⟨⟨Ap, lp, cp⟩, at_, ⟨Ah, hl, ch⟩, fin, last, ear⟩ := q
  simp only [rowV] at hpt hat Hr Hc
  have hok := hpt.2.2.1 _ (List.getElem_mem hat)
  obtain ⟨dd, hdd⟩ : ∃ dd, lp[at_] = dd := ⟨_, rfl⟩
  have h9 : (lp[at_].2.1 == 9) = false := by rw [hdd, beq_eq_false_iff_ne]; have := hok.2.2.1; rw [hdd] at this; omega
  rw [hdd] at hok
  have hat' : (at_ : Int) < (lp.length : Int) := by omega
  have hp' : (p : Int) < (ps.length : Int) := by omega
  have HRD := Lib.hid Hr
  have HC := Lib.hid Hc
  have HH := Lib.hid h
  have Hok := Lib.hid ok
  have Hpt := Lib.hid hpt
  clear h ok hpt Hr Hc hq
  obtain ⟨i0, hi0, iz0, iz1, iz2⟩ := info_parts int_info
  have HI := Lib.hid (And.intro hi0 (And.intro iz0 (And.intro iz1 iz2)))
  clear hi0 iz0 iz1 iz2
  go_enter Tryd.func64, Tryd.ntmps64
  go_upto_region 1 with fail
  generalize (w.alloc (.cells #[.slice (some ⟨gL, 0, none⟩) ls.length cL, .slice (some ⟨gO, 0, none⟩) os.length cO, .slice (some ⟨gV, 0, none⟩) vs.length cV, .slice (some ⟨gP, 0, none⟩) ps.length cP] 79)).alloc (.cells #[.slice none 0 0, .slice none 0 0, .slice none 0 0, .slice none 0 0] 79) = w1 at B1 k1 k2 ⊢
  have a3 : w1.cell? ⟨w.heap.size, 3, none⟩ = some (.slice (some ⟨gP, 0, none⟩) ps.length cP) := k1.cell 3
  obtain ⟨p0, p1, p2, p3, p4, p5⟩ := HC.out _ B1
  have hRD := HRD.out _ B1
  go_upto_region 2 with (first | (go_at_call 65; refine (l3Line_any _ lp cp at_ _ _ _ _ _ hRD hat h9).mono ?_; rintro e w3 ⟨rfl, hb3⟩; rw [hdd]))
  have BZ := B1.trans (hb3.mono B1.size)
  have kB := k1.below hb3 k1.lt
  have kR := k2.below hb3 k2.lt
  obtain ⟨ln, hln⟩ : ∃ ln : Nat, dd.2.1 = ln := ⟨dd.2.1.toNat, by have := hok.2.1; omega⟩
  have hll := Hok.out.hl
  have hl2 : ln < ls.length := by have := hok.2.2.1; omega
  clear hll
  obtain ⟨q0, q1, q2, q3⟩ := (HH.out.keep BZ).line hl2
  simp only [hln]
  clear a3 p0 p1 p2 p3 p4 p5 hRD hb3 k1 k2 B1
  have hbw : base ≤ w.heap.size := by have := HH.out.pts.lt gP rfl; omega
  have BZb := BZ.mono hbw
  have XZ : Boxes w w3 := Boxes.below BZ
  have z0 := kB.cell 0
  have z1 := kB.cell 1
  have z2 := kB.cell 2
  have z3 := kB.cell 3
  have v0 := kR.cell 0
  have v1 := kR.cell 1
  have v2 := kR.cell 2
  have v3 := kR.cell 3
  simp at z0 z1 z2 z3 v0 v1 v2 v3
  have y0 := kR.frozen 0
  have y1 := kR.frozen 1
  have y2 := kR.frozen 2
  have y3 := kR.frozen 3
  by_cases hz : ln = 0
  · have hz2 : ((ln : Int) == 0) = true := by simp [hz]
    clear q0 q1 q2 q3
    go_wp2_with fail
    obtain ⟨f1, f2, f3, f4⟩ := (HH.out.keep BZ).res kR (by omega) BZb XZ (by omega) (.slice (some ⟨gL, 0, none⟩) ls.length cL) (.slice (some ⟨gO, 0, none⟩) os.length cO) (.slice (some ⟨gV, 0, none⟩) vs.length cV) (.slice (some ⟨gP, 0, none⟩) ps.length cP)
    generalize ((((w3.setCell ⟨w.heap.size + 1, 0, none⟩ (.slice (some ⟨gL, 0, none⟩) ls.length cL)).setCell ⟨w.heap.size + 1, 1, none⟩ (.slice (some ⟨gO, 0, none⟩) os.length cO)).setCell ⟨w.heap.size + 1, 2, none⟩ (.slice (some ⟨gV, 0, none⟩) vs.length cV)).setCell ⟨w.heap.size + 1, 3, none⟩ (.slice (some ⟨gP, 0, none⟩) ps.length cP)) = W7 at f1 f2 f3 f4 ⊢
    have r0 := f4.cell 0
    have r1 := f4.cell 1
    have r2 := f4.cell 2
    have r3 := f4.cell 3
    simp at r0 r1 r2 r3
    exact bodyPost_ret (v := .tuple #[.agg #[.slice (some ⟨gL, 0, none⟩) ls.length cL, .slice (some ⟨gO, 0, none⟩) os.length cO, .slice (some ⟨gV, 0, none⟩) vs.length cV, .slice (some ⟨gP, 0, none⟩) ps.length cP], .bool false]) (by simp [results, Tryd.results64, go_sem, r0, r1, r2, r3]) rfl ⟨false, ls, vs, ps, rfl, rfl, rfl, rfl, f1, Hok.out, by simp, f2, f3⟩
  · have hz2 : ((ln : Int) == 0) = false := by rw [beq_eq_false_iff_ne]; omega
    obtain ⟨L0, hL0⟩ : ∃ L0, ls[ln] = L0 := ⟨_, rfl⟩
    have HL := Lib.hid hL0
    simp only [hL0] at q0 q1 q2 q3
    clear hL0
    obtain ⟨room, ⟨Ax, hx, cx⟩, en, tk⟩ := L0
    simp only [rowV] at q1
    have hl2' : (ln : Int) < (ls.length : Int) := by omega
    by_cases hpos : 0 < hx.length
    · have hO := (HH.out.keep BZ).lines.held _ (List.getElem_mem hl2)
      rw [HL.out] at hO
      simp only [rowV] at hO
      obtain ⟨gx, cx2, hgx, -, -⟩ := own_some hO hpos
      injection hgx with hgx1 hgx2 hgx3
      subst hgx1 hgx3
      obtain ⟨hcap, hcap2⟩ := own_cap hO
      have hR0 := Reads.of_own hO
      have h00 : w3.cell? ⟨gx, 0, none⟩ = some (.int .i64 hx[0]) := hO.cells (g := gx) rfl 0 _ (by simp [ints, List.getElem?_eq_getElem hpos])
      obtain ⟨word, hword⟩ : ∃ word, hx[0] = word := ⟨_, rfl⟩
      have hW1 : 0 ≤ word ∧ word ≤ 1000 := by have := Hok.out.ln _ (List.getElem_mem hl2); rw [HL.out] at this; have := this _ (List.getElem_mem hpos); rw [hword] at this; exact this
      rw [hword] at h00
      have hx0 : (0 : Int) < (hx.length : Int) := by omega
      have hx1 : (1 : Int) ≤ (hx.length : Int) := by omega
      have hcap' : (hx.length : Int) ≤ (cx : Int) := by omega
      have HO := Lib.hid (And.intro hO hword)
      clear hO hword
      obtain ⟨A1, hA1⟩ : ∃ A1 : Option Addr, (if cx = 1 then some (⟨gx, 0, none⟩ : Addr) else some ⟨gx, 1, none⟩) = A1 := ⟨_, rfl⟩
      obtain ⟨hy, hhy⟩ : ∃ hy, hx.drop 1 = hy := ⟨_, rfl⟩
      have hyl : hx.length - 1 = hy.length := by rw [← hhy, List.length_drop]
      have hR1 : Reads w3 w3.heap.size 1 A1 hy.length (ints hy) := by
        have := hR0.cut (k := 1) (cap := cx) (by omega) hcap
        rw [← hA1, ← hyl, ← hhy]
        have e : (⟨gx, 0, none⟩ : Addr).add (1 * 1) = ⟨gx, 1, none⟩ := rfl
        simpa [ints, e, List.map_drop] using this
      have hlen5 : hx.length ≤ 500 := by have := Hok.out.sz _ (List.getElem_mem hp); have h3 := mu_mem_ls ps hl2; rw [HL.out] at h3; have h3 : hx.length ≤ mu ls ps := h3; omega
      have hyK : ∀ y ∈ hy, 0 ≤ y ∧ y ≤ 1000 := fun y hyy => by
        have := Hok.out.ln _ (List.getElem_mem hl2)
        rw [HL.out] at this
        rw [← hhy] at hyy
        exact this y (List.drop_subset 1 hx hyy)
      have hat2 : ps[p].at_ < ps[p].plan.2.1.length := by rw [HQ.out]; exact hat
      have hpt0 := Hok.out.pt _ (List.getElem_mem hp)
      have hsz0 := Hok.out.sz _ (List.getElem_mem hp)
      have h13 : ps[p].plan.2.1.length ≤ 13 := by have := hpt0.2.1; omega
      have hhl : ps[p].heard.2.1.length ≤ 1000 := by omega
      have hyl5 : hy.length ≤ 500 := by omega
      have HT := Lib.hid (And.intro hat2 (And.intro hpt0 (And.intro h13 (And.intro hhl hyK))))
      have HA1 := Lib.hid hA1
      have HR1 := Lib.hid hR1
      have HYL := Lib.hid hyl
      clear hR1 hR0 hA1 hyl hhy hyK hat2 hpt0 hsz0 h13 hhl q0 q2 q3
      go_upto_region 6 with fail
      go_wp2_with fail
      refine wp_region_noPanic ?_
      refine wp_region_late (C := (fun w' => w'.cell? ⟨w.heap.size, 0, none⟩ = some (.slice (some ⟨gL, 0, none⟩) ls.length cL) ∧ w'.cell? ⟨gL, ln * 4 + 1, none⟩ = some (.slice (some ⟨gx, 0, none⟩) hx.length cx))) (t := 14) (by kernel_rfl) (⟨z0, q1⟩) (fun hHeld => ?_)
      refine' Late.take (i := 0) (oi := _) (v := _) rfl (by kernel_rfl) (by kernel_rfl) (by kernel_rfl) (by kernel_rfl) (fun _ _ _ h => h) (Or.inl ⟨by rfl, ?hy0r6⟩) hHeld ?rest0r6
      case hy0r6 => (intro w' hSw; (try dsimp only at hSw); go_simp; try with_reducible rfl)
      case' rest0r6 => try simp only [Act.put, List.setIfInBounds_toArray, List.set_cons_zero, List.set_cons_succ, List.getElem_toArray, List.getElem_cons_succ, List.getElem_cons_zero]
      refine' Late.take (i := 1) (oi := _) (v := _) rfl (by kernel_rfl) (by kernel_rfl) (by kernel_rfl) (by kernel_rfl) (fun _ _ _ h => h) (Or.inl ⟨by rfl, ?hy1r6⟩) hHeld ?rest1r6
      case hy1r6 => (intro w' hSw; (try dsimp only at hSw); go_simp; try with_reducible rfl)
      case' rest1r6 => try simp only [Act.put, List.setIfInBounds_toArray, List.set_cons_zero, List.set_cons_succ, List.getElem_toArray, List.getElem_cons_succ, List.getElem_cons_zero]
      refine' Late.take (i := 2) (oi := _) (v := _) rfl (by kernel_rfl) (by kernel_rfl) (by kernel_rfl) (by kernel_rfl) (fun _ _ _ h => h) (Or.inl ⟨by rfl, ?hy2r6⟩) hHeld ?rest2r6
      case hy2r6 => (intro w' hSw; (try dsimp only at hSw); go_simp; try with_reducible rfl)
      case' rest2r6 => try simp only [Act.put, List.setIfInBounds_toArray, List.set_cons_zero, List.set_cons_succ, List.getElem_toArray, List.getElem_cons_succ, List.getElem_cons_zero]
      refine' Late.take (i := 4) (oi := _) (v := _) rfl (by kernel_rfl) (by kernel_rfl) (by kernel_rfl) (by kernel_rfl) (fun _ _ _ h => h) (Or.inl ⟨by rfl, ?hy4r6⟩) hHeld ?rest4r6
      case hy4r6 => (intro w' hSw; (try dsimp only at hSw); go_simp; try with_reducible rfl)
      case' rest4r6 => try simp only [Act.put, List.setIfInBounds_toArray, List.set_cons_zero, List.set_cons_succ, List.getElem_toArray, List.getElem_cons_succ, List.getElem_cons_zero]
      refine' Late.take (i := 5) (oi := _) (v := _) rfl (by kernel_rfl) (by kernel_rfl) (by kernel_rfl) (by kernel_rfl) (fun _ _ _ h => h) (Or.inl ⟨by rfl, ?hy5r6⟩) hHeld ?rest5r6
      case hy5r6 => (intro w' hSw; (try dsimp only at hSw); go_simp; try with_reducible rfl)
      case' rest5r6 => try simp only [Act.put, List.setIfInBounds_toArray, List.set_cons_zero, List.set_cons_succ, List.getElem_toArray, List.getElem_cons_succ, List.getElem_cons_zero]
      refine' Late.take (i := 6) (oi := _) (v := _) rfl (by kernel_rfl) (by kernel_rfl) (by kernel_rfl) (by kernel_rfl) (fun _ _ _ h => h) (Or.inl ⟨by rfl, ?hy6r6⟩) hHeld ?rest6r6
      case hy6r6 => (intro w' hSw; (try dsimp only at hSw); go_simp; try with_reducible rfl)
      case' rest6r6 => try simp only [Act.put, List.setIfInBounds_toArray, List.set_cons_zero, List.set_cons_succ, List.getElem_toArray, List.getElem_cons_succ, List.getElem_cons_zero]
      refine' Late.take (i := 7) (oi := _) (v := _) rfl (by kernel_rfl) (by kernel_rfl) (by kernel_rfl) (by kernel_rfl) (fun _ _ _ h => h) (Or.inl ⟨by rfl, ?hy7r6⟩) hHeld ?rest7r6
      case hy7r6 => (intro w' hSw; (try dsimp only at hSw); go_simp; try with_reducible rfl)
      case' rest7r6 => try simp only [Act.put, List.setIfInBounds_toArray, List.set_cons_zero, List.set_cons_succ, List.getElem_toArray, List.getElem_cons_succ, List.getElem_cons_zero]
      refine' Late.take (i := 8) (oi := _) (v := _) rfl (by kernel_rfl) (by kernel_rfl) (by kernel_rfl) (by kernel_rfl) (fun _ _ _ h => h) (Or.inl ⟨by rfl, ?hy8r6⟩) hHeld ?rest8r6
      case hy8r6 => (intro w' hSw; (try dsimp only at hSw); go_simp; try with_reducible rfl)
      case' rest8r6 => try simp only [Act.put, List.setIfInBounds_toArray, List.set_cons_zero, List.set_cons_succ, List.getElem_toArray, List.getElem_cons_succ, List.getElem_cons_zero]
      refine' Late.take (i := 9) (oi := _) (v := _) rfl (by kernel_rfl) (by kernel_rfl) (by kernel_rfl) (by kernel_rfl) (fun _ _ _ h => h) (Or.inl ⟨by rfl, ?hy9r6⟩) hHeld ?rest9r6
      case hy9r6 => (intro w' hSw; (try dsimp only at hSw); go_simp; try with_reducible rfl)
      case' rest9r6 => try simp only [Act.put, List.setIfInBounds_toArray, List.set_cons_zero, List.set_cons_succ, List.getElem_toArray, List.getElem_cons_succ, List.getElem_cons_zero]
      refine' Late.take (i := 10) (oi := _) (v := .slice A1 (hx.length - 1) (cx - 1)) rfl (by kernel_rfl) (by kernel_rfl) (by kernel_rfl) (by kernel_rfl) (fun _ _ _ h => h) (Or.inl ⟨by rfl, ?hy10r6⟩) hHeld ?rest10r6
      case hy10r6 =>
        intro w' hSw
        by_cases hc : cx = 1
        · rw [show A1 = some ⟨gx, 0, none⟩ by rw [← HA1.out, if_pos hc]]
          subst hc
          go_simp
          try with_reducible rfl
        · rw [show A1 = some ⟨gx, 1, none⟩ by rw [← HA1.out, if_neg hc]]
          go_simp
          try with_reducible rfl
      case' rest10r6 => try simp only [Act.put, List.setIfInBounds_toArray, List.set_cons_zero, List.set_cons_succ, List.getElem_toArray, List.getElem_cons_succ, List.getElem_cons_zero]
      refine Late.ready (rs := [3]) (by kernel_rfl) (by simp) ?_
      refine LateAll.cons (o := _) rfl (fun K hK => ?_) LateAll.nil
      go_simp
      have BA : Below w3.heap.size w3 (w3.drew.alloc (.cells #[] 3)) := ((Below.refl w3.heap.size w3).drew).alloc (Nat.le_refl _) _
      try go_wp2_with fail
      refine hK.out _ _ (⟨keepC BA z0, keepC BA q1⟩) (fun hHeld => ?_)
      clear hK K
      try simp only [Act.put, List.setIfInBounds_toArray, List.set_cons_zero, List.set_cons_succ, List.getElem_toArray, List.getElem_cons_succ, List.getElem_cons_zero]
      refine Late.ready (rs := [11]) (by kernel_rfl) (by simp) ?_
      refine LateAll.cons (o := _) rfl (fun K hK => ?_) LateAll.nil
      refine step_append_any rfl _ _ 22 rfl w3.heap.size 3 i0 (.int .i64 0) 1 8 Tryd.underlying22 HI.out.1 HI.out.2.1 HI.out.2.2.1 HI.out.2.2.2 rfl (by decide) (.slice (some ⟨w3.heap.size, 0, none⟩) 0 0) 0 [] (by simp [Act.eval, Act.put]) (ownsRow_empty w3.drew) _ A1 hy.length (cx - 1) (ints hy) (by rw [← HYL.out]; simp [Act.eval, Act.put]) (HR1.out.alloc (Nat.le_refl _) _) (ints_oneCell' _) (by unfold maxLen; omega) (by omega) (by show w3.heap.size ≤ (w3.alloc _).heap.size; simp) ?_
      intro v' w4 hown' hgrow hloc
      have B4 : Below w3.heap.size w3 w4 := BA.grown hgrow (by show w3.heap.size ≤ (w3.alloc _).heap.size; simp) (fun k hk => by simp [Value.ownBlock] at hk; omega)
      have B4w := BZ.trans (B4.mono BZ.size)
      have hown2 : w4.ownsRow w3.heap.size 3 1 v' hy.length (ints hy) := by simpa using hown'
      obtain ⟨A2, c2, rfl⟩ := own_form hown2
      have fz : w4.frozen? ⟨gL, ln * 4 + 1, none⟩ = false := (HH.out.keep B4w).lines.row.frozenAt _
      refine hK.out _ _ (⟨keepC B4 z0, keepC B4 q1⟩) (fun hHeld => ?_)
      clear hK K
      try simp only [Act.put, List.setIfInBounds_toArray, List.set_cons_zero, List.set_cons_succ, List.getElem_toArray, List.getElem_cons_succ, List.getElem_cons_zero]
      refine Late.ready (rs := [12]) (by kernel_rfl) (by simp) ?_
      refine LateAll.cons (o := _) rfl (fun K hK => ?_) LateAll.nil
      go_simp
      try go_wp2_with fail
      refine hK.out _ _ (hHeld) (fun hHeld => ?_)
      clear hK K
      try simp only [Act.put, List.setIfInBounds_toArray, List.set_cons_zero, List.set_cons_succ, List.getElem_toArray, List.getElem_cons_succ, List.getElem_cons_zero]
      refine Late.ready (rs := [13]) (by kernel_rfl) (by simp) ?_
      refine LateAll.cons (o := _) rfl (fun K hK => ?_) LateAll.nil
      go_simp
      try go_wp2_with fail
      refine hK.out _ _ (hHeld) (fun hHeld => ?_)
      clear hK K
      try simp only [Act.put, List.setIfInBounds_toArray, List.set_cons_zero, List.set_cons_succ, List.getElem_toArray, List.getElem_cons_succ, List.getElem_cons_zero]
      refine Late.ready (rs := [14]) (by kernel_rfl) (by simp) ?_
      refine LateAll.last (o := _) rfl (fun K hK => ?_)
      go_simp
      have c1 : w4.cell? ⟨gL, ln * 4 + 1, none⟩ = some (.slice (some ⟨gx, 0, none⟩) hx.length cx) := hHeld.2
      try go_wp2_with fail
      refine hK.out _ _ ?_
      clear hK K
      try simp only [Act.put, List.setIfInBounds_toArray, List.set_cons_zero, List.set_cons_succ, List.getElem_toArray, List.getElem_cons_succ, List.getElem_cons_zero]
      refine Late.done (by kernel_rfl) ?_ _
      refine NoPanic.normal ?_
      have b4 := HH.out.keep B4w
      have b5 := b4.heldL hl2 HL.out (A2, hy, c2) (own_mono hown2 (by have := BZ.size; omega)) (fun u hu => HH.out.later hown2 BZ.size u hu)
      obtain ⟨B5, X5, K5⟩ := b4.sideL (B4w.mono hbw) (Boxes.below B4w) (ln * 4 + 1) (rowV (A2, hy, c2))
      have kB5 := K5 _ _ (kB.below B4 kB.lt)
      have kR5 := K5 _ _ (kR.below B4 kR.lt)
      clear K5 b4 hHeld c1 fz hown' hgrow hloc hown2 B4 B4w BA
      simp only [rowV] at b5 B5 X5 kB5 kR5
      generalize w4.setCell ⟨gL, ln * 4 + 1, none⟩ (.slice A2 hy.length c2) = w5 at b5 B5 X5 kB5 kR5 ⊢
      clear z0 z1 z2 z3 v0 v1 v2 v3 y0 y1 y2 y3 q1 h00
      have hG := l3Given_any base gL gO gV gP cL cO cV cP nl p word _ os vs ps w5 b5 hp4 hp HT.out.1 HT.out.2.2.1 HT.out.2.2.2.1 (by omega) (by omega)
      simp only [List.length_set] at hG
      have HG := Lib.hid hG
      clear hG
      have z0 := kB5.cell 0
      have z1 := kB5.cell 1
      have z2 := kB5.cell 2
      have z3 := kB5.cell 3
      simp at z0 z1 z2 z3
      go_wp2_with (go_at_call 67; refine HG.out.mono ?_; rintro e w6 ⟨rfl, x, hg, hB6, b6, X6⟩; have kR6 := X6 _ _ kR5; have t0 := kR6.cell 0; have t1 := kR6.cell 1; have t2 := kR6.cell 2; have t3 := kR6.cell 3; have t4 := kR6.frozen 0; have t5 := kR6.frozen 1; have t6 := kR6.frozen 2; have t7 := kR6.frozen 3; simp at t0 t1 t2 t3)
      obtain ⟨g1, g2, g3, g4⟩ := hg.ok HT.out.2.1 HT.out.1 (by omega) (by omega)
      obtain ⟨f1, f2, f3, f4⟩ := hB6.res kR6 (by omega) (B5.trans b6) (X5.trans X6) (by omega) (.slice (some ⟨gL, 0, none⟩) ls.length cL) (.slice (some ⟨gO, 0, none⟩) os.length cO) (.slice (some ⟨gV, 0, none⟩) vs.length cV) (.slice (some ⟨gP, 0, none⟩) ps.length cP)
      obtain ⟨ok6, mu6⟩ := Hok.out.takes hl2 hp (held ls[ln] (A2, hy, c2)) (fun y hyy => HT.out.2.2.2.2 y hyy) (by rw [HL.out]; have := HYL.out; show hy.length + 1 = hx.length; omega) x g1 g2 g3
      rw [HL.out] at ok6 mu6
      have hmu2 : mu (ls.set ln (held ⟨room, (some ⟨gx, 0, none⟩, hx, cx), en, tk⟩ (A2, hy, c2))) (ps.set p x) + (if true = true then 1 else 0) ≤ mu ls ps := by rw [if_pos rfl]; exact mu6
      clear z0 z1 z2 z3 t0 t1 t2 t3 t4 t5 t6 t7 hB6 kR6 hg g1 g2 g3 g4 kB5 kR5 HG
      generalize ((((w6.setCell ⟨w.heap.size + 1, 0, none⟩ (.slice (some ⟨gL, 0, none⟩) ls.length cL)).setCell ⟨w.heap.size + 1, 1, none⟩ (.slice (some ⟨gO, 0, none⟩) os.length cO)).setCell ⟨w.heap.size + 1, 2, none⟩ (.slice (some ⟨gV, 0, none⟩) vs.length cV)).setCell ⟨w.heap.size + 1, 3, none⟩ (.slice (some ⟨gP, 0, none⟩) ps.length cP)) = W7 at f1 f2 f3 f4 ⊢
      have r0 := f4.cell 0
      have r1 := f4.cell 1
      have r2 := f4.cell 2
      have r3 := f4.cell 3
      simp at r0 r1 r2 r3
      exact bodyPost_ret (v := .tuple #[.agg #[.slice (some ⟨gL, 0, none⟩) ls.length cL, .slice (some ⟨gO, 0, none⟩) os.length cO, .slice (some ⟨gV, 0, none⟩) vs.length cV, .slice (some ⟨gP, 0, none⟩) ps.length cP], .bool true]) (by simp [results, Tryd.results64, go_sem, r0, r1, r2, r3]) rfl ⟨true, _, vs, ps.set p x, rfl, List.length_set .., rfl, List.length_set .., f1, ok6, hmu2, f2, f3⟩
    · have hx0 : ¬ (0 : Int) < (hx.length : Int) := by omega
      cases en
      · clear q0 q3
        go_wp2_with fail
        obtain ⟨f1, f2, f3, f4⟩ := (HH.out.keep BZ).res kR (by omega) BZb XZ (by omega) (.slice (some ⟨gL, 0, none⟩) ls.length cL) (.slice (some ⟨gO, 0, none⟩) os.length cO) (.slice (some ⟨gV, 0, none⟩) vs.length cV) (.slice (some ⟨gP, 0, none⟩) ps.length cP)
        generalize ((((w3.setCell ⟨w.heap.size + 1, 0, none⟩ (.slice (some ⟨gL, 0, none⟩) ls.length cL)).setCell ⟨w.heap.size + 1, 1, none⟩ (.slice (some ⟨gO, 0, none⟩) os.length cO)).setCell ⟨w.heap.size + 1, 2, none⟩ (.slice (some ⟨gV, 0, none⟩) vs.length cV)).setCell ⟨w.heap.size + 1, 3, none⟩ (.slice (some ⟨gP, 0, none⟩) ps.length cP)) = W7 at f1 f2 f3 f4 ⊢
        have r0 := f4.cell 0
        have r1 := f4.cell 1
        have r2 := f4.cell 2
        have r3 := f4.cell 3
        simp at r0 r1 r2 r3
        exact bodyPost_ret (v := .tuple #[.agg #[.slice (some ⟨gL, 0, none⟩) ls.length cL, .slice (some ⟨gO, 0, none⟩) os.length cO, .slice (some ⟨gV, 0, none⟩) vs.length cV, .slice (some ⟨gP, 0, none⟩) ps.length cP], .bool false]) (by simp [results, Tryd.results64, go_sem, r0, r1, r2, r3]) rfl ⟨false, ls, vs, ps, rfl, rfl, rfl, rfl, f1, Hok.out, by simp, f2, f3⟩
      · obtain ⟨p0, p1, p2, p3, p4, p5⟩ := HC.out _ BZ
        have hRD := HRD.out _ BZ
        obtain ⟨ad, hA, hbl, d1, d2, d3⟩ := hRD.at_ hat
        rw [hdd] at d1 d2 d3
        subst hA
        cases ht : dd.1.toList == [116, 97, 107, 101]
        · have pf : w3.frozen? ⟨gP, p * 6 + 1, none⟩ = false := (HH.out.keep BZ).pts.frozenAt _
          have h12 : lp.length ≤ 12 := Hpt.out.2.1
          have e64 : Hid (IntKind.i64.wrap ((at_ : Int) + 1) = (at_ : Int) + 1) := Lib.hid (IntWalk.i64_in _ (by omega))
          have ha64 : wrap64 ((at_ : Int) + 1) = (at_ : Int) + 1 := by unfold wrap64; omega
          clear q0 q3 p2 p3 p4 p5 d2 d3 hRD
          go_wp2_with fail
          go_quiet (fail)
          go_wp2_with fail
          go_region_with fail
          all_goals
            generalize nq + 1 = N
            rw [e64.out]
            have b3 : BD (w3.drewN N) base gL gO gV gP cL cO cV cP ls os vs ps := HH.out.keep (below_drewN BZ N)
            have b4 : BD ((w3.drewN N).setCell ⟨gP, p * 6 + 1, none⟩ (.int .i64 ((at_ : Int) + 1))) base gL gO gV gP cL cO cV cP ls os vs _ := b3.atP hp HQ.out
            obtain ⟨B4, X4, K4⟩ := b3.sideP (below_drewN BZb N) ((Boxes.below (below_drewN BZ N))) (p * 6 + 1) (.int .i64 ((at_ : Int) + 1))
            have kB4 := K4 _ _ (show Blk (w3.drewN N) _ _ _ from kB)
            have kR4 := K4 _ _ (show Blk (w3.drewN N) _ _ _ from kR)
            clear ha64 K4 b3 p0 p1 z0 z1 z2 z3 v0 v1 v2 v3 y0 y1 y2 y3 pf
            generalize (w3.drewN N).setCell ⟨gP, p * 6 + 1, none⟩ (.int .i64 ((at_ : Int) + 1)) = w4 at b4 B4 X4 kB4 kR4 ⊢
            have nx := nextP_ok Hpt.out hat
            have ok4 := Hok.out.party hp (nextP ⟨(some ad, lp, cp), at_, (Ah, hl, ch), fin, last, ear⟩) nx.1 (by rw [HQ.out]; omega) (by rw [HQ.out]; show hl.length + _ ≤ hl.length + _; omega)
            have hmu := mu_setP (ls := ls) hp (nextP ⟨(some ad, lp, cp), at_, (Ah, hl, ch), fin, last, ear⟩)
            have hmu2 : mu ls (ps.set p (nextP ⟨(some ad, lp, cp), at_, (Ah, hl, ch), fin, last, ear⟩)) + (if true = true then 1 else 0) ≤ mu ls ps := by rw [if_pos rfl]; rw [HQ.out] at hmu; omega
            have H4 := Lib.hid (And.intro ok4 hmu2)
            clear nx ok4 hmu hmu2
            have z0 := kB4.cell 0
            have z1 := kB4.cell 1
            have z2 := kB4.cell 2
            have z3 := kB4.cell 3
            have v0 := kR4.cell 0
            have v1 := kR4.cell 1
            have v2 := kR4.cell 2
            have v3 := kR4.cell 3
            simp at z0 z1 z2 z3 v0 v1 v2 v3
            have y0 := kR4.frozen 0
            have y1 := kR4.frozen 1
            have y2 := kR4.frozen 2
            have y3 := kR4.frozen 3
            go_wp2_with fail
            obtain ⟨f1, f2, f3, f4⟩ := b4.res kR4 (by omega) B4 X4 (by omega) (.slice (some ⟨gL, 0, none⟩) ls.length cL) (.slice (some ⟨gO, 0, none⟩) os.length cO) (.slice (some ⟨gV, 0, none⟩) vs.length cV) (.slice (some ⟨gP, 0, none⟩) ps.length cP)
            clear z0 z1 z2 z3 v0 v1 v2 v3 y0 y1 y2 y3
            generalize ((((w4.setCell ⟨w.heap.size + 1, 0, none⟩ (.slice (some ⟨gL, 0, none⟩) ls.length cL)).setCell ⟨w.heap.size + 1, 1, none⟩ (.slice (some ⟨gO, 0, none⟩) os.length cO)).setCell ⟨w.heap.size + 1, 2, none⟩ (.slice (some ⟨gV, 0, none⟩) vs.length cV)).setCell ⟨w.heap.size + 1, 3, none⟩ (.slice (some ⟨gP, 0, none⟩) ps.length cP)) = W7 at f1 f2 f3 f4 ⊢
            have r0 := f4.cell 0
            have r1 := f4.cell 1
            have r2 := f4.cell 2
            have r3 := f4.cell 3
            simp at r0 r1 r2 r3
            exact bodyPost_ret (v := .tuple #[.agg #[.slice (some ⟨gL, 0, none⟩) ls.length cL, .slice (some ⟨gO, 0, none⟩) os.length cO, .slice (some ⟨gV, 0, none⟩) vs.length cV, .slice (some ⟨gP, 0, none⟩) ps.length cP], .bool true]) (by simp [results, Tryd.results64, go_sem, r0, r1, r2, r3]) rfl ⟨true, ls, vs, (ps.set p (nextP ⟨(some ad, lp, cp), at_, (Ah, hl, ch), fin, last, ear⟩)), rfl, rfl, rfl, List.length_set .., f1, H4.out.1, H4.out.2, f2, f3⟩
        · clear q0 q3 p2 p3 p4 p5 d2 d3 hRD
          have hat2 : ps[p].at_ < ps[p].plan.2.1.length := by rw [HQ.out]; exact hat
          have hpt0 := Hok.out.pt _ (List.getElem_mem hp)
          have hsz0 := Hok.out.sz _ (List.getElem_mem hp)
          have h13 : ps[p].plan.2.1.length ≤ 13 := by have := hpt0.2.1; omega
          have hhl : ps[p].heard.2.1.length ≤ 1000 := by omega
          have HT := Lib.hid (And.intro hat2 (And.intro hpt0 (And.intro h13 hhl)))
          clear hat2 hpt0 hsz0 h13 hhl
          go_wp2_with fail
          go_quiet (fail)
          have hBz := fun n => HH.out.keep (w' := w3.drewN n) (below_drewN BZ n)
          go_wp2_with (go_at_call 67; refine (l3Given_any base gL gO gV gP cL cO cV cP nl p (-1) ls os vs ps _ (hBz _) hp4 hp HT.out.1 HT.out.2.2.1 HT.out.2.2.2 (by omega) (by omega)).mono ?_; rintro e w4 ⟨rfl, x, hg, hB4, b4, X4⟩; have kR4 := X4 _ _ (show Blk (w3.drewN _) _ _ _ from kR); have t0 := kR4.cell 0; have t1 := kR4.cell 1; have t2 := kR4.cell 2; have t3 := kR4.cell 3; have t4 := kR4.frozen 0; have t5 := kR4.frozen 1; have t6 := kR4.frozen 2; have t7 := kR4.frozen 3; simp at t0 t1 t2 t3)
          obtain ⟨g1, g2, g3, g4⟩ := hg.ok HT.out.2.1 HT.out.1 (by omega) (by omega)
          have g5 : muP x + 2 ≤ muP ps[p] := g4 (by rw [HQ.out]; show ((lp.getD at_ (ByteArray.empty, 0, 0)).1.toList == takeL) = true; rw [List.getD_eq_getElem?_getD, List.getElem?_eq_getElem hat]; show (lp[at_].1.toList == takeL) = true; rw [hdd]; exact ht)
          obtain ⟨f1, f2, f3, f4⟩ := hB4.res kR4 (by omega) ((below_drewN BZb _).trans b4) ((Boxes.below (below_drewN BZ _)).trans X4) (by omega) (.slice (some ⟨gL, 0, none⟩) ls.length cL) (.slice (some ⟨gO, 0, none⟩) os.length cO) (.slice (some ⟨gV, 0, none⟩) vs.length cV) (.slice (some ⟨gP, 0, none⟩) ps.length cP)
          have ok4 := Hok.out.party hp x g1 g2 (by omega)
          have hmu := mu_setP (ls := ls) hp x
          have hmu2 : mu ls (ps.set p x) + (if true = true then 1 else 0) ≤ mu ls ps := by rw [if_pos rfl]; omega
          clear z0 z1 z2 z3 v0 v1 v2 v3 y0 y1 y2 y3 t0 t1 t2 t3 t4 t5 t6 t7 hB4 kR4 hg g1 g2 g3 g4 g5
          generalize ((((w4.setCell ⟨w.heap.size + 1, 0, none⟩ (.slice (some ⟨gL, 0, none⟩) ls.length cL)).setCell ⟨w.heap.size + 1, 1, none⟩ (.slice (some ⟨gO, 0, none⟩) os.length cO)).setCell ⟨w.heap.size + 1, 2, none⟩ (.slice (some ⟨gV, 0, none⟩) vs.length cV)).setCell ⟨w.heap.size + 1, 3, none⟩ (.slice (some ⟨gP, 0, none⟩) ps.length cP)) = W7 at f1 f2 f3 f4 ⊢
          have r0 := f4.cell 0
          have r1 := f4.cell 1
          have r2 := f4.cell 2
          have r3 := f4.cell 3
          simp at r0 r1 r2 r3
          exact bodyPost_ret (v := .tuple #[.agg #[.slice (some ⟨gL, 0, none⟩) ls.length cL, .slice (some ⟨gO, 0, none⟩) os.length cO, .slice (some ⟨gV, 0, none⟩) vs.length cV, .slice (some ⟨gP, 0, none⟩) ps.length cP], .bool true]) (by simp [results, Tryd.results64, go_sem, r0, r1, r2, r3]) rfl ⟨true, ls, vs, ps.set p x, rfl, rfl, rfl, List.length_set .., f1, ok4, hmu2, f2, f3⟩
end Go.Proofs.YthdnhaaojicmbaaDoor
