/-
  l3Fault: whether the deed of a party is a fault.
-/
import Derived.Test.YthdnhaaojicmbaaDoorAt
namespace Go.Proofs.YthdnhaaojicmbaaDoor
open Go.RowKit
set_option linter.unusedSimpArgs false
set_option linter.unusedVariables false

theorem act3_hand {L : List UInt8} (h : act3B L = true) : (L == [104, 97, 110, 100]) = false := by
  cases hb : L == [104, 97, 110, 100]
  · rfl
  · rw [eq_of_beq hb] at h
    revert h
    decide
set_option maxHeartbeats 16000000 in
theorem l3Fault_any (base gL gO gV gP cL cO cV cP nl p : Nat) (ls : List Ln) (os : List Int) (vs : List Value) (ps : List Pt) (w : World) (h : BD w base gL gO gV gP cL cO cV cP ls os vs ps) (ok : BOk nl ls os vs ps) (hp : p < ps.length) (hat : ps[p].at_ < ps[p].plan.2.1.length) (hnl : nl ≤ 6) :
    Calls Tryd.prog 63 #[.agg #[.slice (some ⟨gL, 0, none⟩) ls.length cL, .slice (some ⟨gO, 0, none⟩) os.length cO, .slice (some ⟨gV, 0, none⟩) vs.length cV, .slice (some ⟨gP, 0, none⟩) ps.length cP], .int .i64 p] w fun e w' => (∃ b, e = .returned (.bool b)) ∧ Below w.heap.size w w' := by
  have B1 := (Below.refl w.heap.size w).alloc (Nat.le_refl _) (.cells #[.slice (some ⟨gL, 0, none⟩) ls.length cL, .slice (some ⟨gO, 0, none⟩) os.length cO, .slice (some ⟨gV, 0, none⟩) vs.length cV, .slice (some ⟨gP, 0, none⟩) ps.length cP] 79)
  have k1 := Blk.new w 79 #[.slice (some ⟨gL, 0, none⟩) ls.length cL, .slice (some ⟨gO, 0, none⟩) os.length cO, .slice (some ⟨gV, 0, none⟩) vs.length cV, .slice (some ⟨gP, 0, none⟩) ps.length cP]
  have a1 := k1.cell 1
  have a3 := k1.cell 3
  have a0 := k1.cell 0
  have hB := h.keep B1
  have hp4 := ok.hp
  obtain ⟨p0, p1, p2, p3, p4, p5⟩ := hB.party hp
  have hpl := hB.plan _ (List.getElem_mem hp)
  have hpt := ok.pt _ (List.getElem_mem hp)
  obtain ⟨q, hq⟩ : ∃ q, ps[p] = q := ⟨_, rfl⟩
  have Hr : ∀ W, Below w.heap.size w W → RD W W.heap.size q.plan.1 q.plan.2.1 := fun W hbW => by subst hq; exact Reads.of_own ((h.keep hbW).plan _ (List.getElem_mem hp))
  simp only [hq] at p0 p1 p2 p3 p4 p5 hpl hpt hat
  obtain ⟨⟨Ap, lp, cp⟩, at_, ⟨Ah, hl, ch⟩, fin, last, ear⟩ := q
  simp only [rowV] at p0 p1 p2 p3 p4 p5 hpl hpt hat Hr
  have hok := hpt.2.2.1 _ (List.getElem_mem hat)
  have hRD := Hr _ B1
  obtain ⟨ad, hA, hbl, d1, d2, d3⟩ := hRD.at_ hat
  obtain ⟨dd, hdd⟩ : ∃ dd, lp[at_] = dd := ⟨_, rfl⟩
  have h9 : (lp[at_].2.1 == 9) = false := by rw [hdd, beq_eq_false_iff_ne]; have := hok.2.2.1; rw [hdd] at this; omega
  rw [hdd] at d1 d2 d3 hok
  subst hA
  have hat' : (at_ : Int) < (lp.length : Int) := by omega
  have hp' : (p : Int) < (ps.length : Int) := by omega
  have HRD := Lib.hid Hr
  have HB := Lib.hid (fun W hW => h.keep (w' := W) hW)
  have Hok := Lib.hid ok
  have HQ := hq
  clear h ok hB hpl hpt hRD Hr hq
  go_enter Tryd.func63, Tryd.ntmps63
  have WB : True := trivial
  go_upto_region 1 with fail
  generalize hw1 : w.alloc (.cells #[.slice (some ⟨gL, 0, none⟩) ls.length cL, .slice (some ⟨gO, 0, none⟩) os.length cO, .slice (some ⟨gV, 0, none⟩) vs.length cV, .slice (some ⟨gP, 0, none⟩) ps.length cP] 79) = w1 at B1 k1 a0 a1 a3 p0 p1 p2 p3 p4 p5 d1 d2 d3 hbl ⊢
  clear hw1
  go_wp2_with fail
  refine wp_region_noPanic ?_
  refine wp_region_held_drew (S := (fun w' => w'.cell? ⟨w.heap.size, 3, none⟩ = some (.slice (some ⟨gP, 0, none⟩) ps.length cP) ∧ w'.cell? ⟨gP, p * 6, none⟩ = some (.slice (some ad) lp.length cp) ∧ w'.cell? ⟨gP, p * 6 + 1, none⟩ = some (.int .i64 at_) ∧ w'.cell? (ad.add (at_ * 3)) = some (.string dd.1) ∧ w'.cell? ⟨(ad.add (at_ * 3)).block, (ad.add (at_ * 3)).off + 1, none⟩ = some (.int .i64 dd.2.1) ∧ w'.cell? ⟨(ad.add (at_ * 3)).block, (ad.add (at_ * 3)).off + 2, none⟩ = some (.int .i64 dd.2.2))) (by kernel_rfl) (⟨a3, p0, p1, d1, d2, d3⟩) (fun hHeld => ?_)
  refine' wpAnyH_take (i := 0) (oi := _) (v := _) rfl (by kernel_rfl) (by kernel_rfl) (by kernel_rfl) (fun _ _ _ h => h) (Or.inl ⟨by rfl, ?hy0f1⟩) hHeld ?rest0f1
  case hy0f1 => (intro w' hSw; (try dsimp only at hSw); go_simp; try with_reducible rfl)
  case' rest0f1 => try simp only [Act.put, List.setIfInBounds_toArray, List.set_cons_zero, List.set_cons_succ, List.getElem_toArray, List.getElem_cons_succ, List.getElem_cons_zero]
  refine' wpAnyH_take (i := 1) (oi := _) (v := _) rfl (by kernel_rfl) (by kernel_rfl) (by kernel_rfl) (fun _ _ _ h => h) (Or.inl ⟨by rfl, ?hy1f1⟩) hHeld ?rest1f1
  case hy1f1 => (intro w' hSw; (try dsimp only at hSw); go_simp; try with_reducible rfl)
  case' rest1f1 => try simp only [Act.put, List.setIfInBounds_toArray, List.set_cons_zero, List.set_cons_succ, List.getElem_toArray, List.getElem_cons_succ, List.getElem_cons_zero]
  refine' wpAnyH_take (i := 2) (oi := _) (v := _) rfl (by kernel_rfl) (by kernel_rfl) (by kernel_rfl) (fun _ _ _ h => h) (Or.inl ⟨by rfl, ?hy2f1⟩) hHeld ?rest2f1
  case hy2f1 => (intro w' hSw; (try dsimp only at hSw); go_simp; try with_reducible rfl)
  case' rest2f1 => try simp only [Act.put, List.setIfInBounds_toArray, List.set_cons_zero, List.set_cons_succ, List.getElem_toArray, List.getElem_cons_succ, List.getElem_cons_zero]
  refine' wpAnyH_take (i := 3) (oi := _) (v := _) rfl (by kernel_rfl) (by kernel_rfl) (by kernel_rfl) (fun _ _ _ h => h) (Or.inl ⟨by rfl, ?hy3f1⟩) hHeld ?rest3f1
  case hy3f1 => (intro w' hSw; (try dsimp only at hSw); go_simp; try with_reducible rfl)
  case' rest3f1 => try simp only [Act.put, List.setIfInBounds_toArray, List.set_cons_zero, List.set_cons_succ, List.getElem_toArray, List.getElem_cons_succ, List.getElem_cons_zero]
  refine' wpAnyH_take (i := 4) (oi := _) (v := _) rfl (by kernel_rfl) (by kernel_rfl) (by kernel_rfl) (fun _ _ _ h => h) (Or.inl ⟨by rfl, ?hy4f1⟩) hHeld ?rest4f1
  case hy4f1 => (intro w' hSw; (try dsimp only at hSw); go_simp; try with_reducible rfl)
  case' rest4f1 => try simp only [Act.put, List.setIfInBounds_toArray, List.set_cons_zero, List.set_cons_succ, List.getElem_toArray, List.getElem_cons_succ, List.getElem_cons_zero]
  refine' wpAnyH_take (i := 5) (oi := _) (v := _) rfl (by kernel_rfl) (by kernel_rfl) (by kernel_rfl) (fun _ _ _ h => h) (Or.inl ⟨by rfl, ?hy5f1⟩) hHeld ?rest5f1
  case hy5f1 => (intro w' hSw; (try dsimp only at hSw); go_simp; try with_reducible rfl)
  case' rest5f1 => try simp only [Act.put, List.setIfInBounds_toArray, List.set_cons_zero, List.set_cons_succ, List.getElem_toArray, List.getElem_cons_succ, List.getElem_cons_zero]
  refine' wpAnyH_take (i := 6) (oi := _) (v := _) rfl (by kernel_rfl) (by kernel_rfl) (by kernel_rfl) (fun _ _ _ h => h) (Or.inl ⟨by rfl, ?hy6f1⟩) hHeld ?rest6f1
  case hy6f1 => (intro w' hSw; (try dsimp only at hSw); go_simp; try with_reducible rfl)
  case' rest6f1 => try simp only [Act.put, List.setIfInBounds_toArray, List.set_cons_zero, List.set_cons_succ, List.getElem_toArray, List.getElem_cons_succ, List.getElem_cons_zero]
  refine' wpAnyH_take (i := 7) (oi := _) (v := _) rfl (by kernel_rfl) (by kernel_rfl) (by kernel_rfl) (fun _ _ _ h => h) (Or.inl ⟨by rfl, ?hy7f1⟩) hHeld ?rest7f1
  case hy7f1 => (intro w' hSw; (try dsimp only at hSw); go_simp; try with_reducible rfl)
  case' rest7f1 => try simp only [Act.put, List.setIfInBounds_toArray, List.set_cons_zero, List.set_cons_succ, List.getElem_toArray, List.getElem_cons_succ, List.getElem_cons_zero]
  refine' wpAnyH_take (i := 8) (oi := _) (v := _) rfl (by kernel_rfl) (by kernel_rfl) (by kernel_rfl) (fun _ _ _ h => h) (Or.inl ⟨by rfl, ?hy8f1⟩) hHeld ?rest8f1
  case hy8f1 => (intro w' hSw; (try dsimp only at hSw); go_simp; try with_reducible rfl)
  case' rest8f1 => try simp only [Act.put, List.setIfInBounds_toArray, List.set_cons_zero, List.set_cons_succ, List.getElem_toArray, List.getElem_cons_succ, List.getElem_cons_zero]
  refine' wpAnyH_take (i := 9) (oi := _) (v := _) rfl (by kernel_rfl) (by kernel_rfl) (by kernel_rfl) (fun _ _ _ h => h) (Or.inl ⟨by rfl, ?hy9f1⟩) hHeld ?rest9f1
  case hy9f1 => (intro w' hSw; (try dsimp only at hSw); go_simp; try with_reducible rfl)
  case' rest9f1 => try simp only [Act.put, List.setIfInBounds_toArray, List.set_cons_zero, List.set_cons_succ, List.getElem_toArray, List.getElem_cons_succ, List.getElem_cons_zero]
  refine' wpAnyH_take (i := 10) (oi := _) (v := _) rfl (by kernel_rfl) (by kernel_rfl) (by kernel_rfl) (fun _ _ _ h => h) (Or.inl ⟨by rfl, ?hy10f1⟩) hHeld ?rest10f1
  case hy10f1 => (intro w' hSw; (try dsimp only at hSw); go_simp; try with_reducible rfl)
  case' rest10f1 => try simp only [Act.put, List.setIfInBounds_toArray, List.set_cons_zero, List.set_cons_succ, List.getElem_toArray, List.getElem_cons_succ, List.getElem_cons_zero]
  refine' wpAnyH_take (i := 11) (oi := _) (v := _) rfl (by kernel_rfl) (by kernel_rfl) (by kernel_rfl) (fun _ _ _ h => h) (Or.inl ⟨by rfl, ?hy11f1⟩) hHeld ?rest11f1
  case hy11f1 => (intro w' hSw; (try dsimp only at hSw); go_simp; try with_reducible rfl)
  case' rest11f1 => try simp only [Act.put, List.setIfInBounds_toArray, List.set_cons_zero, List.set_cons_succ, List.getElem_toArray, List.getElem_cons_succ, List.getElem_cons_zero]
  refine' wpAnyH_take (i := 12) (oi := _) (v := _) rfl (by kernel_rfl) (by kernel_rfl) (by kernel_rfl) (fun _ _ _ h => h) (Or.inl ⟨by rfl, ?hy12f1⟩) hHeld ?rest12f1
  case hy12f1 => (intro w' hSw; (try dsimp only at hSw); go_simp; try with_reducible rfl)
  case' rest12f1 => try simp only [Act.put, List.setIfInBounds_toArray, List.set_cons_zero, List.set_cons_succ, List.getElem_toArray, List.getElem_cons_succ, List.getElem_cons_zero]
  refine' wpAnyH_take (i := 13) (oi := _) (v := _) rfl (by kernel_rfl) (by kernel_rfl) (by kernel_rfl) (fun _ _ _ h => h) (Or.inl ⟨by rfl, ?hy13f1⟩) hHeld ?rest13f1
  case hy13f1 => (intro w' hSw; (try dsimp only at hSw); go_simp; try with_reducible rfl)
  case' rest13f1 => try simp only [Act.put, List.setIfInBounds_toArray, List.set_cons_zero, List.set_cons_succ, List.getElem_toArray, List.getElem_cons_succ, List.getElem_cons_zero]
  refine wpAnyH_ready (rs := [14]) (by kernel_rfl) (by simp) ?_
  refine AllReadyH.cons (o := _) rfl (fun K hK => ?_) AllReadyH.nil
  go_simp
  have BA : Below w1.heap.size w1 (w1.alloc (.cells #[.string ⟨#[]⟩, .int .i64 0, .int .i64 0] 67)).drew := ((Below.refl w1.heap.size w1).alloc (Nat.le_refl _) _).drew
  try go_wp2_with fail
  refine hK.out _ _ (⟨keepC BA a3, keepC BA p0, keepC BA p1, keepC BA d1, keepC BA d2, keepC BA d3⟩) (fun hHeld => ?_)
  clear hK K
  try simp only [Act.put, List.setIfInBounds_toArray, List.set_cons_zero, List.set_cons_succ, List.getElem_toArray, List.getElem_cons_succ, List.getElem_cons_zero]
  refine wpAnyH_ready (rs := [15]) (by kernel_rfl) (by simp) ?_
  refine AllReadyH.cons (o := _) rfl (fun K hK => ?_) AllReadyH.nil
  go_simp
  have BA2 : Below w1.heap.size w1 (w1.alloc (.cells #[.string dd.1, .int .i64 dd.2.1, .int .i64 dd.2.2] 67)).drew := ((Below.refl w1.heap.size w1).alloc (Nat.le_refl _) _).drew
  try go_wp2_with fail
  refine hK.out _ _ (⟨keepC BA2 a3, keepC BA2 p0, keepC BA2 p1, keepC BA2 d1, keepC BA2 d2, keepC BA2 d3⟩) (fun hHeld => ?_)
  clear hK K
  try simp only [Act.put, List.setIfInBounds_toArray, List.set_cons_zero, List.set_cons_succ, List.getElem_toArray, List.getElem_cons_succ, List.getElem_cons_zero]
  refine wpAnyH_done (by kernel_rfl) ?_ _
  refine NoPanic.normal ?_
  have BW := B1.trans (BA2.mono B1.size)
  have kD : Blk (w1.alloc (.cells #[.string dd.1, .int .i64 dd.2.1, .int .i64 dd.2.2] 67)).drew w1.heap.size 67 #[.string dd.1, .int .i64 dd.2.1, .int .i64 dd.2.2] := (Blk.new w1 _ _).drew
  have kB := k1.below BA2 k1.lt
  generalize hW2 : (w1.alloc (.cells #[.string dd.1, .int .i64 dd.2.1, .int .i64 dd.2.2] 67)).drew = W2 at BW kD kB ⊢
  obtain ⟨bD, hbD⟩ : ∃ bD, w1.heap.size = bD := ⟨_, rfl⟩
  rw [hbD] at kD
  simp only [hbD]
  clear hW2 BA BA2 B1 k1 a0 a1 a3 p0 p1 p2 p3 p4 p5 d1 d2 d3 hbl hbD hHeld
  have a3 : W2.cell? ⟨w.heap.size, 3, none⟩ = some (.slice (some ⟨gP, 0, none⟩) ps.length cP) := kB.cell 3
  have hRD := HRD.out _ BW
  obtain ⟨p0, p1, p2, p3, p4, p5⟩ := (HB.out _ BW).party hp
  have Hq := Lib.hid HQ
  rw [HQ] at p0 p1 p2 p3 p4 p5
  simp only [rowV] at p0 p1 p2 p3 p4 p5
  clear HQ
  go_upto_region 3 with (first | (go_at_call 65; refine (l3Line_any _ lp cp at_ _ _ _ _ _ hRD hat h9).mono ?_; rintro e w3 ⟨rfl, hb3⟩; rw [hdd]))
  have BZ := BW.trans (hb3.mono BW.size)
  have kB3 := kB.below hb3 kB.lt
  have kD3 := kD.below hb3 kD.lt
  have a0 : w3.cell? ⟨w.heap.size, 0, none⟩ = some (.slice (some ⟨gL, 0, none⟩) ls.length cL) := kB3.cell 0
  have a1 : w3.cell? ⟨w.heap.size, 1, none⟩ = some (.slice (some ⟨gO, 0, none⟩) os.length cO) := kB3.cell 1
  have e0 : w3.cell? ⟨bD, 0, none⟩ = some (.string dd.1) := kD3.cell 0
  have hol := Hok.out.ho
  have hll := Hok.out.hl
  obtain ⟨ln, hln⟩ : ∃ ln : Nat, dd.2.1 = ln := ⟨dd.2.1.toNat, by have := hok.2.1; omega⟩
  have hlo : ln < os.length := by have := hok.2.2.1; omega
  have hl2 : ln < ls.length := by have := hok.2.2.1; omega
  have how := (HB.out _ BZ).owner hlo
  obtain ⟨q0, q1, q2, q3⟩ := (HB.out _ BZ).line hl2
  have hlo' : (ln : Int) < (os.length : Int) := by omega
  have hl2' : (ln : Int) < (ls.length : Int) := by omega
  have hnh := act3_hand hok.1
  obtain ⟨ow, how2⟩ : ∃ ow, os[ln] = ow := ⟨_, rfl⟩
  obtain ⟨en, hen2⟩ : ∃ en, ls[ln].ended = en := ⟨_, rfl⟩
  rw [how2] at how
  rw [hen2] at q2
  simp only [hln]
  clear hol hll how2 hen2 q0 q1 q3 kB kD kB3 kD3 hb3 BW a3 p0 p1 p2 p3 p4 p5 hRD h9 hok hdd hat hat' hln hlo hl2 HB Hok HRD Hq hp hp'
  cases hear : earB dd.1.toList <;> cases hen : (dd.1.toList == [101, 110, 100]) <;> by_cases hz : ln = 0
  all_goals
    have g1 : decide ((0 : Int) < (ln : Int)) = decide (¬ ln = 0) := by by_cases h : ln = 0 <;> simp [h] <;> omega
    have g2 : ((ln : Int) == 0) = decide (ln = 0) := by by_cases h : ln = 0 <;> simp [h]
    have g3 : decide (0 < ln) = decide (¬ ln = 0) := by by_cases h : ln = 0 <;> simp [h] <;> omega
    simp only [hz, not_true_eq_false, not_false_eq_true, decide_true, decide_false] at g1 g2 g3
    go_wp2_with (first | (go_at_call 61; refine (l3Takes_any _ _).mono ?_; rintro e w4 ⟨rfl, rfl⟩; rw [hear]))
  all_goals
    go_ret
    exact ⟨⟨_, rfl⟩, BZ⟩
end Go.Proofs.YthdnhaaojicmbaaDoor
