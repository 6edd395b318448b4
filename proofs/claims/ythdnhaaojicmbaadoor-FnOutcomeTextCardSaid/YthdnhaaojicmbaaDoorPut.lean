/-
  l3Put: a party puts into a line.
-/
import Derived.Test.YthdnhaaojicmbaaDoorOver
import Derived.Test.YthdnhaaojicmbaaDoorAt
import Derived.Test.YthdnhaaojicmbaaDoorFault
namespace Go.Proofs.YthdnhaaojicmbaaDoor
open Go.RowKit
set_option linter.unusedSimpArgs false
set_option linter.unusedVariables false

set_option maxHeartbeats 16000000 in
theorem l3Put_any (base gL gO gV gP cL cO cV cP nl p : Nat) (ls : List Ln) (os : List Int) (vs : List Value) (ps : List Pt) (w : World) (h : BD w base gL gO gV gP cL cO cV cP ls os vs ps) (ok : BOk nl ls os vs ps) (hp : p < ps.length) (hat : ps[p].at_ < ps[p].plan.2.1.length) (hact : earB (ps[p].plan.2.1[ps[p].at_]).1.toList = false) (hnl : nl ≤ 6) :
    Calls Tryd.prog 66 #[.agg #[.slice (some ⟨gL, 0, none⟩) ls.length cL, .slice (some ⟨gO, 0, none⟩) os.length cO, .slice (some ⟨gV, 0, none⟩) vs.length cV, .slice (some ⟨gP, 0, none⟩) ps.length cP], .int .i64 p] w (Stepped base gL gO gV gP cL cO cV cP nl ls os vs ps w) := by
  have B1 := ((Below.refl w.heap.size w).alloc (Nat.le_refl _) (.cells #[.slice (some ⟨gL, 0, none⟩) ls.length cL, .slice (some ⟨gO, 0, none⟩) os.length cO, .slice (some ⟨gV, 0, none⟩) vs.length cV, .slice (some ⟨gP, 0, none⟩) ps.length cP] 79)).alloc (by simp) (.cells #[.slice none 0 0, .slice none 0 0, .slice none 0 0, .slice none 0 0] 79)
  have k1 := (Blk.new w 79 #[.slice (some ⟨gL, 0, none⟩) ls.length cL, .slice (some ⟨gO, 0, none⟩) os.length cO, .slice (some ⟨gV, 0, none⟩) vs.length cV, .slice (some ⟨gP, 0, none⟩) ps.length cP]).alloc (.cells #[.slice none 0 0, .slice none 0 0, .slice none 0 0, .slice none 0 0] 79)
  have k2 := Blk.new (w.alloc (.cells #[.slice (some ⟨gL, 0, none⟩) ls.length cL, .slice (some ⟨gO, 0, none⟩) os.length cO, .slice (some ⟨gV, 0, none⟩) vs.length cV, .slice (some ⟨gP, 0, none⟩) ps.length cP] 79)) 79 #[.slice none 0 0, .slice none 0 0, .slice none 0 0, .slice none 0 0]
  simp only [World.size_alloc] at k2
  have hp4 := ok.hp
  have hpt := ok.pt _ (List.getElem_mem hp)
  obtain ⟨q, hq⟩ : ∃ q, ps[p] = q := ⟨_, rfl⟩
  have Hr : ∀ W, Below w.heap.size w W → RD W W.heap.size q.plan.1 q.plan.2.1 := fun W hbW => by subst hq; exact Reads.of_own ((h.keep hbW).plan _ (List.getElem_mem hp))
  have Hc : ∀ W, Below w.heap.size w W → _ := fun W hbW => (h.keep (w' := W) hbW).party hp
  have HACT := Lib.hid hact
  have HQ := Lib.hid hq
  simp only [hq] at hpt hat Hc
  have hne : ∀ tq (htq : tq < ps.length) (hat' : ps[tq].at_ < ps[tq].plan.2.1.length), earB (ps[tq].plan.2.1[ps[tq].at_]).1.toList = true → tq ≠ p := fun tq htq hat' he e => by
    subst e
    rw [hact] at he
    cases he
  have HNE := Lib.hid hne
  clear hact hne
  obtain ⟨⟨Ap, lp, cp⟩, at_, ⟨Ah, hl, ch⟩, fin, last, ear⟩ := q
  simp only [rowV] at hpt hat Hr Hc
  have hok := hpt.2.2.1 _ (List.getElem_mem hat)
  obtain ⟨dd, hdd⟩ : ∃ dd, lp[at_] = dd := ⟨_, rfl⟩
  have h9 : (lp[at_].2.1 == 9) = false := by rw [hdd, beq_eq_false_iff_ne]; have := hok.2.2.1; rw [hdd] at this; omega
  have hnh : (lp[at_].1.toList == [104, 97, 110, 100]) = false := act3_hand hok.1
  rw [hdd] at hok
  have HW : Hid (∀ W, Below w.heap.size w W → Calls Tryd.prog 68 #[.agg #[.slice Ap lp.length cp, .int .i64 at_, .slice Ah hl.length ch, .string fin, .int .i64 last, .int .i64 ear]] W fun e w' => (∃ word : Int, (0 ≤ word ∧ word ≤ 1000) ∧ e = .returned (.int .i64 word)) ∧ Below W.heap.size W w') := Lib.hid fun W hbW => (l3Word_any Ap lp cp at_ (.slice Ah hl.length ch) (.string fin) last ear W (Hr W hbW) hat hnh).mono (by
    rintro e w' ⟨he, hb⟩
    refine ⟨?_, hb⟩
    rcases he with rfl | rfl
    · exact ⟨last, ⟨hpt.2.2.2.2.1, hpt.2.2.2.2.2.1⟩, rfl⟩
    · rw [hdd]; exact ⟨dd.2.2, ⟨hok.2.2.2.1, hok.2.2.2.2⟩, rfl⟩)
  have hat' : (at_ : Int) < (lp.length : Int) := by omega
  have hp' : (p : Int) < (ps.length : Int) := by omega
  have HRD := Lib.hid Hr
  have HC := Lib.hid Hc
  have HH := Lib.hid h
  have Hok := Lib.hid ok
  have Hpt := Lib.hid hpt
  have h12 : lp.length ≤ 12 := hpt.2.1
  clear h ok hpt Hr Hc hq hnh
  obtain ⟨i0, hi0, iz0, iz1, iz2⟩ := info_parts int_info
  have HI := Lib.hid (And.intro hi0 (And.intro iz0 (And.intro iz1 iz2)))
  clear hi0 iz0 iz1 iz2
  go_enter Tryd.func66, Tryd.ntmps66
  go_upto_region 1 with fail
  generalize (w.alloc (.cells #[.slice (some ⟨gL, 0, none⟩) ls.length cL, .slice (some ⟨gO, 0, none⟩) os.length cO, .slice (some ⟨gV, 0, none⟩) vs.length cV, .slice (some ⟨gP, 0, none⟩) ps.length cP] 79)).alloc (.cells #[.slice none 0 0, .slice none 0 0, .slice none 0 0, .slice none 0 0] 79) = w1 at B1 k1 k2 ⊢
  have a3 : w1.cell? ⟨w.heap.size, 3, none⟩ = some (.slice (some ⟨gP, 0, none⟩) ps.length cP) := k1.cell 3
  obtain ⟨p0, p1, p2, p3, p4, p5⟩ := HC.out _ B1
  have hRD := HRD.out _ B1
  go_upto_region 2 with (first | (go_at_call 65; refine (l3Line_any _ lp cp at_ _ _ _ _ _ hRD hat h9).mono ?_; rintro e w3 ⟨rfl, hb3⟩; rw [hdd]))
  have B3 := B1.trans (hb3.mono B1.size)
  obtain ⟨ln, hln⟩ : ∃ ln : Nat, dd.2.1 = ln := ⟨dd.2.1.toNat, by have := hok.2.1; omega⟩
  have hlnl : ln ≤ nl := by have := hok.2.2.1; omega
  simp only [hln]
  clear a3 p0 p1 p2 p3 p4 p5 hRD
  have kB := k1.below hb3 k1.lt
  have kR := k2.below hb3 k2.lt
  clear k1 k2 B1 hb3
  have a3 : w3.cell? ⟨w.heap.size, 3, none⟩ = some (.slice (some ⟨gP, 0, none⟩) ps.length cP) := kB.cell 3
  obtain ⟨p0, p1, p2, p3, p4, p5⟩ := HC.out _ B3
  go_upto_region 3 with (first | (go_at_call 68; refine (HW.out _ B3).mono ?_; rintro e w4 ⟨⟨word, hwd, rfl⟩, hb4⟩))
  have B4 := B3.trans (hb4.mono B3.size)
  clear a3 p0 p1 p2 p3 p4 p5 HW
  have kB := kB.below hb4 kB.lt
  have kR := kR.below hb4 kR.lt
  clear hb4
  have z0 := kB.cell 0
  have z1 := kB.cell 1
  have z2 := kB.cell 2
  have z3 := kB.cell 3
  simp at z0 z1 z2 z3
  have hb4 := HH.out.keep B4
  go_upto_region 4 with (first | (go_at_call 69; refine (l3At_any base gL gO gV gP cL cO cV cP nl ln ls os vs ps _ hb4 Hok.out hlnl hnl).mono ?_; rintro e w5 ⟨⟨tkr, rfl, hfound⟩, hb5⟩))
  have B5 := B4.trans (hb5.mono B4.size)
  have HF := Lib.hid hfound
  clear z0 z1 z2 z3 hb4 hfound
  have kB := kB.below hb5 kB.lt
  have kR := kR.below hb5 kR.lt
  clear hb5
  have hll := Hok.out.hl
  have hvl := Hok.out.hv
  have hl2 : ln < ls.length := by omega
  have hlv : ln < vs.length := by omega
  have hl2' : (ln : Int) < (ls.length : Int) := by omega
  have hlv' : (ln : Int) < (vs.length : Int) := by omega
  clear hll hvl
  have hbw : base ≤ w.heap.size := by have := HH.out.pts.lt gP rfl; omega
  obtain ⟨L0, hL0⟩ : ∃ L0, ls[ln] = L0 := ⟨_, rfl⟩
  have HL := Lib.hid hL0
  clear hL0
  obtain ⟨room, ⟨Ax, hx, cx⟩, en, tk⟩ := L0
  have ht0 : tkr = -1 ∨ 0 ≤ tkr := by rcases HF.out with e | ⟨q, _, _, e, _⟩ <;> omega
  go_cut [63] from 24 to 63 (fun s63 wx => ∃ b : Bool, s63 = .bool b ∧ (b = false → ¬ ln = 0 ∧ (room = 0 → 0 ≤ tkr)) ∧ Below w.heap.size w wx ∧ Blk wx w.heap.size 79 #[.slice (some ⟨gL, 0, none⟩) ls.length cL, .slice (some ⟨gO, 0, none⟩) os.length cO, .slice (some ⟨gV, 0, none⟩) vs.length cV, .slice (some ⟨gP, 0, none⟩) ps.length cP] ∧ Blk wx (w.heap.size + 1) 79 #[.slice none 0 0, .slice none 0 0, .slice none 0 0, .slice none 0 0])
  case first =>
    have z0 := kB.cell 0
    simp at z0
    obtain ⟨q0, q1, q2, q3⟩ := (HH.out.keep B5).line hl2
    simp only [HL.out, rowV] at q0 q1 q2 q3
    clear q2 q3
    have FIN0 : ∀ (b : Bool) (_n : Nat), (b = false → ¬ ln = 0 ∧ (room = 0 → 0 ≤ tkr)) → ∃ b' : Bool, Value.bool b = .bool b' ∧ (b' = false → ¬ ln = 0 ∧ (room = 0 → 0 ≤ tkr)) ∧ Below w.heap.size w w5.drew ∧ Blk w5.drew w.heap.size 79 #[.slice (some ⟨gL, 0, none⟩) ls.length cL, .slice (some ⟨gO, 0, none⟩) os.length cO, .slice (some ⟨gV, 0, none⟩) vs.length cV, .slice (some ⟨gP, 0, none⟩) ps.length cP] ∧ Blk w5.drew (w.heap.size + 1) 79 #[.slice none 0 0, .slice none 0 0, .slice none 0 0, .slice none 0 0] := fun b _ hb => ⟨b, rfl, hb, B5.drew, kB, kR⟩
    have FIN := Lib.hid FIN0
    clear FIN0
    by_cases hz : ln = 0
    · have hz2 : ((ln : Int) == 0) = true := by simp [hz]
      go_wp2_with fail
      refine wp_region_noPanic ?_
      refine wp_region_held_drew (S := (fun w' => w'.cell? ⟨w.heap.size, 0, none⟩ = some (.slice (some ⟨gL, 0, none⟩) ls.length cL) ∧ w'.cell? ⟨gL, ln * 4, none⟩ = some (.int .i64 room) ∧ w'.cell? ⟨gL, ln * 4 + 1, none⟩ = some (.slice Ax hx.length cx))) (by kernel_rfl) (⟨z0, q0, q1⟩) (fun hHeld => ?_)
      refine' wpAnyH_take (i := 0) (oi := _) (v := _) rfl (by kernel_rfl) (by kernel_rfl) (by kernel_rfl) (fun _ _ _ h => h) (Or.inl ⟨by rfl, ?hy0c1⟩) hHeld ?rest0c1
      case hy0c1 => (intro w' hSw; (try dsimp only at hSw); go_simp; try with_reducible rfl)
      case' rest0c1 => try simp only [Act.put, List.setIfInBounds_toArray, List.set_cons_zero, List.set_cons_succ, List.getElem_toArray, List.getElem_cons_succ, List.getElem_cons_zero]
      refine' wpAnyH_take (i := 1) (oi := _) (v := _) rfl (by kernel_rfl) (by kernel_rfl) (by kernel_rfl) (fun _ _ _ h => h) (Or.inl ⟨by rfl, ?hy1c1⟩) hHeld ?rest1c1
      case hy1c1 => (intro w' hSw; (try dsimp only at hSw); go_simp; try with_reducible rfl)
      case' rest1c1 => try simp only [Act.put, List.setIfInBounds_toArray, List.set_cons_zero, List.set_cons_succ, List.getElem_toArray, List.getElem_cons_succ, List.getElem_cons_zero]
      refine' wpAnyH_take (i := 2) (oi := _) (v := _) rfl (by kernel_rfl) (by kernel_rfl) (by kernel_rfl) (fun _ _ _ h => h) (Or.inl ⟨by rfl, ?hy2c1⟩) hHeld ?rest2c1
      case hy2c1 => (intro w' hSw; (try dsimp only at hSw); go_simp; try with_reducible rfl)
      case' rest2c1 => try simp only [Act.put, List.setIfInBounds_toArray, List.set_cons_zero, List.set_cons_succ, List.getElem_toArray, List.getElem_cons_succ, List.getElem_cons_zero]
      refine' wpAnyH_take (i := 3) (oi := _) (v := _) rfl (by kernel_rfl) (by kernel_rfl) (by kernel_rfl) (fun _ _ _ h => h) (Or.inr ⟨by rfl, rfl⟩) hHeld ?rest3c1
      case' rest3c1 => try simp only [Act.put, List.setIfInBounds_toArray, List.set_cons_zero, List.set_cons_succ, List.getElem_toArray, List.getElem_cons_succ, List.getElem_cons_zero]
      refine' wpAnyH_take (i := 4) (oi := _) (v := _) rfl (by kernel_rfl) (by kernel_rfl) (by kernel_rfl) (fun _ _ _ h => h) (Or.inr ⟨by rfl, rfl⟩) hHeld ?rest4c1
      case' rest4c1 => try simp only [Act.put, List.setIfInBounds_toArray, List.set_cons_zero, List.set_cons_succ, List.getElem_toArray, List.getElem_cons_succ, List.getElem_cons_zero]
      refine' wpAnyH_take (i := 5) (oi := _) (v := _) rfl (by kernel_rfl) (by kernel_rfl) (by kernel_rfl) (fun _ _ _ h => h) (Or.inr ⟨by rfl, rfl⟩) hHeld ?rest5c1
      case' rest5c1 => try simp only [Act.put, List.setIfInBounds_toArray, List.set_cons_zero, List.set_cons_succ, List.getElem_toArray, List.getElem_cons_succ, List.getElem_cons_zero]
      refine' wpAnyH_take (i := 6) (oi := _) (v := _) rfl (by kernel_rfl) (by kernel_rfl) (by kernel_rfl) (fun _ _ _ h => h) (Or.inr ⟨by rfl, rfl⟩) hHeld ?rest6c1
      case' rest6c1 => try simp only [Act.put, List.setIfInBounds_toArray, List.set_cons_zero, List.set_cons_succ, List.getElem_toArray, List.getElem_cons_succ, List.getElem_cons_zero]
      refine' wpAnyH_take (i := 7) (oi := _) (v := _) rfl (by kernel_rfl) (by kernel_rfl) (by kernel_rfl) (fun _ _ _ h => h) (Or.inr ⟨by rfl, rfl⟩) hHeld ?rest7c1
      case' rest7c1 => try simp only [Act.put, List.setIfInBounds_toArray, List.set_cons_zero, List.set_cons_succ, List.getElem_toArray, List.getElem_cons_succ, List.getElem_cons_zero]
      refine' wpAnyH_take (i := 8) (oi := _) (v := _) rfl (by kernel_rfl) (by kernel_rfl) (by kernel_rfl) (fun _ _ _ h => h) (Or.inr ⟨by rfl, rfl⟩) hHeld ?rest8c1
      case' rest8c1 => try simp only [Act.put, List.setIfInBounds_toArray, List.set_cons_zero, List.set_cons_succ, List.getElem_toArray, List.getElem_cons_succ, List.getElem_cons_zero]
      refine' wpAnyH_take (i := 9) (oi := _) (v := _) rfl (by kernel_rfl) (by kernel_rfl) (by kernel_rfl) (fun _ _ _ h => h) (Or.inr ⟨by rfl, rfl⟩) hHeld ?rest9c1
      case' rest9c1 => try simp only [Act.put, List.setIfInBounds_toArray, List.set_cons_zero, List.set_cons_succ, List.getElem_toArray, List.getElem_cons_succ, List.getElem_cons_zero]
      refine' wpAnyH_take (i := 10) (oi := _) (v := _) rfl (by kernel_rfl) (by kernel_rfl) (by kernel_rfl) (fun _ _ _ h => h) (Or.inr ⟨by rfl, rfl⟩) hHeld ?rest10c1
      case' rest10c1 => try simp only [Act.put, List.setIfInBounds_toArray, List.set_cons_zero, List.set_cons_succ, List.getElem_toArray, List.getElem_cons_succ, List.getElem_cons_zero]
      refine' wpAnyH_take (i := 11) (oi := _) (v := _) rfl (by kernel_rfl) (by kernel_rfl) (by kernel_rfl) (fun _ _ _ h => h) (Or.inr ⟨by rfl, rfl⟩) hHeld ?rest11c1
      case' rest11c1 => try simp only [Act.put, List.setIfInBounds_toArray, List.set_cons_zero, List.set_cons_succ, List.getElem_toArray, List.getElem_cons_succ, List.getElem_cons_zero]
      refine' wpAnyH_take (i := 12) (oi := _) (v := _) rfl (by kernel_rfl) (by kernel_rfl) (by kernel_rfl) (fun _ _ _ h => h) (Or.inr ⟨by rfl, rfl⟩) hHeld ?rest12c1
      case' rest12c1 => try simp only [Act.put, List.setIfInBounds_toArray, List.set_cons_zero, List.set_cons_succ, List.getElem_toArray, List.getElem_cons_succ, List.getElem_cons_zero]
      refine' wpAnyH_take (i := 13) (oi := _) (v := _) rfl (by kernel_rfl) (by kernel_rfl) (by kernel_rfl) (fun _ _ _ h => h) (Or.inr ⟨by rfl, rfl⟩) hHeld ?rest13c1
      case' rest13c1 => try simp only [Act.put, List.setIfInBounds_toArray, List.set_cons_zero, List.set_cons_succ, List.getElem_toArray, List.getElem_cons_succ, List.getElem_cons_zero]
      refine' wpAnyH_take (i := 14) (oi := _) (v := _) rfl (by kernel_rfl) (by kernel_rfl) (by kernel_rfl) (fun _ _ _ h => h) (Or.inl ⟨by rfl, ?hy14c1⟩) hHeld ?rest14c1
      case hy14c1 => (intro w' hSw; (try dsimp only at hSw); go_simp; try with_reducible rfl)
      case' rest14c1 => try simp only [Act.put, List.setIfInBounds_toArray, List.set_cons_zero, List.set_cons_succ, List.getElem_toArray, List.getElem_cons_succ, List.getElem_cons_zero]
      refine' wpAnyH_take (i := 15) (oi := _) (v := _) rfl (by kernel_rfl) (by kernel_rfl) (by kernel_rfl) (fun _ _ _ h => h) (Or.inl ⟨by rfl, ?hy15c1⟩) hHeld ?rest15c1
      case hy15c1 => (intro w' hSw; (try dsimp only at hSw); go_simp; try with_reducible rfl)
      case' rest15c1 => try simp only [Act.put, List.setIfInBounds_toArray, List.set_cons_zero, List.set_cons_succ, List.getElem_toArray, List.getElem_cons_succ, List.getElem_cons_zero]
      refine' wpAnyH_take (i := 16) (oi := _) (v := _) rfl (by kernel_rfl) (by kernel_rfl) (by kernel_rfl) (fun _ _ _ h => h) (Or.inr ⟨by rfl, rfl⟩) hHeld ?rest16c1
      case' rest16c1 => try simp only [Act.put, List.setIfInBounds_toArray, List.set_cons_zero, List.set_cons_succ, List.getElem_toArray, List.getElem_cons_succ, List.getElem_cons_zero]
      refine' wpAnyH_take (i := 17) (oi := _) (v := _) rfl (by kernel_rfl) (by kernel_rfl) (by kernel_rfl) (fun _ _ _ h => h) (Or.inr ⟨by rfl, rfl⟩) hHeld ?rest17c1
      case' rest17c1 => try simp only [Act.put, List.setIfInBounds_toArray, List.set_cons_zero, List.set_cons_succ, List.getElem_toArray, List.getElem_cons_succ, List.getElem_cons_zero]
      refine' wpAnyH_take (i := 18) (oi := _) (v := _) rfl (by kernel_rfl) (by kernel_rfl) (by kernel_rfl) (fun _ _ _ h => h) (Or.inr ⟨by rfl, rfl⟩) hHeld ?rest18c1
      case' rest18c1 => try simp only [Act.put, List.setIfInBounds_toArray, List.set_cons_zero, List.set_cons_succ, List.getElem_toArray, List.getElem_cons_succ, List.getElem_cons_zero]
      refine' wpAnyH_take (i := 19) (oi := _) (v := _) rfl (by kernel_rfl) (by kernel_rfl) (by kernel_rfl) (fun _ _ _ h => h) (Or.inr ⟨by rfl, rfl⟩) hHeld ?rest19c1
      case' rest19c1 => try simp only [Act.put, List.setIfInBounds_toArray, List.set_cons_zero, List.set_cons_succ, List.getElem_toArray, List.getElem_cons_succ, List.getElem_cons_zero]
      refine' wpAnyH_take (i := 20) (oi := _) (v := _) rfl (by kernel_rfl) (by kernel_rfl) (by kernel_rfl) (fun _ _ _ h => h) (Or.inr ⟨by rfl, rfl⟩) hHeld ?rest20c1
      case' rest20c1 => try simp only [Act.put, List.setIfInBounds_toArray, List.set_cons_zero, List.set_cons_succ, List.getElem_toArray, List.getElem_cons_succ, List.getElem_cons_zero]
      refine' wpAnyH_take (i := 21) (oi := _) (v := _) rfl (by kernel_rfl) (by kernel_rfl) (by kernel_rfl) (fun _ _ _ h => h) (Or.inr ⟨by rfl, rfl⟩) hHeld ?rest21c1
      case' rest21c1 => try simp only [Act.put, List.setIfInBounds_toArray, List.set_cons_zero, List.set_cons_succ, List.getElem_toArray, List.getElem_cons_succ, List.getElem_cons_zero]
      refine' wpAnyH_take (i := 22) (oi := _) (v := _) rfl (by kernel_rfl) (by kernel_rfl) (by kernel_rfl) (fun _ _ _ h => h) (Or.inr ⟨by rfl, rfl⟩) hHeld ?rest22c1
      case' rest22c1 => try simp only [Act.put, List.setIfInBounds_toArray, List.set_cons_zero, List.set_cons_succ, List.getElem_toArray, List.getElem_cons_succ, List.getElem_cons_zero]
      refine' wpAnyH_take (i := 23) (oi := _) (v := _) rfl (by kernel_rfl) (by kernel_rfl) (by kernel_rfl) (fun _ _ _ h => h) (Or.inr ⟨by rfl, rfl⟩) hHeld ?rest23c1
      case' rest23c1 => try simp only [Act.put, List.setIfInBounds_toArray, List.set_cons_zero, List.set_cons_succ, List.getElem_toArray, List.getElem_cons_succ, List.getElem_cons_zero]
      refine' wpAnyH_take (i := 24) (oi := _) (v := _) rfl (by kernel_rfl) (by kernel_rfl) (by kernel_rfl) (fun _ _ _ h => h) (Or.inr ⟨by rfl, rfl⟩) hHeld ?rest24c1
      case' rest24c1 => try simp only [Act.put, List.setIfInBounds_toArray, List.set_cons_zero, List.set_cons_succ, List.getElem_toArray, List.getElem_cons_succ, List.getElem_cons_zero]
      refine' wpAnyH_take (i := 25) (oi := _) (v := _) rfl (by kernel_rfl) (by kernel_rfl) (by kernel_rfl) (fun _ _ _ h => h) (Or.inr ⟨by rfl, rfl⟩) hHeld ?rest25c1
      case' rest25c1 => try simp only [Act.put, List.setIfInBounds_toArray, List.set_cons_zero, List.set_cons_succ, List.getElem_toArray, List.getElem_cons_succ, List.getElem_cons_zero]
      refine' wpAnyH_take (i := 26) (oi := _) (v := _) rfl (by kernel_rfl) (by kernel_rfl) (by kernel_rfl) (fun _ _ _ h => h) (Or.inr ⟨by rfl, rfl⟩) hHeld ?rest26c1
      case' rest26c1 => try simp only [Act.put, List.setIfInBounds_toArray, List.set_cons_zero, List.set_cons_succ, List.getElem_toArray, List.getElem_cons_succ, List.getElem_cons_zero]
      refine' wpAnyH_take (i := 27) (oi := _) (v := _) rfl (by kernel_rfl) (by kernel_rfl) (by kernel_rfl) (fun _ _ _ h => h) (Or.inr ⟨by rfl, rfl⟩) hHeld ?rest27c1
      case' rest27c1 => try simp only [Act.put, List.setIfInBounds_toArray, List.set_cons_zero, List.set_cons_succ, List.getElem_toArray, List.getElem_cons_succ, List.getElem_cons_zero]
      refine' wpAnyH_take (i := 28) (oi := _) (v := _) rfl (by kernel_rfl) (by kernel_rfl) (by kernel_rfl) (fun _ _ _ h => h) (Or.inr ⟨by rfl, rfl⟩) hHeld ?rest28c1
      case' rest28c1 => try simp only [Act.put, List.setIfInBounds_toArray, List.set_cons_zero, List.set_cons_succ, List.getElem_toArray, List.getElem_cons_succ, List.getElem_cons_zero]
      refine' wpAnyH_take (i := 29) (oi := _) (v := _) rfl (by kernel_rfl) (by kernel_rfl) (by kernel_rfl) (fun _ _ _ h => h) (Or.inr ⟨by rfl, rfl⟩) hHeld ?rest29c1
      case' rest29c1 => try simp only [Act.put, List.setIfInBounds_toArray, List.set_cons_zero, List.set_cons_succ, List.getElem_toArray, List.getElem_cons_succ, List.getElem_cons_zero]
      refine' wpAnyH_take (i := 30) (oi := _) (v := _) rfl (by kernel_rfl) (by kernel_rfl) (by kernel_rfl) (fun _ _ _ h => h) (Or.inr ⟨by rfl, rfl⟩) hHeld ?rest30c1
      case' rest30c1 => try simp only [Act.put, List.setIfInBounds_toArray, List.set_cons_zero, List.set_cons_succ, List.getElem_toArray, List.getElem_cons_succ, List.getElem_cons_zero]
      refine' wpAnyH_take (i := 31) (oi := _) (v := _) rfl (by kernel_rfl) (by kernel_rfl) (by kernel_rfl) (fun _ _ _ h => h) (Or.inr ⟨by rfl, rfl⟩) hHeld ?rest31c1
      case' rest31c1 => try simp only [Act.put, List.setIfInBounds_toArray, List.set_cons_zero, List.set_cons_succ, List.getElem_toArray, List.getElem_cons_succ, List.getElem_cons_zero]
      refine' wpAnyH_take (i := 32) (oi := _) (v := _) rfl (by kernel_rfl) (by kernel_rfl) (by kernel_rfl) (fun _ _ _ h => h) (Or.inr ⟨by rfl, rfl⟩) hHeld ?rest32c1
      case' rest32c1 => try simp only [Act.put, List.setIfInBounds_toArray, List.set_cons_zero, List.set_cons_succ, List.getElem_toArray, List.getElem_cons_succ, List.getElem_cons_zero]
      refine' wpAnyH_take (i := 33) (oi := _) (v := _) rfl (by kernel_rfl) (by kernel_rfl) (by kernel_rfl) (fun _ _ _ h => h) (Or.inr ⟨by rfl, rfl⟩) hHeld ?rest33c1
      case' rest33c1 => try simp only [Act.put, List.setIfInBounds_toArray, List.set_cons_zero, List.set_cons_succ, List.getElem_toArray, List.getElem_cons_succ, List.getElem_cons_zero]
      refine' wpAnyH_take (i := 34) (oi := _) (v := _) rfl (by kernel_rfl) (by kernel_rfl) (by kernel_rfl) (fun _ _ _ h => h) (Or.inr ⟨by rfl, rfl⟩) hHeld ?rest34c1
      case' rest34c1 => try simp only [Act.put, List.setIfInBounds_toArray, List.set_cons_zero, List.set_cons_succ, List.getElem_toArray, List.getElem_cons_succ, List.getElem_cons_zero]
      refine' wpAnyH_take (i := 35) (oi := _) (v := _) rfl (by kernel_rfl) (by kernel_rfl) (by kernel_rfl) (fun _ _ _ h => h) (Or.inr ⟨by rfl, rfl⟩) hHeld ?rest35c1
      case' rest35c1 => try simp only [Act.put, List.setIfInBounds_toArray, List.set_cons_zero, List.set_cons_succ, List.getElem_toArray, List.getElem_cons_succ, List.getElem_cons_zero]
      refine' wpAnyH_take (i := 36) (oi := _) (v := _) rfl (by kernel_rfl) (by kernel_rfl) (by kernel_rfl) (fun _ _ _ h => h) (Or.inr ⟨by rfl, rfl⟩) hHeld ?rest36c1
      case' rest36c1 => try simp only [Act.put, List.setIfInBounds_toArray, List.set_cons_zero, List.set_cons_succ, List.getElem_toArray, List.getElem_cons_succ, List.getElem_cons_zero]
      refine' wpAnyH_take (i := 37) (oi := _) (v := _) rfl (by kernel_rfl) (by kernel_rfl) (by kernel_rfl) (fun _ _ _ h => h) (Or.inr ⟨by rfl, rfl⟩) hHeld ?rest37c1
      case' rest37c1 => try simp only [Act.put, List.setIfInBounds_toArray, List.set_cons_zero, List.set_cons_succ, List.getElem_toArray, List.getElem_cons_succ, List.getElem_cons_zero]
      refine' wpAnyH_take (i := 38) (oi := _) (v := _) rfl (by kernel_rfl) (by kernel_rfl) (by kernel_rfl) (fun _ _ _ h => h) (Or.inr ⟨by rfl, rfl⟩) hHeld ?rest38c1
      case' rest38c1 => try simp only [Act.put, List.setIfInBounds_toArray, List.set_cons_zero, List.set_cons_succ, List.getElem_toArray, List.getElem_cons_succ, List.getElem_cons_zero]
      refine' wpAnyH_take (i := 39) (oi := _) (v := _) rfl (by kernel_rfl) (by kernel_rfl) (by kernel_rfl) (fun _ _ _ h => h) (Or.inl ⟨by rfl, ?hy39c1⟩) hHeld ?rest39c1
      case hy39c1 => (intro w' hSw; (try dsimp only at hSw); go_simp; try with_reducible rfl)
      case' rest39c1 => try simp only [Act.put, List.setIfInBounds_toArray, List.set_cons_zero, List.set_cons_succ, List.getElem_toArray, List.getElem_cons_succ, List.getElem_cons_zero]
      refine wpAnyH_done (by kernel_rfl) ?_ _
      refine NoPanic.normal ?_
      go_wp2_with fail
      go_meet
      exact FIN.out true 0 (fun e => by cases e)
    · have hz2 : ((ln : Int) == 0) = false := by rw [beq_eq_false_iff_ne]; omega
      by_cases hr : room = 0
      · have hr2 : (room == 0) = true := by simp [hr]
        have hr3 : decide (0 < room) = false := by simp [hr]
        rcases ht0 with ht | ht
        · have ht2 : decide (tkr < 0) = true := by rw [decide_eq_true_eq]; omega
          have ht3 : tkr < 0 := by omega
          go_wp2_with fail
          refine wp_region_noPanic ?_
          refine wp_region_held_drew (S := (fun w' => w'.cell? ⟨w.heap.size, 0, none⟩ = some (.slice (some ⟨gL, 0, none⟩) ls.length cL) ∧ w'.cell? ⟨gL, ln * 4, none⟩ = some (.int .i64 room) ∧ w'.cell? ⟨gL, ln * 4 + 1, none⟩ = some (.slice Ax hx.length cx))) (by kernel_rfl) (⟨z0, q0, q1⟩) (fun hHeld => ?_)
          refine' wpAnyH_take (i := 0) (oi := _) (v := _) rfl (by kernel_rfl) (by kernel_rfl) (by kernel_rfl) (fun _ _ _ h => h) (Or.inl ⟨by rfl, ?hy0c2⟩) hHeld ?rest0c2
          case hy0c2 => (intro w' hSw; (try dsimp only at hSw); go_simp; try with_reducible rfl)
          case' rest0c2 => try simp only [Act.put, List.setIfInBounds_toArray, List.set_cons_zero, List.set_cons_succ, List.getElem_toArray, List.getElem_cons_succ, List.getElem_cons_zero]
          refine' wpAnyH_take (i := 1) (oi := _) (v := _) rfl (by kernel_rfl) (by kernel_rfl) (by kernel_rfl) (fun _ _ _ h => h) (Or.inl ⟨by rfl, ?hy1c2⟩) hHeld ?rest1c2
          case hy1c2 => (intro w' hSw; (try dsimp only at hSw); go_simp; try with_reducible rfl)
          case' rest1c2 => try simp only [Act.put, List.setIfInBounds_toArray, List.set_cons_zero, List.set_cons_succ, List.getElem_toArray, List.getElem_cons_succ, List.getElem_cons_zero]
          refine' wpAnyH_take (i := 2) (oi := _) (v := _) rfl (by kernel_rfl) (by kernel_rfl) (by kernel_rfl) (fun _ _ _ h => h) (Or.inl ⟨by rfl, ?hy2c2⟩) hHeld ?rest2c2
          case hy2c2 => (intro w' hSw; (try dsimp only at hSw); go_simp; try with_reducible rfl)
          case' rest2c2 => try simp only [Act.put, List.setIfInBounds_toArray, List.set_cons_zero, List.set_cons_succ, List.getElem_toArray, List.getElem_cons_succ, List.getElem_cons_zero]
          refine' wpAnyH_take (i := 3) (oi := _) (v := _) rfl (by kernel_rfl) (by kernel_rfl) (by kernel_rfl) (fun _ _ _ h => h) (Or.inl ⟨by rfl, ?hy3c2⟩) hHeld ?rest3c2
          case hy3c2 => (intro w' hSw; (try dsimp only at hSw); go_simp; try with_reducible rfl)
          case' rest3c2 => try simp only [Act.put, List.setIfInBounds_toArray, List.set_cons_zero, List.set_cons_succ, List.getElem_toArray, List.getElem_cons_succ, List.getElem_cons_zero]
          refine' wpAnyH_take (i := 4) (oi := _) (v := _) rfl (by kernel_rfl) (by kernel_rfl) (by kernel_rfl) (fun _ _ _ h => h) (Or.inl ⟨by rfl, ?hy4c2⟩) hHeld ?rest4c2
          case hy4c2 => (intro w' hSw; (try dsimp only at hSw); go_simp; try with_reducible rfl)
          case' rest4c2 => try simp only [Act.put, List.setIfInBounds_toArray, List.set_cons_zero, List.set_cons_succ, List.getElem_toArray, List.getElem_cons_succ, List.getElem_cons_zero]
          refine' wpAnyH_take (i := 5) (oi := _) (v := _) rfl (by kernel_rfl) (by kernel_rfl) (by kernel_rfl) (fun _ _ _ h => h) (Or.inl ⟨by rfl, ?hy5c2⟩) hHeld ?rest5c2
          case hy5c2 => (intro w' hSw; (try dsimp only at hSw); go_simp; try with_reducible rfl)
          case' rest5c2 => try simp only [Act.put, List.setIfInBounds_toArray, List.set_cons_zero, List.set_cons_succ, List.getElem_toArray, List.getElem_cons_succ, List.getElem_cons_zero]
          refine' wpAnyH_take (i := 6) (oi := _) (v := _) rfl (by kernel_rfl) (by kernel_rfl) (by kernel_rfl) (fun _ _ _ h => h) (Or.inl ⟨by rfl, ?hy6c2⟩) hHeld ?rest6c2
          case hy6c2 => (intro w' hSw; (try dsimp only at hSw); go_simp; try with_reducible rfl)
          case' rest6c2 => try simp only [Act.put, List.setIfInBounds_toArray, List.set_cons_zero, List.set_cons_succ, List.getElem_toArray, List.getElem_cons_succ, List.getElem_cons_zero]
          refine' wpAnyH_take (i := 7) (oi := _) (v := _) rfl (by kernel_rfl) (by kernel_rfl) (by kernel_rfl) (fun _ _ _ h => h) (Or.inl ⟨by rfl, ?hy7c2⟩) hHeld ?rest7c2
          case hy7c2 => (intro w' hSw; (try dsimp only at hSw); go_simp; try with_reducible rfl)
          case' rest7c2 => try simp only [Act.put, List.setIfInBounds_toArray, List.set_cons_zero, List.set_cons_succ, List.getElem_toArray, List.getElem_cons_succ, List.getElem_cons_zero]
          refine' wpAnyH_take (i := 8) (oi := _) (v := _) rfl (by kernel_rfl) (by kernel_rfl) (by kernel_rfl) (fun _ _ _ h => h) (Or.inl ⟨by rfl, ?hy8c2⟩) hHeld ?rest8c2
          case hy8c2 => (intro w' hSw; (try dsimp only at hSw); go_simp; try with_reducible rfl)
          case' rest8c2 => try simp only [Act.put, List.setIfInBounds_toArray, List.set_cons_zero, List.set_cons_succ, List.getElem_toArray, List.getElem_cons_succ, List.getElem_cons_zero]
          refine' wpAnyH_take (i := 9) (oi := _) (v := _) rfl (by kernel_rfl) (by kernel_rfl) (by kernel_rfl) (fun _ _ _ h => h) (Or.inl ⟨by rfl, ?hy9c2⟩) hHeld ?rest9c2
          case hy9c2 => (intro w' hSw; (try dsimp only at hSw); go_simp; try with_reducible rfl)
          case' rest9c2 => try simp only [Act.put, List.setIfInBounds_toArray, List.set_cons_zero, List.set_cons_succ, List.getElem_toArray, List.getElem_cons_succ, List.getElem_cons_zero]
          refine' wpAnyH_take (i := 10) (oi := _) (v := _) rfl (by kernel_rfl) (by kernel_rfl) (by kernel_rfl) (fun _ _ _ h => h) (Or.inl ⟨by rfl, ?hy10c2⟩) hHeld ?rest10c2
          case hy10c2 => (intro w' hSw; (try dsimp only at hSw); go_simp; try with_reducible rfl)
          case' rest10c2 => try simp only [Act.put, List.setIfInBounds_toArray, List.set_cons_zero, List.set_cons_succ, List.getElem_toArray, List.getElem_cons_succ, List.getElem_cons_zero]
          refine' wpAnyH_take (i := 11) (oi := _) (v := _) rfl (by kernel_rfl) (by kernel_rfl) (by kernel_rfl) (fun _ _ _ h => h) (Or.inl ⟨by rfl, ?hy11c2⟩) hHeld ?rest11c2
          case hy11c2 => (intro w' hSw; (try dsimp only at hSw); go_simp; try with_reducible rfl)
          case' rest11c2 => try simp only [Act.put, List.setIfInBounds_toArray, List.set_cons_zero, List.set_cons_succ, List.getElem_toArray, List.getElem_cons_succ, List.getElem_cons_zero]
          refine' wpAnyH_take (i := 12) (oi := _) (v := _) rfl (by kernel_rfl) (by kernel_rfl) (by kernel_rfl) (fun _ _ _ h => h) (Or.inl ⟨by rfl, ?hy12c2⟩) hHeld ?rest12c2
          case hy12c2 => (intro w' hSw; (try dsimp only at hSw); go_simp; try with_reducible rfl)
          case' rest12c2 => try simp only [Act.put, List.setIfInBounds_toArray, List.set_cons_zero, List.set_cons_succ, List.getElem_toArray, List.getElem_cons_succ, List.getElem_cons_zero]
          refine' wpAnyH_take (i := 13) (oi := _) (v := _) rfl (by kernel_rfl) (by kernel_rfl) (by kernel_rfl) (fun _ _ _ h => h) (Or.inl ⟨by rfl, ?hy13c2⟩) hHeld ?rest13c2
          case hy13c2 => (intro w' hSw; (try dsimp only at hSw); go_simp; try with_reducible rfl)
          case' rest13c2 => try simp only [Act.put, List.setIfInBounds_toArray, List.set_cons_zero, List.set_cons_succ, List.getElem_toArray, List.getElem_cons_succ, List.getElem_cons_zero]
          refine' wpAnyH_take (i := 14) (oi := _) (v := _) rfl (by kernel_rfl) (by kernel_rfl) (by kernel_rfl) (fun _ _ _ h => h) (Or.inl ⟨by rfl, ?hy14c2⟩) hHeld ?rest14c2
          case hy14c2 => (intro w' hSw; (try dsimp only at hSw); go_simp; try with_reducible rfl)
          case' rest14c2 => try simp only [Act.put, List.setIfInBounds_toArray, List.set_cons_zero, List.set_cons_succ, List.getElem_toArray, List.getElem_cons_succ, List.getElem_cons_zero]
          refine' wpAnyH_take (i := 15) (oi := _) (v := _) rfl (by kernel_rfl) (by kernel_rfl) (by kernel_rfl) (fun _ _ _ h => h) (Or.inl ⟨by rfl, ?hy15c2⟩) hHeld ?rest15c2
          case hy15c2 => (intro w' hSw; (try dsimp only at hSw); go_simp; try with_reducible rfl)
          case' rest15c2 => try simp only [Act.put, List.setIfInBounds_toArray, List.set_cons_zero, List.set_cons_succ, List.getElem_toArray, List.getElem_cons_succ, List.getElem_cons_zero]
          refine' wpAnyH_take (i := 16) (oi := _) (v := _) rfl (by kernel_rfl) (by kernel_rfl) (by kernel_rfl) (fun _ _ _ h => h) (Or.inr ⟨by rfl, rfl⟩) hHeld ?rest16c2
          case' rest16c2 => try simp only [Act.put, List.setIfInBounds_toArray, List.set_cons_zero, List.set_cons_succ, List.getElem_toArray, List.getElem_cons_succ, List.getElem_cons_zero]
          refine' wpAnyH_take (i := 17) (oi := _) (v := _) rfl (by kernel_rfl) (by kernel_rfl) (by kernel_rfl) (fun _ _ _ h => h) (Or.inr ⟨by rfl, rfl⟩) hHeld ?rest17c2
          case' rest17c2 => try simp only [Act.put, List.setIfInBounds_toArray, List.set_cons_zero, List.set_cons_succ, List.getElem_toArray, List.getElem_cons_succ, List.getElem_cons_zero]
          refine' wpAnyH_take (i := 18) (oi := _) (v := _) rfl (by kernel_rfl) (by kernel_rfl) (by kernel_rfl) (fun _ _ _ h => h) (Or.inr ⟨by rfl, rfl⟩) hHeld ?rest18c2
          case' rest18c2 => try simp only [Act.put, List.setIfInBounds_toArray, List.set_cons_zero, List.set_cons_succ, List.getElem_toArray, List.getElem_cons_succ, List.getElem_cons_zero]
          refine' wpAnyH_take (i := 19) (oi := _) (v := _) rfl (by kernel_rfl) (by kernel_rfl) (by kernel_rfl) (fun _ _ _ h => h) (Or.inr ⟨by rfl, rfl⟩) hHeld ?rest19c2
          case' rest19c2 => try simp only [Act.put, List.setIfInBounds_toArray, List.set_cons_zero, List.set_cons_succ, List.getElem_toArray, List.getElem_cons_succ, List.getElem_cons_zero]
          refine' wpAnyH_take (i := 20) (oi := _) (v := _) rfl (by kernel_rfl) (by kernel_rfl) (by kernel_rfl) (fun _ _ _ h => h) (Or.inr ⟨by rfl, rfl⟩) hHeld ?rest20c2
          case' rest20c2 => try simp only [Act.put, List.setIfInBounds_toArray, List.set_cons_zero, List.set_cons_succ, List.getElem_toArray, List.getElem_cons_succ, List.getElem_cons_zero]
          refine' wpAnyH_take (i := 21) (oi := _) (v := _) rfl (by kernel_rfl) (by kernel_rfl) (by kernel_rfl) (fun _ _ _ h => h) (Or.inr ⟨by rfl, rfl⟩) hHeld ?rest21c2
          case' rest21c2 => try simp only [Act.put, List.setIfInBounds_toArray, List.set_cons_zero, List.set_cons_succ, List.getElem_toArray, List.getElem_cons_succ, List.getElem_cons_zero]
          refine' wpAnyH_take (i := 22) (oi := _) (v := _) rfl (by kernel_rfl) (by kernel_rfl) (by kernel_rfl) (fun _ _ _ h => h) (Or.inr ⟨by rfl, rfl⟩) hHeld ?rest22c2
          case' rest22c2 => try simp only [Act.put, List.setIfInBounds_toArray, List.set_cons_zero, List.set_cons_succ, List.getElem_toArray, List.getElem_cons_succ, List.getElem_cons_zero]
          refine' wpAnyH_take (i := 23) (oi := _) (v := _) rfl (by kernel_rfl) (by kernel_rfl) (by kernel_rfl) (fun _ _ _ h => h) (Or.inr ⟨by rfl, rfl⟩) hHeld ?rest23c2
          case' rest23c2 => try simp only [Act.put, List.setIfInBounds_toArray, List.set_cons_zero, List.set_cons_succ, List.getElem_toArray, List.getElem_cons_succ, List.getElem_cons_zero]
          refine' wpAnyH_take (i := 24) (oi := _) (v := _) rfl (by kernel_rfl) (by kernel_rfl) (by kernel_rfl) (fun _ _ _ h => h) (Or.inr ⟨by rfl, rfl⟩) hHeld ?rest24c2
          case' rest24c2 => try simp only [Act.put, List.setIfInBounds_toArray, List.set_cons_zero, List.set_cons_succ, List.getElem_toArray, List.getElem_cons_succ, List.getElem_cons_zero]
          refine' wpAnyH_take (i := 25) (oi := _) (v := _) rfl (by kernel_rfl) (by kernel_rfl) (by kernel_rfl) (fun _ _ _ h => h) (Or.inr ⟨by rfl, rfl⟩) hHeld ?rest25c2
          case' rest25c2 => try simp only [Act.put, List.setIfInBounds_toArray, List.set_cons_zero, List.set_cons_succ, List.getElem_toArray, List.getElem_cons_succ, List.getElem_cons_zero]
          refine' wpAnyH_take (i := 26) (oi := _) (v := _) rfl (by kernel_rfl) (by kernel_rfl) (by kernel_rfl) (fun _ _ _ h => h) (Or.inr ⟨by rfl, rfl⟩) hHeld ?rest26c2
          case' rest26c2 => try simp only [Act.put, List.setIfInBounds_toArray, List.set_cons_zero, List.set_cons_succ, List.getElem_toArray, List.getElem_cons_succ, List.getElem_cons_zero]
          refine' wpAnyH_take (i := 27) (oi := _) (v := _) rfl (by kernel_rfl) (by kernel_rfl) (by kernel_rfl) (fun _ _ _ h => h) (Or.inr ⟨by rfl, rfl⟩) hHeld ?rest27c2
          case' rest27c2 => try simp only [Act.put, List.setIfInBounds_toArray, List.set_cons_zero, List.set_cons_succ, List.getElem_toArray, List.getElem_cons_succ, List.getElem_cons_zero]
          refine' wpAnyH_take (i := 28) (oi := _) (v := _) rfl (by kernel_rfl) (by kernel_rfl) (by kernel_rfl) (fun _ _ _ h => h) (Or.inr ⟨by rfl, rfl⟩) hHeld ?rest28c2
          case' rest28c2 => try simp only [Act.put, List.setIfInBounds_toArray, List.set_cons_zero, List.set_cons_succ, List.getElem_toArray, List.getElem_cons_succ, List.getElem_cons_zero]
          refine' wpAnyH_take (i := 29) (oi := _) (v := _) rfl (by kernel_rfl) (by kernel_rfl) (by kernel_rfl) (fun _ _ _ h => h) (Or.inr ⟨by rfl, rfl⟩) hHeld ?rest29c2
          case' rest29c2 => try simp only [Act.put, List.setIfInBounds_toArray, List.set_cons_zero, List.set_cons_succ, List.getElem_toArray, List.getElem_cons_succ, List.getElem_cons_zero]
          refine' wpAnyH_take (i := 30) (oi := _) (v := _) rfl (by kernel_rfl) (by kernel_rfl) (by kernel_rfl) (fun _ _ _ h => h) (Or.inr ⟨by rfl, rfl⟩) hHeld ?rest30c2
          case' rest30c2 => try simp only [Act.put, List.setIfInBounds_toArray, List.set_cons_zero, List.set_cons_succ, List.getElem_toArray, List.getElem_cons_succ, List.getElem_cons_zero]
          refine' wpAnyH_take (i := 31) (oi := _) (v := _) rfl (by kernel_rfl) (by kernel_rfl) (by kernel_rfl) (fun _ _ _ h => h) (Or.inr ⟨by rfl, rfl⟩) hHeld ?rest31c2
          case' rest31c2 => try simp only [Act.put, List.setIfInBounds_toArray, List.set_cons_zero, List.set_cons_succ, List.getElem_toArray, List.getElem_cons_succ, List.getElem_cons_zero]
          refine' wpAnyH_take (i := 32) (oi := _) (v := _) rfl (by kernel_rfl) (by kernel_rfl) (by kernel_rfl) (fun _ _ _ h => h) (Or.inr ⟨by rfl, rfl⟩) hHeld ?rest32c2
          case' rest32c2 => try simp only [Act.put, List.setIfInBounds_toArray, List.set_cons_zero, List.set_cons_succ, List.getElem_toArray, List.getElem_cons_succ, List.getElem_cons_zero]
          refine' wpAnyH_take (i := 33) (oi := _) (v := _) rfl (by kernel_rfl) (by kernel_rfl) (by kernel_rfl) (fun _ _ _ h => h) (Or.inr ⟨by rfl, rfl⟩) hHeld ?rest33c2
          case' rest33c2 => try simp only [Act.put, List.setIfInBounds_toArray, List.set_cons_zero, List.set_cons_succ, List.getElem_toArray, List.getElem_cons_succ, List.getElem_cons_zero]
          refine' wpAnyH_take (i := 34) (oi := _) (v := _) rfl (by kernel_rfl) (by kernel_rfl) (by kernel_rfl) (fun _ _ _ h => h) (Or.inr ⟨by rfl, rfl⟩) hHeld ?rest34c2
          case' rest34c2 => try simp only [Act.put, List.setIfInBounds_toArray, List.set_cons_zero, List.set_cons_succ, List.getElem_toArray, List.getElem_cons_succ, List.getElem_cons_zero]
          refine' wpAnyH_take (i := 35) (oi := _) (v := _) rfl (by kernel_rfl) (by kernel_rfl) (by kernel_rfl) (fun _ _ _ h => h) (Or.inr ⟨by rfl, rfl⟩) hHeld ?rest35c2
          case' rest35c2 => try simp only [Act.put, List.setIfInBounds_toArray, List.set_cons_zero, List.set_cons_succ, List.getElem_toArray, List.getElem_cons_succ, List.getElem_cons_zero]
          refine' wpAnyH_take (i := 36) (oi := _) (v := _) rfl (by kernel_rfl) (by kernel_rfl) (by kernel_rfl) (fun _ _ _ h => h) (Or.inr ⟨by rfl, rfl⟩) hHeld ?rest36c2
          case' rest36c2 => try simp only [Act.put, List.setIfInBounds_toArray, List.set_cons_zero, List.set_cons_succ, List.getElem_toArray, List.getElem_cons_succ, List.getElem_cons_zero]
          refine' wpAnyH_take (i := 37) (oi := _) (v := _) rfl (by kernel_rfl) (by kernel_rfl) (by kernel_rfl) (fun _ _ _ h => h) (Or.inr ⟨by rfl, rfl⟩) hHeld ?rest37c2
          case' rest37c2 => try simp only [Act.put, List.setIfInBounds_toArray, List.set_cons_zero, List.set_cons_succ, List.getElem_toArray, List.getElem_cons_succ, List.getElem_cons_zero]
          refine' wpAnyH_take (i := 38) (oi := _) (v := _) rfl (by kernel_rfl) (by kernel_rfl) (by kernel_rfl) (fun _ _ _ h => h) (Or.inr ⟨by rfl, rfl⟩) hHeld ?rest38c2
          case' rest38c2 => try simp only [Act.put, List.setIfInBounds_toArray, List.set_cons_zero, List.set_cons_succ, List.getElem_toArray, List.getElem_cons_succ, List.getElem_cons_zero]
          refine' wpAnyH_take (i := 39) (oi := _) (v := _) rfl (by kernel_rfl) (by kernel_rfl) (by kernel_rfl) (fun _ _ _ h => h) (Or.inl ⟨by rfl, ?hy39c2⟩) hHeld ?rest39c2
          case hy39c2 => (intro w' hSw; (try dsimp only at hSw); go_simp; try with_reducible rfl)
          case' rest39c2 => try simp only [Act.put, List.setIfInBounds_toArray, List.set_cons_zero, List.set_cons_succ, List.getElem_toArray, List.getElem_cons_succ, List.getElem_cons_zero]
          refine wpAnyH_done (by kernel_rfl) ?_ _
          refine NoPanic.normal ?_
          go_wp2_with fail
          go_meet
          exact FIN.out true 0 (fun e => by cases e)
        · have ht2 : decide (tkr < 0) = false := by rw [decide_eq_false_iff_not]; omega
          have ht3 : ¬ tkr < 0 := by omega
          go_wp2_with fail
          refine wp_region_noPanic ?_
          refine wp_region_held_drew (S := (fun w' => w'.cell? ⟨w.heap.size, 0, none⟩ = some (.slice (some ⟨gL, 0, none⟩) ls.length cL) ∧ w'.cell? ⟨gL, ln * 4, none⟩ = some (.int .i64 room) ∧ w'.cell? ⟨gL, ln * 4 + 1, none⟩ = some (.slice Ax hx.length cx))) (by kernel_rfl) (⟨z0, q0, q1⟩) (fun hHeld => ?_)
          refine' wpAnyH_take (i := 0) (oi := _) (v := _) rfl (by kernel_rfl) (by kernel_rfl) (by kernel_rfl) (fun _ _ _ h => h) (Or.inl ⟨by rfl, ?hy0c3⟩) hHeld ?rest0c3
          case hy0c3 => (intro w' hSw; (try dsimp only at hSw); go_simp; try with_reducible rfl)
          case' rest0c3 => try simp only [Act.put, List.setIfInBounds_toArray, List.set_cons_zero, List.set_cons_succ, List.getElem_toArray, List.getElem_cons_succ, List.getElem_cons_zero]
          refine' wpAnyH_take (i := 1) (oi := _) (v := _) rfl (by kernel_rfl) (by kernel_rfl) (by kernel_rfl) (fun _ _ _ h => h) (Or.inl ⟨by rfl, ?hy1c3⟩) hHeld ?rest1c3
          case hy1c3 => (intro w' hSw; (try dsimp only at hSw); go_simp; try with_reducible rfl)
          case' rest1c3 => try simp only [Act.put, List.setIfInBounds_toArray, List.set_cons_zero, List.set_cons_succ, List.getElem_toArray, List.getElem_cons_succ, List.getElem_cons_zero]
          refine' wpAnyH_take (i := 2) (oi := _) (v := _) rfl (by kernel_rfl) (by kernel_rfl) (by kernel_rfl) (fun _ _ _ h => h) (Or.inl ⟨by rfl, ?hy2c3⟩) hHeld ?rest2c3
          case hy2c3 => (intro w' hSw; (try dsimp only at hSw); go_simp; try with_reducible rfl)
          case' rest2c3 => try simp only [Act.put, List.setIfInBounds_toArray, List.set_cons_zero, List.set_cons_succ, List.getElem_toArray, List.getElem_cons_succ, List.getElem_cons_zero]
          refine' wpAnyH_take (i := 3) (oi := _) (v := _) rfl (by kernel_rfl) (by kernel_rfl) (by kernel_rfl) (fun _ _ _ h => h) (Or.inl ⟨by rfl, ?hy3c3⟩) hHeld ?rest3c3
          case hy3c3 => (intro w' hSw; (try dsimp only at hSw); go_simp; try with_reducible rfl)
          case' rest3c3 => try simp only [Act.put, List.setIfInBounds_toArray, List.set_cons_zero, List.set_cons_succ, List.getElem_toArray, List.getElem_cons_succ, List.getElem_cons_zero]
          refine' wpAnyH_take (i := 4) (oi := _) (v := _) rfl (by kernel_rfl) (by kernel_rfl) (by kernel_rfl) (fun _ _ _ h => h) (Or.inl ⟨by rfl, ?hy4c3⟩) hHeld ?rest4c3
          case hy4c3 => (intro w' hSw; (try dsimp only at hSw); go_simp; try with_reducible rfl)
          case' rest4c3 => try simp only [Act.put, List.setIfInBounds_toArray, List.set_cons_zero, List.set_cons_succ, List.getElem_toArray, List.getElem_cons_succ, List.getElem_cons_zero]
          refine' wpAnyH_take (i := 5) (oi := _) (v := _) rfl (by kernel_rfl) (by kernel_rfl) (by kernel_rfl) (fun _ _ _ h => h) (Or.inl ⟨by rfl, ?hy5c3⟩) hHeld ?rest5c3
          case hy5c3 => (intro w' hSw; (try dsimp only at hSw); go_simp; try with_reducible rfl)
          case' rest5c3 => try simp only [Act.put, List.setIfInBounds_toArray, List.set_cons_zero, List.set_cons_succ, List.getElem_toArray, List.getElem_cons_succ, List.getElem_cons_zero]
          refine' wpAnyH_take (i := 6) (oi := _) (v := _) rfl (by kernel_rfl) (by kernel_rfl) (by kernel_rfl) (fun _ _ _ h => h) (Or.inl ⟨by rfl, ?hy6c3⟩) hHeld ?rest6c3
          case hy6c3 => (intro w' hSw; (try dsimp only at hSw); go_simp; try with_reducible rfl)
          case' rest6c3 => try simp only [Act.put, List.setIfInBounds_toArray, List.set_cons_zero, List.set_cons_succ, List.getElem_toArray, List.getElem_cons_succ, List.getElem_cons_zero]
          refine' wpAnyH_take (i := 7) (oi := _) (v := _) rfl (by kernel_rfl) (by kernel_rfl) (by kernel_rfl) (fun _ _ _ h => h) (Or.inl ⟨by rfl, ?hy7c3⟩) hHeld ?rest7c3
          case hy7c3 => (intro w' hSw; (try dsimp only at hSw); go_simp; try with_reducible rfl)
          case' rest7c3 => try simp only [Act.put, List.setIfInBounds_toArray, List.set_cons_zero, List.set_cons_succ, List.getElem_toArray, List.getElem_cons_succ, List.getElem_cons_zero]
          refine' wpAnyH_take (i := 8) (oi := _) (v := _) rfl (by kernel_rfl) (by kernel_rfl) (by kernel_rfl) (fun _ _ _ h => h) (Or.inl ⟨by rfl, ?hy8c3⟩) hHeld ?rest8c3
          case hy8c3 => (intro w' hSw; (try dsimp only at hSw); go_simp; try with_reducible rfl)
          case' rest8c3 => try simp only [Act.put, List.setIfInBounds_toArray, List.set_cons_zero, List.set_cons_succ, List.getElem_toArray, List.getElem_cons_succ, List.getElem_cons_zero]
          refine' wpAnyH_take (i := 9) (oi := _) (v := _) rfl (by kernel_rfl) (by kernel_rfl) (by kernel_rfl) (fun _ _ _ h => h) (Or.inl ⟨by rfl, ?hy9c3⟩) hHeld ?rest9c3
          case hy9c3 => (intro w' hSw; (try dsimp only at hSw); go_simp; try with_reducible rfl)
          case' rest9c3 => try simp only [Act.put, List.setIfInBounds_toArray, List.set_cons_zero, List.set_cons_succ, List.getElem_toArray, List.getElem_cons_succ, List.getElem_cons_zero]
          refine' wpAnyH_take (i := 10) (oi := _) (v := _) rfl (by kernel_rfl) (by kernel_rfl) (by kernel_rfl) (fun _ _ _ h => h) (Or.inl ⟨by rfl, ?hy10c3⟩) hHeld ?rest10c3
          case hy10c3 => (intro w' hSw; (try dsimp only at hSw); go_simp; try with_reducible rfl)
          case' rest10c3 => try simp only [Act.put, List.setIfInBounds_toArray, List.set_cons_zero, List.set_cons_succ, List.getElem_toArray, List.getElem_cons_succ, List.getElem_cons_zero]
          refine' wpAnyH_take (i := 11) (oi := _) (v := _) rfl (by kernel_rfl) (by kernel_rfl) (by kernel_rfl) (fun _ _ _ h => h) (Or.inl ⟨by rfl, ?hy11c3⟩) hHeld ?rest11c3
          case hy11c3 => (intro w' hSw; (try dsimp only at hSw); go_simp; try with_reducible rfl)
          case' rest11c3 => try simp only [Act.put, List.setIfInBounds_toArray, List.set_cons_zero, List.set_cons_succ, List.getElem_toArray, List.getElem_cons_succ, List.getElem_cons_zero]
          refine' wpAnyH_take (i := 12) (oi := _) (v := _) rfl (by kernel_rfl) (by kernel_rfl) (by kernel_rfl) (fun _ _ _ h => h) (Or.inl ⟨by rfl, ?hy12c3⟩) hHeld ?rest12c3
          case hy12c3 => (intro w' hSw; (try dsimp only at hSw); go_simp; try with_reducible rfl)
          case' rest12c3 => try simp only [Act.put, List.setIfInBounds_toArray, List.set_cons_zero, List.set_cons_succ, List.getElem_toArray, List.getElem_cons_succ, List.getElem_cons_zero]
          refine' wpAnyH_take (i := 13) (oi := _) (v := _) rfl (by kernel_rfl) (by kernel_rfl) (by kernel_rfl) (fun _ _ _ h => h) (Or.inl ⟨by rfl, ?hy13c3⟩) hHeld ?rest13c3
          case hy13c3 => (intro w' hSw; (try dsimp only at hSw); go_simp; try with_reducible rfl)
          case' rest13c3 => try simp only [Act.put, List.setIfInBounds_toArray, List.set_cons_zero, List.set_cons_succ, List.getElem_toArray, List.getElem_cons_succ, List.getElem_cons_zero]
          refine' wpAnyH_take (i := 14) (oi := _) (v := _) rfl (by kernel_rfl) (by kernel_rfl) (by kernel_rfl) (fun _ _ _ h => h) (Or.inl ⟨by rfl, ?hy14c3⟩) hHeld ?rest14c3
          case hy14c3 => (intro w' hSw; (try dsimp only at hSw); go_simp; try with_reducible rfl)
          case' rest14c3 => try simp only [Act.put, List.setIfInBounds_toArray, List.set_cons_zero, List.set_cons_succ, List.getElem_toArray, List.getElem_cons_succ, List.getElem_cons_zero]
          refine' wpAnyH_take (i := 15) (oi := _) (v := _) rfl (by kernel_rfl) (by kernel_rfl) (by kernel_rfl) (fun _ _ _ h => h) (Or.inl ⟨by rfl, ?hy15c3⟩) hHeld ?rest15c3
          case hy15c3 => (intro w' hSw; (try dsimp only at hSw); go_simp; try with_reducible rfl)
          case' rest15c3 => try simp only [Act.put, List.setIfInBounds_toArray, List.set_cons_zero, List.set_cons_succ, List.getElem_toArray, List.getElem_cons_succ, List.getElem_cons_zero]
          refine' wpAnyH_take (i := 16) (oi := _) (v := _) rfl (by kernel_rfl) (by kernel_rfl) (by kernel_rfl) (fun _ _ _ h => h) (Or.inl ⟨by rfl, ?hy16c3⟩) hHeld ?rest16c3
          case hy16c3 => (intro w' hSw; (try dsimp only at hSw); go_simp; try with_reducible rfl)
          case' rest16c3 => try simp only [Act.put, List.setIfInBounds_toArray, List.set_cons_zero, List.set_cons_succ, List.getElem_toArray, List.getElem_cons_succ, List.getElem_cons_zero]
          refine' wpAnyH_take (i := 17) (oi := _) (v := _) rfl (by kernel_rfl) (by kernel_rfl) (by kernel_rfl) (fun _ _ _ h => h) (Or.inl ⟨by rfl, ?hy17c3⟩) hHeld ?rest17c3
          case hy17c3 => (intro w' hSw; (try dsimp only at hSw); go_simp; try with_reducible rfl)
          case' rest17c3 => try simp only [Act.put, List.setIfInBounds_toArray, List.set_cons_zero, List.set_cons_succ, List.getElem_toArray, List.getElem_cons_succ, List.getElem_cons_zero]
          refine' wpAnyH_take (i := 18) (oi := _) (v := _) rfl (by kernel_rfl) (by kernel_rfl) (by kernel_rfl) (fun _ _ _ h => h) (Or.inl ⟨by rfl, ?hy18c3⟩) hHeld ?rest18c3
          case hy18c3 => (intro w' hSw; (try dsimp only at hSw); go_simp; try with_reducible rfl)
          case' rest18c3 => try simp only [Act.put, List.setIfInBounds_toArray, List.set_cons_zero, List.set_cons_succ, List.getElem_toArray, List.getElem_cons_succ, List.getElem_cons_zero]
          refine' wpAnyH_take (i := 19) (oi := _) (v := _) rfl (by kernel_rfl) (by kernel_rfl) (by kernel_rfl) (fun _ _ _ h => h) (Or.inl ⟨by rfl, ?hy19c3⟩) hHeld ?rest19c3
          case hy19c3 => (intro w' hSw; (try dsimp only at hSw); go_simp; try with_reducible rfl)
          case' rest19c3 => try simp only [Act.put, List.setIfInBounds_toArray, List.set_cons_zero, List.set_cons_succ, List.getElem_toArray, List.getElem_cons_succ, List.getElem_cons_zero]
          refine' wpAnyH_take (i := 20) (oi := _) (v := _) rfl (by kernel_rfl) (by kernel_rfl) (by kernel_rfl) (fun _ _ _ h => h) (Or.inl ⟨by rfl, ?hy20c3⟩) hHeld ?rest20c3
          case hy20c3 => (intro w' hSw; (try dsimp only at hSw); go_simp; try with_reducible rfl)
          case' rest20c3 => try simp only [Act.put, List.setIfInBounds_toArray, List.set_cons_zero, List.set_cons_succ, List.getElem_toArray, List.getElem_cons_succ, List.getElem_cons_zero]
          refine' wpAnyH_take (i := 21) (oi := _) (v := _) rfl (by kernel_rfl) (by kernel_rfl) (by kernel_rfl) (fun _ _ _ h => h) (Or.inl ⟨by rfl, ?hy21c3⟩) hHeld ?rest21c3
          case hy21c3 => (intro w' hSw; (try dsimp only at hSw); go_simp; try with_reducible rfl)
          case' rest21c3 => try simp only [Act.put, List.setIfInBounds_toArray, List.set_cons_zero, List.set_cons_succ, List.getElem_toArray, List.getElem_cons_succ, List.getElem_cons_zero]
          refine' wpAnyH_take (i := 22) (oi := _) (v := _) rfl (by kernel_rfl) (by kernel_rfl) (by kernel_rfl) (fun _ _ _ h => h) (Or.inl ⟨by rfl, ?hy22c3⟩) hHeld ?rest22c3
          case hy22c3 => (intro w' hSw; (try dsimp only at hSw); go_simp; try with_reducible rfl)
          case' rest22c3 => try simp only [Act.put, List.setIfInBounds_toArray, List.set_cons_zero, List.set_cons_succ, List.getElem_toArray, List.getElem_cons_succ, List.getElem_cons_zero]
          refine' wpAnyH_take (i := 23) (oi := _) (v := _) rfl (by kernel_rfl) (by kernel_rfl) (by kernel_rfl) (fun _ _ _ h => h) (Or.inl ⟨by rfl, ?hy23c3⟩) hHeld ?rest23c3
          case hy23c3 => (intro w' hSw; (try dsimp only at hSw); go_simp; try with_reducible rfl)
          case' rest23c3 => try simp only [Act.put, List.setIfInBounds_toArray, List.set_cons_zero, List.set_cons_succ, List.getElem_toArray, List.getElem_cons_succ, List.getElem_cons_zero]
          refine' wpAnyH_take (i := 24) (oi := _) (v := _) rfl (by kernel_rfl) (by kernel_rfl) (by kernel_rfl) (fun _ _ _ h => h) (Or.inr ⟨by rfl, rfl⟩) hHeld ?rest24c3
          case' rest24c3 => try simp only [Act.put, List.setIfInBounds_toArray, List.set_cons_zero, List.set_cons_succ, List.getElem_toArray, List.getElem_cons_succ, List.getElem_cons_zero]
          refine' wpAnyH_take (i := 25) (oi := _) (v := _) rfl (by kernel_rfl) (by kernel_rfl) (by kernel_rfl) (fun _ _ _ h => h) (Or.inr ⟨by rfl, rfl⟩) hHeld ?rest25c3
          case' rest25c3 => try simp only [Act.put, List.setIfInBounds_toArray, List.set_cons_zero, List.set_cons_succ, List.getElem_toArray, List.getElem_cons_succ, List.getElem_cons_zero]
          refine' wpAnyH_take (i := 26) (oi := _) (v := _) rfl (by kernel_rfl) (by kernel_rfl) (by kernel_rfl) (fun _ _ _ h => h) (Or.inr ⟨by rfl, rfl⟩) hHeld ?rest26c3
          case' rest26c3 => try simp only [Act.put, List.setIfInBounds_toArray, List.set_cons_zero, List.set_cons_succ, List.getElem_toArray, List.getElem_cons_succ, List.getElem_cons_zero]
          refine' wpAnyH_take (i := 27) (oi := _) (v := _) rfl (by kernel_rfl) (by kernel_rfl) (by kernel_rfl) (fun _ _ _ h => h) (Or.inr ⟨by rfl, rfl⟩) hHeld ?rest27c3
          case' rest27c3 => try simp only [Act.put, List.setIfInBounds_toArray, List.set_cons_zero, List.set_cons_succ, List.getElem_toArray, List.getElem_cons_succ, List.getElem_cons_zero]
          refine' wpAnyH_take (i := 28) (oi := _) (v := _) rfl (by kernel_rfl) (by kernel_rfl) (by kernel_rfl) (fun _ _ _ h => h) (Or.inr ⟨by rfl, rfl⟩) hHeld ?rest28c3
          case' rest28c3 => try simp only [Act.put, List.setIfInBounds_toArray, List.set_cons_zero, List.set_cons_succ, List.getElem_toArray, List.getElem_cons_succ, List.getElem_cons_zero]
          refine' wpAnyH_take (i := 29) (oi := _) (v := _) rfl (by kernel_rfl) (by kernel_rfl) (by kernel_rfl) (fun _ _ _ h => h) (Or.inr ⟨by rfl, rfl⟩) hHeld ?rest29c3
          case' rest29c3 => try simp only [Act.put, List.setIfInBounds_toArray, List.set_cons_zero, List.set_cons_succ, List.getElem_toArray, List.getElem_cons_succ, List.getElem_cons_zero]
          refine' wpAnyH_take (i := 30) (oi := _) (v := _) rfl (by kernel_rfl) (by kernel_rfl) (by kernel_rfl) (fun _ _ _ h => h) (Or.inr ⟨by rfl, rfl⟩) hHeld ?rest30c3
          case' rest30c3 => try simp only [Act.put, List.setIfInBounds_toArray, List.set_cons_zero, List.set_cons_succ, List.getElem_toArray, List.getElem_cons_succ, List.getElem_cons_zero]
          refine' wpAnyH_take (i := 31) (oi := _) (v := _) rfl (by kernel_rfl) (by kernel_rfl) (by kernel_rfl) (fun _ _ _ h => h) (Or.inr ⟨by rfl, rfl⟩) hHeld ?rest31c3
          case' rest31c3 => try simp only [Act.put, List.setIfInBounds_toArray, List.set_cons_zero, List.set_cons_succ, List.getElem_toArray, List.getElem_cons_succ, List.getElem_cons_zero]
          refine' wpAnyH_take (i := 32) (oi := _) (v := _) rfl (by kernel_rfl) (by kernel_rfl) (by kernel_rfl) (fun _ _ _ h => h) (Or.inr ⟨by rfl, rfl⟩) hHeld ?rest32c3
          case' rest32c3 => try simp only [Act.put, List.setIfInBounds_toArray, List.set_cons_zero, List.set_cons_succ, List.getElem_toArray, List.getElem_cons_succ, List.getElem_cons_zero]
          refine' wpAnyH_take (i := 33) (oi := _) (v := _) rfl (by kernel_rfl) (by kernel_rfl) (by kernel_rfl) (fun _ _ _ h => h) (Or.inr ⟨by rfl, rfl⟩) hHeld ?rest33c3
          case' rest33c3 => try simp only [Act.put, List.setIfInBounds_toArray, List.set_cons_zero, List.set_cons_succ, List.getElem_toArray, List.getElem_cons_succ, List.getElem_cons_zero]
          refine' wpAnyH_take (i := 34) (oi := _) (v := _) rfl (by kernel_rfl) (by kernel_rfl) (by kernel_rfl) (fun _ _ _ h => h) (Or.inr ⟨by rfl, rfl⟩) hHeld ?rest34c3
          case' rest34c3 => try simp only [Act.put, List.setIfInBounds_toArray, List.set_cons_zero, List.set_cons_succ, List.getElem_toArray, List.getElem_cons_succ, List.getElem_cons_zero]
          refine' wpAnyH_take (i := 35) (oi := _) (v := _) rfl (by kernel_rfl) (by kernel_rfl) (by kernel_rfl) (fun _ _ _ h => h) (Or.inr ⟨by rfl, rfl⟩) hHeld ?rest35c3
          case' rest35c3 => try simp only [Act.put, List.setIfInBounds_toArray, List.set_cons_zero, List.set_cons_succ, List.getElem_toArray, List.getElem_cons_succ, List.getElem_cons_zero]
          refine' wpAnyH_take (i := 36) (oi := _) (v := _) rfl (by kernel_rfl) (by kernel_rfl) (by kernel_rfl) (fun _ _ _ h => h) (Or.inr ⟨by rfl, rfl⟩) hHeld ?rest36c3
          case' rest36c3 => try simp only [Act.put, List.setIfInBounds_toArray, List.set_cons_zero, List.set_cons_succ, List.getElem_toArray, List.getElem_cons_succ, List.getElem_cons_zero]
          refine' wpAnyH_take (i := 37) (oi := _) (v := _) rfl (by kernel_rfl) (by kernel_rfl) (by kernel_rfl) (fun _ _ _ h => h) (Or.inr ⟨by rfl, rfl⟩) hHeld ?rest37c3
          case' rest37c3 => try simp only [Act.put, List.setIfInBounds_toArray, List.set_cons_zero, List.set_cons_succ, List.getElem_toArray, List.getElem_cons_succ, List.getElem_cons_zero]
          refine' wpAnyH_take (i := 38) (oi := _) (v := _) rfl (by kernel_rfl) (by kernel_rfl) (by kernel_rfl) (fun _ _ _ h => h) (Or.inl ⟨by rfl, ?hy38c3⟩) hHeld ?rest38c3
          case hy38c3 => (intro w' hSw; (try dsimp only at hSw); go_simp; try with_reducible rfl)
          case' rest38c3 => try simp only [Act.put, List.setIfInBounds_toArray, List.set_cons_zero, List.set_cons_succ, List.getElem_toArray, List.getElem_cons_succ, List.getElem_cons_zero]
          refine' wpAnyH_take (i := 39) (oi := _) (v := _) rfl (by kernel_rfl) (by kernel_rfl) (by kernel_rfl) (fun _ _ _ h => h) (Or.inl ⟨by rfl, ?hy39c3⟩) hHeld ?rest39c3
          case hy39c3 => (intro w' hSw; (try dsimp only at hSw); go_simp; try with_reducible rfl)
          case' rest39c3 => try simp only [Act.put, List.setIfInBounds_toArray, List.set_cons_zero, List.set_cons_succ, List.getElem_toArray, List.getElem_cons_succ, List.getElem_cons_zero]
          refine wpAnyH_done (by kernel_rfl) ?_ _
          refine NoPanic.normal ?_
          go_wp2_with fail
          go_meet
          exact FIN.out false 0 (fun _ => ⟨hz, fun _ => ht⟩)
      · have hr2 : (room == 0) = false := by rw [beq_eq_false_iff_ne]; exact hr
        by_cases hr3 : 0 < room
        · have hr4 : decide (0 < room) = true := by simp [hr3]
          go_wp2_with fail
          refine wp_region_noPanic ?_
          refine wp_region_held_drew (S := (fun w' => w'.cell? ⟨w.heap.size, 0, none⟩ = some (.slice (some ⟨gL, 0, none⟩) ls.length cL) ∧ w'.cell? ⟨gL, ln * 4, none⟩ = some (.int .i64 room) ∧ w'.cell? ⟨gL, ln * 4 + 1, none⟩ = some (.slice Ax hx.length cx))) (by kernel_rfl) (⟨z0, q0, q1⟩) (fun hHeld => ?_)
          refine' wpAnyH_take (i := 0) (oi := _) (v := _) rfl (by kernel_rfl) (by kernel_rfl) (by kernel_rfl) (fun _ _ _ h => h) (Or.inl ⟨by rfl, ?hy0c4⟩) hHeld ?rest0c4
          case hy0c4 => (intro w' hSw; (try dsimp only at hSw); go_simp; try with_reducible rfl)
          case' rest0c4 => try simp only [Act.put, List.setIfInBounds_toArray, List.set_cons_zero, List.set_cons_succ, List.getElem_toArray, List.getElem_cons_succ, List.getElem_cons_zero]
          refine' wpAnyH_take (i := 1) (oi := _) (v := _) rfl (by kernel_rfl) (by kernel_rfl) (by kernel_rfl) (fun _ _ _ h => h) (Or.inl ⟨by rfl, ?hy1c4⟩) hHeld ?rest1c4
          case hy1c4 => (intro w' hSw; (try dsimp only at hSw); go_simp; try with_reducible rfl)
          case' rest1c4 => try simp only [Act.put, List.setIfInBounds_toArray, List.set_cons_zero, List.set_cons_succ, List.getElem_toArray, List.getElem_cons_succ, List.getElem_cons_zero]
          refine' wpAnyH_take (i := 2) (oi := _) (v := _) rfl (by kernel_rfl) (by kernel_rfl) (by kernel_rfl) (fun _ _ _ h => h) (Or.inl ⟨by rfl, ?hy2c4⟩) hHeld ?rest2c4
          case hy2c4 => (intro w' hSw; (try dsimp only at hSw); go_simp; try with_reducible rfl)
          case' rest2c4 => try simp only [Act.put, List.setIfInBounds_toArray, List.set_cons_zero, List.set_cons_succ, List.getElem_toArray, List.getElem_cons_succ, List.getElem_cons_zero]
          refine' wpAnyH_take (i := 3) (oi := _) (v := _) rfl (by kernel_rfl) (by kernel_rfl) (by kernel_rfl) (fun _ _ _ h => h) (Or.inl ⟨by rfl, ?hy3c4⟩) hHeld ?rest3c4
          case hy3c4 => (intro w' hSw; (try dsimp only at hSw); go_simp; try with_reducible rfl)
          case' rest3c4 => try simp only [Act.put, List.setIfInBounds_toArray, List.set_cons_zero, List.set_cons_succ, List.getElem_toArray, List.getElem_cons_succ, List.getElem_cons_zero]
          refine' wpAnyH_take (i := 4) (oi := _) (v := _) rfl (by kernel_rfl) (by kernel_rfl) (by kernel_rfl) (fun _ _ _ h => h) (Or.inl ⟨by rfl, ?hy4c4⟩) hHeld ?rest4c4
          case hy4c4 => (intro w' hSw; (try dsimp only at hSw); go_simp; try with_reducible rfl)
          case' rest4c4 => try simp only [Act.put, List.setIfInBounds_toArray, List.set_cons_zero, List.set_cons_succ, List.getElem_toArray, List.getElem_cons_succ, List.getElem_cons_zero]
          refine' wpAnyH_take (i := 5) (oi := _) (v := _) rfl (by kernel_rfl) (by kernel_rfl) (by kernel_rfl) (fun _ _ _ h => h) (Or.inl ⟨by rfl, ?hy5c4⟩) hHeld ?rest5c4
          case hy5c4 => (intro w' hSw; (try dsimp only at hSw); go_simp; try with_reducible rfl)
          case' rest5c4 => try simp only [Act.put, List.setIfInBounds_toArray, List.set_cons_zero, List.set_cons_succ, List.getElem_toArray, List.getElem_cons_succ, List.getElem_cons_zero]
          refine' wpAnyH_take (i := 6) (oi := _) (v := _) rfl (by kernel_rfl) (by kernel_rfl) (by kernel_rfl) (fun _ _ _ h => h) (Or.inl ⟨by rfl, ?hy6c4⟩) hHeld ?rest6c4
          case hy6c4 => (intro w' hSw; (try dsimp only at hSw); go_simp; try with_reducible rfl)
          case' rest6c4 => try simp only [Act.put, List.setIfInBounds_toArray, List.set_cons_zero, List.set_cons_succ, List.getElem_toArray, List.getElem_cons_succ, List.getElem_cons_zero]
          refine' wpAnyH_take (i := 7) (oi := _) (v := _) rfl (by kernel_rfl) (by kernel_rfl) (by kernel_rfl) (fun _ _ _ h => h) (Or.inl ⟨by rfl, ?hy7c4⟩) hHeld ?rest7c4
          case hy7c4 => (intro w' hSw; (try dsimp only at hSw); go_simp; try with_reducible rfl)
          case' rest7c4 => try simp only [Act.put, List.setIfInBounds_toArray, List.set_cons_zero, List.set_cons_succ, List.getElem_toArray, List.getElem_cons_succ, List.getElem_cons_zero]
          refine' wpAnyH_take (i := 8) (oi := _) (v := _) rfl (by kernel_rfl) (by kernel_rfl) (by kernel_rfl) (fun _ _ _ h => h) (Or.inl ⟨by rfl, ?hy8c4⟩) hHeld ?rest8c4
          case hy8c4 => (intro w' hSw; (try dsimp only at hSw); go_simp; try with_reducible rfl)
          case' rest8c4 => try simp only [Act.put, List.setIfInBounds_toArray, List.set_cons_zero, List.set_cons_succ, List.getElem_toArray, List.getElem_cons_succ, List.getElem_cons_zero]
          refine' wpAnyH_take (i := 9) (oi := _) (v := _) rfl (by kernel_rfl) (by kernel_rfl) (by kernel_rfl) (fun _ _ _ h => h) (Or.inl ⟨by rfl, ?hy9c4⟩) hHeld ?rest9c4
          case hy9c4 => (intro w' hSw; (try dsimp only at hSw); go_simp; try with_reducible rfl)
          case' rest9c4 => try simp only [Act.put, List.setIfInBounds_toArray, List.set_cons_zero, List.set_cons_succ, List.getElem_toArray, List.getElem_cons_succ, List.getElem_cons_zero]
          refine' wpAnyH_take (i := 10) (oi := _) (v := _) rfl (by kernel_rfl) (by kernel_rfl) (by kernel_rfl) (fun _ _ _ h => h) (Or.inl ⟨by rfl, ?hy10c4⟩) hHeld ?rest10c4
          case hy10c4 => (intro w' hSw; (try dsimp only at hSw); go_simp; try with_reducible rfl)
          case' rest10c4 => try simp only [Act.put, List.setIfInBounds_toArray, List.set_cons_zero, List.set_cons_succ, List.getElem_toArray, List.getElem_cons_succ, List.getElem_cons_zero]
          refine' wpAnyH_take (i := 11) (oi := _) (v := _) rfl (by kernel_rfl) (by kernel_rfl) (by kernel_rfl) (fun _ _ _ h => h) (Or.inr ⟨by rfl, rfl⟩) hHeld ?rest11c4
          case' rest11c4 => try simp only [Act.put, List.setIfInBounds_toArray, List.set_cons_zero, List.set_cons_succ, List.getElem_toArray, List.getElem_cons_succ, List.getElem_cons_zero]
          refine' wpAnyH_take (i := 12) (oi := _) (v := _) rfl (by kernel_rfl) (by kernel_rfl) (by kernel_rfl) (fun _ _ _ h => h) (Or.inr ⟨by rfl, rfl⟩) hHeld ?rest12c4
          case' rest12c4 => try simp only [Act.put, List.setIfInBounds_toArray, List.set_cons_zero, List.set_cons_succ, List.getElem_toArray, List.getElem_cons_succ, List.getElem_cons_zero]
          refine' wpAnyH_take (i := 13) (oi := _) (v := _) rfl (by kernel_rfl) (by kernel_rfl) (by kernel_rfl) (fun _ _ _ h => h) (Or.inl ⟨by rfl, ?hy13c4⟩) hHeld ?rest13c4
          case hy13c4 => (intro w' hSw; (try dsimp only at hSw); go_simp; try with_reducible rfl)
          case' rest13c4 => try simp only [Act.put, List.setIfInBounds_toArray, List.set_cons_zero, List.set_cons_succ, List.getElem_toArray, List.getElem_cons_succ, List.getElem_cons_zero]
          refine' wpAnyH_take (i := 14) (oi := _) (v := _) rfl (by kernel_rfl) (by kernel_rfl) (by kernel_rfl) (fun _ _ _ h => h) (Or.inl ⟨by rfl, ?hy14c4⟩) hHeld ?rest14c4
          case hy14c4 => (intro w' hSw; (try dsimp only at hSw); go_simp; try with_reducible rfl)
          case' rest14c4 => try simp only [Act.put, List.setIfInBounds_toArray, List.set_cons_zero, List.set_cons_succ, List.getElem_toArray, List.getElem_cons_succ, List.getElem_cons_zero]
          refine' wpAnyH_take (i := 15) (oi := _) (v := _) rfl (by kernel_rfl) (by kernel_rfl) (by kernel_rfl) (fun _ _ _ h => h) (Or.inl ⟨by rfl, ?hy15c4⟩) hHeld ?rest15c4
          case hy15c4 => (intro w' hSw; (try dsimp only at hSw); go_simp; try with_reducible rfl)
          case' rest15c4 => try simp only [Act.put, List.setIfInBounds_toArray, List.set_cons_zero, List.set_cons_succ, List.getElem_toArray, List.getElem_cons_succ, List.getElem_cons_zero]
          refine' wpAnyH_take (i := 16) (oi := _) (v := _) rfl (by kernel_rfl) (by kernel_rfl) (by kernel_rfl) (fun _ _ _ h => h) (Or.inl ⟨by rfl, ?hy16c4⟩) hHeld ?rest16c4
          case hy16c4 => (intro w' hSw; (try dsimp only at hSw); go_simp; try with_reducible rfl)
          case' rest16c4 => try simp only [Act.put, List.setIfInBounds_toArray, List.set_cons_zero, List.set_cons_succ, List.getElem_toArray, List.getElem_cons_succ, List.getElem_cons_zero]
          refine' wpAnyH_take (i := 17) (oi := _) (v := _) rfl (by kernel_rfl) (by kernel_rfl) (by kernel_rfl) (fun _ _ _ h => h) (Or.inl ⟨by rfl, ?hy17c4⟩) hHeld ?rest17c4
          case hy17c4 => (intro w' hSw; (try dsimp only at hSw); go_simp; try with_reducible rfl)
          case' rest17c4 => try simp only [Act.put, List.setIfInBounds_toArray, List.set_cons_zero, List.set_cons_succ, List.getElem_toArray, List.getElem_cons_succ, List.getElem_cons_zero]
          refine' wpAnyH_take (i := 18) (oi := _) (v := _) rfl (by kernel_rfl) (by kernel_rfl) (by kernel_rfl) (fun _ _ _ h => h) (Or.inl ⟨by rfl, ?hy18c4⟩) hHeld ?rest18c4
          case hy18c4 => (intro w' hSw; (try dsimp only at hSw); go_simp; try with_reducible rfl)
          case' rest18c4 => try simp only [Act.put, List.setIfInBounds_toArray, List.set_cons_zero, List.set_cons_succ, List.getElem_toArray, List.getElem_cons_succ, List.getElem_cons_zero]
          refine' wpAnyH_take (i := 19) (oi := _) (v := _) rfl (by kernel_rfl) (by kernel_rfl) (by kernel_rfl) (fun _ _ _ h => h) (Or.inl ⟨by rfl, ?hy19c4⟩) hHeld ?rest19c4
          case hy19c4 => (intro w' hSw; (try dsimp only at hSw); go_simp; try with_reducible rfl)
          case' rest19c4 => try simp only [Act.put, List.setIfInBounds_toArray, List.set_cons_zero, List.set_cons_succ, List.getElem_toArray, List.getElem_cons_succ, List.getElem_cons_zero]
          refine' wpAnyH_take (i := 20) (oi := _) (v := _) rfl (by kernel_rfl) (by kernel_rfl) (by kernel_rfl) (fun _ _ _ h => h) (Or.inl ⟨by rfl, ?hy20c4⟩) hHeld ?rest20c4
          case hy20c4 => (intro w' hSw; (try dsimp only at hSw); go_simp; try with_reducible rfl)
          case' rest20c4 => try simp only [Act.put, List.setIfInBounds_toArray, List.set_cons_zero, List.set_cons_succ, List.getElem_toArray, List.getElem_cons_succ, List.getElem_cons_zero]
          refine' wpAnyH_take (i := 21) (oi := _) (v := _) rfl (by kernel_rfl) (by kernel_rfl) (by kernel_rfl) (fun _ _ _ h => h) (Or.inl ⟨by rfl, ?hy21c4⟩) hHeld ?rest21c4
          case hy21c4 => (intro w' hSw; (try dsimp only at hSw); go_simp; try with_reducible rfl)
          case' rest21c4 => try simp only [Act.put, List.setIfInBounds_toArray, List.set_cons_zero, List.set_cons_succ, List.getElem_toArray, List.getElem_cons_succ, List.getElem_cons_zero]
          refine' wpAnyH_take (i := 22) (oi := _) (v := _) rfl (by kernel_rfl) (by kernel_rfl) (by kernel_rfl) (fun _ _ _ h => h) (Or.inl ⟨by rfl, ?hy22c4⟩) hHeld ?rest22c4
          case hy22c4 => (intro w' hSw; (try dsimp only at hSw); go_simp; try with_reducible rfl)
          case' rest22c4 => try simp only [Act.put, List.setIfInBounds_toArray, List.set_cons_zero, List.set_cons_succ, List.getElem_toArray, List.getElem_cons_succ, List.getElem_cons_zero]
          refine' wpAnyH_take (i := 23) (oi := _) (v := _) rfl (by kernel_rfl) (by kernel_rfl) (by kernel_rfl) (fun _ _ _ h => h) (Or.inl ⟨by rfl, ?hy23c4⟩) hHeld ?rest23c4
          case hy23c4 => (intro w' hSw; (try dsimp only at hSw); go_simp; try with_reducible rfl)
          case' rest23c4 => try simp only [Act.put, List.setIfInBounds_toArray, List.set_cons_zero, List.set_cons_succ, List.getElem_toArray, List.getElem_cons_succ, List.getElem_cons_zero]
          refine' wpAnyH_take (i := 24) (oi := _) (v := _) rfl (by kernel_rfl) (by kernel_rfl) (by kernel_rfl) (fun _ _ _ h => h) (Or.inl ⟨by rfl, ?hy24c4⟩) hHeld ?rest24c4
          case hy24c4 => (intro w' hSw; (try dsimp only at hSw); go_simp; try with_reducible rfl)
          case' rest24c4 => try simp only [Act.put, List.setIfInBounds_toArray, List.set_cons_zero, List.set_cons_succ, List.getElem_toArray, List.getElem_cons_succ, List.getElem_cons_zero]
          refine' wpAnyH_take (i := 25) (oi := _) (v := _) rfl (by kernel_rfl) (by kernel_rfl) (by kernel_rfl) (fun _ _ _ h => h) (Or.inl ⟨by rfl, ?hy25c4⟩) hHeld ?rest25c4
          case hy25c4 => (intro w' hSw; (try dsimp only at hSw); go_simp; try with_reducible rfl)
          case' rest25c4 => try simp only [Act.put, List.setIfInBounds_toArray, List.set_cons_zero, List.set_cons_succ, List.getElem_toArray, List.getElem_cons_succ, List.getElem_cons_zero]
          refine' wpAnyH_take (i := 26) (oi := _) (v := _) rfl (by kernel_rfl) (by kernel_rfl) (by kernel_rfl) (fun _ _ _ h => h) (Or.inl ⟨by rfl, ?hy26c4⟩) hHeld ?rest26c4
          case hy26c4 => (intro w' hSw; (try dsimp only at hSw); go_simp; try with_reducible rfl)
          case' rest26c4 => try simp only [Act.put, List.setIfInBounds_toArray, List.set_cons_zero, List.set_cons_succ, List.getElem_toArray, List.getElem_cons_succ, List.getElem_cons_zero]
          refine' wpAnyH_take (i := 27) (oi := _) (v := _) rfl (by kernel_rfl) (by kernel_rfl) (by kernel_rfl) (fun _ _ _ h => h) (Or.inl ⟨by rfl, ?hy27c4⟩) hHeld ?rest27c4
          case hy27c4 => (intro w' hSw; (try dsimp only at hSw); go_simp; try with_reducible rfl)
          case' rest27c4 => try simp only [Act.put, List.setIfInBounds_toArray, List.set_cons_zero, List.set_cons_succ, List.getElem_toArray, List.getElem_cons_succ, List.getElem_cons_zero]
          refine' wpAnyH_take (i := 28) (oi := _) (v := _) rfl (by kernel_rfl) (by kernel_rfl) (by kernel_rfl) (fun _ _ _ h => h) (Or.inl ⟨by rfl, ?hy28c4⟩) hHeld ?rest28c4
          case hy28c4 => (intro w' hSw; (try dsimp only at hSw); go_simp; try with_reducible rfl)
          case' rest28c4 => try simp only [Act.put, List.setIfInBounds_toArray, List.set_cons_zero, List.set_cons_succ, List.getElem_toArray, List.getElem_cons_succ, List.getElem_cons_zero]
          refine' wpAnyH_take (i := 29) (oi := _) (v := _) rfl (by kernel_rfl) (by kernel_rfl) (by kernel_rfl) (fun _ _ _ h => h) (Or.inl ⟨by rfl, ?hy29c4⟩) hHeld ?rest29c4
          case hy29c4 => (intro w' hSw; (try dsimp only at hSw); go_simp; try with_reducible rfl)
          case' rest29c4 => try simp only [Act.put, List.setIfInBounds_toArray, List.set_cons_zero, List.set_cons_succ, List.getElem_toArray, List.getElem_cons_succ, List.getElem_cons_zero]
          refine' wpAnyH_take (i := 30) (oi := _) (v := _) rfl (by kernel_rfl) (by kernel_rfl) (by kernel_rfl) (fun _ _ _ h => h) (Or.inl ⟨by rfl, ?hy30c4⟩) hHeld ?rest30c4
          case hy30c4 => (intro w' hSw; (try dsimp only at hSw); go_simp; try with_reducible rfl)
          case' rest30c4 => try simp only [Act.put, List.setIfInBounds_toArray, List.set_cons_zero, List.set_cons_succ, List.getElem_toArray, List.getElem_cons_succ, List.getElem_cons_zero]
          refine' wpAnyH_take (i := 31) (oi := _) (v := _) rfl (by kernel_rfl) (by kernel_rfl) (by kernel_rfl) (fun _ _ _ h => h) (Or.inl ⟨by rfl, ?hy31c4⟩) hHeld ?rest31c4
          case hy31c4 => (intro w' hSw; (try dsimp only at hSw); go_simp; try with_reducible rfl)
          case' rest31c4 => try simp only [Act.put, List.setIfInBounds_toArray, List.set_cons_zero, List.set_cons_succ, List.getElem_toArray, List.getElem_cons_succ, List.getElem_cons_zero]
          refine' wpAnyH_take (i := 32) (oi := _) (v := _) rfl (by kernel_rfl) (by kernel_rfl) (by kernel_rfl) (fun _ _ _ h => h) (Or.inl ⟨by rfl, ?hy32c4⟩) hHeld ?rest32c4
          case hy32c4 => (intro w' hSw; (try dsimp only at hSw); go_simp; try with_reducible rfl)
          case' rest32c4 => try simp only [Act.put, List.setIfInBounds_toArray, List.set_cons_zero, List.set_cons_succ, List.getElem_toArray, List.getElem_cons_succ, List.getElem_cons_zero]
          refine' wpAnyH_take (i := 33) (oi := _) (v := _) rfl (by kernel_rfl) (by kernel_rfl) (by kernel_rfl) (fun _ _ _ h => h) (Or.inl ⟨by rfl, ?hy33c4⟩) hHeld ?rest33c4
          case hy33c4 => (intro w' hSw; (try dsimp only at hSw); go_simp; try with_reducible rfl)
          case' rest33c4 => try simp only [Act.put, List.setIfInBounds_toArray, List.set_cons_zero, List.set_cons_succ, List.getElem_toArray, List.getElem_cons_succ, List.getElem_cons_zero]
          refine' wpAnyH_take (i := 34) (oi := _) (v := _) rfl (by kernel_rfl) (by kernel_rfl) (by kernel_rfl) (fun _ _ _ h => h) (Or.inl ⟨by rfl, ?hy34c4⟩) hHeld ?rest34c4
          case hy34c4 => (intro w' hSw; (try dsimp only at hSw); go_simp; try with_reducible rfl)
          case' rest34c4 => try simp only [Act.put, List.setIfInBounds_toArray, List.set_cons_zero, List.set_cons_succ, List.getElem_toArray, List.getElem_cons_succ, List.getElem_cons_zero]
          refine' wpAnyH_take (i := 35) (oi := _) (v := _) rfl (by kernel_rfl) (by kernel_rfl) (by kernel_rfl) (fun _ _ _ h => h) (Or.inl ⟨by rfl, ?hy35c4⟩) hHeld ?rest35c4
          case hy35c4 => (intro w' hSw; (try dsimp only at hSw); go_simp; try with_reducible rfl)
          case' rest35c4 => try simp only [Act.put, List.setIfInBounds_toArray, List.set_cons_zero, List.set_cons_succ, List.getElem_toArray, List.getElem_cons_succ, List.getElem_cons_zero]
          refine' wpAnyH_take (i := 36) (oi := _) (v := _) rfl (by kernel_rfl) (by kernel_rfl) (by kernel_rfl) (fun _ _ _ h => h) (Or.inl ⟨by rfl, ?hy36c4⟩) hHeld ?rest36c4
          case hy36c4 => (intro w' hSw; (try dsimp only at hSw); go_simp; try with_reducible rfl)
          case' rest36c4 => try simp only [Act.put, List.setIfInBounds_toArray, List.set_cons_zero, List.set_cons_succ, List.getElem_toArray, List.getElem_cons_succ, List.getElem_cons_zero]
          refine' wpAnyH_take (i := 37) (oi := _) (v := _) rfl (by kernel_rfl) (by kernel_rfl) (by kernel_rfl) (fun _ _ _ h => h) (Or.inl ⟨by rfl, ?hy37c4⟩) hHeld ?rest37c4
          case hy37c4 => (intro w' hSw; (try dsimp only at hSw); go_simp; try with_reducible rfl)
          case' rest37c4 => try simp only [Act.put, List.setIfInBounds_toArray, List.set_cons_zero, List.set_cons_succ, List.getElem_toArray, List.getElem_cons_succ, List.getElem_cons_zero]
          refine' wpAnyH_take (i := 38) (oi := _) (v := _) rfl (by kernel_rfl) (by kernel_rfl) (by kernel_rfl) (fun _ _ _ h => h) (Or.inl ⟨by rfl, ?hy38c4⟩) hHeld ?rest38c4
          case hy38c4 => (intro w' hSw; (try dsimp only at hSw); go_simp; try with_reducible rfl)
          case' rest38c4 => try simp only [Act.put, List.setIfInBounds_toArray, List.set_cons_zero, List.set_cons_succ, List.getElem_toArray, List.getElem_cons_succ, List.getElem_cons_zero]
          refine' wpAnyH_take (i := 39) (oi := _) (v := _) rfl (by kernel_rfl) (by kernel_rfl) (by kernel_rfl) (fun _ _ _ h => h) (Or.inl ⟨by rfl, ?hy39c4⟩) hHeld ?rest39c4
          case hy39c4 => (intro w' hSw; (try dsimp only at hSw); go_simp; try with_reducible rfl)
          case' rest39c4 => try simp only [Act.put, List.setIfInBounds_toArray, List.set_cons_zero, List.set_cons_succ, List.getElem_toArray, List.getElem_cons_succ, List.getElem_cons_zero]
          refine wpAnyH_done (by kernel_rfl) ?_ _
          refine NoPanic.normal ?_
          go_wp2_with fail
          go_meet
          exact FIN.out _ 0 (fun _ => ⟨hz, fun e => absurd e hr⟩)
        · have hr4 : decide (0 < room) = false := by simp [hr3]
          go_wp2_with fail
          refine wp_region_noPanic ?_
          refine wp_region_held_drew (S := (fun w' => w'.cell? ⟨w.heap.size, 0, none⟩ = some (.slice (some ⟨gL, 0, none⟩) ls.length cL) ∧ w'.cell? ⟨gL, ln * 4, none⟩ = some (.int .i64 room) ∧ w'.cell? ⟨gL, ln * 4 + 1, none⟩ = some (.slice Ax hx.length cx))) (by kernel_rfl) (⟨z0, q0, q1⟩) (fun hHeld => ?_)
          refine' wpAnyH_take (i := 0) (oi := _) (v := _) rfl (by kernel_rfl) (by kernel_rfl) (by kernel_rfl) (fun _ _ _ h => h) (Or.inl ⟨by rfl, ?hy0c5⟩) hHeld ?rest0c5
          case hy0c5 => (intro w' hSw; (try dsimp only at hSw); go_simp; try with_reducible rfl)
          case' rest0c5 => try simp only [Act.put, List.setIfInBounds_toArray, List.set_cons_zero, List.set_cons_succ, List.getElem_toArray, List.getElem_cons_succ, List.getElem_cons_zero]
          refine' wpAnyH_take (i := 1) (oi := _) (v := _) rfl (by kernel_rfl) (by kernel_rfl) (by kernel_rfl) (fun _ _ _ h => h) (Or.inl ⟨by rfl, ?hy1c5⟩) hHeld ?rest1c5
          case hy1c5 => (intro w' hSw; (try dsimp only at hSw); go_simp; try with_reducible rfl)
          case' rest1c5 => try simp only [Act.put, List.setIfInBounds_toArray, List.set_cons_zero, List.set_cons_succ, List.getElem_toArray, List.getElem_cons_succ, List.getElem_cons_zero]
          refine' wpAnyH_take (i := 2) (oi := _) (v := _) rfl (by kernel_rfl) (by kernel_rfl) (by kernel_rfl) (fun _ _ _ h => h) (Or.inl ⟨by rfl, ?hy2c5⟩) hHeld ?rest2c5
          case hy2c5 => (intro w' hSw; (try dsimp only at hSw); go_simp; try with_reducible rfl)
          case' rest2c5 => try simp only [Act.put, List.setIfInBounds_toArray, List.set_cons_zero, List.set_cons_succ, List.getElem_toArray, List.getElem_cons_succ, List.getElem_cons_zero]
          refine' wpAnyH_take (i := 3) (oi := _) (v := _) rfl (by kernel_rfl) (by kernel_rfl) (by kernel_rfl) (fun _ _ _ h => h) (Or.inl ⟨by rfl, ?hy3c5⟩) hHeld ?rest3c5
          case hy3c5 => (intro w' hSw; (try dsimp only at hSw); go_simp; try with_reducible rfl)
          case' rest3c5 => try simp only [Act.put, List.setIfInBounds_toArray, List.set_cons_zero, List.set_cons_succ, List.getElem_toArray, List.getElem_cons_succ, List.getElem_cons_zero]
          refine' wpAnyH_take (i := 4) (oi := _) (v := _) rfl (by kernel_rfl) (by kernel_rfl) (by kernel_rfl) (fun _ _ _ h => h) (Or.inl ⟨by rfl, ?hy4c5⟩) hHeld ?rest4c5
          case hy4c5 => (intro w' hSw; (try dsimp only at hSw); go_simp; try with_reducible rfl)
          case' rest4c5 => try simp only [Act.put, List.setIfInBounds_toArray, List.set_cons_zero, List.set_cons_succ, List.getElem_toArray, List.getElem_cons_succ, List.getElem_cons_zero]
          refine' wpAnyH_take (i := 5) (oi := _) (v := _) rfl (by kernel_rfl) (by kernel_rfl) (by kernel_rfl) (fun _ _ _ h => h) (Or.inl ⟨by rfl, ?hy5c5⟩) hHeld ?rest5c5
          case hy5c5 => (intro w' hSw; (try dsimp only at hSw); go_simp; try with_reducible rfl)
          case' rest5c5 => try simp only [Act.put, List.setIfInBounds_toArray, List.set_cons_zero, List.set_cons_succ, List.getElem_toArray, List.getElem_cons_succ, List.getElem_cons_zero]
          refine' wpAnyH_take (i := 6) (oi := _) (v := _) rfl (by kernel_rfl) (by kernel_rfl) (by kernel_rfl) (fun _ _ _ h => h) (Or.inl ⟨by rfl, ?hy6c5⟩) hHeld ?rest6c5
          case hy6c5 => (intro w' hSw; (try dsimp only at hSw); go_simp; try with_reducible rfl)
          case' rest6c5 => try simp only [Act.put, List.setIfInBounds_toArray, List.set_cons_zero, List.set_cons_succ, List.getElem_toArray, List.getElem_cons_succ, List.getElem_cons_zero]
          refine' wpAnyH_take (i := 7) (oi := _) (v := _) rfl (by kernel_rfl) (by kernel_rfl) (by kernel_rfl) (fun _ _ _ h => h) (Or.inl ⟨by rfl, ?hy7c5⟩) hHeld ?rest7c5
          case hy7c5 => (intro w' hSw; (try dsimp only at hSw); go_simp; try with_reducible rfl)
          case' rest7c5 => try simp only [Act.put, List.setIfInBounds_toArray, List.set_cons_zero, List.set_cons_succ, List.getElem_toArray, List.getElem_cons_succ, List.getElem_cons_zero]
          refine' wpAnyH_take (i := 8) (oi := _) (v := _) rfl (by kernel_rfl) (by kernel_rfl) (by kernel_rfl) (fun _ _ _ h => h) (Or.inl ⟨by rfl, ?hy8c5⟩) hHeld ?rest8c5
          case hy8c5 => (intro w' hSw; (try dsimp only at hSw); go_simp; try with_reducible rfl)
          case' rest8c5 => try simp only [Act.put, List.setIfInBounds_toArray, List.set_cons_zero, List.set_cons_succ, List.getElem_toArray, List.getElem_cons_succ, List.getElem_cons_zero]
          refine' wpAnyH_take (i := 9) (oi := _) (v := _) rfl (by kernel_rfl) (by kernel_rfl) (by kernel_rfl) (fun _ _ _ h => h) (Or.inl ⟨by rfl, ?hy9c5⟩) hHeld ?rest9c5
          case hy9c5 => (intro w' hSw; (try dsimp only at hSw); go_simp; try with_reducible rfl)
          case' rest9c5 => try simp only [Act.put, List.setIfInBounds_toArray, List.set_cons_zero, List.set_cons_succ, List.getElem_toArray, List.getElem_cons_succ, List.getElem_cons_zero]
          refine' wpAnyH_take (i := 10) (oi := _) (v := _) rfl (by kernel_rfl) (by kernel_rfl) (by kernel_rfl) (fun _ _ _ h => h) (Or.inl ⟨by rfl, ?hy10c5⟩) hHeld ?rest10c5
          case hy10c5 => (intro w' hSw; (try dsimp only at hSw); go_simp; try with_reducible rfl)
          case' rest10c5 => try simp only [Act.put, List.setIfInBounds_toArray, List.set_cons_zero, List.set_cons_succ, List.getElem_toArray, List.getElem_cons_succ, List.getElem_cons_zero]
          refine' wpAnyH_take (i := 11) (oi := _) (v := _) rfl (by kernel_rfl) (by kernel_rfl) (by kernel_rfl) (fun _ _ _ h => h) (Or.inr ⟨by rfl, rfl⟩) hHeld ?rest11c5
          case' rest11c5 => try simp only [Act.put, List.setIfInBounds_toArray, List.set_cons_zero, List.set_cons_succ, List.getElem_toArray, List.getElem_cons_succ, List.getElem_cons_zero]
          refine' wpAnyH_take (i := 12) (oi := _) (v := _) rfl (by kernel_rfl) (by kernel_rfl) (by kernel_rfl) (fun _ _ _ h => h) (Or.inr ⟨by rfl, rfl⟩) hHeld ?rest12c5
          case' rest12c5 => try simp only [Act.put, List.setIfInBounds_toArray, List.set_cons_zero, List.set_cons_succ, List.getElem_toArray, List.getElem_cons_succ, List.getElem_cons_zero]
          refine' wpAnyH_take (i := 13) (oi := _) (v := _) rfl (by kernel_rfl) (by kernel_rfl) (by kernel_rfl) (fun _ _ _ h => h) (Or.inl ⟨by rfl, ?hy13c5⟩) hHeld ?rest13c5
          case hy13c5 => (intro w' hSw; (try dsimp only at hSw); go_simp; try with_reducible rfl)
          case' rest13c5 => try simp only [Act.put, List.setIfInBounds_toArray, List.set_cons_zero, List.set_cons_succ, List.getElem_toArray, List.getElem_cons_succ, List.getElem_cons_zero]
          refine' wpAnyH_take (i := 14) (oi := _) (v := _) rfl (by kernel_rfl) (by kernel_rfl) (by kernel_rfl) (fun _ _ _ h => h) (Or.inl ⟨by rfl, ?hy14c5⟩) hHeld ?rest14c5
          case hy14c5 => (intro w' hSw; (try dsimp only at hSw); go_simp; try with_reducible rfl)
          case' rest14c5 => try simp only [Act.put, List.setIfInBounds_toArray, List.set_cons_zero, List.set_cons_succ, List.getElem_toArray, List.getElem_cons_succ, List.getElem_cons_zero]
          refine' wpAnyH_take (i := 15) (oi := _) (v := _) rfl (by kernel_rfl) (by kernel_rfl) (by kernel_rfl) (fun _ _ _ h => h) (Or.inl ⟨by rfl, ?hy15c5⟩) hHeld ?rest15c5
          case hy15c5 => (intro w' hSw; (try dsimp only at hSw); go_simp; try with_reducible rfl)
          case' rest15c5 => try simp only [Act.put, List.setIfInBounds_toArray, List.set_cons_zero, List.set_cons_succ, List.getElem_toArray, List.getElem_cons_succ, List.getElem_cons_zero]
          refine' wpAnyH_take (i := 16) (oi := _) (v := _) rfl (by kernel_rfl) (by kernel_rfl) (by kernel_rfl) (fun _ _ _ h => h) (Or.inl ⟨by rfl, ?hy16c5⟩) hHeld ?rest16c5
          case hy16c5 => (intro w' hSw; (try dsimp only at hSw); go_simp; try with_reducible rfl)
          case' rest16c5 => try simp only [Act.put, List.setIfInBounds_toArray, List.set_cons_zero, List.set_cons_succ, List.getElem_toArray, List.getElem_cons_succ, List.getElem_cons_zero]
          refine' wpAnyH_take (i := 17) (oi := _) (v := _) rfl (by kernel_rfl) (by kernel_rfl) (by kernel_rfl) (fun _ _ _ h => h) (Or.inl ⟨by rfl, ?hy17c5⟩) hHeld ?rest17c5
          case hy17c5 => (intro w' hSw; (try dsimp only at hSw); go_simp; try with_reducible rfl)
          case' rest17c5 => try simp only [Act.put, List.setIfInBounds_toArray, List.set_cons_zero, List.set_cons_succ, List.getElem_toArray, List.getElem_cons_succ, List.getElem_cons_zero]
          refine' wpAnyH_take (i := 18) (oi := _) (v := _) rfl (by kernel_rfl) (by kernel_rfl) (by kernel_rfl) (fun _ _ _ h => h) (Or.inl ⟨by rfl, ?hy18c5⟩) hHeld ?rest18c5
          case hy18c5 => (intro w' hSw; (try dsimp only at hSw); go_simp; try with_reducible rfl)
          case' rest18c5 => try simp only [Act.put, List.setIfInBounds_toArray, List.set_cons_zero, List.set_cons_succ, List.getElem_toArray, List.getElem_cons_succ, List.getElem_cons_zero]
          refine' wpAnyH_take (i := 19) (oi := _) (v := _) rfl (by kernel_rfl) (by kernel_rfl) (by kernel_rfl) (fun _ _ _ h => h) (Or.inl ⟨by rfl, ?hy19c5⟩) hHeld ?rest19c5
          case hy19c5 => (intro w' hSw; (try dsimp only at hSw); go_simp; try with_reducible rfl)
          case' rest19c5 => try simp only [Act.put, List.setIfInBounds_toArray, List.set_cons_zero, List.set_cons_succ, List.getElem_toArray, List.getElem_cons_succ, List.getElem_cons_zero]
          refine' wpAnyH_take (i := 20) (oi := _) (v := _) rfl (by kernel_rfl) (by kernel_rfl) (by kernel_rfl) (fun _ _ _ h => h) (Or.inl ⟨by rfl, ?hy20c5⟩) hHeld ?rest20c5
          case hy20c5 => (intro w' hSw; (try dsimp only at hSw); go_simp; try with_reducible rfl)
          case' rest20c5 => try simp only [Act.put, List.setIfInBounds_toArray, List.set_cons_zero, List.set_cons_succ, List.getElem_toArray, List.getElem_cons_succ, List.getElem_cons_zero]
          refine' wpAnyH_take (i := 21) (oi := _) (v := _) rfl (by kernel_rfl) (by kernel_rfl) (by kernel_rfl) (fun _ _ _ h => h) (Or.inl ⟨by rfl, ?hy21c5⟩) hHeld ?rest21c5
          case hy21c5 => (intro w' hSw; (try dsimp only at hSw); go_simp; try with_reducible rfl)
          case' rest21c5 => try simp only [Act.put, List.setIfInBounds_toArray, List.set_cons_zero, List.set_cons_succ, List.getElem_toArray, List.getElem_cons_succ, List.getElem_cons_zero]
          refine' wpAnyH_take (i := 22) (oi := _) (v := _) rfl (by kernel_rfl) (by kernel_rfl) (by kernel_rfl) (fun _ _ _ h => h) (Or.inl ⟨by rfl, ?hy22c5⟩) hHeld ?rest22c5
          case hy22c5 => (intro w' hSw; (try dsimp only at hSw); go_simp; try with_reducible rfl)
          case' rest22c5 => try simp only [Act.put, List.setIfInBounds_toArray, List.set_cons_zero, List.set_cons_succ, List.getElem_toArray, List.getElem_cons_succ, List.getElem_cons_zero]
          refine' wpAnyH_take (i := 23) (oi := _) (v := _) rfl (by kernel_rfl) (by kernel_rfl) (by kernel_rfl) (fun _ _ _ h => h) (Or.inl ⟨by rfl, ?hy23c5⟩) hHeld ?rest23c5
          case hy23c5 => (intro w' hSw; (try dsimp only at hSw); go_simp; try with_reducible rfl)
          case' rest23c5 => try simp only [Act.put, List.setIfInBounds_toArray, List.set_cons_zero, List.set_cons_succ, List.getElem_toArray, List.getElem_cons_succ, List.getElem_cons_zero]
          refine' wpAnyH_take (i := 24) (oi := _) (v := _) rfl (by kernel_rfl) (by kernel_rfl) (by kernel_rfl) (fun _ _ _ h => h) (Or.inr ⟨by rfl, rfl⟩) hHeld ?rest24c5
          case' rest24c5 => try simp only [Act.put, List.setIfInBounds_toArray, List.set_cons_zero, List.set_cons_succ, List.getElem_toArray, List.getElem_cons_succ, List.getElem_cons_zero]
          refine' wpAnyH_take (i := 25) (oi := _) (v := _) rfl (by kernel_rfl) (by kernel_rfl) (by kernel_rfl) (fun _ _ _ h => h) (Or.inr ⟨by rfl, rfl⟩) hHeld ?rest25c5
          case' rest25c5 => try simp only [Act.put, List.setIfInBounds_toArray, List.set_cons_zero, List.set_cons_succ, List.getElem_toArray, List.getElem_cons_succ, List.getElem_cons_zero]
          refine' wpAnyH_take (i := 26) (oi := _) (v := _) rfl (by kernel_rfl) (by kernel_rfl) (by kernel_rfl) (fun _ _ _ h => h) (Or.inr ⟨by rfl, rfl⟩) hHeld ?rest26c5
          case' rest26c5 => try simp only [Act.put, List.setIfInBounds_toArray, List.set_cons_zero, List.set_cons_succ, List.getElem_toArray, List.getElem_cons_succ, List.getElem_cons_zero]
          refine' wpAnyH_take (i := 27) (oi := _) (v := _) rfl (by kernel_rfl) (by kernel_rfl) (by kernel_rfl) (fun _ _ _ h => h) (Or.inr ⟨by rfl, rfl⟩) hHeld ?rest27c5
          case' rest27c5 => try simp only [Act.put, List.setIfInBounds_toArray, List.set_cons_zero, List.set_cons_succ, List.getElem_toArray, List.getElem_cons_succ, List.getElem_cons_zero]
          refine' wpAnyH_take (i := 28) (oi := _) (v := _) rfl (by kernel_rfl) (by kernel_rfl) (by kernel_rfl) (fun _ _ _ h => h) (Or.inr ⟨by rfl, rfl⟩) hHeld ?rest28c5
          case' rest28c5 => try simp only [Act.put, List.setIfInBounds_toArray, List.set_cons_zero, List.set_cons_succ, List.getElem_toArray, List.getElem_cons_succ, List.getElem_cons_zero]
          refine' wpAnyH_take (i := 29) (oi := _) (v := _) rfl (by kernel_rfl) (by kernel_rfl) (by kernel_rfl) (fun _ _ _ h => h) (Or.inr ⟨by rfl, rfl⟩) hHeld ?rest29c5
          case' rest29c5 => try simp only [Act.put, List.setIfInBounds_toArray, List.set_cons_zero, List.set_cons_succ, List.getElem_toArray, List.getElem_cons_succ, List.getElem_cons_zero]
          refine' wpAnyH_take (i := 30) (oi := _) (v := _) rfl (by kernel_rfl) (by kernel_rfl) (by kernel_rfl) (fun _ _ _ h => h) (Or.inr ⟨by rfl, rfl⟩) hHeld ?rest30c5
          case' rest30c5 => try simp only [Act.put, List.setIfInBounds_toArray, List.set_cons_zero, List.set_cons_succ, List.getElem_toArray, List.getElem_cons_succ, List.getElem_cons_zero]
          refine' wpAnyH_take (i := 31) (oi := _) (v := _) rfl (by kernel_rfl) (by kernel_rfl) (by kernel_rfl) (fun _ _ _ h => h) (Or.inr ⟨by rfl, rfl⟩) hHeld ?rest31c5
          case' rest31c5 => try simp only [Act.put, List.setIfInBounds_toArray, List.set_cons_zero, List.set_cons_succ, List.getElem_toArray, List.getElem_cons_succ, List.getElem_cons_zero]
          refine' wpAnyH_take (i := 32) (oi := _) (v := _) rfl (by kernel_rfl) (by kernel_rfl) (by kernel_rfl) (fun _ _ _ h => h) (Or.inr ⟨by rfl, rfl⟩) hHeld ?rest32c5
          case' rest32c5 => try simp only [Act.put, List.setIfInBounds_toArray, List.set_cons_zero, List.set_cons_succ, List.getElem_toArray, List.getElem_cons_succ, List.getElem_cons_zero]
          refine' wpAnyH_take (i := 33) (oi := _) (v := _) rfl (by kernel_rfl) (by kernel_rfl) (by kernel_rfl) (fun _ _ _ h => h) (Or.inr ⟨by rfl, rfl⟩) hHeld ?rest33c5
          case' rest33c5 => try simp only [Act.put, List.setIfInBounds_toArray, List.set_cons_zero, List.set_cons_succ, List.getElem_toArray, List.getElem_cons_succ, List.getElem_cons_zero]
          refine' wpAnyH_take (i := 34) (oi := _) (v := _) rfl (by kernel_rfl) (by kernel_rfl) (by kernel_rfl) (fun _ _ _ h => h) (Or.inr ⟨by rfl, rfl⟩) hHeld ?rest34c5
          case' rest34c5 => try simp only [Act.put, List.setIfInBounds_toArray, List.set_cons_zero, List.set_cons_succ, List.getElem_toArray, List.getElem_cons_succ, List.getElem_cons_zero]
          refine' wpAnyH_take (i := 35) (oi := _) (v := _) rfl (by kernel_rfl) (by kernel_rfl) (by kernel_rfl) (fun _ _ _ h => h) (Or.inr ⟨by rfl, rfl⟩) hHeld ?rest35c5
          case' rest35c5 => try simp only [Act.put, List.setIfInBounds_toArray, List.set_cons_zero, List.set_cons_succ, List.getElem_toArray, List.getElem_cons_succ, List.getElem_cons_zero]
          refine' wpAnyH_take (i := 36) (oi := _) (v := _) rfl (by kernel_rfl) (by kernel_rfl) (by kernel_rfl) (fun _ _ _ h => h) (Or.inr ⟨by rfl, rfl⟩) hHeld ?rest36c5
          case' rest36c5 => try simp only [Act.put, List.setIfInBounds_toArray, List.set_cons_zero, List.set_cons_succ, List.getElem_toArray, List.getElem_cons_succ, List.getElem_cons_zero]
          refine' wpAnyH_take (i := 37) (oi := _) (v := _) rfl (by kernel_rfl) (by kernel_rfl) (by kernel_rfl) (fun _ _ _ h => h) (Or.inr ⟨by rfl, rfl⟩) hHeld ?rest37c5
          case' rest37c5 => try simp only [Act.put, List.setIfInBounds_toArray, List.set_cons_zero, List.set_cons_succ, List.getElem_toArray, List.getElem_cons_succ, List.getElem_cons_zero]
          refine' wpAnyH_take (i := 38) (oi := _) (v := _) rfl (by kernel_rfl) (by kernel_rfl) (by kernel_rfl) (fun _ _ _ h => h) (Or.inl ⟨by rfl, ?hy38c5⟩) hHeld ?rest38c5
          case hy38c5 => (intro w' hSw; (try dsimp only at hSw); go_simp; try with_reducible rfl)
          case' rest38c5 => try simp only [Act.put, List.setIfInBounds_toArray, List.set_cons_zero, List.set_cons_succ, List.getElem_toArray, List.getElem_cons_succ, List.getElem_cons_zero]
          refine' wpAnyH_take (i := 39) (oi := _) (v := _) rfl (by kernel_rfl) (by kernel_rfl) (by kernel_rfl) (fun _ _ _ h => h) (Or.inl ⟨by rfl, ?hy39c5⟩) hHeld ?rest39c5
          case hy39c5 => (intro w' hSw; (try dsimp only at hSw); go_simp; try with_reducible rfl)
          case' rest39c5 => try simp only [Act.put, List.setIfInBounds_toArray, List.set_cons_zero, List.set_cons_succ, List.getElem_toArray, List.getElem_cons_succ, List.getElem_cons_zero]
          refine wpAnyH_done (by kernel_rfl) ?_ _
          refine NoPanic.normal ?_
          go_wp2_with fail
          go_meet
          exact FIN.out false 0 (fun _ => ⟨hz, fun e => absurd e hr⟩)
  case rest =>
  clear kB kR B3 B4 B5
  obtain ⟨b, rfl, hbb, B5, kB, kR⟩ := hcut
  have BZb := B5.mono hbw
  have XZ : Boxes w wc := Boxes.below B5
  cases b
  case true =>
    clear hbb
    have z0 := kB.cell 0
    have z1 := kB.cell 1
    have z2 := kB.cell 2
    have z3 := kB.cell 3
    have v0 := kR.cell 0
    have v1 := kR.cell 1
    have v2 := kR.cell 2
    have v3 := kR.cell 3
    simp at z0 z1 z2 z3 v0 v1 v2 v3
    have y0 := kR.frozen 0
    have y1 := kR.frozen 1
    have y2 := kR.frozen 2
    have y3 := kR.frozen 3
    go_wp2_with fail
    obtain ⟨f1, f2, f3, f4⟩ := (HH.out.keep B5).res kR (by omega) BZb XZ (by omega) (.slice (some ⟨gL, 0, none⟩) ls.length cL) (.slice (some ⟨gO, 0, none⟩) os.length cO) (.slice (some ⟨gV, 0, none⟩) vs.length cV) (.slice (some ⟨gP, 0, none⟩) ps.length cP)
    clear z0 z1 z2 z3 v0 v1 v2 v3 y0 y1 y2 y3
    generalize ((((wc.setCell ⟨w.heap.size + 1, 0, none⟩ (.slice (some ⟨gL, 0, none⟩) ls.length cL)).setCell ⟨w.heap.size + 1, 1, none⟩ (.slice (some ⟨gO, 0, none⟩) os.length cO)).setCell ⟨w.heap.size + 1, 2, none⟩ (.slice (some ⟨gV, 0, none⟩) vs.length cV)).setCell ⟨w.heap.size + 1, 3, none⟩ (.slice (some ⟨gP, 0, none⟩) ps.length cP)) = W7 at f1 f2 f3 f4 ⊢
    have r0 := f4.cell 0
    have r1 := f4.cell 1
    have r2 := f4.cell 2
    have r3 := f4.cell 3
    simp at r0 r1 r2 r3
    exact bodyPost_ret (v := .tuple #[.agg #[.slice (some ⟨gL, 0, none⟩) ls.length cL, .slice (some ⟨gO, 0, none⟩) os.length cO, .slice (some ⟨gV, 0, none⟩) vs.length cV, .slice (some ⟨gP, 0, none⟩) ps.length cP], .bool false]) (by simp [results, Tryd.results66, go_sem, r0, r1, r2, r3]) rfl ⟨false, ls, vs, ps, rfl, rfl, rfl, rfl, f1, Hok.out, (by simp), f2, f3⟩
  case false =>
    obtain ⟨hz, htk⟩ := hbb rfl
    have HTK := Lib.hid htk
    clear hbb htk
    have hg2 : ¬ (2000 : Int) < word := by omega
    have hbd := HH.out.keep B5
    obtain ⟨xs, hx6⟩ := hbd.each vs[ln] (List.getElem_mem hlv)
    obtain ⟨Av, cv, hvl⟩ := own_form hx6
    have hn5 : lenV vs[ln] ≤ 500 := by have := Hok.out.ov _ (List.getElem_mem hlv); omega
    obtain ⟨n, hn⟩ : ∃ n, lenV vs[ln] = n := ⟨_, rfl⟩
    rw [hn] at hx6 hvl hn5
    rw [hvl] at hx6
    have z2 := kB.cell 2
    simp at z2
    have g0 : wc.cell? ⟨gV, ln, none⟩ = some (.slice Av n cv) := by
      have := hbd.ovr.cells (g := gV) rfl ln _ (List.getElem?_eq_getElem hlv)
      rw [add0, hvl] at this
      exact this
    have neB : (Value.slice Av n cv).ownBlock ≠ some w.heap.size := own_blk_ne hx6 kB (by decide)
    have neR : (Value.slice Av n cv).ownBlock ≠ some (w.heap.size + 1) := own_blk_ne hx6 kR (by decide)
    have HX := Lib.hid (And.intro hx6 (And.intro neB (And.intro neR (And.intro hvl hn))))
    clear hx6 neB neR hvl hn hbd
    go_upto_region 6 with fail
    go_wp2_with fail
    refine wp_region_noPanic ?_
    refine wp_region_late (C := (fun w' => w'.cell? ⟨w.heap.size, 2, none⟩ = some (.slice (some ⟨gV, 0, none⟩) vs.length cV) ∧ w'.cell? ⟨gV, ln, none⟩ = some (.slice Av n cv))) (t := 12) (by kernel_rfl) (⟨z2, g0⟩) (fun hHeld => ?_)
    refine' Late.take (i := 0) (oi := _) (v := _) rfl (by kernel_rfl) (by kernel_rfl) (by kernel_rfl) (by kernel_rfl) (fun _ _ _ h => h) (Or.inl ⟨by rfl, ?hy0r6⟩) hHeld ?rest0r6
    case hy0r6 => (intro w' hSw; (try dsimp only at hSw); go_simp; try with_reducible rfl)
    case' rest0r6 => try simp only [Act.put, List.setIfInBounds_toArray, List.set_cons_zero, List.set_cons_succ, List.getElem_toArray, List.getElem_cons_succ, List.getElem_cons_zero]
    refine' Late.take (i := 1) (oi := _) (v := _) rfl (by kernel_rfl) (by kernel_rfl) (by kernel_rfl) (by kernel_rfl) (fun _ _ _ h => h) (Or.inl ⟨by rfl, ?hy1r6⟩) hHeld ?rest1r6
    case hy1r6 => (intro w' hSw; (try dsimp only at hSw); go_simp; try with_reducible rfl)
    case' rest1r6 => try simp only [Act.put, List.setIfInBounds_toArray, List.set_cons_zero, List.set_cons_succ, List.getElem_toArray, List.getElem_cons_succ, List.getElem_cons_zero]
    refine' Late.take (i := 2) (oi := _) (v := _) rfl (by kernel_rfl) (by kernel_rfl) (by kernel_rfl) (by kernel_rfl) (fun _ _ _ h => h) (Or.inl ⟨by rfl, ?hy2r6⟩) hHeld ?rest2r6
    case hy2r6 => (intro w' hSw; (try dsimp only at hSw); go_simp; try with_reducible rfl)
    case' rest2r6 => try simp only [Act.put, List.setIfInBounds_toArray, List.set_cons_zero, List.set_cons_succ, List.getElem_toArray, List.getElem_cons_succ, List.getElem_cons_zero]
    refine' Late.take (i := 3) (oi := _) (v := _) rfl (by kernel_rfl) (by kernel_rfl) (by kernel_rfl) (by kernel_rfl) (fun _ _ _ h => h) (Or.inl ⟨by rfl, ?hy3r6⟩) hHeld ?rest3r6
    case hy3r6 => (intro w' hSw; (try dsimp only at hSw); go_simp; try with_reducible rfl)
    case' rest3r6 => try simp only [Act.put, List.setIfInBounds_toArray, List.set_cons_zero, List.set_cons_succ, List.getElem_toArray, List.getElem_cons_succ, List.getElem_cons_zero]
    refine' Late.take (i := 4) (oi := _) (v := _) rfl (by kernel_rfl) (by kernel_rfl) (by kernel_rfl) (by kernel_rfl) (fun _ _ _ h => h) (Or.inl ⟨by rfl, ?hy4r6⟩) hHeld ?rest4r6
    case hy4r6 => (intro w' hSw; (try dsimp only at hSw); go_simp; try with_reducible rfl)
    case' rest4r6 => try simp only [Act.put, List.setIfInBounds_toArray, List.set_cons_zero, List.set_cons_succ, List.getElem_toArray, List.getElem_cons_succ, List.getElem_cons_zero]
    refine' Late.take (i := 5) (oi := _) (v := _) rfl (by kernel_rfl) (by kernel_rfl) (by kernel_rfl) (by kernel_rfl) (fun _ _ _ h => h) (Or.inl ⟨by rfl, ?hy5r6⟩) hHeld ?rest5r6
    case hy5r6 => (intro w' hSw; (try dsimp only at hSw); go_simp; try with_reducible rfl)
    case' rest5r6 => try simp only [Act.put, List.setIfInBounds_toArray, List.set_cons_zero, List.set_cons_succ, List.getElem_toArray, List.getElem_cons_succ, List.getElem_cons_zero]
    refine' Late.take (i := 6) (oi := _) (v := _) rfl (by kernel_rfl) (by kernel_rfl) (by kernel_rfl) (by kernel_rfl) (fun _ _ _ h => h) (Or.inl ⟨by rfl, ?hy6r6⟩) hHeld ?rest6r6
    case hy6r6 => (intro w' hSw; (try dsimp only at hSw); go_simp; try with_reducible rfl)
    case' rest6r6 => try simp only [Act.put, List.setIfInBounds_toArray, List.set_cons_zero, List.set_cons_succ, List.getElem_toArray, List.getElem_cons_succ, List.getElem_cons_zero]
    refine' Late.take (i := 7) (oi := _) (v := _) rfl (by kernel_rfl) (by kernel_rfl) (by kernel_rfl) (by kernel_rfl) (fun _ _ _ h => h) (Or.inl ⟨by rfl, ?hy7r6⟩) hHeld ?rest7r6
    case hy7r6 => (intro w' hSw; (try dsimp only at hSw); go_simp; try with_reducible rfl)
    case' rest7r6 => try simp only [Act.put, List.setIfInBounds_toArray, List.set_cons_zero, List.set_cons_succ, List.getElem_toArray, List.getElem_cons_succ, List.getElem_cons_zero]
    refine' Late.take (i := 8) (oi := _) (v := _) rfl (by kernel_rfl) (by kernel_rfl) (by kernel_rfl) (by kernel_rfl) (fun _ _ _ h => h) (Or.inl ⟨by rfl, ?hy8r6⟩) hHeld ?rest8r6
    case hy8r6 => (intro w' hSw; (try dsimp only at hSw); go_simp; try with_reducible rfl)
    case' rest8r6 => try simp only [Act.put, List.setIfInBounds_toArray, List.set_cons_zero, List.set_cons_succ, List.getElem_toArray, List.getElem_cons_succ, List.getElem_cons_zero]
    refine Late.ready (rs := [9]) (by kernel_rfl) (by simp) ?_
    refine LateAll.cons (o := _) rfl (fun K hK => ?_) LateAll.nil
    go_simp
    have BA : Below wc.heap.size wc (wc.drew.alloc (.cells #[.int .i64 word] 3)) := ((Below.refl wc.heap.size wc).drew).alloc (Nat.le_refl _) _
    try go_wp2_with fail
    refine hK.out _ _ (⟨keepC BA z2, keepC BA g0⟩) (fun hHeld => ?_)
    clear hK K
    try simp only [Act.put, List.setIfInBounds_toArray, List.set_cons_zero, List.set_cons_succ, List.getElem_toArray, List.getElem_cons_succ, List.getElem_cons_zero]
    refine Late.ready (rs := [10]) (by kernel_rfl) (by simp) ?_
    refine LateAll.cons (o := _) rfl (fun K hK => ?_) LateAll.nil
    refine step_append_any rfl _ _ 22 rfl base 3 i0 (.int .i64 0) 1 8 Tryd.underlying22 HI.out.1 HI.out.2.1 HI.out.2.2.1 HI.out.2.2.2 rfl (by decide) (.slice Av n cv) n xs (by simp [Act.eval, Act.put]) (World.ownsRow.alloc (show World.ownsRow wc.drew _ _ _ _ _ _ from HX.out.1) _) _ (some ⟨wc.heap.size, 0, none⟩) 1 1 [.int .i64 word] (by simp [Act.eval, Act.put]) (Blk.reads (Blk.new wc.drew _ _) rfl) (ints_oneCell .i64 [word]) (by unfold maxLen; omega) (by omega) (by have := BZb.size; have := B5.size; show base ≤ (wc.alloc _).heap.size; simp; omega) ?_
    intro v' w4 hown' hgrow hloc
    have b4 : BD (wc.drew.alloc (.cells #[.int .i64 word] 3)) base gL gO gV gP cL cO cV cP ls os vs ps := HH.out.keep (B5.trans (BA.mono B5.size))
    have hxA : (wc.drew.alloc (.cells #[.int .i64 word] 3)).ownsRow base 3 1 (.slice Av n cv) n xs := World.ownsRow.alloc (show World.ownsRow wc.drew _ _ _ _ _ _ from HX.out.1) _
    have kB4 := (kB.below BA kB.lt).grown hgrow (fun e => HX.out.2.1 e.symm)
    have kR4 := (kR.below BA kR.lt).grown hgrow (fun e => HX.out.2.2.1 e.symm)
    have g4 := own_mark b4.ovr hgrow (fun k e1 e2 => apart_ty b4.ovr hxA (by decide) k e1 e2)
    obtain ⟨A2, c2, rfl⟩ := own_form hown'
    have z2b : w4.cell? ⟨w.heap.size, 2, none⟩ = some (.slice (some ⟨gV, 0, none⟩) vs.length cV) := kB4.cell 2
    have g0b : w4.cell? ⟨gV, ln, none⟩ = some (.slice Av n cv) := by have := g4.cells (g := gV) rfl ln _ (List.getElem?_eq_getElem hlv); rw [add0, HX.out.2.2.2.1] at this; exact this
    have fz : w4.frozen? ⟨gV, ln, none⟩ = false := g4.frozenAt _
    refine hK.out _ _ (⟨z2b, g0b⟩) (fun hHeld => ?_)
    clear hK K
    try simp only [Act.put, List.setIfInBounds_toArray, List.set_cons_zero, List.set_cons_succ, List.getElem_toArray, List.getElem_cons_succ, List.getElem_cons_zero]
    refine Late.ready (rs := [11]) (by kernel_rfl) (by simp) ?_
    refine LateAll.cons (o := _) rfl (fun K hK => ?_) LateAll.nil
    go_simp
    try go_wp2_with fail
    refine hK.out _ _ (hHeld) (fun hHeld => ?_)
    clear hK K
    try simp only [Act.put, List.setIfInBounds_toArray, List.set_cons_zero, List.set_cons_succ, List.getElem_toArray, List.getElem_cons_succ, List.getElem_cons_zero]
    refine Late.ready (rs := [12]) (by kernel_rfl) (by simp) ?_
    refine LateAll.last (o := _) rfl (fun K hK => ?_)
    go_simp
    try go_wp2_with fail
    refine hK.out _ _ ?_
    clear hK K
    try simp only [Act.put, List.setIfInBounds_toArray, List.set_cons_zero, List.set_cons_succ, List.getElem_toArray, List.getElem_cons_succ, List.getElem_cons_zero]
    refine Late.done (by kernel_rfl) ?_ _
    refine NoPanic.normal ?_
    have B4 : Below w.heap.size w (wc.drew.alloc (.cells #[.int .i64 word] 3)) := B5.trans (BA.mono B5.size)
    have P4 : Below base w w4 := (B4.mono hbw).grown hgrow (by have := B4.size; omega) (fun k hk => (HX.out.1.lt k hk).1)
    have X4 : Boxes w w4 := fun b cs hb => (hb.below B4 hb.lt).grown hgrow (fun e => own_blk_ne hxA (hb.below B4 hb.lt) (by decide) e.symm)
    have b5 := b4.over hlv HX.out.2.2.2.1 hgrow (v' := .slice A2 (n + 1) c2) hown' hloc (Nat.le_refl _) rfl
    have P5 := P4.setCell (p := ⟨gV, ln, none⟩) (g4.lt gV rfl).1 (.slice A2 (n + 1) c2)
    have X5 : Boxes w (w4.setCell ⟨gV, ln, none⟩ (.slice A2 (n + 1) c2)) := fun b cs hb => (X4 b cs hb).beside g4 (by decide) _
    have kB5 := kB4.beside (k := ln) g4 (by decide) (.slice A2 (n + 1) c2)
    have kR5 := kR4.beside (k := ln) g4 (by decide) (.slice A2 (n + 1) c2)
    clear b4 P4 X4 B4 BA kB4 kR4 g4 hown' hloc hgrow z2 g0 z2b g0b fz hHeld hxA kB kR XZ BZb B5
    generalize w4.setCell ⟨gV, ln, none⟩ (.slice A2 (n + 1) c2) = w6 at b5 P5 X5 kB5 kR5 ⊢
    have hatp : ps[p].at_ < ps[p].plan.2.1.length := by rw [HQ.out]; exact hat
    have HP := Lib.hid (Hok.out.put hlv hp hatp (.slice A2 (n + 1) c2) (by rw [lenV_slice, HX.out.2.2.2.2]))
    have Hatp := Lib.hid hatp
    have p1 := (b5.party hp).2.1
    rw [HQ.out] at p1
    dsimp only at p1
    have z3 := kB5.cell 3
    simp at z3
    have pf : w6.frozen? ⟨gP, p * 6 + 1, none⟩ = false := b5.pts.frozenAt _
    clear hatp
    go_upto_region 9 with fail
    go_wp2_with fail
    refine wp_region_noPanic ?_
    refine wp_region_late (C := (fun w' => w'.cell? ⟨w.heap.size, 3, none⟩ = some (.slice (some ⟨gP, 0, none⟩) ps.length cP) ∧ w'.cell? ⟨gP, p * 6 + 1, none⟩ = some (.int .i64 at_))) (t := 12) (by kernel_rfl) (⟨z3, p1⟩) (fun hHeld => ?_)
    refine' Late.take (i := 0) (oi := _) (v := _) rfl (by kernel_rfl) (by kernel_rfl) (by kernel_rfl) (by kernel_rfl) (fun _ _ _ h => h) (Or.inl ⟨by rfl, ?hy0r9⟩) hHeld ?rest0r9
    case hy0r9 => (intro w' hSw; (try dsimp only at hSw); go_simp; try with_reducible rfl)
    case' rest0r9 => try simp only [Act.put, List.setIfInBounds_toArray, List.set_cons_zero, List.set_cons_succ, List.getElem_toArray, List.getElem_cons_succ, List.getElem_cons_zero]
    refine' Late.take (i := 1) (oi := _) (v := _) rfl (by kernel_rfl) (by kernel_rfl) (by kernel_rfl) (by kernel_rfl) (fun _ _ _ h => h) (Or.inl ⟨by rfl, ?hy1r9⟩) hHeld ?rest1r9
    case hy1r9 => (intro w' hSw; (try dsimp only at hSw); go_simp; try with_reducible rfl)
    case' rest1r9 => try simp only [Act.put, List.setIfInBounds_toArray, List.set_cons_zero, List.set_cons_succ, List.getElem_toArray, List.getElem_cons_succ, List.getElem_cons_zero]
    refine' Late.take (i := 2) (oi := _) (v := _) rfl (by kernel_rfl) (by kernel_rfl) (by kernel_rfl) (by kernel_rfl) (fun _ _ _ h => h) (Or.inl ⟨by rfl, ?hy2r9⟩) hHeld ?rest2r9
    case hy2r9 => (intro w' hSw; (try dsimp only at hSw); go_simp; try with_reducible rfl)
    case' rest2r9 => try simp only [Act.put, List.setIfInBounds_toArray, List.set_cons_zero, List.set_cons_succ, List.getElem_toArray, List.getElem_cons_succ, List.getElem_cons_zero]
    refine' Late.take (i := 3) (oi := _) (v := _) rfl (by kernel_rfl) (by kernel_rfl) (by kernel_rfl) (by kernel_rfl) (fun _ _ _ h => h) (Or.inl ⟨by rfl, ?hy3r9⟩) hHeld ?rest3r9
    case hy3r9 => (intro w' hSw; (try dsimp only at hSw); go_simp; try with_reducible rfl)
    case' rest3r9 => try simp only [Act.put, List.setIfInBounds_toArray, List.set_cons_zero, List.set_cons_succ, List.getElem_toArray, List.getElem_cons_succ, List.getElem_cons_zero]
    refine' Late.take (i := 4) (oi := _) (v := _) rfl (by kernel_rfl) (by kernel_rfl) (by kernel_rfl) (by kernel_rfl) (fun _ _ _ h => h) (Or.inl ⟨by rfl, ?hy4r9⟩) hHeld ?rest4r9
    case hy4r9 => (intro w' hSw; (try dsimp only at hSw); go_simp; try with_reducible rfl)
    case' rest4r9 => try simp only [Act.put, List.setIfInBounds_toArray, List.set_cons_zero, List.set_cons_succ, List.getElem_toArray, List.getElem_cons_succ, List.getElem_cons_zero]
    refine' Late.take (i := 5) (oi := _) (v := _) rfl (by kernel_rfl) (by kernel_rfl) (by kernel_rfl) (by kernel_rfl) (fun _ _ _ h => h) (Or.inl ⟨by rfl, ?hy5r9⟩) hHeld ?rest5r9
    case hy5r9 => (intro w' hSw; (try dsimp only at hSw); go_simp; try with_reducible rfl)
    case' rest5r9 => try simp only [Act.put, List.setIfInBounds_toArray, List.set_cons_zero, List.set_cons_succ, List.getElem_toArray, List.getElem_cons_succ, List.getElem_cons_zero]
    refine' Late.take (i := 6) (oi := _) (v := _) rfl (by kernel_rfl) (by kernel_rfl) (by kernel_rfl) (by kernel_rfl) (fun _ _ _ h => h) (Or.inl ⟨by rfl, ?hy6r9⟩) hHeld ?rest6r9
    case hy6r9 => (intro w' hSw; (try dsimp only at hSw); go_simp; try with_reducible rfl)
    case' rest6r9 => try simp only [Act.put, List.setIfInBounds_toArray, List.set_cons_zero, List.set_cons_succ, List.getElem_toArray, List.getElem_cons_succ, List.getElem_cons_zero]
    refine' Late.take (i := 7) (oi := _) (v := _) rfl (by kernel_rfl) (by kernel_rfl) (by kernel_rfl) (by kernel_rfl) (fun _ _ _ h => h) (Or.inl ⟨by rfl, ?hy7r9⟩) hHeld ?rest7r9
    case hy7r9 => (intro w' hSw; (try dsimp only at hSw); go_simp; try with_reducible rfl)
    case' rest7r9 => try simp only [Act.put, List.setIfInBounds_toArray, List.set_cons_zero, List.set_cons_succ, List.getElem_toArray, List.getElem_cons_succ, List.getElem_cons_zero]
    refine' Late.take (i := 8) (oi := _) (v := _) rfl (by kernel_rfl) (by kernel_rfl) (by kernel_rfl) (by kernel_rfl) (fun _ _ _ h => h) (Or.inl ⟨by rfl, ?hy8r9⟩) hHeld ?rest8r9
    case hy8r9 => (intro w' hSw; (try dsimp only at hSw); go_simp; try with_reducible rfl)
    case' rest8r9 => try simp only [Act.put, List.setIfInBounds_toArray, List.set_cons_zero, List.set_cons_succ, List.getElem_toArray, List.getElem_cons_succ, List.getElem_cons_zero]
    refine' Late.take (i := 9) (oi := _) (v := _) rfl (by kernel_rfl) (by kernel_rfl) (by kernel_rfl) (by kernel_rfl) (fun _ _ _ h => h) (Or.inl ⟨by rfl, ?hy9r9⟩) hHeld ?rest9r9
    case hy9r9 => (intro w' hSw; (try dsimp only at hSw); go_simp; try with_reducible rfl)
    case' rest9r9 => try simp only [Act.put, List.setIfInBounds_toArray, List.set_cons_zero, List.set_cons_succ, List.getElem_toArray, List.getElem_cons_succ, List.getElem_cons_zero]
    refine Late.ready (rs := [10]) (by kernel_rfl) (by simp) ?_
    refine LateAll.cons (o := _) rfl (fun K hK => ?_) LateAll.nil
    go_simp
    try go_wp2_with fail
    refine hK.out _ _ (hHeld) (fun hHeld => ?_)
    clear hK K
    try simp only [Act.put, List.setIfInBounds_toArray, List.set_cons_zero, List.set_cons_succ, List.getElem_toArray, List.getElem_cons_succ, List.getElem_cons_zero]
    refine Late.ready (rs := [11]) (by kernel_rfl) (by simp) ?_
    refine LateAll.cons (o := _) rfl (fun K hK => ?_) LateAll.nil
    go_simp
    try go_wp2_with fail
    refine hK.out _ _ (hHeld) (fun hHeld => ?_)
    clear hK K
    try simp only [Act.put, List.setIfInBounds_toArray, List.set_cons_zero, List.set_cons_succ, List.getElem_toArray, List.getElem_cons_succ, List.getElem_cons_zero]
    refine Late.ready (rs := [12]) (by kernel_rfl) (by simp) ?_
    refine LateAll.last (o := _) rfl (fun K hK => ?_)
    go_simp
    try go_wp2_with fail
    refine hK.out _ _ ?_
    clear hK K
    try simp only [Act.put, List.setIfInBounds_toArray, List.set_cons_zero, List.set_cons_succ, List.getElem_toArray, List.getElem_cons_succ, List.getElem_cons_zero]
    refine Late.done (by kernel_rfl) ?_ _
    refine NoPanic.normal ?_
    have b6 := b5.atP hp HQ.out
    obtain ⟨P6, X6, K6⟩ := b5.sideP P5 X5 (p * 6 + 1) (.int .i64 ((at_ : Int) + 1))
    have b7 := b6.keep (w' := (w6.setCell ⟨gP, p * 6 + 1, none⟩ (.int .i64 ((at_ : Int) + 1))).drew) (Below.refl _ _).drew
    have P7 := P6.drew
    have X7 : Boxes w (w6.setCell ⟨gP, p * 6 + 1, none⟩ (.int .i64 ((at_ : Int) + 1))).drew := fun b cs hb => (X6 b cs hb).drew
    have kB7 := (K6 _ _ kB5).drew
    have kR7 := (K6 _ _ kR5).drew
    rw [IntWalk.i64_in ((at_ : Int) + 1) (by omega)]
    clear K6 X6 P6 b6 b5 P5 X5 kB5 kR5 hHeld z3 p1 pf
    generalize (w6.setCell ⟨gP, p * 6 + 1, none⟩ (.int .i64 ((at_ : Int) + 1))).drew = w7 at b7 P7 X7 kB7 kR7 ⊢
    obtain ⟨q0, q1, q2, q3⟩ := b7.line hl2
    rw [HL.out] at q0 q1
    simp only [rowV] at q0 q1
    clear q2 q3
    obtain ⟨okP, muP5, slk⟩ := HP.out
    rw [HQ.out] at okP muP5 slk
    obtain ⟨vs', hvs'⟩ : ∃ vs', vs.set ln (.slice A2 (n + 1) c2) = vs' := ⟨_, rfl⟩
    obtain ⟨ps', hps'⟩ : ∃ ps', ps.set p (nextP ⟨(Ap, lp, cp), at_, (Ah, hl, ch), fin, last, ear⟩) = ps' := ⟨_, rfl⟩
    have lv' : vs'.length = vs.length := by rw [← hvs', List.length_set]
    have lp' : ps'.length = ps.length := by rw [← hps', List.length_set]
    rw [hvs', hps'] at okP slk
    rw [hps'] at muP5
    rw [hvs', hps'] at b7
    have HS := Lib.hid (And.intro okP (And.intro muP5 (And.intro slk (And.intro lv' lp'))))
    have HPS := Lib.hid hps'
    clear okP muP5 slk HP hps' lv' lp' hvs'
    have z0 := kB7.cell 0
    have z1 := kB7.cell 1
    have z2 := kB7.cell 2
    have z3 := kB7.cell 3
    simp at z0 z1 z2 z3
    by_cases hr : room = 0
    · have hr2 : (room == 0) = true := by simp [hr]
      have hw0 := HTK.out hr
      obtain ⟨tq, htq, hatq, htke, hearq⟩ : ∃ (tq : Nat) (htq : tq < ps.length) (hatq : ps[tq].at_ < ps[tq].plan.2.1.length), tkr = (tq : Int) ∧ earB (ps[tq].plan.2.1[ps[tq].at_]).1.toList = true := by
        rcases HF.out with e | ⟨tq, htq, hatq, e, _, e2⟩
        · omega
        · exact ⟨tq, htq, hatq, e, e2⟩
      have hne := HNE.out tq htq hatq hearq
      have htq' : tq < ps'.length := by rw [HS.out.2.2.2.2]; exact htq
      have hgt : ps'[tq] = ps[tq] := by
        have := HPS.out
        subst this
        exact List.getElem_set_ne (fun e => hne e.symm) _
      have hpt0 := Hok.out.pt _ (List.getElem_mem htq)
      have hsz0 := Hok.out.sz _ (List.getElem_mem htq)
      have hG := l3Given_any base gL gO gV gP cL cO cV cP nl tq word ls os vs' ps' w7 b7 (by rw [HS.out.2.2.2.2]; exact hp4) htq' (by rw [hgt]; exact hatq) (by rw [hgt]; have := hpt0.2.1; omega) (by rw [hgt]; omega) (by omega) (by omega)
      rw [HS.out.2.2.2.1, HS.out.2.2.2.2] at hG
      have HG := Lib.hid hG
      have HT := Lib.hid (And.intro htq' (And.intro hgt (And.intro hpt0 hatq)))
      clear hG hgt hsz0 hpt0 hearq hatq hne
      subst htke
      go_wp2_with (go_at_call 67; refine HG.out.mono ?_; rintro e w8 ⟨rfl, x, hg, hB8, b8, X8⟩; have kR8 := X8 _ _ kR7; have t0 := kR8.cell 0; have t1 := kR8.cell 1; have t2 := kR8.cell 2; have t3 := kR8.cell 3; have t4 := kR8.frozen 0; have t5 := kR8.frozen 1; have t6 := kR8.frozen 2; have t7 := kR8.frozen 3; simp at t0 t1 t2 t3)
      obtain ⟨-, hgt, hpt0, hatq⟩ := HT.out
      obtain ⟨g1, g2, g3, g4⟩ := hg.ok (by rw [hgt]; exact hpt0) (by rw [hgt]; exact hatq) (by omega) (by omega)
      obtain ⟨f1, f2, f3, f4⟩ := hB8.res kR8 (by omega) (P7.trans b8) (X7.trans X8) (by omega) (.slice (some ⟨gL, 0, none⟩) ls.length cL) (.slice (some ⟨gO, 0, none⟩) os.length cO) (.slice (some ⟨gV, 0, none⟩) vs.length cV) (.slice (some ⟨gP, 0, none⟩) ps.length cP)
      obtain ⟨ok8, mu8⟩ := HS.out.1.hear HS.out.2.2.1 htq' x g1 g2 g3
      have hmu2 : mu ls (ps'.set tq x) + (if true = true then 1 else 0) ≤ mu ls ps := by rw [if_pos rfl]; have := HS.out.2.1; omega
      clear z0 z1 z2 z3 t0 t1 t2 t3 t4 t5 t6 t7 hB8 kR8 hg g1 g2 g3 g4 kB7 kR7 HG
      generalize ((((w8.setCell ⟨w.heap.size + 1, 0, none⟩ (.slice (some ⟨gL, 0, none⟩) ls.length cL)).setCell ⟨w.heap.size + 1, 1, none⟩ (.slice (some ⟨gO, 0, none⟩) os.length cO)).setCell ⟨w.heap.size + 1, 2, none⟩ (.slice (some ⟨gV, 0, none⟩) vs.length cV)).setCell ⟨w.heap.size + 1, 3, none⟩ (.slice (some ⟨gP, 0, none⟩) ps.length cP)) = W7 at f1 f2 f3 f4 ⊢
      have r0 := f4.cell 0
      have r1 := f4.cell 1
      have r2 := f4.cell 2
      have r3 := f4.cell 3
      simp at r0 r1 r2 r3
      exact bodyPost_ret (v := .tuple #[.agg #[.slice (some ⟨gL, 0, none⟩) ls.length cL, .slice (some ⟨gO, 0, none⟩) os.length cO, .slice (some ⟨gV, 0, none⟩) vs.length cV, .slice (some ⟨gP, 0, none⟩) ps.length cP], .bool true]) (by simp [results, Tryd.results66, go_sem, r0, r1, r2, r3]) rfl ⟨true, ls, vs', ps'.set tq x, rfl, rfl, HS.out.2.2.2.1, by rw [List.length_set]; exact HS.out.2.2.2.2, f1, ok8, hmu2, f2, f3⟩
    · have hr2 : (room == 0) = false := by rw [beq_eq_false_iff_ne]; exact hr
      have hO := b7.lines.held _ (List.getElem_mem hl2)
      rw [HL.out] at hO
      simp only [rowV] at hO
      have hlen5 : hx.length ≤ 500 := by have := HS.out.1.sz; have h2 := Hok.out.sz _ (List.getElem_mem hp); have h3 := mu_mem_ls ps hl2; rw [HL.out] at h3; have h3 : hx.length ≤ mu ls ps := h3; omega
      obtain ⟨hz3, hhz⟩ : ∃ hz3, hx ++ [word] = hz3 := ⟨_, rfl⟩
      have hzl : hz3.length = hx.length + 1 := by rw [← hhz]; simp
      have hzi : ints hx ++ [.int .i64 word] = ints hz3 := by rw [← hhz]; simp [ints]
      have hzK : ∀ y ∈ hz3, 0 ≤ y ∧ y ≤ 1000 := fun y hy => by
        rw [← hhz] at hy
        rcases List.mem_append.1 hy with hy | hy
        · have := Hok.out.ln _ (List.getElem_mem hl2)
          rw [HL.out] at this
          exact this y hy
        · obtain rfl := List.mem_singleton.1 hy
          exact hwd
      have HR1 := Lib.hid (Reads.of_own hO)
      have HZ := Lib.hid (And.intro hzl (And.intro hzi hzK))
      clear hO hzl hzi hzK hhz z1 z2 z3
      have hz1000 : w7.heap.size ≤ w7.heap.size := Nat.le_refl _
      go_upto_region 12 with fail
      go_cut [] from 107 to 122 (fun wx => ∃ (A3 : Option Addr) (c3 : Nat), BD wx base gL gO gV gP cL cO cV cP (ls.set ln (held ⟨room, (Ax, hx, cx), en, tk⟩ (A3, hz3, c3))) os vs' ps' ∧ Below base w wx ∧ Boxes w wx ∧ Blk wx w.heap.size 79 #[.slice (some ⟨gL, 0, none⟩) ls.length cL, .slice (some ⟨gO, 0, none⟩) os.length cO, .slice (some ⟨gV, 0, none⟩) vs.length cV, .slice (some ⟨gP, 0, none⟩) ps.length cP] ∧ Blk wx (w.heap.size + 1) 79 #[.slice none 0 0, .slice none 0 0, .slice none 0 0, .slice none 0 0])
      case first =>
        go_wp2_with fail
        refine wp_region_noPanic ?_
        refine wp_region_late (C := (fun w' => w'.cell? ⟨w.heap.size, 0, none⟩ = some (.slice (some ⟨gL, 0, none⟩) ls.length cL) ∧ w'.cell? ⟨gL, ln * 4 + 1, none⟩ = some (.slice Ax hx.length cx))) (t := 16) (by kernel_rfl) (⟨z0, q1⟩) (fun hHeld => ?_)
        refine' Late.take (i := 0) (oi := _) (v := _) rfl (by kernel_rfl) (by kernel_rfl) (by kernel_rfl) (by kernel_rfl) (fun _ _ _ h => h) (Or.inl ⟨by rfl, ?hy0r12⟩) hHeld ?rest0r12
        case hy0r12 => (intro w' hSw; (try dsimp only at hSw); go_simp; try with_reducible rfl)
        case' rest0r12 => try simp only [Act.put, List.setIfInBounds_toArray, List.set_cons_zero, List.set_cons_succ, List.getElem_toArray, List.getElem_cons_succ, List.getElem_cons_zero]
        refine' Late.take (i := 1) (oi := _) (v := _) rfl (by kernel_rfl) (by kernel_rfl) (by kernel_rfl) (by kernel_rfl) (fun _ _ _ h => h) (Or.inl ⟨by rfl, ?hy1r12⟩) hHeld ?rest1r12
        case hy1r12 => (intro w' hSw; (try dsimp only at hSw); go_simp; try with_reducible rfl)
        case' rest1r12 => try simp only [Act.put, List.setIfInBounds_toArray, List.set_cons_zero, List.set_cons_succ, List.getElem_toArray, List.getElem_cons_succ, List.getElem_cons_zero]
        refine' Late.take (i := 2) (oi := _) (v := _) rfl (by kernel_rfl) (by kernel_rfl) (by kernel_rfl) (by kernel_rfl) (fun _ _ _ h => h) (Or.inl ⟨by rfl, ?hy2r12⟩) hHeld ?rest2r12
        case hy2r12 => (intro w' hSw; (try dsimp only at hSw); go_simp; try with_reducible rfl)
        case' rest2r12 => try simp only [Act.put, List.setIfInBounds_toArray, List.set_cons_zero, List.set_cons_succ, List.getElem_toArray, List.getElem_cons_succ, List.getElem_cons_zero]
        refine' Late.take (i := 4) (oi := _) (v := _) rfl (by kernel_rfl) (by kernel_rfl) (by kernel_rfl) (by kernel_rfl) (fun _ _ _ h => h) (Or.inl ⟨by rfl, ?hy4r12⟩) hHeld ?rest4r12
        case hy4r12 => (intro w' hSw; (try dsimp only at hSw); go_simp; try with_reducible rfl)
        case' rest4r12 => try simp only [Act.put, List.setIfInBounds_toArray, List.set_cons_zero, List.set_cons_succ, List.getElem_toArray, List.getElem_cons_succ, List.getElem_cons_zero]
        refine' Late.take (i := 5) (oi := _) (v := _) rfl (by kernel_rfl) (by kernel_rfl) (by kernel_rfl) (by kernel_rfl) (fun _ _ _ h => h) (Or.inl ⟨by rfl, ?hy5r12⟩) hHeld ?rest5r12
        case hy5r12 => (intro w' hSw; (try dsimp only at hSw); go_simp; try with_reducible rfl)
        case' rest5r12 => try simp only [Act.put, List.setIfInBounds_toArray, List.set_cons_zero, List.set_cons_succ, List.getElem_toArray, List.getElem_cons_succ, List.getElem_cons_zero]
        refine' Late.take (i := 6) (oi := _) (v := _) rfl (by kernel_rfl) (by kernel_rfl) (by kernel_rfl) (by kernel_rfl) (fun _ _ _ h => h) (Or.inl ⟨by rfl, ?hy6r12⟩) hHeld ?rest6r12
        case hy6r12 => (intro w' hSw; (try dsimp only at hSw); go_simp; try with_reducible rfl)
        case' rest6r12 => try simp only [Act.put, List.setIfInBounds_toArray, List.set_cons_zero, List.set_cons_succ, List.getElem_toArray, List.getElem_cons_succ, List.getElem_cons_zero]
        refine' Late.take (i := 7) (oi := _) (v := _) rfl (by kernel_rfl) (by kernel_rfl) (by kernel_rfl) (by kernel_rfl) (fun _ _ _ h => h) (Or.inl ⟨by rfl, ?hy7r12⟩) hHeld ?rest7r12
        case hy7r12 => (intro w' hSw; (try dsimp only at hSw); go_simp; try with_reducible rfl)
        case' rest7r12 => try simp only [Act.put, List.setIfInBounds_toArray, List.set_cons_zero, List.set_cons_succ, List.getElem_toArray, List.getElem_cons_succ, List.getElem_cons_zero]
        refine' Late.take (i := 8) (oi := _) (v := _) rfl (by kernel_rfl) (by kernel_rfl) (by kernel_rfl) (by kernel_rfl) (fun _ _ _ h => h) (Or.inl ⟨by rfl, ?hy8r12⟩) hHeld ?rest8r12
        case hy8r12 => (intro w' hSw; (try dsimp only at hSw); go_simp; try with_reducible rfl)
        case' rest8r12 => try simp only [Act.put, List.setIfInBounds_toArray, List.set_cons_zero, List.set_cons_succ, List.getElem_toArray, List.getElem_cons_succ, List.getElem_cons_zero]
        refine' Late.take (i := 9) (oi := _) (v := _) rfl (by kernel_rfl) (by kernel_rfl) (by kernel_rfl) (by kernel_rfl) (fun _ _ _ h => h) (Or.inl ⟨by rfl, ?hy9r12⟩) hHeld ?rest9r12
        case hy9r12 => (intro w' hSw; (try dsimp only at hSw); go_simp; try with_reducible rfl)
        case' rest9r12 => try simp only [Act.put, List.setIfInBounds_toArray, List.set_cons_zero, List.set_cons_succ, List.getElem_toArray, List.getElem_cons_succ, List.getElem_cons_zero]
        refine' Late.take (i := 11) (oi := _) (v := _) rfl (by kernel_rfl) (by kernel_rfl) (by kernel_rfl) (by kernel_rfl) (fun _ _ _ h => h) (Or.inl ⟨by rfl, ?hy11r12⟩) hHeld ?rest11r12
        case hy11r12 => (intro w' hSw; (try dsimp only at hSw); go_simp; try with_reducible rfl)
        case' rest11r12 => try simp only [Act.put, List.setIfInBounds_toArray, List.set_cons_zero, List.set_cons_succ, List.getElem_toArray, List.getElem_cons_succ, List.getElem_cons_zero]
        refine Late.ready (rs := [3, 12]) (by kernel_rfl) (by simp) ?_
        refine LateAll.cons (o := _) rfl (fun K hK => ?b3r12) (LateAll.cons (o := _) rfl (fun K hK => ?b12r12) LateAll.nil)
        case b3r12 =>
          go_simp
          have Q1 : Below w7.heap.size w7 (w7.drew.alloc (.cells #[] 3)) := ((Below.refl w7.heap.size w7).drew).alloc (Nat.le_refl _) _
          have oE := own_mono (ownsRow_empty w7.drew) (base' := w7.heap.size) (Nat.le_refl _)
          try go_wp2_with fail
          refine hK.out _ _ (⟨keepC Q1 z0, keepC Q1 q1⟩) (fun hHeld => ?_)
          clear hK K
          try simp only [Act.put, List.setIfInBounds_toArray, List.set_cons_zero, List.set_cons_succ, List.getElem_toArray, List.getElem_cons_succ, List.getElem_cons_zero]
          refine Late.ready (rs := [10, 12]) (by kernel_rfl) (by simp) ?_
          refine LateAll.cons (o := _) rfl (fun K hK => ?b10r12_3) (LateAll.cons (o := _) rfl (fun K hK => ?b12r12_3) LateAll.nil)
          case b10r12_3 =>
            refine step_append_any rfl _ _ 22 rfl w7.heap.size 3 i0 (.int .i64 0) 1 8 Tryd.underlying22 HI.out.1 HI.out.2.1 HI.out.2.2.1 HI.out.2.2.2 rfl (by decide) (.slice (some ⟨w7.heap.size, 0, none⟩) 0 0) 0 [] (by simp [Act.eval, Act.put]) (oE) _ Ax hx.length cx (ints hx) (by simp [Act.eval, Act.put]) (Reads.below HR1.out Q1) (ints_oneCell' _) (by unfold maxLen; omega) (by omega) (Q1.size) ?_
            intro v1 x1 ho1 hg1 hl1
            have Q2 : Below w7.heap.size w7 x1 := Q1.grown hg1 (Q1.size) (fun k hk => by simp [Value.ownBlock] at hk; omega)
            have ho1 : x1.ownsRow w7.heap.size 3 1 v1 hx.length (ints hx) := by simpa using ho1
            obtain ⟨A1, c1, rfl⟩ := own_form ho1
            refine hK.out _ _ (⟨keepC Q2 z0, keepC Q2 q1⟩) (fun hHeld => ?_)
            clear hK K
            try simp only [Act.put, List.setIfInBounds_toArray, List.set_cons_zero, List.set_cons_succ, List.getElem_toArray, List.getElem_cons_succ, List.getElem_cons_zero]
            refine Late.ready (rs := [12]) (by kernel_rfl) (by simp) ?_
            refine LateAll.cons (o := _) rfl (fun K hK => ?_) LateAll.nil
            go_simp
            have Q3 : Below w7.heap.size w7 (x1.alloc (.cells #[.int .i64 word] 3)) := Q2.alloc (by have := (Q2).size; omega) _
            have kO := Blk.new x1 3 #[.int .i64 word]
            have oE := World.ownsRow.alloc oE (.cells #[.int .i64 word] 3)
            have ho1 := World.ownsRow.alloc ho1 (.cells #[.int .i64 word] 3)
            try go_wp2_with fail
            refine hK.out _ _ (⟨keepC Q3 z0, keepC Q3 q1⟩) (fun hHeld => ?_)
            clear hK K
            try simp only [Act.put, List.setIfInBounds_toArray, List.set_cons_zero, List.set_cons_succ, List.getElem_toArray, List.getElem_cons_succ, List.getElem_cons_zero]
            refine Late.ready (rs := [13]) (by kernel_rfl) (by simp) ?_
            refine LateAll.cons (o := _) rfl (fun K hK => ?_) LateAll.nil
            refine step_append_any rfl _ _ 22 rfl w7.heap.size 3 i0 (.int .i64 0) 1 8 Tryd.underlying22 HI.out.1 HI.out.2.1 HI.out.2.2.1 HI.out.2.2.2 rfl (by decide) (.slice A1 hx.length c1) hx.length (ints hx) (by simp [Act.eval, Act.put]) (ho1) _ (some ⟨x1.heap.size, 0, none⟩) 1 1 [.int .i64 word] (by simp [Act.eval, Act.put]) (Blk.reads kO rfl) (ints_oneCell .i64 [word]) (by unfold maxLen; omega) (by omega) (Q3.size) ?_
            intro v3 x3 ho3 hg3 hl3
            have Q4 : Below w7.heap.size w7 x3 := Q3.grown hg3 (Q3.size) (fun k hk => (ho1.lt k hk).1)
            have ho3 : x3.ownsRow w7.heap.size 3 1 v3 hz3.length (ints hz3) := by rw [HZ.out.1, ← HZ.out.2.1]; exact ho3
            obtain ⟨A3, c3, rfl⟩ := own_form ho3
            have fz : x3.frozen? ⟨gL, ln * 4 + 1, none⟩ = false := (b7.keep Q4).lines.row.frozenAt _
            have c1' : x3.cell? ⟨gL, ln * 4 + 1, none⟩ = some (.slice Ax hx.length cx) := keepC Q4 q1
            refine hK.out _ _ (⟨keepC Q4 z0, keepC Q4 q1⟩) (fun hHeld => ?_)
            clear hK K
            try simp only [Act.put, List.setIfInBounds_toArray, List.set_cons_zero, List.set_cons_succ, List.getElem_toArray, List.getElem_cons_succ, List.getElem_cons_zero]
            refine Late.ready (rs := [14]) (by kernel_rfl) (by simp) ?_
            refine LateAll.cons (o := _) rfl (fun K hK => ?_) LateAll.nil
            go_simp
            try go_wp2_with fail
            refine hK.out _ _ (hHeld) (fun hHeld => ?_)
            clear hK K
            try simp only [Act.put, List.setIfInBounds_toArray, List.set_cons_zero, List.set_cons_succ, List.getElem_toArray, List.getElem_cons_succ, List.getElem_cons_zero]
            refine Late.ready (rs := [15]) (by kernel_rfl) (by simp) ?_
            refine LateAll.cons (o := _) rfl (fun K hK => ?_) LateAll.nil
            go_simp
            try go_wp2_with fail
            refine hK.out _ _ (hHeld) (fun hHeld => ?_)
            clear hK K
            try simp only [Act.put, List.setIfInBounds_toArray, List.set_cons_zero, List.set_cons_succ, List.getElem_toArray, List.getElem_cons_succ, List.getElem_cons_zero]
            refine Late.ready (rs := [16]) (by kernel_rfl) (by simp) ?_
            refine LateAll.last (o := _) rfl (fun K hK => ?_)
            go_simp
            try go_wp2_with fail
            refine hK.out _ _ ?_
            clear hK K
            try simp only [Act.put, List.setIfInBounds_toArray, List.set_cons_zero, List.set_cons_succ, List.getElem_toArray, List.getElem_cons_succ, List.getElem_cons_zero]
            refine Late.done (by kernel_rfl) ?_ _
            refine NoPanic.normal ?_
            have b8 := b7.keep Q4
            have b9 := b8.heldL hl2 HL.out (A3, hz3, c3) (own_mono ho3 (by have := P7.size; omega)) (fun u hu => b7.later ho3 (Nat.le_refl _) u hu)
            obtain ⟨P9, X9, K9⟩ := b8.sideL (P7.trans (Q4.mono (by have := P7.size; omega))) (X7.trans (Boxes.below Q4)) (ln * 4 + 1) (rowV (A3, hz3, c3))
            go_wp2_with fail
            go_meet
            exact ⟨A3, c3, b9, P9, X9, K9 _ _ (kB7.below Q4 kB7.lt), K9 _ _ (kR7.below Q4 kR7.lt)⟩
          case b12r12_3 =>
            go_simp
            have Q2 : Below w7.heap.size w7 ((w7.drew.alloc (.cells #[] 3)).alloc (.cells #[.int .i64 word] 3)) := Q1.alloc (by have := (Q1).size; omega) _
            have kO := Blk.new_at (g := w7.heap.size + 1) (w7.drew.alloc (.cells #[] 3)) 3 #[.int .i64 word] (World.size_alloc w7 _).symm
            have oE := World.ownsRow.alloc oE (.cells #[.int .i64 word] 3)
            try go_wp2_with fail
            refine hK.out _ _ (⟨keepC Q2 z0, keepC Q2 q1⟩) (fun hHeld => ?_)
            clear hK K
            try simp only [Act.put, List.setIfInBounds_toArray, List.set_cons_zero, List.set_cons_succ, List.getElem_toArray, List.getElem_cons_succ, List.getElem_cons_zero]
            refine Late.ready (rs := [10]) (by kernel_rfl) (by simp) ?_
            refine LateAll.cons (o := _) rfl (fun K hK => ?_) LateAll.nil
            refine step_append_any rfl _ _ 22 rfl w7.heap.size 3 i0 (.int .i64 0) 1 8 Tryd.underlying22 HI.out.1 HI.out.2.1 HI.out.2.2.1 HI.out.2.2.2 rfl (by decide) (.slice (some ⟨w7.heap.size, 0, none⟩) 0 0) 0 [] (by simp [Act.eval, Act.put]) (oE) _ Ax hx.length cx (ints hx) (by simp [Act.eval, Act.put]) (Reads.below HR1.out Q2) (ints_oneCell' _) (by unfold maxLen; omega) (by omega) (Q2.size) ?_
            intro v1 x1 ho1 hg1 hl1
            have Q3 : Below w7.heap.size w7 x1 := Q2.grown hg1 (Q2.size) (fun k hk => by simp [Value.ownBlock] at hk; omega)
            have ho1 : x1.ownsRow w7.heap.size 3 1 v1 hx.length (ints hx) := by simpa using ho1
            obtain ⟨A1, c1, rfl⟩ := own_form ho1
            have kO := kO.grown hg1 (fun e => by simp [Value.ownBlock] at e)
            refine hK.out _ _ (⟨keepC Q3 z0, keepC Q3 q1⟩) (fun hHeld => ?_)
            clear hK K
            try simp only [Act.put, List.setIfInBounds_toArray, List.set_cons_zero, List.set_cons_succ, List.getElem_toArray, List.getElem_cons_succ, List.getElem_cons_zero]
            refine Late.ready (rs := [13]) (by kernel_rfl) (by simp) ?_
            refine LateAll.cons (o := _) rfl (fun K hK => ?_) LateAll.nil
            refine step_append_any rfl _ _ 22 rfl w7.heap.size 3 i0 (.int .i64 0) 1 8 Tryd.underlying22 HI.out.1 HI.out.2.1 HI.out.2.2.1 HI.out.2.2.2 rfl (by decide) (.slice A1 hx.length c1) hx.length (ints hx) (by simp [Act.eval, Act.put]) (ho1) _ (some ⟨w7.heap.size + 1, 0, none⟩) 1 1 [.int .i64 word] (by simp [Act.eval, Act.put]) (Blk.reads kO rfl) (ints_oneCell .i64 [word]) (by unfold maxLen; omega) (by omega) (Q3.size) ?_
            intro v3 x3 ho3 hg3 hl3
            have Q4 : Below w7.heap.size w7 x3 := Q3.grown hg3 (Q3.size) (fun k hk => (ho1.lt k hk).1)
            have ho3 : x3.ownsRow w7.heap.size 3 1 v3 hz3.length (ints hz3) := by rw [HZ.out.1, ← HZ.out.2.1]; exact ho3
            obtain ⟨A3, c3, rfl⟩ := own_form ho3
            have fz : x3.frozen? ⟨gL, ln * 4 + 1, none⟩ = false := (b7.keep Q4).lines.row.frozenAt _
            have c1' : x3.cell? ⟨gL, ln * 4 + 1, none⟩ = some (.slice Ax hx.length cx) := keepC Q4 q1
            refine hK.out _ _ (⟨keepC Q4 z0, keepC Q4 q1⟩) (fun hHeld => ?_)
            clear hK K
            try simp only [Act.put, List.setIfInBounds_toArray, List.set_cons_zero, List.set_cons_succ, List.getElem_toArray, List.getElem_cons_succ, List.getElem_cons_zero]
            refine Late.ready (rs := [14]) (by kernel_rfl) (by simp) ?_
            refine LateAll.cons (o := _) rfl (fun K hK => ?_) LateAll.nil
            go_simp
            try go_wp2_with fail
            refine hK.out _ _ (hHeld) (fun hHeld => ?_)
            clear hK K
            try simp only [Act.put, List.setIfInBounds_toArray, List.set_cons_zero, List.set_cons_succ, List.getElem_toArray, List.getElem_cons_succ, List.getElem_cons_zero]
            refine Late.ready (rs := [15]) (by kernel_rfl) (by simp) ?_
            refine LateAll.cons (o := _) rfl (fun K hK => ?_) LateAll.nil
            go_simp
            try go_wp2_with fail
            refine hK.out _ _ (hHeld) (fun hHeld => ?_)
            clear hK K
            try simp only [Act.put, List.setIfInBounds_toArray, List.set_cons_zero, List.set_cons_succ, List.getElem_toArray, List.getElem_cons_succ, List.getElem_cons_zero]
            refine Late.ready (rs := [16]) (by kernel_rfl) (by simp) ?_
            refine LateAll.last (o := _) rfl (fun K hK => ?_)
            go_simp
            try go_wp2_with fail
            refine hK.out _ _ ?_
            clear hK K
            try simp only [Act.put, List.setIfInBounds_toArray, List.set_cons_zero, List.set_cons_succ, List.getElem_toArray, List.getElem_cons_succ, List.getElem_cons_zero]
            refine Late.done (by kernel_rfl) ?_ _
            refine NoPanic.normal ?_
            have b8 := b7.keep Q4
            have b9 := b8.heldL hl2 HL.out (A3, hz3, c3) (own_mono ho3 (by have := P7.size; omega)) (fun u hu => b7.later ho3 (Nat.le_refl _) u hu)
            obtain ⟨P9, X9, K9⟩ := b8.sideL (P7.trans (Q4.mono (by have := P7.size; omega))) (X7.trans (Boxes.below Q4)) (ln * 4 + 1) (rowV (A3, hz3, c3))
            go_wp2_with fail
            go_meet
            exact ⟨A3, c3, b9, P9, X9, K9 _ _ (kB7.below Q4 kB7.lt), K9 _ _ (kR7.below Q4 kR7.lt)⟩
        case b12r12 =>
          go_simp
          have Q1 : Below w7.heap.size w7 (w7.drew.alloc (.cells #[.int .i64 word] 3)) := ((Below.refl w7.heap.size w7).drew).alloc (Nat.le_refl _) _
          have kO := Blk.new w7.drew 3 #[.int .i64 word]
          try go_wp2_with fail
          refine hK.out _ _ (⟨keepC Q1 z0, keepC Q1 q1⟩) (fun hHeld => ?_)
          clear hK K
          try simp only [Act.put, List.setIfInBounds_toArray, List.set_cons_zero, List.set_cons_succ, List.getElem_toArray, List.getElem_cons_succ, List.getElem_cons_zero]
          refine Late.ready (rs := [3]) (by kernel_rfl) (by simp) ?_
          refine LateAll.cons (o := _) rfl (fun K hK => ?_) LateAll.nil
          go_simp
          have Q2 : Below w7.heap.size w7 ((w7.drew.alloc (.cells #[.int .i64 word] 3)).alloc (.cells #[] 3)) := Q1.alloc (by have := (Q1).size; omega) _
          have esz : (w7.drew.alloc (.cells #[.int .i64 word] 3)).heap.size = w7.heap.size + 1 := World.size_alloc w7 _; have oE := ownsRow_empty (w7.drew.alloc (.cells #[.int .i64 word] 3)); rw [esz] at oE; have oE := own_mono oE (base' := w7.heap.size) (by omega)
          have kO := kO.alloc (.cells #[] 3)
          try go_wp2_with fail
          refine hK.out _ _ (⟨keepC Q2 z0, keepC Q2 q1⟩) (fun hHeld => ?_)
          clear hK K
          try simp only [Act.put, List.setIfInBounds_toArray, List.set_cons_zero, List.set_cons_succ, List.getElem_toArray, List.getElem_cons_succ, List.getElem_cons_zero]
          refine Late.ready (rs := [10]) (by kernel_rfl) (by simp) ?_
          refine LateAll.cons (o := _) rfl (fun K hK => ?_) LateAll.nil
          refine step_append_any rfl _ _ 22 rfl w7.heap.size 3 i0 (.int .i64 0) 1 8 Tryd.underlying22 HI.out.1 HI.out.2.1 HI.out.2.2.1 HI.out.2.2.2 rfl (by decide) (.slice (some ⟨w7.heap.size + 1, 0, none⟩) 0 0) 0 [] (by simp [Act.eval, Act.put]) (oE) _ Ax hx.length cx (ints hx) (by simp [Act.eval, Act.put]) (Reads.below HR1.out Q2) (ints_oneCell' _) (by unfold maxLen; omega) (by omega) (Q2.size) ?_
          intro v1 x1 ho1 hg1 hl1
          have Q3 : Below w7.heap.size w7 x1 := Q2.grown hg1 (Q2.size) (fun k hk => by simp [Value.ownBlock] at hk; omega)
          have ho1 : x1.ownsRow w7.heap.size 3 1 v1 hx.length (ints hx) := by simpa using ho1
          obtain ⟨A1, c1, rfl⟩ := own_form ho1
          have kO := kO.grown hg1 (fun e => by simp [Value.ownBlock] at e)
          refine hK.out _ _ (⟨keepC Q3 z0, keepC Q3 q1⟩) (fun hHeld => ?_)
          clear hK K
          try simp only [Act.put, List.setIfInBounds_toArray, List.set_cons_zero, List.set_cons_succ, List.getElem_toArray, List.getElem_cons_succ, List.getElem_cons_zero]
          refine Late.ready (rs := [13]) (by kernel_rfl) (by simp) ?_
          refine LateAll.cons (o := _) rfl (fun K hK => ?_) LateAll.nil
          refine step_append_any rfl _ _ 22 rfl w7.heap.size 3 i0 (.int .i64 0) 1 8 Tryd.underlying22 HI.out.1 HI.out.2.1 HI.out.2.2.1 HI.out.2.2.2 rfl (by decide) (.slice A1 hx.length c1) hx.length (ints hx) (by simp [Act.eval, Act.put]) (ho1) _ (some ⟨w7.heap.size, 0, none⟩) 1 1 [.int .i64 word] (by simp [Act.eval, Act.put]) (Blk.reads kO rfl) (ints_oneCell .i64 [word]) (by unfold maxLen; omega) (by omega) (Q3.size) ?_
          intro v3 x3 ho3 hg3 hl3
          have Q4 : Below w7.heap.size w7 x3 := Q3.grown hg3 (Q3.size) (fun k hk => (ho1.lt k hk).1)
          have ho3 : x3.ownsRow w7.heap.size 3 1 v3 hz3.length (ints hz3) := by rw [HZ.out.1, ← HZ.out.2.1]; exact ho3
          obtain ⟨A3, c3, rfl⟩ := own_form ho3
          have fz : x3.frozen? ⟨gL, ln * 4 + 1, none⟩ = false := (b7.keep Q4).lines.row.frozenAt _
          have c1' : x3.cell? ⟨gL, ln * 4 + 1, none⟩ = some (.slice Ax hx.length cx) := keepC Q4 q1
          refine hK.out _ _ (⟨keepC Q4 z0, keepC Q4 q1⟩) (fun hHeld => ?_)
          clear hK K
          try simp only [Act.put, List.setIfInBounds_toArray, List.set_cons_zero, List.set_cons_succ, List.getElem_toArray, List.getElem_cons_succ, List.getElem_cons_zero]
          refine Late.ready (rs := [14]) (by kernel_rfl) (by simp) ?_
          refine LateAll.cons (o := _) rfl (fun K hK => ?_) LateAll.nil
          go_simp
          try go_wp2_with fail
          refine hK.out _ _ (hHeld) (fun hHeld => ?_)
          clear hK K
          try simp only [Act.put, List.setIfInBounds_toArray, List.set_cons_zero, List.set_cons_succ, List.getElem_toArray, List.getElem_cons_succ, List.getElem_cons_zero]
          refine Late.ready (rs := [15]) (by kernel_rfl) (by simp) ?_
          refine LateAll.cons (o := _) rfl (fun K hK => ?_) LateAll.nil
          go_simp
          try go_wp2_with fail
          refine hK.out _ _ (hHeld) (fun hHeld => ?_)
          clear hK K
          try simp only [Act.put, List.setIfInBounds_toArray, List.set_cons_zero, List.set_cons_succ, List.getElem_toArray, List.getElem_cons_succ, List.getElem_cons_zero]
          refine Late.ready (rs := [16]) (by kernel_rfl) (by simp) ?_
          refine LateAll.last (o := _) rfl (fun K hK => ?_)
          go_simp
          try go_wp2_with fail
          refine hK.out _ _ ?_
          clear hK K
          try simp only [Act.put, List.setIfInBounds_toArray, List.set_cons_zero, List.set_cons_succ, List.getElem_toArray, List.getElem_cons_succ, List.getElem_cons_zero]
          refine Late.done (by kernel_rfl) ?_ _
          refine NoPanic.normal ?_
          have b8 := b7.keep Q4
          have b9 := b8.heldL hl2 HL.out (A3, hz3, c3) (own_mono ho3 (by have := P7.size; omega)) (fun u hu => b7.later ho3 (Nat.le_refl _) u hu)
          obtain ⟨P9, X9, K9⟩ := b8.sideL (P7.trans (Q4.mono (by have := P7.size; omega))) (X7.trans (Boxes.below Q4)) (ln * 4 + 1) (rowV (A3, hz3, c3))
          go_wp2_with fail
          go_meet
          exact ⟨A3, c3, b9, P9, X9, K9 _ _ (kB7.below Q4 kB7.lt), K9 _ _ (kR7.below Q4 kR7.lt)⟩
      case rest =>
      clear kB7 kR7 b7 P7 X7 z0 q1 HR1
      obtain ⟨A3, c3, b9, P9, X9, kB9, kR9⟩ := hcut
      have okW := HS.out.1.word HS.out.2.2.1 hl2 (held ⟨room, (Ax, hx, cx), en, tk⟩ (A3, hz3, c3)) HZ.out.2.2 (by rw [HL.out]; exact HZ.out.1)
      have hmu2 : mu (ls.set ln (held ⟨room, (Ax, hx, cx), en, tk⟩ (A3, hz3, c3))) ps' + (if true = true then 1 else 0) ≤ mu ls ps := by rw [if_pos rfl]; have := HS.out.2.1; have := okW.2; omega
      have z0 := kB9.cell 0
      have z1 := kB9.cell 1
      have z2 := kB9.cell 2
      have z3 := kB9.cell 3
      have v0 := kR9.cell 0
      have v1 := kR9.cell 1
      have v2 := kR9.cell 2
      have v3 := kR9.cell 3
      simp at z0 z1 z2 z3 v0 v1 v2 v3
      have y0 := kR9.frozen 0
      have y1 := kR9.frozen 1
      have y2 := kR9.frozen 2
      have y3 := kR9.frozen 3
      go_wp2_with fail
      obtain ⟨f1, f2, f3, f4⟩ := b9.res kR9 (by omega) P9 X9 (by omega) (.slice (some ⟨gL, 0, none⟩) ls.length cL) (.slice (some ⟨gO, 0, none⟩) os.length cO) (.slice (some ⟨gV, 0, none⟩) vs.length cV) (.slice (some ⟨gP, 0, none⟩) ps.length cP)
      clear z0 z1 z2 z3 v0 v1 v2 v3 y0 y1 y2 y3
      generalize ((((wc.setCell ⟨w.heap.size + 1, 0, none⟩ (.slice (some ⟨gL, 0, none⟩) ls.length cL)).setCell ⟨w.heap.size + 1, 1, none⟩ (.slice (some ⟨gO, 0, none⟩) os.length cO)).setCell ⟨w.heap.size + 1, 2, none⟩ (.slice (some ⟨gV, 0, none⟩) vs.length cV)).setCell ⟨w.heap.size + 1, 3, none⟩ (.slice (some ⟨gP, 0, none⟩) ps.length cP)) = W7 at f1 f2 f3 f4 ⊢
      have r0 := f4.cell 0
      have r1 := f4.cell 1
      have r2 := f4.cell 2
      have r3 := f4.cell 3
      simp at r0 r1 r2 r3
      exact bodyPost_ret (v := .tuple #[.agg #[.slice (some ⟨gL, 0, none⟩) ls.length cL, .slice (some ⟨gO, 0, none⟩) os.length cO, .slice (some ⟨gV, 0, none⟩) vs.length cV, .slice (some ⟨gP, 0, none⟩) ps.length cP], .bool true]) (by simp [results, Tryd.results66, go_sem, r0, r1, r2, r3]) rfl ⟨true, (ls.set ln (held ⟨room, (Ax, hx, cx), en, tk⟩ (A3, hz3, c3))), vs', ps', rfl, List.length_set .., HS.out.2.2.2.1, HS.out.2.2.2.2, f1, okW.1, hmu2, f2, f3⟩
end Go.Proofs.YthdnhaaojicmbaaDoor
