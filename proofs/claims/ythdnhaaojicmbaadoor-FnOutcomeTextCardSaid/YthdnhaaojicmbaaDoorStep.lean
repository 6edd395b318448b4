/-
  l3Step: a party does its deed.
-/
import Derived.Test.YthdnhaaojicmbaaDoorTake
import Derived.Test.YthdnhaaojicmbaaDoorPut
namespace Go.Proofs.YthdnhaaojicmbaaDoor
open Go.RowKit
set_option linter.unusedSimpArgs false
set_option linter.unusedVariables false

/-- a line that is ended -/
def endLn (x : Ln) : Ln := ⟨x.room, x.held, true, x.tk⟩
/-- a party at a fault -/
def faultP (q : Pt) : Pt := ⟨q.plan, q.at_, q.heard, ⟨#[102, 97, 117, 108, 116]⟩, q.last, q.ear⟩
theorem BD.endL {W : World} {base gL gO gV gP cL cO cV cP : Nat} {ls : List Ln} {os : List Int} {vs : List Value} {ps : List Pt} (h : BD W base gL gO gV gP cL cO cV cP ls os vs ps) {k : Nat} (hk : k < ls.length) : BD (W.setCell ⟨gL, k * 4 + 2, none⟩ (.bool true)) base gL gO gV gP cL cO cV cP (ls.set k (endLn ls[k])) os vs ps :=
  h.setL hk (by omega) (endLn ls[k]) (.bool true) (by simp [encL, endLn]) (h.lines.held ls[k] (List.getElem_mem hk)) (fun v hv => h.apH v hv ls[k] (List.getElem_mem hk))
theorem BD.faultP {W : World} {base gL gO gV gP cL cO cV cP : Nat} {ls : List Ln} {os : List Int} {vs : List Value} {ps : List Pt} (h : BD W base gL gO gV gP cL cO cV cP ls os vs ps) {k : Nat} (hk : k < ps.length) : BD (W.setCell ⟨gP, k * 6 + 3, none⟩ (.string ⟨#[102, 97, 117, 108, 116]⟩)) base gL gO gV gP cL cO cV cP ls os vs (ps.set k (faultP ps[k])) :=
  h.setP hk (by omega) (YthdnhaaojicmbaaDoor.faultP ps[k]) (.string ⟨#[102, 97, 117, 108, 116]⟩) (by simp [encP, YthdnhaaojicmbaaDoor.faultP]) rfl (h.heard ps[k] (List.getElem_mem hk)) (fun v hv => h.apQ v hv ps[k] (List.getElem_mem hk))
theorem faultP_ok {nl : Nat} {q : Pt} (hq : ptOk nl q) (hf : q.fin.toList.isEmpty = true) : ptOk nl (faultP q) ∧ muP (faultP q) + 1 = muP q := by
  obtain ⟨a1, a2, a3, a4, a5, a6, a7⟩ := hq
  refine ⟨⟨a1, a2, a3, .inr rfl, a5, a6, a7⟩, ?_⟩
  show 2 * (q.plan.2.1.length - q.at_) + (if (⟨#[102, 97, 117, 108, 116]⟩ : ByteArray).toList.isEmpty then 1 else 0) + 1 = 2 * (q.plan.2.1.length - q.at_) + (if q.fin.toList.isEmpty then 1 else 0)
  rw [if_pos hf, ByteArray.toList_eq]
  rfl
set_option maxHeartbeats 16000000 in
theorem l3Step_any (base gL gO gV gP cL cO cV cP nl p : Nat) (ls : List Ln) (os : List Int) (vs : List Value) (ps : List Pt) (w : World) (h : BD w base gL gO gV gP cL cO cV cP ls os vs ps) (ok : BOk nl ls os vs ps) (hp : p < ps.length) (hnl : nl ≤ 6) :
    Calls Tryd.prog 57 #[.agg #[.slice (some ⟨gL, 0, none⟩) ls.length cL, .slice (some ⟨gO, 0, none⟩) os.length cO, .slice (some ⟨gV, 0, none⟩) vs.length cV, .slice (some ⟨gP, 0, none⟩) ps.length cP], .int .i64 p] w (Stepped base gL gO gV gP cL cO cV cP nl ls os vs ps w) := by
  have B1 := ((Below.refl w.heap.size w).alloc (Nat.le_refl _) (.cells #[.slice (some ⟨gL, 0, none⟩) ls.length cL, .slice (some ⟨gO, 0, none⟩) os.length cO, .slice (some ⟨gV, 0, none⟩) vs.length cV, .slice (some ⟨gP, 0, none⟩) ps.length cP] 79)).alloc (by simp) (.cells #[.slice none 0 0, .slice none 0 0, .slice none 0 0, .slice none 0 0] 79)
  have k1 := (Blk.new w 79 #[.slice (some ⟨gL, 0, none⟩) ls.length cL, .slice (some ⟨gO, 0, none⟩) os.length cO, .slice (some ⟨gV, 0, none⟩) vs.length cV, .slice (some ⟨gP, 0, none⟩) ps.length cP]).alloc (.cells #[.slice none 0 0, .slice none 0 0, .slice none 0 0, .slice none 0 0] 79)
  have k2 := Blk.new (w.alloc (.cells #[.slice (some ⟨gL, 0, none⟩) ls.length cL, .slice (some ⟨gO, 0, none⟩) os.length cO, .slice (some ⟨gV, 0, none⟩) vs.length cV, .slice (some ⟨gP, 0, none⟩) ps.length cP] 79)) 79 #[.slice none 0 0, .slice none 0 0, .slice none 0 0, .slice none 0 0]
  simp only [World.size_alloc] at k2
  have hp4 := ok.hp
  have hpt := ok.pt _ (List.getElem_mem hp)
  obtain ⟨q, hq⟩ : ∃ q, ps[p] = q := ⟨_, rfl⟩
  have Hr : ∀ W, Below w.heap.size w W → RD W W.heap.size q.plan.1 q.plan.2.1 := fun W hbW => by subst hq; exact Reads.of_own ((h.keep hbW).plan _ (List.getElem_mem hp))
  have Hc : ∀ W, Below w.heap.size w W → _ := fun W hbW => (h.keep (w' := W) hbW).party hp
  have HQ := Lib.hid hq
  simp only [hq] at hpt Hc
  obtain ⟨⟨Ap, lp, cp⟩, at_, ⟨Ah, hl, ch⟩, fin, last, ear⟩ := q
  simp only [rowV] at hpt Hr Hc
  have hp' : (p : Int) < (ps.length : Int) := by omega
  have hbw : base ≤ w.heap.size := by have := h.pts.lt gP rfl; omega
  have HRD := Lib.hid Hr
  have HC := Lib.hid Hc
  have HH := Lib.hid h
  have Hok := Lib.hid ok
  have Hpt := Lib.hid hpt
  have h12 : lp.length ≤ 12 := hpt.2.1
  clear h ok hpt Hr Hc hq
  go_enter Tryd.func57, Tryd.ntmps57
  go_upto_region 1 with fail
  generalize (w.alloc (.cells #[.slice (some ⟨gL, 0, none⟩) ls.length cL, .slice (some ⟨gO, 0, none⟩) os.length cO, .slice (some ⟨gV, 0, none⟩) vs.length cV, .slice (some ⟨gP, 0, none⟩) ps.length cP] 79)).alloc (.cells #[.slice none 0 0, .slice none 0 0, .slice none 0 0, .slice none 0 0] 79) = w1 at B1 k1 k2 ⊢
  have a3 : w1.cell? ⟨w.heap.size, 3, none⟩ = some (.slice (some ⟨gP, 0, none⟩) ps.length cP) := k1.cell 3
  obtain ⟨p0, p1, p2, p3, p4, p5⟩ := HC.out _ B1
  cases hst : stopB fin at_ lp.length
  case true =>
    go_upto_region 2 with (first | (go_at_call 62; refine (l3Stopped_any _ _ _ _ _ _ _ _ _).mono ?_; rintro e w3 ⟨rfl, hb3⟩; rw [hst]))
    have B3 := B1.trans (hb3.mono B1.size)
    clear a3 p0 p1 p2 p3 p4 p5
    have kB := k1.below hb3 k1.lt
    have kR := k2.below hb3 k2.lt
    clear k1 k2 B1 hb3
    have BZb := B3.mono hbw
    have XZ : Boxes w w3 := Boxes.below B3
    have z0 := kB.cell 0
    have z1 := kB.cell 1
    have z2 := kB.cell 2
    have z3 := kB.cell 3
    have v0 := kR.cell 0
    have v1 := kR.cell 1
    have v2 := kR.cell 2
    have v3 := kR.cell 3
    simp at z0 z1 z2 z3 v0 v1 v2 v3
    have y0 := kR.frozen 0
    have y1 := kR.frozen 1
    have y2 := kR.frozen 2
    have y3 := kR.frozen 3
    go_wp2_with fail
    obtain ⟨f1, f2, f3, f4⟩ := (HH.out.keep B3).res kR (by omega) BZb XZ (by omega) (.slice (some ⟨gL, 0, none⟩) ls.length cL) (.slice (some ⟨gO, 0, none⟩) os.length cO) (.slice (some ⟨gV, 0, none⟩) vs.length cV) (.slice (some ⟨gP, 0, none⟩) ps.length cP)
    clear z0 z1 z2 z3 v0 v1 v2 v3 y0 y1 y2 y3
    generalize ((((w3.setCell ⟨w.heap.size + 1, 0, none⟩ (.slice (some ⟨gL, 0, none⟩) ls.length cL)).setCell ⟨w.heap.size + 1, 1, none⟩ (.slice (some ⟨gO, 0, none⟩) os.length cO)).setCell ⟨w.heap.size + 1, 2, none⟩ (.slice (some ⟨gV, 0, none⟩) vs.length cV)).setCell ⟨w.heap.size + 1, 3, none⟩ (.slice (some ⟨gP, 0, none⟩) ps.length cP)) = W7 at f1 f2 f3 f4 ⊢
    have r0 := f4.cell 0
    have r1 := f4.cell 1
    have r2 := f4.cell 2
    have r3 := f4.cell 3
    simp at r0 r1 r2 r3
    exact bodyPost_ret (v := .tuple #[.agg #[.slice (some ⟨gL, 0, none⟩) ls.length cL, .slice (some ⟨gO, 0, none⟩) os.length cO, .slice (some ⟨gV, 0, none⟩) vs.length cV, .slice (some ⟨gP, 0, none⟩) ps.length cP], .bool false]) (by simp [results, Tryd.results57, go_sem, r0, r1, r2, r3]) rfl ⟨false, ls, vs, ps, rfl, rfl, rfl, rfl, f1, Hok.out, (by simp), f2, f3⟩
  case false =>
    have hat := stopB_false hst
    have hfe := stopB_false' hst
    have hok := Hpt.out.2.2.1 _ (List.getElem_mem hat)
    obtain ⟨dd, hdd⟩ : ∃ dd, lp[at_] = dd := ⟨_, rfl⟩
    have h9 : (lp[at_].2.1 == 9) = false := by rw [hdd, beq_eq_false_iff_ne]; have := hok.2.2.1; rw [hdd] at this; omega
    rw [hdd] at hok
    have hat' : (at_ : Int) < (lp.length : Int) := by omega
    have hatp : ps[p].at_ < ps[p].plan.2.1.length := by rw [HQ.out]; exact hat
    have Hatp := Lib.hid hatp
    have Hfe := Lib.hid hfe
    clear hatp hfe
    go_upto_region 3 with (first | (go_at_call 62; refine (l3Stopped_any _ _ _ _ _ _ _ _ _).mono ?_; rintro e w3 ⟨rfl, hb3⟩; rw [hst]))
    have B3 := B1.trans (hb3.mono B1.size)
    clear a3 p0 p1 p2 p3 p4 p5 hst
    have kB := k1.below hb3 k1.lt
    have kR := k2.below hb3 k2.lt
    clear k1 k2 B1 hb3
    have z0 := kB.cell 0
    have z1 := kB.cell 1
    have z2 := kB.cell 2
    have z3 := kB.cell 3
    simp at z0 z1 z2 z3
    have hb3 := HH.out.keep B3
    go_upto_if 16 with (first | (go_at_call 63; refine (l3Fault_any base gL gO gV gP cL cO cV cP nl p ls os vs ps _ hb3 Hok.out hp Hatp.out hnl).mono ?_; rintro e w4 ⟨⟨b, rfl⟩, hb4⟩))
    have B4 := B3.trans (hb4.mono B3.size)
    clear z0 z1 z2 z3 hb3
    have kB := kB.below hb4 kB.lt
    have kR := kR.below hb4 kR.lt
    clear hb4 B3
    cases b
    case true =>
      have b4 := HH.out.keep B4
      have p3 := (b4.party hp).2.2.2.1
      have pf : w4.frozen? ⟨gP, p * 6 + 3, none⟩ = false := b4.pts.frozenAt _
      have z3 := kB.cell 3
      simp at z3
      go_upto_region 5 with fail
      have b5 := b4.faultP hp
      obtain ⟨P5, X5, K5⟩ := b4.sideP (B4.mono hbw) (Boxes.below B4) (p * 6 + 3) (.string ⟨#[102, 97, 117, 108, 116]⟩)
      have kB5 := K5 _ _ kB
      have kR5 := K5 _ _ kR
      clear b4 p3 pf z3 K5 kB kR B4
      generalize w4.setCell ⟨gP, p * 6 + 3, none⟩ (.string ⟨#[102, 97, 117, 108, 116]⟩) = w5 at b5 P5 X5 kB5 kR5 ⊢
      have fo := faultP_ok (Hok.out.pt _ (List.getElem_mem hp)) (by rw [HQ.out]; exact Hfe.out)
      have okF := Hok.out.party hp (faultP ps[p]) fo.1 (by omega) (by show ps[p].heard.2.1.length + _ ≤ _; omega)
      have hmu := mu_setP (ls := ls) hp (faultP ps[p])
      have hmu2 : mu ls (ps.set p (faultP ps[p])) + (if true = true then 1 else 0) ≤ mu ls ps := by rw [if_pos rfl]; omega
      have HM := Lib.hid (And.intro okF hmu2)
      clear okF hmu hmu2 fo
      have z0 := kB5.cell 0
      have z1 := kB5.cell 1
      have z2 := kB5.cell 2
      have z3 := kB5.cell 3
      have v0 := kR5.cell 0
      have v1 := kR5.cell 1
      have v2 := kR5.cell 2
      have v3 := kR5.cell 3
      simp at z0 z1 z2 z3 v0 v1 v2 v3
      have y0 := kR5.frozen 0
      have y1 := kR5.frozen 1
      have y2 := kR5.frozen 2
      have y3 := kR5.frozen 3
      go_wp2_with fail
      obtain ⟨f1, f2, f3, f4⟩ := b5.res kR5 (by omega) P5 X5 (by omega) (.slice (some ⟨gL, 0, none⟩) ls.length cL) (.slice (some ⟨gO, 0, none⟩) os.length cO) (.slice (some ⟨gV, 0, none⟩) vs.length cV) (.slice (some ⟨gP, 0, none⟩) ps.length cP)
      clear z0 z1 z2 z3 v0 v1 v2 v3 y0 y1 y2 y3
      generalize ((((w5.setCell ⟨w.heap.size + 1, 0, none⟩ (.slice (some ⟨gL, 0, none⟩) ls.length cL)).setCell ⟨w.heap.size + 1, 1, none⟩ (.slice (some ⟨gO, 0, none⟩) os.length cO)).setCell ⟨w.heap.size + 1, 2, none⟩ (.slice (some ⟨gV, 0, none⟩) vs.length cV)).setCell ⟨w.heap.size + 1, 3, none⟩ (.slice (some ⟨gP, 0, none⟩) ps.length cP)) = W7 at f1 f2 f3 f4 ⊢
      have r0 := f4.cell 0
      have r1 := f4.cell 1
      have r2 := f4.cell 2
      have r3 := f4.cell 3
      simp at r0 r1 r2 r3
      exact bodyPost_ret (v := .tuple #[.agg #[.slice (some ⟨gL, 0, none⟩) ls.length cL, .slice (some ⟨gO, 0, none⟩) os.length cO, .slice (some ⟨gV, 0, none⟩) vs.length cV, .slice (some ⟨gP, 0, none⟩) ps.length cP], .bool true]) (by simp [results, Tryd.results57, go_sem, r0, r1, r2, r3]) rfl ⟨true, ls, vs, _, rfl, rfl, rfl, List.length_set .., f1, HM.out.1, HM.out.2, f2, f3⟩
    case false =>
      obtain ⟨p0, p1, p2, p3, p4, p5⟩ := HC.out _ B4
      obtain ⟨ad, hA, hbl, d1, d2, d3⟩ := (HRD.out _ B4).at_ hat
      rw [hdd] at d1
      subst hA
      clear d2 d3
      have z3 : w4.cell? ⟨w.heap.size, 3, none⟩ = some (.slice (some ⟨gP, 0, none⟩) ps.length cP) := kB.cell 3
      go_upto_region 6 with fail
      go_wp2_with fail
      refine wp_region_noPanic ?_
      refine wp_region_held_drew (S := (fun w' => w'.cell? ⟨w.heap.size, 3, none⟩ = some (.slice (some ⟨gP, 0, none⟩) ps.length cP) ∧ w'.cell? ⟨gP, p * 6, none⟩ = some (.slice (some ad) lp.length cp) ∧ w'.cell? ⟨gP, p * 6 + 1, none⟩ = some (.int .i64 at_) ∧ w'.cell? (ad.add (at_ * 3)) = some (.string dd.1))) (by kernel_rfl) (⟨z3, p0, p1, d1⟩) (fun hHeld => ?_)
      refine' wpAnyH_take (i := 0) (oi := _) (v := _) rfl (by kernel_rfl) (by kernel_rfl) (by kernel_rfl) (fun _ _ _ h => h) (Or.inl ⟨by rfl, ?hy0s6⟩) hHeld ?rest0s6
      case hy0s6 => (intro w' hSw; (try dsimp only at hSw); go_simp; try with_reducible rfl)
      case' rest0s6 => try simp only [Act.put, List.setIfInBounds_toArray, List.set_cons_zero, List.set_cons_succ, List.getElem_toArray, List.getElem_cons_succ, List.getElem_cons_zero]
      refine' wpAnyH_take (i := 1) (oi := _) (v := _) rfl (by kernel_rfl) (by kernel_rfl) (by kernel_rfl) (fun _ _ _ h => h) (Or.inl ⟨by rfl, ?hy1s6⟩) hHeld ?rest1s6
      case hy1s6 => (intro w' hSw; (try dsimp only at hSw); go_simp; try with_reducible rfl)
      case' rest1s6 => try simp only [Act.put, List.setIfInBounds_toArray, List.set_cons_zero, List.set_cons_succ, List.getElem_toArray, List.getElem_cons_succ, List.getElem_cons_zero]
      refine' wpAnyH_take (i := 2) (oi := _) (v := _) rfl (by kernel_rfl) (by kernel_rfl) (by kernel_rfl) (fun _ _ _ h => h) (Or.inl ⟨by rfl, ?hy2s6⟩) hHeld ?rest2s6
      case hy2s6 => (intro w' hSw; (try dsimp only at hSw); go_simp; try with_reducible rfl)
      case' rest2s6 => try simp only [Act.put, List.setIfInBounds_toArray, List.set_cons_zero, List.set_cons_succ, List.getElem_toArray, List.getElem_cons_succ, List.getElem_cons_zero]
      refine' wpAnyH_take (i := 3) (oi := _) (v := _) rfl (by kernel_rfl) (by kernel_rfl) (by kernel_rfl) (fun _ _ _ h => h) (Or.inl ⟨by rfl, ?hy3s6⟩) hHeld ?rest3s6
      case hy3s6 => (intro w' hSw; (try dsimp only at hSw); go_simp; try with_reducible rfl)
      case' rest3s6 => try simp only [Act.put, List.setIfInBounds_toArray, List.set_cons_zero, List.set_cons_succ, List.getElem_toArray, List.getElem_cons_succ, List.getElem_cons_zero]
      refine' wpAnyH_take (i := 4) (oi := _) (v := _) rfl (by kernel_rfl) (by kernel_rfl) (by kernel_rfl) (fun _ _ _ h => h) (Or.inl ⟨by rfl, ?hy4s6⟩) hHeld ?rest4s6
      case hy4s6 => (intro w' hSw; (try dsimp only at hSw); go_simp; try with_reducible rfl)
      case' rest4s6 => try simp only [Act.put, List.setIfInBounds_toArray, List.set_cons_zero, List.set_cons_succ, List.getElem_toArray, List.getElem_cons_succ, List.getElem_cons_zero]
      refine' wpAnyH_take (i := 5) (oi := _) (v := _) rfl (by kernel_rfl) (by kernel_rfl) (by kernel_rfl) (fun _ _ _ h => h) (Or.inl ⟨by rfl, ?hy5s6⟩) hHeld ?rest5s6
      case hy5s6 => (intro w' hSw; (try dsimp only at hSw); go_simp; try with_reducible rfl)
      case' rest5s6 => try simp only [Act.put, List.setIfInBounds_toArray, List.set_cons_zero, List.set_cons_succ, List.getElem_toArray, List.getElem_cons_succ, List.getElem_cons_zero]
      refine' wpAnyH_take (i := 6) (oi := _) (v := _) rfl (by kernel_rfl) (by kernel_rfl) (by kernel_rfl) (fun _ _ _ h => h) (Or.inl ⟨by rfl, ?hy6s6⟩) hHeld ?rest6s6
      case hy6s6 => (intro w' hSw; (try dsimp only at hSw); go_simp; try with_reducible rfl)
      case' rest6s6 => try simp only [Act.put, List.setIfInBounds_toArray, List.set_cons_zero, List.set_cons_succ, List.getElem_toArray, List.getElem_cons_succ, List.getElem_cons_zero]
      refine' wpAnyH_take (i := 7) (oi := _) (v := _) rfl (by kernel_rfl) (by kernel_rfl) (by kernel_rfl) (fun _ _ _ h => h) (Or.inl ⟨by rfl, ?hy7s6⟩) hHeld ?rest7s6
      case hy7s6 => (intro w' hSw; (try dsimp only at hSw); go_simp; try with_reducible rfl)
      case' rest7s6 => try simp only [Act.put, List.setIfInBounds_toArray, List.set_cons_zero, List.set_cons_succ, List.getElem_toArray, List.getElem_cons_succ, List.getElem_cons_zero]
      refine' wpAnyH_take (i := 8) (oi := _) (v := _) rfl (by kernel_rfl) (by kernel_rfl) (by kernel_rfl) (fun _ _ _ h => h) (Or.inl ⟨by rfl, ?hy8s6⟩) hHeld ?rest8s6
      case hy8s6 => (intro w' hSw; (try dsimp only at hSw); go_simp; try with_reducible rfl)
      case' rest8s6 => try simp only [Act.put, List.setIfInBounds_toArray, List.set_cons_zero, List.set_cons_succ, List.getElem_toArray, List.getElem_cons_succ, List.getElem_cons_zero]
      refine' wpAnyH_take (i := 9) (oi := _) (v := _) rfl (by kernel_rfl) (by kernel_rfl) (by kernel_rfl) (fun _ _ _ h => h) (Or.inl ⟨by rfl, ?hy9s6⟩) hHeld ?rest9s6
      case hy9s6 => (intro w' hSw; (try dsimp only at hSw); go_simp; try with_reducible rfl)
      case' rest9s6 => try simp only [Act.put, List.setIfInBounds_toArray, List.set_cons_zero, List.set_cons_succ, List.getElem_toArray, List.getElem_cons_succ, List.getElem_cons_zero]
      refine' wpAnyH_take (i := 10) (oi := _) (v := _) rfl (by kernel_rfl) (by kernel_rfl) (by kernel_rfl) (fun _ _ _ h => h) (Or.inl ⟨by rfl, ?hy10s6⟩) hHeld ?rest10s6
      case hy10s6 => (intro w' hSw; (try dsimp only at hSw); go_simp; try with_reducible rfl)
      case' rest10s6 => try simp only [Act.put, List.setIfInBounds_toArray, List.set_cons_zero, List.set_cons_succ, List.getElem_toArray, List.getElem_cons_succ, List.getElem_cons_zero]
      refine' wpAnyH_take (i := 11) (oi := _) (v := _) rfl (by kernel_rfl) (by kernel_rfl) (by kernel_rfl) (fun _ _ _ h => h) (Or.inl ⟨by rfl, ?hy11s6⟩) hHeld ?rest11s6
      case hy11s6 => (intro w' hSw; (try dsimp only at hSw); go_simp; try with_reducible rfl)
      case' rest11s6 => try simp only [Act.put, List.setIfInBounds_toArray, List.set_cons_zero, List.set_cons_succ, List.getElem_toArray, List.getElem_cons_succ, List.getElem_cons_zero]
      refine' wpAnyH_take (i := 12) (oi := _) (v := _) rfl (by kernel_rfl) (by kernel_rfl) (by kernel_rfl) (fun _ _ _ h => h) (Or.inl ⟨by rfl, ?hy12s6⟩) hHeld ?rest12s6
      case hy12s6 => (intro w' hSw; (try dsimp only at hSw); go_simp; try with_reducible rfl)
      case' rest12s6 => try simp only [Act.put, List.setIfInBounds_toArray, List.set_cons_zero, List.set_cons_succ, List.getElem_toArray, List.getElem_cons_succ, List.getElem_cons_zero]
      refine' wpAnyH_take (i := 13) (oi := _) (v := _) rfl (by kernel_rfl) (by kernel_rfl) (by kernel_rfl) (fun _ _ _ h => h) (Or.inl ⟨by rfl, ?hy13s6⟩) hHeld ?rest13s6
      case hy13s6 => (intro w' hSw; (try dsimp only at hSw); go_simp; try with_reducible rfl)
      case' rest13s6 => try simp only [Act.put, List.setIfInBounds_toArray, List.set_cons_zero, List.set_cons_succ, List.getElem_toArray, List.getElem_cons_succ, List.getElem_cons_zero]
      refine' wpAnyH_take (i := 14) (oi := _) (v := _) rfl (by kernel_rfl) (by kernel_rfl) (by kernel_rfl) (fun _ _ _ h => h) (Or.inl ⟨by rfl, ?hy14s6⟩) hHeld ?rest14s6
      case hy14s6 => (intro w' hSw; (try dsimp only at hSw); go_simp; try with_reducible rfl)
      case' rest14s6 => try simp only [Act.put, List.setIfInBounds_toArray, List.set_cons_zero, List.set_cons_succ, List.getElem_toArray, List.getElem_cons_succ, List.getElem_cons_zero]
      refine' wpAnyH_take (i := 15) (oi := _) (v := _) rfl (by kernel_rfl) (by kernel_rfl) (by kernel_rfl) (fun _ _ _ h => h) (Or.inl ⟨by rfl, ?hy15s6⟩) hHeld ?rest15s6
      case hy15s6 => (intro w' hSw; (try dsimp only at hSw); go_simp; try with_reducible rfl)
      case' rest15s6 => try simp only [Act.put, List.setIfInBounds_toArray, List.set_cons_zero, List.set_cons_succ, List.getElem_toArray, List.getElem_cons_succ, List.getElem_cons_zero]
      refine wpAnyH_done (by kernel_rfl) ?_ _
      refine NoPanic.normal ?_
      clear hHeld z3 d1 hbl p0 p1 p2 p3 p4 p5
      have B5 : Below w.heap.size w w4.drew := B4.drew
      have kB : Blk w4.drew w.heap.size 79 #[.slice (some ⟨gL, 0, none⟩) ls.length cL, .slice (some ⟨gO, 0, none⟩) os.length cO, .slice (some ⟨gV, 0, none⟩) vs.length cV, .slice (some ⟨gP, 0, none⟩) ps.length cP] := kB
      have kR : Blk w4.drew (w.heap.size + 1) 79 #[.slice none 0 0, .slice none 0 0, .slice none 0 0, .slice none 0 0] := kR
      obtain ⟨p0, p1, p2, p3, p4, p5⟩ := HC.out _ B5
      obtain ⟨ad2, hA2, hbl, d1, d2, d3⟩ := (HRD.out _ B5).at_ hat
      injection hA2 with hA2
      subst hA2
      rw [hdd] at d1
      clear d2 d3 B4
      generalize w4.drew = w5 at B5 kB kR p0 p1 p2 p3 p4 p5 d1 hbl ⊢
      have hcond : ∀ W : World, Calls Tryd.prog 61 #[.string dd.1] W fun e w' => e = .returned (.bool (earB dd.1.toList)) ∧ W = w' := fun W => l3Takes_any _ _
      have HCO := Lib.hid hcond
      clear hcond
      cases hear : earB dd.1.toList
      case true =>
        go_upto_region 8 with (first | (go_at_call 61; refine (HCO.out _).mono ?_; rintro e w6 ⟨rfl, rfl⟩; rw [hear]))
        have z0 := kB.cell 0
        have z1 := kB.cell 1
        have z2 := kB.cell 2
        have z3 := kB.cell 3
        simp at z0 z1 z2 z3
        have hbd := HH.out.keep B5
        clear p0 p1 p2 p3 p4 p5 d1
        go_wp2_with (go_at_call 64; refine (l3Take_any base gL gO gV gP cL cO cV cP nl p ls os vs ps _ hbd Hok.out hp Hatp.out hnl).mono ?_; rintro e w8 ⟨d, ls', vs', ps', rfl, l1, l2, l3, hB8, ok8, mu8, b8, X8⟩; have kR8 := X8 _ _ kR; have t0 := kR8.cell 0; have t1 := kR8.cell 1; have t2 := kR8.cell 2; have t3 := kR8.cell 3; have t4 := kR8.frozen 0; have t5 := kR8.frozen 1; have t6 := kR8.frozen 2; have t7 := kR8.frozen 3; simp at t0 t1 t2 t3; have HK := Lib.hid (And.intro l1 (And.intro l2 (And.intro l3 (And.intro ok8 mu8)))); clear l1 l2 l3 ok8 mu8)
        obtain ⟨f1, f2, f3, f4⟩ := hB8.res kR8 (by omega) ((B5.mono hbw).trans b8) ((Boxes.below B5).trans X8) (by omega) (.slice (some ⟨gL, 0, none⟩) ls.length cL) (.slice (some ⟨gO, 0, none⟩) os.length cO) (.slice (some ⟨gV, 0, none⟩) vs.length cV) (.slice (some ⟨gP, 0, none⟩) ps.length cP)
        clear z0 z1 z2 z3 t0 t1 t2 t3 t4 t5 t6 t7 hB8 kR8
        generalize ((((w8.setCell ⟨w.heap.size + 1, 0, none⟩ (.slice (some ⟨gL, 0, none⟩) ls.length cL)).setCell ⟨w.heap.size + 1, 1, none⟩ (.slice (some ⟨gO, 0, none⟩) os.length cO)).setCell ⟨w.heap.size + 1, 2, none⟩ (.slice (some ⟨gV, 0, none⟩) vs.length cV)).setCell ⟨w.heap.size + 1, 3, none⟩ (.slice (some ⟨gP, 0, none⟩) ps.length cP)) = W7 at f1 f2 f3 f4 ⊢
        have r0 := f4.cell 0
        have r1 := f4.cell 1
        have r2 := f4.cell 2
        have r3 := f4.cell 3
        simp at r0 r1 r2 r3
        exact bodyPost_ret (v := .tuple #[.agg #[.slice (some ⟨gL, 0, none⟩) ls.length cL, .slice (some ⟨gO, 0, none⟩) os.length cO, .slice (some ⟨gV, 0, none⟩) vs.length cV, .slice (some ⟨gP, 0, none⟩) ps.length cP], .bool d]) (by simp [results, Tryd.results57, go_sem, r0, r1, r2, r3]) rfl ⟨d, ls', vs', ps', rfl, HK.out.1, HK.out.2.1, HK.out.2.2.1, f1, HK.out.2.2.2.1, HK.out.2.2.2.2, f2, f3⟩
      case false =>
        cases hend : dd.1.toList == [101, 110, 100]
        case false =>
          go_upto_region 13 with (first | (go_at_call 61; refine (HCO.out _).mono ?_; rintro e w6 ⟨rfl, rfl⟩; rw [hear]))
          have hact : earB (ps[p].plan.2.1[ps[p].at_]).1.toList = false := by simp only [HQ.out]; rw [hdd]; exact hear
          have HA := Lib.hid hact
          clear hact
          have z0 := kB.cell 0
          have z1 := kB.cell 1
          have z2 := kB.cell 2
          have z3 := kB.cell 3
          simp at z0 z1 z2 z3
          have hbd := HH.out.keep B5
          clear p0 p1 p2 p3 p4 p5 d1
          go_wp2_with (go_at_call 66; refine (l3Put_any base gL gO gV gP cL cO cV cP nl p ls os vs ps _ hbd Hok.out hp Hatp.out HA.out hnl).mono ?_; rintro e w8 ⟨d, ls', vs', ps', rfl, l1, l2, l3, hB8, ok8, mu8, b8, X8⟩; have kR8 := X8 _ _ kR; have t0 := kR8.cell 0; have t1 := kR8.cell 1; have t2 := kR8.cell 2; have t3 := kR8.cell 3; have t4 := kR8.frozen 0; have t5 := kR8.frozen 1; have t6 := kR8.frozen 2; have t7 := kR8.frozen 3; simp at t0 t1 t2 t3; have HK := Lib.hid (And.intro l1 (And.intro l2 (And.intro l3 (And.intro ok8 mu8)))); clear l1 l2 l3 ok8 mu8)
          obtain ⟨f1, f2, f3, f4⟩ := hB8.res kR8 (by omega) ((B5.mono hbw).trans b8) ((Boxes.below B5).trans X8) (by omega) (.slice (some ⟨gL, 0, none⟩) ls.length cL) (.slice (some ⟨gO, 0, none⟩) os.length cO) (.slice (some ⟨gV, 0, none⟩) vs.length cV) (.slice (some ⟨gP, 0, none⟩) ps.length cP)
          clear z0 z1 z2 z3 t0 t1 t2 t3 t4 t5 t6 t7 hB8 kR8
          generalize ((((w8.setCell ⟨w.heap.size + 1, 0, none⟩ (.slice (some ⟨gL, 0, none⟩) ls.length cL)).setCell ⟨w.heap.size + 1, 1, none⟩ (.slice (some ⟨gO, 0, none⟩) os.length cO)).setCell ⟨w.heap.size + 1, 2, none⟩ (.slice (some ⟨gV, 0, none⟩) vs.length cV)).setCell ⟨w.heap.size + 1, 3, none⟩ (.slice (some ⟨gP, 0, none⟩) ps.length cP)) = W7 at f1 f2 f3 f4 ⊢
          have r0 := f4.cell 0
          have r1 := f4.cell 1
          have r2 := f4.cell 2
          have r3 := f4.cell 3
          simp at r0 r1 r2 r3
          exact bodyPost_ret (v := .tuple #[.agg #[.slice (some ⟨gL, 0, none⟩) ls.length cL, .slice (some ⟨gO, 0, none⟩) os.length cO, .slice (some ⟨gV, 0, none⟩) vs.length cV, .slice (some ⟨gP, 0, none⟩) ps.length cP], .bool d]) (by simp [results, Tryd.results57, go_sem, r0, r1, r2, r3]) rfl ⟨d, ls', vs', ps', rfl, HK.out.1, HK.out.2.1, HK.out.2.2.1, f1, HK.out.2.2.2.1, HK.out.2.2.2.2, f2, f3⟩
        case true =>
          obtain ⟨ln, hln⟩ : ∃ ln : Nat, dd.2.1 = ln := ⟨dd.2.1.toNat, by have := hok.2.1; omega⟩
          have hlnl : ln ≤ nl := by have := hok.2.2.1; omega
          have hll := Hok.out.hl
          have hl2 : ln < ls.length := by omega
          have hl2' : (ln : Int) < (ls.length : Int) := by omega
          clear hll
          have z0 : w5.cell? ⟨w.heap.size, 0, none⟩ = some (.slice (some ⟨gL, 0, none⟩) ls.length cL) := kB.cell 0
          have z3 : w5.cell? ⟨w.heap.size, 3, none⟩ = some (.slice (some ⟨gP, 0, none⟩) ps.length cP) := kB.cell 3
          go_upto_region 10 with (first | (go_at_call 61; refine (HCO.out _).mono ?_; rintro e w6 ⟨rfl, rfl⟩; rw [hear]))
          go_wp2_with fail
          refine wp_region_noPanic ?_
          refine wp_region_late (C := (fun w' => w'.cell? ⟨w.heap.size, 0, none⟩ = some (.slice (some ⟨gL, 0, none⟩) ls.length cL) ∧ w'.cell? ⟨w.heap.size, 3, none⟩ = some (.slice (some ⟨gP, 0, none⟩) ps.length cP) ∧ w'.cell? ⟨gP, p * 6, none⟩ = some (.slice (some ad) lp.length cp) ∧ w'.cell? ⟨gP, p * 6 + 1, none⟩ = some (.int .i64 at_) ∧ w'.cell? ⟨gP, p * 6 + 2, none⟩ = some (.slice Ah hl.length ch) ∧ w'.cell? ⟨gP, p * 6 + 3, none⟩ = some (.string fin) ∧ w'.cell? ⟨gP, p * 6 + 4, none⟩ = some (.int .i64 last) ∧ w'.cell? ⟨gP, p * 6 + 5, none⟩ = some (.int .i64 ear))) (t := 10) (by kernel_rfl) (⟨z0, z3, p0, p1, p2, p3, p4, p5⟩) (fun hHeld => ?_)
          refine' Late.take (i := 0) (oi := _) (v := _) rfl (by kernel_rfl) (by kernel_rfl) (by kernel_rfl) (by kernel_rfl) (fun _ _ _ h => h) (Or.inl ⟨by rfl, ?hy0s10⟩) hHeld ?rest0s10
          case hy0s10 => (intro w' hSw; (try dsimp only at hSw); go_simp; try with_reducible rfl)
          case' rest0s10 => try simp only [Act.put, List.setIfInBounds_toArray, List.set_cons_zero, List.set_cons_succ, List.getElem_toArray, List.getElem_cons_succ, List.getElem_cons_zero]
          refine' Late.take (i := 1) (oi := _) (v := _) rfl (by kernel_rfl) (by kernel_rfl) (by kernel_rfl) (by kernel_rfl) (fun _ _ _ h => h) (Or.inl ⟨by rfl, ?hy1s10⟩) hHeld ?rest1s10
          case hy1s10 => (intro w' hSw; (try dsimp only at hSw); go_simp; try with_reducible rfl)
          case' rest1s10 => try simp only [Act.put, List.setIfInBounds_toArray, List.set_cons_zero, List.set_cons_succ, List.getElem_toArray, List.getElem_cons_succ, List.getElem_cons_zero]
          refine' Late.take (i := 2) (oi := _) (v := _) rfl (by kernel_rfl) (by kernel_rfl) (by kernel_rfl) (by kernel_rfl) (fun _ _ _ h => h) (Or.inl ⟨by rfl, ?hy2s10⟩) hHeld ?rest2s10
          case hy2s10 => (intro w' hSw; (try dsimp only at hSw); go_simp; try with_reducible rfl)
          case' rest2s10 => try simp only [Act.put, List.setIfInBounds_toArray, List.set_cons_zero, List.set_cons_succ, List.getElem_toArray, List.getElem_cons_succ, List.getElem_cons_zero]
          refine' Late.take (i := 3) (oi := _) (v := _) rfl (by kernel_rfl) (by kernel_rfl) (by kernel_rfl) (by kernel_rfl) (fun _ _ _ h => h) (Or.inl ⟨by rfl, ?hy3s10⟩) hHeld ?rest3s10
          case hy3s10 => (intro w' hSw; (try dsimp only at hSw); go_simp; try with_reducible rfl)
          case' rest3s10 => try simp only [Act.put, List.setIfInBounds_toArray, List.set_cons_zero, List.set_cons_succ, List.getElem_toArray, List.getElem_cons_succ, List.getElem_cons_zero]
          refine' Late.take (i := 4) (oi := _) (v := _) rfl (by kernel_rfl) (by kernel_rfl) (by kernel_rfl) (by kernel_rfl) (fun _ _ _ h => h) (Or.inl ⟨by rfl, ?hy4s10⟩) hHeld ?rest4s10
          case hy4s10 => (intro w' hSw; (try dsimp only at hSw); go_simp; try with_reducible rfl)
          case' rest4s10 => try simp only [Act.put, List.setIfInBounds_toArray, List.set_cons_zero, List.set_cons_succ, List.getElem_toArray, List.getElem_cons_succ, List.getElem_cons_zero]
          refine' Late.take (i := 5) (oi := _) (v := _) rfl (by kernel_rfl) (by kernel_rfl) (by kernel_rfl) (by kernel_rfl) (fun _ _ _ h => h) (Or.inl ⟨by rfl, ?hy5s10⟩) hHeld ?rest5s10
          case hy5s10 => (intro w' hSw; (try dsimp only at hSw); go_simp; try with_reducible rfl)
          case' rest5s10 => try simp only [Act.put, List.setIfInBounds_toArray, List.set_cons_zero, List.set_cons_succ, List.getElem_toArray, List.getElem_cons_succ, List.getElem_cons_zero]
          refine' Late.take (i := 6) (oi := _) (v := _) rfl (by kernel_rfl) (by kernel_rfl) (by kernel_rfl) (by kernel_rfl) (fun _ _ _ h => h) (Or.inl ⟨by rfl, ?hy6s10⟩) hHeld ?rest6s10
          case hy6s10 => (intro w' hSw; (try dsimp only at hSw); go_simp; try with_reducible rfl)
          case' rest6s10 => try simp only [Act.put, List.setIfInBounds_toArray, List.set_cons_zero, List.set_cons_succ, List.getElem_toArray, List.getElem_cons_succ, List.getElem_cons_zero]
          refine Late.ready (rs := [7]) (by kernel_rfl) (by simp) ?_
          refine LateAll.cons (o := _) rfl (fun K hK => ?_) LateAll.nil
          go_simp
          refine (l3Line_any _ lp cp at_ _ _ _ _ _ (HRD.out _ B5.drew) hat h9).mono ?_
          rintro e w6 ⟨rfl, hb6⟩
          rw [hdd, hln]
          try go_wp2_with fail
          refine hK.out _ _ (⟨keepC hb6 z0, keepC hb6 z3, keepC hb6 p0, keepC hb6 p1, keepC hb6 p2, keepC hb6 p3, keepC hb6 p4, keepC hb6 p5⟩) (fun hHeld => ?_)
          clear hK K
          try simp only [Act.put, List.setIfInBounds_toArray, List.set_cons_zero, List.set_cons_succ, List.getElem_toArray, List.getElem_cons_succ, List.getElem_cons_zero]
          refine Late.ready (rs := [8]) (by kernel_rfl) (by simp) ?_
          refine LateAll.cons (o := _) rfl (fun K hK => ?_) LateAll.nil
          go_simp
          try go_wp2_with fail
          refine hK.out _ _ (hHeld) (fun hHeld => ?_)
          clear hK K
          try simp only [Act.put, List.setIfInBounds_toArray, List.set_cons_zero, List.set_cons_succ, List.getElem_toArray, List.getElem_cons_succ, List.getElem_cons_zero]
          refine Late.ready (rs := [9]) (by kernel_rfl) (by simp) ?_
          refine LateAll.cons (o := _) rfl (fun K hK => ?_) LateAll.nil
          go_simp
          have B6 : Below w.heap.size w w6 := B5.drew.trans (hb6.mono B5.size)
          have b6 := HH.out.keep B6
          have c2' := (b6.line hl2).2.2.1
          have fz : w6.frozen? ⟨gL, ln * 4 + 2, none⟩ = false := b6.lines.row.frozenAt _
          try go_wp2_with fail
          refine hK.out _ _ (hHeld) (fun hHeld => ?_)
          clear hK K
          try simp only [Act.put, List.setIfInBounds_toArray, List.set_cons_zero, List.set_cons_succ, List.getElem_toArray, List.getElem_cons_succ, List.getElem_cons_zero]
          refine Late.ready (rs := [10]) (by kernel_rfl) (by simp) ?_
          refine LateAll.last (o := _) rfl (fun K hK => ?_)
          go_simp
          try go_wp2_with fail
          refine hK.out _ _ ?_
          clear hK K
          try simp only [Act.put, List.setIfInBounds_toArray, List.set_cons_zero, List.set_cons_succ, List.getElem_toArray, List.getElem_cons_succ, List.getElem_cons_zero]
          refine Late.done (by kernel_rfl) ?_ _
          refine NoPanic.normal ?_
          have b7 := b6.endL hl2
          obtain ⟨P7, X7, K7⟩ := b6.sideL (B6.mono hbw) (Boxes.below B6) (ln * 4 + 2) (.bool true)
          have kB7 := K7 _ _ (kB.drew.below hb6 kB.lt)
          have kR7 := K7 _ _ (kR.drew.below hb6 kR.lt)
          clear K7 b6 B6 B5 hb6 hHeld c2' fz z0 z3 p0 p1 p2 p3 p4 p5 d1 hbl kB kR
          generalize w6.setCell ⟨gL, ln * 4 + 2, none⟩ (.bool true) = w7 at b7 P7 X7 kB7 kR7 ⊢
          have p1 := (b7.party hp).2.1
          rw [HQ.out] at p1
          dsimp only at p1
          have z3 : w7.cell? ⟨w.heap.size, 3, none⟩ = some (.slice (some ⟨gP, 0, none⟩) ps.length cP) := kB7.cell 3
          have pf : w7.frozen? ⟨gP, p * 6 + 1, none⟩ = false := b7.pts.frozenAt _
          go_upto_region 11 with fail
          go_wp2_with fail
          refine wp_region_noPanic ?_
          refine wp_region_late (C := (fun w' => w'.cell? ⟨w.heap.size, 3, none⟩ = some (.slice (some ⟨gP, 0, none⟩) ps.length cP) ∧ w'.cell? ⟨gP, p * 6 + 1, none⟩ = some (.int .i64 at_))) (t := 12) (by kernel_rfl) (⟨z3, p1⟩) (fun hHeld => ?_)
          refine' Late.take (i := 0) (oi := _) (v := _) rfl (by kernel_rfl) (by kernel_rfl) (by kernel_rfl) (by kernel_rfl) (fun _ _ _ h => h) (Or.inl ⟨by rfl, ?hy0s11⟩) hHeld ?rest0s11
          case hy0s11 => (intro w' hSw; (try dsimp only at hSw); go_simp; try with_reducible rfl)
          case' rest0s11 => try simp only [Act.put, List.setIfInBounds_toArray, List.set_cons_zero, List.set_cons_succ, List.getElem_toArray, List.getElem_cons_succ, List.getElem_cons_zero]
          refine' Late.take (i := 1) (oi := _) (v := _) rfl (by kernel_rfl) (by kernel_rfl) (by kernel_rfl) (by kernel_rfl) (fun _ _ _ h => h) (Or.inl ⟨by rfl, ?hy1s11⟩) hHeld ?rest1s11
          case hy1s11 => (intro w' hSw; (try dsimp only at hSw); go_simp; try with_reducible rfl)
          case' rest1s11 => try simp only [Act.put, List.setIfInBounds_toArray, List.set_cons_zero, List.set_cons_succ, List.getElem_toArray, List.getElem_cons_succ, List.getElem_cons_zero]
          refine' Late.take (i := 2) (oi := _) (v := _) rfl (by kernel_rfl) (by kernel_rfl) (by kernel_rfl) (by kernel_rfl) (fun _ _ _ h => h) (Or.inl ⟨by rfl, ?hy2s11⟩) hHeld ?rest2s11
          case hy2s11 => (intro w' hSw; (try dsimp only at hSw); go_simp; try with_reducible rfl)
          case' rest2s11 => try simp only [Act.put, List.setIfInBounds_toArray, List.set_cons_zero, List.set_cons_succ, List.getElem_toArray, List.getElem_cons_succ, List.getElem_cons_zero]
          refine' Late.take (i := 3) (oi := _) (v := _) rfl (by kernel_rfl) (by kernel_rfl) (by kernel_rfl) (by kernel_rfl) (fun _ _ _ h => h) (Or.inl ⟨by rfl, ?hy3s11⟩) hHeld ?rest3s11
          case hy3s11 => (intro w' hSw; (try dsimp only at hSw); go_simp; try with_reducible rfl)
          case' rest3s11 => try simp only [Act.put, List.setIfInBounds_toArray, List.set_cons_zero, List.set_cons_succ, List.getElem_toArray, List.getElem_cons_succ, List.getElem_cons_zero]
          refine' Late.take (i := 4) (oi := _) (v := _) rfl (by kernel_rfl) (by kernel_rfl) (by kernel_rfl) (by kernel_rfl) (fun _ _ _ h => h) (Or.inl ⟨by rfl, ?hy4s11⟩) hHeld ?rest4s11
          case hy4s11 => (intro w' hSw; (try dsimp only at hSw); go_simp; try with_reducible rfl)
          case' rest4s11 => try simp only [Act.put, List.setIfInBounds_toArray, List.set_cons_zero, List.set_cons_succ, List.getElem_toArray, List.getElem_cons_succ, List.getElem_cons_zero]
          refine' Late.take (i := 5) (oi := _) (v := _) rfl (by kernel_rfl) (by kernel_rfl) (by kernel_rfl) (by kernel_rfl) (fun _ _ _ h => h) (Or.inl ⟨by rfl, ?hy5s11⟩) hHeld ?rest5s11
          case hy5s11 => (intro w' hSw; (try dsimp only at hSw); go_simp; try with_reducible rfl)
          case' rest5s11 => try simp only [Act.put, List.setIfInBounds_toArray, List.set_cons_zero, List.set_cons_succ, List.getElem_toArray, List.getElem_cons_succ, List.getElem_cons_zero]
          refine' Late.take (i := 6) (oi := _) (v := _) rfl (by kernel_rfl) (by kernel_rfl) (by kernel_rfl) (by kernel_rfl) (fun _ _ _ h => h) (Or.inl ⟨by rfl, ?hy6s11⟩) hHeld ?rest6s11
          case hy6s11 => (intro w' hSw; (try dsimp only at hSw); go_simp; try with_reducible rfl)
          case' rest6s11 => try simp only [Act.put, List.setIfInBounds_toArray, List.set_cons_zero, List.set_cons_succ, List.getElem_toArray, List.getElem_cons_succ, List.getElem_cons_zero]
          refine' Late.take (i := 7) (oi := _) (v := _) rfl (by kernel_rfl) (by kernel_rfl) (by kernel_rfl) (by kernel_rfl) (fun _ _ _ h => h) (Or.inl ⟨by rfl, ?hy7s11⟩) hHeld ?rest7s11
          case hy7s11 => (intro w' hSw; (try dsimp only at hSw); go_simp; try with_reducible rfl)
          case' rest7s11 => try simp only [Act.put, List.setIfInBounds_toArray, List.set_cons_zero, List.set_cons_succ, List.getElem_toArray, List.getElem_cons_succ, List.getElem_cons_zero]
          refine' Late.take (i := 8) (oi := _) (v := _) rfl (by kernel_rfl) (by kernel_rfl) (by kernel_rfl) (by kernel_rfl) (fun _ _ _ h => h) (Or.inl ⟨by rfl, ?hy8s11⟩) hHeld ?rest8s11
          case hy8s11 => (intro w' hSw; (try dsimp only at hSw); go_simp; try with_reducible rfl)
          case' rest8s11 => try simp only [Act.put, List.setIfInBounds_toArray, List.set_cons_zero, List.set_cons_succ, List.getElem_toArray, List.getElem_cons_succ, List.getElem_cons_zero]
          refine' Late.take (i := 9) (oi := _) (v := _) rfl (by kernel_rfl) (by kernel_rfl) (by kernel_rfl) (by kernel_rfl) (fun _ _ _ h => h) (Or.inl ⟨by rfl, ?hy9s11⟩) hHeld ?rest9s11
          case hy9s11 => (intro w' hSw; (try dsimp only at hSw); go_simp; try with_reducible rfl)
          case' rest9s11 => try simp only [Act.put, List.setIfInBounds_toArray, List.set_cons_zero, List.set_cons_succ, List.getElem_toArray, List.getElem_cons_succ, List.getElem_cons_zero]
          refine Late.ready (rs := [10]) (by kernel_rfl) (by simp) ?_
          refine LateAll.cons (o := _) rfl (fun K hK => ?_) LateAll.nil
          go_simp
          try go_wp2_with fail
          refine hK.out _ _ (hHeld) (fun hHeld => ?_)
          clear hK K
          try simp only [Act.put, List.setIfInBounds_toArray, List.set_cons_zero, List.set_cons_succ, List.getElem_toArray, List.getElem_cons_succ, List.getElem_cons_zero]
          refine Late.ready (rs := [11]) (by kernel_rfl) (by simp) ?_
          refine LateAll.cons (o := _) rfl (fun K hK => ?_) LateAll.nil
          go_simp
          try go_wp2_with fail
          refine hK.out _ _ (hHeld) (fun hHeld => ?_)
          clear hK K
          try simp only [Act.put, List.setIfInBounds_toArray, List.set_cons_zero, List.set_cons_succ, List.getElem_toArray, List.getElem_cons_succ, List.getElem_cons_zero]
          refine Late.ready (rs := [12]) (by kernel_rfl) (by simp) ?_
          refine LateAll.last (o := _) rfl (fun K hK => ?_)
          go_simp
          try go_wp2_with fail
          refine hK.out _ _ ?_
          clear hK K
          try simp only [Act.put, List.setIfInBounds_toArray, List.set_cons_zero, List.set_cons_succ, List.getElem_toArray, List.getElem_cons_succ, List.getElem_cons_zero]
          refine Late.done (by kernel_rfl) ?_ _
          refine NoPanic.normal ?_
          have b8 := b7.atP hp HQ.out
          obtain ⟨P8, X8, K8⟩ := b7.sideP P7 X7 (p * 6 + 1) (.int .i64 ((at_ : Int) + 1))
          have b9 := b8.keep (w' := (w7.setCell ⟨gP, p * 6 + 1, none⟩ (.int .i64 ((at_ : Int) + 1))).drew) (Below.refl _ _).drew
          have P9 := P8.drew
          have X9 : Boxes w (w7.setCell ⟨gP, p * 6 + 1, none⟩ (.int .i64 ((at_ : Int) + 1))).drew := fun b cs hb => (X8 b cs hb).drew
          have kB9 := (K8 _ _ kB7).drew
          have kR9 := (K8 _ _ kR7).drew
          rw [IntWalk.i64_in ((at_ : Int) + 1) (by omega)]
          clear K8 X8 P8 b8 b7 P7 X7 kB7 kR7 p1 z3 pf hHeld
          generalize (w7.setCell ⟨gP, p * 6 + 1, none⟩ (.int .i64 ((at_ : Int) + 1))).drew = w9 at b9 P9 X9 kB9 kR9 ⊢
          have nx := nextP_ok (Hok.out.pt _ (List.getElem_mem hp)) Hatp.out
          have ok1 := Hok.out.line hl2 (endLn ls[ln]) (show lnOk (endLn ls[ln]) from Hok.out.ln ls[ln] (List.getElem_mem hl2)) (Nat.le_refl _)
          have ok2 := ok1.party hp (nextP ps[p]) nx.1 (by omega) (by show ps[p].heard.2.1.length + _ ≤ _; omega)
          have m1 := mu_setL (ps := ps) hl2 (endLn ls[ln])
          have m2 := mu_setP (ls := ls.set ln (endLn ls[ln])) hp (nextP ps[p])
          have hmu2 : mu (ls.set ln (endLn ls[ln])) (ps.set p (nextP ps[p])) + (if true = true then 1 else 0) ≤ mu ls ps := by rw [if_pos rfl]; have e : (endLn ls[ln]).held.2.1.length = ls[ln].held.2.1.length := rfl; omega
          rw [HQ.out] at ok2 hmu2
          have HM := Lib.hid (And.intro ok2 hmu2)
          clear ok1 ok2 m1 m2 hmu2 nx
          have z0 := kB9.cell 0
          have z1 := kB9.cell 1
          have z2 := kB9.cell 2
          have z3 := kB9.cell 3
          have v0 := kR9.cell 0
          have v1 := kR9.cell 1
          have v2 := kR9.cell 2
          have v3 := kR9.cell 3
          simp at z0 z1 z2 z3 v0 v1 v2 v3
          have y0 := kR9.frozen 0
          have y1 := kR9.frozen 1
          have y2 := kR9.frozen 2
          have y3 := kR9.frozen 3
          go_wp2_with fail
          obtain ⟨f1, f2, f3, f4⟩ := b9.res kR9 (by omega) P9 X9 (by omega) (.slice (some ⟨gL, 0, none⟩) ls.length cL) (.slice (some ⟨gO, 0, none⟩) os.length cO) (.slice (some ⟨gV, 0, none⟩) vs.length cV) (.slice (some ⟨gP, 0, none⟩) ps.length cP)
          clear z0 z1 z2 z3 v0 v1 v2 v3 y0 y1 y2 y3
          generalize ((((w9.setCell ⟨w.heap.size + 1, 0, none⟩ (.slice (some ⟨gL, 0, none⟩) ls.length cL)).setCell ⟨w.heap.size + 1, 1, none⟩ (.slice (some ⟨gO, 0, none⟩) os.length cO)).setCell ⟨w.heap.size + 1, 2, none⟩ (.slice (some ⟨gV, 0, none⟩) vs.length cV)).setCell ⟨w.heap.size + 1, 3, none⟩ (.slice (some ⟨gP, 0, none⟩) ps.length cP)) = W7 at f1 f2 f3 f4 ⊢
          have r0 := f4.cell 0
          have r1 := f4.cell 1
          have r2 := f4.cell 2
          have r3 := f4.cell 3
          simp at r0 r1 r2 r3
          exact bodyPost_ret (v := .tuple #[.agg #[.slice (some ⟨gL, 0, none⟩) ls.length cL, .slice (some ⟨gO, 0, none⟩) os.length cO, .slice (some ⟨gV, 0, none⟩) vs.length cV, .slice (some ⟨gP, 0, none⟩) ps.length cP], .bool true]) (by simp [results, Tryd.results57, go_sem, r0, r1, r2, r3]) rfl ⟨true, (ls.set ln (endLn ls[ln])), vs, _, rfl, List.length_set .., rfl, List.length_set .., f1, HM.out.1, HM.out.2, f2, f3⟩
end Go.Proofs.YthdnhaaojicmbaaDoor
