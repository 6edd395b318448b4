/-
  l3At: the party that takes from a line now.
-/
import Derived.Test.YthdnhaaojicmbaaDoorBd4
namespace Go.Proofs.YthdnhaaojicmbaaDoor
open Go.RowKit
set_option linter.unusedSimpArgs false
set_option linter.unusedVariables false

def bdV (gL gO gV gP nL nO nV nP cL cO cV cP : Nat) : Array Value := #[.slice (some ⟨gL, 0, none⟩) nL cL, .slice (some ⟨gO, 0, none⟩) nO cO, .slice (some ⟨gV, 0, none⟩) nV cV, .slice (some ⟨gP, 0, none⟩) nP cP]
/-- what l3At finds -/
def FoundAt (ps : List Pt) (v : Int) : Prop := v = -1 ∨ ∃ (q : Nat) (h : q < ps.length) (h' : ps[q].at_ < ps[q].plan.2.1.length), v = q ∧ ps[q].fin.toList.isEmpty = true ∧ earB (ps[q].plan.2.1[ps[q].at_]).1.toList = true
theorem stopB_false {fin : ByteArray} {k n : Nat} (h : stopB fin k n = false) : k < n := by
  simp [stopB] at h
  omega
theorem stopB_false' {fin : ByteArray} {k n : Nat} (h : stopB fin k n = false) : fin.toList.isEmpty = true := by
  simp [stopB] at h
  simp [h]
set_option maxHeartbeats 16000000 in
theorem l3At_any (base gL gO gV gP cL cO cV cP nl line : Nat) (ls : List Ln) (os : List Int) (vs : List Value) (ps : List Pt) (w : World) (h : BD w base gL gO gV gP cL cO cV cP ls os vs ps) (ok : BOk nl ls os vs ps) (hline : line ≤ nl) (hnl : nl ≤ 6) :
    Calls Tryd.prog 69 #[.agg #[.slice (some ⟨gL, 0, none⟩) ls.length cL, .slice (some ⟨gO, 0, none⟩) os.length cO, .slice (some ⟨gV, 0, none⟩) vs.length cV, .slice (some ⟨gP, 0, none⟩) ps.length cP], .int .i64 line] w fun e w' => (∃ v, e = .returned (.int .i64 v) ∧ FoundAt ps v) ∧ Below w.heap.size w w' := by
  have B1 := (Below.refl w.heap.size w).alloc (Nat.le_refl _) (.cells #[.slice (some ⟨gL, 0, none⟩) ls.length cL, .slice (some ⟨gO, 0, none⟩) os.length cO, .slice (some ⟨gV, 0, none⟩) vs.length cV, .slice (some ⟨gP, 0, none⟩) ps.length cP] 79)
  have k1 := Blk.new w 79 #[.slice (some ⟨gL, 0, none⟩) ls.length cL, .slice (some ⟨gO, 0, none⟩) os.length cO, .slice (some ⟨gV, 0, none⟩) vs.length cV, .slice (some ⟨gP, 0, none⟩) ps.length cP]
  go_enter Tryd.func69, Tryd.ntmps69
  go_wp2_with fail
  go_loopw [5] (fun i wr => ∃ k : Nat, i = .int .i64 k ∧ k ≤ ps.length ∧ Below w.heap.size w wr ∧ Blk wr w.heap.size 79 #[.slice (some ⟨gL, 0, none⟩) ls.length cL, .slice (some ⟨gO, 0, none⟩) os.length cO, .slice (some ⟨gV, 0, none⟩) vs.length cV, .slice (some ⟨gP, 0, none⟩) ps.length cP]) (fun i _ => ps.length - (intOf i).toNat)
  case atStart => exact ⟨0, rfl, Nat.zero_le _, B1, k1⟩
  case round =>
    clear B1 k1
    obtain ⟨k, rfl, hk, hb, k1⟩ := hrel
    have hp := ok.hp
    have a1 : wr.cell? ⟨w.heap.size, 1, none⟩ = some (.slice (some ⟨gO, 0, none⟩) os.length cO) := k1.cell 1
    have a3 : wr.cell? ⟨w.heap.size, 3, none⟩ = some (.slice (some ⟨gP, 0, none⟩) ps.length cP) := k1.cell 3
    by_cases hlt : k < ps.length
    · have hlt' : (k : Int) < (ps.length : Int) := by omega
      have hB := h.keep hb
      have hol : line < os.length := by have := ok.ho; omega
      have hol' : (line : Int) < (os.length : Int) := by omega
      have how := hB.owner hol
      obtain ⟨p0, p1, p2, p3, p4, p5⟩ := hB.party hlt
      have hpl := hB.plan _ (List.getElem_mem hlt)
      have hpt := ok.pt _ (List.getElem_mem hlt)
      have Hq : ∀ q, ps[k] = q → ∀ (ha : q.at_ < q.plan.2.1.length), q.fin.toList.isEmpty = true → earB (q.plan.2.1[q.at_]).1.toList = true → FoundAt ps k := fun q e ha h1 h2 => by subst e; exact .inr ⟨k, hlt, ha, rfl, h1, h2⟩
      have Hr : ∀ q, ps[k] = q → ∀ W, Below w.heap.size w W → RD W W.heap.size q.plan.1 q.plan.2.1 := fun q e W hbW => by subst e; exact Reads.of_own ((h.keep hbW).plan _ (List.getElem_mem hlt))
      obtain ⟨q, hq⟩ : ∃ q, ps[k] = q := ⟨_, rfl⟩
      rw [hq] at p0 p1 p2 p3 p4 p5 hpl hpt
      have HF := Lib.hid (Hq q hq)
      have HRD := Lib.hid (Hr q hq)
      obtain ⟨ow, hw_⟩ : ∃ ow, os[line] = ow := ⟨_, rfl⟩
      rw [hw_] at how
      clear Hq Hr hq hw_ hB h
      obtain ⟨⟨Ap, lp, cp⟩, at_, ⟨Ah, hl, ch⟩, fin, last, ear⟩ := q
      simp only [rowV] at p0 p1 p2 p3 p4 p5 hpl hpt HF HRD
      cases hst : stopB fin at_ lp.length
      · have hat := stopB_false hst
        have hfe := stopB_false' hst
        have hat' : (at_ : Int) < (lp.length : Int) := by omega
        have hRD : RD wr wr.heap.size Ap lp := Reads.of_own hpl
        obtain ⟨ad, hA, hbl, d1, d2, d3⟩ := hRD.at_ hat
        have hok := hpt.2.2.1 _ (List.getElem_mem hat)
        obtain ⟨dd, hdd⟩ : ∃ dd, lp[at_] = dd := ⟨_, rfl⟩
        have HF2 := Lib.hid (HF.out hat hfe)
        simp only [hdd] at HF2
        rw [hdd] at d1 d2 d3 hok
        subst hA
        have h9 : (lp[at_].2.1 == 9) = false := by rw [hdd, beq_eq_false_iff_ne]; have := hok.2.2.1; omega
        clear hRD hpl hpt HF d3 hok
        cases hear : earB dd.1.toList
        · skip
          have SS1 : Hid ((fun w' => w'.cell? ⟨w.heap.size, 1, none⟩ = some (.slice (some ⟨gO, 0, none⟩) os.length cO) ∧ w'.cell? ⟨w.heap.size, 3, none⟩ = some (.slice (some ⟨gP, 0, none⟩) ps.length cP) ∧ w'.cell? ⟨gP, k * 6, none⟩ = some (.slice (some ad) lp.length cp) ∧ w'.cell? ⟨gP, k * 6 + 1, none⟩ = some (.int .i64 at_) ∧ w'.cell? ⟨gP, k * 6 + 2, none⟩ = some (.slice Ah hl.length ch) ∧ w'.cell? ⟨gP, k * 6 + 3, none⟩ = some (.string fin) ∧ w'.cell? ⟨gP, k * 6 + 4, none⟩ = some (.int .i64 last) ∧ w'.cell? ⟨gP, k * 6 + 5, none⟩ = some (.int .i64 ear) ∧ w'.cell? ⟨gO, line, none⟩ = some (.int .i64 ow) ∧ w'.cell? (ad.add (at_ * 3)) = some (.string dd.1) ∧ w'.cell? ⟨(ad.add (at_ * 3)).block, (ad.add (at_ * 3)).off + 1, none⟩ = some (.int .i64 dd.2.1)) wr.drew) := Lib.hid ⟨a1, a3, p0, p1, p2, p3, p4, p5, how, d1, d2⟩
          have BB1 : Below w.heap.size w wr.drew := hb.drew
          go_wp2_with fail
          refine wp_region_noPanic ?_
          refine wp_region_held_drew (S := (fun w' => w'.cell? ⟨w.heap.size, 1, none⟩ = some (.slice (some ⟨gO, 0, none⟩) os.length cO) ∧ w'.cell? ⟨w.heap.size, 3, none⟩ = some (.slice (some ⟨gP, 0, none⟩) ps.length cP) ∧ w'.cell? ⟨gP, k * 6, none⟩ = some (.slice (some ad) lp.length cp) ∧ w'.cell? ⟨gP, k * 6 + 1, none⟩ = some (.int .i64 at_) ∧ w'.cell? ⟨gP, k * 6 + 2, none⟩ = some (.slice Ah hl.length ch) ∧ w'.cell? ⟨gP, k * 6 + 3, none⟩ = some (.string fin) ∧ w'.cell? ⟨gP, k * 6 + 4, none⟩ = some (.int .i64 last) ∧ w'.cell? ⟨gP, k * 6 + 5, none⟩ = some (.int .i64 ear) ∧ w'.cell? ⟨gO, line, none⟩ = some (.int .i64 ow) ∧ w'.cell? (ad.add (at_ * 3)) = some (.string dd.1) ∧ w'.cell? ⟨(ad.add (at_ * 3)).block, (ad.add (at_ * 3)).off + 1, none⟩ = some (.int .i64 dd.2.1))) (by kernel_rfl) (⟨a1, a3, p0, p1, p2, p3, p4, p5, how, d1, d2⟩) (fun hHeld => ?_)
          refine' wpAnyH_take (i := 0) (oi := _) (v := _) rfl (by kernel_rfl) (by kernel_rfl) (by kernel_rfl) (fun _ _ _ h => h) (Or.inl ⟨by rfl, ?hy0q2⟩) hHeld ?rest0q2
          case hy0q2 => (intro w' hSw; (try dsimp only at hSw); go_simp; try with_reducible rfl)
          case' rest0q2 => try simp only [Act.put, List.setIfInBounds_toArray, List.set_cons_zero, List.set_cons_succ, List.getElem_toArray, List.getElem_cons_succ, List.getElem_cons_zero]
          refine' wpAnyH_take (i := 1) (oi := _) (v := _) rfl (by kernel_rfl) (by kernel_rfl) (by kernel_rfl) (fun _ _ _ h => h) (Or.inl ⟨by rfl, ?hy1q2⟩) hHeld ?rest1q2
          case hy1q2 => (intro w' hSw; (try dsimp only at hSw); go_simp; try with_reducible rfl)
          case' rest1q2 => try simp only [Act.put, List.setIfInBounds_toArray, List.set_cons_zero, List.set_cons_succ, List.getElem_toArray, List.getElem_cons_succ, List.getElem_cons_zero]
          refine' wpAnyH_take (i := 2) (oi := _) (v := _) rfl (by kernel_rfl) (by kernel_rfl) (by kernel_rfl) (fun _ _ _ h => h) (Or.inl ⟨by rfl, ?hy2q2⟩) hHeld ?rest2q2
          case hy2q2 => (intro w' hSw; (try dsimp only at hSw); go_simp; try with_reducible rfl)
          case' rest2q2 => try simp only [Act.put, List.setIfInBounds_toArray, List.set_cons_zero, List.set_cons_succ, List.getElem_toArray, List.getElem_cons_succ, List.getElem_cons_zero]
          refine' wpAnyH_take (i := 3) (oi := _) (v := _) rfl (by kernel_rfl) (by kernel_rfl) (by kernel_rfl) (fun _ _ _ h => h) (Or.inl ⟨by rfl, ?hy3q2⟩) hHeld ?rest3q2
          case hy3q2 => (intro w' hSw; (try dsimp only at hSw); go_simp; try with_reducible rfl)
          case' rest3q2 => try simp only [Act.put, List.setIfInBounds_toArray, List.set_cons_zero, List.set_cons_succ, List.getElem_toArray, List.getElem_cons_succ, List.getElem_cons_zero]
          refine' wpAnyH_take (i := 4) (oi := _) (v := _) rfl (by kernel_rfl) (by kernel_rfl) (by kernel_rfl) (fun _ _ _ h => h) (Or.inl ⟨by rfl, ?hy4q2⟩) hHeld ?rest4q2
          case hy4q2 => (intro w' hSw; (try dsimp only at hSw); go_simp; try with_reducible rfl)
          case' rest4q2 => try simp only [Act.put, List.setIfInBounds_toArray, List.set_cons_zero, List.set_cons_succ, List.getElem_toArray, List.getElem_cons_succ, List.getElem_cons_zero]
          refine wpAnyH_ready (rs := [5]) (by kernel_rfl) (by simp) ?_
          refine AllReadyH.cons (o := _) rfl (fun K hK => ?_) AllReadyH.nil
          go_simp
          refine (l3Stopped_any _ _ _ _ _ _ _ _ _).mono ?_
          rintro e w2 ⟨rfl, hb2⟩
          rw [hst]
          have SS2 : Hid ((fun w' => w'.cell? ⟨w.heap.size, 1, none⟩ = some (.slice (some ⟨gO, 0, none⟩) os.length cO) ∧ w'.cell? ⟨w.heap.size, 3, none⟩ = some (.slice (some ⟨gP, 0, none⟩) ps.length cP) ∧ w'.cell? ⟨gP, k * 6, none⟩ = some (.slice (some ad) lp.length cp) ∧ w'.cell? ⟨gP, k * 6 + 1, none⟩ = some (.int .i64 at_) ∧ w'.cell? ⟨gP, k * 6 + 2, none⟩ = some (.slice Ah hl.length ch) ∧ w'.cell? ⟨gP, k * 6 + 3, none⟩ = some (.string fin) ∧ w'.cell? ⟨gP, k * 6 + 4, none⟩ = some (.int .i64 last) ∧ w'.cell? ⟨gP, k * 6 + 5, none⟩ = some (.int .i64 ear) ∧ w'.cell? ⟨gO, line, none⟩ = some (.int .i64 ow) ∧ w'.cell? (ad.add (at_ * 3)) = some (.string dd.1) ∧ w'.cell? ⟨(ad.add (at_ * 3)).block, (ad.add (at_ * 3)).off + 1, none⟩ = some (.int .i64 dd.2.1)) w2) := Lib.hid (⟨keepC hb2 SS1.out.1, keepC hb2 SS1.out.2.1, keepC hb2 SS1.out.2.2.1, keepC hb2 SS1.out.2.2.2.1, keepC hb2 SS1.out.2.2.2.2.1, keepC hb2 SS1.out.2.2.2.2.2.1, keepC hb2 SS1.out.2.2.2.2.2.2.1, keepC hb2 SS1.out.2.2.2.2.2.2.2.1, keepC hb2 SS1.out.2.2.2.2.2.2.2.2.1, keepC hb2 SS1.out.2.2.2.2.2.2.2.2.2.1, keepC hb2 SS1.out.2.2.2.2.2.2.2.2.2.2⟩)
          have BB2 := BB1.trans (hb2.mono BB1.size)
          try go_wp2_with fail
          refine hK.out _ _ (SS2.out) (fun hHeld => ?_)
          clear hK K
          try simp only [Act.put, List.setIfInBounds_toArray, List.set_cons_zero, List.set_cons_succ, List.getElem_toArray, List.getElem_cons_succ, List.getElem_cons_zero]
          refine' wpAnyH_take (i := 6) (oi := _) (v := _) rfl (by kernel_rfl) (by kernel_rfl) (by kernel_rfl) (fun _ _ _ h => h) (Or.inl ⟨by rfl, ?hy6q2⟩) hHeld ?rest6q2
          case hy6q2 => (intro w' hSw; (try dsimp only at hSw); go_simp; try with_reducible rfl)
          case' rest6q2 => try simp only [Act.put, List.setIfInBounds_toArray, List.set_cons_zero, List.set_cons_succ, List.getElem_toArray, List.getElem_cons_succ, List.getElem_cons_zero]
          refine' wpAnyH_take (i := 7) (oi := _) (v := _) rfl (by kernel_rfl) (by kernel_rfl) (by kernel_rfl) (fun _ _ _ h => h) (Or.inl ⟨by rfl, ?hy7q2⟩) hHeld ?rest7q2
          case hy7q2 => (intro w' hSw; (try dsimp only at hSw); go_simp; try with_reducible rfl)
          case' rest7q2 => try simp only [Act.put, List.setIfInBounds_toArray, List.set_cons_zero, List.set_cons_succ, List.getElem_toArray, List.getElem_cons_succ, List.getElem_cons_zero]
          refine' wpAnyH_take (i := 8) (oi := _) (v := _) rfl (by kernel_rfl) (by kernel_rfl) (by kernel_rfl) (fun _ _ _ h => h) (Or.inl ⟨by rfl, ?hy8q2⟩) hHeld ?rest8q2
          case hy8q2 => (intro w' hSw; (try dsimp only at hSw); go_simp; try with_reducible rfl)
          case' rest8q2 => try simp only [Act.put, List.setIfInBounds_toArray, List.set_cons_zero, List.set_cons_succ, List.getElem_toArray, List.getElem_cons_succ, List.getElem_cons_zero]
          refine' wpAnyH_take (i := 9) (oi := _) (v := _) rfl (by kernel_rfl) (by kernel_rfl) (by kernel_rfl) (fun _ _ _ h => h) (Or.inl ⟨by rfl, ?hy9q2⟩) hHeld ?rest9q2
          case hy9q2 => (intro w' hSw; (try dsimp only at hSw); go_simp; try with_reducible rfl)
          case' rest9q2 => try simp only [Act.put, List.setIfInBounds_toArray, List.set_cons_zero, List.set_cons_succ, List.getElem_toArray, List.getElem_cons_succ, List.getElem_cons_zero]
          refine' wpAnyH_take (i := 10) (oi := _) (v := _) rfl (by kernel_rfl) (by kernel_rfl) (by kernel_rfl) (fun _ _ _ h => h) (Or.inl ⟨by rfl, ?hy10q2⟩) hHeld ?rest10q2
          case hy10q2 => (intro w' hSw; (try dsimp only at hSw); go_simp; try with_reducible rfl)
          case' rest10q2 => try simp only [Act.put, List.setIfInBounds_toArray, List.set_cons_zero, List.set_cons_succ, List.getElem_toArray, List.getElem_cons_succ, List.getElem_cons_zero]
          refine' wpAnyH_take (i := 11) (oi := _) (v := _) rfl (by kernel_rfl) (by kernel_rfl) (by kernel_rfl) (fun _ _ _ h => h) (Or.inl ⟨by rfl, ?hy11q2⟩) hHeld ?rest11q2
          case hy11q2 => (intro w' hSw; (try dsimp only at hSw); go_simp; try with_reducible rfl)
          case' rest11q2 => try simp only [Act.put, List.setIfInBounds_toArray, List.set_cons_zero, List.set_cons_succ, List.getElem_toArray, List.getElem_cons_succ, List.getElem_cons_zero]
          refine' wpAnyH_take (i := 12) (oi := _) (v := _) rfl (by kernel_rfl) (by kernel_rfl) (by kernel_rfl) (fun _ _ _ h => h) (Or.inl ⟨by rfl, ?hy12q2⟩) hHeld ?rest12q2
          case hy12q2 => (intro w' hSw; (try dsimp only at hSw); go_simp; try with_reducible rfl)
          case' rest12q2 => try simp only [Act.put, List.setIfInBounds_toArray, List.set_cons_zero, List.set_cons_succ, List.getElem_toArray, List.getElem_cons_succ, List.getElem_cons_zero]
          refine' wpAnyH_take (i := 13) (oi := _) (v := _) rfl (by kernel_rfl) (by kernel_rfl) (by kernel_rfl) (fun _ _ _ h => h) (Or.inl ⟨by rfl, ?hy13q2⟩) hHeld ?rest13q2
          case hy13q2 => (intro w' hSw; (try dsimp only at hSw); go_simp; try with_reducible rfl)
          case' rest13q2 => try simp only [Act.put, List.setIfInBounds_toArray, List.set_cons_zero, List.set_cons_succ, List.getElem_toArray, List.getElem_cons_succ, List.getElem_cons_zero]
          refine' wpAnyH_take (i := 14) (oi := _) (v := _) rfl (by kernel_rfl) (by kernel_rfl) (by kernel_rfl) (fun _ _ _ h => h) (Or.inl ⟨by rfl, ?hy14q2⟩) hHeld ?rest14q2
          case hy14q2 => (intro w' hSw; (try dsimp only at hSw); go_simp; try with_reducible rfl)
          case' rest14q2 => try simp only [Act.put, List.setIfInBounds_toArray, List.set_cons_zero, List.set_cons_succ, List.getElem_toArray, List.getElem_cons_succ, List.getElem_cons_zero]
          refine' wpAnyH_take (i := 15) (oi := _) (v := _) rfl (by kernel_rfl) (by kernel_rfl) (by kernel_rfl) (fun _ _ _ h => h) (Or.inl ⟨by rfl, ?hy15q2⟩) hHeld ?rest15q2
          case hy15q2 => (intro w' hSw; (try dsimp only at hSw); go_simp; try with_reducible rfl)
          case' rest15q2 => try simp only [Act.put, List.setIfInBounds_toArray, List.set_cons_zero, List.set_cons_succ, List.getElem_toArray, List.getElem_cons_succ, List.getElem_cons_zero]
          refine' wpAnyH_take (i := 16) (oi := _) (v := _) rfl (by kernel_rfl) (by kernel_rfl) (by kernel_rfl) (fun _ _ _ h => h) (Or.inl ⟨by rfl, ?hy16q2⟩) hHeld ?rest16q2
          case hy16q2 => (intro w' hSw; (try dsimp only at hSw); go_simp; try with_reducible rfl)
          case' rest16q2 => try simp only [Act.put, List.setIfInBounds_toArray, List.set_cons_zero, List.set_cons_succ, List.getElem_toArray, List.getElem_cons_succ, List.getElem_cons_zero]
          refine' wpAnyH_take (i := 17) (oi := _) (v := _) rfl (by kernel_rfl) (by kernel_rfl) (by kernel_rfl) (fun _ _ _ h => h) (Or.inl ⟨by rfl, ?hy17q2⟩) hHeld ?rest17q2
          case hy17q2 => (intro w' hSw; (try dsimp only at hSw); go_simp; try with_reducible rfl)
          case' rest17q2 => try simp only [Act.put, List.setIfInBounds_toArray, List.set_cons_zero, List.set_cons_succ, List.getElem_toArray, List.getElem_cons_succ, List.getElem_cons_zero]
          refine' wpAnyH_take (i := 18) (oi := _) (v := _) rfl (by kernel_rfl) (by kernel_rfl) (by kernel_rfl) (fun _ _ _ h => h) (Or.inl ⟨by rfl, ?hy18q2⟩) hHeld ?rest18q2
          case hy18q2 => (intro w' hSw; (try dsimp only at hSw); go_simp; try with_reducible rfl)
          case' rest18q2 => try simp only [Act.put, List.setIfInBounds_toArray, List.set_cons_zero, List.set_cons_succ, List.getElem_toArray, List.getElem_cons_succ, List.getElem_cons_zero]
          refine' wpAnyH_take (i := 19) (oi := _) (v := _) rfl (by kernel_rfl) (by kernel_rfl) (by kernel_rfl) (fun _ _ _ h => h) (Or.inl ⟨by rfl, ?hy19q2⟩) hHeld ?rest19q2
          case hy19q2 => (intro w' hSw; (try dsimp only at hSw); go_simp; try with_reducible rfl)
          case' rest19q2 => try simp only [Act.put, List.setIfInBounds_toArray, List.set_cons_zero, List.set_cons_succ, List.getElem_toArray, List.getElem_cons_succ, List.getElem_cons_zero]
          refine' wpAnyH_take (i := 20) (oi := _) (v := _) rfl (by kernel_rfl) (by kernel_rfl) (by kernel_rfl) (fun _ _ _ h => h) (Or.inl ⟨by rfl, ?hy20q2⟩) hHeld ?rest20q2
          case hy20q2 => (intro w' hSw; (try dsimp only at hSw); go_simp; try with_reducible rfl)
          case' rest20q2 => try simp only [Act.put, List.setIfInBounds_toArray, List.set_cons_zero, List.set_cons_succ, List.getElem_toArray, List.getElem_cons_succ, List.getElem_cons_zero]
          refine' wpAnyH_take (i := 21) (oi := _) (v := _) rfl (by kernel_rfl) (by kernel_rfl) (by kernel_rfl) (fun _ _ _ h => h) (Or.inl ⟨by rfl, ?hy21q2⟩) hHeld ?rest21q2
          case hy21q2 => (intro w' hSw; (try dsimp only at hSw); go_simp; try with_reducible rfl)
          case' rest21q2 => try simp only [Act.put, List.setIfInBounds_toArray, List.set_cons_zero, List.set_cons_succ, List.getElem_toArray, List.getElem_cons_succ, List.getElem_cons_zero]
          refine' wpAnyH_take (i := 22) (oi := _) (v := _) rfl (by kernel_rfl) (by kernel_rfl) (by kernel_rfl) (fun _ _ _ h => h) (Or.inl ⟨by rfl, ?hy22q2⟩) hHeld ?rest22q2
          case hy22q2 => (intro w' hSw; (try dsimp only at hSw); go_simp; try with_reducible rfl)
          case' rest22q2 => try simp only [Act.put, List.setIfInBounds_toArray, List.set_cons_zero, List.set_cons_succ, List.getElem_toArray, List.getElem_cons_succ, List.getElem_cons_zero]
          refine wpAnyH_ready (rs := [23]) (by kernel_rfl) (by simp) ?_
          refine AllReadyH.cons (o := _) rfl (fun K hK => ?_) AllReadyH.nil
          go_simp
          refine (l3Takes_any _ _).mono ?_
          rintro e w3 ⟨rfl, rfl⟩
          rw [hear]
          have BB3 := BB2
          have SS3 := SS2
          try go_wp2_with fail
          refine hK.out _ _ (SS3.out) (fun hHeld => ?_)
          clear hK K
          try simp only [Act.put, List.setIfInBounds_toArray, List.set_cons_zero, List.set_cons_succ, List.getElem_toArray, List.getElem_cons_succ, List.getElem_cons_zero]
          refine' wpAnyH_take (i := 24) (oi := _) (v := _) rfl (by kernel_rfl) (by kernel_rfl) (by kernel_rfl) (fun _ _ _ h => h) (Or.inl ⟨by rfl, ?hy24q2⟩) hHeld ?rest24q2
          case hy24q2 => (intro w' hSw; (try dsimp only at hSw); go_simp; try with_reducible rfl)
          case' rest24q2 => try simp only [Act.put, List.setIfInBounds_toArray, List.set_cons_zero, List.set_cons_succ, List.getElem_toArray, List.getElem_cons_succ, List.getElem_cons_zero]
          refine' wpAnyH_take (i := 25) (oi := _) (v := _) rfl (by kernel_rfl) (by kernel_rfl) (by kernel_rfl) (fun _ _ _ h => h) (Or.inl ⟨by rfl, ?hy25q2⟩) hHeld ?rest25q2
          case hy25q2 => (intro w' hSw; (try dsimp only at hSw); go_simp; try with_reducible rfl)
          case' rest25q2 => try simp only [Act.put, List.setIfInBounds_toArray, List.set_cons_zero, List.set_cons_succ, List.getElem_toArray, List.getElem_cons_succ, List.getElem_cons_zero]
          refine' wpAnyH_take (i := 26) (oi := _) (v := _) rfl (by kernel_rfl) (by kernel_rfl) (by kernel_rfl) (fun _ _ _ h => h) (Or.inr ⟨by rfl, rfl⟩) hHeld ?rest26q2
          case' rest26q2 => try simp only [Act.put, List.setIfInBounds_toArray, List.set_cons_zero, List.set_cons_succ, List.getElem_toArray, List.getElem_cons_succ, List.getElem_cons_zero]
          refine' wpAnyH_take (i := 27) (oi := _) (v := _) rfl (by kernel_rfl) (by kernel_rfl) (by kernel_rfl) (fun _ _ _ h => h) (Or.inr ⟨by rfl, rfl⟩) hHeld ?rest27q2
          case' rest27q2 => try simp only [Act.put, List.setIfInBounds_toArray, List.set_cons_zero, List.set_cons_succ, List.getElem_toArray, List.getElem_cons_succ, List.getElem_cons_zero]
          refine' wpAnyH_take (i := 28) (oi := _) (v := _) rfl (by kernel_rfl) (by kernel_rfl) (by kernel_rfl) (fun _ _ _ h => h) (Or.inr ⟨by rfl, rfl⟩) hHeld ?rest28q2
          case' rest28q2 => try simp only [Act.put, List.setIfInBounds_toArray, List.set_cons_zero, List.set_cons_succ, List.getElem_toArray, List.getElem_cons_succ, List.getElem_cons_zero]
          refine' wpAnyH_take (i := 29) (oi := _) (v := _) rfl (by kernel_rfl) (by kernel_rfl) (by kernel_rfl) (fun _ _ _ h => h) (Or.inr ⟨by rfl, rfl⟩) hHeld ?rest29q2
          case' rest29q2 => try simp only [Act.put, List.setIfInBounds_toArray, List.set_cons_zero, List.set_cons_succ, List.getElem_toArray, List.getElem_cons_succ, List.getElem_cons_zero]
          refine' wpAnyH_take (i := 30) (oi := _) (v := _) rfl (by kernel_rfl) (by kernel_rfl) (by kernel_rfl) (fun _ _ _ h => h) (Or.inr ⟨by rfl, rfl⟩) hHeld ?rest30q2
          case' rest30q2 => try simp only [Act.put, List.setIfInBounds_toArray, List.set_cons_zero, List.set_cons_succ, List.getElem_toArray, List.getElem_cons_succ, List.getElem_cons_zero]
          refine' wpAnyH_take (i := 31) (oi := _) (v := _) rfl (by kernel_rfl) (by kernel_rfl) (by kernel_rfl) (fun _ _ _ h => h) (Or.inr ⟨by rfl, rfl⟩) hHeld ?rest31q2
          case' rest31q2 => try simp only [Act.put, List.setIfInBounds_toArray, List.set_cons_zero, List.set_cons_succ, List.getElem_toArray, List.getElem_cons_succ, List.getElem_cons_zero]
          refine' wpAnyH_take (i := 32) (oi := _) (v := _) rfl (by kernel_rfl) (by kernel_rfl) (by kernel_rfl) (fun _ _ _ h => h) (Or.inr ⟨by rfl, rfl⟩) hHeld ?rest32q2
          case' rest32q2 => try simp only [Act.put, List.setIfInBounds_toArray, List.set_cons_zero, List.set_cons_succ, List.getElem_toArray, List.getElem_cons_succ, List.getElem_cons_zero]
          refine' wpAnyH_take (i := 33) (oi := _) (v := _) rfl (by kernel_rfl) (by kernel_rfl) (by kernel_rfl) (fun _ _ _ h => h) (Or.inr ⟨by rfl, rfl⟩) hHeld ?rest33q2
          case' rest33q2 => try simp only [Act.put, List.setIfInBounds_toArray, List.set_cons_zero, List.set_cons_succ, List.getElem_toArray, List.getElem_cons_succ, List.getElem_cons_zero]
          refine' wpAnyH_take (i := 34) (oi := _) (v := _) rfl (by kernel_rfl) (by kernel_rfl) (by kernel_rfl) (fun _ _ _ h => h) (Or.inl ⟨by rfl, ?hy34q2⟩) hHeld ?rest34q2
          case hy34q2 => (intro w' hSw; (try dsimp only at hSw); go_simp; try with_reducible rfl)
          case' rest34q2 => try simp only [Act.put, List.setIfInBounds_toArray, List.set_cons_zero, List.set_cons_succ, List.getElem_toArray, List.getElem_cons_succ, List.getElem_cons_zero]
          refine' wpAnyH_take (i := 35) (oi := _) (v := _) rfl (by kernel_rfl) (by kernel_rfl) (by kernel_rfl) (fun _ _ _ h => h) (Or.inl ⟨by rfl, ?hy35q2⟩) hHeld ?rest35q2
          case hy35q2 => (intro w' hSw; (try dsimp only at hSw); go_simp; try with_reducible rfl)
          case' rest35q2 => try simp only [Act.put, List.setIfInBounds_toArray, List.set_cons_zero, List.set_cons_succ, List.getElem_toArray, List.getElem_cons_succ, List.getElem_cons_zero]
          refine' wpAnyH_take (i := 36) (oi := _) (v := _) rfl (by kernel_rfl) (by kernel_rfl) (by kernel_rfl) (fun _ _ _ h => h) (Or.inr ⟨by rfl, rfl⟩) hHeld ?rest36q2
          case' rest36q2 => try simp only [Act.put, List.setIfInBounds_toArray, List.set_cons_zero, List.set_cons_succ, List.getElem_toArray, List.getElem_cons_succ, List.getElem_cons_zero]
          refine' wpAnyH_take (i := 37) (oi := _) (v := _) rfl (by kernel_rfl) (by kernel_rfl) (by kernel_rfl) (fun _ _ _ h => h) (Or.inr ⟨by rfl, rfl⟩) hHeld ?rest37q2
          case' rest37q2 => try simp only [Act.put, List.setIfInBounds_toArray, List.set_cons_zero, List.set_cons_succ, List.getElem_toArray, List.getElem_cons_succ, List.getElem_cons_zero]
          refine' wpAnyH_take (i := 38) (oi := _) (v := _) rfl (by kernel_rfl) (by kernel_rfl) (by kernel_rfl) (fun _ _ _ h => h) (Or.inr ⟨by rfl, rfl⟩) hHeld ?rest38q2
          case' rest38q2 => try simp only [Act.put, List.setIfInBounds_toArray, List.set_cons_zero, List.set_cons_succ, List.getElem_toArray, List.getElem_cons_succ, List.getElem_cons_zero]
          refine' wpAnyH_take (i := 39) (oi := _) (v := _) rfl (by kernel_rfl) (by kernel_rfl) (by kernel_rfl) (fun _ _ _ h => h) (Or.inr ⟨by rfl, rfl⟩) hHeld ?rest39q2
          case' rest39q2 => try simp only [Act.put, List.setIfInBounds_toArray, List.set_cons_zero, List.set_cons_succ, List.getElem_toArray, List.getElem_cons_succ, List.getElem_cons_zero]
          refine' wpAnyH_take (i := 40) (oi := _) (v := _) rfl (by kernel_rfl) (by kernel_rfl) (by kernel_rfl) (fun _ _ _ h => h) (Or.inr ⟨by rfl, rfl⟩) hHeld ?rest40q2
          case' rest40q2 => try simp only [Act.put, List.setIfInBounds_toArray, List.set_cons_zero, List.set_cons_succ, List.getElem_toArray, List.getElem_cons_succ, List.getElem_cons_zero]
          refine' wpAnyH_take (i := 41) (oi := _) (v := _) rfl (by kernel_rfl) (by kernel_rfl) (by kernel_rfl) (fun _ _ _ h => h) (Or.inr ⟨by rfl, rfl⟩) hHeld ?rest41q2
          case' rest41q2 => try simp only [Act.put, List.setIfInBounds_toArray, List.set_cons_zero, List.set_cons_succ, List.getElem_toArray, List.getElem_cons_succ, List.getElem_cons_zero]
          refine' wpAnyH_take (i := 42) (oi := _) (v := _) rfl (by kernel_rfl) (by kernel_rfl) (by kernel_rfl) (fun _ _ _ h => h) (Or.inr ⟨by rfl, rfl⟩) hHeld ?rest42q2
          case' rest42q2 => try simp only [Act.put, List.setIfInBounds_toArray, List.set_cons_zero, List.set_cons_succ, List.getElem_toArray, List.getElem_cons_succ, List.getElem_cons_zero]
          refine' wpAnyH_take (i := 43) (oi := _) (v := _) rfl (by kernel_rfl) (by kernel_rfl) (by kernel_rfl) (fun _ _ _ h => h) (Or.inl ⟨by rfl, ?hy43q2⟩) hHeld ?rest43q2
          case hy43q2 => (intro w' hSw; (try dsimp only at hSw); go_simp; try with_reducible rfl)
          case' rest43q2 => try simp only [Act.put, List.setIfInBounds_toArray, List.set_cons_zero, List.set_cons_succ, List.getElem_toArray, List.getElem_cons_succ, List.getElem_cons_zero]
          refine wpAnyH_done (by kernel_rfl) ?_ _
          refine NoPanic.normal ?_
          go_wp2_with fail
          go_roundw
          case rel => exact ⟨k + 1, by congr 1, by omega, BB3, k1.drew.below hb2 k1.lt⟩
          case measure => simp [intOf]; omega
        · cases hle : (dd.2.1 == (line : Int))
          · skip
            have SS1 : Hid ((fun w' => w'.cell? ⟨w.heap.size, 1, none⟩ = some (.slice (some ⟨gO, 0, none⟩) os.length cO) ∧ w'.cell? ⟨w.heap.size, 3, none⟩ = some (.slice (some ⟨gP, 0, none⟩) ps.length cP) ∧ w'.cell? ⟨gP, k * 6, none⟩ = some (.slice (some ad) lp.length cp) ∧ w'.cell? ⟨gP, k * 6 + 1, none⟩ = some (.int .i64 at_) ∧ w'.cell? ⟨gP, k * 6 + 2, none⟩ = some (.slice Ah hl.length ch) ∧ w'.cell? ⟨gP, k * 6 + 3, none⟩ = some (.string fin) ∧ w'.cell? ⟨gP, k * 6 + 4, none⟩ = some (.int .i64 last) ∧ w'.cell? ⟨gP, k * 6 + 5, none⟩ = some (.int .i64 ear) ∧ w'.cell? ⟨gO, line, none⟩ = some (.int .i64 ow) ∧ w'.cell? (ad.add (at_ * 3)) = some (.string dd.1) ∧ w'.cell? ⟨(ad.add (at_ * 3)).block, (ad.add (at_ * 3)).off + 1, none⟩ = some (.int .i64 dd.2.1)) wr.drew) := Lib.hid ⟨a1, a3, p0, p1, p2, p3, p4, p5, how, d1, d2⟩
            have BB1 : Below w.heap.size w wr.drew := hb.drew
            go_wp2_with fail
            refine wp_region_noPanic ?_
            refine wp_region_held_drew (S := (fun w' => w'.cell? ⟨w.heap.size, 1, none⟩ = some (.slice (some ⟨gO, 0, none⟩) os.length cO) ∧ w'.cell? ⟨w.heap.size, 3, none⟩ = some (.slice (some ⟨gP, 0, none⟩) ps.length cP) ∧ w'.cell? ⟨gP, k * 6, none⟩ = some (.slice (some ad) lp.length cp) ∧ w'.cell? ⟨gP, k * 6 + 1, none⟩ = some (.int .i64 at_) ∧ w'.cell? ⟨gP, k * 6 + 2, none⟩ = some (.slice Ah hl.length ch) ∧ w'.cell? ⟨gP, k * 6 + 3, none⟩ = some (.string fin) ∧ w'.cell? ⟨gP, k * 6 + 4, none⟩ = some (.int .i64 last) ∧ w'.cell? ⟨gP, k * 6 + 5, none⟩ = some (.int .i64 ear) ∧ w'.cell? ⟨gO, line, none⟩ = some (.int .i64 ow) ∧ w'.cell? (ad.add (at_ * 3)) = some (.string dd.1) ∧ w'.cell? ⟨(ad.add (at_ * 3)).block, (ad.add (at_ * 3)).off + 1, none⟩ = some (.int .i64 dd.2.1))) (by kernel_rfl) (⟨a1, a3, p0, p1, p2, p3, p4, p5, how, d1, d2⟩) (fun hHeld => ?_)
            refine' wpAnyH_take (i := 0) (oi := _) (v := _) rfl (by kernel_rfl) (by kernel_rfl) (by kernel_rfl) (fun _ _ _ h => h) (Or.inl ⟨by rfl, ?hy0q3⟩) hHeld ?rest0q3
            case hy0q3 => (intro w' hSw; (try dsimp only at hSw); go_simp; try with_reducible rfl)
            case' rest0q3 => try simp only [Act.put, List.setIfInBounds_toArray, List.set_cons_zero, List.set_cons_succ, List.getElem_toArray, List.getElem_cons_succ, List.getElem_cons_zero]
            refine' wpAnyH_take (i := 1) (oi := _) (v := _) rfl (by kernel_rfl) (by kernel_rfl) (by kernel_rfl) (fun _ _ _ h => h) (Or.inl ⟨by rfl, ?hy1q3⟩) hHeld ?rest1q3
            case hy1q3 => (intro w' hSw; (try dsimp only at hSw); go_simp; try with_reducible rfl)
            case' rest1q3 => try simp only [Act.put, List.setIfInBounds_toArray, List.set_cons_zero, List.set_cons_succ, List.getElem_toArray, List.getElem_cons_succ, List.getElem_cons_zero]
            refine' wpAnyH_take (i := 2) (oi := _) (v := _) rfl (by kernel_rfl) (by kernel_rfl) (by kernel_rfl) (fun _ _ _ h => h) (Or.inl ⟨by rfl, ?hy2q3⟩) hHeld ?rest2q3
            case hy2q3 => (intro w' hSw; (try dsimp only at hSw); go_simp; try with_reducible rfl)
            case' rest2q3 => try simp only [Act.put, List.setIfInBounds_toArray, List.set_cons_zero, List.set_cons_succ, List.getElem_toArray, List.getElem_cons_succ, List.getElem_cons_zero]
            refine' wpAnyH_take (i := 3) (oi := _) (v := _) rfl (by kernel_rfl) (by kernel_rfl) (by kernel_rfl) (fun _ _ _ h => h) (Or.inl ⟨by rfl, ?hy3q3⟩) hHeld ?rest3q3
            case hy3q3 => (intro w' hSw; (try dsimp only at hSw); go_simp; try with_reducible rfl)
            case' rest3q3 => try simp only [Act.put, List.setIfInBounds_toArray, List.set_cons_zero, List.set_cons_succ, List.getElem_toArray, List.getElem_cons_succ, List.getElem_cons_zero]
            refine' wpAnyH_take (i := 4) (oi := _) (v := _) rfl (by kernel_rfl) (by kernel_rfl) (by kernel_rfl) (fun _ _ _ h => h) (Or.inl ⟨by rfl, ?hy4q3⟩) hHeld ?rest4q3
            case hy4q3 => (intro w' hSw; (try dsimp only at hSw); go_simp; try with_reducible rfl)
            case' rest4q3 => try simp only [Act.put, List.setIfInBounds_toArray, List.set_cons_zero, List.set_cons_succ, List.getElem_toArray, List.getElem_cons_succ, List.getElem_cons_zero]
            refine wpAnyH_ready (rs := [5]) (by kernel_rfl) (by simp) ?_
            refine AllReadyH.cons (o := _) rfl (fun K hK => ?_) AllReadyH.nil
            go_simp
            refine (l3Stopped_any _ _ _ _ _ _ _ _ _).mono ?_
            rintro e w2 ⟨rfl, hb2⟩
            rw [hst]
            have SS2 : Hid ((fun w' => w'.cell? ⟨w.heap.size, 1, none⟩ = some (.slice (some ⟨gO, 0, none⟩) os.length cO) ∧ w'.cell? ⟨w.heap.size, 3, none⟩ = some (.slice (some ⟨gP, 0, none⟩) ps.length cP) ∧ w'.cell? ⟨gP, k * 6, none⟩ = some (.slice (some ad) lp.length cp) ∧ w'.cell? ⟨gP, k * 6 + 1, none⟩ = some (.int .i64 at_) ∧ w'.cell? ⟨gP, k * 6 + 2, none⟩ = some (.slice Ah hl.length ch) ∧ w'.cell? ⟨gP, k * 6 + 3, none⟩ = some (.string fin) ∧ w'.cell? ⟨gP, k * 6 + 4, none⟩ = some (.int .i64 last) ∧ w'.cell? ⟨gP, k * 6 + 5, none⟩ = some (.int .i64 ear) ∧ w'.cell? ⟨gO, line, none⟩ = some (.int .i64 ow) ∧ w'.cell? (ad.add (at_ * 3)) = some (.string dd.1) ∧ w'.cell? ⟨(ad.add (at_ * 3)).block, (ad.add (at_ * 3)).off + 1, none⟩ = some (.int .i64 dd.2.1)) w2) := Lib.hid (⟨keepC hb2 SS1.out.1, keepC hb2 SS1.out.2.1, keepC hb2 SS1.out.2.2.1, keepC hb2 SS1.out.2.2.2.1, keepC hb2 SS1.out.2.2.2.2.1, keepC hb2 SS1.out.2.2.2.2.2.1, keepC hb2 SS1.out.2.2.2.2.2.2.1, keepC hb2 SS1.out.2.2.2.2.2.2.2.1, keepC hb2 SS1.out.2.2.2.2.2.2.2.2.1, keepC hb2 SS1.out.2.2.2.2.2.2.2.2.2.1, keepC hb2 SS1.out.2.2.2.2.2.2.2.2.2.2⟩)
            have BB2 := BB1.trans (hb2.mono BB1.size)
            try go_wp2_with fail
            refine hK.out _ _ (SS2.out) (fun hHeld => ?_)
            clear hK K
            try simp only [Act.put, List.setIfInBounds_toArray, List.set_cons_zero, List.set_cons_succ, List.getElem_toArray, List.getElem_cons_succ, List.getElem_cons_zero]
            refine' wpAnyH_take (i := 6) (oi := _) (v := _) rfl (by kernel_rfl) (by kernel_rfl) (by kernel_rfl) (fun _ _ _ h => h) (Or.inl ⟨by rfl, ?hy6q3⟩) hHeld ?rest6q3
            case hy6q3 => (intro w' hSw; (try dsimp only at hSw); go_simp; try with_reducible rfl)
            case' rest6q3 => try simp only [Act.put, List.setIfInBounds_toArray, List.set_cons_zero, List.set_cons_succ, List.getElem_toArray, List.getElem_cons_succ, List.getElem_cons_zero]
            refine' wpAnyH_take (i := 7) (oi := _) (v := _) rfl (by kernel_rfl) (by kernel_rfl) (by kernel_rfl) (fun _ _ _ h => h) (Or.inl ⟨by rfl, ?hy7q3⟩) hHeld ?rest7q3
            case hy7q3 => (intro w' hSw; (try dsimp only at hSw); go_simp; try with_reducible rfl)
            case' rest7q3 => try simp only [Act.put, List.setIfInBounds_toArray, List.set_cons_zero, List.set_cons_succ, List.getElem_toArray, List.getElem_cons_succ, List.getElem_cons_zero]
            refine' wpAnyH_take (i := 8) (oi := _) (v := _) rfl (by kernel_rfl) (by kernel_rfl) (by kernel_rfl) (fun _ _ _ h => h) (Or.inl ⟨by rfl, ?hy8q3⟩) hHeld ?rest8q3
            case hy8q3 => (intro w' hSw; (try dsimp only at hSw); go_simp; try with_reducible rfl)
            case' rest8q3 => try simp only [Act.put, List.setIfInBounds_toArray, List.set_cons_zero, List.set_cons_succ, List.getElem_toArray, List.getElem_cons_succ, List.getElem_cons_zero]
            refine' wpAnyH_take (i := 9) (oi := _) (v := _) rfl (by kernel_rfl) (by kernel_rfl) (by kernel_rfl) (fun _ _ _ h => h) (Or.inl ⟨by rfl, ?hy9q3⟩) hHeld ?rest9q3
            case hy9q3 => (intro w' hSw; (try dsimp only at hSw); go_simp; try with_reducible rfl)
            case' rest9q3 => try simp only [Act.put, List.setIfInBounds_toArray, List.set_cons_zero, List.set_cons_succ, List.getElem_toArray, List.getElem_cons_succ, List.getElem_cons_zero]
            refine' wpAnyH_take (i := 10) (oi := _) (v := _) rfl (by kernel_rfl) (by kernel_rfl) (by kernel_rfl) (fun _ _ _ h => h) (Or.inl ⟨by rfl, ?hy10q3⟩) hHeld ?rest10q3
            case hy10q3 => (intro w' hSw; (try dsimp only at hSw); go_simp; try with_reducible rfl)
            case' rest10q3 => try simp only [Act.put, List.setIfInBounds_toArray, List.set_cons_zero, List.set_cons_succ, List.getElem_toArray, List.getElem_cons_succ, List.getElem_cons_zero]
            refine' wpAnyH_take (i := 11) (oi := _) (v := _) rfl (by kernel_rfl) (by kernel_rfl) (by kernel_rfl) (fun _ _ _ h => h) (Or.inl ⟨by rfl, ?hy11q3⟩) hHeld ?rest11q3
            case hy11q3 => (intro w' hSw; (try dsimp only at hSw); go_simp; try with_reducible rfl)
            case' rest11q3 => try simp only [Act.put, List.setIfInBounds_toArray, List.set_cons_zero, List.set_cons_succ, List.getElem_toArray, List.getElem_cons_succ, List.getElem_cons_zero]
            refine' wpAnyH_take (i := 12) (oi := _) (v := _) rfl (by kernel_rfl) (by kernel_rfl) (by kernel_rfl) (fun _ _ _ h => h) (Or.inl ⟨by rfl, ?hy12q3⟩) hHeld ?rest12q3
            case hy12q3 => (intro w' hSw; (try dsimp only at hSw); go_simp; try with_reducible rfl)
            case' rest12q3 => try simp only [Act.put, List.setIfInBounds_toArray, List.set_cons_zero, List.set_cons_succ, List.getElem_toArray, List.getElem_cons_succ, List.getElem_cons_zero]
            refine' wpAnyH_take (i := 13) (oi := _) (v := _) rfl (by kernel_rfl) (by kernel_rfl) (by kernel_rfl) (fun _ _ _ h => h) (Or.inl ⟨by rfl, ?hy13q3⟩) hHeld ?rest13q3
            case hy13q3 => (intro w' hSw; (try dsimp only at hSw); go_simp; try with_reducible rfl)
            case' rest13q3 => try simp only [Act.put, List.setIfInBounds_toArray, List.set_cons_zero, List.set_cons_succ, List.getElem_toArray, List.getElem_cons_succ, List.getElem_cons_zero]
            refine' wpAnyH_take (i := 14) (oi := _) (v := _) rfl (by kernel_rfl) (by kernel_rfl) (by kernel_rfl) (fun _ _ _ h => h) (Or.inl ⟨by rfl, ?hy14q3⟩) hHeld ?rest14q3
            case hy14q3 => (intro w' hSw; (try dsimp only at hSw); go_simp; try with_reducible rfl)
            case' rest14q3 => try simp only [Act.put, List.setIfInBounds_toArray, List.set_cons_zero, List.set_cons_succ, List.getElem_toArray, List.getElem_cons_succ, List.getElem_cons_zero]
            refine' wpAnyH_take (i := 15) (oi := _) (v := _) rfl (by kernel_rfl) (by kernel_rfl) (by kernel_rfl) (fun _ _ _ h => h) (Or.inl ⟨by rfl, ?hy15q3⟩) hHeld ?rest15q3
            case hy15q3 => (intro w' hSw; (try dsimp only at hSw); go_simp; try with_reducible rfl)
            case' rest15q3 => try simp only [Act.put, List.setIfInBounds_toArray, List.set_cons_zero, List.set_cons_succ, List.getElem_toArray, List.getElem_cons_succ, List.getElem_cons_zero]
            refine' wpAnyH_take (i := 16) (oi := _) (v := _) rfl (by kernel_rfl) (by kernel_rfl) (by kernel_rfl) (fun _ _ _ h => h) (Or.inl ⟨by rfl, ?hy16q3⟩) hHeld ?rest16q3
            case hy16q3 => (intro w' hSw; (try dsimp only at hSw); go_simp; try with_reducible rfl)
            case' rest16q3 => try simp only [Act.put, List.setIfInBounds_toArray, List.set_cons_zero, List.set_cons_succ, List.getElem_toArray, List.getElem_cons_succ, List.getElem_cons_zero]
            refine' wpAnyH_take (i := 17) (oi := _) (v := _) rfl (by kernel_rfl) (by kernel_rfl) (by kernel_rfl) (fun _ _ _ h => h) (Or.inl ⟨by rfl, ?hy17q3⟩) hHeld ?rest17q3
            case hy17q3 => (intro w' hSw; (try dsimp only at hSw); go_simp; try with_reducible rfl)
            case' rest17q3 => try simp only [Act.put, List.setIfInBounds_toArray, List.set_cons_zero, List.set_cons_succ, List.getElem_toArray, List.getElem_cons_succ, List.getElem_cons_zero]
            refine' wpAnyH_take (i := 18) (oi := _) (v := _) rfl (by kernel_rfl) (by kernel_rfl) (by kernel_rfl) (fun _ _ _ h => h) (Or.inl ⟨by rfl, ?hy18q3⟩) hHeld ?rest18q3
            case hy18q3 => (intro w' hSw; (try dsimp only at hSw); go_simp; try with_reducible rfl)
            case' rest18q3 => try simp only [Act.put, List.setIfInBounds_toArray, List.set_cons_zero, List.set_cons_succ, List.getElem_toArray, List.getElem_cons_succ, List.getElem_cons_zero]
            refine' wpAnyH_take (i := 19) (oi := _) (v := _) rfl (by kernel_rfl) (by kernel_rfl) (by kernel_rfl) (fun _ _ _ h => h) (Or.inl ⟨by rfl, ?hy19q3⟩) hHeld ?rest19q3
            case hy19q3 => (intro w' hSw; (try dsimp only at hSw); go_simp; try with_reducible rfl)
            case' rest19q3 => try simp only [Act.put, List.setIfInBounds_toArray, List.set_cons_zero, List.set_cons_succ, List.getElem_toArray, List.getElem_cons_succ, List.getElem_cons_zero]
            refine' wpAnyH_take (i := 20) (oi := _) (v := _) rfl (by kernel_rfl) (by kernel_rfl) (by kernel_rfl) (fun _ _ _ h => h) (Or.inl ⟨by rfl, ?hy20q3⟩) hHeld ?rest20q3
            case hy20q3 => (intro w' hSw; (try dsimp only at hSw); go_simp; try with_reducible rfl)
            case' rest20q3 => try simp only [Act.put, List.setIfInBounds_toArray, List.set_cons_zero, List.set_cons_succ, List.getElem_toArray, List.getElem_cons_succ, List.getElem_cons_zero]
            refine' wpAnyH_take (i := 21) (oi := _) (v := _) rfl (by kernel_rfl) (by kernel_rfl) (by kernel_rfl) (fun _ _ _ h => h) (Or.inl ⟨by rfl, ?hy21q3⟩) hHeld ?rest21q3
            case hy21q3 => (intro w' hSw; (try dsimp only at hSw); go_simp; try with_reducible rfl)
            case' rest21q3 => try simp only [Act.put, List.setIfInBounds_toArray, List.set_cons_zero, List.set_cons_succ, List.getElem_toArray, List.getElem_cons_succ, List.getElem_cons_zero]
            refine' wpAnyH_take (i := 22) (oi := _) (v := _) rfl (by kernel_rfl) (by kernel_rfl) (by kernel_rfl) (fun _ _ _ h => h) (Or.inl ⟨by rfl, ?hy22q3⟩) hHeld ?rest22q3
            case hy22q3 => (intro w' hSw; (try dsimp only at hSw); go_simp; try with_reducible rfl)
            case' rest22q3 => try simp only [Act.put, List.setIfInBounds_toArray, List.set_cons_zero, List.set_cons_succ, List.getElem_toArray, List.getElem_cons_succ, List.getElem_cons_zero]
            refine wpAnyH_ready (rs := [23]) (by kernel_rfl) (by simp) ?_
            refine AllReadyH.cons (o := _) rfl (fun K hK => ?_) AllReadyH.nil
            go_simp
            refine (l3Takes_any _ _).mono ?_
            rintro e w3 ⟨rfl, rfl⟩
            rw [hear]
            have BB3 := BB2
            have SS3 := SS2
            try go_wp2_with fail
            refine hK.out _ _ (SS3.out) (fun hHeld => ?_)
            clear hK K
            try simp only [Act.put, List.setIfInBounds_toArray, List.set_cons_zero, List.set_cons_succ, List.getElem_toArray, List.getElem_cons_succ, List.getElem_cons_zero]
            refine' wpAnyH_take (i := 24) (oi := _) (v := _) rfl (by kernel_rfl) (by kernel_rfl) (by kernel_rfl) (fun _ _ _ h => h) (Or.inl ⟨by rfl, ?hy24q3⟩) hHeld ?rest24q3
            case hy24q3 => (intro w' hSw; (try dsimp only at hSw); go_simp; try with_reducible rfl)
            case' rest24q3 => try simp only [Act.put, List.setIfInBounds_toArray, List.set_cons_zero, List.set_cons_succ, List.getElem_toArray, List.getElem_cons_succ, List.getElem_cons_zero]
            refine' wpAnyH_take (i := 25) (oi := _) (v := _) rfl (by kernel_rfl) (by kernel_rfl) (by kernel_rfl) (fun _ _ _ h => h) (Or.inl ⟨by rfl, ?hy25q3⟩) hHeld ?rest25q3
            case hy25q3 => (intro w' hSw; (try dsimp only at hSw); go_simp; try with_reducible rfl)
            case' rest25q3 => try simp only [Act.put, List.setIfInBounds_toArray, List.set_cons_zero, List.set_cons_succ, List.getElem_toArray, List.getElem_cons_succ, List.getElem_cons_zero]
            refine' wpAnyH_take (i := 26) (oi := _) (v := _) rfl (by kernel_rfl) (by kernel_rfl) (by kernel_rfl) (fun _ _ _ h => h) (Or.inl ⟨by rfl, ?hy26q3⟩) hHeld ?rest26q3
            case hy26q3 => (intro w' hSw; (try dsimp only at hSw); go_simp; try with_reducible rfl)
            case' rest26q3 => try simp only [Act.put, List.setIfInBounds_toArray, List.set_cons_zero, List.set_cons_succ, List.getElem_toArray, List.getElem_cons_succ, List.getElem_cons_zero]
            refine' wpAnyH_take (i := 27) (oi := _) (v := _) rfl (by kernel_rfl) (by kernel_rfl) (by kernel_rfl) (fun _ _ _ h => h) (Or.inl ⟨by rfl, ?hy27q3⟩) hHeld ?rest27q3
            case hy27q3 => (intro w' hSw; (try dsimp only at hSw); go_simp; try with_reducible rfl)
            case' rest27q3 => try simp only [Act.put, List.setIfInBounds_toArray, List.set_cons_zero, List.set_cons_succ, List.getElem_toArray, List.getElem_cons_succ, List.getElem_cons_zero]
            refine' wpAnyH_take (i := 28) (oi := _) (v := _) rfl (by kernel_rfl) (by kernel_rfl) (by kernel_rfl) (fun _ _ _ h => h) (Or.inl ⟨by rfl, ?hy28q3⟩) hHeld ?rest28q3
            case hy28q3 => (intro w' hSw; (try dsimp only at hSw); go_simp; try with_reducible rfl)
            case' rest28q3 => try simp only [Act.put, List.setIfInBounds_toArray, List.set_cons_zero, List.set_cons_succ, List.getElem_toArray, List.getElem_cons_succ, List.getElem_cons_zero]
            refine' wpAnyH_take (i := 29) (oi := _) (v := _) rfl (by kernel_rfl) (by kernel_rfl) (by kernel_rfl) (fun _ _ _ h => h) (Or.inl ⟨by rfl, ?hy29q3⟩) hHeld ?rest29q3
            case hy29q3 => (intro w' hSw; (try dsimp only at hSw); go_simp; try with_reducible rfl)
            case' rest29q3 => try simp only [Act.put, List.setIfInBounds_toArray, List.set_cons_zero, List.set_cons_succ, List.getElem_toArray, List.getElem_cons_succ, List.getElem_cons_zero]
            refine' wpAnyH_take (i := 30) (oi := _) (v := _) rfl (by kernel_rfl) (by kernel_rfl) (by kernel_rfl) (fun _ _ _ h => h) (Or.inl ⟨by rfl, ?hy30q3⟩) hHeld ?rest30q3
            case hy30q3 => (intro w' hSw; (try dsimp only at hSw); go_simp; try with_reducible rfl)
            case' rest30q3 => try simp only [Act.put, List.setIfInBounds_toArray, List.set_cons_zero, List.set_cons_succ, List.getElem_toArray, List.getElem_cons_succ, List.getElem_cons_zero]
            refine' wpAnyH_take (i := 32) (oi := _) (v := _) rfl (by kernel_rfl) (by kernel_rfl) (by kernel_rfl) (fun _ _ _ h => h) (Or.inl ⟨by rfl, ?hy32q3⟩) hHeld ?rest32q3
            case hy32q3 => (intro w' hSw; (try dsimp only at hSw); go_simp; try with_reducible rfl)
            case' rest32q3 => try simp only [Act.put, List.setIfInBounds_toArray, List.set_cons_zero, List.set_cons_succ, List.getElem_toArray, List.getElem_cons_succ, List.getElem_cons_zero]
            refine wpAnyH_ready (rs := [31]) (by kernel_rfl) (by simp) ?_
            refine AllReadyH.cons (o := _) rfl (fun K hK => ?_) AllReadyH.nil
            go_simp
            refine (l3Line_any _ lp cp at_ _ _ _ _ _ (HRD.out _ BB3) hat h9).mono ?_
            rintro e w4 ⟨rfl, hb4⟩
            rw [hdd]
            have SS4 : Hid ((fun w' => w'.cell? ⟨w.heap.size, 1, none⟩ = some (.slice (some ⟨gO, 0, none⟩) os.length cO) ∧ w'.cell? ⟨w.heap.size, 3, none⟩ = some (.slice (some ⟨gP, 0, none⟩) ps.length cP) ∧ w'.cell? ⟨gP, k * 6, none⟩ = some (.slice (some ad) lp.length cp) ∧ w'.cell? ⟨gP, k * 6 + 1, none⟩ = some (.int .i64 at_) ∧ w'.cell? ⟨gP, k * 6 + 2, none⟩ = some (.slice Ah hl.length ch) ∧ w'.cell? ⟨gP, k * 6 + 3, none⟩ = some (.string fin) ∧ w'.cell? ⟨gP, k * 6 + 4, none⟩ = some (.int .i64 last) ∧ w'.cell? ⟨gP, k * 6 + 5, none⟩ = some (.int .i64 ear) ∧ w'.cell? ⟨gO, line, none⟩ = some (.int .i64 ow) ∧ w'.cell? (ad.add (at_ * 3)) = some (.string dd.1) ∧ w'.cell? ⟨(ad.add (at_ * 3)).block, (ad.add (at_ * 3)).off + 1, none⟩ = some (.int .i64 dd.2.1)) w4) := Lib.hid (⟨keepC hb4 SS3.out.1, keepC hb4 SS3.out.2.1, keepC hb4 SS3.out.2.2.1, keepC hb4 SS3.out.2.2.2.1, keepC hb4 SS3.out.2.2.2.2.1, keepC hb4 SS3.out.2.2.2.2.2.1, keepC hb4 SS3.out.2.2.2.2.2.2.1, keepC hb4 SS3.out.2.2.2.2.2.2.2.1, keepC hb4 SS3.out.2.2.2.2.2.2.2.2.1, keepC hb4 SS3.out.2.2.2.2.2.2.2.2.2.1, keepC hb4 SS3.out.2.2.2.2.2.2.2.2.2.2⟩)
            have BB4 := BB3.trans (hb4.mono BB3.size)
            try go_wp2_with fail
            refine hK.out _ _ (SS4.out) (fun hHeld => ?_)
            clear hK K
            try simp only [Act.put, List.setIfInBounds_toArray, List.set_cons_zero, List.set_cons_succ, List.getElem_toArray, List.getElem_cons_succ, List.getElem_cons_zero]
            refine' wpAnyH_take (i := 33) (oi := _) (v := _) rfl (by kernel_rfl) (by kernel_rfl) (by kernel_rfl) (fun _ _ _ h => h) (Or.inl ⟨by rfl, ?hy33q3⟩) hHeld ?rest33q3
            case hy33q3 => (intro w' hSw; (try dsimp only at hSw); go_simp; try with_reducible rfl)
            case' rest33q3 => try simp only [Act.put, List.setIfInBounds_toArray, List.set_cons_zero, List.set_cons_succ, List.getElem_toArray, List.getElem_cons_succ, List.getElem_cons_zero]
            refine' wpAnyH_take (i := 34) (oi := _) (v := _) rfl (by kernel_rfl) (by kernel_rfl) (by kernel_rfl) (fun _ _ _ h => h) (Or.inl ⟨by rfl, ?hy34q3⟩) hHeld ?rest34q3
            case hy34q3 => (intro w' hSw; (try dsimp only at hSw); go_simp; try with_reducible rfl)
            case' rest34q3 => try simp only [Act.put, List.setIfInBounds_toArray, List.set_cons_zero, List.set_cons_succ, List.getElem_toArray, List.getElem_cons_succ, List.getElem_cons_zero]
            refine' wpAnyH_take (i := 35) (oi := _) (v := _) rfl (by kernel_rfl) (by kernel_rfl) (by kernel_rfl) (fun _ _ _ h => h) (Or.inl ⟨by rfl, ?hy35q3⟩) hHeld ?rest35q3
            case hy35q3 => (intro w' hSw; (try dsimp only at hSw); go_simp; try with_reducible rfl)
            case' rest35q3 => try simp only [Act.put, List.setIfInBounds_toArray, List.set_cons_zero, List.set_cons_succ, List.getElem_toArray, List.getElem_cons_succ, List.getElem_cons_zero]
            refine' wpAnyH_take (i := 36) (oi := _) (v := _) rfl (by kernel_rfl) (by kernel_rfl) (by kernel_rfl) (fun _ _ _ h => h) (Or.inr ⟨by rfl, rfl⟩) hHeld ?rest36q3
            case' rest36q3 => try simp only [Act.put, List.setIfInBounds_toArray, List.set_cons_zero, List.set_cons_succ, List.getElem_toArray, List.getElem_cons_succ, List.getElem_cons_zero]
            refine' wpAnyH_take (i := 37) (oi := _) (v := _) rfl (by kernel_rfl) (by kernel_rfl) (by kernel_rfl) (fun _ _ _ h => h) (Or.inr ⟨by rfl, rfl⟩) hHeld ?rest37q3
            case' rest37q3 => try simp only [Act.put, List.setIfInBounds_toArray, List.set_cons_zero, List.set_cons_succ, List.getElem_toArray, List.getElem_cons_succ, List.getElem_cons_zero]
            refine' wpAnyH_take (i := 38) (oi := _) (v := _) rfl (by kernel_rfl) (by kernel_rfl) (by kernel_rfl) (fun _ _ _ h => h) (Or.inr ⟨by rfl, rfl⟩) hHeld ?rest38q3
            case' rest38q3 => try simp only [Act.put, List.setIfInBounds_toArray, List.set_cons_zero, List.set_cons_succ, List.getElem_toArray, List.getElem_cons_succ, List.getElem_cons_zero]
            refine' wpAnyH_take (i := 39) (oi := _) (v := _) rfl (by kernel_rfl) (by kernel_rfl) (by kernel_rfl) (fun _ _ _ h => h) (Or.inr ⟨by rfl, rfl⟩) hHeld ?rest39q3
            case' rest39q3 => try simp only [Act.put, List.setIfInBounds_toArray, List.set_cons_zero, List.set_cons_succ, List.getElem_toArray, List.getElem_cons_succ, List.getElem_cons_zero]
            refine' wpAnyH_take (i := 40) (oi := _) (v := _) rfl (by kernel_rfl) (by kernel_rfl) (by kernel_rfl) (fun _ _ _ h => h) (Or.inr ⟨by rfl, rfl⟩) hHeld ?rest40q3
            case' rest40q3 => try simp only [Act.put, List.setIfInBounds_toArray, List.set_cons_zero, List.set_cons_succ, List.getElem_toArray, List.getElem_cons_succ, List.getElem_cons_zero]
            refine' wpAnyH_take (i := 41) (oi := _) (v := _) rfl (by kernel_rfl) (by kernel_rfl) (by kernel_rfl) (fun _ _ _ h => h) (Or.inr ⟨by rfl, rfl⟩) hHeld ?rest41q3
            case' rest41q3 => try simp only [Act.put, List.setIfInBounds_toArray, List.set_cons_zero, List.set_cons_succ, List.getElem_toArray, List.getElem_cons_succ, List.getElem_cons_zero]
            refine' wpAnyH_take (i := 42) (oi := _) (v := _) rfl (by kernel_rfl) (by kernel_rfl) (by kernel_rfl) (fun _ _ _ h => h) (Or.inr ⟨by rfl, rfl⟩) hHeld ?rest42q3
            case' rest42q3 => try simp only [Act.put, List.setIfInBounds_toArray, List.set_cons_zero, List.set_cons_succ, List.getElem_toArray, List.getElem_cons_succ, List.getElem_cons_zero]
            refine' wpAnyH_take (i := 43) (oi := _) (v := _) rfl (by kernel_rfl) (by kernel_rfl) (by kernel_rfl) (fun _ _ _ h => h) (Or.inl ⟨by rfl, ?hy43q3⟩) hHeld ?rest43q3
            case hy43q3 => (intro w' hSw; (try dsimp only at hSw); go_simp; try with_reducible rfl)
            case' rest43q3 => try simp only [Act.put, List.setIfInBounds_toArray, List.set_cons_zero, List.set_cons_succ, List.getElem_toArray, List.getElem_cons_succ, List.getElem_cons_zero]
            refine wpAnyH_done (by kernel_rfl) ?_ _
            refine NoPanic.normal ?_
            go_wp2_with fail
            go_roundw
            case rel => exact ⟨k + 1, by congr 1, by omega, BB4, (k1.drew.below hb2 k1.lt).below hb4 (Nat.lt_of_lt_of_le k1.lt hb2.size)⟩
            case measure => simp [intOf]; omega
          · cases hoe : (ow == (k : Int))
            · skip
              have SS1 : Hid ((fun w' => w'.cell? ⟨w.heap.size, 1, none⟩ = some (.slice (some ⟨gO, 0, none⟩) os.length cO) ∧ w'.cell? ⟨w.heap.size, 3, none⟩ = some (.slice (some ⟨gP, 0, none⟩) ps.length cP) ∧ w'.cell? ⟨gP, k * 6, none⟩ = some (.slice (some ad) lp.length cp) ∧ w'.cell? ⟨gP, k * 6 + 1, none⟩ = some (.int .i64 at_) ∧ w'.cell? ⟨gP, k * 6 + 2, none⟩ = some (.slice Ah hl.length ch) ∧ w'.cell? ⟨gP, k * 6 + 3, none⟩ = some (.string fin) ∧ w'.cell? ⟨gP, k * 6 + 4, none⟩ = some (.int .i64 last) ∧ w'.cell? ⟨gP, k * 6 + 5, none⟩ = some (.int .i64 ear) ∧ w'.cell? ⟨gO, line, none⟩ = some (.int .i64 ow) ∧ w'.cell? (ad.add (at_ * 3)) = some (.string dd.1) ∧ w'.cell? ⟨(ad.add (at_ * 3)).block, (ad.add (at_ * 3)).off + 1, none⟩ = some (.int .i64 dd.2.1)) wr.drew) := Lib.hid ⟨a1, a3, p0, p1, p2, p3, p4, p5, how, d1, d2⟩
              have BB1 : Below w.heap.size w wr.drew := hb.drew
              go_wp2_with fail
              refine wp_region_noPanic ?_
              refine wp_region_held_drew (S := (fun w' => w'.cell? ⟨w.heap.size, 1, none⟩ = some (.slice (some ⟨gO, 0, none⟩) os.length cO) ∧ w'.cell? ⟨w.heap.size, 3, none⟩ = some (.slice (some ⟨gP, 0, none⟩) ps.length cP) ∧ w'.cell? ⟨gP, k * 6, none⟩ = some (.slice (some ad) lp.length cp) ∧ w'.cell? ⟨gP, k * 6 + 1, none⟩ = some (.int .i64 at_) ∧ w'.cell? ⟨gP, k * 6 + 2, none⟩ = some (.slice Ah hl.length ch) ∧ w'.cell? ⟨gP, k * 6 + 3, none⟩ = some (.string fin) ∧ w'.cell? ⟨gP, k * 6 + 4, none⟩ = some (.int .i64 last) ∧ w'.cell? ⟨gP, k * 6 + 5, none⟩ = some (.int .i64 ear) ∧ w'.cell? ⟨gO, line, none⟩ = some (.int .i64 ow) ∧ w'.cell? (ad.add (at_ * 3)) = some (.string dd.1) ∧ w'.cell? ⟨(ad.add (at_ * 3)).block, (ad.add (at_ * 3)).off + 1, none⟩ = some (.int .i64 dd.2.1))) (by kernel_rfl) (⟨a1, a3, p0, p1, p2, p3, p4, p5, how, d1, d2⟩) (fun hHeld => ?_)
              refine' wpAnyH_take (i := 0) (oi := _) (v := _) rfl (by kernel_rfl) (by kernel_rfl) (by kernel_rfl) (fun _ _ _ h => h) (Or.inl ⟨by rfl, ?hy0q4⟩) hHeld ?rest0q4
              case hy0q4 => (intro w' hSw; (try dsimp only at hSw); go_simp; try with_reducible rfl)
              case' rest0q4 => try simp only [Act.put, List.setIfInBounds_toArray, List.set_cons_zero, List.set_cons_succ, List.getElem_toArray, List.getElem_cons_succ, List.getElem_cons_zero]
              refine' wpAnyH_take (i := 1) (oi := _) (v := _) rfl (by kernel_rfl) (by kernel_rfl) (by kernel_rfl) (fun _ _ _ h => h) (Or.inl ⟨by rfl, ?hy1q4⟩) hHeld ?rest1q4
              case hy1q4 => (intro w' hSw; (try dsimp only at hSw); go_simp; try with_reducible rfl)
              case' rest1q4 => try simp only [Act.put, List.setIfInBounds_toArray, List.set_cons_zero, List.set_cons_succ, List.getElem_toArray, List.getElem_cons_succ, List.getElem_cons_zero]
              refine' wpAnyH_take (i := 2) (oi := _) (v := _) rfl (by kernel_rfl) (by kernel_rfl) (by kernel_rfl) (fun _ _ _ h => h) (Or.inl ⟨by rfl, ?hy2q4⟩) hHeld ?rest2q4
              case hy2q4 => (intro w' hSw; (try dsimp only at hSw); go_simp; try with_reducible rfl)
              case' rest2q4 => try simp only [Act.put, List.setIfInBounds_toArray, List.set_cons_zero, List.set_cons_succ, List.getElem_toArray, List.getElem_cons_succ, List.getElem_cons_zero]
              refine' wpAnyH_take (i := 3) (oi := _) (v := _) rfl (by kernel_rfl) (by kernel_rfl) (by kernel_rfl) (fun _ _ _ h => h) (Or.inl ⟨by rfl, ?hy3q4⟩) hHeld ?rest3q4
              case hy3q4 => (intro w' hSw; (try dsimp only at hSw); go_simp; try with_reducible rfl)
              case' rest3q4 => try simp only [Act.put, List.setIfInBounds_toArray, List.set_cons_zero, List.set_cons_succ, List.getElem_toArray, List.getElem_cons_succ, List.getElem_cons_zero]
              refine' wpAnyH_take (i := 4) (oi := _) (v := _) rfl (by kernel_rfl) (by kernel_rfl) (by kernel_rfl) (fun _ _ _ h => h) (Or.inl ⟨by rfl, ?hy4q4⟩) hHeld ?rest4q4
              case hy4q4 => (intro w' hSw; (try dsimp only at hSw); go_simp; try with_reducible rfl)
              case' rest4q4 => try simp only [Act.put, List.setIfInBounds_toArray, List.set_cons_zero, List.set_cons_succ, List.getElem_toArray, List.getElem_cons_succ, List.getElem_cons_zero]
              refine wpAnyH_ready (rs := [5]) (by kernel_rfl) (by simp) ?_
              refine AllReadyH.cons (o := _) rfl (fun K hK => ?_) AllReadyH.nil
              go_simp
              refine (l3Stopped_any _ _ _ _ _ _ _ _ _).mono ?_
              rintro e w2 ⟨rfl, hb2⟩
              rw [hst]
              have SS2 : Hid ((fun w' => w'.cell? ⟨w.heap.size, 1, none⟩ = some (.slice (some ⟨gO, 0, none⟩) os.length cO) ∧ w'.cell? ⟨w.heap.size, 3, none⟩ = some (.slice (some ⟨gP, 0, none⟩) ps.length cP) ∧ w'.cell? ⟨gP, k * 6, none⟩ = some (.slice (some ad) lp.length cp) ∧ w'.cell? ⟨gP, k * 6 + 1, none⟩ = some (.int .i64 at_) ∧ w'.cell? ⟨gP, k * 6 + 2, none⟩ = some (.slice Ah hl.length ch) ∧ w'.cell? ⟨gP, k * 6 + 3, none⟩ = some (.string fin) ∧ w'.cell? ⟨gP, k * 6 + 4, none⟩ = some (.int .i64 last) ∧ w'.cell? ⟨gP, k * 6 + 5, none⟩ = some (.int .i64 ear) ∧ w'.cell? ⟨gO, line, none⟩ = some (.int .i64 ow) ∧ w'.cell? (ad.add (at_ * 3)) = some (.string dd.1) ∧ w'.cell? ⟨(ad.add (at_ * 3)).block, (ad.add (at_ * 3)).off + 1, none⟩ = some (.int .i64 dd.2.1)) w2) := Lib.hid (⟨keepC hb2 SS1.out.1, keepC hb2 SS1.out.2.1, keepC hb2 SS1.out.2.2.1, keepC hb2 SS1.out.2.2.2.1, keepC hb2 SS1.out.2.2.2.2.1, keepC hb2 SS1.out.2.2.2.2.2.1, keepC hb2 SS1.out.2.2.2.2.2.2.1, keepC hb2 SS1.out.2.2.2.2.2.2.2.1, keepC hb2 SS1.out.2.2.2.2.2.2.2.2.1, keepC hb2 SS1.out.2.2.2.2.2.2.2.2.2.1, keepC hb2 SS1.out.2.2.2.2.2.2.2.2.2.2⟩)
              have BB2 := BB1.trans (hb2.mono BB1.size)
              try go_wp2_with fail
              refine hK.out _ _ (SS2.out) (fun hHeld => ?_)
              clear hK K
              try simp only [Act.put, List.setIfInBounds_toArray, List.set_cons_zero, List.set_cons_succ, List.getElem_toArray, List.getElem_cons_succ, List.getElem_cons_zero]
              refine' wpAnyH_take (i := 6) (oi := _) (v := _) rfl (by kernel_rfl) (by kernel_rfl) (by kernel_rfl) (fun _ _ _ h => h) (Or.inl ⟨by rfl, ?hy6q4⟩) hHeld ?rest6q4
              case hy6q4 => (intro w' hSw; (try dsimp only at hSw); go_simp; try with_reducible rfl)
              case' rest6q4 => try simp only [Act.put, List.setIfInBounds_toArray, List.set_cons_zero, List.set_cons_succ, List.getElem_toArray, List.getElem_cons_succ, List.getElem_cons_zero]
              refine' wpAnyH_take (i := 7) (oi := _) (v := _) rfl (by kernel_rfl) (by kernel_rfl) (by kernel_rfl) (fun _ _ _ h => h) (Or.inl ⟨by rfl, ?hy7q4⟩) hHeld ?rest7q4
              case hy7q4 => (intro w' hSw; (try dsimp only at hSw); go_simp; try with_reducible rfl)
              case' rest7q4 => try simp only [Act.put, List.setIfInBounds_toArray, List.set_cons_zero, List.set_cons_succ, List.getElem_toArray, List.getElem_cons_succ, List.getElem_cons_zero]
              refine' wpAnyH_take (i := 8) (oi := _) (v := _) rfl (by kernel_rfl) (by kernel_rfl) (by kernel_rfl) (fun _ _ _ h => h) (Or.inl ⟨by rfl, ?hy8q4⟩) hHeld ?rest8q4
              case hy8q4 => (intro w' hSw; (try dsimp only at hSw); go_simp; try with_reducible rfl)
              case' rest8q4 => try simp only [Act.put, List.setIfInBounds_toArray, List.set_cons_zero, List.set_cons_succ, List.getElem_toArray, List.getElem_cons_succ, List.getElem_cons_zero]
              refine' wpAnyH_take (i := 9) (oi := _) (v := _) rfl (by kernel_rfl) (by kernel_rfl) (by kernel_rfl) (fun _ _ _ h => h) (Or.inl ⟨by rfl, ?hy9q4⟩) hHeld ?rest9q4
              case hy9q4 => (intro w' hSw; (try dsimp only at hSw); go_simp; try with_reducible rfl)
              case' rest9q4 => try simp only [Act.put, List.setIfInBounds_toArray, List.set_cons_zero, List.set_cons_succ, List.getElem_toArray, List.getElem_cons_succ, List.getElem_cons_zero]
              refine' wpAnyH_take (i := 10) (oi := _) (v := _) rfl (by kernel_rfl) (by kernel_rfl) (by kernel_rfl) (fun _ _ _ h => h) (Or.inl ⟨by rfl, ?hy10q4⟩) hHeld ?rest10q4
              case hy10q4 => (intro w' hSw; (try dsimp only at hSw); go_simp; try with_reducible rfl)
              case' rest10q4 => try simp only [Act.put, List.setIfInBounds_toArray, List.set_cons_zero, List.set_cons_succ, List.getElem_toArray, List.getElem_cons_succ, List.getElem_cons_zero]
              refine' wpAnyH_take (i := 11) (oi := _) (v := _) rfl (by kernel_rfl) (by kernel_rfl) (by kernel_rfl) (fun _ _ _ h => h) (Or.inl ⟨by rfl, ?hy11q4⟩) hHeld ?rest11q4
              case hy11q4 => (intro w' hSw; (try dsimp only at hSw); go_simp; try with_reducible rfl)
              case' rest11q4 => try simp only [Act.put, List.setIfInBounds_toArray, List.set_cons_zero, List.set_cons_succ, List.getElem_toArray, List.getElem_cons_succ, List.getElem_cons_zero]
              refine' wpAnyH_take (i := 12) (oi := _) (v := _) rfl (by kernel_rfl) (by kernel_rfl) (by kernel_rfl) (fun _ _ _ h => h) (Or.inl ⟨by rfl, ?hy12q4⟩) hHeld ?rest12q4
              case hy12q4 => (intro w' hSw; (try dsimp only at hSw); go_simp; try with_reducible rfl)
              case' rest12q4 => try simp only [Act.put, List.setIfInBounds_toArray, List.set_cons_zero, List.set_cons_succ, List.getElem_toArray, List.getElem_cons_succ, List.getElem_cons_zero]
              refine' wpAnyH_take (i := 13) (oi := _) (v := _) rfl (by kernel_rfl) (by kernel_rfl) (by kernel_rfl) (fun _ _ _ h => h) (Or.inl ⟨by rfl, ?hy13q4⟩) hHeld ?rest13q4
              case hy13q4 => (intro w' hSw; (try dsimp only at hSw); go_simp; try with_reducible rfl)
              case' rest13q4 => try simp only [Act.put, List.setIfInBounds_toArray, List.set_cons_zero, List.set_cons_succ, List.getElem_toArray, List.getElem_cons_succ, List.getElem_cons_zero]
              refine' wpAnyH_take (i := 14) (oi := _) (v := _) rfl (by kernel_rfl) (by kernel_rfl) (by kernel_rfl) (fun _ _ _ h => h) (Or.inl ⟨by rfl, ?hy14q4⟩) hHeld ?rest14q4
              case hy14q4 => (intro w' hSw; (try dsimp only at hSw); go_simp; try with_reducible rfl)
              case' rest14q4 => try simp only [Act.put, List.setIfInBounds_toArray, List.set_cons_zero, List.set_cons_succ, List.getElem_toArray, List.getElem_cons_succ, List.getElem_cons_zero]
              refine' wpAnyH_take (i := 15) (oi := _) (v := _) rfl (by kernel_rfl) (by kernel_rfl) (by kernel_rfl) (fun _ _ _ h => h) (Or.inl ⟨by rfl, ?hy15q4⟩) hHeld ?rest15q4
              case hy15q4 => (intro w' hSw; (try dsimp only at hSw); go_simp; try with_reducible rfl)
              case' rest15q4 => try simp only [Act.put, List.setIfInBounds_toArray, List.set_cons_zero, List.set_cons_succ, List.getElem_toArray, List.getElem_cons_succ, List.getElem_cons_zero]
              refine' wpAnyH_take (i := 16) (oi := _) (v := _) rfl (by kernel_rfl) (by kernel_rfl) (by kernel_rfl) (fun _ _ _ h => h) (Or.inl ⟨by rfl, ?hy16q4⟩) hHeld ?rest16q4
              case hy16q4 => (intro w' hSw; (try dsimp only at hSw); go_simp; try with_reducible rfl)
              case' rest16q4 => try simp only [Act.put, List.setIfInBounds_toArray, List.set_cons_zero, List.set_cons_succ, List.getElem_toArray, List.getElem_cons_succ, List.getElem_cons_zero]
              refine' wpAnyH_take (i := 17) (oi := _) (v := _) rfl (by kernel_rfl) (by kernel_rfl) (by kernel_rfl) (fun _ _ _ h => h) (Or.inl ⟨by rfl, ?hy17q4⟩) hHeld ?rest17q4
              case hy17q4 => (intro w' hSw; (try dsimp only at hSw); go_simp; try with_reducible rfl)
              case' rest17q4 => try simp only [Act.put, List.setIfInBounds_toArray, List.set_cons_zero, List.set_cons_succ, List.getElem_toArray, List.getElem_cons_succ, List.getElem_cons_zero]
              refine' wpAnyH_take (i := 18) (oi := _) (v := _) rfl (by kernel_rfl) (by kernel_rfl) (by kernel_rfl) (fun _ _ _ h => h) (Or.inl ⟨by rfl, ?hy18q4⟩) hHeld ?rest18q4
              case hy18q4 => (intro w' hSw; (try dsimp only at hSw); go_simp; try with_reducible rfl)
              case' rest18q4 => try simp only [Act.put, List.setIfInBounds_toArray, List.set_cons_zero, List.set_cons_succ, List.getElem_toArray, List.getElem_cons_succ, List.getElem_cons_zero]
              refine' wpAnyH_take (i := 19) (oi := _) (v := _) rfl (by kernel_rfl) (by kernel_rfl) (by kernel_rfl) (fun _ _ _ h => h) (Or.inl ⟨by rfl, ?hy19q4⟩) hHeld ?rest19q4
              case hy19q4 => (intro w' hSw; (try dsimp only at hSw); go_simp; try with_reducible rfl)
              case' rest19q4 => try simp only [Act.put, List.setIfInBounds_toArray, List.set_cons_zero, List.set_cons_succ, List.getElem_toArray, List.getElem_cons_succ, List.getElem_cons_zero]
              refine' wpAnyH_take (i := 20) (oi := _) (v := _) rfl (by kernel_rfl) (by kernel_rfl) (by kernel_rfl) (fun _ _ _ h => h) (Or.inl ⟨by rfl, ?hy20q4⟩) hHeld ?rest20q4
              case hy20q4 => (intro w' hSw; (try dsimp only at hSw); go_simp; try with_reducible rfl)
              case' rest20q4 => try simp only [Act.put, List.setIfInBounds_toArray, List.set_cons_zero, List.set_cons_succ, List.getElem_toArray, List.getElem_cons_succ, List.getElem_cons_zero]
              refine' wpAnyH_take (i := 21) (oi := _) (v := _) rfl (by kernel_rfl) (by kernel_rfl) (by kernel_rfl) (fun _ _ _ h => h) (Or.inl ⟨by rfl, ?hy21q4⟩) hHeld ?rest21q4
              case hy21q4 => (intro w' hSw; (try dsimp only at hSw); go_simp; try with_reducible rfl)
              case' rest21q4 => try simp only [Act.put, List.setIfInBounds_toArray, List.set_cons_zero, List.set_cons_succ, List.getElem_toArray, List.getElem_cons_succ, List.getElem_cons_zero]
              refine' wpAnyH_take (i := 22) (oi := _) (v := _) rfl (by kernel_rfl) (by kernel_rfl) (by kernel_rfl) (fun _ _ _ h => h) (Or.inl ⟨by rfl, ?hy22q4⟩) hHeld ?rest22q4
              case hy22q4 => (intro w' hSw; (try dsimp only at hSw); go_simp; try with_reducible rfl)
              case' rest22q4 => try simp only [Act.put, List.setIfInBounds_toArray, List.set_cons_zero, List.set_cons_succ, List.getElem_toArray, List.getElem_cons_succ, List.getElem_cons_zero]
              refine wpAnyH_ready (rs := [23]) (by kernel_rfl) (by simp) ?_
              refine AllReadyH.cons (o := _) rfl (fun K hK => ?_) AllReadyH.nil
              go_simp
              refine (l3Takes_any _ _).mono ?_
              rintro e w3 ⟨rfl, rfl⟩
              rw [hear]
              have BB3 := BB2
              have SS3 := SS2
              try go_wp2_with fail
              refine hK.out _ _ (SS3.out) (fun hHeld => ?_)
              clear hK K
              try simp only [Act.put, List.setIfInBounds_toArray, List.set_cons_zero, List.set_cons_succ, List.getElem_toArray, List.getElem_cons_succ, List.getElem_cons_zero]
              refine' wpAnyH_take (i := 24) (oi := _) (v := _) rfl (by kernel_rfl) (by kernel_rfl) (by kernel_rfl) (fun _ _ _ h => h) (Or.inl ⟨by rfl, ?hy24q4⟩) hHeld ?rest24q4
              case hy24q4 => (intro w' hSw; (try dsimp only at hSw); go_simp; try with_reducible rfl)
              case' rest24q4 => try simp only [Act.put, List.setIfInBounds_toArray, List.set_cons_zero, List.set_cons_succ, List.getElem_toArray, List.getElem_cons_succ, List.getElem_cons_zero]
              refine' wpAnyH_take (i := 25) (oi := _) (v := _) rfl (by kernel_rfl) (by kernel_rfl) (by kernel_rfl) (fun _ _ _ h => h) (Or.inl ⟨by rfl, ?hy25q4⟩) hHeld ?rest25q4
              case hy25q4 => (intro w' hSw; (try dsimp only at hSw); go_simp; try with_reducible rfl)
              case' rest25q4 => try simp only [Act.put, List.setIfInBounds_toArray, List.set_cons_zero, List.set_cons_succ, List.getElem_toArray, List.getElem_cons_succ, List.getElem_cons_zero]
              refine' wpAnyH_take (i := 26) (oi := _) (v := _) rfl (by kernel_rfl) (by kernel_rfl) (by kernel_rfl) (fun _ _ _ h => h) (Or.inl ⟨by rfl, ?hy26q4⟩) hHeld ?rest26q4
              case hy26q4 => (intro w' hSw; (try dsimp only at hSw); go_simp; try with_reducible rfl)
              case' rest26q4 => try simp only [Act.put, List.setIfInBounds_toArray, List.set_cons_zero, List.set_cons_succ, List.getElem_toArray, List.getElem_cons_succ, List.getElem_cons_zero]
              refine' wpAnyH_take (i := 27) (oi := _) (v := _) rfl (by kernel_rfl) (by kernel_rfl) (by kernel_rfl) (fun _ _ _ h => h) (Or.inl ⟨by rfl, ?hy27q4⟩) hHeld ?rest27q4
              case hy27q4 => (intro w' hSw; (try dsimp only at hSw); go_simp; try with_reducible rfl)
              case' rest27q4 => try simp only [Act.put, List.setIfInBounds_toArray, List.set_cons_zero, List.set_cons_succ, List.getElem_toArray, List.getElem_cons_succ, List.getElem_cons_zero]
              refine' wpAnyH_take (i := 28) (oi := _) (v := _) rfl (by kernel_rfl) (by kernel_rfl) (by kernel_rfl) (fun _ _ _ h => h) (Or.inl ⟨by rfl, ?hy28q4⟩) hHeld ?rest28q4
              case hy28q4 => (intro w' hSw; (try dsimp only at hSw); go_simp; try with_reducible rfl)
              case' rest28q4 => try simp only [Act.put, List.setIfInBounds_toArray, List.set_cons_zero, List.set_cons_succ, List.getElem_toArray, List.getElem_cons_succ, List.getElem_cons_zero]
              refine' wpAnyH_take (i := 29) (oi := _) (v := _) rfl (by kernel_rfl) (by kernel_rfl) (by kernel_rfl) (fun _ _ _ h => h) (Or.inl ⟨by rfl, ?hy29q4⟩) hHeld ?rest29q4
              case hy29q4 => (intro w' hSw; (try dsimp only at hSw); go_simp; try with_reducible rfl)
              case' rest29q4 => try simp only [Act.put, List.setIfInBounds_toArray, List.set_cons_zero, List.set_cons_succ, List.getElem_toArray, List.getElem_cons_succ, List.getElem_cons_zero]
              refine' wpAnyH_take (i := 30) (oi := _) (v := _) rfl (by kernel_rfl) (by kernel_rfl) (by kernel_rfl) (fun _ _ _ h => h) (Or.inl ⟨by rfl, ?hy30q4⟩) hHeld ?rest30q4
              case hy30q4 => (intro w' hSw; (try dsimp only at hSw); go_simp; try with_reducible rfl)
              case' rest30q4 => try simp only [Act.put, List.setIfInBounds_toArray, List.set_cons_zero, List.set_cons_succ, List.getElem_toArray, List.getElem_cons_succ, List.getElem_cons_zero]
              refine' wpAnyH_take (i := 32) (oi := _) (v := _) rfl (by kernel_rfl) (by kernel_rfl) (by kernel_rfl) (fun _ _ _ h => h) (Or.inl ⟨by rfl, ?hy32q4⟩) hHeld ?rest32q4
              case hy32q4 => (intro w' hSw; (try dsimp only at hSw); go_simp; try with_reducible rfl)
              case' rest32q4 => try simp only [Act.put, List.setIfInBounds_toArray, List.set_cons_zero, List.set_cons_succ, List.getElem_toArray, List.getElem_cons_succ, List.getElem_cons_zero]
              refine wpAnyH_ready (rs := [31]) (by kernel_rfl) (by simp) ?_
              refine AllReadyH.cons (o := _) rfl (fun K hK => ?_) AllReadyH.nil
              go_simp
              refine (l3Line_any _ lp cp at_ _ _ _ _ _ (HRD.out _ BB3) hat h9).mono ?_
              rintro e w4 ⟨rfl, hb4⟩
              rw [hdd]
              have SS4 : Hid ((fun w' => w'.cell? ⟨w.heap.size, 1, none⟩ = some (.slice (some ⟨gO, 0, none⟩) os.length cO) ∧ w'.cell? ⟨w.heap.size, 3, none⟩ = some (.slice (some ⟨gP, 0, none⟩) ps.length cP) ∧ w'.cell? ⟨gP, k * 6, none⟩ = some (.slice (some ad) lp.length cp) ∧ w'.cell? ⟨gP, k * 6 + 1, none⟩ = some (.int .i64 at_) ∧ w'.cell? ⟨gP, k * 6 + 2, none⟩ = some (.slice Ah hl.length ch) ∧ w'.cell? ⟨gP, k * 6 + 3, none⟩ = some (.string fin) ∧ w'.cell? ⟨gP, k * 6 + 4, none⟩ = some (.int .i64 last) ∧ w'.cell? ⟨gP, k * 6 + 5, none⟩ = some (.int .i64 ear) ∧ w'.cell? ⟨gO, line, none⟩ = some (.int .i64 ow) ∧ w'.cell? (ad.add (at_ * 3)) = some (.string dd.1) ∧ w'.cell? ⟨(ad.add (at_ * 3)).block, (ad.add (at_ * 3)).off + 1, none⟩ = some (.int .i64 dd.2.1)) w4) := Lib.hid (⟨keepC hb4 SS3.out.1, keepC hb4 SS3.out.2.1, keepC hb4 SS3.out.2.2.1, keepC hb4 SS3.out.2.2.2.1, keepC hb4 SS3.out.2.2.2.2.1, keepC hb4 SS3.out.2.2.2.2.2.1, keepC hb4 SS3.out.2.2.2.2.2.2.1, keepC hb4 SS3.out.2.2.2.2.2.2.2.1, keepC hb4 SS3.out.2.2.2.2.2.2.2.2.1, keepC hb4 SS3.out.2.2.2.2.2.2.2.2.2.1, keepC hb4 SS3.out.2.2.2.2.2.2.2.2.2.2⟩)
              have BB4 := BB3.trans (hb4.mono BB3.size)
              try go_wp2_with fail
              refine hK.out _ _ (SS4.out) (fun hHeld => ?_)
              clear hK K
              try simp only [Act.put, List.setIfInBounds_toArray, List.set_cons_zero, List.set_cons_succ, List.getElem_toArray, List.getElem_cons_succ, List.getElem_cons_zero]
              refine' wpAnyH_take (i := 33) (oi := _) (v := _) rfl (by kernel_rfl) (by kernel_rfl) (by kernel_rfl) (fun _ _ _ h => h) (Or.inl ⟨by rfl, ?hy33q4⟩) hHeld ?rest33q4
              case hy33q4 => (intro w' hSw; (try dsimp only at hSw); go_simp; try with_reducible rfl)
              case' rest33q4 => try simp only [Act.put, List.setIfInBounds_toArray, List.set_cons_zero, List.set_cons_succ, List.getElem_toArray, List.getElem_cons_succ, List.getElem_cons_zero]
              refine' wpAnyH_take (i := 34) (oi := _) (v := _) rfl (by kernel_rfl) (by kernel_rfl) (by kernel_rfl) (fun _ _ _ h => h) (Or.inl ⟨by rfl, ?hy34q4⟩) hHeld ?rest34q4
              case hy34q4 => (intro w' hSw; (try dsimp only at hSw); go_simp; try with_reducible rfl)
              case' rest34q4 => try simp only [Act.put, List.setIfInBounds_toArray, List.set_cons_zero, List.set_cons_succ, List.getElem_toArray, List.getElem_cons_succ, List.getElem_cons_zero]
              refine' wpAnyH_take (i := 35) (oi := _) (v := _) rfl (by kernel_rfl) (by kernel_rfl) (by kernel_rfl) (fun _ _ _ h => h) (Or.inl ⟨by rfl, ?hy35q4⟩) hHeld ?rest35q4
              case hy35q4 => (intro w' hSw; (try dsimp only at hSw); go_simp; try with_reducible rfl)
              case' rest35q4 => try simp only [Act.put, List.setIfInBounds_toArray, List.set_cons_zero, List.set_cons_succ, List.getElem_toArray, List.getElem_cons_succ, List.getElem_cons_zero]
              refine' wpAnyH_take (i := 36) (oi := _) (v := _) rfl (by kernel_rfl) (by kernel_rfl) (by kernel_rfl) (fun _ _ _ h => h) (Or.inl ⟨by rfl, ?hy36q4⟩) hHeld ?rest36q4
              case hy36q4 => (intro w' hSw; (try dsimp only at hSw); go_simp; try with_reducible rfl)
              case' rest36q4 => try simp only [Act.put, List.setIfInBounds_toArray, List.set_cons_zero, List.set_cons_succ, List.getElem_toArray, List.getElem_cons_succ, List.getElem_cons_zero]
              refine' wpAnyH_take (i := 37) (oi := _) (v := _) rfl (by kernel_rfl) (by kernel_rfl) (by kernel_rfl) (fun _ _ _ h => h) (Or.inl ⟨by rfl, ?hy37q4⟩) hHeld ?rest37q4
              case hy37q4 => (intro w' hSw; (try dsimp only at hSw); go_simp; try with_reducible rfl)
              case' rest37q4 => try simp only [Act.put, List.setIfInBounds_toArray, List.set_cons_zero, List.set_cons_succ, List.getElem_toArray, List.getElem_cons_succ, List.getElem_cons_zero]
              refine' wpAnyH_take (i := 38) (oi := _) (v := _) rfl (by kernel_rfl) (by kernel_rfl) (by kernel_rfl) (fun _ _ _ h => h) (Or.inl ⟨by rfl, ?hy38q4⟩) hHeld ?rest38q4
              case hy38q4 => (intro w' hSw; (try dsimp only at hSw); go_simp; try with_reducible rfl)
              case' rest38q4 => try simp only [Act.put, List.setIfInBounds_toArray, List.set_cons_zero, List.set_cons_succ, List.getElem_toArray, List.getElem_cons_succ, List.getElem_cons_zero]
              refine' wpAnyH_take (i := 39) (oi := _) (v := _) rfl (by kernel_rfl) (by kernel_rfl) (by kernel_rfl) (fun _ _ _ h => h) (Or.inl ⟨by rfl, ?hy39q4⟩) hHeld ?rest39q4
              case hy39q4 => (intro w' hSw; (try dsimp only at hSw); go_simp; try with_reducible rfl)
              case' rest39q4 => try simp only [Act.put, List.setIfInBounds_toArray, List.set_cons_zero, List.set_cons_succ, List.getElem_toArray, List.getElem_cons_succ, List.getElem_cons_zero]
              refine' wpAnyH_take (i := 40) (oi := _) (v := _) rfl (by kernel_rfl) (by kernel_rfl) (by kernel_rfl) (fun _ _ _ h => h) (Or.inl ⟨by rfl, ?hy40q4⟩) hHeld ?rest40q4
              case hy40q4 => (intro w' hSw; (try dsimp only at hSw); go_simp; try with_reducible rfl)
              case' rest40q4 => try simp only [Act.put, List.setIfInBounds_toArray, List.set_cons_zero, List.set_cons_succ, List.getElem_toArray, List.getElem_cons_succ, List.getElem_cons_zero]
              refine' wpAnyH_take (i := 41) (oi := _) (v := _) rfl (by kernel_rfl) (by kernel_rfl) (by kernel_rfl) (fun _ _ _ h => h) (Or.inl ⟨by rfl, ?hy41q4⟩) hHeld ?rest41q4
              case hy41q4 => (intro w' hSw; (try dsimp only at hSw); go_simp; try with_reducible rfl)
              case' rest41q4 => try simp only [Act.put, List.setIfInBounds_toArray, List.set_cons_zero, List.set_cons_succ, List.getElem_toArray, List.getElem_cons_succ, List.getElem_cons_zero]
              refine' wpAnyH_take (i := 42) (oi := _) (v := _) rfl (by kernel_rfl) (by kernel_rfl) (by kernel_rfl) (fun _ _ _ h => h) (Or.inl ⟨by rfl, ?hy42q4⟩) hHeld ?rest42q4
              case hy42q4 => (intro w' hSw; (try dsimp only at hSw); go_simp; try with_reducible rfl)
              case' rest42q4 => try simp only [Act.put, List.setIfInBounds_toArray, List.set_cons_zero, List.set_cons_succ, List.getElem_toArray, List.getElem_cons_succ, List.getElem_cons_zero]
              refine' wpAnyH_take (i := 43) (oi := _) (v := _) rfl (by kernel_rfl) (by kernel_rfl) (by kernel_rfl) (fun _ _ _ h => h) (Or.inl ⟨by rfl, ?hy43q4⟩) hHeld ?rest43q4
              case hy43q4 => (intro w' hSw; (try dsimp only at hSw); go_simp; try with_reducible rfl)
              case' rest43q4 => try simp only [Act.put, List.setIfInBounds_toArray, List.set_cons_zero, List.set_cons_succ, List.getElem_toArray, List.getElem_cons_succ, List.getElem_cons_zero]
              refine wpAnyH_done (by kernel_rfl) ?_ _
              refine NoPanic.normal ?_
              go_wp2_with fail
              go_roundw
              case rel => exact ⟨k + 1, by congr 1, by omega, BB4, (k1.drew.below hb2 k1.lt).below hb4 (Nat.lt_of_lt_of_le k1.lt hb2.size)⟩
              case measure => simp [intOf]; omega
            · skip
              have SS1 : Hid ((fun w' => w'.cell? ⟨w.heap.size, 1, none⟩ = some (.slice (some ⟨gO, 0, none⟩) os.length cO) ∧ w'.cell? ⟨w.heap.size, 3, none⟩ = some (.slice (some ⟨gP, 0, none⟩) ps.length cP) ∧ w'.cell? ⟨gP, k * 6, none⟩ = some (.slice (some ad) lp.length cp) ∧ w'.cell? ⟨gP, k * 6 + 1, none⟩ = some (.int .i64 at_) ∧ w'.cell? ⟨gP, k * 6 + 2, none⟩ = some (.slice Ah hl.length ch) ∧ w'.cell? ⟨gP, k * 6 + 3, none⟩ = some (.string fin) ∧ w'.cell? ⟨gP, k * 6 + 4, none⟩ = some (.int .i64 last) ∧ w'.cell? ⟨gP, k * 6 + 5, none⟩ = some (.int .i64 ear) ∧ w'.cell? ⟨gO, line, none⟩ = some (.int .i64 ow) ∧ w'.cell? (ad.add (at_ * 3)) = some (.string dd.1) ∧ w'.cell? ⟨(ad.add (at_ * 3)).block, (ad.add (at_ * 3)).off + 1, none⟩ = some (.int .i64 dd.2.1)) wr.drew) := Lib.hid ⟨a1, a3, p0, p1, p2, p3, p4, p5, how, d1, d2⟩
              have BB1 : Below w.heap.size w wr.drew := hb.drew
              go_wp2_with fail
              refine wp_region_noPanic ?_
              refine wp_region_held_drew (S := (fun w' => w'.cell? ⟨w.heap.size, 1, none⟩ = some (.slice (some ⟨gO, 0, none⟩) os.length cO) ∧ w'.cell? ⟨w.heap.size, 3, none⟩ = some (.slice (some ⟨gP, 0, none⟩) ps.length cP) ∧ w'.cell? ⟨gP, k * 6, none⟩ = some (.slice (some ad) lp.length cp) ∧ w'.cell? ⟨gP, k * 6 + 1, none⟩ = some (.int .i64 at_) ∧ w'.cell? ⟨gP, k * 6 + 2, none⟩ = some (.slice Ah hl.length ch) ∧ w'.cell? ⟨gP, k * 6 + 3, none⟩ = some (.string fin) ∧ w'.cell? ⟨gP, k * 6 + 4, none⟩ = some (.int .i64 last) ∧ w'.cell? ⟨gP, k * 6 + 5, none⟩ = some (.int .i64 ear) ∧ w'.cell? ⟨gO, line, none⟩ = some (.int .i64 ow) ∧ w'.cell? (ad.add (at_ * 3)) = some (.string dd.1) ∧ w'.cell? ⟨(ad.add (at_ * 3)).block, (ad.add (at_ * 3)).off + 1, none⟩ = some (.int .i64 dd.2.1))) (by kernel_rfl) (⟨a1, a3, p0, p1, p2, p3, p4, p5, how, d1, d2⟩) (fun hHeld => ?_)
              refine' wpAnyH_take (i := 0) (oi := _) (v := _) rfl (by kernel_rfl) (by kernel_rfl) (by kernel_rfl) (fun _ _ _ h => h) (Or.inl ⟨by rfl, ?hy0q5⟩) hHeld ?rest0q5
              case hy0q5 => (intro w' hSw; (try dsimp only at hSw); go_simp; try with_reducible rfl)
              case' rest0q5 => try simp only [Act.put, List.setIfInBounds_toArray, List.set_cons_zero, List.set_cons_succ, List.getElem_toArray, List.getElem_cons_succ, List.getElem_cons_zero]
              refine' wpAnyH_take (i := 1) (oi := _) (v := _) rfl (by kernel_rfl) (by kernel_rfl) (by kernel_rfl) (fun _ _ _ h => h) (Or.inl ⟨by rfl, ?hy1q5⟩) hHeld ?rest1q5
              case hy1q5 => (intro w' hSw; (try dsimp only at hSw); go_simp; try with_reducible rfl)
              case' rest1q5 => try simp only [Act.put, List.setIfInBounds_toArray, List.set_cons_zero, List.set_cons_succ, List.getElem_toArray, List.getElem_cons_succ, List.getElem_cons_zero]
              refine' wpAnyH_take (i := 2) (oi := _) (v := _) rfl (by kernel_rfl) (by kernel_rfl) (by kernel_rfl) (fun _ _ _ h => h) (Or.inl ⟨by rfl, ?hy2q5⟩) hHeld ?rest2q5
              case hy2q5 => (intro w' hSw; (try dsimp only at hSw); go_simp; try with_reducible rfl)
              case' rest2q5 => try simp only [Act.put, List.setIfInBounds_toArray, List.set_cons_zero, List.set_cons_succ, List.getElem_toArray, List.getElem_cons_succ, List.getElem_cons_zero]
              refine' wpAnyH_take (i := 3) (oi := _) (v := _) rfl (by kernel_rfl) (by kernel_rfl) (by kernel_rfl) (fun _ _ _ h => h) (Or.inl ⟨by rfl, ?hy3q5⟩) hHeld ?rest3q5
              case hy3q5 => (intro w' hSw; (try dsimp only at hSw); go_simp; try with_reducible rfl)
              case' rest3q5 => try simp only [Act.put, List.setIfInBounds_toArray, List.set_cons_zero, List.set_cons_succ, List.getElem_toArray, List.getElem_cons_succ, List.getElem_cons_zero]
              refine' wpAnyH_take (i := 4) (oi := _) (v := _) rfl (by kernel_rfl) (by kernel_rfl) (by kernel_rfl) (fun _ _ _ h => h) (Or.inl ⟨by rfl, ?hy4q5⟩) hHeld ?rest4q5
              case hy4q5 => (intro w' hSw; (try dsimp only at hSw); go_simp; try with_reducible rfl)
              case' rest4q5 => try simp only [Act.put, List.setIfInBounds_toArray, List.set_cons_zero, List.set_cons_succ, List.getElem_toArray, List.getElem_cons_succ, List.getElem_cons_zero]
              refine wpAnyH_ready (rs := [5]) (by kernel_rfl) (by simp) ?_
              refine AllReadyH.cons (o := _) rfl (fun K hK => ?_) AllReadyH.nil
              go_simp
              refine (l3Stopped_any _ _ _ _ _ _ _ _ _).mono ?_
              rintro e w2 ⟨rfl, hb2⟩
              rw [hst]
              have SS2 : Hid ((fun w' => w'.cell? ⟨w.heap.size, 1, none⟩ = some (.slice (some ⟨gO, 0, none⟩) os.length cO) ∧ w'.cell? ⟨w.heap.size, 3, none⟩ = some (.slice (some ⟨gP, 0, none⟩) ps.length cP) ∧ w'.cell? ⟨gP, k * 6, none⟩ = some (.slice (some ad) lp.length cp) ∧ w'.cell? ⟨gP, k * 6 + 1, none⟩ = some (.int .i64 at_) ∧ w'.cell? ⟨gP, k * 6 + 2, none⟩ = some (.slice Ah hl.length ch) ∧ w'.cell? ⟨gP, k * 6 + 3, none⟩ = some (.string fin) ∧ w'.cell? ⟨gP, k * 6 + 4, none⟩ = some (.int .i64 last) ∧ w'.cell? ⟨gP, k * 6 + 5, none⟩ = some (.int .i64 ear) ∧ w'.cell? ⟨gO, line, none⟩ = some (.int .i64 ow) ∧ w'.cell? (ad.add (at_ * 3)) = some (.string dd.1) ∧ w'.cell? ⟨(ad.add (at_ * 3)).block, (ad.add (at_ * 3)).off + 1, none⟩ = some (.int .i64 dd.2.1)) w2) := Lib.hid (⟨keepC hb2 SS1.out.1, keepC hb2 SS1.out.2.1, keepC hb2 SS1.out.2.2.1, keepC hb2 SS1.out.2.2.2.1, keepC hb2 SS1.out.2.2.2.2.1, keepC hb2 SS1.out.2.2.2.2.2.1, keepC hb2 SS1.out.2.2.2.2.2.2.1, keepC hb2 SS1.out.2.2.2.2.2.2.2.1, keepC hb2 SS1.out.2.2.2.2.2.2.2.2.1, keepC hb2 SS1.out.2.2.2.2.2.2.2.2.2.1, keepC hb2 SS1.out.2.2.2.2.2.2.2.2.2.2⟩)
              have BB2 := BB1.trans (hb2.mono BB1.size)
              try go_wp2_with fail
              refine hK.out _ _ (SS2.out) (fun hHeld => ?_)
              clear hK K
              try simp only [Act.put, List.setIfInBounds_toArray, List.set_cons_zero, List.set_cons_succ, List.getElem_toArray, List.getElem_cons_succ, List.getElem_cons_zero]
              refine' wpAnyH_take (i := 6) (oi := _) (v := _) rfl (by kernel_rfl) (by kernel_rfl) (by kernel_rfl) (fun _ _ _ h => h) (Or.inl ⟨by rfl, ?hy6q5⟩) hHeld ?rest6q5
              case hy6q5 => (intro w' hSw; (try dsimp only at hSw); go_simp; try with_reducible rfl)
              case' rest6q5 => try simp only [Act.put, List.setIfInBounds_toArray, List.set_cons_zero, List.set_cons_succ, List.getElem_toArray, List.getElem_cons_succ, List.getElem_cons_zero]
              refine' wpAnyH_take (i := 7) (oi := _) (v := _) rfl (by kernel_rfl) (by kernel_rfl) (by kernel_rfl) (fun _ _ _ h => h) (Or.inl ⟨by rfl, ?hy7q5⟩) hHeld ?rest7q5
              case hy7q5 => (intro w' hSw; (try dsimp only at hSw); go_simp; try with_reducible rfl)
              case' rest7q5 => try simp only [Act.put, List.setIfInBounds_toArray, List.set_cons_zero, List.set_cons_succ, List.getElem_toArray, List.getElem_cons_succ, List.getElem_cons_zero]
              refine' wpAnyH_take (i := 8) (oi := _) (v := _) rfl (by kernel_rfl) (by kernel_rfl) (by kernel_rfl) (fun _ _ _ h => h) (Or.inl ⟨by rfl, ?hy8q5⟩) hHeld ?rest8q5
              case hy8q5 => (intro w' hSw; (try dsimp only at hSw); go_simp; try with_reducible rfl)
              case' rest8q5 => try simp only [Act.put, List.setIfInBounds_toArray, List.set_cons_zero, List.set_cons_succ, List.getElem_toArray, List.getElem_cons_succ, List.getElem_cons_zero]
              refine' wpAnyH_take (i := 9) (oi := _) (v := _) rfl (by kernel_rfl) (by kernel_rfl) (by kernel_rfl) (fun _ _ _ h => h) (Or.inl ⟨by rfl, ?hy9q5⟩) hHeld ?rest9q5
              case hy9q5 => (intro w' hSw; (try dsimp only at hSw); go_simp; try with_reducible rfl)
              case' rest9q5 => try simp only [Act.put, List.setIfInBounds_toArray, List.set_cons_zero, List.set_cons_succ, List.getElem_toArray, List.getElem_cons_succ, List.getElem_cons_zero]
              refine' wpAnyH_take (i := 10) (oi := _) (v := _) rfl (by kernel_rfl) (by kernel_rfl) (by kernel_rfl) (fun _ _ _ h => h) (Or.inl ⟨by rfl, ?hy10q5⟩) hHeld ?rest10q5
              case hy10q5 => (intro w' hSw; (try dsimp only at hSw); go_simp; try with_reducible rfl)
              case' rest10q5 => try simp only [Act.put, List.setIfInBounds_toArray, List.set_cons_zero, List.set_cons_succ, List.getElem_toArray, List.getElem_cons_succ, List.getElem_cons_zero]
              refine' wpAnyH_take (i := 11) (oi := _) (v := _) rfl (by kernel_rfl) (by kernel_rfl) (by kernel_rfl) (fun _ _ _ h => h) (Or.inl ⟨by rfl, ?hy11q5⟩) hHeld ?rest11q5
              case hy11q5 => (intro w' hSw; (try dsimp only at hSw); go_simp; try with_reducible rfl)
              case' rest11q5 => try simp only [Act.put, List.setIfInBounds_toArray, List.set_cons_zero, List.set_cons_succ, List.getElem_toArray, List.getElem_cons_succ, List.getElem_cons_zero]
              refine' wpAnyH_take (i := 12) (oi := _) (v := _) rfl (by kernel_rfl) (by kernel_rfl) (by kernel_rfl) (fun _ _ _ h => h) (Or.inl ⟨by rfl, ?hy12q5⟩) hHeld ?rest12q5
              case hy12q5 => (intro w' hSw; (try dsimp only at hSw); go_simp; try with_reducible rfl)
              case' rest12q5 => try simp only [Act.put, List.setIfInBounds_toArray, List.set_cons_zero, List.set_cons_succ, List.getElem_toArray, List.getElem_cons_succ, List.getElem_cons_zero]
              refine' wpAnyH_take (i := 13) (oi := _) (v := _) rfl (by kernel_rfl) (by kernel_rfl) (by kernel_rfl) (fun _ _ _ h => h) (Or.inl ⟨by rfl, ?hy13q5⟩) hHeld ?rest13q5
              case hy13q5 => (intro w' hSw; (try dsimp only at hSw); go_simp; try with_reducible rfl)
              case' rest13q5 => try simp only [Act.put, List.setIfInBounds_toArray, List.set_cons_zero, List.set_cons_succ, List.getElem_toArray, List.getElem_cons_succ, List.getElem_cons_zero]
              refine' wpAnyH_take (i := 14) (oi := _) (v := _) rfl (by kernel_rfl) (by kernel_rfl) (by kernel_rfl) (fun _ _ _ h => h) (Or.inl ⟨by rfl, ?hy14q5⟩) hHeld ?rest14q5
              case hy14q5 => (intro w' hSw; (try dsimp only at hSw); go_simp; try with_reducible rfl)
              case' rest14q5 => try simp only [Act.put, List.setIfInBounds_toArray, List.set_cons_zero, List.set_cons_succ, List.getElem_toArray, List.getElem_cons_succ, List.getElem_cons_zero]
              refine' wpAnyH_take (i := 15) (oi := _) (v := _) rfl (by kernel_rfl) (by kernel_rfl) (by kernel_rfl) (fun _ _ _ h => h) (Or.inl ⟨by rfl, ?hy15q5⟩) hHeld ?rest15q5
              case hy15q5 => (intro w' hSw; (try dsimp only at hSw); go_simp; try with_reducible rfl)
              case' rest15q5 => try simp only [Act.put, List.setIfInBounds_toArray, List.set_cons_zero, List.set_cons_succ, List.getElem_toArray, List.getElem_cons_succ, List.getElem_cons_zero]
              refine' wpAnyH_take (i := 16) (oi := _) (v := _) rfl (by kernel_rfl) (by kernel_rfl) (by kernel_rfl) (fun _ _ _ h => h) (Or.inl ⟨by rfl, ?hy16q5⟩) hHeld ?rest16q5
              case hy16q5 => (intro w' hSw; (try dsimp only at hSw); go_simp; try with_reducible rfl)
              case' rest16q5 => try simp only [Act.put, List.setIfInBounds_toArray, List.set_cons_zero, List.set_cons_succ, List.getElem_toArray, List.getElem_cons_succ, List.getElem_cons_zero]
              refine' wpAnyH_take (i := 17) (oi := _) (v := _) rfl (by kernel_rfl) (by kernel_rfl) (by kernel_rfl) (fun _ _ _ h => h) (Or.inl ⟨by rfl, ?hy17q5⟩) hHeld ?rest17q5
              case hy17q5 => (intro w' hSw; (try dsimp only at hSw); go_simp; try with_reducible rfl)
              case' rest17q5 => try simp only [Act.put, List.setIfInBounds_toArray, List.set_cons_zero, List.set_cons_succ, List.getElem_toArray, List.getElem_cons_succ, List.getElem_cons_zero]
              refine' wpAnyH_take (i := 18) (oi := _) (v := _) rfl (by kernel_rfl) (by kernel_rfl) (by kernel_rfl) (fun _ _ _ h => h) (Or.inl ⟨by rfl, ?hy18q5⟩) hHeld ?rest18q5
              case hy18q5 => (intro w' hSw; (try dsimp only at hSw); go_simp; try with_reducible rfl)
              case' rest18q5 => try simp only [Act.put, List.setIfInBounds_toArray, List.set_cons_zero, List.set_cons_succ, List.getElem_toArray, List.getElem_cons_succ, List.getElem_cons_zero]
              refine' wpAnyH_take (i := 19) (oi := _) (v := _) rfl (by kernel_rfl) (by kernel_rfl) (by kernel_rfl) (fun _ _ _ h => h) (Or.inl ⟨by rfl, ?hy19q5⟩) hHeld ?rest19q5
              case hy19q5 => (intro w' hSw; (try dsimp only at hSw); go_simp; try with_reducible rfl)
              case' rest19q5 => try simp only [Act.put, List.setIfInBounds_toArray, List.set_cons_zero, List.set_cons_succ, List.getElem_toArray, List.getElem_cons_succ, List.getElem_cons_zero]
              refine' wpAnyH_take (i := 20) (oi := _) (v := _) rfl (by kernel_rfl) (by kernel_rfl) (by kernel_rfl) (fun _ _ _ h => h) (Or.inl ⟨by rfl, ?hy20q5⟩) hHeld ?rest20q5
              case hy20q5 => (intro w' hSw; (try dsimp only at hSw); go_simp; try with_reducible rfl)
              case' rest20q5 => try simp only [Act.put, List.setIfInBounds_toArray, List.set_cons_zero, List.set_cons_succ, List.getElem_toArray, List.getElem_cons_succ, List.getElem_cons_zero]
              refine' wpAnyH_take (i := 21) (oi := _) (v := _) rfl (by kernel_rfl) (by kernel_rfl) (by kernel_rfl) (fun _ _ _ h => h) (Or.inl ⟨by rfl, ?hy21q5⟩) hHeld ?rest21q5
              case hy21q5 => (intro w' hSw; (try dsimp only at hSw); go_simp; try with_reducible rfl)
              case' rest21q5 => try simp only [Act.put, List.setIfInBounds_toArray, List.set_cons_zero, List.set_cons_succ, List.getElem_toArray, List.getElem_cons_succ, List.getElem_cons_zero]
              refine' wpAnyH_take (i := 22) (oi := _) (v := _) rfl (by kernel_rfl) (by kernel_rfl) (by kernel_rfl) (fun _ _ _ h => h) (Or.inl ⟨by rfl, ?hy22q5⟩) hHeld ?rest22q5
              case hy22q5 => (intro w' hSw; (try dsimp only at hSw); go_simp; try with_reducible rfl)
              case' rest22q5 => try simp only [Act.put, List.setIfInBounds_toArray, List.set_cons_zero, List.set_cons_succ, List.getElem_toArray, List.getElem_cons_succ, List.getElem_cons_zero]
              refine wpAnyH_ready (rs := [23]) (by kernel_rfl) (by simp) ?_
              refine AllReadyH.cons (o := _) rfl (fun K hK => ?_) AllReadyH.nil
              go_simp
              refine (l3Takes_any _ _).mono ?_
              rintro e w3 ⟨rfl, rfl⟩
              rw [hear]
              have BB3 := BB2
              have SS3 := SS2
              try go_wp2_with fail
              refine hK.out _ _ (SS3.out) (fun hHeld => ?_)
              clear hK K
              try simp only [Act.put, List.setIfInBounds_toArray, List.set_cons_zero, List.set_cons_succ, List.getElem_toArray, List.getElem_cons_succ, List.getElem_cons_zero]
              refine' wpAnyH_take (i := 24) (oi := _) (v := _) rfl (by kernel_rfl) (by kernel_rfl) (by kernel_rfl) (fun _ _ _ h => h) (Or.inl ⟨by rfl, ?hy24q5⟩) hHeld ?rest24q5
              case hy24q5 => (intro w' hSw; (try dsimp only at hSw); go_simp; try with_reducible rfl)
              case' rest24q5 => try simp only [Act.put, List.setIfInBounds_toArray, List.set_cons_zero, List.set_cons_succ, List.getElem_toArray, List.getElem_cons_succ, List.getElem_cons_zero]
              refine' wpAnyH_take (i := 25) (oi := _) (v := _) rfl (by kernel_rfl) (by kernel_rfl) (by kernel_rfl) (fun _ _ _ h => h) (Or.inl ⟨by rfl, ?hy25q5⟩) hHeld ?rest25q5
              case hy25q5 => (intro w' hSw; (try dsimp only at hSw); go_simp; try with_reducible rfl)
              case' rest25q5 => try simp only [Act.put, List.setIfInBounds_toArray, List.set_cons_zero, List.set_cons_succ, List.getElem_toArray, List.getElem_cons_succ, List.getElem_cons_zero]
              refine' wpAnyH_take (i := 26) (oi := _) (v := _) rfl (by kernel_rfl) (by kernel_rfl) (by kernel_rfl) (fun _ _ _ h => h) (Or.inl ⟨by rfl, ?hy26q5⟩) hHeld ?rest26q5
              case hy26q5 => (intro w' hSw; (try dsimp only at hSw); go_simp; try with_reducible rfl)
              case' rest26q5 => try simp only [Act.put, List.setIfInBounds_toArray, List.set_cons_zero, List.set_cons_succ, List.getElem_toArray, List.getElem_cons_succ, List.getElem_cons_zero]
              refine' wpAnyH_take (i := 27) (oi := _) (v := _) rfl (by kernel_rfl) (by kernel_rfl) (by kernel_rfl) (fun _ _ _ h => h) (Or.inl ⟨by rfl, ?hy27q5⟩) hHeld ?rest27q5
              case hy27q5 => (intro w' hSw; (try dsimp only at hSw); go_simp; try with_reducible rfl)
              case' rest27q5 => try simp only [Act.put, List.setIfInBounds_toArray, List.set_cons_zero, List.set_cons_succ, List.getElem_toArray, List.getElem_cons_succ, List.getElem_cons_zero]
              refine' wpAnyH_take (i := 28) (oi := _) (v := _) rfl (by kernel_rfl) (by kernel_rfl) (by kernel_rfl) (fun _ _ _ h => h) (Or.inl ⟨by rfl, ?hy28q5⟩) hHeld ?rest28q5
              case hy28q5 => (intro w' hSw; (try dsimp only at hSw); go_simp; try with_reducible rfl)
              case' rest28q5 => try simp only [Act.put, List.setIfInBounds_toArray, List.set_cons_zero, List.set_cons_succ, List.getElem_toArray, List.getElem_cons_succ, List.getElem_cons_zero]
              refine' wpAnyH_take (i := 29) (oi := _) (v := _) rfl (by kernel_rfl) (by kernel_rfl) (by kernel_rfl) (fun _ _ _ h => h) (Or.inl ⟨by rfl, ?hy29q5⟩) hHeld ?rest29q5
              case hy29q5 => (intro w' hSw; (try dsimp only at hSw); go_simp; try with_reducible rfl)
              case' rest29q5 => try simp only [Act.put, List.setIfInBounds_toArray, List.set_cons_zero, List.set_cons_succ, List.getElem_toArray, List.getElem_cons_succ, List.getElem_cons_zero]
              refine' wpAnyH_take (i := 30) (oi := _) (v := _) rfl (by kernel_rfl) (by kernel_rfl) (by kernel_rfl) (fun _ _ _ h => h) (Or.inl ⟨by rfl, ?hy30q5⟩) hHeld ?rest30q5
              case hy30q5 => (intro w' hSw; (try dsimp only at hSw); go_simp; try with_reducible rfl)
              case' rest30q5 => try simp only [Act.put, List.setIfInBounds_toArray, List.set_cons_zero, List.set_cons_succ, List.getElem_toArray, List.getElem_cons_succ, List.getElem_cons_zero]
              refine' wpAnyH_take (i := 32) (oi := _) (v := _) rfl (by kernel_rfl) (by kernel_rfl) (by kernel_rfl) (fun _ _ _ h => h) (Or.inl ⟨by rfl, ?hy32q5⟩) hHeld ?rest32q5
              case hy32q5 => (intro w' hSw; (try dsimp only at hSw); go_simp; try with_reducible rfl)
              case' rest32q5 => try simp only [Act.put, List.setIfInBounds_toArray, List.set_cons_zero, List.set_cons_succ, List.getElem_toArray, List.getElem_cons_succ, List.getElem_cons_zero]
              refine wpAnyH_ready (rs := [31]) (by kernel_rfl) (by simp) ?_
              refine AllReadyH.cons (o := _) rfl (fun K hK => ?_) AllReadyH.nil
              go_simp
              refine (l3Line_any _ lp cp at_ _ _ _ _ _ (HRD.out _ BB3) hat h9).mono ?_
              rintro e w4 ⟨rfl, hb4⟩
              rw [hdd]
              have SS4 : Hid ((fun w' => w'.cell? ⟨w.heap.size, 1, none⟩ = some (.slice (some ⟨gO, 0, none⟩) os.length cO) ∧ w'.cell? ⟨w.heap.size, 3, none⟩ = some (.slice (some ⟨gP, 0, none⟩) ps.length cP) ∧ w'.cell? ⟨gP, k * 6, none⟩ = some (.slice (some ad) lp.length cp) ∧ w'.cell? ⟨gP, k * 6 + 1, none⟩ = some (.int .i64 at_) ∧ w'.cell? ⟨gP, k * 6 + 2, none⟩ = some (.slice Ah hl.length ch) ∧ w'.cell? ⟨gP, k * 6 + 3, none⟩ = some (.string fin) ∧ w'.cell? ⟨gP, k * 6 + 4, none⟩ = some (.int .i64 last) ∧ w'.cell? ⟨gP, k * 6 + 5, none⟩ = some (.int .i64 ear) ∧ w'.cell? ⟨gO, line, none⟩ = some (.int .i64 ow) ∧ w'.cell? (ad.add (at_ * 3)) = some (.string dd.1) ∧ w'.cell? ⟨(ad.add (at_ * 3)).block, (ad.add (at_ * 3)).off + 1, none⟩ = some (.int .i64 dd.2.1)) w4) := Lib.hid (⟨keepC hb4 SS3.out.1, keepC hb4 SS3.out.2.1, keepC hb4 SS3.out.2.2.1, keepC hb4 SS3.out.2.2.2.1, keepC hb4 SS3.out.2.2.2.2.1, keepC hb4 SS3.out.2.2.2.2.2.1, keepC hb4 SS3.out.2.2.2.2.2.2.1, keepC hb4 SS3.out.2.2.2.2.2.2.2.1, keepC hb4 SS3.out.2.2.2.2.2.2.2.2.1, keepC hb4 SS3.out.2.2.2.2.2.2.2.2.2.1, keepC hb4 SS3.out.2.2.2.2.2.2.2.2.2.2⟩)
              have BB4 := BB3.trans (hb4.mono BB3.size)
              try go_wp2_with fail
              refine hK.out _ _ (SS4.out) (fun hHeld => ?_)
              clear hK K
              try simp only [Act.put, List.setIfInBounds_toArray, List.set_cons_zero, List.set_cons_succ, List.getElem_toArray, List.getElem_cons_succ, List.getElem_cons_zero]
              refine' wpAnyH_take (i := 33) (oi := _) (v := _) rfl (by kernel_rfl) (by kernel_rfl) (by kernel_rfl) (fun _ _ _ h => h) (Or.inl ⟨by rfl, ?hy33q5⟩) hHeld ?rest33q5
              case hy33q5 => (intro w' hSw; (try dsimp only at hSw); go_simp; try with_reducible rfl)
              case' rest33q5 => try simp only [Act.put, List.setIfInBounds_toArray, List.set_cons_zero, List.set_cons_succ, List.getElem_toArray, List.getElem_cons_succ, List.getElem_cons_zero]
              refine' wpAnyH_take (i := 34) (oi := _) (v := _) rfl (by kernel_rfl) (by kernel_rfl) (by kernel_rfl) (fun _ _ _ h => h) (Or.inl ⟨by rfl, ?hy34q5⟩) hHeld ?rest34q5
              case hy34q5 => (intro w' hSw; (try dsimp only at hSw); go_simp; try with_reducible rfl)
              case' rest34q5 => try simp only [Act.put, List.setIfInBounds_toArray, List.set_cons_zero, List.set_cons_succ, List.getElem_toArray, List.getElem_cons_succ, List.getElem_cons_zero]
              refine' wpAnyH_take (i := 35) (oi := _) (v := _) rfl (by kernel_rfl) (by kernel_rfl) (by kernel_rfl) (fun _ _ _ h => h) (Or.inl ⟨by rfl, ?hy35q5⟩) hHeld ?rest35q5
              case hy35q5 => (intro w' hSw; (try dsimp only at hSw); go_simp; try with_reducible rfl)
              case' rest35q5 => try simp only [Act.put, List.setIfInBounds_toArray, List.set_cons_zero, List.set_cons_succ, List.getElem_toArray, List.getElem_cons_succ, List.getElem_cons_zero]
              refine' wpAnyH_take (i := 36) (oi := _) (v := _) rfl (by kernel_rfl) (by kernel_rfl) (by kernel_rfl) (fun _ _ _ h => h) (Or.inl ⟨by rfl, ?hy36q5⟩) hHeld ?rest36q5
              case hy36q5 => (intro w' hSw; (try dsimp only at hSw); go_simp; try with_reducible rfl)
              case' rest36q5 => try simp only [Act.put, List.setIfInBounds_toArray, List.set_cons_zero, List.set_cons_succ, List.getElem_toArray, List.getElem_cons_succ, List.getElem_cons_zero]
              refine' wpAnyH_take (i := 37) (oi := _) (v := _) rfl (by kernel_rfl) (by kernel_rfl) (by kernel_rfl) (fun _ _ _ h => h) (Or.inl ⟨by rfl, ?hy37q5⟩) hHeld ?rest37q5
              case hy37q5 => (intro w' hSw; (try dsimp only at hSw); go_simp; try with_reducible rfl)
              case' rest37q5 => try simp only [Act.put, List.setIfInBounds_toArray, List.set_cons_zero, List.set_cons_succ, List.getElem_toArray, List.getElem_cons_succ, List.getElem_cons_zero]
              refine' wpAnyH_take (i := 38) (oi := _) (v := _) rfl (by kernel_rfl) (by kernel_rfl) (by kernel_rfl) (fun _ _ _ h => h) (Or.inl ⟨by rfl, ?hy38q5⟩) hHeld ?rest38q5
              case hy38q5 => (intro w' hSw; (try dsimp only at hSw); go_simp; try with_reducible rfl)
              case' rest38q5 => try simp only [Act.put, List.setIfInBounds_toArray, List.set_cons_zero, List.set_cons_succ, List.getElem_toArray, List.getElem_cons_succ, List.getElem_cons_zero]
              refine' wpAnyH_take (i := 39) (oi := _) (v := _) rfl (by kernel_rfl) (by kernel_rfl) (by kernel_rfl) (fun _ _ _ h => h) (Or.inl ⟨by rfl, ?hy39q5⟩) hHeld ?rest39q5
              case hy39q5 => (intro w' hSw; (try dsimp only at hSw); go_simp; try with_reducible rfl)
              case' rest39q5 => try simp only [Act.put, List.setIfInBounds_toArray, List.set_cons_zero, List.set_cons_succ, List.getElem_toArray, List.getElem_cons_succ, List.getElem_cons_zero]
              refine' wpAnyH_take (i := 40) (oi := _) (v := _) rfl (by kernel_rfl) (by kernel_rfl) (by kernel_rfl) (fun _ _ _ h => h) (Or.inl ⟨by rfl, ?hy40q5⟩) hHeld ?rest40q5
              case hy40q5 => (intro w' hSw; (try dsimp only at hSw); go_simp; try with_reducible rfl)
              case' rest40q5 => try simp only [Act.put, List.setIfInBounds_toArray, List.set_cons_zero, List.set_cons_succ, List.getElem_toArray, List.getElem_cons_succ, List.getElem_cons_zero]
              refine' wpAnyH_take (i := 41) (oi := _) (v := _) rfl (by kernel_rfl) (by kernel_rfl) (by kernel_rfl) (fun _ _ _ h => h) (Or.inl ⟨by rfl, ?hy41q5⟩) hHeld ?rest41q5
              case hy41q5 => (intro w' hSw; (try dsimp only at hSw); go_simp; try with_reducible rfl)
              case' rest41q5 => try simp only [Act.put, List.setIfInBounds_toArray, List.set_cons_zero, List.set_cons_succ, List.getElem_toArray, List.getElem_cons_succ, List.getElem_cons_zero]
              refine' wpAnyH_take (i := 42) (oi := _) (v := _) rfl (by kernel_rfl) (by kernel_rfl) (by kernel_rfl) (fun _ _ _ h => h) (Or.inl ⟨by rfl, ?hy42q5⟩) hHeld ?rest42q5
              case hy42q5 => (intro w' hSw; (try dsimp only at hSw); go_simp; try with_reducible rfl)
              case' rest42q5 => try simp only [Act.put, List.setIfInBounds_toArray, List.set_cons_zero, List.set_cons_succ, List.getElem_toArray, List.getElem_cons_succ, List.getElem_cons_zero]
              refine' wpAnyH_take (i := 43) (oi := _) (v := _) rfl (by kernel_rfl) (by kernel_rfl) (by kernel_rfl) (fun _ _ _ h => h) (Or.inl ⟨by rfl, ?hy43q5⟩) hHeld ?rest43q5
              case hy43q5 => (intro w' hSw; (try dsimp only at hSw); go_simp; try with_reducible rfl)
              case' rest43q5 => try simp only [Act.put, List.setIfInBounds_toArray, List.set_cons_zero, List.set_cons_succ, List.getElem_toArray, List.getElem_cons_succ, List.getElem_cons_zero]
              refine wpAnyH_done (by kernel_rfl) ?_ _
              refine NoPanic.normal ?_
              go_wp2_with fail
              go_ret
              exact ⟨⟨k, rfl, HF2.out hear⟩, BB4⟩
      · skip
        have SS1 : Hid ((fun w' => w'.cell? ⟨w.heap.size, 1, none⟩ = some (.slice (some ⟨gO, 0, none⟩) os.length cO) ∧ w'.cell? ⟨w.heap.size, 3, none⟩ = some (.slice (some ⟨gP, 0, none⟩) ps.length cP) ∧ w'.cell? ⟨gP, k * 6, none⟩ = some (.slice Ap lp.length cp) ∧ w'.cell? ⟨gP, k * 6 + 1, none⟩ = some (.int .i64 at_) ∧ w'.cell? ⟨gP, k * 6 + 2, none⟩ = some (.slice Ah hl.length ch) ∧ w'.cell? ⟨gP, k * 6 + 3, none⟩ = some (.string fin) ∧ w'.cell? ⟨gP, k * 6 + 4, none⟩ = some (.int .i64 last) ∧ w'.cell? ⟨gP, k * 6 + 5, none⟩ = some (.int .i64 ear) ∧ w'.cell? ⟨gO, line, none⟩ = some (.int .i64 ow)) wr.drew) := Lib.hid ⟨a1, a3, p0, p1, p2, p3, p4, p5, how⟩
        have BB1 : Below w.heap.size w wr.drew := hb.drew
        go_wp2_with fail
        refine wp_region_noPanic ?_
        refine wp_region_held_drew (S := (fun w' => w'.cell? ⟨w.heap.size, 1, none⟩ = some (.slice (some ⟨gO, 0, none⟩) os.length cO) ∧ w'.cell? ⟨w.heap.size, 3, none⟩ = some (.slice (some ⟨gP, 0, none⟩) ps.length cP) ∧ w'.cell? ⟨gP, k * 6, none⟩ = some (.slice Ap lp.length cp) ∧ w'.cell? ⟨gP, k * 6 + 1, none⟩ = some (.int .i64 at_) ∧ w'.cell? ⟨gP, k * 6 + 2, none⟩ = some (.slice Ah hl.length ch) ∧ w'.cell? ⟨gP, k * 6 + 3, none⟩ = some (.string fin) ∧ w'.cell? ⟨gP, k * 6 + 4, none⟩ = some (.int .i64 last) ∧ w'.cell? ⟨gP, k * 6 + 5, none⟩ = some (.int .i64 ear) ∧ w'.cell? ⟨gO, line, none⟩ = some (.int .i64 ow))) (by kernel_rfl) (⟨a1, a3, p0, p1, p2, p3, p4, p5, how⟩) (fun hHeld => ?_)
        refine' wpAnyH_take (i := 0) (oi := _) (v := _) rfl (by kernel_rfl) (by kernel_rfl) (by kernel_rfl) (fun _ _ _ h => h) (Or.inl ⟨by rfl, ?hy0q1⟩) hHeld ?rest0q1
        case hy0q1 => (intro w' hSw; (try dsimp only at hSw); go_simp; try with_reducible rfl)
        case' rest0q1 => try simp only [Act.put, List.setIfInBounds_toArray, List.set_cons_zero, List.set_cons_succ, List.getElem_toArray, List.getElem_cons_succ, List.getElem_cons_zero]
        refine' wpAnyH_take (i := 1) (oi := _) (v := _) rfl (by kernel_rfl) (by kernel_rfl) (by kernel_rfl) (fun _ _ _ h => h) (Or.inl ⟨by rfl, ?hy1q1⟩) hHeld ?rest1q1
        case hy1q1 => (intro w' hSw; (try dsimp only at hSw); go_simp; try with_reducible rfl)
        case' rest1q1 => try simp only [Act.put, List.setIfInBounds_toArray, List.set_cons_zero, List.set_cons_succ, List.getElem_toArray, List.getElem_cons_succ, List.getElem_cons_zero]
        refine' wpAnyH_take (i := 2) (oi := _) (v := _) rfl (by kernel_rfl) (by kernel_rfl) (by kernel_rfl) (fun _ _ _ h => h) (Or.inl ⟨by rfl, ?hy2q1⟩) hHeld ?rest2q1
        case hy2q1 => (intro w' hSw; (try dsimp only at hSw); go_simp; try with_reducible rfl)
        case' rest2q1 => try simp only [Act.put, List.setIfInBounds_toArray, List.set_cons_zero, List.set_cons_succ, List.getElem_toArray, List.getElem_cons_succ, List.getElem_cons_zero]
        refine' wpAnyH_take (i := 3) (oi := _) (v := _) rfl (by kernel_rfl) (by kernel_rfl) (by kernel_rfl) (fun _ _ _ h => h) (Or.inl ⟨by rfl, ?hy3q1⟩) hHeld ?rest3q1
        case hy3q1 => (intro w' hSw; (try dsimp only at hSw); go_simp; try with_reducible rfl)
        case' rest3q1 => try simp only [Act.put, List.setIfInBounds_toArray, List.set_cons_zero, List.set_cons_succ, List.getElem_toArray, List.getElem_cons_succ, List.getElem_cons_zero]
        refine' wpAnyH_take (i := 4) (oi := _) (v := _) rfl (by kernel_rfl) (by kernel_rfl) (by kernel_rfl) (fun _ _ _ h => h) (Or.inl ⟨by rfl, ?hy4q1⟩) hHeld ?rest4q1
        case hy4q1 => (intro w' hSw; (try dsimp only at hSw); go_simp; try with_reducible rfl)
        case' rest4q1 => try simp only [Act.put, List.setIfInBounds_toArray, List.set_cons_zero, List.set_cons_succ, List.getElem_toArray, List.getElem_cons_succ, List.getElem_cons_zero]
        refine wpAnyH_ready (rs := [5]) (by kernel_rfl) (by simp) ?_
        refine AllReadyH.cons (o := _) rfl (fun K hK => ?_) AllReadyH.nil
        go_simp
        refine (l3Stopped_any _ _ _ _ _ _ _ _ _).mono ?_
        rintro e w2 ⟨rfl, hb2⟩
        rw [hst]
        have SS2 : Hid ((fun w' => w'.cell? ⟨w.heap.size, 1, none⟩ = some (.slice (some ⟨gO, 0, none⟩) os.length cO) ∧ w'.cell? ⟨w.heap.size, 3, none⟩ = some (.slice (some ⟨gP, 0, none⟩) ps.length cP) ∧ w'.cell? ⟨gP, k * 6, none⟩ = some (.slice Ap lp.length cp) ∧ w'.cell? ⟨gP, k * 6 + 1, none⟩ = some (.int .i64 at_) ∧ w'.cell? ⟨gP, k * 6 + 2, none⟩ = some (.slice Ah hl.length ch) ∧ w'.cell? ⟨gP, k * 6 + 3, none⟩ = some (.string fin) ∧ w'.cell? ⟨gP, k * 6 + 4, none⟩ = some (.int .i64 last) ∧ w'.cell? ⟨gP, k * 6 + 5, none⟩ = some (.int .i64 ear) ∧ w'.cell? ⟨gO, line, none⟩ = some (.int .i64 ow)) w2) := Lib.hid (⟨keepC hb2 SS1.out.1, keepC hb2 SS1.out.2.1, keepC hb2 SS1.out.2.2.1, keepC hb2 SS1.out.2.2.2.1, keepC hb2 SS1.out.2.2.2.2.1, keepC hb2 SS1.out.2.2.2.2.2.1, keepC hb2 SS1.out.2.2.2.2.2.2.1, keepC hb2 SS1.out.2.2.2.2.2.2.2.1, keepC hb2 SS1.out.2.2.2.2.2.2.2.2⟩)
        have BB2 := BB1.trans (hb2.mono BB1.size)
        try go_wp2_with fail
        refine hK.out _ _ (SS2.out) (fun hHeld => ?_)
        clear hK K
        try simp only [Act.put, List.setIfInBounds_toArray, List.set_cons_zero, List.set_cons_succ, List.getElem_toArray, List.getElem_cons_succ, List.getElem_cons_zero]
        refine' wpAnyH_take (i := 6) (oi := _) (v := _) rfl (by kernel_rfl) (by kernel_rfl) (by kernel_rfl) (fun _ _ _ h => h) (Or.inl ⟨by rfl, ?hy6q1⟩) hHeld ?rest6q1
        case hy6q1 => (intro w' hSw; (try dsimp only at hSw); go_simp; try with_reducible rfl)
        case' rest6q1 => try simp only [Act.put, List.setIfInBounds_toArray, List.set_cons_zero, List.set_cons_succ, List.getElem_toArray, List.getElem_cons_succ, List.getElem_cons_zero]
        refine' wpAnyH_take (i := 7) (oi := _) (v := _) rfl (by kernel_rfl) (by kernel_rfl) (by kernel_rfl) (fun _ _ _ h => h) (Or.inl ⟨by rfl, ?hy7q1⟩) hHeld ?rest7q1
        case hy7q1 => (intro w' hSw; (try dsimp only at hSw); go_simp; try with_reducible rfl)
        case' rest7q1 => try simp only [Act.put, List.setIfInBounds_toArray, List.set_cons_zero, List.set_cons_succ, List.getElem_toArray, List.getElem_cons_succ, List.getElem_cons_zero]
        refine' wpAnyH_take (i := 8) (oi := _) (v := _) rfl (by kernel_rfl) (by kernel_rfl) (by kernel_rfl) (fun _ _ _ h => h) (Or.inr ⟨by rfl, rfl⟩) hHeld ?rest8q1
        case' rest8q1 => try simp only [Act.put, List.setIfInBounds_toArray, List.set_cons_zero, List.set_cons_succ, List.getElem_toArray, List.getElem_cons_succ, List.getElem_cons_zero]
        refine' wpAnyH_take (i := 9) (oi := _) (v := _) rfl (by kernel_rfl) (by kernel_rfl) (by kernel_rfl) (fun _ _ _ h => h) (Or.inr ⟨by rfl, rfl⟩) hHeld ?rest9q1
        case' rest9q1 => try simp only [Act.put, List.setIfInBounds_toArray, List.set_cons_zero, List.set_cons_succ, List.getElem_toArray, List.getElem_cons_succ, List.getElem_cons_zero]
        refine' wpAnyH_take (i := 10) (oi := _) (v := _) rfl (by kernel_rfl) (by kernel_rfl) (by kernel_rfl) (fun _ _ _ h => h) (Or.inr ⟨by rfl, rfl⟩) hHeld ?rest10q1
        case' rest10q1 => try simp only [Act.put, List.setIfInBounds_toArray, List.set_cons_zero, List.set_cons_succ, List.getElem_toArray, List.getElem_cons_succ, List.getElem_cons_zero]
        refine' wpAnyH_take (i := 11) (oi := _) (v := _) rfl (by kernel_rfl) (by kernel_rfl) (by kernel_rfl) (fun _ _ _ h => h) (Or.inr ⟨by rfl, rfl⟩) hHeld ?rest11q1
        case' rest11q1 => try simp only [Act.put, List.setIfInBounds_toArray, List.set_cons_zero, List.set_cons_succ, List.getElem_toArray, List.getElem_cons_succ, List.getElem_cons_zero]
        refine' wpAnyH_take (i := 12) (oi := _) (v := _) rfl (by kernel_rfl) (by kernel_rfl) (by kernel_rfl) (fun _ _ _ h => h) (Or.inr ⟨by rfl, rfl⟩) hHeld ?rest12q1
        case' rest12q1 => try simp only [Act.put, List.setIfInBounds_toArray, List.set_cons_zero, List.set_cons_succ, List.getElem_toArray, List.getElem_cons_succ, List.getElem_cons_zero]
        refine' wpAnyH_take (i := 13) (oi := _) (v := _) rfl (by kernel_rfl) (by kernel_rfl) (by kernel_rfl) (fun _ _ _ h => h) (Or.inr ⟨by rfl, rfl⟩) hHeld ?rest13q1
        case' rest13q1 => try simp only [Act.put, List.setIfInBounds_toArray, List.set_cons_zero, List.set_cons_succ, List.getElem_toArray, List.getElem_cons_succ, List.getElem_cons_zero]
        refine' wpAnyH_take (i := 14) (oi := _) (v := _) rfl (by kernel_rfl) (by kernel_rfl) (by kernel_rfl) (fun _ _ _ h => h) (Or.inr ⟨by rfl, rfl⟩) hHeld ?rest14q1
        case' rest14q1 => try simp only [Act.put, List.setIfInBounds_toArray, List.set_cons_zero, List.set_cons_succ, List.getElem_toArray, List.getElem_cons_succ, List.getElem_cons_zero]
        refine' wpAnyH_take (i := 15) (oi := _) (v := _) rfl (by kernel_rfl) (by kernel_rfl) (by kernel_rfl) (fun _ _ _ h => h) (Or.inr ⟨by rfl, rfl⟩) hHeld ?rest15q1
        case' rest15q1 => try simp only [Act.put, List.setIfInBounds_toArray, List.set_cons_zero, List.set_cons_succ, List.getElem_toArray, List.getElem_cons_succ, List.getElem_cons_zero]
        refine' wpAnyH_take (i := 16) (oi := _) (v := _) rfl (by kernel_rfl) (by kernel_rfl) (by kernel_rfl) (fun _ _ _ h => h) (Or.inr ⟨by rfl, rfl⟩) hHeld ?rest16q1
        case' rest16q1 => try simp only [Act.put, List.setIfInBounds_toArray, List.set_cons_zero, List.set_cons_succ, List.getElem_toArray, List.getElem_cons_succ, List.getElem_cons_zero]
        refine' wpAnyH_take (i := 17) (oi := _) (v := _) rfl (by kernel_rfl) (by kernel_rfl) (by kernel_rfl) (fun _ _ _ h => h) (Or.inr ⟨by rfl, rfl⟩) hHeld ?rest17q1
        case' rest17q1 => try simp only [Act.put, List.setIfInBounds_toArray, List.set_cons_zero, List.set_cons_succ, List.getElem_toArray, List.getElem_cons_succ, List.getElem_cons_zero]
        refine' wpAnyH_take (i := 18) (oi := _) (v := _) rfl (by kernel_rfl) (by kernel_rfl) (by kernel_rfl) (fun _ _ _ h => h) (Or.inr ⟨by rfl, rfl⟩) hHeld ?rest18q1
        case' rest18q1 => try simp only [Act.put, List.setIfInBounds_toArray, List.set_cons_zero, List.set_cons_succ, List.getElem_toArray, List.getElem_cons_succ, List.getElem_cons_zero]
        refine' wpAnyH_take (i := 19) (oi := _) (v := _) rfl (by kernel_rfl) (by kernel_rfl) (by kernel_rfl) (fun _ _ _ h => h) (Or.inr ⟨by rfl, rfl⟩) hHeld ?rest19q1
        case' rest19q1 => try simp only [Act.put, List.setIfInBounds_toArray, List.set_cons_zero, List.set_cons_succ, List.getElem_toArray, List.getElem_cons_succ, List.getElem_cons_zero]
        refine' wpAnyH_take (i := 20) (oi := _) (v := _) rfl (by kernel_rfl) (by kernel_rfl) (by kernel_rfl) (fun _ _ _ h => h) (Or.inr ⟨by rfl, rfl⟩) hHeld ?rest20q1
        case' rest20q1 => try simp only [Act.put, List.setIfInBounds_toArray, List.set_cons_zero, List.set_cons_succ, List.getElem_toArray, List.getElem_cons_succ, List.getElem_cons_zero]
        refine' wpAnyH_take (i := 21) (oi := _) (v := _) rfl (by kernel_rfl) (by kernel_rfl) (by kernel_rfl) (fun _ _ _ h => h) (Or.inr ⟨by rfl, rfl⟩) hHeld ?rest21q1
        case' rest21q1 => try simp only [Act.put, List.setIfInBounds_toArray, List.set_cons_zero, List.set_cons_succ, List.getElem_toArray, List.getElem_cons_succ, List.getElem_cons_zero]
        refine' wpAnyH_take (i := 22) (oi := _) (v := _) rfl (by kernel_rfl) (by kernel_rfl) (by kernel_rfl) (fun _ _ _ h => h) (Or.inr ⟨by rfl, rfl⟩) hHeld ?rest22q1
        case' rest22q1 => try simp only [Act.put, List.setIfInBounds_toArray, List.set_cons_zero, List.set_cons_succ, List.getElem_toArray, List.getElem_cons_succ, List.getElem_cons_zero]
        refine' wpAnyH_take (i := 23) (oi := _) (v := _) rfl (by kernel_rfl) (by kernel_rfl) (by kernel_rfl) (fun _ _ _ h => h) (Or.inr ⟨by rfl, rfl⟩) hHeld ?rest23q1
        case' rest23q1 => try simp only [Act.put, List.setIfInBounds_toArray, List.set_cons_zero, List.set_cons_succ, List.getElem_toArray, List.getElem_cons_succ, List.getElem_cons_zero]
        refine' wpAnyH_take (i := 24) (oi := _) (v := _) rfl (by kernel_rfl) (by kernel_rfl) (by kernel_rfl) (fun _ _ _ h => h) (Or.inl ⟨by rfl, ?hy24q1⟩) hHeld ?rest24q1
        case hy24q1 => (intro w' hSw; (try dsimp only at hSw); go_simp; try with_reducible rfl)
        case' rest24q1 => try simp only [Act.put, List.setIfInBounds_toArray, List.set_cons_zero, List.set_cons_succ, List.getElem_toArray, List.getElem_cons_succ, List.getElem_cons_zero]
        refine' wpAnyH_take (i := 25) (oi := _) (v := _) rfl (by kernel_rfl) (by kernel_rfl) (by kernel_rfl) (fun _ _ _ h => h) (Or.inl ⟨by rfl, ?hy25q1⟩) hHeld ?rest25q1
        case hy25q1 => (intro w' hSw; (try dsimp only at hSw); go_simp; try with_reducible rfl)
        case' rest25q1 => try simp only [Act.put, List.setIfInBounds_toArray, List.set_cons_zero, List.set_cons_succ, List.getElem_toArray, List.getElem_cons_succ, List.getElem_cons_zero]
        refine' wpAnyH_take (i := 26) (oi := _) (v := _) rfl (by kernel_rfl) (by kernel_rfl) (by kernel_rfl) (fun _ _ _ h => h) (Or.inr ⟨by rfl, rfl⟩) hHeld ?rest26q1
        case' rest26q1 => try simp only [Act.put, List.setIfInBounds_toArray, List.set_cons_zero, List.set_cons_succ, List.getElem_toArray, List.getElem_cons_succ, List.getElem_cons_zero]
        refine' wpAnyH_take (i := 27) (oi := _) (v := _) rfl (by kernel_rfl) (by kernel_rfl) (by kernel_rfl) (fun _ _ _ h => h) (Or.inr ⟨by rfl, rfl⟩) hHeld ?rest27q1
        case' rest27q1 => try simp only [Act.put, List.setIfInBounds_toArray, List.set_cons_zero, List.set_cons_succ, List.getElem_toArray, List.getElem_cons_succ, List.getElem_cons_zero]
        refine' wpAnyH_take (i := 28) (oi := _) (v := _) rfl (by kernel_rfl) (by kernel_rfl) (by kernel_rfl) (fun _ _ _ h => h) (Or.inr ⟨by rfl, rfl⟩) hHeld ?rest28q1
        case' rest28q1 => try simp only [Act.put, List.setIfInBounds_toArray, List.set_cons_zero, List.set_cons_succ, List.getElem_toArray, List.getElem_cons_succ, List.getElem_cons_zero]
        refine' wpAnyH_take (i := 29) (oi := _) (v := _) rfl (by kernel_rfl) (by kernel_rfl) (by kernel_rfl) (fun _ _ _ h => h) (Or.inr ⟨by rfl, rfl⟩) hHeld ?rest29q1
        case' rest29q1 => try simp only [Act.put, List.setIfInBounds_toArray, List.set_cons_zero, List.set_cons_succ, List.getElem_toArray, List.getElem_cons_succ, List.getElem_cons_zero]
        refine' wpAnyH_take (i := 30) (oi := _) (v := _) rfl (by kernel_rfl) (by kernel_rfl) (by kernel_rfl) (fun _ _ _ h => h) (Or.inr ⟨by rfl, rfl⟩) hHeld ?rest30q1
        case' rest30q1 => try simp only [Act.put, List.setIfInBounds_toArray, List.set_cons_zero, List.set_cons_succ, List.getElem_toArray, List.getElem_cons_succ, List.getElem_cons_zero]
        refine' wpAnyH_take (i := 31) (oi := _) (v := _) rfl (by kernel_rfl) (by kernel_rfl) (by kernel_rfl) (fun _ _ _ h => h) (Or.inr ⟨by rfl, rfl⟩) hHeld ?rest31q1
        case' rest31q1 => try simp only [Act.put, List.setIfInBounds_toArray, List.set_cons_zero, List.set_cons_succ, List.getElem_toArray, List.getElem_cons_succ, List.getElem_cons_zero]
        refine' wpAnyH_take (i := 32) (oi := _) (v := _) rfl (by kernel_rfl) (by kernel_rfl) (by kernel_rfl) (fun _ _ _ h => h) (Or.inr ⟨by rfl, rfl⟩) hHeld ?rest32q1
        case' rest32q1 => try simp only [Act.put, List.setIfInBounds_toArray, List.set_cons_zero, List.set_cons_succ, List.getElem_toArray, List.getElem_cons_succ, List.getElem_cons_zero]
        refine' wpAnyH_take (i := 33) (oi := _) (v := _) rfl (by kernel_rfl) (by kernel_rfl) (by kernel_rfl) (fun _ _ _ h => h) (Or.inr ⟨by rfl, rfl⟩) hHeld ?rest33q1
        case' rest33q1 => try simp only [Act.put, List.setIfInBounds_toArray, List.set_cons_zero, List.set_cons_succ, List.getElem_toArray, List.getElem_cons_succ, List.getElem_cons_zero]
        refine' wpAnyH_take (i := 34) (oi := _) (v := _) rfl (by kernel_rfl) (by kernel_rfl) (by kernel_rfl) (fun _ _ _ h => h) (Or.inl ⟨by rfl, ?hy34q1⟩) hHeld ?rest34q1
        case hy34q1 => (intro w' hSw; (try dsimp only at hSw); go_simp; try with_reducible rfl)
        case' rest34q1 => try simp only [Act.put, List.setIfInBounds_toArray, List.set_cons_zero, List.set_cons_succ, List.getElem_toArray, List.getElem_cons_succ, List.getElem_cons_zero]
        refine' wpAnyH_take (i := 35) (oi := _) (v := _) rfl (by kernel_rfl) (by kernel_rfl) (by kernel_rfl) (fun _ _ _ h => h) (Or.inl ⟨by rfl, ?hy35q1⟩) hHeld ?rest35q1
        case hy35q1 => (intro w' hSw; (try dsimp only at hSw); go_simp; try with_reducible rfl)
        case' rest35q1 => try simp only [Act.put, List.setIfInBounds_toArray, List.set_cons_zero, List.set_cons_succ, List.getElem_toArray, List.getElem_cons_succ, List.getElem_cons_zero]
        refine' wpAnyH_take (i := 36) (oi := _) (v := _) rfl (by kernel_rfl) (by kernel_rfl) (by kernel_rfl) (fun _ _ _ h => h) (Or.inr ⟨by rfl, rfl⟩) hHeld ?rest36q1
        case' rest36q1 => try simp only [Act.put, List.setIfInBounds_toArray, List.set_cons_zero, List.set_cons_succ, List.getElem_toArray, List.getElem_cons_succ, List.getElem_cons_zero]
        refine' wpAnyH_take (i := 37) (oi := _) (v := _) rfl (by kernel_rfl) (by kernel_rfl) (by kernel_rfl) (fun _ _ _ h => h) (Or.inr ⟨by rfl, rfl⟩) hHeld ?rest37q1
        case' rest37q1 => try simp only [Act.put, List.setIfInBounds_toArray, List.set_cons_zero, List.set_cons_succ, List.getElem_toArray, List.getElem_cons_succ, List.getElem_cons_zero]
        refine' wpAnyH_take (i := 38) (oi := _) (v := _) rfl (by kernel_rfl) (by kernel_rfl) (by kernel_rfl) (fun _ _ _ h => h) (Or.inr ⟨by rfl, rfl⟩) hHeld ?rest38q1
        case' rest38q1 => try simp only [Act.put, List.setIfInBounds_toArray, List.set_cons_zero, List.set_cons_succ, List.getElem_toArray, List.getElem_cons_succ, List.getElem_cons_zero]
        refine' wpAnyH_take (i := 39) (oi := _) (v := _) rfl (by kernel_rfl) (by kernel_rfl) (by kernel_rfl) (fun _ _ _ h => h) (Or.inr ⟨by rfl, rfl⟩) hHeld ?rest39q1
        case' rest39q1 => try simp only [Act.put, List.setIfInBounds_toArray, List.set_cons_zero, List.set_cons_succ, List.getElem_toArray, List.getElem_cons_succ, List.getElem_cons_zero]
        refine' wpAnyH_take (i := 40) (oi := _) (v := _) rfl (by kernel_rfl) (by kernel_rfl) (by kernel_rfl) (fun _ _ _ h => h) (Or.inr ⟨by rfl, rfl⟩) hHeld ?rest40q1
        case' rest40q1 => try simp only [Act.put, List.setIfInBounds_toArray, List.set_cons_zero, List.set_cons_succ, List.getElem_toArray, List.getElem_cons_succ, List.getElem_cons_zero]
        refine' wpAnyH_take (i := 41) (oi := _) (v := _) rfl (by kernel_rfl) (by kernel_rfl) (by kernel_rfl) (fun _ _ _ h => h) (Or.inr ⟨by rfl, rfl⟩) hHeld ?rest41q1
        case' rest41q1 => try simp only [Act.put, List.setIfInBounds_toArray, List.set_cons_zero, List.set_cons_succ, List.getElem_toArray, List.getElem_cons_succ, List.getElem_cons_zero]
        refine' wpAnyH_take (i := 42) (oi := _) (v := _) rfl (by kernel_rfl) (by kernel_rfl) (by kernel_rfl) (fun _ _ _ h => h) (Or.inr ⟨by rfl, rfl⟩) hHeld ?rest42q1
        case' rest42q1 => try simp only [Act.put, List.setIfInBounds_toArray, List.set_cons_zero, List.set_cons_succ, List.getElem_toArray, List.getElem_cons_succ, List.getElem_cons_zero]
        refine' wpAnyH_take (i := 43) (oi := _) (v := _) rfl (by kernel_rfl) (by kernel_rfl) (by kernel_rfl) (fun _ _ _ h => h) (Or.inl ⟨by rfl, ?hy43q1⟩) hHeld ?rest43q1
        case hy43q1 => (intro w' hSw; (try dsimp only at hSw); go_simp; try with_reducible rfl)
        case' rest43q1 => try simp only [Act.put, List.setIfInBounds_toArray, List.set_cons_zero, List.set_cons_succ, List.getElem_toArray, List.getElem_cons_succ, List.getElem_cons_zero]
        refine wpAnyH_done (by kernel_rfl) ?_ _
        refine NoPanic.normal ?_
        go_wp2_with fail
        go_roundw
        case rel => exact ⟨k + 1, by congr 1, by omega, BB2, k1.drew.below hb2 k1.lt⟩
        case measure => simp [intOf]; omega
    · obtain rfl : k = ps.length := by omega
      have hlt' : ¬ (ps.length : Int) < (ps.length : Int) := by omega
      go_wp2_with fail
      go_ret
      exact ⟨⟨-1, rfl, .inl rfl⟩, hb⟩
end Go.Proofs.YthdnhaaojicmbaaDoor
