/-
  l3Run: parties do their deeds as long as one can.
-/
import Derived.Test.YthdnhaaojicmbaaDoorStep
namespace Go.Proofs.YthdnhaaojicmbaaDoor
open Go.RowKit
set_option linter.unusedSimpArgs false
set_option linter.unusedVariables false

/-- behind a run: a board -/
def Ran (base gL gO gV gP cL cO cV cP nl : Nat) (ls : List Ln) (os : List Int) (vs : List Value) (ps : List Pt) (w : World) (e : Ending) (w' : World) : Prop :=
  ∃ (ls' : List Ln) (vs' : List Value) (ps' : List Pt), e = .returned (.agg #[.slice (some ⟨gL, 0, none⟩) ls.length cL, .slice (some ⟨gO, 0, none⟩) os.length cO, .slice (some ⟨gV, 0, none⟩) vs.length cV, .slice (some ⟨gP, 0, none⟩) ps.length cP]) ∧
    ls'.length = ls.length ∧ vs'.length = vs.length ∧ ps'.length = ps.length ∧ BD w' base gL gO gV gP cL cO cV cP ls' os vs' ps' ∧ BOk nl ls' os vs' ps' ∧ Below base w w' ∧ Boxes w w'
set_option maxHeartbeats 16000000 in
theorem l3Run_any (base gL gO gV gP cL cO cV cP nl : Nat) (ls : List Ln) (os : List Int) (vs : List Value) (ps : List Pt) (Ao : Option Addr) (co : Nat) (w : World) (h : BD w base gL gO gV gP cL cO cV cP ls os vs ps) (ok : BOk nl ls os vs ps) (hnl : nl ≤ 6) (hmu : mu ls ps ≤ 500) :
    Calls Tryd.prog 47 #[.agg #[.slice (some ⟨gL, 0, none⟩) ls.length cL, .slice (some ⟨gO, 0, none⟩) os.length cO, .slice (some ⟨gV, 0, none⟩) vs.length cV, .slice (some ⟨gP, 0, none⟩) ps.length cP], .slice Ao 0 co] w (Ran base gL gO gV gP cL cO cV cP nl ls os vs ps w) := by
  have B1 := ((Below.refl w.heap.size w).alloc (Nat.le_refl _) (.cells #[.slice (some ⟨gL, 0, none⟩) ls.length cL, .slice (some ⟨gO, 0, none⟩) os.length cO, .slice (some ⟨gV, 0, none⟩) vs.length cV, .slice (some ⟨gP, 0, none⟩) ps.length cP] 79)).alloc (by simp) (.cells #[.slice none 0 0, .slice none 0 0, .slice none 0 0, .slice none 0 0] 79)
  have k1 := (Blk.new w 79 #[.slice (some ⟨gL, 0, none⟩) ls.length cL, .slice (some ⟨gO, 0, none⟩) os.length cO, .slice (some ⟨gV, 0, none⟩) vs.length cV, .slice (some ⟨gP, 0, none⟩) ps.length cP]).alloc (.cells #[.slice none 0 0, .slice none 0 0, .slice none 0 0, .slice none 0 0] 79)
  have k2 := Blk.new (w.alloc (.cells #[.slice (some ⟨gL, 0, none⟩) ls.length cL, .slice (some ⟨gO, 0, none⟩) os.length cO, .slice (some ⟨gV, 0, none⟩) vs.length cV, .slice (some ⟨gP, 0, none⟩) ps.length cP] 79)) 79 #[.slice none 0 0, .slice none 0 0, .slice none 0 0, .slice none 0 0]
  simp only [World.size_alloc] at k2
  have hp4 := ok.hp
  have hbw : base ≤ w.heap.size := by have := h.pts.lt gP rfl; omega
  have b1 := h.keep B1
  have HS := Lib.hid (And.intro b1 (And.intro ok (And.intro B1 (And.intro k1 k2))))
  clear b1 ok k1 k2 B1 h
  go_enter Tryd.func47, Tryd.ntmps47
  go_wp2_with fail
  go_loopw [5, 6] (fun i k wr => ∃ (n m : Nat) (ls' : List Ln) (vs' : List Value) (ps' : List Pt), i = .int .i64 n ∧ k = .int .i64 m ∧ n ≤ ps.length ∧ m + 5 * mu ls' ps' + (4 - n) ≤ 5 * mu ls ps + 4 ∧ ls'.length = ls.length ∧ vs'.length = vs.length ∧ ps'.length = ps.length ∧ BD wr base gL gO gV gP cL cO cV cP ls' os vs' ps' ∧ BOk nl ls' os vs' ps' ∧ Blk wr w.heap.size 79 #[.slice (some ⟨gL, 0, none⟩) ls.length cL, .slice (some ⟨gO, 0, none⟩) os.length cO, .slice (some ⟨gV, 0, none⟩) vs.length cV, .slice (some ⟨gP, 0, none⟩) ps.length cP] ∧ Blk wr (w.heap.size + 1) 79 #[.slice none 0 0, .slice none 0 0, .slice none 0 0, .slice none 0 0] ∧ Below base w wr ∧ Boxes w wr) (fun i k wr => 5 * mu ls ps + 5 - (intOf k).toNat)
  case atStart =>
    obtain ⟨b1, ok, B1, k1, k2⟩ := HS.out
    exact ⟨0, 0, ls, vs, ps, rfl, rfl, Nat.zero_le _, by omega, rfl, rfl, rfl, b1, ok, k1, k2, B1.mono hbw, Boxes.below B1⟩
  case round =>
    clear HS
    obtain ⟨n, m, ls', vs', ps', rfl, rfl, hn, hM, l1, l2, l3, hB, ok', kB, kR, hb, hX⟩ := hrel
    have z0 := kB.cell 0
    have z1 := kB.cell 1
    have z2 := kB.cell 2
    have z3 := kB.cell 3
    simp at z0 z1 z2 z3
    by_cases hlt : n < ps.length
    · have hlt' : (n : Int) < (ps.length : Int) := by omega
      obtain ⟨pn, hpn⟩ : ∃ pn : Nat, m % ps.length = pn := ⟨_, rfl⟩
      have hpl : pn < ps.length := by rw [← hpn]; exact Nat.mod_lt _ (by omega)
      have hmod : (m : Int) % (ps.length : Int) = (pn : Int) := by rw [← hpn]; rfl
      have hG := l3Step_any base gL gO gV gP cL cO cV cP nl pn ls' os vs' ps' wr hB ok' (by rw [l3]; exact hpl) hnl
      have hsz := hb.size
      have hG2 : Calls Tryd.prog 57 #[.agg #[.slice (some ⟨gL, 0, none⟩) ls.length cL, .slice (some ⟨gO, 0, none⟩) os.length cO, .slice (some ⟨gV, 0, none⟩) vs.length cV, .slice (some ⟨gP, 0, none⟩) ps.length cP], .int .i64 pn] wr fun e w' => ∃ (d : Bool) (ls2 : List Ln) (vs2 : List Value) (ps2 : List Pt), e = .returned (.tuple #[.agg #[.slice (some ⟨gL, 0, none⟩) ls.length cL, .slice (some ⟨gO, 0, none⟩) os.length cO, .slice (some ⟨gV, 0, none⟩) vs.length cV, .slice (some ⟨gP, 0, none⟩) ps.length cP], .bool d]) ∧ (ls2.length = ls.length ∧ vs2.length = vs.length ∧ ps2.length = ps.length ∧ BOk nl ls2 os vs2 ps2 ∧ mu ls2 ps2 + (if d = true then 1 else 0) ≤ mu ls' ps') ∧ BD w' base gL gO gV gP cL cO cV cP ls2 os vs2 ps2 ∧ Below base wr w' ∧ Boxes wr w' := by
        rw [l1, l2, l3] at hG
        refine hG.mono ?_
        rintro e w' ⟨d, ls2, vs2, ps2, he, m1, m2, m3, c1, c2, c3, c4, c5⟩
        rw [l1, l2, l3] at he
        exact ⟨d, ls2, vs2, ps2, he, ⟨m1.trans l1, m2.trans l2, m3.trans l3, c2, c3⟩, c1, c4, c5⟩
      have HG := Lib.hid hG2
      have hm5 : m ≤ 2600 := by omega
      have HP := Lib.hid hpn
      have HMM := Lib.hid hM
      clear hG hG2 l1 l2 l3 hB ok' hpn hM
      go_upto_region 10 with (first | (go_at_call 57; refine HG.out.mono ?_; rintro e w3 ⟨d, ls2, vs2, ps2, rfl, hc, hB3, b3, X3⟩; have HC := Lib.hid hc; have HB3 := Lib.hid hB3; clear hc hB3; have kB3 := (X3 _ _ kB).alloc (.cells #[.slice (some ⟨gL, 0, none⟩) ls.length cL, .slice (some ⟨gO, 0, none⟩) os.length cO, .slice (some ⟨gV, 0, none⟩) vs.length cV, .slice (some ⟨gP, 0, none⟩) ps.length cP] 79); have g0 := kB3.cell 0; have g1 := kB3.cell 1; have g2 := kB3.cell 2; have g3 := kB3.cell 3; simp at g0 g1 g2 g3; have e0 := kB3.frozen 0; have e1 := kB3.frozen 1; have e2 := kB3.frozen 2; have e3 := kB3.frozen 3))
      have bA := HB3.out.keep (w' := (w3.alloc (.cells #[.slice (some ⟨gL, 0, none⟩) ls.length cL, .slice (some ⟨gO, 0, none⟩) os.length cO, .slice (some ⟨gV, 0, none⟩) vs.length cV, .slice (some ⟨gP, 0, none⟩) ps.length cP] 79))) ((Below.refl w3.heap.size w3).alloc (Nat.le_refl _) _)
      have BA : Below base w (w3.alloc (.cells #[.slice (some ⟨gL, 0, none⟩) ls.length cL, .slice (some ⟨gO, 0, none⟩) os.length cO, .slice (some ⟨gV, 0, none⟩) vs.length cV, .slice (some ⟨gP, 0, none⟩) ps.length cP] 79)) := (hb.trans b3).alloc (by have := (hb.trans b3).size; omega) _
      have XA : Boxes w (w3.alloc (.cells #[.slice (some ⟨gL, 0, none⟩) ls.length cL, .slice (some ⟨gO, 0, none⟩) os.length cO, .slice (some ⟨gV, 0, none⟩) vs.length cV, .slice (some ⟨gP, 0, none⟩) ps.length cP] 79)) := fun b cs hbb => (X3 _ _ (hX _ _ hbb)).alloc _
      obtain ⟨f1, f2, f3, f4⟩ := bA.res kB3 hbw BA XA (Nat.le_refl _) (.slice (some ⟨gL, 0, none⟩) ls.length cL) (.slice (some ⟨gO, 0, none⟩) os.length cO) (.slice (some ⟨gV, 0, none⟩) vs.length cV) (.slice (some ⟨gP, 0, none⟩) ps.length cP)
      have kR4 := (((((X3 _ _ kR).alloc (.cells #[.slice (some ⟨gL, 0, none⟩) ls.length cL, .slice (some ⟨gO, 0, none⟩) os.length cO, .slice (some ⟨gV, 0, none⟩) vs.length cV, .slice (some ⟨gP, 0, none⟩) ps.length cP] 79)).far (p := ⟨w.heap.size, 0, none⟩) (by show w.heap.size + 1 ≠ w.heap.size; omega) (.slice (some ⟨gL, 0, none⟩) ls.length cL)).far (p := ⟨w.heap.size, 1, none⟩) (by show w.heap.size + 1 ≠ w.heap.size; omega) (.slice (some ⟨gO, 0, none⟩) os.length cO)).far (p := ⟨w.heap.size, 2, none⟩) (by show w.heap.size + 1 ≠ w.heap.size; omega) (.slice (some ⟨gV, 0, none⟩) vs.length cV)).far (p := ⟨w.heap.size, 3, none⟩) (by show w.heap.size + 1 ≠ w.heap.size; omega) (.slice (some ⟨gP, 0, none⟩) ps.length cP)
      clear bA BA XA kB3 g0 g1 g2 g3 e0 e1 e2 e3 z0 z1 z2 z3 kB kR HB3 b3 X3 hb hX HG
      generalize (((((w3.alloc (.cells #[.slice (some ⟨gL, 0, none⟩) ls.length cL, .slice (some ⟨gO, 0, none⟩) os.length cO, .slice (some ⟨gV, 0, none⟩) vs.length cV, .slice (some ⟨gP, 0, none⟩) ps.length cP] 79)).setCell ⟨w.heap.size, 0, none⟩ (.slice (some ⟨gL, 0, none⟩) ls.length cL)).setCell ⟨w.heap.size, 1, none⟩ (.slice (some ⟨gO, 0, none⟩) os.length cO)).setCell ⟨w.heap.size, 2, none⟩ (.slice (some ⟨gV, 0, none⟩) vs.length cV)).setCell ⟨w.heap.size, 3, none⟩ (.slice (some ⟨gP, 0, none⟩) ps.length cP)) = w4 at f1 f2 f3 f4 kR4 ⊢
      have hmm := HMM.out
      cases d
      · have HF := Lib.hid (And.intro HC.out (And.intro f1 (And.intro f2 (And.intro f3 (And.intro f4 (And.intro kR4 hmm))))))
        clear f1 f2 f3 f4 kR4 hmm HC HMM hmod HP
        go_wp2_with fail
        go_roundw
        case rel =>
          obtain ⟨⟨m1, m2, m3, ok2, mu2⟩, f1, f2, f3, f4, kR4, hmm⟩ := HF.out
          have mu3 : mu ls2 ps2 ≤ mu ls' ps' := by simpa using mu2
          exact ⟨n + 1, m + 1, ls2, vs2, ps2, by congr 1, by congr 1, by omega, by omega, m1, m2, m3, f1, ok2, f4, kR4, f2, f3⟩
        case measure => have hmm := HF.out.2.2.2.2.2.2; simp [intOf]; omega
      · have HF := Lib.hid (And.intro HC.out (And.intro f1 (And.intro f2 (And.intro f3 (And.intro f4 (And.intro kR4 hmm))))))
        clear f1 f2 f3 f4 kR4 hmm HC HMM hmod HP
        go_wp2_with fail
        go_roundw
        case rel =>
          obtain ⟨⟨m1, m2, m3, ok2, mu2⟩, f1, f2, f3, f4, kR4, hmm⟩ := HF.out
          have mu3 : mu ls2 ps2 + 1 ≤ mu ls' ps' := by simpa using mu2
          exact ⟨0, m + 1, ls2, vs2, ps2, rfl, by congr 1, by omega, by omega, m1, m2, m3, f1, ok2, f4, kR4, f2, f3⟩
        case measure => have hmm := HF.out.2.2.2.2.2.2; simp [intOf]; omega
    · have hlt' : ¬ (n : Int) < (ps.length : Int) := by omega
      have v0 := kR.cell 0
      have v1 := kR.cell 1
      have v2 := kR.cell 2
      have v3 := kR.cell 3
      simp at v0 v1 v2 v3
      have y0 := kR.frozen 0
      have y1 := kR.frozen 1
      have y2 := kR.frozen 2
      have y3 := kR.frozen 3
      have HM := Lib.hid (And.intro l1 (And.intro l2 (And.intro l3 ok')))
      clear l1 l2 l3 ok'
      go_wp2_with fail
      obtain ⟨f1, f2, f3, f4⟩ := hB.res kR (by omega) hb hX (by omega) (.slice (some ⟨gL, 0, none⟩) ls.length cL) (.slice (some ⟨gO, 0, none⟩) os.length cO) (.slice (some ⟨gV, 0, none⟩) vs.length cV) (.slice (some ⟨gP, 0, none⟩) ps.length cP)
      clear z0 z1 z2 z3 v0 v1 v2 v3 y0 y1 y2 y3
      generalize ((((wr.setCell ⟨w.heap.size + 1, 0, none⟩ (.slice (some ⟨gL, 0, none⟩) ls.length cL)).setCell ⟨w.heap.size + 1, 1, none⟩ (.slice (some ⟨gO, 0, none⟩) os.length cO)).setCell ⟨w.heap.size + 1, 2, none⟩ (.slice (some ⟨gV, 0, none⟩) vs.length cV)).setCell ⟨w.heap.size + 1, 3, none⟩ (.slice (some ⟨gP, 0, none⟩) ps.length cP)) = W7 at f1 f2 f3 f4 ⊢
      have r0 := f4.cell 0
      have r1 := f4.cell 1
      have r2 := f4.cell 2
      have r3 := f4.cell 3
      simp at r0 r1 r2 r3
      exact bodyPost_ret (v := .agg #[.slice (some ⟨gL, 0, none⟩) ls.length cL, .slice (some ⟨gO, 0, none⟩) os.length cO, .slice (some ⟨gV, 0, none⟩) vs.length cV, .slice (some ⟨gP, 0, none⟩) ps.length cP]) (by simp [results, Tryd.results47, go_sem, r0, r1, r2, r3]) rfl ⟨ls', vs', ps', rfl, HM.out.1, HM.out.2.1, HM.out.2.2.1, f1, HM.out.2.2.2, f2, f3⟩
end Go.Proofs.YthdnhaaojicmbaaDoor
