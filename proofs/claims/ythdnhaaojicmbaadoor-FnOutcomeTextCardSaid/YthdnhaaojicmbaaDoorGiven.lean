/-
  l3Given: a party hears something.
-/
import Derived.Test.YthdnhaaojicmbaaDoorBd5
namespace Go.Proofs.YthdnhaaojicmbaaDoor
open Go.RowKit
set_option linter.unusedSimpArgs false
set_option linter.unusedVariables false

/-- the party q with a word more -/
structure Given (word : Int) (q x : Pt) : Prop where
  plan : x.plan = q.plan
  at_ : (x.at_ : Int) = if ((q.plan.2.1.getD q.at_ (ByteArray.empty, 0, 0)).1.toList == takeL) = true then (q.at_ : Int) + 1 else q.at_
  heard : x.heard.2.1 = q.heard.2.1 ++ [word]
  fin : x.fin = q.fin
  last : 0 ≤ x.last ∧ x.last ≤ 1000
theorem knat (b : Bool) (k : Nat) : ∃ kn : Nat, (if b = true then (k : Int) + 1 else (k : Int)) = (kn : Int) := by
  cases b
  · exact ⟨k, rfl⟩
  · exact ⟨k + 1, by simp⟩
theorem frz {w w' : World} {base gL gO gV gP cL cO cV cP : Nat} {ls : List Ln} {os : List Int} {vs : List Value} {ps : List Pt} (h : BD w base gL gO gV gP cL cO cV cP ls os vs ps) (hb : Below w.heap.size w w') (q : Nat) : w'.frozen? ⟨gP, q * 6, none⟩ = false ∧ w'.frozen? ⟨gP, q * 6 + 1, none⟩ = false ∧ w'.frozen? ⟨gP, q * 6 + 2, none⟩ = false ∧ w'.frozen? ⟨gP, q * 6 + 3, none⟩ = false ∧ w'.frozen? ⟨gP, q * 6 + 4, none⟩ = false ∧ w'.frozen? ⟨gP, q * 6 + 5, none⟩ = false :=
  let f := (h.keep hb).pts.frozenAt
  ⟨f _, f _, f _, f _, f _, f _⟩
/-- boxes of boards stand -/
def Boxes (w w' : World) : Prop := ∀ b cs, Blk w b 79 cs → Blk w' b 79 cs
set_option maxHeartbeats 16000000 in
theorem l3Given_any (base gL gO gV gP cL cO cV cP nl q : Nat) (word : Int) (ls : List Ln) (os : List Int) (vs : List Value) (ps : List Pt) (w : World) (h : BD w base gL gO gV gP cL cO cV cP ls os vs ps) (hp4 : ps.length ≤ 4) (hq : q < ps.length) (hat : ps[q].at_ < ps[q].plan.2.1.length) (hpl13 : ps[q].plan.2.1.length ≤ 13) (hhl : ps[q].heard.2.1.length ≤ 1000) (hw1 : -1 ≤ word) (hw2 : word ≤ 1000) :
    Calls Tryd.prog 67 #[.agg #[.slice (some ⟨gL, 0, none⟩) ls.length cL, .slice (some ⟨gO, 0, none⟩) os.length cO, .slice (some ⟨gV, 0, none⟩) vs.length cV, .slice (some ⟨gP, 0, none⟩) ps.length cP], .int .i64 q, .int .i64 word] w fun e w' => e = .returned (.agg #[.slice (some ⟨gL, 0, none⟩) ls.length cL, .slice (some ⟨gO, 0, none⟩) os.length cO, .slice (some ⟨gV, 0, none⟩) vs.length cV, .slice (some ⟨gP, 0, none⟩) ps.length cP]) ∧ ∃ x : Pt, Given word ps[q] x ∧ BD w' base gL gO gV gP cL cO cV cP ls os vs (ps.set q x) ∧ Below base w w' ∧ Boxes w w' := by
  have B1 := ((Below.refl w.heap.size w).alloc (Nat.le_refl _) (.cells #[.slice (some ⟨gL, 0, none⟩) ls.length cL, .slice (some ⟨gO, 0, none⟩) os.length cO, .slice (some ⟨gV, 0, none⟩) vs.length cV, .slice (some ⟨gP, 0, none⟩) ps.length cP] 79)).alloc (by simp) (.cells #[.slice none 0 0, .slice none 0 0, .slice none 0 0, .slice none 0 0] 79)
  have k1 := (Blk.new w 79 #[.slice (some ⟨gL, 0, none⟩) ls.length cL, .slice (some ⟨gO, 0, none⟩) os.length cO, .slice (some ⟨gV, 0, none⟩) vs.length cV, .slice (some ⟨gP, 0, none⟩) ps.length cP]).alloc (.cells #[.slice none 0 0, .slice none 0 0, .slice none 0 0, .slice none 0 0] 79)
  have k2 := Blk.new (w.alloc (.cells #[.slice (some ⟨gL, 0, none⟩) ls.length cL, .slice (some ⟨gO, 0, none⟩) os.length cO, .slice (some ⟨gV, 0, none⟩) vs.length cV, .slice (some ⟨gP, 0, none⟩) ps.length cP] 79)) 79 #[.slice none 0 0, .slice none 0 0, .slice none 0 0, .slice none 0 0]
  simp only [World.size_alloc] at k2
  have hB1 := h.keep B1
  have HH := Lib.hid h
  go_enter Tryd.func67, Tryd.ntmps67
  go_upto_region 1 with fail
  generalize (w.alloc (.cells #[.slice (some ⟨gL, 0, none⟩) ls.length cL, .slice (some ⟨gO, 0, none⟩) os.length cO, .slice (some ⟨gV, 0, none⟩) vs.length cV, .slice (some ⟨gP, 0, none⟩) ps.length cP] 79)).alloc (.cells #[.slice none 0 0, .slice none 0 0, .slice none 0 0, .slice none 0 0] 79) = w1 at B1 k1 k2 hB1 ⊢
  have a3 : w1.cell? ⟨w.heap.size, 3, none⟩ = some (.slice (some ⟨gP, 0, none⟩) ps.length cP) := k1.cell 3
  obtain ⟨p0, p1, p2, p3, p4, p5⟩ := hB1.party hq
  have Hr : ∀ W, Below w.heap.size w W → RD W W.heap.size ps[q].plan.1 ps[q].plan.2.1 := fun W hbW => Reads.of_own ((h.keep hbW).plan _ (List.getElem_mem hq))
  have Hh : ∀ W, Below w.heap.size w W → RI W W.heap.size ps[q].heard.1 ps[q].heard.2.1 := fun W hbW => Reads.of_own ((h.keep hbW).heard _ (List.getElem_mem hq))
  obtain ⟨x0, hx0⟩ : ∃ x0, ps[q] = x0 := ⟨_, rfl⟩
  have HX := Lib.hid hx0
  simp only [hx0] at p0 p1 p2 p3 p4 p5 Hr Hh hat hpl13 hhl
  obtain ⟨⟨Ap, lp, cp⟩, at_, ⟨Ah, hl, ch⟩, fin, last, ear⟩ := x0
  simp only [rowV] at p0 p1 p2 p3 p4 p5 Hr Hh hat hpl13 hhl
  have HRD := Lib.hid Hr
  have HRH := Lib.hid Hh
  have hq' : (q : Int) < (ps.length : Int) := by omega
  have Hk1 := Lib.hid k1
  have Hk2 := Lib.hid k2
  have HB1 := Lib.hid hB1
  have hfz : w1.frozen? ⟨gP, q * 6, none⟩ = false := hB1.pts.frozenAt _
  clear h hB1 hx0 Hr Hh k1 k2
  have e3 : w1.drew.cell? ⟨w.heap.size, 3, none⟩ = some (.slice (some ⟨gP, 0, none⟩) ps.length cP) := a3
  go_region_with (first | (go_at_call 70; refine (l3Hears_any _ lp cp at_ _ hl ch _ _ _ _ _ (HRD.out _ B1.drew) (HRH.out _ B1.drew) hat (by omega) (by omega) hw1 hw2).mono ?_; rintro e w2 ⟨A', c', la, rfl, m0, m1, hown, hb2⟩; have B2 := B1.drew.trans (hb2.mono B1.drew.size); have c3 := keepC hb2 e3; have F2 := frz HH.out B2 q; obtain ⟨f0, f1, f2, f3, f4, f5⟩ := F2; obtain ⟨kn, hkn⟩ := knat (lp[at_].1.toList == takeL) at_; rw [hkn]; obtain ⟨u0, u1, u2, u3, u4, u5⟩ := (HH.out.keep B2).party hq; simp only [HX.out, rowV] at u0 u1 u2 u3 u4 u5))
  all_goals
    clear u0 u1 u2 u3 u4 u5 f0 f1 f2 f3 f4 f5 c3 e3 p0 p1 p2 p3 p4 p5 a3 hfz
    have hB2 := HH.out.keep B2
    have hbP := HH.out.pts.lt gP rfl
    have hbw : base ≤ w.heap.size := by omega
    have kk1 : Blk w2 w.heap.size 79 #[.slice (some ⟨gL, 0, none⟩) ls.length cL, .slice (some ⟨gO, 0, none⟩) os.length cO, .slice (some ⟨gV, 0, none⟩) vs.length cV, .slice (some ⟨gP, 0, none⟩) ps.length cP] := (show Blk w1.drew _ _ _ from Hk1.out).below hb2 Hk1.out.lt
    have kk2 : Blk w2 (w.heap.size + 1) 79 #[.slice none 0 0, .slice none 0 0, .slice none 0 0, .slice none 0 0] := (show Blk w1.drew _ _ _ from Hk2.out).below hb2 Hk2.out.lt
    obtain ⟨x, hx⟩ : ∃ x : Pt, x = ⟨(Ap, lp, cp), kn, (A', hl ++ [word], c'), fin, la, ear⟩ := ⟨_, rfl⟩
    have hsz1 : w.heap.size ≤ w1.drew.heap.size := B1.size
    have hh : w2.ownsRow base 3 1 (rowV x.heard) x.heard.2.1.length (ints x.heard.2.1) := by
      rw [hx]; exact own_mono hown (by omega)
    have hap : ∀ v ∈ vs, Apart v (rowV x.heard) := fun v hv r h1 h2 => by
      obtain ⟨xs, h3⟩ := HH.out.each v hv
      have e1 := (h3.lt r h1).2
      rw [hx] at h2
      have e2 := (hown.lt r h2).1
      omega
    have hG : Given word ps[q] x := by
      have hXo := HX.out
      rw [hXo, hx]
      refine ⟨rfl, ?_, rfl, rfl, m0, m1⟩
      show (kn : Int) = if ((lp.getD at_ (ByteArray.empty, 0, 0)).1.toList == takeL) = true then (at_ : Int) + 1 else at_
      rw [List.getD_eq_getElem?_getD, List.getElem?_eq_getElem hat]
      exact hkn.symm
    have hpl : x.plan = ps[q].plan := hG.plan
    have six := hB2.six hq x hpl hh hap
    have B6 := (((((((B2.mono hbw).setCell (p := ⟨gP, q * 6, none⟩) hbP.1 (rowV x.plan)).setCell (p := ⟨gP, q * 6 + 1, none⟩) hbP.1 (.int .i64 x.at_)).setCell (p := ⟨gP, q * 6 + 2, none⟩) hbP.1 (rowV x.heard)).setCell (p := ⟨gP, q * 6 + 3, none⟩) hbP.1 (.string x.fin)).setCell (p := ⟨gP, q * 6 + 4, none⟩) hbP.1 (.int .i64 x.last)).setCell (p := ⟨gP, q * 6 + 5, none⟩) hbP.1 (.int .i64 x.ear))
    have far6 : ∀ b cs, b ≠ gP → Blk w2 b 79 cs → Blk ((((((w2.setCell ⟨gP, q * 6, none⟩ (rowV x.plan)).setCell ⟨gP, q * 6 + 1, none⟩ (.int .i64 x.at_)).setCell ⟨gP, q * 6 + 2, none⟩ (rowV x.heard)).setCell ⟨gP, q * 6 + 3, none⟩ (.string x.fin)).setCell ⟨gP, q * 6 + 4, none⟩ (.int .i64 x.last)).setCell ⟨gP, q * 6 + 5, none⟩ (.int .i64 x.ear)) b 79 cs := fun b cs hne hb => (((((hb.far (p := ⟨gP, q * 6, none⟩) hne _).far (p := ⟨gP, q * 6 + 1, none⟩) hne _).far (p := ⟨gP, q * 6 + 2, none⟩) hne _).far (p := ⟨gP, q * 6 + 3, none⟩) hne _).far (p := ⟨gP, q * 6 + 4, none⟩) hne _).far (p := ⟨gP, q * 6 + 5, none⟩) hne _
    have g1 := far6 _ _ (by omega) kk1
    have g2 := far6 _ _ (by omega) kk2
    have g3 : ∀ b cs, Blk w b 79 cs → Blk _ b 79 cs := fun b cs hb => far6 b cs (by have := own_blk_ne HH.out.pts hb (by decide); intro e; exact this (by rw [e]; rfl)) (hb.below B2 hb.lt)
    have hlen : (hl ++ [word]).length = hl.length + 1 := by simp
    have HG := Lib.hid hG
    clear hG hpl hap hh far6 hB2 kk1 kk2 hown hkn
    obtain ⟨W6, hW6⟩ : ∃ W6, W6 = ((((((w2.setCell ⟨gP, q * 6, none⟩ (rowV x.plan)).setCell ⟨gP, q * 6 + 1, none⟩ (.int .i64 x.at_)).setCell ⟨gP, q * 6 + 2, none⟩ (rowV x.heard)).setCell ⟨gP, q * 6 + 3, none⟩ (.string x.fin)).setCell ⟨gP, q * 6 + 4, none⟩ (.int .i64 x.last)).setCell ⟨gP, q * 6 + 5, none⟩ (.int .i64 x.ear)) := ⟨_, rfl⟩
    rw [← hW6] at six B6 g1 g2 g3
    rw [hx] at hW6
    simp only [rowV, hlen] at hW6
    rw [← hW6]
    clear hW6
    have z0 := g1.cell 0
    have z1 := g1.cell 1
    have z2 := g1.cell 2
    have z3 := g1.cell 3
    simp at z0 z1 z2 z3
    have y0 := g2.frozen 0
    have y1 := g2.frozen 1
    have y2 := g2.frozen 2
    have y3 := g2.frozen 3
    have v0 := g2.cell 0
    have v1 := g2.cell 1
    have v2 := g2.cell 2
    have v3 := g2.cell 3
    simp at v0 v1 v2 v3
    have hgt : ¬ (2000 : Int) < word := by omega
    have S6 := Lib.hid (And.intro six (And.intro B6 (And.intro g2 g3)))
    clear six B6 g1 g2 g3 hx hlen
    go_wp2_with fail
    obtain ⟨six, B6, g2, g3⟩ := S6.out
    have f1 := ((((six.box (i := 0) g2 (.slice (some ⟨gL, 0, none⟩) ls.length cL)).box (i := 1) (g2.set_ 0 (.slice (some ⟨gL, 0, none⟩) ls.length cL)) (.slice (some ⟨gO, 0, none⟩) os.length cO)).box (i := 2) ((g2.set_ 0 (.slice (some ⟨gL, 0, none⟩) ls.length cL)).set_ 1 (.slice (some ⟨gO, 0, none⟩) os.length cO)) (.slice (some ⟨gV, 0, none⟩) vs.length cV)).box (i := 3) (((g2.set_ 0 (.slice (some ⟨gL, 0, none⟩) ls.length cL)).set_ 1 (.slice (some ⟨gO, 0, none⟩) os.length cO)).set_ 2 (.slice (some ⟨gV, 0, none⟩) vs.length cV)) (.slice (some ⟨gP, 0, none⟩) ps.length cP))
    have f2 : Below base w _ := ((((B6.setCell (p := ⟨w.heap.size + 1, 0, none⟩) (by show base ≤ w.heap.size + 1; omega) (.slice (some ⟨gL, 0, none⟩) ls.length cL)).setCell (p := ⟨w.heap.size + 1, 1, none⟩) (by show base ≤ w.heap.size + 1; omega) (.slice (some ⟨gO, 0, none⟩) os.length cO)).setCell (p := ⟨w.heap.size + 1, 2, none⟩) (by show base ≤ w.heap.size + 1; omega) (.slice (some ⟨gV, 0, none⟩) vs.length cV)).setCell (p := ⟨w.heap.size + 1, 3, none⟩) (by show base ≤ w.heap.size + 1; omega) (.slice (some ⟨gP, 0, none⟩) ps.length cP))
    have f3 : Boxes w _ := fun b cs hb => (((((g3 b cs hb).far (p := ⟨w.heap.size + 1, 0, none⟩) (by have := hb.lt; intro e; have e2 : b = w.heap.size + 1 := e; omega) (.slice (some ⟨gL, 0, none⟩) ls.length cL)).far (p := ⟨w.heap.size + 1, 1, none⟩) (by have := hb.lt; intro e; have e2 : b = w.heap.size + 1 := e; omega) (.slice (some ⟨gO, 0, none⟩) os.length cO)).far (p := ⟨w.heap.size + 1, 2, none⟩) (by have := hb.lt; intro e; have e2 : b = w.heap.size + 1 := e; omega) (.slice (some ⟨gV, 0, none⟩) vs.length cV)).far (p := ⟨w.heap.size + 1, 3, none⟩) (by have := hb.lt; intro e; have e2 : b = w.heap.size + 1 := e; omega) (.slice (some ⟨gP, 0, none⟩) ps.length cP))
    have f4 : Blk _ (w.heap.size + 1) 79 #[.slice (some ⟨gL, 0, none⟩) ls.length cL, .slice (some ⟨gO, 0, none⟩) os.length cO, .slice (some ⟨gV, 0, none⟩) vs.length cV, .slice (some ⟨gP, 0, none⟩) ps.length cP] := ((((g2.set_ 0 (.slice (some ⟨gL, 0, none⟩) ls.length cL)).set_ 1 (.slice (some ⟨gO, 0, none⟩) os.length cO)).set_ 2 (.slice (some ⟨gV, 0, none⟩) vs.length cV)).set_ 3 (.slice (some ⟨gP, 0, none⟩) ps.length cP))
    clear six B6 g2 g3 v0 v1 v2 v3 y0 y1 y2 y3 z0 z1 z2 z3 S6
    generalize ((((W6.setCell ⟨w.heap.size + 1, 0, none⟩ (.slice (some ⟨gL, 0, none⟩) ls.length cL)).setCell ⟨w.heap.size + 1, 1, none⟩ (.slice (some ⟨gO, 0, none⟩) os.length cO)).setCell ⟨w.heap.size + 1, 2, none⟩ (.slice (some ⟨gV, 0, none⟩) vs.length cV)).setCell ⟨w.heap.size + 1, 3, none⟩ (.slice (some ⟨gP, 0, none⟩) ps.length cP)) = W7 at f1 f2 f3 f4 ⊢
    have r0 := f4.cell 0
    have r1 := f4.cell 1
    have r2 := f4.cell 2
    have r3 := f4.cell 3
    simp at r0 r1 r2 r3
    exact bodyPost_ret (v := .agg #[.slice (some ⟨gL, 0, none⟩) ls.length cL, .slice (some ⟨gO, 0, none⟩) os.length cO, .slice (some ⟨gV, 0, none⟩) vs.length cV, .slice (some ⟨gP, 0, none⟩) ps.length cP]) (by simp [results, Tryd.results67, go_sem, r0, r1, r2, r3]) rfl ⟨rfl, x, HG.out, f1, f2, f3⟩
end Go.Proofs.YthdnhaaojicmbaaDoor
