/-
  A guest moves to another bridge: off its bridge.
-/
import Derived.Test.YthmgpkcijolljaaH17
namespace Go.Proofs.Ythmgpkcijolljaa
open Go.Conc Go.RowKit Go.Conc.Lib
open Go.ConcN (upd upd_same upd_ne)
open Go.ChangeMaps
set_option linter.unusedSimpArgs false
set_option linter.unusedVariables false
theorem own_some' {w : World} {base n sz : Nat} {e : TypeId} {v : Value} {xs : List Value} (h : w.ownsRow base e sz v n xs) (hn : 0 < n) : ∃ gk cap, v = .slice (some ⟨gk, 0, none⟩) n cap := by
 rcases h.2 with ⟨_, h0⟩ | ⟨g, cap, cur, rfl, _⟩
 ·omega
 ·exact ⟨g, cap, rfl⟩
theorem split_nodup {l : List Nat} {g : Nat} (hm : g ∈ l) (hn : l.Nodup) : ∃ l1 l2, l = l1 ++ g :: l2 ∧ g ∉ l1 ∧ g ∉ l2 := by
 obtain ⟨l1, l2, rfl⟩ := List.append_of_mem hm
 have h1 := List.nodup_append.1 hn
 refine ⟨l1, l2, rfl, fun h => ?_, (List.nodup_cons.1 h1.2.1).1⟩
 exact h1.2.2 g h g (List.mem_cons_self ..) rfl
theorem filter_out {l1 l2 : List Nat} {g : Nat} (h1 : g ∉ l1) (h2 : g ∉ l2) : (l1 ++ g :: l2).filter (· != g) = l1 ++ l2 := by
 rw [List.filter_append, List.filter_cons]
 simp only [bne_self_eq_false, Bool.false_eq_true, if_false]
 rw [List.filter_eq_self.2 (fun a ha => by simp; rintro rfl; exact h1 ha), List.filter_eq_self.2 (fun a ha => by simp; rintro rfl; exact h2 ha)]
theorem rowI_mem {l : List Nat} {g : Nat} : (g : Int) ∈ rowI l ↔ g ∈ l := by
 unfold rowI
 rw [List.mem_map]
 constructor
 ·rintro ⟨x, hx, e⟩
  have : x = g := by omega
  exact this ▸ hx
 ·exact fun h => ⟨g, h, rfl⟩
section
variable {main : Bool} {Live : World → Prop} {K : Goroutine → World → Prop} {v0 u : World} {A : Ad} {k : Nat} {C : Nat → Nat} {on : Nat → Nat} {X : Nat → Value} {al : List Int} {rows : Nat → List Nat} {g bb bq : Nat}
set_option maxRecDepth 100000 in
set_option maxHeartbeats 1000000 in
/-- off its bridge -/
theorem off_reg (hK : KOk Try.prog main true false Live K) {b : Frame} {ks : List Item} {cs : List Frame} {T : Array Value} {y : Value} (hk : b.kind ≠ .early) (hM : Mt v0 A k C on (Lr al rows) X u) (hA : AdOk A) (hb0 : 1 ≤ bb) (hb9 : bb ≤ 9) (hlen : (rows bb).length ≤ 900) (hnd : (rows bb).Nodup) (hgm : g ∈ rows bb)
  (hbq : u.cell? ⟨bq, 0, none⟩ = some (.int .i64 g)) (hbx : ∀ c, c ≤ 9 → (X c).ownBlock ≠ some bq) (hz : T.size = 52) (h0 : T.getD 0 undef = .pointer (some ⟨A.GA, 0, none⟩)) (h2 : T.getD 2 undef = y) (h4 : T.getD 4 undef = .pointer (some ⟨bq, 0, none⟩)) (h6 : T.getD 6 undef = .chan (A.ch bb))
  (h : ∀ u' X' T', Mt v0 A k C on (Lr al (upd rows bb ((rows bb).filter (· != g)))) X' u' → u'.cell? ⟨bq, 0, none⟩ = some (.int .i64 g) → (∀ c, c ≤ 9 → (X' c).ownBlock ≠ some bq) → T'.size = 52 → T'.getD 0 undef = .pointer (some ⟨A.GA, 0, none⟩) → T'.getD 2 undef = y → T'.getD 4 undef = .pointer (some ⟨bq, 0, none⟩) → KA K (G (b.at ⟨T', []⟩ ks) cs) u') :
  KA K (G (b.at ⟨T, []⟩ (.code (.region 3 ops53b true) :: ks)) cs) u := by
 have hF := hM.flat
 have hs : ops53b.size = 14 := size53b
 have hc3 : u.cell? ⟨A.GA, 3, none⟩ = some (.map (some A.Gm)) := by have := hM.cell 3; simpa [gatC] using this
 have hgmg := hM.gmg bb hb0 hb9
 have hrow := hM.row bb hb9
 have hLb : Lr al rows bb = rowI (rows bb) := by unfold Lr; rw [if_neg (by omega)]
 rw [hLb, rowI_length] at hrow
 obtain ⟨l1, l2, hl, hn1, hn2⟩ := split_nodup hgm hnd
 have hlpos : 0 < (rows bb).length := by rw [hl]; simp; omega
 obtain ⟨gk, cp, hX⟩ := own_some' hrow hlpos
 have hlen2 : (rows bb).length = (l1.length + l2.length) + 1 := by rw [hl]; simp; omega
 have hfl : (rows bb).filter (· != g) = l1 ++ l2 := by rw [hl]; exact filter_out hn1 hn2
 have hbg : bq ≠ gk := fun e => hbx bb hb9 (by rw [hX, e]; rfl)
 have hrI : rowI (rows bb) = rowI l1 ++ (g : Int) :: rowI l2 := by rw [hl]; simp [rowI]
 obtain ⟨N1, hN1⟩ : ∃ N1, N1 = (rowI l1).length + (rowI l2).length := ⟨_, rfl⟩
 have hN1' : (rows bb).length = N1 + 1 := by rw [hN1, rowI_length, rowI_length]; exact hlen2
 rw [hX, hN1', hrI] at hrow
 have hX' : X bb = .slice (some ⟨gk, 0, none⟩) (N1 + 1) cp := by rw [hX, hN1']
 refine kDraw (by kernel_rfl) hK hF (by kernel_rfl) fun ord hord => ?_
 have hQ1 := fun j hj => quiet53b (v := u) (T0 := T) (Gm := A.Gm) (GA := A.GA) (bq := bq) (c := A.ch bb) (X := X bb) (R := .slice (some ⟨gk, 0, none⟩) N1 cp) hc3 (look_up hM.gm hgmg) hz h0 h4 h6 j hj
 refine kPhase (F := F53b A.GA A.Gm bq (A.ch bb) (X bb) (.slice (some ⟨gk, 0, none⟩) N1 cp)) (T0 := T) (df := []) closedS.bodies hK hF hk [0, 1, 2, 3, 4, 5, 6, 7, 8, 9, 10, 11] [] (fun j hj => hQ1 j (by simpa using hj)) 12 (by rw [hs]; decide) (fun d i r hi _ hlt hndd hR _ hC hL => ?_) (l := ord) (d := []) (by simp) (by simp) .nil hord
 rw [hs] at hlt
 simp only [List.mem_cons, List.not_mem_nil, or_false, not_or] at hi
 have hnot : ∀ q, q ∈ d → q < 12 := fun q hq => by
  have := hR q hq
  simp only [List.mem_cons, List.not_mem_nil, or_false] at this
  omega
 rcases (by omega : i = 12 ∨ i = 13) with rfl | rfl
 ·have m10 : 10 ∈ d := hL.waits o53b_12 (by kernel_rfl)
  have m11 : 11 ∈ d := hL.waits o53b_12 (by kernel_rfl)
  have e26 := fill_ev (F := F53b A.GA A.Gm bq (A.ch bb) (X bb) (.slice (some ⟨gk, 0, none⟩) N1 cp)) (T0 := T) apart53b (i := 10) (s := 26) (by kernel_rfl) (by omega) m10 []
  have e27 := fill_ev (F := F53b A.GA A.Gm bq (A.ch bb) (X bb) (.slice (some ⟨gk, 0, none⟩) N1 cp)) (T0 := T) apart53b (i := 11) (s := 27) (by kernel_rfl) (by omega) m11 []
  obtain ⟨_, _, hdep, hL1⟩ := hL.step
  have hsh1 := hC.cons hdep
  refine del_call (bq := bq) (l1 := rowI l1) (l2 := rowI l2) (g := g) (gk := gk) (cp := cp) (N1 := N1) (B0 := A.R) hK o53b_12 rfl hk rfl (e26.trans hX') e27 hF hN1 (by omega) (by rw [rowI_mem]; exact hn1) (by rw [rowI_mem]; exact hn2) hbg hrow hbq fun u2 hF2 hs2 hg2 hr2 => ?_
  have hRC : RowCh u u2 A X bb (.slice (some ⟨gk, 0, none⟩) N1 cp) (rowI (l1 ++ l2)) := by
   refine ⟨hF2, hs2, fun q hq hne => hg2 q hq (fun e => hne (by rw [hX', e]; rfl)), ?_, .inl (by rw [hX']; rfl)⟩
   have e1 : rowI (l1 ++ l2) = rowI l1 ++ rowI l2 := by simp [rowI]
   rw [e1, List.length_append, ← hN1]; exact hr2
  have eF : (Act.mk (fillT ops53b (F53b A.GA A.Gm bq (A.ch bb) (X bb) (.slice (some ⟨gk, 0, none⟩) N1 cp)) T d) []).put (some 28) (.slice (some ⟨gk, 0, none⟩) N1 cp) = ⟨fillT ops53b (F53b A.GA A.Gm bq (A.ch bb) (X bb) (.slice (some ⟨gk, 0, none⟩) N1 cp)) T (12 :: d), []⟩ := fill_put o53b_12 rfl
  refine Eq.mp (congrArg (fun a => KA K (G (b.at a _) cs) u2) eF.symm) ?_
  clear eF
  have hgat2 := hRC.gat hM hb9
  have d3 : u2.cell? ⟨A.GA, 3, none⟩ = some (.map (some A.Gm)) := by simp [World.cell?, hgat2, gatC]
  have hgm2 : mcm u2 A.Gm = true := (mcm_of_block (hRC.get _ (mcm_lt hM.gm) (fun e => hM.row_ne hb9 e (mem_all (by simp))))).trans hM.gm
  have hgmg2 : (mget u2 A.Gm (A.ch bb)).getD (.slice none 0 0) = X bb := by
   rw [mget_of_block (hRC.get _ (mcm_lt hM.gm) (fun e => hM.row_ne hb9 e (mem_all (by simp))))]; exact hgmg
  have hbq2 : u2.cell? ⟨bq, 0, none⟩ = some (.int .i64 g) := by
   rw [World.cell?_of_block (a := ⟨bq, 0, none⟩) (hRC.get bq (cell_lt hbq) (hbx bb hb9))]; exact hbq
  have hQ3 := fun j hj => quiet53b (v := u2) (T0 := T) (Gm := A.Gm) (GA := A.GA) (bq := bq) (c := A.ch bb) (X := X bb) (R := .slice (some ⟨gk, 0, none⟩) N1 cp) d3 (look_up hgm2 hgmg2) hz h0 h4 h6 j hj
  refine kPhase (F := F53b A.GA A.Gm bq (A.ch bb) (X bb) (.slice (some ⟨gk, 0, none⟩) N1 cp)) (T0 := T) (df := []) closedS.bodies hK hF2 hk [0, 1, 2, 3, 4, 5, 6, 7, 8, 9] [10, 11, 12] (fun j hj => hQ3 j (by simp at hj; omega)) 13 (by rw [hs]; decide) (fun d3' i r3 hi3 hi4 hlt3 hnd3 hR3 h03 hC3 hL3 => ?_) (fun j hj => ?_) (by simp [m10, m11]) hsh1 hL1
  ·rw [hs] at hlt3
   simp only [List.mem_cons, List.not_mem_nil, or_false, not_or] at hi3 hi4
   obtain rfl : i = 13 := by omega
   have hall := Dom.all (m := 13) (by kernel_rfl) hC3 hL3
   obtain ⟨_, _, _, hL4⟩ := hL3.step
   obtain rfl := lin_last hL4 hs hall
   have e19 := fill_ev (F := F53b A.GA A.Gm bq (A.ch bb) (X bb) (.slice (some ⟨gk, 0, none⟩) N1 cp)) (T0 := T) apart53b (i := 3) (s := 19) (by kernel_rfl) (by omega) (hall 3 (by omega)) []
   have e20 := fill_ev (F := F53b A.GA A.Gm bq (A.ch bb) (X bb) (.slice (some ⟨gk, 0, none⟩) N1 cp)) (T0 := T) apart53b (i := 4) (s := 20) (by kernel_rfl) (by omega) (hall 4 (by omega)) []
   have e28 := fill_ev (F := F53b A.GA A.Gm bq (A.ch bb) (X bb) (.slice (some ⟨gk, 0, none⟩) N1 cp)) (T0 := T) apart53b (i := 12) (s := 28) (by kernel_rfl) (by omega) (hall 12 (by omega)) []
   have e0 := (fill_old (ops := ops53b) (F := F53b A.GA A.Gm bq (A.ch bb) (X bb) (.slice (some ⟨gk, 0, none⟩) N1 cp)) (T0 := T) (s := 0) (by kernel_rfl) d3' []).trans h0
   have e2 := (fill_old (ops := ops53b) (F := F53b A.GA A.Gm bq (A.ch bb) (X bb) (.slice (some ⟨gk, 0, none⟩) N1 cp)) (T0 := T) (s := 2) (by kernel_rfl) d3' []).trans h2
   have e4 := (fill_old (ops := ops53b) (F := F53b A.GA A.Gm bq (A.ch bb) (X bb) (.slice (some ⟨gk, 0, none⟩) N1 cp)) (T0 := T) (s := 4) (by kernel_rfl) d3' []).trans h4
   have ez := (fillT_size (ops := ops53b) (F := F53b A.GA A.Gm bq (A.ch bb) (X bb) (.slice (some ⟨gk, 0, none⟩) N1 cp)) (T0 := T) d3').trans hz
   refine kOpX closedS.bodies hK hF2 hk o53b_13 rfl (by kernel_rfl) fun n hn _ t e => ⟨.skip, undef, mput ((u2.upto n).re t e) A.Gm (A.ch bb) (.slice (some ⟨gk, 0, none⟩) N1 cp), .inr ⟨rfl, rfl⟩, ?_, (fun h => by cases h), fun hF' _ => ?_⟩
   ·have hU : Ups u2 ((u2.upto n).re t e) := (Ups.upto u2 n).re t e
    have hm : mcm ((u2.upto n).re t e) A.Gm = true := (mcm_of_block (hU.get _ (mcm_lt hgm2))).trans hgm2
    unfold execOp
    simp only [e19, e20, e28]
    simp only [F53b]
    go_simp <;> rfl
   ·have hFu : Flat Try.prog ((u2.upto n).re t e) := ⟨(hF2.upto n).room, (hF2.upto n).obj, (hF2.upto n).low⟩
    have hM' := hM.rowSet hA (hRC.up hFu ((Ups.upto u2 n).re t e)) hb0 hb9 hF'
    rw [Lr_upd al rows (by omega), ← hfl] at hM'
    refine kRegEnd hK hF' (h _ _ _ hM' ?_ (fun c hc => ?_) ez e0 e2 e4)
    ·rw [mput_cell]
     exact ((Ups.upto u2 n).re t e).cell hbq2
    ·by_cases e : c = bb
     ·subst e; rw [upd_same]; exact fun e' => hbg (by injection e' with e'; exact e'.symm)
     ·rw [upd_ne _ _ e]; exact hbx c hc
  ·rcases List.mem_cons.1 hj with rfl | hj
   ·simp
   ·have := hnot j hj
    simp only [List.mem_cons, List.not_mem_nil, or_false]
    omega
 ·exact absurd (hnot 12 (hL.waits o53b_13 (by kernel_rfl))) (by omega)
end
end Go.Proofs.Ythmgpkcijolljaa
/-
  A guest moves to another bridge: the call.
-/
namespace Go.Proofs.Ythmgpkcijolljaa
open Go.Conc Go.RowKit Go.Conc.Lib
open Go.ConcN (upd upd_same upd_ne)
open Go.ChangeMaps
set_option linter.unusedSimpArgs false
set_option linter.unusedVariables false
section
variable {main : Bool} {Live : World → Prop} {K : Goroutine → World → Prop} {v0 u : World} {A : Ad} {k : Nat} {C : Nat → Nat} {on : Nat → Nat} {X : Nat → Value} {al : List Int} {rows : Nat → List Nat} {g bb bq : Nat}
theorem ch_some (hA : AdOk A) {q : Nat} (h9 : q ≤ 9) : (!(A.ch q == none)) = decide (q ≠ 0) := by
 by_cases h : q = 0
 ·subst h; rw [hA.h0]; rfl
 ·have h1 : A.ch q ≠ none := fun e => h (hA.inj q 0 (by omega) (by omega) (by rw [e, hA.h0]))
  cases hc : A.ch q with
  | none => exact absurd hc h1
  | some _ => simp [h]
set_option maxRecDepth 100000 in
set_option maxHeartbeats 1000000 in
/-- behind the old bridge: where it is from now on, and onto the other bridge -/
theorem move_rest (hK : KOk Try.prog main true false Live K) {b : Frame} {a : Act} {ks : List Item} {cs : List Frame} {ops : Array Oper} {i : Nat} {rest : List Nat} {dst : Option Tmp} (hdst : (ops[i]?).bind (·.dst) = dst) {T : Array Value} (hM : Mt v0 A k C on (Lr al rows) X u) (hA : AdOk A) (hb9 : bb ≤ 9) (hlen : (rows bb).length ≤ 1000) (gn : g ≤ A.n)
  (hbq : u.cell? ⟨bq, 0, none⟩ = some (.int .i64 g)) (hbx : ∀ c, c ≤ 9 → (X c).ownBlock ≠ some bq) (hz : T.size = 52) (h0 : T.getD 0 undef = .pointer (some ⟨A.GA, 0, none⟩)) (h2 : T.getD 2 undef = .chan (A.ch bb)) (h4 : T.getD 4 undef = .pointer (some ⟨bq, 0, none⟩))
  (h : ∀ u' X', Mt v0 A k C (upd on g bb) (Lr al (rowsOn rows g bb)) X' u' → KA K (G (b.at (a.put dst (.tuple #[])) (.inRegion ops rest :: ks)) cs) u') :
  KA K (G ((Conc.base 53).at ⟨T, []⟩ [.code E53]) (b.at a (.inRegion ops (i :: rest) :: ks) :: cs)) u := by
 have hF := hM.flat
 have hc2 : u.cell? ⟨A.GA, 2, none⟩ = some (.slice (some ⟨A.On, 0, none⟩) (A.n + 1) (A.n + 1)) := by have := hM.cell 2; simpa [gatC] using this
 have hleave : ∀ u' T' X', Mt v0 A k C (upd on g bb) (Lr al (rowsOn rows g bb)) X' u' → KA K (G ((Conc.base 53).at ⟨T', []⟩ []) (b.at a (.inRegion ops (i :: rest) :: ks) :: cs)) u' := fun u' T' X' hM' => by
  have hF' := hM'.flat
  refine kEnd hK hF' (kLeave0 hK hF' rfl rfl Try.func53 rfl ?_)
  rw [hdst]
  exact h u' X' hM'
 have hreg := fun u' X' T' => on_reg (A := A) (u := u') (X := X') (T := T') (ks := []) (b := Conc.base 53) (cs := b.at a (.inRegion ops (i :: rest) :: ks) :: cs) (v0 := v0) (k := k) (C := C) (on := upd on g bb) (al := al) (rows := rows) (g := g) (bb := bb) (bq := bq) hK (by k_ne)
 clear h
 show KA K (G ((Conc.base 53).at ⟨T, []⟩ [.code (.seq (.region 4 ops53c true) (.seq _ _))]) _) u
 refine kSeq hK hF ?_
 refine kLast (F := F53c A.GA A.On (A.n + 1) g (A.ch bb)) (ops := ops53c) closedS.bodies (by kernel_rfl) hK hF (by k_ne) (by kernel_rfl) size53c (by kernel_rfl) (fun j hj => quiet53c hc2 hbq (by omega) hz h0 h2 h4 j (by omega)) fun d hd hnd => ?_
 have e35 := fill_ev (F := F53c A.GA A.On (A.n + 1) g (A.ch bb)) (T0 := T) apart53c (i := 6) (s := 35) (by kernel_rfl) (by omega) (hd 6 (by omega)) []
 have e34 := fill_ev (F := F53c A.GA A.On (A.n + 1) g (A.ch bb)) (T0 := T) apart53c (i := 5) (s := 34) (by kernel_rfl) (by omega) (hd 5 (by omega)) []
 have e0 := (fill_old (ops := ops53c) (F := F53c A.GA A.On (A.n + 1) g (A.ch bb)) (T0 := T) (s := 0) (by kernel_rfl) d []).trans h0
 have e2 := (fill_old (ops := ops53c) (F := F53c A.GA A.On (A.n + 1) g (A.ch bb)) (T0 := T) (s := 2) (by kernel_rfl) d []).trans h2
 have e4 := (fill_old (ops := ops53c) (F := F53c A.GA A.On (A.n + 1) g (A.ch bb)) (T0 := T) (s := 4) (by kernel_rfl) d []).trans h4
 have ez := (fillT_size (ops := ops53c) (F := F53c A.GA A.On (A.n + 1) g (A.ch bb)) (T0 := T) d).trans hz
 have hon := hM.onCell gn
 have hof := hM.onb.frozen g
 refine kOpX closedS.bodies hK hF (by k_ne) o53c_7 rfl (by kernel_rfl) fun n hn _ t e => ⟨.skip, undef, ((u.upto n).re t e).setCell ⟨A.On, g, none⟩ (.chan (A.ch bb)), .inr ⟨rfl, rfl⟩, ?_, (fun h => by cases h), fun hF' _ => ?_⟩
 ·have hU : Ups u ((u.upto n).re t e) := (Ups.upto u n).re t e
  have k6 : ((u.upto n).re t e).cell? ⟨A.On, g, none⟩ = some (.chan (A.ch (on g))) := hU.cell hon
  have g6 : ((u.upto n).re t e).frozen? ⟨A.On, g, none⟩ = false := by rw [World.frozen?_of_block (hU.get _ hM.onb.lt)]; exact hof
  clear hreg hleave hon hof
  unfold execOp
  simp only [e35, e34]
  simp only [F53c]
  go_simp
 ·have hU : Ups u ((u.upto n).re t e) := (Ups.upto u n).re t e
  have hFu : Flat Try.prog ((u.upto n).re t e) := ⟨(hF.upto n).room, (hF.upto n).obj, (hF.upto n).low⟩
  have hM' := (hM.ups hFu hU).onSet hA g bb hF'
  have hbq' : (((u.upto n).re t e).setCell ⟨A.On, g, none⟩ (.chan (A.ch bb))).cell? ⟨bq, 0, none⟩ = some (.int .i64 g) := by
   refine (World.cell?_setCell_other _ ⟨A.On, g, none⟩ ⟨bq, 0, none⟩ _ (fun e' => ?_)).trans (hU.cell hbq)
   injection e' with e1
   have h1 := hbq
   rw [← e1] at h1
   have h2 := hM.onb
   unfold Blk at h2
   simp only [World.cell?, h2] at h1
   have h3 : (onArr A on)[0]? = some (.chan (A.ch (on 0))) := onArr_get A on 0 (by omega)
   rw [h3] at h1
   cases h1
  generalize ((u.upto n).re t e).setCell ⟨A.On, g, none⟩ (.chan (A.ch bb)) = u1 at hF' hM' hbq'
  clear hU hFu hon hof e34 e35
  refine kT fun T1 hT1 => ?_
  have hT2 : T1 = fillT ops53c (F53c A.GA A.On (A.n + 1) g (A.ch bb)) T d := hT1
  rw [← hT2] at e0 e2 e4 ez
  clear hT1 hT2
  have ez' : T1.size = 52 := ez
  obtain ⟨x0, x1, x2, x3, x4, x5, x6, x7, x8, x9, x10, x11, x12, x13, x14, x15, x16, x17, x18, x19, x20, x21, x22, x23, x24, x25, x26, x27, x28, x29, x30, x31, x32, x33, x34, x35, x36, x37, x38, x39, x40, x41, x42, x43, x44, x45, x46, x47, x48, x49, x50, x51, rfl⟩ := arr52 ez'
  obtain rfl : x0 = .pointer (some ⟨A.GA, 0, none⟩) := e0
  obtain rfl : x2 = .chan (A.ch bb) := e2
  obtain rfl : x4 = .pointer (some ⟨bq, 0, none⟩) := e4
  try clear e0
  try clear e2
  try clear e4
  try clear ez
  try clear ez'
  have hch := ch_some hA hb9
  refine kRegEnd hK hF' (kSeq hK hF' (kRegion hK hF' ?_))
  refine kOp closedS.bodies hK hF' (val := .chan (A.ch bb)) (by k_ne) rfl rfl (by kernel_rfl) (fun v₁ hv => by go_simp <;> rfl) ?_
  walk_nrm
  refine kOp closedS.bodies hK hF' (val := .bool (!(A.ch bb == none))) (by k_ne) rfl rfl (by kernel_rfl) (fun v₁ hv => by go_simp <;> rfl) ?_
  walk_nrm
  refine kRegEnd hK hF' ?_
  rw [hch]
  by_cases hb : bb = 0
  ·have e0 : decide (bb ≠ 0) = false := by simp [hb]
   refine kCond hK hF' (t := false) (congrArg Value.bool e0) ?_
   simp only [Bool.false_eq_true, if_false]
   refine kSkip hK hF' (hleave _ _ X ?_)
   have e1 : rowsOn rows g bb = rows := by unfold rowsOn; rw [if_pos hb]
   rw [e1]; exact hM'
  ·have e0 : decide (bb ≠ 0) = true := by simp [hb]
   refine kCond hK hF' (t := true) (congrArg Value.bool e0) ?_
   simp only [if_true]
   have e1 : rowsOn rows g bb = upd rows bb (rows bb ++ [g]) := by unfold rowsOn; rw [if_neg hb]
   exact hreg u1 X _ hM' hA (by omega) hb9 hlen hbq' (hbx bb hb9) (by rfl) (by rfl) (by rfl) (by rfl) (fun u' X' T' hM2 => hleave u' T' X' (by rw [e1]; exact hM2))
set_option maxRecDepth 100000 in
set_option maxHeartbeats 1000000 in
/-- ████ move ████ -/
theorem move_call (hK : KOk Try.prog main true false Live K) {b : Frame} {a : Act} {ks : List Item} {cs : List Frame} {ops : Array Oper} {i : Nat} {rest : List Nat} {o : Oper} {x y z : Operand} {ats : Array TypeId}
  (ho : ops[i]? = some o) (hw : Region.wanted o (yielded ops a.tmps) = true) (hk : b.kind ≠ .early) (hop : o.op = .call { callee := .value (.func 53), args := #[x, y, z], argTypes := ats })
  (hx : a.eval x = .pointer (some ⟨A.GA, 0, none⟩)) (hy : a.eval y = .int .i64 g) (hz : a.eval z = .chan (A.ch bb))
  (hM : Mt v0 A k C on (Lr al rows) X u) (hA : AdOk A) (hro : RowsOk A.n on rows) (hlen : ∀ b, b ≤ 9 → (rows b).length ≤ 900) (hb9 : bb ≤ 9) (g1 : 1 ≤ g) (gn : g ≤ A.n)
  (h : ∀ u' X', Mt v0 A k C (upd on g bb) (Lr al (rowsOn (rowsOff on rows g) g bb)) X' u' → KA K (G (b.at (a.put o.dst (.tuple #[])) (.inRegion ops rest :: ks)) cs) u') :
  KA K (G (b.at a (.inRegion ops (i :: rest) :: ks)) cs) u := by
 have hF := hM.flat
 have hdst : (ops[i]?).bind (·.dst) = o.dst := by rw [ho]; rfl
 have o9 := hro.on9 g g1 gn
 refine kCall hK hF ho hw hk hop Try.func53 (by kernel_rfl) rfl ?_
 simp only [List.map_toArray, List.map_cons, List.map_nil, hx, hy, hz]
 walk_nrmf Try.f53
 refine kSeq hK hF (kRegion hK hF ?_)
 refine kOpX closedS.bodies hK hF (by k_ne) rfl rfl (by kernel_rfl) fun n hn _ t e => ⟨.value (.pointer (some ⟨((u.upto n).re t e).heap.size, 0, none⟩)), .pointer (some ⟨((u.upto n).re t e).heap.size, 0, none⟩), ((u.upto n).re t e).alloc (.cells #[.int .i64 g] 3), .inl rfl, ?_, (fun h => by cases h), fun hF1 _ => ?_⟩
 ·clear h
  unfold execOp
  go_simp
 have hU : Ups u (((u.upto n).re t e).alloc (.cells #[.int .i64 g] 3)) := ((Ups.upto u n).re t e).trans (Ups.alloc _ _)
 have hbq : (((u.upto n).re t e).alloc (.cells #[.int .i64 g] 3)).cell? ⟨((u.upto n).re t e).heap.size, 0, none⟩ = some (.int .i64 g) := by
  have e1 := cell_one_new ((u.upto n).re t e) (.int .i64 g) 3 0 _ rfl
  exact e1
 have hbx : ∀ c, c ≤ 9 → (X c).ownBlock ≠ some ((u.upto n).re t e).heap.size := fun c hc e' => by
  have h1 := ((hM.row c hc).lt _ e').2
  have h2 := ((Ups.upto u n).re t e).size
  omega
 have hM1 := hM.ups hF1 hU
 generalize (((u.upto n).re t e).alloc (.cells #[.int .i64 g] 3)) = u1 at hF1 hU hbq hM1 ⊢
 generalize ((u.upto n).re t e).heap.size = bq at hbq hbx ⊢
 clear hU hM hn
 have hc2 : u1.cell? ⟨A.GA, 2, none⟩ = some (.slice (some ⟨A.On, 0, none⟩) (A.n + 1) (A.n + 1)) := by have := hM1.cell 2; simpa [gatC] using this
 have hon := hM1.onCell gn
 walk_nrm
 refine kRegEnd hK hF1 (kSeq hK hF1 (kSeq hK hF1 ?_))
 have hrest := fun u' rows' X' T' => move_rest (A := A) (u := u') (X := X') (T := T') (v0 := v0) (k := k) (C := C) (on := on) (al := al) (rows := rows') (g := g) (bb := bb) (bq := bq) (b := b) (a := a) (ks := ks) (cs := cs) (rest := rest) hK hdst
 have hreg := fun ks' T' => off_reg (A := A) (u := u1) (X := X) (T := T') (y := .chan (A.ch bb)) (ks := ks') (b := Conc.base 53) (cs := b.at a (.inRegion ops (i :: rest) :: ks) :: cs) (v0 := v0) (k := k) (C := C) (on := on) (al := al) (rows := rows) (g := g) (bb := on g) (bq := bq) hK (by k_ne) hM1 hA
 refine kT fun T0 hT0 => ?_
 have z0 : T0.size = 52 := by rw [hT0]; rfl
 have g0 : T0.getD 0 undef = .pointer (some ⟨A.GA, 0, none⟩) := by rw [hT0]; rfl
 have g2 : T0.getD 2 undef = .chan (A.ch bb) := by rw [hT0]; rfl
 have g4 : T0.getD 4 undef = .pointer (some ⟨bq, 0, none⟩) := by rw [hT0]; rfl
 clear hT0
 have hs : ops53a.size = 8 := size53a
 refine kAll (F := F53a A.GA A.On (A.n + 1) g (A.ch (on g))) (ops := ops53a) closedS.bodies (by kernel_rfl) hK hF1 (by k_ne) (by kernel_rfl) (fun j hj => quiet53a hc2 hbq hon (by omega) z0 g0 g4 j (by omega)) fun d hd => ?_
 have e6 := fill_ev (F := F53a A.GA A.On (A.n + 1) g (A.ch (on g))) (T0 := T0) apart53a (i := 7) (s := 6) (by kernel_rfl) (by omega) (hd 7 (by omega)) []
 have e0 := (fill_old (ops := ops53a) (F := F53a A.GA A.On (A.n + 1) g (A.ch (on g))) (T0 := T0) (s := 0) (by kernel_rfl) d []).trans g0
 have e2 := (fill_old (ops := ops53a) (F := F53a A.GA A.On (A.n + 1) g (A.ch (on g))) (T0 := T0) (s := 2) (by kernel_rfl) d []).trans g2
 have e4 := (fill_old (ops := ops53a) (F := F53a A.GA A.On (A.n + 1) g (A.ch (on g))) (T0 := T0) (s := 4) (by kernel_rfl) d []).trans g4
 have ez := (fillT_size (ops := ops53a) (F := F53a A.GA A.On (A.n + 1) g (A.ch (on g))) (T0 := T0) d).trans z0
 refine kT fun T1 hT1 => ?_
 have hT2 : T1 = fillT ops53a (F53a A.GA A.On (A.n + 1) g (A.ch (on g))) T0 d := hT1
 rw [← hT2] at e0 e2 e4 e6 ez
 clear hT1 hT2
 have ez' : T1.size = 52 := ez
 obtain ⟨x0, x1, x2, x3, x4, x5, x6, x7, x8, x9, x10, x11, x12, x13, x14, x15, x16, x17, x18, x19, x20, x21, x22, x23, x24, x25, x26, x27, x28, x29, x30, x31, x32, x33, x34, x35, x36, x37, x38, x39, x40, x41, x42, x43, x44, x45, x46, x47, x48, x49, x50, x51, rfl⟩ := arr52 ez'
 obtain rfl : x0 = .pointer (some ⟨A.GA, 0, none⟩) := e0
 obtain rfl : x2 = .chan (A.ch bb) := e2
 obtain rfl : x4 = .pointer (some ⟨bq, 0, none⟩) := e4
 obtain rfl : x6 = .chan (A.ch (on g)) := e6
 try clear e0
 try clear e2
 try clear e4
 try clear e6
 try clear ez
 try clear ez'
 have hch := ch_some hA o9
 refine kRegEnd hK hF1 (kSeq hK hF1 (kRegion hK hF1 ?_))
 refine kOp closedS.bodies hK hF1 (val := .chan (A.ch (on g))) (by k_ne) rfl rfl (by kernel_rfl) (fun v₁ hv => by go_simp <;> rfl) ?_
 walk_nrm
 refine kOp closedS.bodies hK hF1 (val := .bool (!(A.ch (on g) == none))) (by k_ne) rfl rfl (by kernel_rfl) (fun v₁ hv => by go_simp <;> rfl) ?_
 walk_nrm
 refine kRegEnd hK hF1 ?_
 rw [hch]
 by_cases hb : on g = 0
 ·have e0 : decide (on g ≠ 0) = false := by simp [hb]
  have eo : rowsOff on rows g = rows := by unfold rowsOff; rw [if_pos hb]
  rw [eo] at h
  refine kCond hK hF1 (t := false) (congrArg Value.bool e0) ?_
  simp only [Bool.false_eq_true, if_false]
  refine kSkip hK hF1 ?_
  exact hrest u1 rows X _ hM1 hA hb9 (by have := hlen bb hb9; omega) gn hbq hbx (by rfl) (by rfl) (by rfl) (by rfl) h
 ·have e0 : decide (on g ≠ 0) = true := by simp [hb]
  have eo : rowsOff on rows g = upd rows (on g) ((rows (on g)).filter (· != g)) := by unfold rowsOff; rw [if_neg hb]
  rw [eo] at h
  refine kCond hK hF1 (t := true) (congrArg Value.bool e0) ?_
  simp only [if_true]
  refine hreg _ _ (by omega) o9 (hlen _ o9) (hro.nod _ (by omega) o9) ((hro.mem _ (by omega) o9 g).2 ⟨⟨g1, gn⟩, rfl⟩) hbq hbx (by rfl) (by rfl) (by rfl) (by rfl) (by rfl) fun u2 X2 T2 hM2 hbq2 hbx2 z2 t0 t2 t4 => ?_
  refine hrest u2 _ X2 T2 hM2 hA hb9 ?_ gn hbq2 hbx2 z2 t0 t2 t4 h
  by_cases e : bb = on g
  ·rw [e, upd_same]
   have := List.length_filter_le (· != g) (rows (on g))
   have := hlen _ o9
   omega
  ·rw [upd_ne _ _ e]
   have := hlen bb hb9
   omega
end
end Go.Proofs.Ythmgpkcijolljaa
