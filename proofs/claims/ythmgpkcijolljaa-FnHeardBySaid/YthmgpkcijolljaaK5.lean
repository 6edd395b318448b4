/-
  What the program's functions on guests return, beside leavers.
-/
import Derived.Test.YthmgpkcijolljaaH21
import Derived.Test.YthmgpkcijolljaaKS
import Derived.Test.YthmgpkcijolljaaH10
import Derived.Test.YthmgpkcijolljaaH22
namespace Go.Proofs.Ythmgpkcijolljaa
open Go.Conc Go.RowKit Go.Conc.Lib Go.ConcR.Gen
open Go.ConcN (upd upd_same upd_ne)
open Go.ChangeMaps
set_option linter.unusedSimpArgs false
set_option linter.unusedVariables false
def aloneL (g : Int) (l : List Dd) : List Int := if meetB g l then aloneF g.toNat on0 l else []
def coL (g : Int) (l : List Dd) (x : Int) : List Int := if meetB g l && decide (1 ≤ x ∧ x ≤ g) then (co g.toNat (onEnd on0 l) x.toNat).map fun (q : Nat) => (q : Int) else []
theorem aloneL_no {g : Int} {l : List Dd} (h : meetB g l = false) : aloneL g l = [] := by unfold aloneL; rw [h]; rfl
theorem aloneL_yes {g : Int} {l : List Dd} (h : meetB g l = true) : aloneL g l = aloneF g.toNat on0 l := by unfold aloneL; rw [h]; rfl
theorem onEnd_ok {g : Int} {l : List Dd} (h : meetB g l = true) : onEnd on0 l 0 = 0 ∧ ∀ q, onEnd on0 l q ≤ 9 := by
 obtain ⟨_, _, _, h4⟩ := meetB_true h
 have := onAt_ok h4 l.length
 rw [onAt_all] at this
 exact this
theorem fut_le {g : Int} {l : List Dd} (h : meetB g l = true) (q : Nat) : (fut on0 l q).length ≤ 50 := by
 obtain ⟨_, _, h3, _⟩ := meetB_true h
 have := futAt_len l q l.length
 rw [futAt_all] at this
 omega
section
variable {v vf : World} {A : Ad} {on : Nat → Nat} {al : List Int} {F : Nat → List Int}
theorem Gd.cell (h : Gd v vf A on al F) (t : Nat → Question → Nat) : ∃ x0, vf.ownsRow A.B0 3 1 x0 al.length (ints al) ∧
  (vf.re t 0).cell? ⟨A.GA, 1, none⟩ = some (.map (some A.N)) ∧ (vf.re t 0).cell? ⟨A.GA, 2, none⟩ = some (.slice (some ⟨A.On, 0, none⟩) (A.n + 1) (A.n + 1)) ∧
  (vf.re t 0).cell? ⟨A.GA, 5, none⟩ = some (.slice (some ⟨A.H, 0, none⟩) (A.n + 1) (A.n + 1)) ∧ (vf.re t 0).cell? ⟨A.GA, 6, none⟩ = some x0 := by
 obtain ⟨x0, h1, h2⟩ := h.gat
 have hc : ∀ i, (vf.re t 0).cell? ⟨A.GA, i, none⟩ = (gatC (A.n + 1) A.B A.N A.On A.Gm A.Ow A.H x0)[i]? := fun i => cell_of_row (vf.re t 0) A.GA i _ _ _ h1
 exact ⟨x0, h2, (hc 1).trans rfl, (hc 2).trans rfl, (hc 5).trans rfl, (hc 6).trans rfl⟩
theorem Gd.onC (h : Gd v vf A on al F) {q : Nat} (hq : q ≤ A.n) : vf.cell? ⟨A.On, q, none⟩ = some (.chan (A.ch (on q))) := by
 rw [h.onb.cell, onArr_get A on q hq]
end
theorem kOpW {P : Program} {main gr st : Bool} {Live : World → Prop} {K : Goroutine → World → Prop} {v : World} {b : Frame} {a : Act} {k : List Item} {cs : List Frame} {ops : Array Oper} {i : Nat} {rest : List Nat} {o : Oper} (hK : KOk P main gr st Live K) (hF : Flat P v)
  (hk : b.kind ≠ .early) (ho : ops[i]? = some o) (hw : Region.wanted o (yielded ops a.tmps) = true) {val : Value} (hr : ∀ w, (execOp a.eval o).run P w = .ok (.value val) w) (he : ∀ w, (execOp a.eval o).events P w #[] = #[])
  (h : KA K (G (b.at (a.put o.dst val) (.inRegion ops rest :: k)) cs) v) : KA K (G (b.at a (.inRegion ops (i :: rest) :: k)) cs) v :=
 kstep hK hF rfl (fun w => by rw [stepG_value ho hw hk (hr w), listed0 (he w)]) h
section
variable {Post : Value → World → Prop} {v0 : World}
set_option maxRecDepth 100000 in
set_option maxHeartbeats 16000000 in
theorem alone_call {g : Int} {l : List Dd} {Al : Option Addr} {cp : Nat} {b : Frame} {a : Act} {ks : List Item} {cs : List Frame} {ops : Array Oper} {i : Nat} {rest : List Nat} {o : Oper} {x y : Operand} {ats : Array TypeId}
  (ho : ops[i]? = some o) (hw : Region.wanted o (yielded ops a.tmps) = true) (hk : b.kind ≠ .early) (hop : o.op = .call { callee := .value (.func 20), args := #[x, y], argTypes := ats }) (hx : a.eval x = .int .i64 g) (hy : a.eval y = .slice Al l.length cp)
  (hF : Flat Try.prog v0) (hRD : RD v0 v0.heap.size Al l) (hlen : l.length ≤ 1048576)
  (h : ∀ vf u, Flat Try.prog vf → Ups v0 vf → vf.ownsRow v0.heap.size 3 1 u (aloneL g l).length (ints (aloneL g l)) → KA (Wins Try.prog Post) (G (b.at (a.put o.dst (.tuple #[u, .bool (meetB g l)])) (.inRegion ops rest :: ks)) cs) vf) :
  KA (Wins Try.prog Post) (G (b.at a (.inRegion ops (i :: rest) :: ks)) cs) v0 := by
 have hK := wins_ok (P := Try.prog) (Post := Post)
 have hdst : (ops[i]?).bind (·.dst) = o.dst := by rw [ho]; rfl
 refine kCall hK hF ho hw hk hop Try.func20 (by kernel_rfl) rfl ?_
 simp only [List.map_toArray, List.map_cons, List.map_nil, hx, hy]
 walk_nrmf Try.f20
 refine kSeq hK hF (kRegion hK hF ?_)
 refine kOp closedS.bodies hK hF (val := .slice none 0 0) (by k_ne) rfl rfl (by kernel_rfl) (fun v₁ hv => by go_simp <;> rfl) ?_
 walk_nrm
 refine kOp closedS.bodies hK hF (val := .bool false) (by k_ne) rfl rfl (by kernel_rfl) (fun v₁ hv => by go_simp <;> rfl) ?_
 walk_nrm
 refine kRegEnd hK hF (kSeq hK hF (kRegion hK hF ?_))
 refine kOp closedS.bodies hK hF (val := .int .i64 g) (by k_ne) rfl rfl (by kernel_rfl) (fun v₁ hv => by go_simp <;> rfl) ?_
 walk_nrm
 refine kOp closedS.bodies hK hF (val := .slice Al l.length cp) (by k_ne) rfl rfl (by kernel_rfl) (fun v₁ hv => by go_simp <;> rfl) ?_
 walk_nrm
 refine meet_call rfl rfl (by k_ne) rfl rfl rfl hF hRD hlen (fun hm v' hF' hU => ?_) (fun hm v' vf A hU hA hG => ?_)
 ·walk_nrm
  refine kOp closedS.bodies hK hF' (val := .pointer none) (by k_ne) rfl rfl (by kernel_rfl) (fun v₁ hv => by go_simp <;> rfl) ?_
  walk_nrm
  refine kRegEnd hK hF' (kSeq hK hF' (kSeq hK hF' (kRegion hK hF' ?_)))
  refine kOp closedS.bodies hK hF' (val := .pointer none) (by k_ne) rfl rfl (by kernel_rfl) (fun v₁ hv => by go_simp <;> rfl) ?_
  walk_nrm
  refine kOpW hK hF' (val := .bool true) (by k_ne) rfl rfl (fun w => by go_simp <;> rfl) (fun w => by rfl) ?_
  walk_nrm
  refine kRegEnd hK hF' (kCond hK hF' (t := true) (by rfl) ?_)
  simp only [if_true]
  refine kLift closedS hK hF' (by kernel_rfl) (by k_ne) fun t => ?_
  generalize hQ : Behind _ _ _ _ _ = Q
  go_wp2
  subst hQ
  refine fun todo hFx _ => ?_
  refine kLeave2 hK hFx rfl rfl Try.func20 rfl ?_
  rw [hdst]
  have hUx := hU.re t 0
  have h2 := h _ (.slice none 0 0) hFx hUx
  rw [aloneL_no hm, hm] at h2
  exact h2 (World.ownsRow_nil _ _ _ _)
 ·have hF' := hG.flat
  walk_nrm
  refine kOp closedS.bodies hK hF' (val := .pointer (some ⟨A.GA, 0, none⟩)) (by k_ne) rfl rfl (by kernel_rfl) (fun v₁ hv => by go_simp <;> rfl) ?_
  walk_nrm
  refine kRegEnd hK hF' (kSeq hK hF' (kSeq hK hF' (kRegion hK hF' ?_)))
  refine kOp closedS.bodies hK hF' (val := .pointer (some ⟨A.GA, 0, none⟩)) (by k_ne) rfl rfl (by kernel_rfl) (fun v₁ hv => by go_simp <;> rfl) ?_
  walk_nrm
  refine kOpW hK hF' (val := .bool false) (by k_ne) rfl rfl (fun w => by go_simp <;> rfl) (fun w => by rfl) ?_
  walk_nrm
  refine kRegEnd hK hF' (kCond hK hF' (t := false) (by rfl) ?_)
  simp only [Bool.false_eq_true, if_false]
  refine kSkip hK hF' ?_
  refine kLift closedS hK hF' (by kernel_rfl) (by k_ne) fun t => ?_
  generalize hQ : Behind _ _ _ _ _ = Q
  obtain ⟨x0, hx0, c1, c2, c5, c6⟩ := hG.cell t
  have hUf : Ups v0 vf := hU.trans hG.old
  have H := Lib.hid h
  have HG := Lib.hid (And.intro hG (And.intro hm (And.intro hUf (And.intro hdst (And.intro hA (And.intro hx0 hU))))))
  clear h hG hx0 c1 c2 c5 hm hU hA hRD hF hF' hUf ho hw hop hx hy hdst
  go_wp2
  subst hQ
  refine fun todo hFx _ => ?_
  obtain ⟨hG, hm, hUf, hdst, hA, hx0, hU⟩ := HG.out
  refine kLeave2 hK hFx rfl rfl Try.func20 rfl ?_
  rw [hdst]
  have h2 := H.out _ x0 hFx (hUf.re t 0)
  rw [aloneL_yes hm, hm] at h2
  exact h2 (own_mono hx0 (by rw [hG.b0]; exact hU.size))
end
end Go.Proofs.Ythmgpkcijolljaa
/-
  What the program's CompanyOf and HeardBy return, beside leavers.
-/
namespace Go.Proofs.Ythmgpkcijolljaa
open Go.Conc Go.RowKit Go.Conc.Lib Go.ConcR.Gen
open Go.ConcN (upd upd_same upd_ne)
open Go.ChangeMaps
set_option linter.unusedSimpArgs false
set_option linter.unusedVariables false
theorem kOff {P : Program} {main gr st : Bool} {Live : World → Prop} {K : Goroutine → World → Prop} {v : World} {b : Frame} {a : Act} {k : List Item} {cs : List Frame} {ops : Array Oper} {i : Nat} {rest : List Nat} {o : Oper} (hK : KOk P main gr st Live K) (hF : Flat P v)
  (ho : ops[i]? = some o) (hw : Region.wanted o (yielded ops a.tmps) = false)
  (h : KA K (G (b.at (a.put o.dst undef) (.inRegion ops rest :: k)) cs) v) : KA K (G (b.at a (.inRegion ops (i :: rest) :: k)) cs) v :=
 kstep hK hF rfl (fun w => stepG_unwanted ho hw) h
@[go_sem] theorem eql_ch (x y : Option Nat) (w : World) : (binOp .eql 68 (.chan x) (.chan y)).run Try.prog w = .ok (.bool (x == y)) w := run_eql_ch Try.underlying68 x y w
theorem coL_no {g : Int} {l : List Dd} {x : Int} (h : meetB g l = false ∨ ¬ (1 ≤ x ∧ x ≤ g)) : coL g l x = [] := by
 unfold coL
 rcases h with h | h
 ·rw [h]; rfl
 ·rw [decide_eq_false h, Bool.and_false]; rfl
theorem coL_yes {g : Int} {l : List Dd} {x : Int} (h : meetB g l = true) (h2 : 1 ≤ x ∧ x ≤ g) : coL g l x = (co g.toNat (onEnd on0 l) x.toNat).map fun (q : Nat) => (q : Int) := by
 unfold coL
 rw [h, decide_eq_true h2]; rfl
/-- the company among the first k -/
def coTo (on : Nat → Nat) (g k : Nat) : List Int := (((List.range k).map (· + 1)).filter (inCo on g)).map fun (q : Nat) => (q : Int)
theorem coTo_succ (on : Nat → Nat) (g k : Nat) : coTo on g (k + 1) = coTo on g k ++ (if inCo on g (k + 1) then [((k + 1 : Nat) : Int)] else []) := by
 unfold coTo
 rw [List.range_succ, List.map_append, List.filter_append, List.map_append]
 congr 1
 simp only [List.map_cons, List.map_nil, List.filter_cons, List.filter_nil]
 split <;> simp
theorem coTo_all (on : Nat → Nat) (g n : Nat) : coTo on g n = (co n on g).map fun (q : Nat) => (q : Int) := rfl
theorem coTo_len (on : Nat → Nat) (g k : Nat) : (coTo on g k).length ≤ k := by
 unfold coTo
 rw [List.length_map]
 refine Nat.le_trans (List.length_filter_le _ _) ?_
 simp
theorem ch_eq {A : Ad} (h : AdOk A) {i j : Nat} (hi : i ≤ 9) (hj : j ≤ 9) : (A.ch i == A.ch j) = decide (i = j) := by
 rw [Bool.eq_iff_iff]
 simp only [beq_iff_eq, decide_eq_true_eq]
 exact ⟨fun e => h.inj i j (by omega) (by omega) e, fun e => by rw [e]⟩
theorem ch_nil {A : Ad} (h : AdOk A) {i : Nat} (hi : i ≤ 9) : (A.ch i == none) = decide (i = 0) := by
 rw [← h.h0]; exact ch_eq h hi (by omega)
section
variable {Post : Value → World → Prop} {v0 : World}
set_option maxRecDepth 100000 in
set_option maxHeartbeats 16000000 in
theorem company_call {g : Int} {l : List Dd} {Al : Option Addr} {cp : Nat} {b : Frame} {a : Act} {ks : List Item} {cs : List Frame} {ops : Array Oper} {i : Nat} {rest : List Nat} {o : Oper} {x y : Operand} {z : Operand} {who : Int} {ats : Array TypeId}
  (ho : ops[i]? = some o) (hw : Region.wanted o (yielded ops a.tmps) = true) (hk : b.kind ≠ .early) (hop : o.op = .call { callee := .value (.func 16), args := #[x, y, z], argTypes := ats }) (hx : a.eval x = .int .i64 g) (hy : a.eval y = .slice Al l.length cp) (hz : a.eval z = .int .i64 who)
  (hF : Flat Try.prog v0) (hRD : RD v0 v0.heap.size Al l) (hlen : l.length ≤ 1048576)
  (h : ∀ vf u, Flat Try.prog vf → Ups v0 vf → vf.ownsRow v0.heap.size 3 1 u (coL g l who).length (ints (coL g l who)) → KA (Wins Try.prog Post) (G (b.at (a.put o.dst u) (.inRegion ops rest :: ks)) cs) vf) :
  KA (Wins Try.prog Post) (G (b.at a (.inRegion ops (i :: rest) :: ks)) cs) v0 := by
 have hK := wins_ok (P := Try.prog) (Post := Post)
 have hdst : (ops[i]?).bind (·.dst) = o.dst := by rw [ho]; rfl
 refine kCall hK hF ho hw hk hop Try.func16 (by kernel_rfl) rfl ?_
 simp only [List.map_toArray, List.map_cons, List.map_nil, hx, hy, hz]
 walk_nrmf Try.f16
 refine kSeq hK hF (kRegion hK hF ?_)
 refine kOp closedS.bodies hK hF (val := .slice none 0 0) (by k_ne) rfl rfl (by kernel_rfl) (fun v₁ hv => by go_simp <;> rfl) ?_
 walk_nrm
 refine kRegEnd hK hF (kSeq hK hF (kRegion hK hF ?_))
 refine kOp closedS.bodies hK hF (val := .int .i64 g) (by k_ne) rfl rfl (by kernel_rfl) (fun v₁ hv => by go_simp <;> rfl) ?_
 walk_nrm
 refine kOp closedS.bodies hK hF (val := .slice Al l.length cp) (by k_ne) rfl rfl (by kernel_rfl) (fun v₁ hv => by go_simp <;> rfl) ?_
 walk_nrm
 refine meet_call rfl rfl (by k_ne) rfl rfl rfl hF hRD hlen (fun hm v' hF' hU => ?_) (fun hm v' vf A hU hA hG => ?_)
 ·have hUf := hU
  walk_nrm
  refine kOp closedS.bodies hK hF' (val := .pointer none) (by k_ne) rfl rfl (by kernel_rfl) (fun v₁ hv => by go_simp <;> rfl) ?_
  walk_nrm
  refine kRegEnd hK hF' (kSeq hK hF' (kSeq hK hF' (kRegion hK hF' ?_)))
  refine kOp closedS.bodies hK hF' (val := .pointer none) (by k_ne) rfl rfl (by kernel_rfl) (fun v₁ hv => by go_simp <;> rfl) ?_
  walk_nrm
  refine kOpW hK hF' (val := .bool true) (by k_ne) rfl rfl (fun w => by go_simp <;> rfl) (fun w => by rfl) ?_
  walk_nrm
  refine kOp closedS.bodies hK hF' (val := .bool true) (by k_ne) rfl rfl (by kernel_rfl) (fun v₁ hv => by go_simp <;> rfl) ?_
  walk_nrm
  refine kOff hK hF' rfl rfl ?_
  walk_nrm
  refine kOff hK hF' rfl rfl ?_
  walk_nrm
  refine kOp closedS.bodies hK hF' (val := .bool true) (by k_ne) rfl rfl (by kernel_rfl) (fun v₁ hv => by go_simp <;> rfl) ?_
  walk_nrm
  refine kOp closedS.bodies hK hF' (val := .bool true) (by k_ne) rfl rfl (by kernel_rfl) (fun v₁ hv => by go_simp <;> rfl) ?_
  walk_nrm
  refine kOff hK hF' rfl rfl ?_
  walk_nrm
  refine kOff hK hF' rfl rfl ?_
  walk_nrm
  refine kOff hK hF' rfl rfl ?_
  walk_nrm
  refine kOp closedS.bodies hK hF' (val := .bool true) (by k_ne) rfl rfl (by kernel_rfl) (fun v₁ hv => by go_simp <;> rfl) ?_
  walk_nrm
  refine kRegEnd hK hF' (kCond hK hF' (t := true) (by rfl) ?_)
  simp only [if_true]
  refine kLift closedS hK hF' (by kernel_rfl) (by k_ne) fun t => ?_
  generalize hQ : Behind _ _ _ _ _ = Q
  go_wp2
  subst hQ
  refine fun todo hFx _ => ?_
  refine kLeave1 hK hFx rfl rfl Try.func16 rfl ?_
  rw [hdst]
  have h2 := h _ (.slice none 0 0) hFx (hUf.re t 0)
  rw [coL_no (.inl hm)] at h2
  exact h2 (World.ownsRow_nil _ _ _ _)
 ·have hF' := hG.flat
  have hUf : Ups v0 vf := hU.trans hG.old
  by_cases w1 : who < 1
  ·have w1b : decide (who < 1) = true := by simp; exact w1
   walk_nrm
   refine kOp closedS.bodies hK hF' (val := .pointer (some ⟨A.GA, 0, none⟩)) (by k_ne) rfl rfl (by kernel_rfl) (fun v₁ hv => by go_simp <;> first | rfl | simp [w1]) ?_
   walk_nrm
   refine kRegEnd hK hF' (kSeq hK hF' (kSeq hK hF' (kRegion hK hF' ?_)))
   refine kOp closedS.bodies hK hF' (val := .pointer (some ⟨A.GA, 0, none⟩)) (by k_ne) rfl rfl (by kernel_rfl) (fun v₁ hv => by go_simp <;> first | rfl | simp [w1]) ?_
   walk_nrm
   refine kOpW hK hF' (val := .bool false) (by k_ne) rfl rfl (fun w => by go_simp <;> rfl) (fun w => by rfl) ?_
   walk_nrm
   refine kOp closedS.bodies hK hF' (val := .bool false) (by k_ne) rfl rfl (by kernel_rfl) (fun v₁ hv => by go_simp <;> first | rfl | simp [w1]) ?_
   walk_nrm
   refine kOp closedS.bodies hK hF' (val := .int .i64 who) (by k_ne) rfl rfl (by kernel_rfl) (fun v₁ hv => by go_simp <;> first | rfl | simp [w1]) ?_
   walk_nrm
   refine kOp closedS.bodies hK hF' (val := .bool true) (by k_ne) rfl rfl (by kernel_rfl) (fun v₁ hv => by go_simp <;> first | rfl | simp [w1]) ?_
   walk_nrm
   refine kOp closedS.bodies hK hF' (val := .bool true) (by k_ne) rfl rfl (by kernel_rfl) (fun v₁ hv => by go_simp <;> first | rfl | simp [w1]) ?_
   walk_nrm
   refine kOp closedS.bodies hK hF' (val := .bool true) (by k_ne) rfl rfl (by kernel_rfl) (fun v₁ hv => by go_simp <;> first | rfl | simp [w1]) ?_
   walk_nrm
   refine kOff hK hF' rfl rfl ?_
   walk_nrm
   refine kOff hK hF' rfl rfl ?_
   walk_nrm
   refine kOff hK hF' rfl rfl ?_
   walk_nrm
   refine kOp closedS.bodies hK hF' (val := .bool true) (by k_ne) rfl rfl (by kernel_rfl) (fun v₁ hv => by go_simp <;> first | rfl | simp [w1]) ?_
   walk_nrm
   refine kRegEnd hK hF' (kCond hK hF' (t := true) (by rfl) ?_)
   simp only [if_true]
   refine kLift closedS hK hF' (by kernel_rfl) (by k_ne) fun t => ?_
   generalize hQ : Behind _ _ _ _ _ = Q
   go_wp2
   subst hQ
   refine fun todo hFx _ => ?_
   refine kLeave1 hK hFx rfl rfl Try.func16 rfl ?_
   rw [hdst]
   have h2 := h _ (.slice none 0 0) hFx (hUf.re t 0)
   rw [coL_no (.inr (by omega))] at h2
   exact h2 (World.ownsRow_nil _ _ _ _)
  have w1b : decide (who < 1) = false := by simp; omega
  by_cases w2 : g < who
  ·have w2b : decide (g < who) = true := by simp; exact w2
   walk_nrm
   refine kOp closedS.bodies hK hF' (val := .pointer (some ⟨A.GA, 0, none⟩)) (by k_ne) rfl rfl (by kernel_rfl) (fun v₁ hv => by go_simp <;> first | rfl | simp [w1, w2]) ?_
   walk_nrm
   refine kRegEnd hK hF' (kSeq hK hF' (kSeq hK hF' (kRegion hK hF' ?_)))
   refine kOp closedS.bodies hK hF' (val := .pointer (some ⟨A.GA, 0, none⟩)) (by k_ne) rfl rfl (by kernel_rfl) (fun v₁ hv => by go_simp <;> first | rfl | simp [w1, w2]) ?_
   walk_nrm
   refine kOpW hK hF' (val := .bool false) (by k_ne) rfl rfl (fun w => by go_simp <;> rfl) (fun w => by rfl) ?_
   walk_nrm
   refine kOp closedS.bodies hK hF' (val := .bool false) (by k_ne) rfl rfl (by kernel_rfl) (fun v₁ hv => by go_simp <;> first | rfl | simp [w1, w2]) ?_
   walk_nrm
   refine kOp closedS.bodies hK hF' (val := .int .i64 who) (by k_ne) rfl rfl (by kernel_rfl) (fun v₁ hv => by go_simp <;> first | rfl | simp [w1, w2]) ?_
   walk_nrm
   refine kOp closedS.bodies hK hF' (val := .bool false) (by k_ne) rfl rfl (by kernel_rfl) (fun v₁ hv => by go_simp <;> first | rfl | simp [w1, w2]) ?_
   walk_nrm
   refine kOp closedS.bodies hK hF' (val := .bool false) (by k_ne) rfl rfl (by kernel_rfl) (fun v₁ hv => by go_simp <;> first | rfl | simp [w1, w2]) ?_
   walk_nrm
   refine kOp closedS.bodies hK hF' (val := .bool false) (by k_ne) rfl rfl (by kernel_rfl) (fun v₁ hv => by go_simp <;> first | rfl | simp [w1, w2]) ?_
   walk_nrm
   refine kOp closedS.bodies hK hF' (val := .int .i64 who) (by k_ne) rfl rfl (by kernel_rfl) (fun v₁ hv => by go_simp <;> first | rfl | simp [w1, w2]) ?_
   walk_nrm
   refine kOp closedS.bodies hK hF' (val := .int .i64 g) (by k_ne) rfl rfl (by kernel_rfl) (fun v₁ hv => by go_simp <;> first | rfl | simp [w1, w2]) ?_
   walk_nrm
   refine kOp closedS.bodies hK hF' (val := .bool true) (by k_ne) rfl rfl (by kernel_rfl) (fun v₁ hv => by go_simp <;> first | rfl | simp [w1, w2]) ?_
   walk_nrm
   refine kOp closedS.bodies hK hF' (val := .bool true) (by k_ne) rfl rfl (by kernel_rfl) (fun v₁ hv => by go_simp <;> first | rfl | simp [w1, w2]) ?_
   walk_nrm
   refine kRegEnd hK hF' (kCond hK hF' (t := true) (by rfl) ?_)
   simp only [if_true]
   refine kLift closedS hK hF' (by kernel_rfl) (by k_ne) fun t => ?_
   generalize hQ : Behind _ _ _ _ _ = Q
   go_wp2
   subst hQ
   refine fun todo hFx _ => ?_
   refine kLeave1 hK hFx rfl rfl Try.func16 rfl ?_
   rw [hdst]
   have h2 := h _ (.slice none 0 0) hFx (hUf.re t 0)
   rw [coL_no (.inr (by omega))] at h2
   exact h2 (World.ownsRow_nil _ _ _ _)
  have w2b : decide (g < who) = false := by simp; omega
  walk_nrm
  refine kOp closedS.bodies hK hF' (val := .pointer (some ⟨A.GA, 0, none⟩)) (by k_ne) rfl rfl (by kernel_rfl) (fun v₁ hv => by go_simp <;> first | rfl | simp [w1, w2]) ?_
  walk_nrm
  refine kRegEnd hK hF' (kSeq hK hF' (kSeq hK hF' (kRegion hK hF' ?_)))
  refine kOp closedS.bodies hK hF' (val := .pointer (some ⟨A.GA, 0, none⟩)) (by k_ne) rfl rfl (by kernel_rfl) (fun v₁ hv => by go_simp <;> first | rfl | simp [w1, w2]) ?_
  walk_nrm
  refine kOpW hK hF' (val := .bool false) (by k_ne) rfl rfl (fun w => by go_simp <;> rfl) (fun w => by rfl) ?_
  walk_nrm
  refine kOp closedS.bodies hK hF' (val := .bool false) (by k_ne) rfl rfl (by kernel_rfl) (fun v₁ hv => by go_simp <;> first | rfl | simp [w1, w2]) ?_
  walk_nrm
  refine kOp closedS.bodies hK hF' (val := .int .i64 who) (by k_ne) rfl rfl (by kernel_rfl) (fun v₁ hv => by go_simp <;> first | rfl | simp [w1, w2]) ?_
  walk_nrm
  refine kOp closedS.bodies hK hF' (val := .bool false) (by k_ne) rfl rfl (by kernel_rfl) (fun v₁ hv => by go_simp <;> first | rfl | simp [w1, w2]) ?_
  walk_nrm
  refine kOp closedS.bodies hK hF' (val := .bool false) (by k_ne) rfl rfl (by kernel_rfl) (fun v₁ hv => by go_simp <;> first | rfl | simp [w1, w2]) ?_
  walk_nrm
  refine kOp closedS.bodies hK hF' (val := .bool false) (by k_ne) rfl rfl (by kernel_rfl) (fun v₁ hv => by go_simp <;> first | rfl | simp [w1, w2]) ?_
  walk_nrm
  refine kOp closedS.bodies hK hF' (val := .int .i64 who) (by k_ne) rfl rfl (by kernel_rfl) (fun v₁ hv => by go_simp <;> first | rfl | simp [w1, w2]) ?_
  walk_nrm
  refine kOp closedS.bodies hK hF' (val := .int .i64 g) (by k_ne) rfl rfl (by kernel_rfl) (fun v₁ hv => by go_simp <;> first | rfl | simp [w1, w2]) ?_
  walk_nrm
  refine kOp closedS.bodies hK hF' (val := .bool false) (by k_ne) rfl rfl (by kernel_rfl) (fun v₁ hv => by go_simp <;> first | rfl | simp [w1, w2]) ?_
  walk_nrm
  refine kOp closedS.bodies hK hF' (val := .bool false) (by k_ne) rfl rfl (by kernel_rfl) (fun v₁ hv => by go_simp <;> first | rfl | simp [w1, w2]) ?_
  walk_nrm
  refine kRegEnd hK hF' (kCond hK hF' (t := false) (by rfl) ?_)
  simp only [Bool.false_eq_true, if_false]
  refine kSkip hK hF' ?_
  refine kLift closedS hK hF' (by kernel_rfl) (by k_ne) fun t => ?_
  generalize hQ : Behind _ _ _ _ _ = Q
  obtain ⟨x0, hx0, c1, c2, c5, c6⟩ := hG.cell t
  have H := Lib.hid h
  have HG := Lib.hid (And.intro hG (And.intro hm (And.intro hUf (And.intro hdst (And.intro hA hU)))))
  obtain ⟨n, rfl⟩ : ∃ n : Nat, g = n := ⟨g.toNat, by have := (meetB_true hm).1; omega⟩
  obtain rfl : A.n = n := by rw [hA]; omega
  obtain ⟨x, rfl⟩ : ∃ x : Nat, who = x := ⟨who.toNat, by omega⟩
  have hx1 : 1 ≤ x := by omega
  have hxn : x ≤ A.n := by omega
  have hn5 : A.n ≤ 5 := hG.ok.n5
  have h9 := (onEnd_ok hm).2
  have hok := Lib.hid hG.ok
  have hOn : ∀ q, q ≤ A.n → (vf.re t 0).cell? ⟨A.On, q, none⟩ = some (.chan (A.ch (onEnd on0 l q))) := fun q hq => hG.onC hq
  have hGlt : A.GA < (vf.re t 0).heap.size := by obtain ⟨x0, h1, _⟩ := hG.gat; exact (Array.getElem?_eq_some_iff.1 h1).1
  have hOlt : A.On < (vf.re t 0).heap.size := hG.onb.lt
  obtain ⟨vr, hvr⟩ : ∃ vr, vr = vf.re t 0 := ⟨_, rfl⟩
  rw [← hvr] at c2 hOn hGlt hOlt ⊢
  have HV := Lib.hid hvr
  obtain ⟨ic, hi, hz0, hz1, hz2⟩ := info_parts int_info'
  clear h hG hx0 c1 c5 c6 hm hU hA hRD hF hF' hUf ho hw hop hx hy hz hdst hvr w1 w2 w1b w2b
  go_wp2
  go_loopw [9, 8] (fun iv rv wr => ∃ k : Nat, k ≤ A.n ∧ iv = .int .i64 ((k : Int) + 1) ∧ wr.ownsRow vr.heap.size 3 1 rv (coTo (onEnd on0 l) x k).length (ints (coTo (onEnd on0 l) x k)) ∧ Below vr.heap.size vr wr) (fun iv _ _ => A.n + 1 - (intOf iv).toNat)
  case atStart => exact ⟨0, Nat.zero_le _, rfl, ownsRow_empty vr, (Below.refl _ _).alloc (Nat.le_refl _) _⟩
  case round =>
   obtain ⟨k, hk1, rfl, hown, hbel⟩ := hrel
   by_cases hlt : k < A.n
   ·have hbs := hbel.size
    have d1 : wr.cell? ⟨A.GA, 2, none⟩ = some (.slice (some ⟨A.On, 0, none⟩) (A.n + 1) (A.n + 1)) := (hbel.cell (p := ⟨A.GA, 2, none⟩) hGlt).trans c2
    obtain ⟨q, hq⟩ : ∃ q, q = k + 1 := ⟨_, rfl⟩
    have hqi : (k : Int) + 1 = (q : Int) := by omega
    have hqn : q ≤ A.n := by omega
    have d2 : wr.cell? ⟨A.On, q, none⟩ = some (.chan (A.ch (onEnd on0 l q))) := (hbel.cell (p := ⟨A.On, q, none⟩) hOlt).trans (hOn q hqn)
    have d3 : wr.cell? ⟨A.On, x, none⟩ = some (.chan (A.ch (onEnd on0 l x))) := (hbel.cell (p := ⟨A.On, x, none⟩) hOlt).trans (hOn x hxn)
    have Hsu := Lib.hid (coTo_succ (onEnd on0 l) x k)
    rw [← hq] at Hsu
    have Hin : Hid (inCo (onEnd on0 l) x q = (q != x && decide (0 < onEnd on0 l q) && onEnd on0 l q == onEnd on0 l x)) := Lib.hid rfl
    have e1 := ch_eq hok.out (h9 q) (h9 x)
    have e0 := ch_nil hok.out (h9 q)
    have hcl := coTo_len (onEnd on0 l) x k
    obtain ⟨oq, hoq⟩ : ∃ oq, oq = onEnd on0 l q := ⟨_, rfl⟩
    obtain ⟨ox, hox⟩ : ∃ ox, ox = onEnd on0 l x := ⟨_, rfl⟩
    rw [← hoq, ← hox] at e1 Hin
    rw [← hoq] at e0 d2
    rw [← hox] at d3
    generalize A.ch oq = cq at d2 e1 e0
    generalize A.ch ox = cx at d3 e1
    generalize hL : coTo (onEnd on0 l) x k = L at hown Hsu hcl
    have HO := Lib.hid (And.intro hown (And.intro hbel hq))
    have hqA : (q : Int) ≤ (A.n : Int) := by omega
    have hq0 : (0 : Int) ≤ (q : Int) := by omega
    have hqlt : (q : Int) < (A.n : Int) + 1 := by omega
    have hxlt : (x : Int) < (A.n : Int) + 1 := by omega
    rw [hqi]
    clear hbel hOn hoq hox h9 c2 hL hq hqi
    obtain ⟨AL, cL, rfl⟩ := own_form hown
    cases hc : inCo (onEnd on0 l) x q
    ·rw [hc] at Hsu
     have Hc := Lib.hid hc
     have hcc := Hin.out
     rw [hc] at hcc
     clear Hin hown hc
     by_cases b1 : q = x
     ·subst b1
      clear hcc
      go_wp2
      go_quiet (fail)
      go_wp2
      go_roundw
      case rel =>
       obtain ⟨a1, a2, a3⟩ := HO.out
       refine ⟨k + 1, by omega, by congr 1; omega, ?_, below_drewN a2 _⟩
       have e := Hsu.out
       simp only [Bool.false_eq_true, if_false, List.append_nil] at e
       rw [← a3, e]
       exact own_drewN a1 _
      case measure => simp [intOf]; omega
     ·have b1i : ¬ (q : Int) = (x : Int) := by omega
      have b1b : ((q : Int) != (x : Int)) = true := by simp; omega
      by_cases b2 : oq = 0
      ·have b2n : (cq == none) = true := by rw [e0]; simp [b2]
       have b2m : (cq != none) = false := by rw [bne, b2n]; rfl
       obtain rfl : cq = none := by simpa using b2n
       clear hcc e0 e1
       go_wp2
       go_quiet (fail)
       go_wp2
       go_roundw
       case rel =>
        obtain ⟨a1, a2, a3⟩ := HO.out
        refine ⟨k + 1, by omega, by congr 1; omega, ?_, below_drewN a2 _⟩
        have e := Hsu.out
        simp only [Bool.false_eq_true, if_false, List.append_nil] at e
        rw [← a3, e]
        exact own_drewN a1 _
       case measure => simp [intOf]; omega
      ·have b2n : (cq == none) = false := by rw [e0]; simp [b2]
       obtain ⟨cq', rfl⟩ : ∃ c', cq = some c' := by cases cq with | none => simp at b2n | some c' => exact ⟨c', rfl⟩
       have b3 : (some cq' == cx) = false := by
        rw [e1]
        have h3 : 0 < oq := by omega
        simp [b1, h3] at hcc
        simp [hcc]
       have b3' : (cx == some cq') = false := by rw [Bool.eq_false_iff] at b3 ⊢; intro h; apply b3; rw [beq_iff_eq] at h ⊢; exact h.symm
       clear hcc e0 e1
       go_wp2
       go_quiet (fail)
       go_wp2
       go_roundw
       case rel =>
        obtain ⟨a1, a2, a3⟩ := HO.out
        refine ⟨k + 1, by omega, by congr 1; omega, ?_, below_drewN a2 _⟩
        have e := Hsu.out
        simp only [Bool.false_eq_true, if_false, List.append_nil] at e
        rw [← a3, e]
        exact own_drewN a1 _
       case measure => simp [intOf]; omega
    ·rw [hc] at Hsu
     have hcc := Hin.out
     rw [hc] at hcc
     simp only [Bool.true_eq, Bool.and_eq_true, bne_iff_ne, ne_eq, decide_eq_true_eq, beq_iff_eq] at hcc
     obtain ⟨⟨b1, b2⟩, b3⟩ := hcc
     have b2n : (cq == none) = false := by rw [e0]; simp; omega
     have b3b : (cq == cx) = true := by rw [e1]; simp [b3]
     obtain rfl : cq = cx := by simpa using b3b
     obtain ⟨cq', rfl⟩ : ∃ c', cq = some c' := by cases cq with | none => simp at b2n | some c' => exact ⟨c', rfl⟩
     have b1i : ¬ (q : Int) = (x : Int) := by omega
     have b1b : ((q : Int) != (x : Int)) = true := by simp; omega
     clear Hin hc e0 e1
     go_wp2
     go_quiet (fail)
     go_wp2_with (at_builtin; refine wpList_append_any _ rfl _ _ 32 rfl vr.heap.size 3 ic (.int .i64 0) 1 8 Try.underlying32 hi hz0 hz1 hz2 rfl (by decide) (.slice AL L.length cL) _ _ rfl (World.ownsRow.alloc (show World.ownsRow _ _ _ _ _ _ _ from hown) _) _ (some ⟨wr.heap.size, 0, none⟩) 1 1 [.int .i64 q] rfl (Blk.reads (Blk.new _ _ _) rfl) (by intro u hu; obtain rfl := List.mem_singleton.1 hu; rfl) ?_ ?_ ?_ ?_; (unfold maxLen; omega); omega; (simp; omega); intro v2 w4 hown' hgrow hloc; have Hz := Lib.hid (And.intro hown' hgrow); clear hown' hgrow hloc)
     go_roundw
     case rel =>
      obtain ⟨hown0, hbel0, hq0'⟩ := HO.out
      refine ⟨k + 1, by omega, by congr 1; omega, ?_, below_of_grown (below_drewN hbel0 _) Hz.out.2 hbs (fun j hj => (hown0.lt j hj).1)⟩
      have e := Hsu.out
      simp only [if_true] at e
      rw [← hq0', e]
      simpa [ints] using Hz.out.1
     case measure => simp [intOf]; omega
   ·obtain rfl : k = A.n := by omega
    have hnl : ¬ (A.n : Int) + 1 ≤ (A.n : Int) := by omega
    have HO := Lib.hid (And.intro hown hbel)
    clear hbel hOn h9 hown
    go_wp2
    subst hQ
    refine fun todo hFx _ => ?_
    obtain ⟨hG, hm, hUf, hdst, hA, hU⟩ := HG.out
    refine kLeave1 hK hFx rfl rfl Try.func16 rfl ?_
    rw [hdst]
    have h2 := H.out _ u8 hFx (hUf.trans ⟨by have := HO.out.2.size; rw [HV.out] at this; exact this, fun b hb => by have := HO.out.2.block b (by rw [HV.out]; exact hb); rw [HV.out] at this; exact this⟩)
    rw [coL_yes hm (by omega), ← hA, show ((x : Nat) : Int).toNat = x by omega, ← coTo_all] at h2
    exact h2 (own_mono HO.out.1 (show v0.heap.size ≤ vr.heap.size by rw [HV.out]; exact hUf.size))
end
end Go.Proofs.Ythmgpkcijolljaa
