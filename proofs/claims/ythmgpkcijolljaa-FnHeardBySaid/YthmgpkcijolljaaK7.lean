/-
  From a goroutine's own walk, alone at first, to a good run; the last step.
-/
import Derived.Test.YthmgpkcijolljaaH9
import Derived.Test.YthmgpkcijolljaaKS
import Derived.Conc.LeavingOf
import Derived.Test.YthmgpkcijolljaaKKSpecF
import Derived.Test.YthmgpkcijolljaaK6
namespace Go.Proofs.Ythmgpkcijolljaa
open Go.Conc Go.RowKit
open Go.ConcN (upd upd_same upd_ne)
set_option linter.unusedSimpArgs false
set_option linter.unusedVariables false
def shutO : Obj → Obj
 | .cells c e f => .cells c e (0, if f = (0, 0) then c.size else max c.size f.2 + 1)
 | _ => hid
def _root_.Go.World.shutAll (W : World) : World := { W with heap := W.heap.map shutO }
theorem shutAll_get (W : World) (b : Nat) : W.shutAll.heap[b]? = (W.heap[b]?).map shutO := by simp [World.shutAll]
theorem shutAll_size (W : World) : W.shutAll.heap.size = W.heap.size := by simp [World.shutAll]
theorem shutAll_cell {W : World} {a : Addr} {x : Value} (h : W.cell? a = some x) : W.shutAll.cell? a = some x := by
 obtain ⟨c, e, f, h1, h2, h3⟩ := cell?_some h
 have h4 : W.shutAll.heap[a.block]? = some (.cells c e (0, if f = (0, 0) then c.size else max c.size f.2 + 1)) := by rw [shutAll_get, h1]; rfl
 simp [World.cell?, h4, h2, h3]
theorem shutAll_shut (W : World) {b : Nat} (hb : b < W.heap.size) : Shut W.shutAll b := by
 have h := shutAll_get W b
 rw [Array.getElem?_eq_getElem hb] at h
 cases ho : W.heap[b] with
 | cells c e f => rw [ho] at h; exact .inr ⟨c, e, _, h, fun i hi => ⟨Nat.zero_le _, by show i < (if f = (0, 0) then c.size else max c.size f.2 + 1); split <;> omega⟩⟩
 | _ => rw [ho] at h; exact .inl h
theorem shutAll_veil {P : Program} (hg : P.globals.size = 0) (W : World) : Veil P W.shutAll W := by
 refine ⟨by rw [shutAll_size]; exact Nat.le_refl _, fun b o e => ?_, ⟨by rw [hg]; exact Nat.zero_le _, fun b o e => ?_, fun b _ => by rw [hg]; exact Nat.zero_le _⟩⟩
 ·rw [shutAll_get] at e
  obtain ⟨o', h1, rfl⟩ := Option.map_eq_some_iff.1 e
  refine ⟨o', h1, ?_⟩
  cases o' with
  | cells c t f =>
   by_cases hf : f = (0, 0)
   ·subst hf
    exact .cells _ _ _ _ ⟨fun i hi => absurd hi.2 (Nat.not_lt_zero _), fun _ => rfl⟩
   ·refine .cells _ _ _ _ ⟨fun i hi => ⟨Nat.zero_le _, ?_⟩, fun h => ?_⟩
    ·show i < (if f = (0, 0) then c.size else max c.size f.2 + 1)
     rw [if_neg hf]
     have := hi.2
     omega
    ·rw [if_neg hf] at h
     simp at h
  | _ => exact .hid _
 ·rw [shutAll_get] at e
  obtain ⟨o', h1, rfl⟩ := Option.map_eq_some_iff.1 e
  cases o' <;> first | exact trivial | exact ⟨rfl, rfl⟩
theorem kept_re {W w' : World} {t : Nat → Question → Nat} {d : Nat} {may : MemPlace → Prop} (hos : w'.os = W.os) (hout : w'.output = W.output) (h : W.keptBut (w'.re t d) may) : W.keptBut w' may := ⟨hos, hout, h.2.2⟩
section
variable {P : Program} {Post : Value → World → Prop}
/-- The last step. -/
theorem wins_end {g : Goroutine} {v : World} {x : Value} (hr : g.status = .running) (hs : ∀ w, stepG P true g w = .ended (.done x) w #[]) (hp : ∀ w, Post x w) : KA (Wins P Post) g v := by
 intro t0 d0 gs w sl t q Shun hF
 exact beside_ends (D := fun _ _ es => es = #[]) (B := w.heap.size) (Shun := Shun) (Post := fun x w' => Post x w' ∧ Stay (v.re t0 d0) w w') (n := 0) (fun w w' es e => by subst e; intro e he; simp at he) hF.h0 hF.leavers hF.past
  (fun w₁ hw => ⟨hr, x, #[], hs w₁, (fun e he => by simp at he), hp _, by obtain ⟨d, rfl⟩ := hw; exact ⟨rfl, rfl, fun _ _ => rfl⟩⟩)
/-- ████ FROM A WALK TO A GOOD RUN. ████ -/
theorem good_of_wins (hg : P.globals.size = 0) {g : Goroutine} {W : World} (h : KA (Wins P Post) g W.shutAll) :
  ∃ N last o w' t', runNT P (N + 1) (solo g W) #[] = (.ended o w', t') ∧ runN P N (solo g W) = .next last ∧ step P last = .ended o w' ∧ Conc.Good P (fun x w' => Post x w' ∧ w'.os = W.os ∧ w'.output = W.output ∧ Below W.heap.size W (w'.re W.tape W.drawn)) last o w' t' := by
 have h1 := h.out #[g] W none #[] (fun _ => 0) (fun _ => False) ⟨rfl, leavers_one P g, past_nil.mono (Nat.zero_le _), shutAll_veil hg W, (shutAll_size W).symm, fun l hl => hl.elim⟩
 obtain ⟨N, last, o, w', t', h2, h3, h4, h5⟩ := h1
 refine ⟨N, last, o, w', t', h2, h3, h4, h5.elim fun v x => ⟨v, x.1, ⟨x.2.1.1, x.2.1.2.1, x.2.1.2.2.1, ?_⟩, x.2.2⟩⟩
 obtain ⟨a1, a2, a3⟩ := x.2.1.2
 have hb : ∀ b, b < W.heap.size → w'.heap[b]? = W.heap[b]? := fun b hb => a3 b (shutAll_shut W hb)
 refine ⟨a1, rfl, a2, ?_, hb⟩
 show W.heap.size ≤ w'.heap.size
 rcases Nat.eq_zero_or_pos W.heap.size with e | e
 ·omega
 ·have h6 := hb (W.heap.size - 1) (by omega)
  have h7 : W.heap[W.heap.size - 1]? = some (W.heap[W.heap.size - 1]'(by omega)) := Array.getElem?_eq_getElem _
  have h8 := (Array.getElem?_eq_some_iff.1 (h6.trans h7)).1
  omega
/-- A law's return. -/
theorem law_ret {b : Frame} {a : Act} {todo : List Item} {fn : Func} {t : Tmp} {v : World} (hn : b.kind = .normal) (hd : a.defers = []) (hf : P.funcs[b.fn]? = some fn) (hr : fn.results = #[.tmp t]) (hin : P.inits.idxOf? b.fn = none) (hx : a.tmps.getD t undef = .bool true) :
  KA (Wins P (fun x _ => x = .bool true)) (G { b.at a todo with mode := .returning } []) v := by
 refine wins_end (x := .bool true) rfl (fun w => ?_) (fun _ => rfl)
 have h1 := results_tmp hr a.tmps P w
 have h2 := events_results_tmp (P := P) (w := w) hr a.tmps #[]
 rw [hx] at h1
 simp [G, stepG, unwind, doReturn, Frame.at, hn, hd, hf, h1, h2, hin, seen, GStep.after]
end
end Go.Proofs.Ythmgpkcijolljaa
/-
  What a law's walk beside leavers carries from step to step.
-/
namespace Go.Proofs.Ythmgpkcijolljaa
open Go.Conc Go.RowKit Go.Conc.Lib Go.ConcR.Gen
set_option linter.unusedSimpArgs false
set_option linter.unusedVariables false
theorem ups_of {v w : World} {t : Nat → Question → Nat} (h : Below v.heap.size (v.re t 0) w) : Ups v w := ⟨h.size, h.block⟩
theorem Reads.ups {v w : World} {sz n B : Nat} {A : Option Addr} {xs : List Value} (h : Reads v B sz A n xs) (hB : B ≤ v.heap.size) (e : Ups v w) : Reads w B sz A n xs := h.keep fun p hp => World.cell?_of_block (w := v) (e.get p.block (by omega))
theorem RD.ups {v w : World} {A : Option Addr} {l : List Dd} (h : RD v v.heap.size A l) (e : Ups v w) : RD w w.heap.size A l := (Reads.ups h (Nat.le_refl _) e).more e.size
theorem RI.ups {v w : World} {B : Nat} {A : Option Addr} {l : List Int} (h : RI v B A l) (hB : B ≤ v.heap.size) (e : Ups v w) : RI w B A l := Reads.ups h hB e
theorem RI.kept {v w : World} {B : Nat} {A : Option Addr} {l : List Int} (h : RI v B A l) (e : ∀ b, b < B → w.heap[b]? = v.heap[b]?) : RI w B A l := Reads.keep h fun p hp => World.cell?_of_block (w := v) (e p.block hp)
theorem own_ups {v w : World} {base n sz : Nat} {e : TypeId} {x : Value} {xs : List Value} (h : v.ownsRow base e sz x n xs) (k : Ups v w) : w.ownsRow base e sz x n xs := own_to h fun b hb => k.get b (h.lt b hb).2
theorem Blk.ups {v w : World} {g : Nat} {t : TypeId} {cs : Array Value} (h : Blk v g t cs) (k : Ups v w) : Blk w g t cs := (k.get g h.lt).trans h
theorem KA.drewN {K : Goroutine → World → Prop} {g : Goroutine} {v : World} {t : Nat → Question → Nat} {d : Nat} (h : KA K g v) (n : Nat) : KA K g ((v.re t d).drewN n) := KA.re (t := t) (d := d + n) h
theorem shutAll_reads {W : World} {sz n : Nat} {A : Option Addr} {xs : List Value} (h : Reads W W.heap.size sz A n xs) : Reads W.shutAll W.shutAll.heap.size sz A n xs := by
 rw [shutAll_size]
 exact ⟨h.1, fun hn => let ⟨ad, e, hb, hc⟩ := h.2 hn; ⟨ad, e, hb, fun j u hu => shutAll_cell (hc j u hu)⟩⟩
/-- What a law answers. -/
abbrev KL : Goroutine → World → Prop := Wins Try.prog (fun x _ => x = .bool true)
theorem kl_ok : KOk Try.prog true false false (fun _ => True) KL := wins_ok
end Go.Proofs.Ythmgpkcijolljaa
