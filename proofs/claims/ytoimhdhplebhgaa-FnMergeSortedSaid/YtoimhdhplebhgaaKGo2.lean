/-
  A plain operation that may change its world, in a goroutine's own walk.
-/
import Derived.Test.YtoimhdhplebhgaaKGo
namespace Go.Proofs.Ytoimhdhplebhgaa
open Go.Conc
set_option linter.unusedSimpArgs false
set_option linter.unusedVariables false

section
variable {P : Program} {S : List FuncId} {main gr st : Bool} {Live : World → Prop} {K : Goroutine → World → Prop} {v : World} {b : Frame} {k : List Item} {cs : List Frame}
/-- A plain operation, whatever it does; where others may allot, it runs in its world with hidden blocks behind it. -/
theorem kOpG (hS : Bodies P S) (hK : KOk P main gr st Live K) (hF : Flat P v) {ops : Array Oper} {i : Nat} {rest : List Nat} {o : Oper} {tmps : Array Value} {d : List Deferred} (hk : b.kind ≠ .early) (ho : ops[i]? = some o) (hw : Region.wanted o (yielded ops tmps) = true) (hok : opOk P S o = true)
    (he : ∀ n, v.heap.size ≤ n → (gr = false → n = v.heap.size) → ∀ t e, ∃ val v', (execOp (Act.mk tmps []).eval o).run P ((v.upto n).re t e) = .ok (.value val) v' ∧ (st = true → v'.heap.size = n) ∧ (Flat P v' → KA K (G (b.at ((Act.mk tmps d).put o.dst val) (.inRegion ops rest :: k)) cs) v')) :
    KA K (G (b.at ⟨tmps, d⟩ (.inRegion ops (i :: rest) :: k)) cs) v := by
  intro t e
  refine hK.step _ (v.re t e) rfl fun w hV hz hL => ?_
  have hVu := (hV.upto (n := w.heap.size) (Nat.le_refl _)).re w.tape w.drawn
  have hle : v.heap.size ≤ w.heap.size := hV.size
  have hsz : w.heap.size = ((((v.re t e).upto w.heap.size).re w.tape w.drawn)).heap.size := by
    show w.heap.size = (v.upto w.heap.size).heap.size
    rw [upto_size]; omega
  obtain ⟨val, v', hrun, hs', hk'⟩ := he w.heap.size hle (fun h => hz h) w.tape w.drawn
  have hrun' : (execOp (Act.mk tmps []).eval o).run P (((v.re t e).upto w.heap.size).re w.tape w.drawn) = .ok (.value val) v' := hrun
  obtain ⟨_, w', es, f1, o1, _, hst⟩ := op_step (main := main) (d := d) (k := k) (cs := cs) hS hk (x := ⟨b.fn, tmps, [.inRegion ops (i :: rest)], true⟩) rfl rfl ho hw hok hVu hsz rfl rfl hrun'
  refine ⟨_, v', w', es, by
    have e1 : stepG P main (G (b.at ⟨tmps, d⟩ (.inRegion ops (i :: rest) :: k)) cs) w = stepG P main (G (frm d k b.kind ⟨b.fn, tmps, [.inRegion ops (i :: rest)], true⟩) cs) w := rfl
    rw [e1, hst]
    simp only [GStep.after]
    rfl, f1, o1, fun h => by rw [f1.size]; exact hs' h, ?_⟩
  have hfin : (frm d k b.kind ⟨b.fn, tmps, [.inRegion ops (i :: rest)], true⟩).finish val = b.at ((Act.mk tmps d).put o.dst val) (.inRegion ops rest :: k) := by
    show (b.at ⟨tmps, d⟩ (.inRegion ops (i :: rest) :: k)).finish val = _
    rw [Frame.finish_at, ho]; rfl
  rw [hfin]
  exact (hk' f1.veil.flat).out
/-- .. where no other allots. -/
theorem kOpN (hS : Bodies P S) (hK : KOk P main false false Live K) (hF : Flat P v) {ops : Array Oper} {i : Nat} {rest : List Nat} {o : Oper} {tmps : Array Value} {d : List Deferred} (hk : b.kind ≠ .early) (ho : ops[i]? = some o) (hw : Region.wanted o (yielded ops tmps) = true) (hok : opOk P S o = true) {val : Value} {v' : World}
    (he : ∀ t e, (execOp (Act.mk tmps []).eval o).run P (v.re t e) = .ok (.value val) (v'.re t e))
    (h : Flat P v' → KA K (G (b.at ((Act.mk tmps d).put o.dst val) (.inRegion ops rest :: k)) cs) v') : KA K (G (b.at ⟨tmps, d⟩ (.inRegion ops (i :: rest) :: k)) cs) v :=
  kOpG hS hK hF hk ho hw hok fun n hn hz t e => ⟨val, v'.re t e, by
    rw [hz rfl, upto_le (v := v) (Nat.le_refl _)]
    exact he t e, (fun x => by cases x), fun hf => (h ⟨hf.room, hf.obj, hf.low⟩).re⟩
end
end Go.Proofs.Ytoimhdhplebhgaa
