/-
  Behind the join: the world as it was, and what goroutine 0 has made; Wait, and what follows.
-/
import Derived.Test.YtoimhdhplebhgaaG8
import Derived.Test.YtoimhdhplebhgaaG3
import Derived.Test.YtoimhdhplebhgaaG9
namespace Go.Proofs.Ytoimhdhplebhgaa
open Go.Conc Go.RowKit Go.Conc.Lib Go.ConcR.Gen
open Go.ConcN (upd upd_same upd_ne)
open Go.ConcR (KK WgAt stA smA rd wr mk DC0)
set_option linter.unusedSimpArgs false
set_option linter.unusedVariables false

theorem range_get {f : Nat → Obj} {n b : Nat} : ((Array.range n).map f)[b]? = if b < n then some (f b) else none := by
  rw [Array.getElem?_map, Array.getElem?_range]
  split <;> rfl
section
variable {Base : Bs} {Post : Value → World → Prop} {v0 v u : World} {Wg : Nat} {V : List Value} {M : List (List Int)} {C : Nat → Nat} {R : Nat → List Int} {γ : View} {g : Goroutine} {mv : Value} {n : Nat} {xs : List Value}
theorem joined_of (hF0 : Flat Try.prog v0) (hWg : Wg = v0.heap.size) (hvs : v.heap.size = v0.heap.size + 1) (hv : ∀ b, b < v0.heap.size → v.heap[b]? = v0.heap[b]?) (hB : ∀ b, Base b → b < v0.heap.size ∧ v0.heap[b]? = some hid) (hB2 : ∀ b, Base.shut b → b < v0.heap.size ∧ Shut v0 b) (hV : V.length = M.length)
    (hR : Rv v V M C R γ u) (hmv : u.ownsRow v.heap.size 3 1 mv n xs)
    (h : ∀ vf, Flat Try.prog vf → Below v0.heap.size v0 vf → vf.ownsRow v0.heap.size 3 1 mv n xs → KA (Wins Try.prog Post) g vf) : ∀ t d, Joined Try.prog Wg Base Post γ (u.re t d) g := by
  intro t d w hVw hdn
  have hsz : u.heap.size ≤ w.heap.size := hVw.size
  have hus := hR.size
  obtain ⟨f, hf⟩ : ∃ f : Nat → Obj, f = fun b => if b < v0.heap.size then (v0.heap[b]?).getD hid else if mv.ownBlock = some b then (u.heap[b]?).getD hid else hid := ⟨_, rfl⟩
  have hflat : Flat Try.prog { v0 with heap := (Array.range w.heap.size).map f } := by
    refine ⟨by rw [noGlobals]; exact Nat.zero_le _, fun b o e => ?_, fun b _ => by rw [noGlobals]; exact Nat.zero_le _⟩
    have e' : ((Array.range w.heap.size).map f)[b]? = some o := e
    rw [range_get] at e'
    split at e'
    · have e2 := (Option.some.inj e').symm
      subst e2
      rw [hf]
      dsimp only
      split
      · rename_i h1
        rw [Array.getElem?_eq_getElem h1]
        exact hF0.obj b _ (Array.getElem?_eq_getElem h1)
      · split
        · rename_i h2
          have h3 := (hmv.lt b h2).2
          rw [Array.getElem?_eq_getElem h3]
          exact hR.flat.obj b _ (Array.getElem?_eq_getElem h3)
        · exact ⟨rfl, rfl⟩
    · cases e'
  have hlow : ∀ b, b < v0.heap.size → ((Array.range w.heap.size).map f)[b]? = v0.heap[b]? := fun b hb => by
    rw [range_get, if_pos (by omega), hf]
    dsimp only
    rw [if_pos hb, Array.getElem?_eq_getElem hb]; rfl
  have hrow : ∀ b, mv.ownBlock = some b → ((Array.range w.heap.size).map f)[b]? = u.heap[b]? := fun b hb => by
    have h3 := hmv.lt b hb
    rw [range_get, if_pos (by omega), hf]
    dsimp only
    rw [if_neg (by omega), if_pos hb, Array.getElem?_eq_getElem h3.2]; rfl
  refine ⟨{ v0 with heap := (Array.range w.heap.size).map f }, ⟨by simp, fun b o e => ?_, hflat⟩, by simp, fun b hb hbw => ?_, ?_, fun b hb => (hB2 b hb).2.of_get (hlow b (hB2 b hb).1), ?_⟩
  · have e' : ((Array.range w.heap.size).map f)[b]? = some o := e
    by_cases h1 : b < v0.heap.size
    · rw [hlow b h1] at e'
      have e1 : v.heap[b]? = some o := (hv b h1).trans e'
      rcases hR.blk b (by omega) with h2 | ⟨_, i, x, hi, hx, h3⟩
      · exact hVw.blk b o (h2.trans e1)
      · obtain ⟨vk, hk1, hk2⟩ := hdn i (by rw [hR.j]; exact hi)
        rw [hR.dn i x hi hx] at hk2
        exact hk1.blk b o (hk2 b o h3 e1)
    · by_cases h2 : mv.ownBlock = some b
      · rw [hrow b h2] at e'
        exact hVw.blk b o e'
      · rw [range_get] at e'
        split at e'
        · rename_i h3
          rw [hf] at e'
          dsimp only at e'
          rw [if_neg h1, if_neg h2] at e'
          obtain rfl := Option.some.inj e'
          exact ⟨w.heap[b], Array.getElem?_eq_getElem h3, .hid _⟩
        · cases e'
  · obtain ⟨h1, h2⟩ := hB b hb
    exact (hlow b h1).trans h2
  · show ((Array.range w.heap.size).map f)[Wg]? = some hid
    rw [range_get, if_pos (by omega), hf]
    dsimp only
    rw [if_neg (by omega), if_neg (fun e => by have := (hmv.lt _ e).1; omega)]
  · refine (h _ hflat ⟨rfl, rfl, rfl, ?_, fun b hb => hlow b hb⟩ ?_).out
    · show v0.heap.size ≤ ((Array.range w.heap.size).map f).size
      simp; omega
    · refine own_mono (own_blocks hmv fun b hb => ?_) (by omega)
      exact hrow b hb
/-- Wait, in a walk. -/
theorem kn_wait_at {N : Nat} {b : Frame} {a : Act} {k : List Item} {cs : List Frame} {ops : Array Oper} {i : Nat} {rest : List Nat} {o : Oper} {x : Operand} {ats : Array TypeId}
    (ho : ops[i]? = some o) (hw : Region.wanted o (yielded ops a.tmps) = true) (hk : b.kind ≠ .early) (hop : o.op = .call { callee := .value (.func 25), args := #[x], argTypes := ats }) (hx : a.eval x = .pointer (some ⟨Wg, 0, none⟩))
    (hR : Rv v V M C R γ u) (hE : ∀ i, R i = [])
    (h : ∀ t d, Joined Try.prog Wg Base Post γ (u.re t d) (G (b.at (a.put o.dst (.tuple #[])) (.inRegion ops rest :: k)) cs)) :
    KA (MNext Try.prog 47 Wg true Base Post (N + 1) γ) (G (b.at a (.inRegion ops (i :: rest) :: k)) cs) u := by
  have hK := kn_ok (P := Try.prog) (ty := 47) (Wg := Wg) (Base := Base) (Post := Post) N γ
  have hdst : (ops[i]?).bind (·.dst) = o.dst := by rw [ho]; rfl
  refine kCall hK hR.flat ho hw hk hop wgLib.f_wait (nm_wait lk) rfl ?_
  simp only [List.map_toArray, List.map_cons, List.map_nil, hx]
  walk_nrmf waitFn
  refine kn_wait (gf := G (b.at (a.put ((ops[i]?).bind (·.dst)) (.tuple #[])) (.inRegion ops rest :: k)) cs) hR.owed (fun i hi => .inl ?_) (wg_wait wgLib) (fun Fin hFin g hg => wg_round wgLib hFin g hg) rfl ?_
  · rw [hR.say i (by rw [← hR.j]; exact hi), hE i]; rfl
  · rw [hdst]; exact h
end
end Go.Proofs.Ytoimhdhplebhgaa
