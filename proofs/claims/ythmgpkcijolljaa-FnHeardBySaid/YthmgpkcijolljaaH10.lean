/-
  Worlds that have grown, others' blocks among them; a slice of one, and an append, where others may allot.
-/
import Derived.Test.YthmgpkcijolljaaHKNextP
import Derived.Test.YthmgpkcijolljaaHKPlainF
import Derived.Test.YthmgpkcijolljaaH1
namespace Go.Proofs.Ythmgpkcijolljaa
open Go.Conc Go.RowKit Go.Conc.Lib
set_option linter.unusedSimpArgs false
set_option linter.unusedVariables false
/-- What was there is as it was. -/
structure Ups (v u : World) : Prop where
 size : v.heap.size ≤ u.heap.size
 get : ∀ b, b < v.heap.size → u.heap[b]? = v.heap[b]?
theorem Ups.refl (v : World) : Ups v v := ⟨Nat.le_refl _, fun _ _ => rfl⟩
theorem Ups.trans {v u w : World} (h : Ups v u) (k : Ups u w) : Ups v w := ⟨Nat.le_trans h.size k.size, fun b hb => (k.get b (Nat.lt_of_lt_of_le hb h.size)).trans (h.get b hb)⟩
theorem Ups.upto (v : World) (n : Nat) : Ups v (v.upto n) := ⟨by rw [upto_size]; omega, fun b hb => upto_get hb⟩
theorem Ups.re {v u : World} (h : Ups v u) (t : Nat → Question → Nat) (d : Nat) : Ups v (u.re t d) := ⟨h.size, h.get⟩
theorem Ups.alloc (v : World) (o : Obj) : Ups v (v.alloc o) := ⟨by simp, fun b hb => Below.heap_alloc v o b hb⟩
theorem Ups.of {v u : World} (hs : v.heap.size ≤ u.heap.size) (hg : ∀ b, b < v.heap.size → u.heap[b]? = v.heap[b]?) : Ups v u := ⟨hs, hg⟩
theorem own_to {w w' : World} {base n sz : Nat} {e : TypeId} {v : Value} {xs : List Value} (h : w.ownsRow base e sz v n xs) (he : ∀ k, v.ownBlock = some k → w'.heap[k]? = w.heap[k]?) : w'.ownsRow base e sz v n xs := by
 refine ⟨h.1, ?_⟩
 rcases h.2 with ⟨rfl, rfl⟩ | ⟨g, cap, cur, rfl, h1, h2, h3⟩
 ·exact .inl ⟨rfl, rfl⟩
 ·exact .inr ⟨g, cap, cur, rfl, h1, (he g rfl).trans h2, h3⟩
theorem Ups.own {v u : World} (h : Ups v u) {base n sz : Nat} {e : TypeId} {x : Value} {xs : List Value} (ho : v.ownsRow base e sz x n xs) : u.ownsRow base e sz x n xs :=
 own_to ho fun b hb => h.get b (ho.lt b hb).2
theorem Ups.cell {v u : World} (h : Ups v u) {a : Addr} {x : Value} (hx : v.cell? a = some x) : u.cell? a = some x := by
 obtain ⟨c, e, f, h1, h2, h3⟩ := cell?_some hx
 have hb := (Array.getElem?_eq_some_iff.1 h1).1
 simp [World.cell?, h.get _ hb, h1, h2, h3]
theorem cell_up {v v₁ : World} (hv : ∀ (b : Nat) (o : Obj), v.heap[b]? = some o → v₁.heap[b]? = some o) {a : Addr} {x : Value} (h : v.cell? a = some x) : v₁.cell? a = some x := by
 obtain ⟨c, e, f, h1, h2, h3⟩ := cell?_some h
 simp [World.cell?, hv _ _ h1, h2, h3]
theorem int_info' : (Try.prog.info? 3).map (fun i => (i.zero, i.size, i.bytes)) = some (some (Value.int .i64 0), 1, 8) := by kernel_rfl
section
variable {main gr : Bool} {Live : World → Prop} {K : Goroutine → World → Prop} {v : World} {b : Frame} {k : List Item} {cs : List Frame} {ops : Array Oper} {i : Nat} {rest : List Nat} {o : Oper} {tmps : Array Value} {d : List Deferred}
/-- A slice of one number. -/
theorem kBuild1 (hK : KOk Try.prog main gr false Live K) (hF : Flat Try.prog v) (hk : b.kind ≠ .early) (ho : ops[i]? = some o) (hw : Region.wanted o (yielded ops tmps) = true) {x : Operand} (hop : o.op = .buildSlice 32 1 #[(0, x)]) {y : Int} (hx : (Act.mk tmps []).eval x = .int .i64 y)
  (h : ∀ u p, Flat Try.prog u → Ups v u → v.heap.size ≤ p → u.cell? ⟨p, 0, none⟩ = some (.int .i64 y) → KA K (G (b.at ((Act.mk tmps d).put o.dst (.slice (some ⟨p, 0, none⟩) 1 1)) (.inRegion ops rest :: k)) cs) u) :
  KA K (G (b.at ⟨tmps, d⟩ (.inRegion ops (i :: rest) :: k)) cs) v := by
 have hok : opOk Try.prog Sf o = true := by unfold opOk; rw [hop]
 refine kOpG closedS.bodies hK hF hk ho hw hok fun n hn _ t e => ?_
 refine ⟨.slice (some ⟨((v.upto n).re t e).heap.size, 0, none⟩) 1 1, ((v.upto n).re t e).alloc (.cells #[.int .i64 y] 3), ?_, (fun h => by cases h), fun hF' => ?_⟩
 ·unfold execOp
  simp only [hop, List.map_toArray, List.map_cons, List.map_nil, hx]
  go_simp
 ·refine h _ _ hF' (((Ups.upto v n).re t e).trans (Ups.alloc _ _)) ?_ ?_
  ·exact ((Ups.upto v n).re t e).size
  ·exact cell_one_new _ _ _ 0 _ rfl
/-- An append of one number. -/
theorem kAppend1 (hK : KOk Try.prog main gr false Live K) (hF : Flat Try.prog v) (hk : b.kind ≠ .early) (ho : ops[i]? = some o) (hw : Region.wanted o (yielded ops tmps) = true) {s x : Operand} (hop : o.op = .call { callee := .builtin .append, args := #[s, x], argTypes := #[32, 32] })
  {hv : Value} {l : List Int} {ad : Addr} {y : Int} (hs : (Act.mk tmps []).eval s = hv) (hx : (Act.mk tmps []).eval x = .slice (some ad) 1 1) (hown : v.ownsRow 0 3 1 hv l.length (ints l)) (hc : v.cell? ad = some (.int .i64 y)) (hl : l.length ≤ 100000)
  (h : ∀ u hv', Flat Try.prog u → v.heap.size ≤ u.heap.size → (∀ q, q < v.heap.size → hv.ownBlock ≠ some q → u.heap[q]? = v.heap[q]?) → u.ownsRow 0 3 1 hv' (l ++ [y]).length (ints (l ++ [y])) → (hv'.ownBlock = hv.ownBlock ∨ ∃ q, v.heap.size ≤ q ∧ hv'.ownBlock = some q) →
   KA K (G (b.at ((Act.mk tmps d).put o.dst hv') (.inRegion ops rest :: k)) cs) u) :
  KA K (G (b.at ⟨tmps, d⟩ (.inRegion ops (i :: rest) :: k)) cs) v := by
 have hok : opOk Try.prog Sf o = true := by unfold opOk; rw [hop]; rfl
 refine kOpG closedS.bodies hK hF hk ho hw hok fun n hn _ t e => ?_
 have hU : Ups v ((v.upto n).re t e) := (Ups.upto v n).re t e
 obtain ⟨i0, hi, hz0, hz1, hz2⟩ := info_parts int_info'
 have hr : Reads ((v.upto n).re t e) ((v.upto n).re t e).heap.size 1 (some ad) 1 [.int .i64 y] := by
  refine ⟨rfl, fun _ => ⟨ad, rfl, ?_, fun j u hu => ?_⟩⟩
  ·exact cell_lt (hU.cell hc)
  ·have hj : j = 0 := by
    have := (List.getElem?_eq_some_iff.1 hu).1
    simpa using this
   subst hj
   have hu' : u = .int .i64 y := by simpa using hu.symm
   subst hu'
   rw [show ad.add 0 = ad from by obtain ⟨b1, b2, b3⟩ := ad; rfl]
   exact hU.cell hc
 obtain ⟨hv', w', hrun, h1, h2, h3⟩ := run_append_any (P := Try.prog) ((v.upto n).re t e) 0 32 o.type 3 i0 (.int .i64 0) 1 8 Try.underlying32 hi hz0 hz1 hz2 rfl (by decide) hv l.length (ints l) (hU.own hown) _ (some ad) 1 1 [.int .i64 y] hr (by intro u hu; obtain rfl := List.mem_singleton.1 hu; rfl) (by unfold maxLen; omega) (by omega) (Nat.zero_le _)
 refine ⟨hv', w', ?_, (fun h => by cases h), fun hF' => ?_⟩
 ·unfold execOp
  simp only [hop, resolve, invoke, builtin, Sem.run_bind, Sem.run_pure, Result.andThen_ok, List.map_toArray, List.map_cons, List.map_nil, hs, hx, hrun]
 ·refine h w' hv' hF' (Nat.le_trans hU.size h2.size) (fun q hq hne => ?_) (by simpa [ints] using h1) (h3.imp id fun e3 => ⟨_, hU.size, e3⟩)
  exact (h2.block q (Nat.lt_of_lt_of_le hq hU.size) (fun e4 => hne e4.symm)).trans (hU.get q hq)
end
end Go.Proofs.Ythmgpkcijolljaa
/-
  What guests do and hear, in plain words.
-/
namespace Go.Proofs.Ythmgpkcijolljaa
open Go.ConcN (upd upd_same upd_ne)
set_option linter.unusedSimpArgs false
set_option linter.unusedVariables false
def isSay (d : Dd) : Bool := d.1.toList == sayL
/-- who is where behind a deed -/
def onStep (on : Nat → Nat) (d : Dd) : Nat → Nat := if isSay d then on else upd on d.2.1.toNat d.2.2.toNat
def inCo (on : Nat → Nat) (g q : Nat) : Bool := q != g && decide (0 < on q) && on q == on g
/-- the others on the bridge of a guest -/
def co (n : Nat) (on : Nat → Nat) (g : Nat) : List Nat := ((List.range n).map (· + 1)).filter (inCo on g)
/-- what a guest is to hear -/
def fut : (Nat → Nat) → List Dd → Nat → List Int
 | _, [], _ => []
 | on, d :: l, q => if isSay d then (if inCo on d.2.1.toNat q then d.2.2 :: fut on l q else fut on l q) else fut (onStep on d) l q
/-- what is said alone -/
def aloneF (n : Nat) : (Nat → Nat) → List Dd → List Int
 | _, [] => []
 | on, d :: l => if isSay d then (if co n on d.2.1.toNat = [] then d.2.2 :: aloneF n on l else aloneF n on l) else aloneF n (onStep on d) l
/-- how many words are heard -/
def cost (n : Nat) : (Nat → Nat) → List Dd → Nat
 | _, [] => 0
 | on, d :: l => (if isSay d then (co n on d.2.1.toNat).length else 0) + cost n (onStep on d) l
def onEnd (on : Nat → Nat) (l : List Dd) : Nat → Nat := l.foldl onStep on
/-- each can do what it does -/
def SaidOk (n : Nat) (d : Dd) : Prop := saidIn d.1.toList d.2.1 d.2.2 n = true
theorem SaidOk.cases {n : Nat} {d : Dd} (h : SaidOk n d) : 1 ≤ d.2.1 ∧ d.2.1 ≤ n ∧ ((isSay d = true ∧ 0 ≤ d.2.2 ∧ d.2.2 ≤ 1000) ∨ (isSay d = false ∧ 0 ≤ d.2.2 ∧ d.2.2 ≤ 9)) := by
 unfold SaidOk saidIn at h
 unfold isSay
 simp only [Bool.or_eq_true, Bool.and_eq_true, beq_iff_eq] at h
 rcases h with (⟨⟨h1, h2⟩, h3⟩ | ⟨⟨h1, h2⟩, h3⟩) | ⟨⟨h1, h2⟩, h3⟩
 ·have h2 := inB_true.1 h2
  have h3 := inB_true.1 h3
  refine ⟨h2.1, h2.2, .inr ⟨by rw [h1]; rfl, by omega, by omega⟩⟩
 ·have h2 := inB_true.1 h2
  refine ⟨h2.1, h2.2, .inr ⟨by rw [h1]; rfl, by omega, by omega⟩⟩
 ·have h2 := inB_true.1 h2
  have h3 := inB_true.1 h3
  refine ⟨h2.1, h2.2, .inl ⟨by rw [h1]; rfl, by omega, by omega⟩⟩
/-- who is where, and the guests of each bridge -/
structure RowsOk (n : Nat) (on : Nat → Nat) (rows : Nat → List Nat) : Prop where
 on9 : ∀ q, 1 ≤ q → q ≤ n → on q ≤ 9
 nod : ∀ b, 1 ≤ b → b ≤ 9 → (rows b).Nodup
 mem : ∀ b, 1 ≤ b → b ≤ 9 → ∀ q, q ∈ rows b ↔ (1 ≤ q ∧ q ≤ n) ∧ on q = b
theorem RowsOk.none (n : Nat) : RowsOk n (fun _ => 0) (fun _ => []) := ⟨fun _ _ _ => Nat.zero_le _, fun _ _ _ => List.nodup_nil, fun b h1 _ q => ⟨fun h => by simp at h, fun h => by omega⟩⟩
/-- off its bridge -/
def rowsOff (on : Nat → Nat) (rows : Nat → List Nat) (g : Nat) : Nat → List Nat := if on g = 0 then rows else upd rows (on g) ((rows (on g)).filter (· != g))
/-- onto another -/
def rowsOn (rows : Nat → List Nat) (g b : Nat) : Nat → List Nat := if b = 0 then rows else upd rows b (rows b ++ [g])
theorem RowsOk.move {n : Nat} {on : Nat → Nat} {rows : Nat → List Nat} (h : RowsOk n on rows) {g b : Nat} (h1 : 1 ≤ g) (h2 : g ≤ n) (hb : b ≤ 9) : RowsOk n (upd on g b) (rowsOn (rowsOff on rows g) g b) := by
 have ho := h.on9 g h1 h2
 have off : ∀ c, 1 ≤ c → c ≤ 9 → (rowsOff on rows g c).Nodup ∧ ∀ q, q ∈ rowsOff on rows g c ↔ ((1 ≤ q ∧ q ≤ n) ∧ on q = c) ∧ q ≠ g := by
  intro c c1 c9
  unfold rowsOff
  split
  ·rename_i h0
   refine ⟨h.nod c c1 c9, fun q => ?_⟩
   rw [h.mem c c1 c9]
   refine ⟨fun hq => ⟨hq, fun e => by subst e; omega⟩, fun hq => hq.1⟩
  ·by_cases e : c = on g
   ·subst e
    rw [upd_same]
    refine ⟨List.Pairwise.filter _ (h.nod _ c1 c9), fun q => ?_⟩
    rw [List.mem_filter, h.mem _ c1 c9]
    simp
   ·rw [upd_ne _ _ e]
    refine ⟨h.nod c c1 c9, fun q => ?_⟩
    rw [h.mem c c1 c9]
    refine ⟨fun hq => ⟨hq, fun e' => by subst e'; exact e hq.2.symm⟩, fun hq => hq.1⟩
 refine ⟨fun q q1 qn => ?_, fun c c1 c9 => ?_, fun c c1 c9 q => ?_⟩
 ·by_cases e : q = g
  ·rw [e, upd_same]; exact hb
  ·rw [upd_ne _ _ e]; exact h.on9 q q1 qn
 ·unfold rowsOn
  split
  ·exact (off c c1 c9).1
  ·by_cases e : c = b
   ·subst e
    rw [upd_same]
    refine List.nodup_append.2 ⟨(off _ c1 c9).1, List.nodup_cons.2 ⟨by simp, List.nodup_nil⟩, fun x hx y hy => ?_⟩
    rw [List.mem_singleton] at hy
    subst hy
    exact (((off _ c1 c9).2 x).1 hx).2
   ·rw [upd_ne _ _ e]; exact (off c c1 c9).1
 ·have key : (q ∈ rowsOn (rowsOff on rows g) g b c) ↔ q ∈ rowsOff on rows g c ∨ (c = b ∧ q = g) := by
   unfold rowsOn
   split
   ·constructor
    ·exact .inl
    ·rintro (h | ⟨rfl, _⟩)
     ·exact h
     ·omega
   ·by_cases e : c = b
    ·subst e
     rw [upd_same]; simp
    ·rw [upd_ne _ _ e]; simp [e]
  rw [key, (off c c1 c9).2]
  by_cases e : q = g
  ·subst e
   rw [upd_same]
   constructor
   ·rintro (⟨_, h⟩ | ⟨h, _⟩)
    ·exact absurd rfl h
    ·exact ⟨⟨h1, h2⟩, h.symm⟩
   ·rintro ⟨_, h⟩
    exact .inr ⟨h.symm, rfl⟩
  ·rw [upd_ne _ _ e]
   constructor
   ·rintro (⟨h, _⟩ | ⟨_, h⟩)
    ·exact h
    ·exact absurd h e
   ·exact fun h => .inl ⟨h, e⟩
/-- The others of a guest's row are its company. -/
theorem RowsOk.others {n : Nat} {on : Nat → Nat} {rows : Nat → List Nat} (h : RowsOk n on rows) {g : Nat} (h1 : 1 ≤ g) (h2 : g ≤ n) (h0 : on g ≠ 0) : ((rows (on g)).filter (· != g)).Perm (co n on g) := by
 have ho := h.on9 g h1 h2
 have hnd : (co n on g).Nodup := by
  unfold co
  refine List.Pairwise.filter _ ?_
  exact List.Pairwise.map _ (fun a b e => by omega) (List.nodup_range (n := n))
 refine (List.perm_ext_iff_of_nodup (List.Pairwise.filter _ (h.nod _ (by omega) ho)) hnd).2 fun q => ?_
 rw [List.mem_filter, h.mem _ (by omega) ho]
 unfold co inCo
 rw [List.mem_filter, List.mem_map]
 simp only [List.mem_range, bne_iff_ne, ne_eq, Bool.and_eq_true, decide_eq_true_eq, beq_iff_eq]
 constructor
 ·rintro ⟨⟨⟨a, b⟩, c⟩, d⟩
  exact ⟨⟨q - 1, by omega, by omega⟩, ⟨d, by omega⟩, c⟩
 ·rintro ⟨⟨x, hx, rfl⟩, ⟨a, b⟩, c⟩
  exact ⟨⟨⟨by omega, by omega⟩, c⟩, a⟩
theorem co_none {n : Nat} {on : Nat → Nat} {g : Nat} (h : on g = 0) : co n on g = [] := by
 unfold co
 rw [List.filter_eq_nil_iff]
 intro q _
 unfold inCo
 simp only [Bool.and_eq_true, decide_eq_true_eq, beq_iff_eq, not_and]
 omega
theorem inCo_none {on : Nat → Nat} {g q : Nat} (h : on g = 0) : inCo on g q = false := by
 unfold inCo
 simp only [Bool.and_eq_false_iff, decide_eq_false_iff_not, beq_eq_false_iff_ne, ne_eq]
 omega
theorem inCo_mem {n : Nat} {on : Nat → Nat} {rows : Nat → List Nat} (h : RowsOk n on rows) {g q : Nat} (h1 : 1 ≤ g) (h2 : g ≤ n) (h0 : on g ≠ 0) (q1 : 1 ≤ q) (qn : q ≤ n) : inCo on g q = true ↔ q ∈ (rows (on g)).filter (· != g) := by
 rw [(h.others h1 h2 h0).mem_iff]
 unfold co
 rw [List.mem_filter, List.mem_map]
 simp only [List.mem_range]
 exact ⟨fun h => ⟨⟨q - 1, by omega, by omega⟩, h⟩, fun h => h.2⟩
end Go.Proofs.Ythmgpkcijolljaa
/-
  What a meeting leaves, in plain words: by prefixes of what is done.
-/
namespace Go.Proofs.Ythmgpkcijolljaa
open Go.ConcN (upd upd_same upd_ne)
set_option linter.unusedSimpArgs false
set_option linter.unusedVariables false
/-- nobody is on a bridge -/
def on0 : Nat → Nat := fun _ => 0
/-- who is where behind the first k deeds -/
def onAt (l : List Dd) (k : Nat) : Nat → Nat := onEnd on0 (l.take k)
def futAt (l : List Dd) (k : Nat) (q : Nat) : List Int := fut on0 (l.take k) q
def aloneAt (n : Nat) (l : List Dd) (k : Nat) : List Int := aloneF n on0 (l.take k)
theorem onEnd_app (on : Nat → Nat) (a b : List Dd) : onEnd on (a ++ b) = onEnd (onEnd on a) b := by unfold onEnd; rw [List.foldl_append]
theorem onStep_say {on : Nat → Nat} {d : Dd} (h : isSay d = true) : onStep on d = on := by unfold onStep; rw [if_pos h]
theorem onStep_go {on : Nat → Nat} {d : Dd} (h : isSay d = false) : onStep on d = upd on d.2.1.toNat d.2.2.toNat := by unfold onStep; rw [h]; simp
theorem onEnd_cons (on : Nat → Nat) (d : Dd) (l : List Dd) : onEnd on (d :: l) = onEnd (onStep on d) l := rfl
theorem fut_cons (on : Nat → Nat) (d : Dd) (l : List Dd) (q : Nat) : fut on (d :: l) q = if isSay d then (if inCo on d.2.1.toNat q then d.2.2 :: fut on l q else fut on l q) else fut (onStep on d) l q := by rw [fut]
theorem aloneF_cons (n : Nat) (on : Nat → Nat) (d : Dd) (l : List Dd) : aloneF n on (d :: l) = if isSay d then (if co n on d.2.1.toNat = [] then d.2.2 :: aloneF n on l else aloneF n on l) else aloneF n (onStep on d) l := by rw [aloneF]
theorem fut_app (on : Nat → Nat) (a b : List Dd) (q : Nat) : fut on (a ++ b) q = fut on a q ++ fut (onEnd on a) b q := by
 induction a generalizing on with
 | nil => rfl
 | cons d a ih =>
  rw [List.cons_append, onEnd_cons, fut_cons, fut_cons]
  cases h : isSay d
  ·simp [ih]
  ·rw [onStep_say h]
   simp only [if_true]
   split <;> simp [ih]
theorem aloneF_app (n : Nat) (on : Nat → Nat) (a b : List Dd) : aloneF n on (a ++ b) = aloneF n on a ++ aloneF n (onEnd on a) b := by
 induction a generalizing on with
 | nil => rfl
 | cons d a ih =>
  rw [List.cons_append, onEnd_cons, aloneF_cons, aloneF_cons]
  cases h : isSay d
  ·simp [ih]
  ·rw [onStep_say h]
   simp only [if_true]
   split <;> simp [ih]
theorem fut_one (on : Nat → Nat) (d : Dd) (q : Nat) : fut on [d] q = if isSay d && inCo on d.2.1.toNat q then [d.2.2] else [] := by
 rw [fut_cons]
 cases isSay d <;> simp [fut]
theorem aloneF_one (n : Nat) (on : Nat → Nat) (d : Dd) : aloneF n on [d] = if isSay d && decide (co n on d.2.1.toNat = []) then [d.2.2] else [] := by
 rw [aloneF_cons]
 cases isSay d <;> simp [aloneF]
section
variable {l : List Dd} {k : Nat}
theorem take_one (h : k < l.length) : l.take (k + 1) = l.take k ++ [l[k]] := by rw [List.take_succ_eq_append_getElem h]
theorem onAt_zero (l : List Dd) : onAt l 0 = on0 := by simp [onAt, onEnd]
theorem onAt_succ (h : k < l.length) : onAt l (k + 1) = onStep (onAt l k) l[k] := by
 unfold onAt
 rw [take_one h, onEnd_app]
 rfl
theorem futAt_zero (l : List Dd) (q : Nat) : futAt l 0 q = [] := by simp [futAt, fut]
theorem futAt_succ (h : k < l.length) (q : Nat) : futAt l (k + 1) q = futAt l k q ++ (if isSay l[k] && inCo (onAt l k) l[k].2.1.toNat q then [l[k].2.2] else []) := by
 unfold futAt
 rw [take_one h, fut_app, fut_one]
 rfl
theorem aloneAt_zero (n : Nat) (l : List Dd) : aloneAt n l 0 = [] := by simp [aloneAt, aloneF]
theorem aloneAt_succ (n : Nat) (h : k < l.length) : aloneAt n l (k + 1) = aloneAt n l k ++ (if isSay l[k] && decide (co n (onAt l k) l[k].2.1.toNat = []) then [l[k].2.2] else []) := by
 unfold aloneAt
 rw [take_one h, aloneF_app, aloneF_one]
 rfl
theorem onAt_all (l : List Dd) : onAt l l.length = onEnd on0 l := by simp [onAt]
theorem futAt_all (l : List Dd) (q : Nat) : futAt l l.length q = fut on0 l q := by simp [futAt]
theorem aloneAt_all (n : Nat) (l : List Dd) : aloneAt n l l.length = aloneF n on0 l := by simp [aloneAt]
theorem futAt_len (l : List Dd) (q : Nat) : ∀ k, (futAt l k q).length ≤ k := by
 intro k
 induction k with
 | zero => rw [futAt_zero]; exact Nat.le_refl _
 | succ k ih =>
  by_cases h : k < l.length
  ·rw [futAt_succ h, List.length_append]
   split <;> simp <;> omega
  ·have : futAt l (k + 1) q = futAt l k q := by unfold futAt; rw [List.take_of_length_le (by omega), List.take_of_length_le (by omega)]
   rw [this]; omega
theorem aloneAt_len (n : Nat) (l : List Dd) : ∀ k, (aloneAt n l k).length ≤ k := by
 intro k
 induction k with
 | zero => rw [aloneAt_zero]; exact Nat.le_refl _
 | succ k ih =>
  by_cases h : k < l.length
  ·rw [aloneAt_succ n h, List.length_append]
   split <;> simp <;> omega
  ·have : aloneAt n l (k + 1) = aloneAt n l k := by unfold aloneAt; rw [List.take_of_length_le (by omega), List.take_of_length_le (by omega)]
   rw [this]; omega
/-- each is on a bridge or on none, nobody has the number 0 -/
theorem onAt_ok {n : Nat} (hv : ∀ d ∈ l, SaidOk n d) : ∀ k, onAt l k 0 = 0 ∧ ∀ q, onAt l k q ≤ 9 := by
 intro k
 induction k with
 | zero => rw [onAt_zero]; exact ⟨rfl, fun _ => Nat.zero_le _⟩
 | succ k ih =>
  by_cases h : k < l.length
  ·obtain ⟨h1, h2, h3⟩ := (hv _ (List.getElem_mem h)).cases
   rw [onAt_succ h]
   rcases h3 with ⟨h4, h5, h6⟩ | ⟨h4, h5, h6⟩
   ·rw [onStep_say h4]; exact ih
   ·rw [onStep_go h4]
    refine ⟨?_, fun q => ?_⟩
    ·rw [upd_ne _ _ (by omega)]; exact ih.1
    ·by_cases e : q = l[k].2.1.toNat
     ·subst e; rw [upd_same]; omega
     ·rw [upd_ne _ _ e]; exact ih.2 q
  ·have : onAt l (k + 1) = onAt l k := by unfold onAt; rw [List.take_of_length_le (by omega), List.take_of_length_le (by omega)]
   rw [this]; exact ih
end
/-- all that was heard -/
def cntN (n : Nat) (H : Nat → List Int) : Nat := ((List.range n).map fun q => (H (q + 1)).length).sum
theorem cntN_succ (n : Nat) (H : Nat → List Int) : cntN (n + 1) H = cntN n H + (H (n + 1)).length := by unfold cntN; rw [List.range_succ, List.map_append, List.sum_append]; simp
theorem cntN_le {n m : Nat} {H : Nat → List Int} (h : ∀ q, (H q).length ≤ m) : cntN n H ≤ n * m := by
 induction n with
 | zero => simp [cntN]
 | succ n ih => rw [cntN_succ, Nat.succ_mul]; have := h (n + 1); omega
theorem co_lt {n : Nat} {on : Nat → Nat} {g : Nat} : (co n on g).length ≤ n := by
 unfold co
 refine Nat.le_trans (List.length_filter_le _ _) ?_
 simp
end Go.Proofs.Ythmgpkcijolljaa
