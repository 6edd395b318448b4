/-
  Channels made by the call, and maps keyed by channels: what a look-up and a store do.
-/
import Derived.Test.YthmgpkcijolljaaH1
import Derived.Conc.SmallLaws
import Derived.MapKept
import Derived.Maps.Own
import Derived.Maps.OwnSet
namespace Go.Proofs.Ythmgpkcijolljaa
open Go.RowKit
open Go.ChangeMaps
set_option linter.unusedSimpArgs false
/-- the entry at a channel -/
def lookCh : List MapEntry → Option Nat → Option (Nat × Value)
 | [], _ => none
 | e :: es, r => match e.key with
  | .chan k => if r = k then some (0, e.val) else (lookCh es r).map fun p => (p.1 + 1, p.2)
  | _ => (lookCh es r).map fun p => (p.1 + 1, p.2)
def isCh : Value → Bool | .chan _ => true | _ => false
/-- block b is a map whose keys are channels -/
def mcm (w : World) (b : Nat) : Bool := match w.heap[b]? with
 | some (.map es _) => es.toList.all fun e => isCh e.key
 | _ => false
/-- what such a map holds -/
def mget (w : World) (b : Nat) (r : Option Nat) : Option Value := match w.heap[b]? with
 | some (.map es _) => (lookCh es.toList r).map (·.2)
 | _ => none
def putCh (es : Array MapEntry) (clock : Nat) (r : Option Nat) (v : Value) : Obj := match lookCh es.toList r with
 | some (i, _) => .map (es.modify i fun e => { e with key := .chan r, val := v }) clock
 | none => .map (es.push { key := .chan r, val := v, born := clock }) (clock + 1)
/-- a store at a channel -/
def mput (w : World) (b : Nat) (r : Option Nat) (v : Value) : World := match w.heap[b]? with
 | some (.map es clock) => setBlock w b (putCh es clock r v)
 | _ => w
section
variable {P : Program} {k el e t : TypeId} {dir : ChanDir}
theorem run_equal_ch (hk : P.underlying k = some (.chan dir el)) (a b : Option Nat) (w : World) : (Op.equal k (.chan a) (.chan b)).run P w = .ok (a == b) w := by
 have h : ∀ d : Nat, (Op.equalIn (d + 1) k (.chan a) (.chan b)).run P w = .ok (a == b) w := fun d => by
  simp [Op.equalIn, run_underlying hk]
 exact h 9999
theorem run_findAsking_ch (hk : P.underlying k = some (.chan dir el)) (r : Option Nat) (w : World) : ∀ (es : List MapEntry) (i : Nat), (es.all fun e => isCh e.key) = true →
  (Instr.findAsking k (.chan r) es i).run P w = .ok ((lookCh es r).map fun p => (p.1 + i, p.2)) w
 | [], i, _ => by simp [Instr.findAsking, lookCh]
 | x :: es, i, h => by
  simp only [List.all_cons, Bool.and_eq_true] at h
  obtain ⟨h1, h2⟩ := h
  obtain ⟨kv, hkv⟩ : ∃ kv, x.key = .chan kv := by
   unfold isCh at h1
   split at h1
   ·rename_i q hq
    exact ⟨q, hq⟩
   ·cases h1
  have ih := run_findAsking_ch hk r w es (i + 1) h2
  simp only [Instr.findAsking, hkv, lookCh, Sem.run_bind, run_equal_ch hk, Result.andThen_ok]
  by_cases hr : r = kv
  ·subst hr
   simp
  ·have : (r == kv) = false := by simpa using hr
   simp only [this, if_neg hr]
   simp only [Bool.false_eq_true, if_false, ih, Option.map_map]
   congr 2
   funext p
   simp [Nat.add_assoc, Nat.add_comm 1 i]
theorem run_findKey_ch (hk : P.underlying k = some (.chan dir el)) (r : Option Nat) (w : World) (es : List MapEntry) (h : (es.all fun e => isCh e.key) = true) :
  (Instr.findKey k (.chan r) es).run P w = .ok (lookCh es r) w := by
 unfold Instr.findKey
 cases es with
 | nil => simp [run_underlying hk, Instr.findNow, lookCh]
 | cons x es =>
  have h' := run_findAsking_ch hk r w (x :: es) 0 h
  simp only [List.all_cons, Bool.and_eq_true] at h
  obtain ⟨kv, hkv⟩ : ∃ kv, x.key = .chan kv := by
   have h1 := h.1
   unfold isCh at h1
   split at h1
   ·rename_i q hq
    exact ⟨q, hq⟩
   ·cases h1
  have hnow : Instr.findNow (.chan dir el) (.chan r) (x :: es) 0 = none := by
   simp [Instr.findNow, hkv, Instr.sameNow]
  simp only [Sem.run_bind, run_underlying hk, Result.andThen_ok, hnow, h']
  simp
theorem run_checkKey_ch (hk : P.underlying k = some (.chan dir el)) (r : Option Nat) (em : Bool) (w : World) : (Instr.checkKey em 10000 k (.chan r)).run P w = .ok () w := by
 have h : ∀ d : Nat, (Instr.checkKey em (d + 1) k (.chan r)).run P w = .ok () w := fun d => by
  unfold Instr.checkKey
  simp [run_underlying hk]
 exact h 9999
theorem run_lookup_ch (ht : P.underlying t = some (.map k e)) (hk : P.underlying k = some (.chan dir el)) {z : Value} {w : World} (hz : (zeroValue e).run P w = .ok z w) {b : Nat} (h : mcm w b = true) (r : Option Nat) (c : Bool) :
  (Instr.lookup t (.map (some b)) (.chan r) c).run P w = .ok (match mget w b r with
   | some v => if c then .tuple #[v, .bool true] else v
   | none => if c then .tuple #[z, .bool false] else z) w := by
 unfold mcm at h
 unfold mget
 split at h
 ·rename_i es clock hb
  simp only [Instr.lookup, Sem.run_bind, run_underlying ht, Result.andThen_ok, MapKept.run_getObj_map hb, Sem.run_pure, run_checkKey_ch hk, run_findKey_ch hk r w _ h]
  cases hl : lookCh es.toList r with
  | none => simp [hz]
  | some p => simp
 ·cases h
theorem run_mapUpdate_ch (ht : P.underlying t = some (.map k e)) (hk : P.underlying k = some (.chan dir el)) {w : World} {b : Nat} (h : mcm w b = true) (r : Option Nat) (v : Value) :
  (Instr.mapUpdate t (.map (some b)) (.chan r) v).run P w = .ok () (mput w b r v) := by
 unfold mcm at h
 unfold mput
 split at h
 ·rename_i es clock hb
  simp only [hb, Instr.mapUpdate, Sem.run_bind, run_underlying ht, Result.andThen_ok, MapKept.run_getObj_map hb, run_checkKey_ch hk, run_findKey_ch hk r w _ h, putCh]
  cases hl : lookCh es.toList r with
  | none => simp [MapKept.run_setObj_map _ hb, setBlock]
  | some p =>
   obtain ⟨i, x⟩ := p
   have hkey : ((es[i]?).map (·.key)).getD (.chan r) = .chan r := by
    have : ∀ (l : List MapEntry) (i : Nat) (x : Value), lookCh l r = some (i, x) → ((l[i]?).map (·.key)).getD (.chan r) = .chan r := by
     intro l
     induction l with
     | nil => intro i x h; cases h
     | cons y l ih =>
      intro i x h
      simp only [lookCh] at h
      split at h
      ·rename_i q hq
       split at h
       ·rename_i hrq
        subst hrq
        simp only [Option.some.injEq, Prod.mk.injEq] at h
        obtain ⟨rfl, _⟩ := h
        simp [hq]
       ·cases hl : lookCh l r with
        | none => rw [hl] at h; cases h
        | some p =>
         rw [hl] at h
         simp only [Option.map_some, Option.some.injEq, Prod.mk.injEq] at h
         obtain ⟨rfl, _⟩ := h
         simpa using ih p.1 p.2 hl
      ·cases hl : lookCh l r with
       | none => rw [hl] at h; cases h
       | some p =>
        rw [hl] at h
        simp only [Option.map_some, Option.some.injEq, Prod.mk.injEq] at h
        obtain ⟨rfl, _⟩ := h
        simpa using ih p.1 p.2 hl
    have h2 := this es.toList i x hl
    simpa using h2
   simp only [hkey]
   have hst : (Instr.keyThatStays (.chan r) (.chan r)).run P w = .ok (.chan r) w := by
    unfold Instr.keyThatStays
    have : Instr.sameBits 10000 (.chan r) (.chan r) = true := by simp [Instr.sameBits]
    rw [if_pos this]
    rfl
   simp [hst, MapKept.run_setObj_map _ hb, setBlock]
 ·cases h
end
/-! ### what becomes of them when the world turns -/
section
variable {w w' : World} {b b' : Nat} {r r' : Option Nat} {v : Value}
theorem mcm_of_block (h : w'.heap[b]? = w.heap[b]?) : mcm w' b = mcm w b := by simp [mcm, h]
theorem mget_of_block (h : w'.heap[b]? = w.heap[b]?) : mget w' b r = mget w b r := by simp [mget, h]
theorem heap_alloc_any (w : World) (o : Obj) (i : Nat) : (w.alloc o).heap[i]? = if i = w.heap.size then some o else w.heap[i]? := Array.getElem?_push
@[go_sem] theorem mcm_drew : mcm w.drew b = mcm w b := rfl
@[go_sem] theorem mcm_drewN (n : Nat) : mcm (w.drewN n) b = mcm w b := rfl
@[go_sem] theorem mget_drew : mget w.drew b r = mget w b r := rfl
@[go_sem] theorem mget_drewN (n : Nat) : mget (w.drewN n) b r = mget w b r := rfl
theorem heap_setCell_or (w : World) (a : Addr) (u : Value) (i : Nat) : (w.setCell a u).heap[i]? = w.heap[i]? ∨
  (∃ c e f, w.heap[i]? = some (.cells c e f)) ∧ ∃ c e f, (w.setCell a u).heap[i]? = some (.cells c e f) := by
 by_cases h : a.block = i
 ·subst h
  simp only [World.setCell, Array.getElem?_modify, if_true]
  cases h : w.heap[a.block]? with
  | none => exact .inl rfl
  | some o =>
   cases o with
   | cells c e f => exact .inr ⟨⟨c, e, f, rfl⟩, _, _, _, rfl⟩
   | _ => exact .inl rfl
 ·exact .inl (Below.heap_setCell w a u i (fun e => h e.symm))
@[go_sem] theorem mcm_setCell (a : Addr) (u : Value) : mcm (w.setCell a u) b = mcm w b := by
 rcases heap_setCell_or w a u b with h | ⟨⟨c, e, f, h1⟩, c', e', f', h2⟩
 ·exact mcm_of_block h
 ·simp [mcm, h1, h2]
@[go_sem] theorem mget_setCell (a : Addr) (u : Value) : mget (w.setCell a u) b r = mget w b r := by
 rcases heap_setCell_or w a u b with h | ⟨⟨c, e, f, h1⟩, c', e', f', h2⟩
 ·exact mget_of_block h
 ·simp [mget, h1, h2]
theorem mcm_lt (h : mcm w b = true) : b < w.heap.size := by
 rcases Nat.lt_or_ge b w.heap.size with hl | hg
 ·exact hl
 ·unfold mcm at h
  rw [Array.getElem?_eq_none hg] at h
  cases h
theorem mcm_alloc (h : mcm w b = true) (o : Obj) : mcm (w.alloc o) b = true := by
 rw [mcm_of_block (Below.heap_alloc w o b (mcm_lt h)), h]
theorem mget_alloc (h : b < w.heap.size) (o : Obj) : mget (w.alloc o) b r = mget w b r := mget_of_block (Below.heap_alloc w o b h)
theorem mcm_new (w : World) (c : Nat) : mcm (w.alloc (.map #[] c)) w.heap.size = true := by
 unfold mcm
 rw [heap_alloc_any, if_pos rfl]
 rfl
theorem mput_heap (h : mcm w b = true) (r : Option Nat) (v : Value) : ∃ es clock, w.heap[b]? = some (.map es clock) ∧ (es.toList.all fun e => isCh e.key) = true ∧ mput w b r v = setBlock w b (putCh es clock r v) := by
 unfold mcm at h
 split at h
 ·rename_i es clock hb
  exact ⟨es, clock, hb, h, by unfold mput; rw [hb]⟩
 ·cases h
theorem mput_other (h : b' ≠ b) : (mput w b r v).heap[b']? = w.heap[b']? := by
 unfold mput
 split
 ·rename_i es clock hb
  exact heap_setBlock_other hb _ h
 ·rfl
@[go_sem] theorem mput_size : (mput w b r v).heap.size = w.heap.size := by
 unfold mput
 split
 ·simp [setBlock]
 ·rfl
theorem putCh_map (es : Array MapEntry) (clock : Nat) (r : Option Nat) (v : Value) : ∃ es' clock', putCh es clock r v = .map es' clock' := by
 unfold putCh
 split
 ·exact ⟨_, _, rfl⟩
 ·exact ⟨_, _, rfl⟩
@[go_sem] theorem mput_cell (a : Addr) : (mput w b r v).cell? a = w.cell? a := by
 by_cases h : a.block = b
 ·unfold mput
  split
  ·rename_i es clock hb
   obtain ⟨es', clock', he⟩ := putCh_map es clock r v
   rw [he]
   simp only [World.cell?, h, heap_setBlock_same hb, hb]
  ·rfl
 ·exact World.cell?_of_block (mput_other h)
@[go_sem] theorem mput_frozen (a : Addr) : (mput w b r v).frozen? a = w.frozen? a := by
 by_cases h : a.block = b
 ·unfold mput
  split
  ·rename_i es clock hb
   obtain ⟨es', clock', he⟩ := putCh_map es clock r v
   rw [he]
   simp only [World.frozen?, h, heap_setBlock_same hb, hb]
  ·rfl
 ·exact World.frozen?_of_block (mput_other h)
theorem lookCh_ch {y : MapEntry} {q : Option Nat} (l : List MapEntry) (h : y.key = .chan q) (r : Option Nat) : lookCh (y :: l) r = if r = q then some (0, y.val) else (lookCh l r).map fun p => (p.1 + 1, p.2) := by simp [lookCh, h]
theorem lookCh_not {y : MapEntry} (l : List MapEntry) (h : ∀ q, y.key ≠ .chan q) (r : Option Nat) : lookCh (y :: l) r = (lookCh l r).map fun p => (p.1 + 1, p.2) := by
 rw [lookCh]
 split
 ·rename_i q hq
  exact absurd hq (h q)
 ·rfl
theorem look_modify (l : List MapEntry) (r : Option Nat) (v : Value) (i : Nat) (x : Value) (h : lookCh l r = some (i, x)) (r' : Option Nat) :
  (lookCh (l.modify i fun e => { e with key := .chan r, val := v }) r').map (·.2) = if r' = r then some v else (lookCh l r').map (·.2) := by
 induction l generalizing i x with
 | nil => cases h
 | cons y l ih =>
  by_cases hc : ∃ q, y.key = .chan q
  ·obtain ⟨q, hq⟩ := hc
   rw [lookCh_ch l hq] at h
   by_cases hrq : r = q
   ·subst hrq
    simp only [if_true, Option.some.injEq, Prod.mk.injEq] at h
    obtain ⟨rfl, _⟩ := h
    rw [List.modify_zero_cons, lookCh_ch l (q := r) rfl, lookCh_ch l hq]
    by_cases hr : r' = r
    ·simp [hr]
    ·simp [hr]
   ·rw [if_neg hrq] at h
    cases hl : lookCh l r with
    | none => rw [hl] at h; cases h
    | some p =>
     rw [hl] at h
     simp only [Option.map_some, Option.some.injEq, Prod.mk.injEq] at h
     obtain ⟨rfl, _⟩ := h
     rw [List.modify_succ_cons, lookCh_ch _ hq, lookCh_ch l hq]
     by_cases hr : r' = q
     ·have : r' ≠ r := fun e => hrq (e ▸ hr)
      simp only [if_pos hr, if_neg this]
     ·simp only [if_neg hr, Option.map_map]
      have := ih p.1 p.2 hl
      simpa [Function.comp_def] using this
  ·have hq : ∀ q, y.key ≠ .chan q := fun q e => hc ⟨q, e⟩
   rw [lookCh_not l hq] at h
   cases hl : lookCh l r with
   | none => rw [hl] at h; cases h
   | some p =>
    rw [hl] at h
    simp only [Option.map_some, Option.some.injEq, Prod.mk.injEq] at h
    obtain ⟨rfl, _⟩ := h
    rw [List.modify_succ_cons, lookCh_not _ hq, lookCh_not l hq]
    have := ih p.1 p.2 hl
    simpa [Function.comp_def] using this
theorem look_push (l : List MapEntry) (r : Option Nat) (v : Value) (n : Nat) (h : lookCh l r = none) (r' : Option Nat) :
  (lookCh (l ++ [{ key := .chan r, val := v, born := n }]) r').map (·.2) = if r' = r then some v else (lookCh l r').map (·.2) := by
 induction l with
 | nil =>
  by_cases hr : r' = r <;> simp [lookCh, hr]
 | cons y l ih =>
  rw [List.cons_append]
  by_cases hc : ∃ q, y.key = .chan q
  ·obtain ⟨q, hq⟩ := hc
   rw [lookCh_ch l hq] at h
   by_cases hrq : r = q
   ·rw [if_pos hrq] at h
    cases h
   ·rw [if_neg hrq] at h
    have hl : lookCh l r = none := by
     cases hl : lookCh l r with
     | none => rfl
     | some p => rw [hl] at h; cases h
    rw [lookCh_ch _ hq, lookCh_ch l hq]
    by_cases hr : r' = q
    ·have : r' ≠ r := fun e => hrq (e ▸ hr)
     simp only [if_pos hr, if_neg this]
    ·simp only [if_neg hr, Option.map_map]
     simpa [Function.comp_def] using ih hl
  ·have hq : ∀ q, y.key ≠ .chan q := fun q e => hc ⟨q, e⟩
   rw [lookCh_not l hq] at h
   have hl : lookCh l r = none := by
    cases hl : lookCh l r with
    | none => rfl
    | some p => rw [hl] at h; cases h
   rw [lookCh_not _ hq, lookCh_not l hq]
   simpa [Function.comp_def] using ih hl
theorem mget_mput (h : mcm w b = true) : mget (mput w b r v) b r' = if r' = r then some v else mget w b r' := by
 obtain ⟨es, clock, hb, hall, e⟩ := mput_heap h r v
 rw [e]
 unfold mget
 rw [heap_setBlock_same hb, hb]
 unfold putCh
 cases hl : lookCh es.toList r with
 | none => simpa using look_push es.toList r v clock hl r'
 | some p =>
  obtain ⟨i, x⟩ := p
  simpa using look_modify es.toList r v i x hl r'
theorem mcm_mput (h : mcm w b = true) : mcm (mput w b r v) b = true := by
 obtain ⟨es, clock, hb, hall, e⟩ := mput_heap h r v
 rw [e]
 unfold mcm
 rw [heap_setBlock_same hb]
 unfold putCh
 rw [List.all_eq_true] at hall
 cases hl : lookCh es.toList r with
 | none =>
  simp only [List.all_eq_true]
  intro x hx
  simp only [Array.toList_push, List.mem_append, List.mem_singleton] at hx
  rcases hx with hx | rfl
  ·exact hall x hx
  ·rfl
 | some p =>
  obtain ⟨i, x⟩ := p
  simp only [List.all_eq_true]
  intro y hy
  simp only [Array.toList_modify] at hy
  obtain ⟨j, hj, rfl⟩ := List.mem_iff_getElem.1 hy
  rw [List.getElem_modify]
  split
  ·rfl
  ·exact hall _ (List.getElem_mem _)
theorem mcm_mput_other (h : b' ≠ b) : mcm (mput w b r v) b' = mcm w b' := mcm_of_block (mput_other h)
theorem Blk.mput {g : Nat} {t : TypeId} {cs : Array Value} (h : Blk w g t cs) : Blk (mput w b r v) g t cs := by
 by_cases hg : g = b
 ·subst hg
  unfold Proofs.Ythmgpkcijolljaa.mput
  unfold Blk at h
  rw [h]
  exact h
 ·exact (mput_other hg).trans h
end
section
variable {w : World} {b b' : Nat} {r r' : Option Nat} {v : Value}
@[go_sem] theorem mcm_alloc_cells (c : Array Value) (e : TypeId) (f : Nat × Nat) : mcm (w.alloc (.cells c e f)) b = mcm w b := by
 unfold mcm
 rw [heap_alloc_any]
 by_cases hb : b = w.heap.size
 ·rw [if_pos hb, Array.getElem?_eq_none (by omega)]
 ·rw [if_neg hb]
@[go_sem] theorem mget_alloc_cells (c : Array Value) (e : TypeId) (f : Nat × Nat) : mget (w.alloc (.cells c e f)) b r = mget w b r := by
 unfold mget
 rw [heap_alloc_any]
 by_cases hb : b = w.heap.size
 ·rw [if_pos hb, Array.getElem?_eq_none (by omega)]
 ·rw [if_neg hb]
@[go_sem] theorem mcm_alloc_chan (n : Nat) (buf : Array Value) (cl : Bool) (x y : Nat) (tm : Bool) : mcm (w.alloc (.chan n buf cl x y tm)) b = mcm w b := by
 unfold mcm
 rw [heap_alloc_any]
 by_cases hb : b = w.heap.size
 ·rw [if_pos hb, Array.getElem?_eq_none (by omega)]
 ·rw [if_neg hb]
@[go_sem] theorem mget_alloc_chan (n : Nat) (buf : Array Value) (cl : Bool) (x y : Nat) (tm : Bool) : mget (w.alloc (.chan n buf cl x y tm)) b r = mget w b r := by
 unfold mget
 rw [heap_alloc_any]
 by_cases hb : b = w.heap.size
 ·rw [if_pos hb, Array.getElem?_eq_none (by omega)]
 ·rw [if_neg hb]
@[go_sem] theorem mcm_alloc_map (c : Nat) : mcm (w.alloc (.map #[] c)) b = (decide (b = w.heap.size) || mcm w b) := by
 by_cases hb : b = w.heap.size
 ·subst hb
  rw [mcm_new]
  simp
 ·rw [mcm_of_block (w := w) (by rw [heap_alloc_any, if_neg hb])]
  simp [hb]
@[go_sem] theorem mget_alloc_map (c : Nat) : mget (w.alloc (.map #[] c)) b r = mget w b r := by
 unfold mget
 rw [heap_alloc_any]
 by_cases hb : b = w.heap.size
 ·rw [if_pos hb, Array.getElem?_eq_none (by omega)]
  rfl
 ·rw [if_neg hb]
@[go_sem] theorem mcm_mput_any (h : mcm w b' = true) : mcm (mput w b' r v) b = mcm w b := by
 by_cases hb : b = b'
 ·subst hb
  rw [mcm_mput h, h]
 ·exact mcm_mput_other hb
@[go_sem] theorem mput_drew : (mput w b r v).drew = mput w.drew b r v := by
 unfold mput
 show _ = match w.heap[b]? with | some (.map es clock) => setBlock w.drew b (putCh es clock r v) | _ => w.drew
 split <;> rfl
end
section
variable {P : Program} {w : World} {t el : TypeId} {dir : ChanDir}
theorem run_eql_ch (ht : P.underlying t = some (.chan dir el)) (a b : Option Nat) (w : World) : (binOp .eql t (.chan a) (.chan b)).run P w = .ok (.bool (a == b)) w := by
 simp only [binOp]
 simp [run_equal_ch ht]
theorem run_neq_ch (ht : P.underlying t = some (.chan dir el)) (a b : Option Nat) (w : World) : (binOp .neq t (.chan a) (.chan b)).run P w = .ok (.bool (!(a == b))) w := by
 simp only [binOp]
 simp [run_equal_ch ht]
end
end Go.Proofs.Ythmgpkcijolljaa
