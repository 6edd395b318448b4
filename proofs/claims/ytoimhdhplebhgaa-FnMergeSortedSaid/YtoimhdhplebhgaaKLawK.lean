/-
  What a law's walk beside leavers carries from step to step.
-/
import Derived.Test.YtoimhdhplebhgaaKAround
import Derived.Test.YtoimhdhplebhgaaKSpecA
import Derived.Test.YtoimhdhplebhgaaKSz
import Derived.Test.YtoimhdhplebhgaaKEnd
namespace Go.Proofs.Ytoimhdhplebhgaa
open Go.Conc Go.RowKit Go.Conc.Lib Go.ConcR.Gen
set_option linter.unusedSimpArgs false
set_option linter.unusedVariables false

/-- Of what was there nothing has turned. -/
structure Ext (v w : World) : Prop where
  size : v.heap.size ≤ w.heap.size
  blk : ∀ b, b < v.heap.size → w.heap[b]? = v.heap[b]?
theorem Ext.refl (v : World) : Ext v v := ⟨Nat.le_refl _, fun _ _ => rfl⟩
theorem Ext.trans {u v w : World} (h : Ext u v) (k : Ext v w) : Ext u w := ⟨Nat.le_trans h.size k.size, fun b hb => (k.blk b (Nat.lt_of_lt_of_le hb h.size)).trans (h.blk b hb)⟩
theorem ext_of {v w : World} {t : Nat → Question → Nat} (h : Below v.heap.size (v.re t 0) w) : Ext v w := ⟨h.size, h.block⟩
theorem ext_of' {v w : World} (h : Below v.heap.size v w) : Ext v w := ⟨h.size, h.block⟩
theorem Ext.cell {v w : World} (h : Ext v w) {p : Addr} (hp : p.block < v.heap.size) : w.cell? p = v.cell? p := World.cell?_of_block (w := v) (h.blk p.block hp)
theorem Reads.ext {v w : World} {sz n : Nat} {A : Option Addr} {xs : List Value} (h : Reads v v.heap.size sz A n xs) (e : Ext v w) : Reads w w.heap.size sz A n xs := (h.keep fun p hp => e.cell hp).more e.size
theorem RI.ext {v w : World} {A : Option Addr} {l : List Int} (h : RI v v.heap.size A l) (e : Ext v w) : RI w w.heap.size A l := Reads.ext h e
theorem rli_ext {v w : World} {A : Option Addr} {R : List IRow} (h : RLI v v.heap.size A R) (e : Ext v w) : RLI w w.heap.size A R :=
  ⟨Reads.ext h.hdr e, fun r hr => ⟨(h.row r hr).1, (h.row r hr).2.1, Reads.ext (h.row r hr).2.2 e⟩⟩
theorem own_ext {v w : World} {base n sz : Nat} {e : TypeId} {x : Value} {xs : List Value} (h : v.ownsRow base e sz x n xs) (k : Ext v w) : w.ownsRow base e sz x n xs := own_blocks h fun b hb => k.blk b (h.lt b hb).2
theorem oii_ext {v w : World} {base : Nat} {x : Value} {V : List Value} {M : List (List Int)} (h : OII v base x V M) (k : Ext v w) : OII w base x V M := h.blocks k.blk
theorem oii_re {v : World} {base : Nat} {x : Value} {V : List Value} {M : List (List Int)} (h : OII v base x V M) (t : Nat → Question → Nat) : OII (v.re t 0) base x V M := h.blocks fun _ _ => rfl
theorem rli_re {v : World} {A : Option Addr} {R : List IRow} (h : RLI v v.heap.size A R) (t : Nat → Question → Nat) : RLI (v.re t 0) (v.re t 0).heap.size A R := ⟨h.hdr, h.row⟩
theorem KA.drewN {K : Goroutine → World → Prop} {g : Goroutine} {v : World} {t : Nat → Question → Nat} {d : Nat} (h : KA K g v) (n : Nat) : KA K g ((v.re t d).drewN n) := KA.re (t := t) (d := d + n) h
theorem shutAll_reads {W : World} {sz n : Nat} {A : Option Addr} {xs : List Value} (h : Reads W W.heap.size sz A n xs) : Reads W.shutAll W.shutAll.heap.size sz A n xs := by
  rw [shutAll_size]
  exact ⟨h.1, fun hn => let ⟨ad, e, hb, hc⟩ := h.2 hn; ⟨ad, e, hb, fun j u hu => shutAll_cell (hc j u hu)⟩⟩
theorem shutAll_rli {W : World} {A : Option Addr} {R : List IRow} (h : RLI W W.heap.size A R) : RLI W.shutAll W.shutAll.heap.size A R :=
  ⟨shutAll_reads h.hdr, fun r hr => ⟨(h.row r hr).1, (h.row r hr).2.1, shutAll_reads (h.row r hr).2.2⟩⟩
theorem rows_le {M : List (List Int)} (h : szAll M ≤ 1048576) : M.length ≤ 1048576 ∧ (M.map List.length).sum ≤ 1048576 ∧ ∀ l ∈ M, l.length ≤ 1048576 := by
  unfold szAll at h
  exact ⟨by omega, by omega, fun l hl => by have := sum_mem_le hl; omega⟩
theorem ext_mark {v u w : World} {B : Nat} (h : Ext v u) (hb : Below B u w) (hB : v.heap.size ≤ B) : Ext v w := ⟨Nat.le_trans h.size hb.size, fun b hb' => (hb.block b (by omega)).trans (h.blk b hb')⟩
theorem ext_grown {v u w : World} {row : Option Nat} (h : Ext v u) (hg : u.grownBy w row) (hr : ∀ b, row = some b → v.heap.size ≤ b) : Ext v w :=
  ⟨Nat.le_trans h.size hg.size, fun b hb => (hg.block b (Nat.lt_of_lt_of_le hb h.size) (fun e => by have := hr b e.symm; omega)).trans (h.blk b hb)⟩
theorem own_of_kept {V : List Value} {w w' : World} {base n sz : Nat} {e : TypeId} {x : Value} {xs : List Value} (h : w.ownsRow base e sz x n xs) (k : KeptRows V w w') (hn : ∀ b, x.ownBlock = some b → ∀ u ∈ V, u.ownBlock ≠ some b) : w'.ownsRow base e sz x n xs :=
  own_blocks h fun b hb => k.2 b (h.lt b hb).2 (hn b hb)
theorem own_of_grown {w w' : World} {base n sz : Nat} {e : TypeId} {x : Value} {xs : List Value} {row : Option Nat} (h : w.ownsRow base e sz x n xs) (hg : w.grownBy w' row) (hne : ∀ b, x.ownBlock = some b → row ≠ some b) : w'.ownsRow base e sz x n xs :=
  own_blocks h fun b hb => hg.block b (h.lt b hb).2 (fun e => hne b hb e.symm)
/-- What a law answers. -/
abbrev KL : Goroutine → World → Prop := Wins Try.prog (fun x _ => x = .bool true)
theorem kl_ok : KOk Try.prog true false false (fun _ => True) KL := wins_ok
end Go.Proofs.Ytoimhdhplebhgaa
