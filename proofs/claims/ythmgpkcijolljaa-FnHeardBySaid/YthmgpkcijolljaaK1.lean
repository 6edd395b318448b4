/-
  The source from which arguments are drawn: what pick and num return.
-/
import Derived.Test.YthmgpkcijolljaaH1
import Derived.Test.YthmgpkcijolljaaKS
import Derived.Laws.BitsAllLaws
import Derived.Laws.BitsLemmas
import Derived.Deep.DeepCutAuto
import Derived.Deep.CutBlock
import Derived.Lib.MinMax
namespace Go.Proofs.Ythmgpkcijolljaa
open Go.RowKit
set_option linter.unusedSimpArgs false
set_option linter.unusedVariables false
theorem only_drewN_ {a w : World} {row : Option Nat} (h : a.grownBy w row) (n : Nat) : a.grownBy (w.drewN n) row := ⟨h.os, h.tape, h.output, h.size, h.block⟩
theorem ofInt_i64 (a : Nat) (ha : a < 9223372036854775808) : (BitVec.ofInt 64 (a : Int)).toNat = a := by
 rw [BitVec.ofInt_natCast, BitVec.toNat_ofNat]; exact Nat.mod_eq_of_lt (by omega)
theorem i64_xor_nat (a b : Nat) (ha : a < 9223372036854775808) (hb : b < 9223372036854775808) : bits .xor .i64 (a : Int) (b : Int) = ((a ^^^ b : Nat) : Int) := by
 have hx : a ^^^ b < 2 ^ 63 := Nat.xor_lt_two_pow (by omega) (by omega)
 show IntKind.i64.wrap ((BitVec.ofInt 64 (a : Int) ^^^ BitVec.ofInt 64 (b : Int)).toNat : Int) = _
 rw [BitVec.toNat_xor, ofInt_i64 a ha, ofInt_i64 b hb, IntKind.wrap_i64]
 omega
/-- a slice of bytes that reads as l -/
def RB (w : World) (B : Nat) (A : Option Addr) (l : List Int) : Prop := Reads w B 1 A l.length (l.map (Value.int .u8)) ∧ ∀ x ∈ l, 0 ≤ x ∧ x ≤ 255
section
variable {w w' : World} {B : Nat} {A : Option Addr} {l : List Int}
theorem RB.at_ (h : RB w B A l) {k : Nat} (hk : k < l.length) : ∃ ad, A = some ad ∧ ad.block < B ∧ w.cell? (ad.add k) = some (.int .u8 l[k]) := by
 obtain ⟨ad, u, e, hb, hx, hc⟩ := Reads.at_ h.1 hk
 refine ⟨ad, e, hb, ?_⟩
 rw [hc, ← hx]
 simp [List.getElem?_eq_getElem hk]
theorem RB.keep (h : RB w B A l) (hk : ∀ p : Addr, p.block < B → w'.cell? p = w.cell? p) : RB w' B A l := ⟨Reads.keep h.1 hk, h.2⟩
end
/-- a reader at the block R: its bytes (below B), and how many it has given -/
structure Rdr (w : World) (R B : Nat) (A : Option Addr) (c : Nat) (l : List Int) (p : Int) : Prop where
 blk : Blk w R 89 #[.slice A l.length c, .int .i64 p]
 rb : RB w B A l
 hB : B ≤ R
 hl : l.length ≤ 2000
 hp0 : 0 ≤ p
 hp : p ≤ 20000
/-- what pick leaves -/
def Picked (w : World) (R B : Nat) (A : Option Addr) (c : Nat) (l : List Int) (p n : Int) (e : Ending) (w' : World) : Prop :=
 ∃ x : Int, 0 ≤ x ∧ x < n ∧ e = .returned (.int .i64 x) ∧ Rdr w' R B A c l (p + 1) ∧ w.grownBy w' (some R)
theorem Rdr.next {w : World} {R B c : Nat} {A : Option Addr} {l : List Int} {p : Int} (h : Rdr w R B A c l p) (hp : p < 20000) (n : Nat) : Rdr ((w.setCell ⟨R, 1, none⟩ (.int .i64 (p + 1))).drewN n) R B A c l (p + 1) := by
 refine ⟨?_, h.rb.keep fun q hq => World.cell?_setCell_other w ⟨R, 1, none⟩ q _ (fun e => by subst e; have := h.hB; have hq' : R < B := hq; omega), h.hB, h.hl, by have := h.hp0; omega, by omega⟩
 have := (h.blk.set_ 1 (.int .i64 (p + 1))).drewN n
 simpa using this
set_option maxRecDepth 100000 in
set_option maxHeartbeats 4000000 in
theorem pick_any (R B c : Nat) (A : Option Addr) (l : List Int) (p n : Int) (w : World) (h : Rdr w R B A c l p) (hp : p < 20000) (n1 : 1 ≤ n) (n2 : n ≤ 1000) :
  Calls Try.prog 55 #[.pointer (some ⟨R, 0, none⟩), .int .i64 n] w (Picked w R B A c l p n) := by
 have c0 : w.cell? ⟨R, 0, none⟩ = some (.slice A l.length c) := (h.blk.cell 0).trans rfl
 have c1 : w.cell? ⟨R, 1, none⟩ = some (.int .i64 p) := (h.blk.cell 1).trans rfl
 have f1 := h.blk.frozen 1
 have p0 := h.hp0
 have hl := h.hl
 have hz : (n == 0) = false := by simp; omega
 have hg : w.grownBy (w.setCell ⟨R, 1, none⟩ (.int .i64 (p + 1))) (some R) := only_setCell_ (World.grownBy.refl _ _) 1 _
 by_cases h0 : l.length = 0
 ·have e0 : ((l.length : Int) == 0) = true := by simp [h0]
  have Hp := Lib.hid (h.next hp 0)
  clear h h0
  go_enter Try.func55, Try.ntmps55
  go_wp2
  go_ret
  exact ⟨0, by omega, by omega, rfl, Hp.out, hg⟩
 ·have e0 : ((l.length : Int) == 0) = false := by rw [beq_eq_false_iff_ne]; omega
  obtain ⟨k, rfl⟩ := Int.eq_ofNat_of_zero_le p0
  by_cases hk : k < l.length
  ·obtain ⟨ad, rfl, hb, hc⟩ := h.rb.at_ hk
   have hne : ad.add k ≠ ⟨R, 1, none⟩ := fun e => by
    have e1 := congrArg Addr.block e
    rw [block_of_add] at e1
    have e2 := h.hB
    have e3 : ad.block = R := e1
    omega
   have hc' : (w.setCell ⟨R, 1, none⟩ (.int .i64 ((k : Int) + 1))).cell? (ad.add k) = some (.int .u8 l[k]) := (World.cell?_setCell_other w ⟨R, 1, none⟩ (ad.add k) _ (fun e => hne e.symm)).trans hc
   have hx := h.rb.2 l[k] (List.getElem_mem _)
   obtain ⟨b, hbq⟩ : ∃ b, l[k] = b := ⟨_, rfl⟩
   rw [hbq] at hc hc' hx
   obtain ⟨b0, b1⟩ := hx
   have Hp := Lib.hid (h.next hp 0)
   clear h hbq
   go_enter Try.func55, Try.ntmps55
   go_wp2
   go_ret
   exact ⟨b % n, Int.emod_nonneg _ (by omega), Int.emod_lt_of_pos _ (by omega), rfl, Hp.out, hg⟩
  ·have hm : 0 < l.length := by omega
   obtain ⟨q1, hq1, lt1⟩ : ∃ q : Nat, (k : Int) % (l.length : Int) = (q : Int) ∧ q < l.length := ⟨k % l.length, by omega, Nat.mod_lt _ hm⟩
   obtain ⟨q2, hq2, lt2⟩ : ∃ q : Nat, ((k : Int) * 7 + 3) % (l.length : Int) = (q : Int) ∧ q < l.length := ⟨(k * 7 + 3) % l.length, by rw [Int.natCast_emod]; simp, Nat.mod_lt _ hm⟩
   obtain ⟨d, hd, ltd⟩ : ∃ q : Nat, (k : Int) / (l.length : Int) = (q : Int) ∧ q ≤ 20000 := ⟨k / l.length, by omega, Nat.le_trans (Nat.div_le_self _ _) (by omega)⟩
   obtain ⟨ad, rfl, hb, hc1⟩ := h.rb.at_ lt1
   obtain ⟨ad', e', _, hc2⟩ := h.rb.at_ lt2
   obtain rfl : ad = ad' := by injection e'
   clear e'
   have hne : ∀ j, ad.add j ≠ ⟨R, 1, none⟩ := fun j e => by
    have e1 := congrArg Addr.block e
    rw [block_of_add] at e1
    have e2 := h.hB
    have e3 : ad.block = R := e1
    omega
   have hc1' : (w.setCell ⟨R, 1, none⟩ (.int .i64 ((k : Int) + 1))).cell? (ad.add q1) = some (.int .u8 l[q1]) := (World.cell?_setCell_other w ⟨R, 1, none⟩ (ad.add q1) _ (fun e => hne q1 e.symm)).trans hc1
   have hc2' : (w.setCell ⟨R, 1, none⟩ (.int .i64 ((k : Int) + 1))).cell? (ad.add q2) = some (.int .u8 l[q2]) := (World.cell?_setCell_other w ⟨R, 1, none⟩ (ad.add q2) _ (fun e => hne q2 e.symm)).trans hc2
   obtain ⟨a, ha⟩ : ∃ a, l[q1] = a := ⟨_, rfl⟩
   obtain ⟨b, hbq⟩ : ∃ b, l[q2] = b := ⟨_, rfl⟩
   have hxa := h.rb.2 l[q1] (List.getElem_mem _)
   have hxb := h.rb.2 l[q2] (List.getElem_mem _)
   rw [ha] at hc1' hxa
   rw [hbq] at hc2' hxb
   obtain ⟨a0, a1⟩ := hxa
   obtain ⟨b0, b1⟩ := hxb
   have Hp := Lib.hid (h.next hp)
   clear h ha hbq hc1 hc2 hne
   go_enter Try.func55, Try.ntmps55
   go_wp2
   go_quiet (fail)
   obtain ⟨X, hX, ltX⟩ : ∃ X : Nat, a * 131 + b * 1117 + (k : Int) * 29 + (d : Int) * 53 = (X : Int) ∧ X ≤ 3000000 := ⟨(a * 131 + b * 1117 + (k : Int) * 29 + (d : Int) * 53).toNat, by omega, by omega⟩
   rw [hX]
   obtain ⟨Y, hY⟩ : ∃ Y : Nat, bits .xor .i64 (X : Int) ((X : Int) / 64) = (Y : Int) := by
    have e64 : (X : Int) / 64 = ((X / 64 : Nat) : Int) := by omega
    exact ⟨X ^^^ (X / 64), by rw [e64]; exact i64_xor_nat X (X / 64) (by omega) (by omega)⟩
   clear hX hq1 hq2 hd
   go_wp2
   go_ret
   exact ⟨(Y : Int) % n, Int.emod_nonneg _ (by omega), Int.emod_lt_of_pos _ (by omega), rfl, Hp.out _, only_drewN_ hg _⟩
end Go.Proofs.Ythmgpkcijolljaa
/-
  What the drawing of fields returns.
-/
namespace Go.Proofs.Ythmgpkcijolljaa
open Go.RowKit
set_option linter.unusedSimpArgs false
set_option linter.unusedVariables false
theorem Rdr.grown {w w' : World} {R B c : Nat} {A : Option Addr} {l : List Int} {p : Int} {row : Option Nat} (h : Rdr w R B A c l p) (hg : w.grownBy w' row) (hr : ∀ k, row = some k → R < k) : Rdr w' R B A c l p := by
 have hlt := h.blk.lt
 refine ⟨h.blk.grown hg (fun e => by have := hr _ e.symm; omega), h.rb.keep fun q hq => World.cell?_of_block (hg.block q.block (by have := h.hB; omega) (fun e => by have := hr _ e.symm; have := h.hB; omega)), h.hB, h.hl, h.hp0, h.hp⟩
theorem Rdr.below {w w' : World} {R B c : Nat} {A : Option Addr} {l : List Int} {p : Int} (h : Rdr w R B A c l p) (hb : Below w.heap.size w w') : Rdr w' R B A c l p :=
 h.grown (row := none) ⟨hb.os, hb.tape, hb.output, hb.size, fun k hk _ => hb.block k hk⟩ (fun k e => by cases e)
theorem Rdr.alloc {w : World} {R B c : Nat} {A : Option Addr} {l : List Int} {p : Int} (h : Rdr w R B A c l p) (o : Obj) : Rdr (w.alloc o) R B A c l p := h.below ((Below.refl _ _).alloc (Nat.le_refl _) o)
theorem grownBy_trans {a b c : World} {row : Option Nat} (h : a.grownBy b row) (k : b.grownBy c row) : a.grownBy c row :=
 ⟨k.os.trans h.os, k.tape.trans h.tape, k.output.trans h.output, Nat.le_trans h.size k.size, fun i hi hne => (k.block i (Nat.lt_of_lt_of_le hi h.size) hne).trans (h.block i hi hne)⟩
/-- a row that is new in b may be written, too -/
theorem grownBy_new {a b c : World} {row row' : Option Nat} (h : a.grownBy b row) (k : b.grownBy c row') (hn : ∀ g, row' = some g → a.heap.size ≤ g) : a.grownBy c row :=
 ⟨k.os.trans h.os, k.tape.trans h.tape, k.output.trans h.output, Nat.le_trans h.size k.size, fun i hi hne => (k.block i (Nat.lt_of_lt_of_le hi h.size) (fun e => by have := hn _ e.symm; omega)).trans (h.block i hi hne)⟩
/-- a number that is drawn -/
def Drawn (w : World) (R B : Nat) (A : Option Addr) (c : Nat) (l : List Int) (p : Int) (L : List Int) (e : Ending) (w' : World) : Prop :=
 ∃ x : Int, x ∈ L ∧ e = .returned (.int .i64 x) ∧ Rdr w' R B A c l (p + 1) ∧ w.grownBy w' (some R)
theorem num_any (R B c : Nat) (A : Option Addr) (l : List Int) (p : Int) (A' : Option Addr) (c' : Nat) (L : List Int) (w : World) (h : Rdr w R B A c l p) (hp : p < 20000) (hL : w.ownsRow (R + 1) 3 1 (.slice A' L.length c') L.length (ints L)) (n1 : 1 ≤ L.length) (n2 : L.length ≤ 1000) :
  Calls Try.prog 39 #[.pointer (some ⟨R, 0, none⟩), .slice A' L.length c'] w (Drawn w R B A c l p L) := by
 go_enter Try.func39, Try.ntmps39
 go_wp2_with fail
 refine (pick_any R B c A l p (L.length : Int) w h hp (by omega) (by omega)).mono ?_
 rintro e w1 ⟨x, x0, x1, rfl, h1, hg1⟩
 have hL1 := hL.kept hg1 (.inr (fun e => by have := (hL.lt R e).1; omega))
 obtain ⟨ad, rfl, _, hc⟩ := (RI.of_own hL1).at_ (k := x.toNat) (by omega)
 have hm : L[x.toNat]'(by omega) ∈ L := List.getElem_mem _
 generalize L[x.toNat]'(by omega) = v at hc hm
 go_wp2
 go_ret
 exact ⟨v, hm, rfl, h1, hg1⟩
/-- a list that is written out -/
theorem lit_ints (w : World) (base : Nat) (L : List Int) (hb : base ≤ w.heap.size) (hl : L.length ≤ 1000) : (w.alloc (.cells (ints L).toArray 3)).ownsRow base 3 1 (.slice (some ⟨w.heap.size, 0, none⟩) L.length L.length) L.length (ints L) :=
 ownsRow_blk (Blk.new w _ _) hb (by omega)
end Go.Proofs.Ythmgpkcijolljaa
/-
  What the functions that draw the arguments of laws on fields return: some short field and some numbers.
-/
namespace Go.Proofs.Ythmgpkcijolljaa
open Go.RowKit
set_option linter.unusedSimpArgs false
set_option linter.unusedVariables false
/-- a reader that has been opened -/
def Opened (w : World) (e : Ending) (w' : World) : Prop :=
 ∃ (R : Nat) (A : Option Addr) (c : Nat) (l : List Int), e = .returned (.pointer (some ⟨R, 0, none⟩)) ∧ Rdr w' R w.heap.size A c l 0 ∧ Below w.heap.size w w'
theorem RB.take {w : World} {B : Nat} {A : Option Addr} {l : List Int} (h : RB w B A l) (n : Nat) (hn : n ≤ l.length) : RB w B A (l.take n) := by
 refine ⟨⟨by simp, fun h0 => ?_⟩, fun x hx => h.2 x (List.mem_of_mem_take hx)⟩
 obtain ⟨ad, e, hb, hc⟩ := h.1.2 (by simp at h0; omega)
 refine ⟨ad, e, hb, fun j u hu => hc j u ?_⟩
 rw [List.map_take, List.getElem?_take] at hu
 split at hu
 ·exact hu
 ·cases hu
theorem l11Open_any (A : Option Addr) (c : Nat) (l : List Int) (w : World) (h : RB w w.heap.size A l) (hc : l.length ≤ c) (hm : c ≤ maxLen) (hn : l.length ≤ 1048576) :
  Calls Try.prog 37 #[.slice A l.length c] w (Opened w) := by
 unfold maxLen at hm
 by_cases h2 : l.length ≤ 2000
 ·go_enter Try.func37, Try.ntmps37
  go_wp2
  go_ret
  exact ⟨w.heap.size, A, c, l, rfl, ⟨Blk.new w _ _, ⟨Reads.alloc h.1 (Nat.le_refl _) _, h.2⟩, Nat.le_refl _, h2, Int.le_refl 0, by omega⟩, (Below.refl _ _).alloc (Nat.le_refl _) _⟩
 ·have h3 : 2000 < l.length := by omega
  have hlen : (l.take 2000).length = 2000 := by rw [List.length_take]; omega
  have ht := h.take 2000 (by omega)
  have Ht := Lib.hid ht
  have Hlen := Lib.hid hlen
  clear ht hlen h
  go_enter Try.func37, Try.ntmps37
  go_wp2
  go_ret
  refine ⟨w.heap.size, A, c, l.take 2000, rfl, ⟨?_, ⟨Reads.alloc Ht.out.1 (Nat.le_refl _) _, Ht.out.2⟩, Nat.le_refl _, by rw [Hlen.out]; omega, Int.le_refl 0, by omega⟩, (Below.refl _ _).alloc (Nat.le_refl _) _⟩
  rw [Hlen.out]
  exact Blk.new w _ _
theorem below_of_R {w w1 w2 : World} {R : Nat} (hb : Below w.heap.size w w1) (hg : w1.grownBy w2 (some R)) (hR : w.heap.size ≤ R) : Below w.heap.size w w2 :=
 hb.grown hg hb.size (fun k hk => by injection hk with hk; omega)
end Go.Proofs.Ythmgpkcijolljaa
/-
  What a guest does, drawn.
-/
namespace Go.Proofs.Ythmgpkcijolljaa
open Go.RowKit
set_option linter.unusedSimpArgs false
set_option linter.unusedVariables false
/-- a string that is drawn -/
def DrawnStr (w : World) (R B : Nat) (A : Option Addr) (c : Nat) (l : List Int) (p : Int) (L : List ByteArray) (e : Ending) (w' : World) : Prop :=
 ∃ x : ByteArray, x ∈ L ∧ e = .returned (.string x) ∧ Rdr w' R B A c l (p + 1) ∧ w.grownBy w' (some R)
theorem of_any (R B c : Nat) (A : Option Addr) (l : List Int) (p : Int) (A' : Option Addr) (c' : Nat) (L : List ByteArray) (w : World) (h : Rdr w R B A c l p) (hp : p < 20000) (hL : w.ownsRow (R + 1) 9 1 (.slice A' L.length c') L.length (L.map Value.string)) (n1 : 1 ≤ L.length) (n2 : L.length ≤ 1000) :
  Calls Try.prog 77 #[.pointer (some ⟨R, 0, none⟩), .slice A' L.length c'] w (DrawnStr w R B A c l p L) := by
 go_enter Try.func77, Try.ntmps77
 go_wp2_with fail
 refine (pick_any R B c A l p (L.length : Int) w h hp (by omega) (by omega)).mono ?_
 rintro e w1 ⟨x, x0, x1, rfl, h1, hg1⟩
 have hL1 := hL.kept hg1 (.inr (fun e => by have := (hL.lt R e).1; omega))
 have hr := Reads.of_own hL1
 obtain ⟨ad, u, rfl, _, hx, hc⟩ := hr.at_ (k := x.toNat) (by omega)
 have hlt : x.toNat < L.length := by omega
 have hm : L[x.toNat]'hlt ∈ L := List.getElem_mem _
 have hu : u = .string (L[x.toNat]'hlt) := by
  rw [List.getElem?_map, List.getElem?_eq_getElem hlt] at hx
  exact (Option.some.inj hx).symm
 rw [hu] at hc
 generalize L[x.toNat]'hlt = v at hc hm
 go_wp2
 go_ret
 exact ⟨v, hm, rfl, h1, hg1⟩
/-- a list of strings that is written out -/
theorem lit_strs (w : World) (base : Nat) (L : List ByteArray) (hb : base ≤ w.heap.size) (hl : L.length ≤ 1000) : (w.alloc (.cells (L.map Value.string).toArray 9)).ownsRow base 9 1 (.slice (some ⟨w.heap.size, 0, none⟩) L.length L.length) L.length (L.map Value.string) :=
 ⟨by simp, .inr ⟨_, L.length, _, rfl, hb, heap_alloc_new w _, Nat.le_refl _, by unfold maxLen; omega, by simp, by simpa using List.take_of_length_le (l := L.map Value.string) (i := L.length) (by simp)⟩⟩
/-- what a guest does, in a box of the call's own, and the reader -/
structure SBox (w0 w : World) (R B : Nat) (A : Option Addr) (c : Nat) (l : List Int) (p : Int) (D : Nat) (a : ByteArray) (x y : Int) (p' : Int) : Prop where
 res : Blk w w0.heap.size 41 #[.string ⟨#[]⟩, .int .i64 0, .int .i64 0]
 box : Blk w D 41 #[.string a, .int .i64 x, .int .i64 y]
 hD : w0.heap.size < D
 rdr : Rdr w R B A c l p'
 hp : p' ≤ p
 grown : w0.grownBy w (some R)
 hR : R < w0.heap.size
theorem SBox.set_ {w0 w : World} {R B : Nat} {A : Option Addr} {c : Nat} {l : List Int} {p : Int} {D : Nat} {a : ByteArray} {x y : Int} {p' : Int} (h : SBox w0 w R B A c l p D a x y p') (i : Nat) (v : Value) (a' : ByteArray) (x' y' : Int)
  (e : (#[.string a, .int .i64 x, .int .i64 y] : Array Value).setIfInBounds i v = #[.string a', .int .i64 x', .int .i64 y']) : SBox w0 (w.setCell ⟨D, i, none⟩ v) R B A c l p D a' x' y' p' := by
 have hR := h.hR
 have hD := h.hD
 have hg := grownBy_new (a := w0) (row := some R) (row' := some D) h.grown (only_setCell_ (World.grownBy.refl w _) i v) (fun g hg => by injection hg with hg; omega)
 refine ⟨h.res.far (by show w0.heap.size ≠ D; omega) _, by rw [← e]; exact h.box.set_ i v, h.hD, ?_, h.hp, hg, hR⟩
 exact h.rdr.grown (row := some D) (only_setCell_ (World.grownBy.refl w _) i v) (fun k hk => by injection hk with hk; omega)
theorem SBox.picked {w0 w w' : World} {R B : Nat} {A : Option Addr} {c : Nat} {l : List Int} {p : Int} {D : Nat} {a : ByteArray} {x y : Int} {p' p2 : Int} (h : SBox w0 w R B A c l p D a x y p') (hg : w.grownBy w' (some R)) (hr : Rdr w' R B A c l p2) (hp : p2 ≤ p + 1) : SBox w0 w' R B A c l (p + 1) D a x y p2 := by
 have hR := h.hR
 have hD := h.hD
 exact ⟨h.res.grown hg (fun e => by injection e with e; omega), h.box.grown hg (fun e => by injection e with e; omega), h.hD, hr, hp, grownBy_trans h.grown hg, hR⟩
theorem SBox.fin {w0 w : World} {R B : Nat} {A : Option Addr} {c : Nat} {l : List Int} {p : Int} {D : Nat} {a : ByteArray} {x y : Int} {p' : Int} (h : SBox w0 w R B A c l p D a x y p') (v0 v1 v2 : Value) :
  Rdr (((w.setCell ⟨w0.heap.size, 0, none⟩ v0).setCell ⟨w0.heap.size, 1, none⟩ v1).setCell ⟨w0.heap.size, 2, none⟩ v2) R B A c l p' ∧ w0.grownBy (((w.setCell ⟨w0.heap.size, 0, none⟩ v0).setCell ⟨w0.heap.size, 1, none⟩ v1).setCell ⟨w0.heap.size, 2, none⟩ v2) (some R) := by
 have hR := h.hR
 have hg : w.grownBy (((w.setCell ⟨w0.heap.size, 0, none⟩ v0).setCell ⟨w0.heap.size, 1, none⟩ v1).setCell ⟨w0.heap.size, 2, none⟩ v2) (some w0.heap.size) := only_setCell_ (only_setCell_ (only_setCell_ (World.grownBy.refl w _) 0 v0) 1 v1) 2 v2
 exact ⟨h.rdr.grown hg (fun k hk => by injection hk with hk; omega), grownBy_new h.grown hg (fun g hg => by injection hg with hg; omega)⟩
/-- what the drawing leaves -/
def DrawnSaid (w : World) (R B : Nat) (A : Option Addr) (c : Nat) (l : List Int) (p : Int) (e : Ending) (w' : World) : Prop :=
 ∃ (a : ByteArray) (x y p' : Int), e = .returned (.agg #[.string a, .int .i64 x, .int .i64 y]) ∧ Rdr w' R B A c l p' ∧ p' ≤ p + 20 ∧ w.grownBy w' (some R)
def doesL : List ByteArray := [⟨#[106, 111, 105, 110]⟩, ⟨#[106, 111, 105, 110]⟩, ⟨#[115, 97, 121]⟩, ⟨#[115, 97, 121]⟩, ⟨#[115, 97, 121]⟩, ⟨#[108, 101, 97, 118, 101]⟩]
set_option maxHeartbeats 4000000 in
theorem l7One_any (R B c : Nat) (A : Option Addr) (l : List Int) (p g : Int) (w : World) (h : Rdr w R B A c l p) (hp : p < 10000) (hn0 : 0 ≤ g) (hn1 : g ≤ 100) :
  Calls Try.prog 56 #[.pointer (some ⟨R, 0, none⟩), .int .i64 g] w (DrawnSaid w R B A c l p) := by
 have hR := h.blk.lt
 have k1 := Blk.new w 41 #[.string ⟨#[]⟩, .int .i64 0, .int .i64 0]
 have g1 : w.grownBy (w.alloc (.cells #[.string ⟨#[]⟩, .int .i64 0, .int .i64 0] 41)) (some R) := World.grownBy_alloc w _ _
 have hr1 := h.alloc (.cells #[.string ⟨#[]⟩, .int .i64 0, .int .i64 0] 41)
 have hz : (w.alloc (.cells #[.string ⟨#[]⟩, .int .i64 0, .int .i64 0] 41)).heap.size = w.heap.size + 1 := World.size_alloc _ _
 obtain ⟨M, hM, M1, M2⟩ : ∃ M : Int, max g 1 = M ∧ 1 ≤ M ∧ M ≤ 100 := ⟨max g 1, rfl, by omega, by omega⟩
 go_enter Try.func56, Try.ntmps56
 go_wp2_with fail
 generalize w.alloc (.cells #[.string ⟨#[]⟩, .int .i64 0, .int .i64 0] 41) = wA at k1 g1 hr1 hz ⊢
 have hlit := lit_strs wA (R + 1) doesL (by omega) (by decide)
 rw [hz] at hlit
 refine (of_any R B c A l p _ _ doesL _ (hr1.alloc _) (by omega) hlit (by decide) (by decide)).mono ?_
 rintro e w1 ⟨a, ha, rfl, h1, hg1⟩
 have G1 := grownBy_trans (grownBy_trans g1 (World.grownBy_alloc wA _ _)) hg1
 have K1 := (k1.alloc (.cells (doesL.map Value.string).toArray 9)).grown hg1 (fun e => by injection e with e; omega)
 have Z1 : w.heap.size + 1 ≤ w1.heap.size := by have := hg1.size; simp at this; omega
 clear hlit hg1 g1 k1 hr1 ha hz
 go_wp2_with fail
 refine (pick_any R B c A l (p + 1) M w1 h1 (by omega) M1 (by omega)).mono ?_
 rintro e w2 ⟨x, x0, x1, rfl, h2, hg2⟩
 have G2 := grownBy_trans G1 hg2
 have K2 := K1.grown hg2 (fun e => by injection e with e; omega)
 have Z2 : w.heap.size + 1 ≤ w2.heap.size := Nat.le_trans Z1 hg2.size
 clear G1 K1 Z1 hg2 h1
 have hbox : SBox w (w2.alloc (.cells #[.string a, .int .i64 (1 + x), .int .i64 0] 41)) R B A c l (p + 2) w2.heap.size a (1 + x) 0 (p + 1 + 1) :=
  ⟨K2.alloc _, Blk.new w2 _ _, by omega, h2.alloc _, by omega, grownBy_trans G2 (World.grownBy_alloc w2 _ _), hR⟩
 clear K2 h2 G2
 have hw64 : wrap64 (1 + x) = 1 + x := by unfold wrap64; omega
 have d0 : (w2.alloc (.cells #[.string a, .int .i64 (1 + x), .int .i64 0] 41)).cell? ⟨w2.heap.size, 0, none⟩ = some (.string a) := hbox.box.cell 0
 go_upto_if 17 with fail
 clear d0
 go_cut [5] (fun s5 wx => ∃ D a x y p', s5 = .pointer (some ⟨D, 0, none⟩) ∧ SBox w wx R B A c l (p + 4) D a x y p')
 case first =>
  generalize w2.alloc (.cells #[.string a, .int .i64 (1 + x), .int .i64 0] 41) = wD at hbox ⊢
  obtain ⟨D, hD⟩ : ∃ D, w2.heap.size = D := ⟨_, rfl⟩
  rw [hD] at hbox ⊢
  clear hD
  obtain ⟨y, hy⟩ : ∃ y : Int, (0 : Int) = y := ⟨_, rfl⟩
  rw [hy] at hbox
  clear hy
  have d0 : wD.cell? ⟨D, 0, none⟩ = some (.string a) := hbox.box.cell 0
  cases hj : a.toList == [106, 111, 105, 110]
  ·go_wp2_with fail
   go_meet
   exact ⟨D, a, 1 + x, y, p + 1 + 1, rfl, { hbox with hp := by have := hbox.hp; omega }⟩
  ·go_wp2_with fail
   refine (pick_any R B c A l (p + 1 + 1) 2 wD hbox.rdr (by omega) (by omega) (by omega)).mono ?_
   rintro e w3 ⟨v, v0, v1, rfl, h3, hg3⟩
   have hb3 := hbox.picked hg3 h3 (by omega)
   clear hbox h3 hg3 d0
   have hv64 : wrap64 (1 + v) = 1 + v := by unfold wrap64; omega
   have d0 : w3.cell? ⟨D, 0, none⟩ = some (.string a) := hb3.box.cell 0
   have d1 : w3.cell? ⟨D, 1, none⟩ = some (.int .i64 (1 + x)) := hb3.box.cell 1
   have d2 : w3.cell? ⟨D, 2, none⟩ = some (.int .i64 y) := hb3.box.cell 2
   have df := hb3.box.frozen
   have hb4 := hb3.set_ 2 (.int .i64 (1 + v)) a (1 + x) (1 + v) rfl
   go_wp2_with fail
   go_meet
   exact ⟨D, a, 1 + x, 1 + v, _, rfl, { hb4 with hp := by have := hb4.hp; omega }⟩
 case rest =>
  clear hbox Z2 hw64
  obtain ⟨D, a, x, y, p1, rfl, hb⟩ := hcut
  clear x0 x1
  have d0 : wc.cell? ⟨D, 0, none⟩ = some (.string a) := hb.box.cell 0
  go_upto_if 24 with fail
  go_cut [5] (fun s5 wx => ∃ D a x y p', s5 = .pointer (some ⟨D, 0, none⟩) ∧ SBox w wx R B A c l (p + 6) D a x y p')
  case first =>
   cases hput : a.toList == [115, 97, 121]
   ·go_wp2_with fail
    go_meet
    exact ⟨D, a, x, y, p1, rfl, { hb with hp := by have := hb.hp; omega }⟩
   ·clear hput
    go_wp2_with fail
    refine (pick_any R B c A l p1 10 wc hb.rdr (by have := hb.hp; omega) (by omega) (by omega)).mono ?_
    rintro e w3 ⟨v, v0, v1, rfl, h3, hg3⟩
    have hbox3 := hb.picked hg3 h3 (by have := hb.hp; omega)
    have hRw := h3.blk.lt
    clear hb h3 hg3 d0
    go_wp2_with fail
    have hlit := lit_ints w3 (R + 1) [v, 0, 1000] (by omega) (by simp)
    refine (num_any R B c A l (p1 + 1) _ _ [v, 0, 1000] _ (hbox3.rdr.alloc _) (by have := hbox3.hp; omega) hlit (by simp) (by simp)).mono ?_
    rintro e w4 ⟨z, hz, rfl, h4, hg4⟩
    have hb := hbox3.picked (grownBy_trans (World.grownBy_alloc w3 _ _) hg4) h4 (by have := hbox3.hp; omega)
    clear hlit hbox3 h4 hg4 hz
    have d0 : w4.cell? ⟨D, 0, none⟩ = some (.string a) := hb.box.cell 0
    have d1 : w4.cell? ⟨D, 1, none⟩ = some (.int .i64 x) := hb.box.cell 1
    have d2 : w4.cell? ⟨D, 2, none⟩ = some (.int .i64 y) := hb.box.cell 2
    have df := hb.box.frozen
    go_wp2_with fail
    go_meet
    have := hb.set_ 2 (.int .i64 z) a x z rfl
    exact ⟨D, a, x, z, p1 + 1 + 1, rfl, { this with hp := by have := this.hp; omega }⟩
  case rest =>
   clear hb d0
   obtain ⟨D, a, x, y, p1, rfl, hb⟩ := hcut
   go_wp2_with fail
   refine (pick_any R B c A l p1 60 wc hb.rdr (by have := hb.hp; omega) (by omega) (by omega)).mono ?_
   rintro e w3 ⟨v, v0, v1, rfl, h3, hg3⟩
   have hb3 := hb.picked hg3 h3 (by have := hb.hp; omega)
   have hRw := h3.blk.lt
   clear hb h3 hg3
   have d0 : w3.cell? ⟨D, 0, none⟩ = some (.string a) := hb3.box.cell 0
   have d1 : w3.cell? ⟨D, 1, none⟩ = some (.int .i64 x) := hb3.box.cell 1
   have d2 : w3.cell? ⟨D, 2, none⟩ = some (.int .i64 y) := hb3.box.cell 2
   have df := hb3.box.frozen
   by_cases e0 : v = 0
   ·subst e0
    go_wp2_with fail
    have hlit := lit_ints w3 (R + 1) [0, 6, -1] (by omega) (by decide)
    refine (num_any R B c A l (p1 + 1) _ _ [0, 6, -1] _ (hb3.rdr.alloc _) (by have := hb3.hp; omega) hlit (by decide) (by decide)).mono ?_
    rintro e w4 ⟨z, hz, rfl, h4, hg4⟩
    have hb4 := hb3.picked (grownBy_trans (World.grownBy_alloc w3 _ _) hg4) h4 (by have := hb3.hp; omega)
    clear hlit hb3 h4 hg4 hz d0 d1 d2 df
    have d0 : w4.cell? ⟨D, 0, none⟩ = some (.string a) := hb4.box.cell 0
    have d1 : w4.cell? ⟨D, 1, none⟩ = some (.int .i64 x) := hb4.box.cell 1
    have d2 : w4.cell? ⟨D, 2, none⟩ = some (.int .i64 y) := hb4.box.cell 2
    have df := hb4.box.frozen
    have hb5 := hb4.set_ 1 (.int .i64 z) a z y rfl
    have c0 : (w4.setCell ⟨D, 1, none⟩ (.int .i64 z)).cell? ⟨w.heap.size, 0, none⟩ = some (.string ⟨#[]⟩) := hb5.res.cell 0
    have c1 : (w4.setCell ⟨D, 1, none⟩ (.int .i64 z)).cell? ⟨w.heap.size, 1, none⟩ = some (.int .i64 0) := hb5.res.cell 1
    have c2 : (w4.setCell ⟨D, 1, none⟩ (.int .i64 z)).cell? ⟨w.heap.size, 2, none⟩ = some (.int .i64 0) := hb5.res.cell 2
    have cf := hb5.res.frozen
    obtain ⟨F1, F2⟩ := hb5.fin (.string a) (.int .i64 z) (.int .i64 y)
    have hpp := hb5.hp
    go_wp2_with fail
    exact bodyPost_ret (v := .agg #[.string a, .int .i64 z, .int .i64 y]) (by simp [results, Try.results56, go_sem, c0, c1, c2]) rfl ⟨a, z, y, _, rfl, F1, by omega, F2⟩
   have n0 : (v == 0) = false := beq_eq_false_iff_ne.2 e0
   by_cases e1 : v = 1
   ·subst e1
    go_wp2_with fail
    have hlit := lit_ints w3 (R + 1) [-1, 1001, 10] (by omega) (by decide)
    refine (num_any R B c A l (p1 + 1) _ _ [-1, 1001, 10] _ (hb3.rdr.alloc _) (by have := hb3.hp; omega) hlit (by decide) (by decide)).mono ?_
    rintro e w4 ⟨z, hz, rfl, h4, hg4⟩
    have hb4 := hb3.picked (grownBy_trans (World.grownBy_alloc w3 _ _) hg4) h4 (by have := hb3.hp; omega)
    clear hlit hb3 h4 hg4 hz d0 d1 d2 df
    have d0 : w4.cell? ⟨D, 0, none⟩ = some (.string a) := hb4.box.cell 0
    have d1 : w4.cell? ⟨D, 1, none⟩ = some (.int .i64 x) := hb4.box.cell 1
    have d2 : w4.cell? ⟨D, 2, none⟩ = some (.int .i64 y) := hb4.box.cell 2
    have df := hb4.box.frozen
    have hb5 := hb4.set_ 2 (.int .i64 z) a x z rfl
    have c0 : (w4.setCell ⟨D, 2, none⟩ (.int .i64 z)).cell? ⟨w.heap.size, 0, none⟩ = some (.string ⟨#[]⟩) := hb5.res.cell 0
    have c1 : (w4.setCell ⟨D, 2, none⟩ (.int .i64 z)).cell? ⟨w.heap.size, 1, none⟩ = some (.int .i64 0) := hb5.res.cell 1
    have c2 : (w4.setCell ⟨D, 2, none⟩ (.int .i64 z)).cell? ⟨w.heap.size, 2, none⟩ = some (.int .i64 0) := hb5.res.cell 2
    have cf := hb5.res.frozen
    obtain ⟨F1, F2⟩ := hb5.fin (.string a) (.int .i64 x) (.int .i64 z)
    have hpp := hb5.hp
    go_wp2_with fail
    exact bodyPost_ret (v := .agg #[.string a, .int .i64 x, .int .i64 z]) (by simp [results, Try.results56, go_sem, c0, c1, c2]) rfl ⟨a, x, z, _, rfl, F1, by omega, F2⟩
   have n1 : (v == 1) = false := beq_eq_false_iff_ne.2 e1
   by_cases e2 : v = 2
   ·subst e2
    go_wp2_with fail
    have hlit := lit_strs w3 (R + 1) [⟨#[]⟩, ⟨#[104, 101, 97, 114]⟩, ⟨#[74, 79, 73, 78]⟩] (by omega) (by decide)
    refine (of_any R B c A l (p1 + 1) _ _ [⟨#[]⟩, ⟨#[104, 101, 97, 114]⟩, ⟨#[74, 79, 73, 78]⟩] _ (hb3.rdr.alloc _) (by have := hb3.hp; omega) hlit (by decide) (by decide)).mono ?_
    rintro e w4 ⟨z, hz, rfl, h4, hg4⟩
    have hb4 := hb3.picked (grownBy_trans (World.grownBy_alloc w3 _ _) hg4) h4 (by have := hb3.hp; omega)
    clear hlit hb3 h4 hg4 hz d0 d1 d2 df
    have d0 : w4.cell? ⟨D, 0, none⟩ = some (.string a) := hb4.box.cell 0
    have d1 : w4.cell? ⟨D, 1, none⟩ = some (.int .i64 x) := hb4.box.cell 1
    have d2 : w4.cell? ⟨D, 2, none⟩ = some (.int .i64 y) := hb4.box.cell 2
    have df := hb4.box.frozen
    have hb5 := hb4.set_ 0 (.string z) z x y rfl
    have c0 : (w4.setCell ⟨D, 0, none⟩ (.string z)).cell? ⟨w.heap.size, 0, none⟩ = some (.string ⟨#[]⟩) := hb5.res.cell 0
    have c1 : (w4.setCell ⟨D, 0, none⟩ (.string z)).cell? ⟨w.heap.size, 1, none⟩ = some (.int .i64 0) := hb5.res.cell 1
    have c2 : (w4.setCell ⟨D, 0, none⟩ (.string z)).cell? ⟨w.heap.size, 2, none⟩ = some (.int .i64 0) := hb5.res.cell 2
    have cf := hb5.res.frozen
    obtain ⟨F1, F2⟩ := hb5.fin (.string z) (.int .i64 x) (.int .i64 y)
    have hpp := hb5.hp
    go_wp2_with fail
    exact bodyPost_ret (v := .agg #[.string z, .int .i64 x, .int .i64 y]) (by simp [results, Try.results56, go_sem, c0, c1, c2]) rfl ⟨z, x, y, _, rfl, F1, by omega, F2⟩
   have n2 : (v == 2) = false := beq_eq_false_iff_ne.2 e2
   clear e0 e1 e2
   have c0 : w3.cell? ⟨w.heap.size, 0, none⟩ = some (.string ⟨#[]⟩) := hb3.res.cell 0
   have c1 : w3.cell? ⟨w.heap.size, 1, none⟩ = some (.int .i64 0) := hb3.res.cell 1
   have c2 : w3.cell? ⟨w.heap.size, 2, none⟩ = some (.int .i64 0) := hb3.res.cell 2
   have cf := hb3.res.frozen
   obtain ⟨F1, F2⟩ := hb3.fin (.string a) (.int .i64 x) (.int .i64 y)
   have hpp := hb3.hp
   go_wp2_with fail
   exact bodyPost_ret (v := .agg #[.string a, .int .i64 x, .int .i64 y]) (by simp [results, Try.results56, go_sem, c0, c1, c2]) rfl ⟨a, x, y, _, rfl, F1, by omega, F2⟩
end Go.Proofs.Ythmgpkcijolljaa
