/-
  The source from which arguments are drawn: what pick and num return.
-/
import Derived.Test.YthdnhaaojicmbaaDoorOwn
import Derived.Laws.BitsAllLaws
import Derived.Laws.BitsLemmas
namespace Go.Proofs.YthdnhaaojicmbaaDoor
open Go.RowKit
set_option linter.unusedSimpArgs false
set_option linter.unusedVariables false

theorem only_drewN_ {a w : World} {row : Option Nat} (h : a.grownBy w row) (n : Nat) : a.grownBy (w.drewN n) row := ⟨h.os, h.tape, h.output, h.size, h.block⟩
theorem ofInt_i64 (a : Nat) (ha : a < 9223372036854775808) : (BitVec.ofInt 64 (a : Int)).toNat = a := by
  rw [BitVec.ofInt_natCast, BitVec.toNat_ofNat]; exact Nat.mod_eq_of_lt (by omega)
theorem i64_xor_nat (a b : Nat) (ha : a < 9223372036854775808) (hb : b < 9223372036854775808) : bits .xor .i64 (a : Int) (b : Int) = ((a ^^^ b : Nat) : Int) := by
  have hx : a ^^^ b < 2 ^ 63 := Nat.xor_lt_two_pow (by omega) (by omega)
  show IntKind.i64.wrap ((BitVec.ofInt 64 (a : Int) ^^^ BitVec.ofInt 64 (b : Int)).toNat : Int) = _
  rw [BitVec.toNat_xor, ofInt_i64 a ha, ofInt_i64 b hb, IntKind.wrap_i64]
  omega

/-- a slice of bytes that reads as l -/
def RB (w : World) (B : Nat) (A : Option Addr) (l : List Int) : Prop := Reads w B 1 A l.length (l.map (Value.int .u8)) ∧ ∀ x ∈ l, 0 ≤ x ∧ x ≤ 255
section
variable {w w' : World} {B : Nat} {A : Option Addr} {l : List Int}
theorem RB.at_ (h : RB w B A l) {k : Nat} (hk : k < l.length) : ∃ ad, A = some ad ∧ ad.block < B ∧ w.cell? (ad.add k) = some (.int .u8 l[k]) := by
  obtain ⟨ad, u, e, hb, hx, hc⟩ := Reads.at_ h.1 hk
  refine ⟨ad, e, hb, ?_⟩
  rw [hc, ← hx]
  simp [List.getElem?_eq_getElem hk]
theorem RB.keep (h : RB w B A l) (hk : ∀ p : Addr, p.block < B → w'.cell? p = w.cell? p) : RB w' B A l := ⟨Reads.keep h.1 hk, h.2⟩
end
/-- a reader at the block R: its bytes (below B), and how many it has given -/
structure Rdr (w : World) (R B : Nat) (A : Option Addr) (c : Nat) (l : List Int) (p : Int) : Prop where
  blk : Blk w R 57 #[.slice A l.length c, .int .i64 p]
  rb : RB w B A l
  hB : B ≤ R
  hl : l.length ≤ 2000
  hp0 : 0 ≤ p
  hp : p ≤ 20000
/-- what pick leaves -/
def Picked (w : World) (R B : Nat) (A : Option Addr) (c : Nat) (l : List Int) (p n : Int) (e : Ending) (w' : World) : Prop :=
  ∃ x : Int, 0 ≤ x ∧ x < n ∧ e = .returned (.int .i64 x) ∧ Rdr w' R B A c l (p + 1) ∧ w.grownBy w' (some R)
theorem Rdr.next {w : World} {R B c : Nat} {A : Option Addr} {l : List Int} {p : Int} (h : Rdr w R B A c l p) (hp : p < 20000) (n : Nat) : Rdr ((w.setCell ⟨R, 1, none⟩ (.int .i64 (p + 1))).drewN n) R B A c l (p + 1) := by
  refine ⟨?_, h.rb.keep fun q hq => World.cell?_setCell_other w ⟨R, 1, none⟩ q _ (fun e => by subst e; have := h.hB; have hq' : R < B := hq; omega), h.hB, h.hl, by have := h.hp0; omega, by omega⟩
  have := (h.blk.set_ 1 (.int .i64 (p + 1))).drewN n
  simpa using this
set_option maxRecDepth 100000 in
set_option maxHeartbeats 4000000 in
theorem pick_any (R B c : Nat) (A : Option Addr) (l : List Int) (p n : Int) (w : World) (h : Rdr w R B A c l p) (hp : p < 20000) (n1 : 1 ≤ n) (n2 : n ≤ 1000) :
    Calls Tryd.prog 21 #[.pointer (some ⟨R, 0, none⟩), .int .i64 n] w (Picked w R B A c l p n) := by
  have c0 : w.cell? ⟨R, 0, none⟩ = some (.slice A l.length c) := (h.blk.cell 0).trans rfl
  have c1 : w.cell? ⟨R, 1, none⟩ = some (.int .i64 p) := (h.blk.cell 1).trans rfl
  have f1 := h.blk.frozen 1
  have p0 := h.hp0
  have hl := h.hl
  have hz : (n == 0) = false := by simp; omega
  have hg : w.grownBy (w.setCell ⟨R, 1, none⟩ (.int .i64 (p + 1))) (some R) := only_setCell_ (World.grownBy.refl _ _) 1 _
  by_cases h0 : l.length = 0
  · have e0 : ((l.length : Int) == 0) = true := by simp [h0]
    have Hp := Lib.hid (h.next hp 0)
    clear h h0
    go_enter Tryd.func21, Tryd.ntmps21
    go_wp2
    go_ret
    exact ⟨0, by omega, by omega, rfl, Hp.out, hg⟩
  · have e0 : ((l.length : Int) == 0) = false := by rw [beq_eq_false_iff_ne]; omega
    obtain ⟨k, rfl⟩ := Int.eq_ofNat_of_zero_le p0
    by_cases hk : k < l.length
    · obtain ⟨ad, rfl, hb, hc⟩ := h.rb.at_ hk
      have hne : ad.add k ≠ ⟨R, 1, none⟩ := fun e => by
        have e1 := congrArg Addr.block e
        rw [block_of_add] at e1
        have e2 := h.hB
        have e3 : ad.block = R := e1
        omega
      have hc' : (w.setCell ⟨R, 1, none⟩ (.int .i64 ((k : Int) + 1))).cell? (ad.add k) = some (.int .u8 l[k]) := (World.cell?_setCell_other w ⟨R, 1, none⟩ (ad.add k) _ (fun e => hne e.symm)).trans hc
      have hx := h.rb.2 l[k] (List.getElem_mem _)
      obtain ⟨b, hbq⟩ : ∃ b, l[k] = b := ⟨_, rfl⟩
      rw [hbq] at hc hc' hx
      obtain ⟨b0, b1⟩ := hx
      have Hp := Lib.hid (h.next hp 0)
      clear h hbq
      go_enter Tryd.func21, Tryd.ntmps21
      go_wp2
      go_ret
      exact ⟨b % n, Int.emod_nonneg _ (by omega), Int.emod_lt_of_pos _ (by omega), rfl, Hp.out, hg⟩
    · have hm : 0 < l.length := by omega
      obtain ⟨q1, hq1, lt1⟩ : ∃ q : Nat, (k : Int) % (l.length : Int) = (q : Int) ∧ q < l.length := ⟨k % l.length, by omega, Nat.mod_lt _ hm⟩
      obtain ⟨q2, hq2, lt2⟩ : ∃ q : Nat, ((k : Int) * 7 + 3) % (l.length : Int) = (q : Int) ∧ q < l.length := ⟨(k * 7 + 3) % l.length, by rw [Int.natCast_emod]; simp, Nat.mod_lt _ hm⟩
      obtain ⟨d, hd, ltd⟩ : ∃ q : Nat, (k : Int) / (l.length : Int) = (q : Int) ∧ q ≤ 20000 := ⟨k / l.length, by omega, Nat.le_trans (Nat.div_le_self _ _) (by omega)⟩
      obtain ⟨ad, rfl, hb, hc1⟩ := h.rb.at_ lt1
      obtain ⟨ad', e', _, hc2⟩ := h.rb.at_ lt2
      obtain rfl : ad = ad' := by injection e'
      clear e'
      have hne : ∀ j, ad.add j ≠ ⟨R, 1, none⟩ := fun j e => by
        have e1 := congrArg Addr.block e
        rw [block_of_add] at e1
        have e2 := h.hB
        have e3 : ad.block = R := e1
        omega
      have hc1' : (w.setCell ⟨R, 1, none⟩ (.int .i64 ((k : Int) + 1))).cell? (ad.add q1) = some (.int .u8 l[q1]) := (World.cell?_setCell_other w ⟨R, 1, none⟩ (ad.add q1) _ (fun e => hne q1 e.symm)).trans hc1
      have hc2' : (w.setCell ⟨R, 1, none⟩ (.int .i64 ((k : Int) + 1))).cell? (ad.add q2) = some (.int .u8 l[q2]) := (World.cell?_setCell_other w ⟨R, 1, none⟩ (ad.add q2) _ (fun e => hne q2 e.symm)).trans hc2
      obtain ⟨a, ha⟩ : ∃ a, l[q1] = a := ⟨_, rfl⟩
      obtain ⟨b, hbq⟩ : ∃ b, l[q2] = b := ⟨_, rfl⟩
      have hxa := h.rb.2 l[q1] (List.getElem_mem _)
      have hxb := h.rb.2 l[q2] (List.getElem_mem _)
      rw [ha] at hc1' hxa
      rw [hbq] at hc2' hxb
      obtain ⟨a0, a1⟩ := hxa
      obtain ⟨b0, b1⟩ := hxb
      have Hp := Lib.hid (h.next hp)
      clear h ha hbq hc1 hc2 hne
      go_enter Tryd.func21, Tryd.ntmps21
      go_wp2
      go_quiet (fail)
      obtain ⟨X, hX, ltX⟩ : ∃ X : Nat, a * 131 + b * 1117 + (k : Int) * 29 + (d : Int) * 53 = (X : Int) ∧ X ≤ 3000000 := ⟨(a * 131 + b * 1117 + (k : Int) * 29 + (d : Int) * 53).toNat, by omega, by omega⟩
      rw [hX]
      obtain ⟨Y, hY⟩ : ∃ Y : Nat, bits .xor .i64 (X : Int) ((X : Int) / 64) = (Y : Int) := by
        have e64 : (X : Int) / 64 = ((X / 64 : Nat) : Int) := by omega
        exact ⟨X ^^^ (X / 64), by rw [e64]; exact i64_xor_nat X (X / 64) (by omega) (by omega)⟩
      clear hX hq1 hq2 hd
      go_wp2
      go_ret
      exact ⟨(Y : Int) % n, Int.emod_nonneg _ (by omega), Int.emod_lt_of_pos _ (by omega), rfl, Hp.out _, only_drewN_ hg _⟩
end Go.Proofs.YthdnhaaojicmbaaDoor
