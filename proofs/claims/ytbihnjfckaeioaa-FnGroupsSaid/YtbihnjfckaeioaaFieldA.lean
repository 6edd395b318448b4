/-
  What the method field of the patchboard returns; look-ups and comparisons of channels.
-/
import Derived.Test.YtbihnjfckaeioaaBoard
import Derived.Test.YtbihnjfckaeioaaOwn
namespace Go.Proofs.Ytbihnjfckaeioaa
open Go.RowKit
set_option linter.unusedSimpArgs false
set_option linter.unusedVariables false

theorem zero_int (w : World) : (zeroValue 3).run Try.prog w = .ok (.int .i64 0) w := by kernel_rfl
theorem zero_chan (w : World) : (zeroValue 51).run Try.prog w = .ok (.chan none) w := by kernel_rfl
@[go_sem] theorem look_num {w : World} {b : Nat} (h : mcm w b = true) (r : Option Nat) : (Instr.lookup 48 (.map (some b)) (.chan r) false).run Try.prog w = .ok (match mget w b r with | some v => v | none => .int .i64 0) w :=
  run_lookup_ch Try.underlying48 Try.underlying51 (zero_int w) h r false

theorem field_any (S L M G : Nat) (ch : Int → Option Nat) (p : List Int) (w : World) (hb : Board w S L M G ch p) (hn : p.length ≤ 20) :
    Calls Try.prog 33 #[.pointer (some ⟨S, 0, none⟩)] w (NewInts w p) := by
  obtain ⟨i0, hi, hz0, hz1, hz2⟩ := info_parts int_info
  have hmk := fun W => run_makeN (P := Try.prog) 23 3 i0 _ Try.underlying23 hi hz0 hz1 rfl (by omega) p.length p.length (Nat.le_refl _) (by omega) W
  clear hi hz0 hz1 hz2
  have hrep := Lib.hid (fillTo_zero p)
  have c2 := hb.s2
  have sl := hb.hS.lt
  go_enter Try.func33, Try.ntmps33
  go_wp2
  go_loopw [17, 4, 5] (fun i _ _ wr => ∃ k : Nat, k ≤ p.length ∧ i = .int .i64 k ∧ Blk wr w.heap.size 3 (fillTo p k) ∧ Below w.heap.size w wr) (fun i _ _ _ => p.length - (intOf i).toNat)
  case atStart => exact ⟨0, Nat.zero_le _, rfl, by rw [hrep.out]; exact Blk.new _ _ _, (Below.refl _ _).alloc (Nat.le_refl _) _⟩
  case round =>
    obtain ⟨k, hk, rfl, hblk, hbel⟩ := hrel
    by_cases hlt : k < p.length
    · have hbd := hb.keep hbel
      obtain ⟨v0, v6⟩ := hb.valid p[k] (List.getElem_mem _)
      have cg := hbd.cell hlt
      have c1 := hbd.s1
      have cm := hbd.hcm
      have hg := hbd.hget p[k] v0 v6
      have hcell : ∃ v, wr.cell? ⟨w.heap.size, k, none⟩ = some v := ⟨_, (hblk.cell k).trans (Array.getElem?_eq_getElem (by rw [fillTo_size p k]; exact hlt))⟩
      obtain ⟨v0, hcell⟩ := hcell
      have hfz := hblk.frozen k
      have Hblk := Lib.hid hblk
      clear hblk hbd c2
      go_wp2
      go_roundw
      case rel => exact ⟨k + 1, by omega, by go_num, by rw [← fillTo_set p k hlt]; exact Hblk.out.set_ _ _, hbel.setCell (Nat.le_refl _) _⟩
      case measure => simp [intOf]; omega
    · have hk' : k = p.length := by omega
      subst hk'
      rw [fillTo_all] at hblk
      have Hblk := Lib.hid hblk
      clear hblk
      go_wp2
      go_ret
      exact ⟨_, rfl, Nat.le_refl _, Hblk.out, hbel⟩
@[go_sem] theorem eql_ch (a b : Option Nat) (w : World) : (binOp .eql 51 (.chan a) (.chan b)).run Try.prog w = .ok (.bool (a == b)) w := run_eql_ch Try.underlying51 a b w
theorem fieldB_true {l : List Int} (h : fieldB l = true) : l.length ≤ 20 ∧ ∀ x ∈ l, 0 ≤ x ∧ x ≤ 6 := by
  unfold fieldB allIn at h
  simp only [Bool.and_eq_true, decide_eq_true_eq, List.all_eq_true] at h
  exact ⟨by omega, fun x hx => inB_true.1 (h.1 x hx)⟩
end Go.Proofs.Ytbihnjfckaeioaa
