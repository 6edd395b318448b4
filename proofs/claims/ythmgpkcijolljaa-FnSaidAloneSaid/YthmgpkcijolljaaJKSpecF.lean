/-
  What the reference's functions on guests return.
-/
import Derived.Test.YthmgpkcijolljaaHKRunR
import Derived.Test.YthmgpkcijolljaaJS
import Derived.Test.YthmgpkcijolljaaJ4
namespace Go.Proofs.Ythmgpkcijolljaa
open Go.RowKit
open Go.ConcN (upd upd_same upd_ne)
set_option linter.unusedSimpArgs false
set_option linter.unusedVariables false
theorem l7Run_no {A : Option Addr} {cp : Nat} {g : Int} {l : List Dd} {w : World} (h : RD w w.heap.size A l) (hlen : l.length ≤ 1048576) (hm : meetB g l = false) :
  Calls Try.prog 33 #[.int .i64 g, .slice A l.length cp] w fun e w' => ∃ AA kA, e = .returned (.tuple #[.agg #[.slice none 0 0, .slice none 0 0, .slice AA 0 kA], .bool false]) ∧ w'.ownsRow w.heap.size 3 1 (.slice AA 0 kA) 0 [] ∧ Below w.heap.size w w' := by
 refine (l7Run_any A cp g l w h hlen).mono ?_
 rintro e w' (⟨_, vA, rfl, h1, h2⟩ | ⟨h1, _⟩)
 ·obtain ⟨AA, kA, rfl⟩ := own_form h1
  exact ⟨AA, kA, rfl, h1, h2⟩
 ·rw [hm] at h1; cases h1
/-- what a run leaves -/
structure RanOk (w : World) (n : Nat) (l : List Dd) (go kO gh kH : Nat) (AA : Option Addr) (kA : Nat) (V : List Value) (w' : World) : Prop where
 rm : Rm w' w.heap.size n (onEnd on0 l) (fut on0 l) (aloneF n on0 l) (.slice (some ⟨go, 0, none⟩) (n + 1) kO) (.slice (some ⟨gh, 0, none⟩) (n + 1) kH) (.slice AA (aloneF n on0 l).length kA) V
 bel : Below w.heap.size w w'
 cO : n + 1 ≤ kO
 cH : n + 1 ≤ kH
 gO : go < w'.heap.size
 gH : gh < w'.heap.size
theorem own_cap {w : World} {base n sz g c : Nat} {e : TypeId} {xs : List Value} (h : w.ownsRow base e sz (.slice (some ⟨g, 0, none⟩) n c) n xs) : n ≤ c := by
 rcases h.2 with ⟨h1, _⟩ | ⟨g', cap, cur, h1, _, _, h2, _⟩
 ·cases h1
 ·injection h1 with _ _ h1
  subst h1
  exact h2
theorem l7Run_yes {A : Option Addr} {cp : Nat} {g : Int} {l : List Dd} {w : World} (h : RD w w.heap.size A l) (hlen : l.length ≤ 1048576) (hm : meetB g l = true) :
  Calls Try.prog 33 #[.int .i64 g, .slice A l.length cp] w fun e w' => ∃ go kO gh kH AA kA V, e = .returned (.tuple #[.agg #[.slice (some ⟨go, 0, none⟩) (g.toNat + 1) kO, .slice (some ⟨gh, 0, none⟩) (g.toNat + 1) kH, .slice AA (aloneF g.toNat on0 l).length kA], .bool true]) ∧ RanOk w g.toNat l go kO gh kH AA kA V w' := by
 refine (l7Run_any A cp g l w h hlen).mono ?_
 rintro e w' (⟨h1, _⟩ | ⟨_, vO, vH, vA, V, rfl, h1, h2⟩)
 ·rw [hm] at h1; cases h1
 ·obtain ⟨go, kO, rfl, _, g1⟩ := h1.formO
  obtain ⟨gh, kH, rfl, _, g2⟩ := h1.formH
  obtain ⟨AA, kA, rfl⟩ := own_form h1.hA
  have hV : V.length = g.toNat + 1 := by have := h1.hH.len; rw [hdL_len] at this; exact this.symm
  have hd := h1.hH.hdr
  rw [hV] at hd
  exact ⟨go, kO, gh, kH, AA, kA, V, rfl, h1, h2, own_cap h1.hO, own_cap hd, g1, g2⟩
section
variable {w w' : World} {n : Nat} {l : List Dd} {go kO gh kH : Nat} {AA : Option Addr} {kA : Nat} {V : List Value}
theorem RanOk.atO (h : RanOk w n l go kO gh kH AA kA V w') {q : Nat} (hq : q ≤ n) : w'.cell? ⟨go, q, none⟩ = some (.int .i64 ((onEnd on0 l q : Nat) : Int)) := h.rm.atO hq
theorem RanOk.atH (h : RanOk w n l go kO gh kH AA kA V w') {q : Nat} (hq : q ≤ n) : ∃ A1 c1, w'.cell? ⟨gh, q, none⟩ = some (.slice A1 (fut on0 l q).length c1) ∧ RI w' w'.heap.size A1 (fut on0 l q) := by
 have hV : V.length = n + 1 := by have := h.rm.hH.len; rw [hdL_len] at this; exact this.symm
 have hd := h.rm.hH.hdr
 rw [hV] at hd
 have hq' : q < V.length := by omega
 have h1 := h.rm.hH.row q V[q] (fut on0 l q) (List.getElem?_eq_getElem hq') (hdL_get _ hq)
 obtain ⟨A1, c1, e⟩ := own_form h1
 refine ⟨A1, c1, ?_, ?_⟩
 ·rw [hd.cellAt q (by omega), List.getElem?_eq_getElem hq', e]
 ·rw [e] at h1
  exact RI.of_own h1
end
theorem cntN_le50 {g : Int} {l : List Dd} (hm : meetB g l = true) (k : Nat) : cntN k (fut on0 l) ≤ k * 50 := cntN_le fun q => fut_le hm q
set_option maxHeartbeats 4000000 in
theorem sCountHeard_any (A : Option Addr) (cp : Nat) (g : Int) (l : List Dd) (w : World) (h : RD w w.heap.size A l) (hlen : l.length ≤ 1048576) :
  Calls Try.prog 11 #[.int .i64 g, .slice A l.length cp] w fun e w' => e = .returned (.int .i64 (cntI g l)) ∧ Below w.heap.size w w' := by
 cases hm : meetB g l
 ·have E := Lib.hid (cntI_no hm)
  go_enter Try.func11, Try.ntmps11
  go_wp2_with (go_at_call 33; refine (l7Run_no h hlen hm).mono ?_; rintro e w1 ⟨AA, kA, rfl, h1, hb⟩)
  go_ret
  exact ⟨ret_int E.out.symm, hb.alloc hb.size _⟩
 ·obtain ⟨b1, b2, b3, b4⟩ := meetB_true hm
  obtain ⟨n, rfl⟩ : ∃ n : Nat, g = n := ⟨g.toNat, by omega⟩
  have en : ((n : Nat) : Int).toNat = n := by omega
  have E := Lib.hid (cntI_yes hm)
  rw [en] at E
  have hle := fun k => cntN_le50 hm k
  have hn5 : n ≤ 5 := by omega
  go_enter Try.func11, Try.ntmps11
  go_wp2_with (go_at_call 33; refine (l7Run_yes h hlen hm).mono ?_; rw [en]; rintro e w1 ⟨go, kO, gh, kH, AA, kA, V, rfl, hR⟩)
  obtain ⟨W, hW⟩ : ∃ W, W = w1.alloc (.cells #[.slice (some ⟨go, 0, none⟩) (n + 1) kO, .slice (some ⟨gh, 0, none⟩) (n + 1) kH, .slice AA (aloneF n on0 l).length kA] 52) := ⟨_, rfl⟩
  have hc1 : W.cell? ⟨w1.heap.size, 1, none⟩ = some (.slice (some ⟨gh, 0, none⟩) (n + 1) kH) := by rw [hW]; exact (Blk.new w1 _ _).cell 1
  have hat : ∀ q, q ≤ n → ∃ A1 c1, W.cell? ⟨gh, q, none⟩ = some (.slice A1 (fut on0 l q).length c1) := fun q hq => by
   obtain ⟨A1, c1, h1, _⟩ := hR.atH hq
   exact ⟨A1, c1, by rw [hW]; exact (World.cell?_alloc_lt w1 _ ⟨gh, q, none⟩ hR.gH).trans h1⟩
  have hB : Below w.heap.size w W := by rw [hW]; exact hR.bel.alloc hR.bel.size _
  rw [← hW]
  clear hW hR h b1 b2 b3 b4 hm
  go_loopw [8, 7] (fun iv cv wr => ∃ k : Nat, k ≤ n ∧ iv = .int .i64 ((k : Int) + 1) ∧ cv = .int .i64 (cntN k (fut on0 l) : Nat) ∧ wr = W) (fun iv _ _ => n + 1 - (intOf iv).toNat)
  case atStart => exact ⟨0, Nat.zero_le _, rfl, by simp [cntN], rfl⟩
  case round =>
   obtain ⟨k, hk1, rfl, rfl, rfl⟩ := hrel
   by_cases hlt : k < n
   ·obtain ⟨A1, c1, hc⟩ := hat (k + 1) (by omega)
    have hle1 := hle (k + 1)
    rw [cntN_succ] at hle1
    have Hs := Lib.hid (cntN_succ k (fut on0 l))
    obtain ⟨q, hq⟩ : ∃ q, q = k + 1 := ⟨_, rfl⟩
    rw [← hq] at hc Hs hle1
    have hqi : (k : Int) + 1 = (q : Int) := by omega
    obtain ⟨d, hdd⟩ : ∃ d, (fut on0 l q).length = d := ⟨_, rfl⟩
    obtain ⟨c, hcc⟩ : ∃ c, cntN k (fut on0 l) = c := ⟨_, rfl⟩
    have Hcc := Lib.hid hcc
    have Hdd := Lib.hid hdd
    have Hq := Lib.hid hq
    rw [hdd] at hc hle1
    rw [hcc] at hle1
    rw [hcc, hqi]
    have hqA : (q : Int) ≤ (n : Int) := by omega
    have hqB : (q : Int) < (n : Int) + 1 := by omega
    have hq5 : q ≤ 5 := by omega
    clear hat hle hcc hdd hq hqi
    go_wp2
    go_roundw
    case rel => exact ⟨k + 1, by omega, by have := Hq.out; congr 1; omega, by rw [← Hq.out, Hs.out, Hcc.out, Hdd.out]; congr 1, trivial⟩
    case measure => have := Hq.out; simp [intOf]; omega
   ·obtain rfl : k = n := by omega
    have hnl : ¬ (k : Int) + 1 ≤ (k : Int) := by omega
    clear hat
    go_wp2
    go_ret
    exact ⟨ret_int E.out.symm, hB⟩
set_option maxHeartbeats 4000000 in
theorem sSaidAlone_any (A : Option Addr) (cp : Nat) (g : Int) (l : List Dd) (w : World) (h : RD w w.heap.size A l) (hlen : l.length ≤ 1048576) :
  Calls Try.prog 21 #[.int .i64 g, .slice A l.length cp] w (OwnInts2 w (aloneL g l) (meetB g l)) := by
 cases hm : meetB g l
 ·have E := Lib.hid (aloneL_no hm)
  go_enter Try.func21, Try.ntmps21
  go_wp2_with (go_at_call 33; refine (l7Run_no h hlen hm).mono ?_; rintro e w1 ⟨AA, kA, rfl, h1, hb⟩)
  go_ret2
  rw [E.out]
  exact OwnInts2.mk_ (World.ownsRow.alloc h1 _) (hb.alloc hb.size _)
 ·have E := Lib.hid (aloneL_yes hm)
  go_enter Try.func21, Try.ntmps21
  go_wp2_with (go_at_call 33; refine (l7Run_yes h hlen hm).mono ?_; rintro e w1 ⟨go, kO, gh, kH, AA, kA, V, rfl, hR⟩)
  go_ret2
  rw [E.out]
  exact OwnInts2.mk_ (World.ownsRow.alloc hR.rm.hA _) (hR.bel.alloc hR.bel.size _)
/-- a slice that reads as l, and a bool -/
def ReadInts2 (w : World) (l : List Int) (b : Bool) (e : Ending) (w' : World) : Prop :=
 ∃ A c, e = .returned (.tuple #[.slice A l.length c, .bool b]) ∧ RI w' w'.heap.size A l ∧ Below w.heap.size w w'
theorem OwnInts2.reads {w w' : World} {l : List Int} {b : Bool} {e : Ending} (h : OwnInts2 w l b e w') : ReadInts2 w l b e w' := by
 obtain ⟨A, c, rfl, h1, h2⟩ := h
 exact ⟨A, c, rfl, RI.of_own h1, h2⟩
end Go.Proofs.Ythmgpkcijolljaa
