/-
  What the reference's functions on guests return.
-/
import Derived.Test.YthmgpkcijolljaaHKRunR
import Derived.Test.YthmgpkcijolljaaH23
namespace Go.Proofs.Ythmgpkcijolljaa
open Go.RowKit
open Go.ConcN (upd upd_same upd_ne)
set_option linter.unusedSimpArgs false
set_option linter.unusedVariables false
theorem l7Run_no {A : Option Addr} {cp : Nat} {g : Int} {l : List Dd} {w : World} (h : RD w w.heap.size A l) (hlen : l.length ≤ 1048576) (hm : meetB g l = false) :
  Calls Try.prog 33 #[.int .i64 g, .slice A l.length cp] w fun e w' => ∃ AA kA, e = .returned (.tuple #[.agg #[.slice none 0 0, .slice none 0 0, .slice AA 0 kA], .bool false]) ∧ w'.ownsRow w.heap.size 3 1 (.slice AA 0 kA) 0 [] ∧ Below w.heap.size w w' := by
 refine (l7Run_any A cp g l w h hlen).mono ?_
 rintro e w' (⟨_, vA, rfl, h1, h2⟩ | ⟨h1, _⟩)
 ·obtain ⟨AA, kA, rfl⟩ := own_form h1
  exact ⟨AA, kA, rfl, h1, h2⟩
 ·rw [hm] at h1; cases h1
/-- what a run leaves -/
structure RanOk (w : World) (n : Nat) (l : List Dd) (go kO gh kH : Nat) (AA : Option Addr) (kA : Nat) (V : List Value) (w' : World) : Prop where
 rm : Rm w' w.heap.size n (onEnd on0 l) (fut on0 l) (aloneF n on0 l) (.slice (some ⟨go, 0, none⟩) (n + 1) kO) (.slice (some ⟨gh, 0, none⟩) (n + 1) kH) (.slice AA (aloneF n on0 l).length kA) V
 bel : Below w.heap.size w w'
 cO : n + 1 ≤ kO
 cH : n + 1 ≤ kH
 gO : go < w'.heap.size
 gH : gh < w'.heap.size
theorem own_cap {w : World} {base n sz g c : Nat} {e : TypeId} {xs : List Value} (h : w.ownsRow base e sz (.slice (some ⟨g, 0, none⟩) n c) n xs) : n ≤ c := by
 rcases h.2 with ⟨h1, _⟩ | ⟨g', cap, cur, h1, _, _, h2, _⟩
 ·cases h1
 ·injection h1 with _ _ h1
  subst h1
  exact h2
theorem l7Run_yes {A : Option Addr} {cp : Nat} {g : Int} {l : List Dd} {w : World} (h : RD w w.heap.size A l) (hlen : l.length ≤ 1048576) (hm : meetB g l = true) :
  Calls Try.prog 33 #[.int .i64 g, .slice A l.length cp] w fun e w' => ∃ go kO gh kH AA kA V, e = .returned (.tuple #[.agg #[.slice (some ⟨go, 0, none⟩) (g.toNat + 1) kO, .slice (some ⟨gh, 0, none⟩) (g.toNat + 1) kH, .slice AA (aloneF g.toNat on0 l).length kA], .bool true]) ∧ RanOk w g.toNat l go kO gh kH AA kA V w' := by
 refine (l7Run_any A cp g l w h hlen).mono ?_
 rintro e w' (⟨h1, _⟩ | ⟨_, vO, vH, vA, V, rfl, h1, h2⟩)
 ·rw [hm] at h1; cases h1
 ·obtain ⟨go, kO, rfl, _, g1⟩ := h1.formO
  obtain ⟨gh, kH, rfl, _, g2⟩ := h1.formH
  obtain ⟨AA, kA, rfl⟩ := own_form h1.hA
  have hV : V.length = g.toNat + 1 := by have := h1.hH.len; rw [hdL_len] at this; exact this.symm
  have hd := h1.hH.hdr
  rw [hV] at hd
  exact ⟨go, kO, gh, kH, AA, kA, V, rfl, h1, h2, own_cap h1.hO, own_cap hd, g1, g2⟩
section
variable {w w' : World} {n : Nat} {l : List Dd} {go kO gh kH : Nat} {AA : Option Addr} {kA : Nat} {V : List Value}
theorem RanOk.atO (h : RanOk w n l go kO gh kH AA kA V w') {q : Nat} (hq : q ≤ n) : w'.cell? ⟨go, q, none⟩ = some (.int .i64 ((onEnd on0 l q : Nat) : Int)) := h.rm.atO hq
theorem RanOk.atH (h : RanOk w n l go kO gh kH AA kA V w') {q : Nat} (hq : q ≤ n) : ∃ A1 c1, w'.cell? ⟨gh, q, none⟩ = some (.slice A1 (fut on0 l q).length c1) ∧ RI w' w'.heap.size A1 (fut on0 l q) := by
 have hV : V.length = n + 1 := by have := h.rm.hH.len; rw [hdL_len] at this; exact this.symm
 have hd := h.rm.hH.hdr
 rw [hV] at hd
 have hq' : q < V.length := by omega
 have h1 := h.rm.hH.row q V[q] (fut on0 l q) (List.getElem?_eq_getElem hq') (hdL_get _ hq)
 obtain ⟨A1, c1, e⟩ := own_form h1
 refine ⟨A1, c1, ?_, ?_⟩
 ·rw [hd.cellAt q (by omega), List.getElem?_eq_getElem hq', e]
 ·rw [e] at h1
  exact RI.of_own h1
end
theorem cntN_le50 {g : Int} {l : List Dd} (hm : meetB g l = true) (k : Nat) : cntN k (fut on0 l) ≤ k * 50 := cntN_le fun q => fut_le hm q
set_option maxHeartbeats 4000000 in
theorem sCountHeard_any (A : Option Addr) (cp : Nat) (g : Int) (l : List Dd) (w : World) (h : RD w w.heap.size A l) (hlen : l.length ≤ 1048576) :
  Calls Try.prog 11 #[.int .i64 g, .slice A l.length cp] w fun e w' => e = .returned (.int .i64 (cntI g l)) ∧ Below w.heap.size w w' := by
 cases hm : meetB g l
 ·have E := Lib.hid (cntI_no hm)
  go_enter Try.func11, Try.ntmps11
  go_wp2_with (go_at_call 33; refine (l7Run_no h hlen hm).mono ?_; rintro e w1 ⟨AA, kA, rfl, h1, hb⟩)
  go_ret
  exact ⟨ret_int E.out.symm, hb.alloc hb.size _⟩
 ·obtain ⟨b1, b2, b3, b4⟩ := meetB_true hm
  obtain ⟨n, rfl⟩ : ∃ n : Nat, g = n := ⟨g.toNat, by omega⟩
  have en : ((n : Nat) : Int).toNat = n := by omega
  have E := Lib.hid (cntI_yes hm)
  rw [en] at E
  have hle := fun k => cntN_le50 hm k
  have hn5 : n ≤ 5 := by omega
  go_enter Try.func11, Try.ntmps11
  go_wp2_with (go_at_call 33; refine (l7Run_yes h hlen hm).mono ?_; rw [en]; rintro e w1 ⟨go, kO, gh, kH, AA, kA, V, rfl, hR⟩)
  obtain ⟨W, hW⟩ : ∃ W, W = w1.alloc (.cells #[.slice (some ⟨go, 0, none⟩) (n + 1) kO, .slice (some ⟨gh, 0, none⟩) (n + 1) kH, .slice AA (aloneF n on0 l).length kA] 52) := ⟨_, rfl⟩
  have hc1 : W.cell? ⟨w1.heap.size, 1, none⟩ = some (.slice (some ⟨gh, 0, none⟩) (n + 1) kH) := by rw [hW]; exact (Blk.new w1 _ _).cell 1
  have hat : ∀ q, q ≤ n → ∃ A1 c1, W.cell? ⟨gh, q, none⟩ = some (.slice A1 (fut on0 l q).length c1) := fun q hq => by
   obtain ⟨A1, c1, h1, _⟩ := hR.atH hq
   exact ⟨A1, c1, by rw [hW]; exact (World.cell?_alloc_lt w1 _ ⟨gh, q, none⟩ hR.gH).trans h1⟩
  have hB : Below w.heap.size w W := by rw [hW]; exact hR.bel.alloc hR.bel.size _
  rw [← hW]
  clear hW hR h b1 b2 b3 b4 hm
  go_loopw [8, 7] (fun iv cv wr => ∃ k : Nat, k ≤ n ∧ iv = .int .i64 ((k : Int) + 1) ∧ cv = .int .i64 (cntN k (fut on0 l) : Nat) ∧ wr = W) (fun iv _ _ => n + 1 - (intOf iv).toNat)
  case atStart => exact ⟨0, Nat.zero_le _, rfl, by simp [cntN], rfl⟩
  case round =>
   obtain ⟨k, hk1, rfl, rfl, rfl⟩ := hrel
   by_cases hlt : k < n
   ·obtain ⟨A1, c1, hc⟩ := hat (k + 1) (by omega)
    have hle1 := hle (k + 1)
    rw [cntN_succ] at hle1
    have Hs := Lib.hid (cntN_succ k (fut on0 l))
    obtain ⟨q, hq⟩ : ∃ q, q = k + 1 := ⟨_, rfl⟩
    rw [← hq] at hc Hs hle1
    have hqi : (k : Int) + 1 = (q : Int) := by omega
    obtain ⟨d, hdd⟩ : ∃ d, (fut on0 l q).length = d := ⟨_, rfl⟩
    obtain ⟨c, hcc⟩ : ∃ c, cntN k (fut on0 l) = c := ⟨_, rfl⟩
    have Hcc := Lib.hid hcc
    have Hdd := Lib.hid hdd
    have Hq := Lib.hid hq
    rw [hdd] at hc hle1
    rw [hcc] at hle1
    rw [hcc, hqi]
    have hqA : (q : Int) ≤ (n : Int) := by omega
    have hqB : (q : Int) < (n : Int) + 1 := by omega
    have hq5 : q ≤ 5 := by omega
    clear hat hle hcc hdd hq hqi
    go_wp2
    go_roundw
    case rel => exact ⟨k + 1, by omega, by have := Hq.out; congr 1; omega, by rw [← Hq.out, Hs.out, Hcc.out, Hdd.out]; congr 1, trivial⟩
    case measure => have := Hq.out; simp [intOf]; omega
   ·obtain rfl : k = n := by omega
    have hnl : ¬ (k : Int) + 1 ≤ (k : Int) := by omega
    clear hat
    go_wp2
    go_ret
    exact ⟨ret_int E.out.symm, hB⟩
set_option maxHeartbeats 4000000 in
theorem sSaidAlone_any (A : Option Addr) (cp : Nat) (g : Int) (l : List Dd) (w : World) (h : RD w w.heap.size A l) (hlen : l.length ≤ 1048576) :
  Calls Try.prog 21 #[.int .i64 g, .slice A l.length cp] w (OwnInts2 w (aloneL g l) (meetB g l)) := by
 cases hm : meetB g l
 ·have E := Lib.hid (aloneL_no hm)
  go_enter Try.func21, Try.ntmps21
  go_wp2_with (go_at_call 33; refine (l7Run_no h hlen hm).mono ?_; rintro e w1 ⟨AA, kA, rfl, h1, hb⟩)
  go_ret2
  rw [E.out]
  exact OwnInts2.mk_ (World.ownsRow.alloc h1 _) (hb.alloc hb.size _)
 ·have E := Lib.hid (aloneL_yes hm)
  go_enter Try.func21, Try.ntmps21
  go_wp2_with (go_at_call 33; refine (l7Run_yes h hlen hm).mono ?_; rintro e w1 ⟨go, kO, gh, kH, AA, kA, V, rfl, hR⟩)
  go_ret2
  rw [E.out]
  exact OwnInts2.mk_ (World.ownsRow.alloc hR.rm.hA _) (hR.bel.alloc hR.bel.size _)
/-- a slice that reads as l, and a bool -/
def ReadInts2 (w : World) (l : List Int) (b : Bool) (e : Ending) (w' : World) : Prop :=
 ∃ A c, e = .returned (.tuple #[.slice A l.length c, .bool b]) ∧ RI w' w'.heap.size A l ∧ Below w.heap.size w w'
theorem OwnInts2.reads {w w' : World} {l : List Int} {b : Bool} {e : Ending} (h : OwnInts2 w l b e w') : ReadInts2 w l b e w' := by
 obtain ⟨A, c, rfl, h1, h2⟩ := h
 exact ⟨A, c, rfl, RI.of_own h1, h2⟩
set_option maxHeartbeats 4000000 in
theorem sBridgesAfter_any (A : Option Addr) (cp : Nat) (g : Int) (l : List Dd) (w : World) (h : RD w w.heap.size A l) (hlen : l.length ≤ 1048576) :
  Calls Try.prog 26 #[.int .i64 g, .slice A l.length cp] w (ReadInts2 w (bridgeL g l) (meetB g l)) := by
 cases hm : meetB g l
 ·have E := Lib.hid (bridgeL_no hm)
  go_enter Try.func26, Try.ntmps26
  go_wp2_with (go_at_call 33; refine (l7Run_no h hlen hm).mono ?_; rintro e w1 ⟨AA, kA, rfl, h1, hb⟩)
  go_ret2
  rw [E.out]
  exact ⟨_, _, rfl, RI.nil_, (hb.alloc hb.size _).alloc (by have := hb.size; simp; omega) _⟩
 ·obtain ⟨b1, b2, b3, b4⟩ := meetB_true hm
  obtain ⟨n, rfl⟩ : ∃ n : Nat, g = n := ⟨g.toNat, by omega⟩
  have en : ((n : Nat) : Int).toNat = n := by omega
  have E := Lib.hid (bridgeL_yes hm)
  rw [en] at E
  have hn5 : n ≤ 5 := by omega
  have hn0 : ¬ n = 0 := by omega
  go_enter Try.func26, Try.ntmps26
  go_wp2_with (go_at_call 33; refine (l7Run_yes h hlen hm).mono ?_; rw [en]; rintro e w1 ⟨go, kO, gh, kH, AA, kA, V, rfl, hR⟩; have hk0 : ¬ kO = 1 := (by have := hR.cO; omega); have hk1 : ¬ kO - 1 = 0 := (by have := hR.cO; omega); have hk2 : (1 : Int) ≤ (kO : Int) := (by have := hR.cO; omega); have hk3 : (n : Int) + 1 ≤ (kO : Int) := (by have := hR.cO; omega))
  go_ret2
  rw [E.out]
  have hl : (bridgeN n (onEnd on0 l)).length = n := by simp [bridgeN]
  refine ⟨_, _, by rw [hl]; rfl, ⟨by simp [ints], fun _ => ⟨⟨go, 1, none⟩, rfl, by have := hR.gO; simp; omega, fun j u hu => ?_⟩⟩, hR.bel.alloc hR.bel.size _⟩
  have hj : j < n := by
   have := (List.getElem?_eq_some_iff.1 hu).1
   simpa [ints, bridgeN] using this
  have e1 : ((⟨go, 1, none⟩ : Addr).add j) = ⟨go, j + 1, none⟩ := by
   unfold Addr.add
   by_cases hj0 : j = 0
   ·subst hj0; rfl
   ·simp [hj0]; omega
  rw [e1]
  refine (World.cell?_alloc_lt w1 _ ⟨go, j + 1, none⟩ hR.gO).trans ((hR.atO (by omega)).trans ?_)
  rw [← hu]
  simp [ints, bridgeN, List.getElem?_map, List.getElem?_range hj]
set_option maxRecDepth 100000 in
set_option maxHeartbeats 8000000 in
theorem sCompanyOf_any (A : Option Addr) (cp : Nat) (g x : Int) (l : List Dd) (w : World) (h : RD w w.heap.size A l) (hlen : l.length ≤ 1048576) :
  Calls Try.prog 18 #[.int .i64 g, .slice A l.length cp, .int .i64 x] w (OwnInts w (coL g l x)) := by
 obtain ⟨ic, hi, hz0, hz1, hz2⟩ := info_parts int_info'
 cases hm : meetB g l
 ·have E := Lib.hid (coL_no (x := x) (.inl hm))
  go_enter Try.func18, Try.ntmps18
  go_wp2_with (go_at_call 33; refine (l7Run_no (h.alloc (Nat.le_refl _) _ |>.more (by simp)) hlen hm).mono ?_; rintro e w1 ⟨AA, kA, rfl, h1, hb⟩)
  go_loopw [10, 7] (fun iv rv wr => iv = .int .i64 1 ∧ rv = .slice (some ⟨w.heap.size, 0, none⟩) 0 0 ∧ wr.ownsRow w.heap.size 3 1 (.slice (some ⟨w.heap.size, 0, none⟩) 0 0) 0 [] ∧ Below w.heap.size w wr) (fun _ _ _ => 0)
  case atStart => exact ⟨rfl, rfl, World.ownsRow.alloc (own_below (ownsRow_empty w) hb) _, (((Below.refl _ _).alloc (Nat.le_refl _) _).trans (hb.mono (by simp))).alloc (by have := hb.size; simp at this; omega) _⟩
  case round =>
   obtain ⟨rfl, rfl, h2, h3⟩ := hrel
   go_wp2
   go_ret
   rw [E.out]
   exact OwnInts.mk_ h2 h3
 ·obtain ⟨b1, b2, b3, b4⟩ := meetB_true hm
  obtain ⟨n, rfl⟩ : ∃ n : Nat, g = n := ⟨g.toNat, by omega⟩
  have en : ((n : Nat) : Int).toNat = n := by omega
  have hn5 : n ≤ 5 := by omega
  cases hin : inB x 1 n
  ·have E := Lib.hid (coL_no (g := n) (l := l) (x := x) (.inr (inB_false.1 hin)))
   go_enter Try.func18, Try.ntmps18
   go_wp2_with (go_at_call 33; refine (l7Run_yes (h.alloc (Nat.le_refl _) _ |>.more (by simp)) hlen hm).mono ?_; rw [en]; rintro e w1 ⟨go, kO, gh, kH, AA, kA, V, rfl, hR⟩)
   have hb := hR.bel
   go_loopw [10, 7] (fun iv rv wr => iv = .int .i64 1 ∧ rv = .slice (some ⟨w.heap.size, 0, none⟩) 0 0 ∧ wr.ownsRow w.heap.size 3 1 (.slice (some ⟨w.heap.size, 0, none⟩) 0 0) 0 [] ∧ Below w.heap.size w wr) (fun _ _ _ => 0)
   case atStart => exact ⟨rfl, rfl, World.ownsRow.alloc (own_below (ownsRow_empty w) hb) _, (((Below.refl _ _).alloc (Nat.le_refl _) _).trans (hb.mono (by simp))).alloc (by have := hb.size; simp at this; omega) _⟩
   case round =>
    obtain ⟨rfl, rfl, h2, h3⟩ := hrel
    go_wp2_with (go_at_call 40; refine (l1In_any _ _ _ _).mono ?_; rintro e w' ⟨rfl, rfl⟩)
    go_ret
    rw [E.out]
    exact OwnInts.mk_ h2 h3
  ·have hx := inB_true.1 hin
   obtain ⟨x, rfl⟩ : ∃ y : Nat, x = y := ⟨x.toNat, by omega⟩
   have hxn : x ≤ n := by omega
   have E := Lib.hid (coL_yes (g := n) (l := l) (x := x) hm (by omega))
   rw [en, show ((x : Nat) : Int).toNat = x by omega] at E
   go_enter Try.func18, Try.ntmps18
   go_wp2_with (go_at_call 33; refine (l7Run_yes (h.alloc (Nat.le_refl _) _ |>.more (by simp)) hlen hm).mono ?_; rw [en]; rintro e w1 ⟨go, kO, gh, kH, AA, kA, V, rfl, hR⟩)
   obtain ⟨W, hW⟩ : ∃ W, W = w1.alloc (.cells #[.slice (some ⟨go, 0, none⟩) (n + 1) kO, .slice (some ⟨gh, 0, none⟩) (n + 1) kH, .slice AA (aloneF n on0 l).length kA] 52) := ⟨_, rfl⟩
   have hgo := hR.rm.hO.lt go rfl
   have hg1 : w.heap.size < go := by have := hgo.1; simp at this; omega
   have hws : w.heap.size < w1.heap.size := by have := hR.bel.size; simp at this; omega
   have hWs : W.heap.size = w1.heap.size + 1 := by rw [hW]; simp
   have hgW : go < W.heap.size := by rw [hWs]; have := hgo.2; omega
   have hc0 : W.cell? ⟨w1.heap.size, 0, none⟩ = some (.slice (some ⟨go, 0, none⟩) (n + 1) kO) := by rw [hW]; exact (Blk.new w1 _ _).cell 0
   have hat : ∀ q, q ≤ n → W.cell? ⟨go, q, none⟩ = some (.int .i64 ((onEnd on0 l q : Nat) : Int)) := fun q hq => by
    rw [hW]; exact (World.cell?_alloc_lt w1 _ ⟨go, q, none⟩ hgo.2).trans (hR.atO hq)
   have hB : Below w.heap.size w W := by rw [hW]; exact (((Below.refl _ _).alloc (Nat.le_refl _) _).trans (hR.bel.mono (by simp))).alloc (by omega) _
   have h0 : W.ownsRow w.heap.size 3 1 (.slice (some ⟨w.heap.size, 0, none⟩) 0 0) 0 (ints []) := by rw [hW]; exact World.ownsRow.alloc (own_below (ownsRow_empty w) hR.bel) _
   rw [← hW]
   have Hgo := Lib.hid (And.intro hg1 (And.intro hws (And.intro hWs hgW)))
   clear hW hR h b1 b2 b3 b4 hm hgo hx
   go_loopw [10, 7] (fun iv rv wr => ∃ k : Nat, k ≤ n ∧ iv = .int .i64 ((k : Int) + 1) ∧ wr.ownsRow w.heap.size 3 1 rv (coTo (onEnd on0 l) x k).length (ints (coTo (onEnd on0 l) x k)) ∧ (∀ b, w.heap.size < b → b < W.heap.size → wr.heap[b]? = W.heap[b]?) ∧ ((∀ b, rv.ownBlock = some b → b = w.heap.size ∨ W.heap.size ≤ b) ∧ W.heap.size ≤ wr.heap.size) ∧ Below w.heap.size w wr) (fun iv _ _ => n + 1 - (intOf iv).toNat)
   case atStart => exact ⟨0, Nat.zero_le _, rfl, h0, fun _ _ _ => rfl, ⟨fun b hb => .inl (by simpa [Value.ownBlock] using hb.symm), Nat.le_refl _⟩, hB⟩
   case round =>
    obtain ⟨k, hk1, rfl, hown, hkp, hloc, hbel⟩ := hrel
    clear h0
    obtain ⟨g1, g2, g3, g4⟩ := Hgo.out
    have hs1 := hloc.2
    by_cases hlt : k < n
    ·obtain ⟨q, hq⟩ : ∃ q, q = k + 1 := ⟨_, rfl⟩
     have hqi : (k : Int) + 1 = (q : Int) := by omega
     have hqn : q ≤ n := by omega
     have hbs := hbel.size
     have d0 : wr.cell? ⟨w1.heap.size, 0, none⟩ = some (.slice (some ⟨go, 0, none⟩) (n + 1) kO) := (World.cell?_of_block (w := W) (hkp w1.heap.size (by omega) (by omega))).trans hc0
     have d2 : wr.cell? ⟨go, q, none⟩ = some (.int .i64 ((onEnd on0 l q : Nat) : Int)) := (World.cell?_of_block (w := W) (hkp go (by omega) (by omega))).trans (hat q hqn)
     have d3 : wr.cell? ⟨go, x, none⟩ = some (.int .i64 ((onEnd on0 l x : Nat) : Int)) := (World.cell?_of_block (w := W) (hkp go (by omega) (by omega))).trans (hat x hxn)
     have Hsu := Lib.hid (coTo_succ (onEnd on0 l) x k)
     rw [← hq] at Hsu
     have Hin : Hid (inCo (onEnd on0 l) x q = (q != x && decide (0 < onEnd on0 l q) && onEnd on0 l q == onEnd on0 l x)) := Lib.hid rfl
     have hcl := coTo_len (onEnd on0 l) x k
     obtain ⟨oq, hoq⟩ : ∃ oq, oq = onEnd on0 l q := ⟨_, rfl⟩
     obtain ⟨ox, hox⟩ : ∃ ox, ox = onEnd on0 l x := ⟨_, rfl⟩
     rw [← hoq, ← hox] at Hin
     rw [← hoq] at d2
     rw [← hox] at d3
     generalize hL : coTo (onEnd on0 l) x k = L at hown Hsu hcl
     have HO := Lib.hid (And.intro hown (And.intro hkp (And.intro hloc (And.intro hbel hq))))
     have hqA : (q : Int) ≤ (n : Int) := by omega
     have hq0 : (0 : Int) ≤ (q : Int) := by omega
     have hqlt : (q : Int) < (n : Int) + 1 := by omega
     have hxlt : (x : Int) < (n : Int) + 1 := by omega
     rw [hqi]
     clear hbel hat hoq hox hL hq hqi hkp hloc hc0 hB g1 g2 g3 g4 hs1
     obtain ⟨AL, cL, rfl⟩ := own_form hown
     cases hc : inCo (onEnd on0 l) x q
     ·rw [hc] at Hsu
      have hcc := Hin.out
      rw [hc] at hcc
      have Hcc := Lib.hid hcc
      clear Hin hown hc hcc
      by_cases b1 : q = x
      ·subst b1
       go_wp2_with (go_at_call 40; refine (l1In_any _ _ _ _).mono ?_; rintro e w' ⟨rfl, rfl⟩)
       go_quiet (fail)
       go_wp2
       go_roundw
       case rel =>
        obtain ⟨a1, a2, a3, a4, a5⟩ := HO.out
        refine ⟨k + 1, by omega, by congr 1; omega, ?_, fun b h1 h2 => a2 b h1 h2, a3, below_drewN a4 _⟩
        have e := Hsu.out
        simp only [Bool.false_eq_true, if_false, List.append_nil] at e
        rw [← a5, e]
        exact own_drewN a1 _
       case measure => simp [intOf]; omega
      ·have b1i : ¬ (q : Int) = (x : Int) := by omega
       have b1b : ((q : Int) != (x : Int)) = true := by simp; omega
       by_cases b2 : oq = 0
       ·subst b2
        go_wp2_with (go_at_call 40; refine (l1In_any _ _ _ _).mono ?_; rintro e w' ⟨rfl, rfl⟩)
        go_quiet (fail)
        go_wp2
        go_roundw
        case rel =>
         obtain ⟨a1, a2, a3, a4, a5⟩ := HO.out
         refine ⟨k + 1, by omega, by congr 1; omega, ?_, fun b h1 h2 => a2 b h1 h2, a3, below_drewN a4 _⟩
         have e := Hsu.out
         simp only [Bool.false_eq_true, if_false, List.append_nil] at e
         rw [← a5, e]
         exact own_drewN a1 _
        case measure => simp [intOf]; omega
       ·have e2k : decide (0 < oq) = true := by simp; omega
        have e2j : (0 : Int) < (oq : Int) := by omega
        have e3 : ¬ oq = ox := fun e => by
         have := Hcc.out
         simp [b1, e] at this
         omega
        have e3i : (((oq : Nat) : Int) == ((ox : Nat) : Int)) = false := by simp; omega
        have e3k : (oq == ox) = false := by simp; exact e3
        have e3l : decide (oq = ox) = false := by simp; exact e3
        have e3j : ¬ ((oq : Nat) : Int) = ((ox : Nat) : Int) := by omega
        go_wp2_with (go_at_call 40; refine (l1In_any _ _ _ _).mono ?_; rintro e w' ⟨rfl, rfl⟩)
        go_quiet (fail)
        go_wp2
        go_roundw
        case rel =>
         obtain ⟨a1, a2, a3, a4, a5⟩ := HO.out
         refine ⟨k + 1, by omega, by congr 1; omega, ?_, fun b h1 h2 => a2 b h1 h2, a3, below_drewN a4 _⟩
         have e := Hsu.out
         simp only [Bool.false_eq_true, if_false, List.append_nil] at e
         rw [← a5, e]
         exact own_drewN a1 _
        case measure => simp [intOf]; omega
     ·rw [hc] at Hsu
      have hcc := Hin.out
      rw [hc] at hcc
      simp only [Bool.true_eq, Bool.and_eq_true, bne_iff_ne, ne_eq, decide_eq_true_eq, beq_iff_eq] at hcc
      obtain ⟨⟨b1, b2⟩, b3⟩ := hcc
      obtain rfl : oq = ox := b3
      have b1i : ¬ (q : Int) = (x : Int) := by omega
      have b1b : ((q : Int) != (x : Int)) = true := by simp; omega
      have e2k : decide (0 < oq) = true := by simp; omega
      have e2j : (0 : Int) < (oq : Int) := by omega
      have e3i : (((oq : Nat) : Int) == ((oq : Nat) : Int)) = true := by simp
      clear Hin hc
      go_wp2_with (go_at_call 40; refine (l1In_any _ _ _ _).mono ?_; rintro e w' ⟨rfl, rfl⟩)
      go_quiet (fail)
      go_wp2_with (at_builtin; refine wpList_append_any _ rfl _ _ 32 rfl w.heap.size 3 ic (.int .i64 0) 1 8 Try.underlying32 hi hz0 hz1 hz2 rfl (by decide) (.slice AL L.length cL) _ _ rfl (World.ownsRow.alloc (show World.ownsRow _ _ _ _ _ _ _ from hown) _) _ (some ⟨wr.heap.size, 0, none⟩) 1 1 [.int .i64 q] rfl (Blk.reads (Blk.new _ _ _) rfl) (by intro u hu; obtain rfl := List.mem_singleton.1 hu; rfl) ?_ ?_ ?_ ?_; (unfold maxLen; omega); omega; (simp; omega); intro v2 w4 hown' hgrow hloc; have Hz := Lib.hid (And.intro hown' (And.intro hgrow hloc)); clear hown' hgrow hloc)
      go_roundw
      case rel =>
       obtain ⟨a1, a2, a3, a4, a5⟩ := HO.out
       obtain ⟨c1, c2, c3⟩ := Hz.out
       refine ⟨k + 1, by omega, by congr 1; omega, ?_, fun b h1 h2 => ?_, ⟨fun b hb => ?_, ?_⟩, below_of_grown (below_drewN a4 _) c2 hbs (fun j hj => (a1.lt j hj).1)⟩
       ·have e := Hsu.out
        simp only [if_true] at e
        rw [← a5, e]
        simpa [ints] using c1
       ·refine (c2.block b (by simp; have := a3.2; omega) (fun e => ?_)).trans ((Below.heap_alloc _ _ _ (by show b < wr.heap.size; have := a3.2; omega)).trans (a2 b h1 h2))
        rcases a3.1 b e.symm with h3 | h3 <;> omega
       ·rcases c3 with h3 | h3
        ·exact a3.1 b (h3 ▸ hb)
        ·rw [h3] at hb
         have := Option.some.inj hb
         simp at this
         have := a3.2
         right; omega
       ·have := c2.size
        simp at this
        have := a3.2
        omega
      case measure => simp [intOf]; omega
    ·obtain rfl : k = n := by omega
     have hnl : ¬ (k : Int) + 1 ≤ (k : Int) := by omega
     have HO := Lib.hid (And.intro hown hbel)
     clear hbel hat hown hkp hloc hB hc0
     go_wp2_with (go_at_call 40; refine (l1In_any _ _ _ _).mono ?_; rintro e w' ⟨rfl, rfl⟩)
     go_ret
     rw [E.out, ← coTo_all]
     exact OwnInts.mk_ HO.out.1 HO.out.2
end Go.Proofs.Ythmgpkcijolljaa
