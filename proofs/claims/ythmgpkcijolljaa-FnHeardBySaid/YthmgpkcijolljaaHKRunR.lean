/-
  The reference's run: the room behind all that was done.
-/
import Derived.Test.YthmgpkcijolljaaHKStepR2
import Derived.Test.YthmgpkcijolljaaH10
import Derived.Deep.RegionWith
import Derived.Test.YthmgpkcijolljaaH21
namespace Go.Proofs.Ythmgpkcijolljaa
open Go.RowKit
open Go.ConcN (upd upd_same upd_ne)
set_option linter.unusedSimpArgs false
set_option linter.unusedVariables false
section
variable {w : World} {base n : Nat} {on : Nat → Nat} {H : Nat → List Int} {al : List Int} {vO vH vA : Value} {V : List Value}
/-- what a step leaves -/
def StepPost (base n : Nat) (on : Nat → Nat) (H : Nat → List Int) (al : List Int) (vO vH : Value) (d : Dd) (w : World) (e : Ending) (w' : World) : Prop :=
 ∃ vA' V', e = .returned (.agg #[vO, vH, vA']) ∧ Rm w' base n (onStep on d) (fun q => H q ++ (if isSay d && inCo on d.2.1.toNat q then [d.2.2] else [])) (al ++ (if isSay d && decide (co n on d.2.1.toNat = []) then [d.2.2] else [])) vO vH vA' V' ∧
  Below base w w' ∧ (∀ b' cs, Blk w b' 52 cs → Blk w' b' 52 cs)
theorem l7Step_any (d : Dd) (hd : SaidOk n d) (h : Rm w base n on H al vO vH vA V) (hn : n ≤ 5) (hb : base ≤ w.heap.size) (h0 : on 0 = 0) (hH : ∀ q, (H q).length ≤ 1000) (hal : al.length ≤ 1000) :
  Calls Try.prog 46 #[.agg #[vO, vH, vA], .agg #[.string d.1, .int .i64 d.2.1, .int .i64 d.2.2]] w (StepPost base n on H al vO vH d w) := by
 obtain ⟨s, x, y⟩ := d
 obtain ⟨h1, h2, _⟩ := hd.cases
 simp only at h1 h2
 obtain ⟨g, rfl⟩ : ∃ g : Nat, x = g := ⟨x.toNat, by omega⟩
 have eg : ((g : Nat) : Int).toNat = g := by omega
 unfold SaidOk saidIn at hd
 simp only [Bool.or_eq_true, Bool.and_eq_true, beq_iff_eq] at hd
 rcases hd with (⟨⟨e1, _⟩, e3⟩ | ⟨⟨e1, _⟩, e3⟩) | ⟨⟨e1, _⟩, e3⟩
 ·have e3 := inB_true.1 e3
  obtain ⟨b, rfl⟩ : ∃ b : Nat, y = b := ⟨y.toNat, by omega⟩
  have hs : isSay (s, (g : Int), (b : Int)) = false := by unfold isSay; rw [e1]; rfl
  refine (l7Step_join s e1 g b h (by omega) hn hb).mono ?_
  rintro e w' ⟨rfl, h3, h4, h5⟩
  refine ⟨vA, V, rfl, ?_, h4, h5⟩
  rw [onStep_go hs, hs]
  simp only [Bool.false_and, Bool.false_eq_true, if_false, List.append_nil, eg, show ((b : Nat) : Int).toNat = b by omega]
  exact h3
 ·obtain rfl : y = 0 := e3
  have hs : isSay (s, (g : Int), (0 : Int)) = false := by unfold isSay; rw [e1]; rfl
  refine (l7Step_leave s e1 g h (by omega) hn hb).mono ?_
  rintro e w' ⟨rfl, h3, h4, h5⟩
  refine ⟨vA, V, rfl, ?_, h4, h5⟩
  rw [onStep_go hs, hs]
  simp only [Bool.false_and, Bool.false_eq_true, if_false, List.append_nil, eg, show (0 : Int).toNat = 0 by rfl]
  exact h3
 ·have hs : isSay (s, (g : Int), y) = true := by unfold isSay; rw [e1]; rfl
  refine (l7Step_say s e1 g y h (by omega) (by omega) hn hb h0 hH hal).mono ?_
  rintro e w' ⟨vA', V', rfl, h3, h4, h5⟩
  refine ⟨vA', V', rfl, ?_, h4, h5⟩
  rw [onStep_say hs, hs]
  simp only [Bool.true_and, eg]
  have e4 : (al ++ (if decide (co n on g = []) = true then [y] else [])) = (if co n on g = [] then al ++ [y] else al) := by
   by_cases hc : co n on g = [] <;> simp [hc]
  rw [e4]
  refine h3.congr (fun _ _ => rfl) fun q hq => ?_
  unfold hearQ
  rw [show decide (q < n + 1) = true by simp; omega]
  simp only [Bool.true_and]
  split <;> simp
/-- The room while it is set up. -/
structure Rq (w : World) (base k m : Nat) (vO vH vA : Value) (V : List Value) : Prop where
 hO : w.ownsRow base 3 1 vO k (ints (List.replicate k 0))
 hH : OII w base vH V (List.replicate m [])
 hA : w.ownsRow base 3 1 vA 0 []
 aO : ∀ b, vO.ownBlock = some b → vA.ownBlock ≠ some b ∧ ∀ u ∈ V, u.ownBlock ≠ some b
 aA : ∀ b, vA.ownBlock = some b → ∀ u ∈ V, u.ownBlock ≠ some b
variable {k m : Nat}
theorem Rq.rm (h : Rq w base (n + 1) (n + 1) vO vH vA V) : Rm w base n on0 (fun _ => []) [] vO vH vA V := by
 refine ⟨?_, ?_, h.hA, h.aO, h.aA⟩
 ·have e : onI n on0 = List.replicate (n + 1) 0 := by unfold onI on0; rw [List.map_const']; simp
  rw [e]; exact h.hO
 ·have e : hdL n (fun _ => ([] : List Int)) = List.replicate (n + 1) [] := by unfold hdL; rw [List.map_const']; simp
  rw [e]; exact h.hH
theorem Rq.len (h : Rq w base k m vO vH vA V) : V.length = m := by have := h.hH.len; simpa using this.symm
theorem Rq.ltV (h : Rq w base k m vO vH vA V) {u : Value} (hu : u ∈ V) {b : Nat} (hb : u.ownBlock = some b) : b < w.heap.size := by
 obtain ⟨i, hi⟩ := List.getElem?_of_mem hu
 have hi' : i < (List.replicate m ([] : List Int)).length := by rw [h.hH.len]; exact (List.getElem?_eq_some_iff.1 hi).1
 exact ((h.hH.row i u _ hi (List.getElem?_eq_getElem hi')).lt b hb).2
theorem Rq.setBox {b i : Nat} {x : Value} {cs : Array Value} (h : Rq w base k m vO vH vA V) (hX : Blk w b 52 cs) : Rq (w.setCell ⟨b, i, none⟩ x) base k m vO vH vA V := by
 refine ⟨ownsRow_setCell_other h.hO (own_blk_ne h.hO hX (by decide)) _, ⟨h.hH.len, ownsRow_setCell_other h.hH.hdr (own_blk_ne h.hH.hdr hX (by decide)) _, fun i u l h3 h4 => ?_, h.hH.apart⟩, ownsRow_setCell_other h.hA (own_blk_ne h.hA hX (by decide)) _, h.aO, h.aA⟩
 exact ownsRow_setCell_other (h.hH.row i u l h3 h4) (own_blk_ne (h.hH.row i u l h3 h4) hX (by decide)) _
theorem Rq.growO {w3 : World} {o : Obj} {vO' : Value} (h : Rq w base k m vO vH vA V) (hown : w3.ownsRow base 3 1 vO' (k + 1) (ints (List.replicate k 0) ++ [.int .i64 0])) (hg : (w.alloc o).grownBy w3 vO.ownBlock) (hloc : vO'.ownBlock = vO.ownBlock ∨ vO'.ownBlock = some (w.alloc o).heap.size) : Rq w3 base (k + 1) m vO' vH vA V := by
 have hne : ∀ b, b < w.heap.size → vO'.ownBlock = some b → vO.ownBlock = some b := fun b hb e => by
  rcases hloc with e' | e'
  ·rw [← e', e]
  ·rw [e'] at e
   have := Option.some.inj e
   rw [alloc_size'] at this
   omega
 refine ⟨?_, ⟨h.hH.len, own_mark (World.ownsRow.alloc h.hH.hdr o) hg (own_types h.hH.hdr h.hO (by decide)), fun i u l h1 h2 => own_mark (World.ownsRow.alloc (h.hH.row i u l h1 h2) o) hg fun b hb e => (h.aO b e).2 u (List.mem_of_getElem? h1) hb, h.hH.apart⟩, own_mark (World.ownsRow.alloc h.hA o) hg (fun b hb e => (h.aO b e).1 hb), fun b hb => ?_, h.aA⟩
 ·have e : ints (List.replicate (k + 1) 0) = ints (List.replicate k 0) ++ [.int .i64 0] := by rw [List.replicate_succ']; simp [ints]
  rw [e]; exact hown
 ·refine ⟨fun e => ?_, fun u hu e => ?_⟩
  ·exact (h.aO b (hne b (h.hA.lt b e).2 hb)).1 e
  ·exact (h.aO b (hne b (h.ltV hu e) hb)).2 u hu e
theorem Rq.growH {w3 : World} {o : Obj} {vH' : Value} {q : Nat} (h : Rq w base k m vO vH vA V) (hB : base ≤ w.heap.size) (hq : q = w.heap.size) (hown : w3.ownsRow base 32 1 vH' (m + 1) (V ++ [.slice (some ⟨q, 0, none⟩) 0 0])) (hg : ((w.alloc (.cells #[] 3)).alloc o).grownBy w3 vH.ownBlock) : Rq w3 base k (m + 1) vO vH' vA (V ++ [.slice (some ⟨q, 0, none⟩) 0 0]) := by
 subst hq
 have hal : ∀ {e : TypeId} {x : Value} {n : Nat} {xs : List Value}, w.ownsRow base e 1 x n xs → ((w.alloc (.cells #[] 3)).alloc o).ownsRow base e 1 x n xs := fun hx => World.ownsRow.alloc (World.ownsRow.alloc hx _) _
 have hnw : ∀ b, b < w.heap.size → ∀ u ∈ V ++ [Value.slice (some ⟨w.heap.size, 0, none⟩) 0 0], (∀ u ∈ V, u.ownBlock ≠ some b) → u.ownBlock ≠ some b := fun b hb u hu hn e => by
  rcases List.mem_append.1 hu with h1 | h1
  ·exact hn u h1 e
  ·obtain rfl := List.mem_singleton.1 h1
   have : w.heap.size = b := by simpa [Value.ownBlock] using e
   omega
 refine ⟨own_mark (hal h.hO) hg (own_types h.hO h.hH.hdr (by decide)), ?_, own_mark (hal h.hA) hg (own_types h.hA h.hH.hdr (by decide)), fun b hb => ⟨(h.aO b hb).1, fun u hu => hnw b (h.hO.lt b hb).2 u hu (h.aO b hb).2⟩, fun b hb u hu => hnw b (h.hA.lt b hb).2 u hu (h.aA b hb)⟩
 have e : List.replicate (m + 1) ([] : List Int) = List.replicate m [] ++ [[]] := List.replicate_succ' ..
 rw [e]
 have hl := h.len
 subst hl
 exact h.hH.snoc (w2 := w.alloc (.cells #[] 3)) (l := []) ((Below.refl _ _).alloc (Nat.le_refl _) _) (ownsRow_empty' w) o hown hg hB
end
/-- The boxes at first. -/
structure St1 (w wr : World) : Prop where
 b4 : Blk wr w.heap.size 52 #[.slice none 0 0, .slice none 0 0, .slice none 0 0]
 sl : Blk wr (w.heap.size + 1) 3 #[]
 b6 : Blk wr (w.heap.size + 1 + 1) 52 #[.slice none 0 0, .slice none 0 0, .slice (some ⟨w.heap.size + 1, 0, none⟩) 0 0]
 bel : Below w.heap.size w wr
theorem St1.start (w : World) : St1 w (((w.alloc (.cells #[.slice none 0 0, .slice none 0 0, .slice none 0 0] 52)).alloc (.cells #[] 3)).alloc (.cells #[.slice none 0 0, .slice none 0 0, .slice (some ⟨w.heap.size + 1, 0, none⟩) 0 0] 52)) :=
 ⟨((Blk.new_at _ _ _ rfl).alloc _).alloc _, (Blk.new_at _ _ _ (by simp)).alloc _, Blk.new_at _ _ _ (by simp), (((Below.refl w.heap.size w).alloc (Nat.le_refl _) _).alloc (by simp) _).alloc (by simp; omega) _⟩
theorem St1.below {w wr w1 : World} (h : St1 w wr) (hb : Below wr.heap.size wr w1) : St1 w w1 :=
 ⟨h.b4.below hb h.b4.lt, h.sl.below hb h.sl.lt, h.b6.below hb h.b6.lt, h.bel.trans (hb.mono h.bel.size)⟩
theorem own_nil_blk {w : World} {base g : Nat} (h : Blk w g 3 #[]) (hb : base ≤ g) : w.ownsRow base 3 1 (.slice (some ⟨g, 0, none⟩) 0 0) 0 [] :=
 ⟨rfl, .inr ⟨g, 0, #[], rfl, hb, h, Nat.le_refl _, by unfold maxLen; omega, rfl, rfl⟩⟩
/-- the answer -/
def Ran (w : World) (g : Int) (l : List Dd) (e : Ending) (w' : World) : Prop :=
 (meetB g l = false ∧ ∃ vA, e = .returned (.tuple #[.agg #[.slice none 0 0, .slice none 0 0, vA], .bool false]) ∧ w'.ownsRow w.heap.size 3 1 vA 0 [] ∧ Below w.heap.size w w') ∨
 (meetB g l = true ∧ ∃ vO vH vA V, e = .returned (.tuple #[.agg #[vO, vH, vA], .bool true]) ∧ Rm w' w.heap.size g.toNat (onEnd on0 l) (fut on0 l) (aloneF g.toNat on0 l) vO vH vA V ∧ Below w.heap.size w w')
theorem bad0 (w : World) : ∃ W, W = (((w.alloc (.cells #[.slice none 0 0, .slice none 0 0, .slice (some ⟨w.heap.size + 1, 0, none⟩) 0 0] 52)).alloc (.cells #[] 3)).alloc (.cells #[.slice none 0 0, .slice none 0 0, .slice (some ⟨w.heap.size + 1, 0, none⟩) 0 0] 52)) ∧
  W.cell? ⟨w.heap.size, 0, none⟩ = some (.slice none 0 0) ∧ W.cell? ⟨w.heap.size, 1, none⟩ = some (.slice none 0 0) ∧ W.cell? ⟨w.heap.size, 2, none⟩ = some (.slice (some ⟨w.heap.size + 1, 0, none⟩) 0 0) ∧
  W.ownsRow w.heap.size 3 1 (.slice (some ⟨w.heap.size + 1, 0, none⟩) 0 0) 0 [] ∧ Below w.heap.size w W := by
 refine ⟨_, rfl, ?_⟩
 have h4 : Blk (((w.alloc (.cells #[.slice none 0 0, .slice none 0 0, .slice (some ⟨w.heap.size + 1, 0, none⟩) 0 0] 52)).alloc (.cells #[] 3)).alloc (.cells #[.slice none 0 0, .slice none 0 0, .slice (some ⟨w.heap.size + 1, 0, none⟩) 0 0] 52)) w.heap.size 52 #[.slice none 0 0, .slice none 0 0, .slice (some ⟨w.heap.size + 1, 0, none⟩) 0 0] := ((Blk.new_at _ _ _ rfl).alloc _).alloc _
 exact ⟨h4.cell 0, h4.cell 1, h4.cell 2, own_nil_blk ((Blk.new_at _ _ _ (by simp)).alloc _) (by omega), (((Below.refl w.heap.size w).alloc (Nat.le_refl _) _).alloc (by simp) _).alloc (by simp; omega) _⟩
theorem St1.bad {w wr : World} (h : St1 w wr) : ∃ W, W = ((wr.setCell ⟨w.heap.size, 0, none⟩ (.slice none 0 0)).setCell ⟨w.heap.size, 1, none⟩ (.slice none 0 0)).setCell ⟨w.heap.size, 2, none⟩ (.slice (some ⟨w.heap.size + 1, 0, none⟩) 0 0) ∧
  W.cell? ⟨w.heap.size, 0, none⟩ = some (.slice none 0 0) ∧ W.cell? ⟨w.heap.size, 1, none⟩ = some (.slice none 0 0) ∧ W.cell? ⟨w.heap.size, 2, none⟩ = some (.slice (some ⟨w.heap.size + 1, 0, none⟩) 0 0) ∧
  W.ownsRow w.heap.size 3 1 (.slice (some ⟨w.heap.size + 1, 0, none⟩) 0 0) 0 [] ∧ Below w.heap.size w W := by
 refine ⟨_, rfl, ?_⟩
 have h4 := ((h.b4.set_ 0 (.slice none 0 0)).set_ 1 (.slice none 0 0)).set_ 2 (.slice (some ⟨w.heap.size + 1, 0, none⟩) 0 0)
 have z0 := h4.cell 0
 have z1 := h4.cell 1
 have z2 := h4.cell 2
 refine ⟨z0, z1, z2, own_nil_blk (((h.sl.far (p := ⟨w.heap.size, 0, none⟩) (by show w.heap.size + 1 ≠ w.heap.size; omega) _).far (p := ⟨w.heap.size, 1, none⟩) (by show w.heap.size + 1 ≠ w.heap.size; omega) _).far (p := ⟨w.heap.size, 2, none⟩) (by show w.heap.size + 1 ≠ w.heap.size; omega) _) (by omega), ?_⟩
 exact ((h.bel.setCell (Nat.le_refl _) _).setCell (Nat.le_refl _) _).setCell (Nat.le_refl _) _
theorem own_form3 {w : World} {base n sz : Nat} {e : TypeId} {v : Value} {xs : List Value} (h : w.ownsRow base e sz v n xs) : ∃ A m c, v = .slice A m c := by
 obtain ⟨A, c, h⟩ := own_form h
 exact ⟨A, n, c, h⟩
/-- The box behind an append. -/
theorem box_after {wr W w4 : World} {b base n sz : Nat} {e : TypeId} {cs : Array Value} {x : Value} {xs : List Value} (hX : Blk wr b 52 cs) (hr : wr.ownsRow base e sz x n xs) (he : e ≠ 52) (hg : W.grownBy w4 x.ownBlock) (hW : ∀ b', b' < wr.heap.size → W.heap[b']? = wr.heap[b']?) (hs : wr.heap.size ≤ W.heap.size) : Blk w4 b 52 cs := by
 have h1 := hX.lt
 unfold Blk
 rw [hg.block b (by omega) (fun e' => own_blk_ne hr hX he e'.symm), hW b h1]
 exact hX
set_option maxRecDepth 20000 in
set_option maxHeartbeats 16000000 in
theorem l7Run_any (A : Option Addr) (cp : Nat) (g : Int) (l : List Dd) (w : World) (h : RD w w.heap.size A l) (hlen : l.length ≤ 1048576) :
  Calls Try.prog 33 #[.int .i64 g, .slice A l.length cp] w (Ran w g l) := by
 obtain ⟨i0, hi, hz0, hz1, hz2⟩ := info_parts ints_info
 obtain ⟨j0, hj, hy0, hy1, hy2⟩ := info_parts int_info'
 have HS0 := Lib.hid (St1.start w)
 cases hin : inB g 1 5
 ·have hm : meetB g l = false := by have h1 := inB_false.1 hin; unfold meetB; simp only [h1, decide_false, Bool.false_and]
  have Hm := Lib.hid hm
  clear hm h
  go_enter Try.func33, Try.ntmps33
  go_wp2_with (go_at_call 40; refine (l1In_any _ _ _ _).mono ?_; rintro e w' ⟨rfl, rfl⟩)
  obtain ⟨W, hW, z0, z1, z2, ho, hb⟩ := bad0 w
  rw [← hW]
  exact bodyPost_ret (v := .tuple #[.agg #[.slice none 0 0, .slice none 0 0, .slice (some ⟨w.heap.size + 1, 0, none⟩) 0 0], .bool false]) (by simp [results, Try.results33, go_sem, z0, z1, z2]) rfl (.inl ⟨Hm.out, _, rfl, ho, hb⟩)
 by_cases h50 : 50 < l.length
 ·have hm : meetB g l = false := by unfold meetB; simp; omega
  have Hm := Lib.hid hm
  have h50' : (50 : Int) < (l.length : Int) := by omega
  clear hm h
  go_enter Try.func33, Try.ntmps33
  go_wp2_with (go_at_call 40; refine (l1In_any _ _ _ _).mono ?_; rintro e w' ⟨rfl, rfl⟩)
  obtain ⟨W, hW, z0, z1, z2, ho, hb⟩ := bad0 w
  rw [← hW]
  exact bodyPost_ret (v := .tuple #[.agg #[.slice none 0 0, .slice none 0 0, .slice (some ⟨w.heap.size + 1, 0, none⟩) 0 0], .bool false]) (by simp [results, Try.results33, go_sem, z0, z1, z2]) rfl (.inl ⟨Hm.out, _, rfl, ho, hb⟩)
 have h50' : ¬ (50 : Int) < (l.length : Int) := by omega
 have hg15 := inB_true.1 hin
 obtain ⟨n, rfl⟩ : ∃ n : Nat, g = n := ⟨g.toNat, by omega⟩
 have hn1 : 1 ≤ n := by omega
 have hn5 : n ≤ 5 := by omega
 have Hg := Lib.hid (show ((n : Nat) : Int).toNat = n by omega)
 have Hbd := Lib.hid (fun ha : okAll (saidP n) l = false => show meetB n l = false by unfold meetB; rw [ha]; simp)
 have Hgd := Lib.hid (fun ha : okAll (saidP n) l = true => show meetB n l = true by unfold meetB; rw [ha]; simp; omega)
 clear hg15
 go_enter Try.func33, Try.ntmps33
 go_wp2_with (go_at_call 40; refine (l1In_any _ _ _ _).mono ?_; rintro e w' ⟨rfl, rfl⟩)
 go_loopw [7] (fun iv wr => ∃ k : Nat, k ≤ l.length ∧ iv = .int .i64 k ∧ okAll (saidP n) (l.take k) = true ∧ St1 w wr) (fun iv _ => l.length - (intOf iv).toNat)
 case atStart => exact ⟨0, Nat.zero_le _, rfl, by simp [okAll], HS0.out⟩
 case round =>
  obtain ⟨k, hk1, rfl, hall, hS⟩ := hrel
  clear HS0
  by_cases hlt : k < l.length
  ·obtain ⟨ad, rfl, hb, c1, c2, c3⟩ := (h.below hS.bel).at_ hlt
   have Hs := Lib.hid (okAll_succ hlt hall)
   have Hf := Lib.hid (okAll_no (p := saidP n) hlt)
   clear hall
   obtain ⟨d, hd⟩ : ∃ d, l[k] = d := ⟨_, rfl⟩
   rw [hd] at c1 c2 c3 Hs Hf
   obtain ⟨s, z, z'⟩ := d
   have hp : Hid (saidP n (s, z, z') = saidIn s.toList z z' n) := Lib.hid (by unfold saidP; exact saidB_rest (by omega))
   simp only at c1 c2 c3
   have hs := hS.bel.size
   have HS := Lib.hid hS
   clear hd h hS
   cases h5 : saidIn s.toList z z' n
   ·go_wp2_with (go_at_call 45; refine (l7Said_any _ _ _ _ _).mono ?_; rintro e w1 ⟨rfl, hb1⟩; have k40 := (HS.out.below hb1).b4.cell 0; have k41 := (HS.out.below hb1).b4.cell 1; have k42 := (HS.out.below hb1).b4.cell 2; have f40 := (HS.out.below hb1).b4.frozen 0; have f41 := (HS.out.below hb1).b4.frozen 1; have f42 := (HS.out.below hb1).b4.frozen 2; have k60 := (HS.out.below hb1).b6.cell 0; have k61 := (HS.out.below hb1).b6.cell 1; have k62 := (HS.out.below hb1).b6.cell 2; simp at k40 k41 k42 k60 k61 k62)
    obtain ⟨W, hW, z0, z1, z2, ho, hb⟩ := (HS.out.below hb1).bad
    rw [← hW]
    exact bodyPost_ret (v := .tuple #[.agg #[.slice none 0 0, .slice none 0 0, .slice (some ⟨w.heap.size + 1, 0, none⟩) 0 0], .bool false]) (by simp [results, Try.results33, go_sem, z0, z1, z2]) rfl (.inl ⟨Hbd.out (Hf.out (by rw [hp.out]; exact h5)), _, rfl, ho, hb⟩)
   ·go_wp2_with (go_at_call 45; refine (l7Said_any _ _ _ _ _).mono ?_; rintro e w1 ⟨rfl, hb1⟩)
    go_roundw
    case rel => exact ⟨k + 1, by omega, by go_num, Hs.out (by rw [hp.out]; exact h5), HS.out.below hb1⟩
    case measure => simp [intOf]; omega
  ·obtain rfl : k = l.length := by omega
   rw [List.take_length] at hall
   have Hm := Lib.hid (Hgd.out hall)
   clear hall
   have HS := Lib.hid hS
   clear hS
   go_wp2
   go_loopw [8] (fun iv w2 => ∃ (k : Nat) (vO vH vA : Value) (V : List Value), k ≤ n + 1 ∧ iv = .int .i64 k ∧ Rq w2 w.heap.size k k vO vH vA V ∧ Blk w2 w.heap.size 52 #[.slice none 0 0, .slice none 0 0, .slice none 0 0] ∧ Blk w2 (w.heap.size + 1 + 1) 52 #[vO, vH, vA] ∧ Below w.heap.size w w2) (fun iv _ => n + 1 - (intOf iv).toNat)
   case atStart =>
    have hS := HS.out
    exact ⟨0, _, _, _, [], Nat.zero_le _, rfl, ⟨World.ownsRow_nil _ _ _ _, OII.nil_ _ _, own_nil_blk hS.sl (by omega), fun b hb => by simp [Value.ownBlock] at hb, fun b hb u hu => by simp at hu⟩, hS.b4, hS.b6, hS.bel⟩
   case round =>
    obtain ⟨k, vO, vH, vA, V, hk1, rfl, hR, X4, X6, hbel⟩ := hrel
    clear HS
    by_cases hlt : k ≤ n
    ·obtain ⟨AO, cO, rfl⟩ := own_form hR.hO
     obtain ⟨AA, cA, rfl⟩ := own_form hR.hA
     have hVk := hR.len
     have hdr := hR.hH.hdr
     rw [hVk] at hdr
     obtain ⟨AH, cH, rfl⟩ := own_form hdr
     have hbs := hbel.size
     have hk' : (k : Int) ≤ (n : Int) := by omega
     have hOo := hR.hO
     have r0 := X6.cell 0
     have r1 := X6.cell 1
     have r2 := X6.cell 2
     have g0 := X6.frozen 0
     simp at r0 r1 r2
     have HR := Lib.hid (And.intro hR (And.intro X4 (And.intro X6 (And.intro hbel hdr))))
     clear hR X4 X6 hbel hdr h
     go_wp2_with (first | (at_builtin; refine wpList_append_any _ rfl _ _ 32 rfl w.heap.size 3 j0 (.int .i64 0) 1 8 Try.underlying32 hj hy0 hy1 hy2 rfl (by decide) (.slice AO k cO) k (ints (List.replicate k 0)) rfl (World.ownsRow.alloc hOo _) _ (some ⟨wr.heap.size, 0, none⟩) 1 1 [.int .i64 0] rfl (Blk.reads (Blk.new _ _ _) rfl) (by intro u hu; obtain rfl := List.mem_singleton.1 hu; rfl) ?_ ?_ ?_ ?_; (unfold maxLen; omega); omega; (simp; omega); intro vn w4 hown' hgrow hloc; obtain ⟨AO', cO', rfl⟩ := own_form hown'; obtain ⟨hR, X4, X6, hbel, hdr⟩ := HR.out; have R1 := hR.growO hown' hgrow hloc; have Y4 := box_after X4 hR.hO (by decide) hgrow (fun b' hb' => Below.heap_alloc _ _ _ hb') (by simp); have Y6 := box_after X6 hR.hO (by decide) hgrow (fun b' hb' => Below.heap_alloc _ _ _ hb') (by simp); have B1 := below_of_grown hbel hgrow hbs (fun q hq => (hR.hO.lt q hq).1); have hs4 : w.heap.size ≤ w4.heap.size := B1.size; have q0 := Y6.cell 0; have q1 := Y6.cell 1; have q2 := Y6.cell 2; have qf0 := Y6.frozen 0; have qf1 := Y6.frozen 1; simp at q0 q1 q2; have R2 := R1.setBox (i := 0) (x := .slice AO' (k + 1) cO') Y6; have hH2 := R2.hH.hdr; rw [hVk] at hH2; have H1 := Lib.hid (And.intro R2 (And.intro (Y4.far (p := ⟨w.heap.size + 1 + 1, 0, none⟩) (by show w.heap.size ≠ w.heap.size + 1 + 1; omega) (.slice AO' (k + 1) cO')) (And.intro (Y6.set_ 0 (.slice AO' (k + 1) cO')) (B1.setCell (show w.heap.size ≤ (⟨w.heap.size + 1 + 1, 0, none⟩ : Addr).block by show w.heap.size ≤ w.heap.size + 1 + 1; omega) (.slice AO' (k + 1) cO'))))); clear hR X4 X6 hbel hdr R1 Y4 Y6 B1 R2 hown' hgrow hloc) | (at_builtin; refine wpList_append_any _ rfl _ _ 44 rfl w.heap.size 32 i0 (.slice none 0 0) 1 24 Try.underlying44 hi hz0 hz1 hz2 rfl (by decide) (.slice AH k cH) k V rfl (World.ownsRow.alloc (World.ownsRow.alloc hH2 _) _) _ (some ⟨w4.heap.size + 1, 0, none⟩) 1 1 [.slice (some ⟨w4.heap.size, 0, none⟩) 0 0] rfl (Blk.reads (Blk.new_at _ _ _ (by simp)) rfl) (by intro u hu; obtain rfl := List.mem_singleton.1 hu; rfl) ?_ ?_ ?_ ?_; (unfold maxLen; omega); omega; (simp; omega); intro vn w7 hown' hgrow hloc; obtain ⟨AH', cH', rfl⟩ := own_form hown'; obtain ⟨R2, Y4, Y6, B1⟩ := H1.out; have R3 := R2.growH B1.size (by simp) hown' hgrow; have Z4 := box_after Y4 R2.hH.hdr (by decide) hgrow (fun b' hb' => by rw [Below.heap_alloc _ _ _ (by simp at hb' ⊢; omega), Below.heap_alloc _ _ _ hb']) (by simp; omega); have Z6 := box_after Y6 R2.hH.hdr (by decide) hgrow (fun b' hb' => by rw [Below.heap_alloc _ _ _ (by simp at hb' ⊢; omega), Below.heap_alloc _ _ _ hb']) (by simp; omega); have B2 := below_of_grown (B1.alloc B1.size (.cells #[] 3)) hgrow (by simp; omega) (fun q hq => (R2.hH.hdr.lt q hq).1); have qg1 := Z6.frozen 1; have t0 := Z6.cell 0; have t1 := Z6.cell 1; have t2 := Z6.cell 2; simp at t0 t1 t2; have H2 := Lib.hid (And.intro (R3.setBox (i := 1) (x := .slice AH' (k + 1) cH') Z6) (And.intro (Z4.far (p := ⟨w.heap.size + 1 + 1, 1, none⟩) (by show w.heap.size ≠ w.heap.size + 1 + 1; omega) (.slice AH' (k + 1) cH')) (And.intro (Z6.set_ 1 (.slice AH' (k + 1) cH')) (B2.setCell (show w.heap.size ≤ (⟨w.heap.size + 1 + 1, 1, none⟩ : Addr).block by show w.heap.size ≤ w.heap.size + 1 + 1; omega) (.slice AH' (k + 1) cH'))))); clear R2 Y4 Y6 B1 R3 Z4 Z6 B2 hown' hgrow hloc))
     go_roundw
     case rel =>
      obtain ⟨a1, a2, a3, a4⟩ := H2.out
      exact ⟨k + 1, _, _, _, _, by omega, by go_num, a1, a2, a3, a4⟩
     case measure => simp [intOf]; omega
    ·obtain rfl : k = n + 1 := by omega
     have hnl : ¬ (n : Int) + 1 ≤ (n : Int) := by omega
     have HR := Lib.hid (And.intro hR.rm (And.intro X4 (And.intro X6 hbel)))
     have hval := (meetB_true Hm.out).2.2.2
     rw [Hg.out] at hval
     have hon := onAt_ok hval
     have HV := Lib.hid (And.intro hval hon)
     clear hR X4 X6 hbel hval hon
     go_wp2
     go_loopw [9] (fun iv w2 => ∃ (k : Nat) (vO vH vA : Value) (V : List Value), k ≤ l.length ∧ iv = .int .i64 k ∧ Rm w2 w.heap.size n (onAt l k) (futAt l k) (aloneAt n l k) vO vH vA V ∧ Blk w2 w.heap.size 52 #[.slice none 0 0, .slice none 0 0, .slice none 0 0] ∧ Blk w2 (w.heap.size + 1 + 1) 52 #[vO, vH, vA] ∧ Below w.heap.size w w2) (fun iv _ => l.length - (intOf iv).toNat)
     case atStart =>
      obtain ⟨a1, a2, a3, a4⟩ := HR.out
      refine ⟨0, vO, vH, vA, V, Nat.zero_le _, rfl, ?_, a2, a3, a4⟩
      rw [onAt_zero, aloneAt_zero]
      exact a1.congr (fun _ _ => rfl) (fun q _ => (futAt_zero l q).symm)
     case round =>
      obtain ⟨k, vO, vH, vA, V, hk1, rfl, hR, X4, X6, hbel⟩ := hrel
      clear HR
      obtain ⟨go, kO, rfl, _, _⟩ := hR.formO
      obtain ⟨gh, kH, rfl, _, _⟩ := hR.formH
      obtain ⟨AA, mA, kA, rfl⟩ := own_form3 hR.hA
      by_cases hlt : k < l.length
      ·obtain ⟨ad, rfl, hb, c1, c2, c3⟩ := (h.below hbel).at_ hlt
       have hd := HV.out.1 _ (List.getElem_mem hlt)
       have h0 := (HV.out.2 k).1
       have hbs := hbel.size
       have Hsu := Lib.hid (And.intro (onAt_succ hlt) (And.intro (futAt_succ hlt) (aloneAt_succ n hlt)))
       have hH5 : ∀ q, (futAt l k q).length ≤ 1000 := fun q => by have := futAt_len l q k; omega
       have hA5 : (aloneAt n l k).length ≤ 1000 := by have := aloneAt_len n l k; omega
       obtain ⟨d, hdd⟩ : ∃ d, l[k] = d := ⟨_, rfl⟩
       rw [hdd] at c1 c2 c3 hd Hsu
       obtain ⟨s, z, z'⟩ := d
       simp only at c1 c2 c3
       have hbk : (ad.add (k * 3)).block < w.heap.size := by rw [block_of_add]; exact hb
       have r0 := X6.cell 0
       have r1 := X6.cell 1
       have r2 := X6.cell 2
       simp at r0 r1 r2
       have HR := Lib.hid (And.intro hR (And.intro X4 (And.intro X6 hbel)))
       have HC := Lib.hid (fun (j : Nat) => l7Step_any (w := wr.drewN j) (s, z, z') hd (hR.blocks (fun _ _ _ => rfl)) hn5 hbs h0 hH5 hA5)
       clear hR X4 X6 hbel hdd h hd h0 hH5 hA5
       go_wp2_with fail
       go_region_with (first | (go_at_call 46; refine (HC.out _).mono ?_; rintro e w6 ⟨vA', V', rfl, a1, a2, a3⟩; obtain ⟨AA', mA', c3', rfl⟩ := own_form3 a1.hA; have Y4 := a3 _ _ (HR.out.2.1.drewN _); have Y6 := a3 _ _ (HR.out.2.2.1.drewN _); have f0 := Y6.frozen 0; have f1 := Y6.frozen 1; have f2 := Y6.frozen 2; have t0 := Y6.cell 0; have t1 := Y6.cell 1; have t2 := Y6.cell 2; simp at t0 t1 t2; have k1 := (a2.cell (p := ad.add (k * 3)) hbk).trans c1; have k2 := (a2.cell (p := ⟨(ad.add (k * 3)).block, (ad.add (k * 3)).off + 1, none⟩) hbk).trans c2; have k3 := (a2.cell (p := ⟨(ad.add (k * 3)).block, (ad.add (k * 3)).off + 2, none⟩) hbk).trans c3; have HZ := Lib.hid (And.intro a1 (And.intro a2 (And.intro Y4 Y6))); clear a1 a2 a3 Y4 Y6))
       all_goals
        go_wp2
        go_roundw
        case rel =>
         obtain ⟨a1, a2, Y4, Y6⟩ := HZ.out
         obtain ⟨s1, s2, s3⟩ := Hsu.out
         have R2 := ((a1.setBox (i := 0) (x := (.slice (some ⟨go, 0, none⟩) (n + 1) kO)) Y6).setBox (i := 1) (x := (.slice (some ⟨gh, 0, none⟩) (n + 1) kH)) (Y6.set_ 0 _)).setBox (i := 2) (x := (.slice AA' mA' c3')) ((Y6.set_ 0 _).set_ 1 _)
         have hB1 : Below w.heap.size w w6 := (below_drewN HR.out.2.2.2 _).trans a2
         refine ⟨k + 1, _, _, _, V', by omega, by go_num, ?_, ((Y4.far (p := ⟨w.heap.size + 1 + 1, 0, none⟩) (by show w.heap.size ≠ w.heap.size + 1 + 1; omega) _).far (p := ⟨w.heap.size + 1 + 1, 1, none⟩) (by show w.heap.size ≠ w.heap.size + 1 + 1; omega) _).far (p := ⟨w.heap.size + 1 + 1, 2, none⟩) (by show w.heap.size ≠ w.heap.size + 1 + 1; omega) _, ((Y6.set_ 0 _).set_ 1 _).set_ 2 _, ((hB1.setCell (show w.heap.size ≤ (⟨w.heap.size + 1 + 1, 0, none⟩ : Addr).block by show w.heap.size ≤ w.heap.size + 1 + 1; omega) _).setCell (show w.heap.size ≤ (⟨w.heap.size + 1 + 1, 1, none⟩ : Addr).block by show w.heap.size ≤ w.heap.size + 1 + 1; omega) _).setCell (show w.heap.size ≤ (⟨w.heap.size + 1 + 1, 2, none⟩ : Addr).block by show w.heap.size ≤ w.heap.size + 1 + 1; omega) _⟩
         rw [s1, s3]
         exact R2.congr (fun _ _ => rfl) (fun q _ => (s2 q).symm)
        case measure => simp [intOf]; omega
      ·obtain rfl : k = l.length := by omega
       have r0 := X6.cell 0
       have r1 := X6.cell 1
       have r2 := X6.cell 2
       have f0 := X4.frozen 0
       have f1 := X4.frozen 1
       have f2 := X4.frozen 2
       have s0 := X4.cell 0
       have s1 := X4.cell 1
       have s2 := X4.cell 2
       simp at r0 r1 r2 s0 s1 s2
       have hX := ((X4.set_ 0 (.slice (some ⟨go, 0, none⟩) (n + 1) kO)).set_ 1 (.slice (some ⟨gh, 0, none⟩) (n + 1) kH)).set_ 2 (.slice AA mA kA)
       have z0 := hX.cell 0
       have z1 := hX.cell 1
       have z2 := hX.cell 2
       simp at z0 z1 z2
       have HR := Lib.hid (And.intro hR (And.intro X4 hbel))
       clear hR X4 X6 hbel hX h
       go_wp2
       refine bodyPost_ret (v := .tuple #[.agg #[.slice (some ⟨go, 0, none⟩) (n + 1) kO, .slice (some ⟨gh, 0, none⟩) (n + 1) kH, .slice AA mA kA], .bool true]) (by simp [results, Try.results33, go_sem, z0, z1, z2]) rfl (.inr ⟨Hm.out, _, _, _, V, rfl, ?_, ?_⟩)
       ·obtain ⟨a1, a2, a3⟩ := HR.out
        have R2 := ((a1.setBox (i := 0) (x := (.slice (some ⟨go, 0, none⟩) (n + 1) kO)) a2).setBox (i := 1) (x := (.slice (some ⟨gh, 0, none⟩) (n + 1) kH)) (a2.set_ 0 _)).setBox (i := 2) (x := (.slice AA mA kA)) ((a2.set_ 0 _).set_ 1 _)
        rw [Hg.out, ← onAt_all, ← aloneAt_all]
        exact R2.congr (fun _ _ => rfl) (fun q _ => futAt_all l q)
       ·exact ((HR.out.2.2.setCell (Nat.le_refl _) _).setCell (Nat.le_refl _) _).setCell (Nat.le_refl _) _
end Go.Proofs.Ythmgpkcijolljaa
