/-
  Lines and parties as rows of the call's own; l1Open.
-/
import Derived.Test.YthdnhaaojicmbaaDoorPty
import Derived.Laws.OwnMore
namespace Go.Proofs.YthdnhaaojicmbaaDoor
open Go.RowKit
set_option linter.unusedSimpArgs false
set_option linter.unusedVariables false

theorem lit_reads (w : World) (t : TypeId) (xs : List Value) (m n : Nat) (h : xs.length = n * m) : Reads (w.alloc (.cells xs.toArray t)) (w.alloc (.cells xs.toArray t)).heap.size m (some ⟨w.heap.size, 0, none⟩) n xs := by
  refine ⟨h, fun _ => ⟨_, rfl, by simp, fun j u hu => ?_⟩⟩
  have e : ((⟨w.heap.size, 0, none⟩ : Addr).add j) = ⟨w.heap.size, j, none⟩ := by unfold Addr.add; split <;> simp_all
  rw [e, (Blk.new w t xs.toArray).cell, ← hu]
  simp
theorem flat_set {α : Type} {f : α → List Value} {m : Nat} (hf : ∀ x, (f x).length = m) (l : List α) {k j : Nat} (hk : k < l.length) (hj : j < m) (x : α) (u : Value) (hx : f x = (f l[k]).set j u) : (l.flatMap f).set (k * m + j) u = (l.set k x).flatMap f := by
  have hlen := flat_length hf l
  have hlen2 := flat_length hf (l.set k x)
  apply List.ext_getElem?
  intro i
  have hm : 0 < m := by omega
  by_cases hi : i < l.length * m
  · have hq : i / m < l.length := Nat.div_lt_of_lt_mul (by rw [Nat.mul_comm]; exact hi)
    have hr : i % m < m := Nat.mod_lt _ hm
    have hi' : i = i / m * m + i % m := by rw [Nat.mul_comm]; exact (Nat.div_add_mod i m).symm
    have g2 := flat_get hf (l.set k x) (k := i / m) (j := i % m) (by simpa using hq) hr
    rw [← hi'] at g2
    rw [g2, List.getElem?_set]
    by_cases hki : k * m + j = i
    · have e1 : i / m = k := by rw [← hki, Nat.mul_comm, Nat.mul_add_div hm, Nat.div_eq_of_lt hj]; rfl
      have e2 : i % m = j := by rw [← hki, Nat.mul_comm, Nat.mul_add_mod, Nat.mod_eq_of_lt hj]
      rw [if_pos hki, if_pos (by rw [hlen]; omega)]
      simp only [e1, e2, List.getElem_set_self, hx]
      rw [List.getElem?_set_self (by rw [hf]; exact hj)]
    · rw [if_neg hki]
      have g1 := flat_get hf l (k := i / m) (j := i % m) hq hr
      rw [← hi'] at g1
      rw [g1]
      by_cases hk2 : i / m = k
      · subst hk2
        simp only [List.getElem_set_self, hx]
        rw [List.getElem?_set_ne]
        intro e
        exact hki (by rw [e]; exact hi'.symm)
      · rw [List.getElem_set_ne (fun e => hk2 e.symm)]
  · rw [List.getElem?_eq_none (by simp [hlen]; omega), List.getElem?_eq_none (by rw [hlen2]; simp; omega)]
abbrev IRow := Option Addr × List Int × Nat
/-- a line -/
structure Ln where
  room : Int
  held : IRow
  ended : Bool
  tk : Option Addr × Nat × Nat
def encL (x : Ln) : List Value := [.int .i64 x.room, rowV x.held, .bool x.ended, .slice x.tk.1 x.tk.2.1 x.tk.2.2]
theorem encL_length (x : Ln) : (encL x).length = 4 := rfl
theorem encL_oneCell (x : Ln) : ∀ u ∈ [x].flatMap encL, u.oneCell' = true := by
  intro u hu
  simp [encL, rowV] at hu
  rcases hu with rfl | rfl | rfl | rfl <;> rfl
/-- lines that are laid -/
structure LinesAt (w : World) (base : Nat) (v : Value) (ls : List Ln) : Prop where
  row : w.ownsRow base 112 4 v ls.length (ls.flatMap encL)
  held : ∀ x ∈ ls, w.ownsRow base 3 1 (rowV x.held) x.held.2.1.length (ints x.held.2.1)
theorem LinesAt.mark {w w' : World} {base : Nat} {v : Value} {ls : List Ln} {row : Option Nat} (h : LinesAt w base v ls) (hg : w.grownBy w' row) (h1 : ∀ k, v.ownBlock = some k → row ≠ some k) (h2 : ∀ x ∈ ls, ∀ k, (rowV x.held).ownBlock = some k → row ≠ some k) : LinesAt w' base v ls :=
  ⟨own_mark h.row hg h1, fun x hx => own_mark (h.held x hx) hg (h2 x hx)⟩
theorem LinesAt.alloc {w : World} {base : Nat} {v : Value} {ls : List Ln} (h : LinesAt w base v ls) (o : Obj) : LinesAt (w.alloc o) base v ls := h.mark (World.grownBy_alloc w o none) (fun _ _ e => by cases e) (fun _ _ _ _ e => by cases e)
theorem LinesAt.snoc {w w' : World} {base : Nat} {v v' : Value} {ls : List Ln} {x : Ln} (h : LinesAt w base v ls) (hg : w.grownBy w' v.ownBlock) (ho : w'.ownsRow base 112 4 v' (ls ++ [x]).length ((ls ++ [x]).flatMap encL)) (hx : w.ownsRow base 3 1 (rowV x.held) x.held.2.1.length (ints x.held.2.1)) : LinesAt w' base v' (ls ++ [x]) := by
  refine ⟨ho, fun y hy => ?_⟩
  rcases List.mem_append.1 hy with hy | hy
  · exact own_mark (h.held y hy) hg (fun k hk e => apart_ty h.row (h.held y hy) (by decide) k e hk)
  · obtain rfl := List.mem_singleton.1 hy
    exact own_mark hx hg (fun k hk e => apart_ty h.row hx (by decide) k e hk)
/-- lines as they are at first -/
def fresh1 (l : List Int) (x : Ln) : Prop := x.held.2.1 = [] ∧ x.ended = false ∧ (x.room = 0 ∨ x.room ∈ l)
def OpenLines (w : World) (l : List Int) (e : Ending) (w' : World) : Prop :=
  ∃ (ls : List Ln) (A' : Option Addr) (c' : Nat), e = .returned (.slice A' ls.length c') ∧ ls.length = l.length + 1 ∧ (∀ x ∈ ls, fresh1 l x) ∧ LinesAt w' w.heap.size (.slice A' ls.length c') ls ∧ Below w.heap.size w w'
theorem line_info : (Tryd.prog.info? 112).map (fun i => (i.zero, i.size, i.bytes)) = some (some (Value.agg #[.int .i64 0, .slice none 0 0, .bool false, .slice none 0 0]), 4, 64) := by kernel_rfl
set_option maxHeartbeats 4000000 in
theorem l1Open_any (A : Option Addr) (c : Nat) (l : List Int) (w : World) (h : RI w w.heap.size A l) (hn : l.length ≤ 9) :
    Calls Tryd.prog 58 #[.slice A l.length c] w (OpenLines w l) := by
  obtain ⟨j0, hjd, jz0, jz1, jz2⟩ := info_parts line_info
  have P0 : LinesAt (w.alloc (.cells #[.int .i64 0, .slice none 0 0, .bool false, .slice none 0 0] 112)) w.heap.size (.slice (some ⟨w.heap.size, 0, none⟩) 1 1) [⟨0, (none, [], 0), false, (none, 0, 0)⟩] :=
    ⟨⟨by simp [encL], .inr ⟨_, 1, _, rfl, Nat.le_refl _, heap_alloc_new w _, Nat.le_refl _, by unfold maxLen; omega, rfl, rfl⟩⟩, fun x hx => by obtain rfl := List.mem_singleton.1 hx; exact ⟨rfl, .inl ⟨rfl, rfl⟩⟩⟩
  go_enter Tryd.func58, Tryd.ntmps58
  go_wp2_with fail
  go_loopw [4, 3] (fun i v wr => ∃ (k : Nat) (ls : List Ln), i = .int .i64 k ∧ k ≤ l.length ∧ ls.length = k + 1 ∧ (∀ x ∈ ls, fresh1 l x) ∧ LinesAt wr w.heap.size v ls ∧ Below w.heap.size w wr) (fun i _ _ => l.length - (intOf i).toNat)
  case atStart => exact ⟨0, [⟨0, (none, [], 0), false, (none, 0, 0)⟩], rfl, Nat.zero_le _, rfl, (fun x hx => by obtain rfl := List.mem_singleton.1 hx; exact ⟨rfl, rfl, .inl rfl⟩), P0, (Below.refl _ _).alloc (Nat.le_refl _) _⟩
  case round =>
    clear P0
    obtain ⟨k, ls, rfl, hk, hls, hfr, P, hb⟩ := hrel
    have Hls := Lib.hid hls
    have Hfr := Lib.hid hfr
    clear hls hfr
    by_cases hlt : k < l.length
    · have hlt' : (k : Int) < (l.length : Int) := by omega
      obtain ⟨ad, hA, hbl, hc⟩ := (RI.below h hb).at_ hlt
      obtain ⟨x, hx⟩ : ∃ x, l[k] = x := ⟨_, rfl⟩
      have Hx : Hid (x ∈ l) := Lib.hid (by rw [← hx]; exact List.getElem_mem hlt)
      rw [hx] at hc
      subst hA
      clear hx
      have hs := hb.size
      have P2 := (P.alloc (.cells #[] 3)).alloc (.cells #[] 3)
      have b2 := (hb.alloc hs (.cells #[] 3)).alloc (by simp; omega) (.cells #[] 3)
      have e2 := own_mono ((ownsRow_emptyI wr).alloc (.cells #[] 3)) (base' := w.heap.size) hs
      obtain ⟨xN, hxN⟩ : ∃ xN : Ln, xN = ⟨x, (some ⟨wr.heap.size, 0, none⟩, [], 0), false, (some ⟨wr.heap.size + 1, 0, none⟩, 0, 0)⟩ := ⟨_, rfl⟩
      have P3 := P2.alloc (.cells #[.int .i64 x, .slice (some ⟨wr.heap.size, 0, none⟩) 0 0, .bool false, .slice (some ⟨wr.heap.size + 1, 0, none⟩) 0 0] 112)
      have b3 := b2.alloc (by simp; omega) (.cells #[.int .i64 x, .slice (some ⟨wr.heap.size, 0, none⟩) 0 0, .bool false, .slice (some ⟨wr.heap.size + 1, 0, none⟩) 0 0] 112)
      have e3 := e2.alloc (.cells #[.int .i64 x, .slice (some ⟨wr.heap.size, 0, none⟩) 0 0, .bool false, .slice (some ⟨wr.heap.size + 1, 0, none⟩) 0 0] 112)
      have rd := lit_reads ((wr.alloc (.cells #[] 3)).alloc (.cells #[] 3)) 112 ([xN].flatMap encL) 4 1 rfl
      have hcells : ([xN].flatMap encL).toArray = #[.int .i64 x, .slice (some ⟨wr.heap.size, 0, none⟩) 0 0, .bool false, .slice (some ⟨wr.heap.size + 1, 0, none⟩) 0 0] := by subst hxN; rfl
      rw [hcells] at rd
      have hone := encL_oneCell xN
      have hs3 := b3.size
      have o3 := P3.row
      have hsz : ((wr.alloc (.cells #[] 3)).alloc (.cells #[] 3)).heap.size = wr.heap.size + 1 + 1 := by simp
      rw [hsz] at rd
      have eN : (((wr.alloc (.cells #[] 3)).alloc (.cells #[] 3)).alloc (.cells #[.int .i64 x, .slice (some ⟨wr.heap.size, 0, none⟩) 0 0, .bool false, .slice (some ⟨wr.heap.size + 1, 0, none⟩) 0 0] 112)).ownsRow w.heap.size 3 1 (rowV xN.held) xN.held.2.1.length (ints xN.held.2.1) := by subst hxN; exact e3
      have hfN : Hid (fresh1 l xN) := Lib.hid (by subst hxN; exact ⟨rfl, rfl, .inr Hx.out⟩)
      clear hxN hcells hsz e2 e3 P2 b2 P hb
      go_wp2_with (at_builtin; refine wpList_append_any _ rfl _ _ 75 rfl w.heap.size 112 j0 (.agg #[.int .i64 0, .slice none 0 0, .bool false, .slice none 0 0]) 4 64 Tryd.underlying75 hjd jz0 jz1 jz2 rfl (by decide) u3 _ _ rfl o3 _ (some ⟨wr.heap.size + 1 + 1, 0, none⟩) 1 1 ([xN].flatMap encL) rfl rd hone ?_ ?_ ?_ ?_; (have := Hls.out; unfold maxLen; omega); (have := Hls.out; omega); exact hs3; intro v' w4 hown' hgrow hloc)
      have P4 := P3.snoc (v' := v') (x := xN) hgrow (by simpa using hown') eN
      have b4 := below_own b3 hgrow hs3 (fun q hq => (o3.lt q hq).1)
      go_roundw
      case rel =>
        refine ⟨k + 1, ls ++ [xN], by congr 1, by omega, by have := Hls.out; simp; omega, ?_, P4, b4⟩
        intro y hy
        rcases List.mem_append.1 hy with hy | hy
        · exact Hfr.out y hy
        · obtain rfl := List.mem_singleton.1 hy
          exact hfN.out
      case measure => simp [intOf]; omega
    · obtain rfl : k = l.length := by omega
      have hlt' : ¬ (l.length : Int) < (l.length : Int) := by omega
      obtain ⟨A', c', rfl⟩ := own_form P.row
      go_wp2_with fail
      go_ret
      exact ⟨ls, A', c', rfl, Hls.out, Hfr.out, P, hb⟩
end Go.Proofs.YthdnhaaojicmbaaDoor
