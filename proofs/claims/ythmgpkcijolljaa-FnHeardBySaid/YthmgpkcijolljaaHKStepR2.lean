/-
  The reference's step: a guest says a word.
-/
import Derived.Test.YthmgpkcijolljaaH22
import Derived.Deep.RegionLaw
namespace Go.Proofs.Ythmgpkcijolljaa
open Go.RowKit
open Go.ConcN (upd upd_same upd_ne)
set_option linter.unusedSimpArgs false
set_option linter.unusedVariables false
theorem step_append_any {P : Program} {ops : Array Oper} {o : Oper} {a : Act} {w : World} {K : Act → World → Prop} {Q : Exit → Act → World → Prop} {E : Prop} (hg : o.guard = none) (s x : Operand) (t : TypeId)
  (ho : o.op = .call { callee := .builtin .append, args := #[s, x], argTypes := #[t, t] })
  (base : Nat) (e : TypeId) (i : TypeInfo) (z : Value) (size bytes : Nat) (ht : P.underlying t = some (.slice e)) (hi : P.info? e = some i) (hz : i.zero = some z)
  (hsize : i.size = size) (hby : i.bytes = bytes) (hzs : z.cells.size = size) (hsz : 0 < size)
  (v : Value) (n : Nat) (xs : List Value) (hs : a.eval s = v) (hown : w.ownsRow base e size v n xs)
  (B : Nat) (A : Option Addr) (m c : Nat) (news : List Value) (hx : a.eval x = .slice A m c) (hr : Reads w B size A m news) (h1 : ∀ u ∈ news, u.oneCell' = true)
  (h63 : n + m ≤ maxLen) (hbytes : (n + m) * bytes ≤ 140737488355328) (hbase : base ≤ w.heap.size)
  (h : ∀ v' w', w'.ownsRow base e size v' (n + m) (xs ++ news) → w.grownBy w' v.ownBlock → (v'.ownBlock = v.ownBlock ∨ v'.ownBlock = some w.heap.size) → K (a.put o.dst v') w') : if Region.wanted o (yielded ops a.tmps) = true then o.wp P a w K Q else E := by
 have hw : Region.wanted o (yielded ops a.tmps) = true := by simp [Region.wanted, hg]
 rw [if_pos hw]
 exact wp_append_any w s x t ho base e i z size bytes ht hi hz hsize hby hzs hsz v n xs hs hown B A m c news hx hr h1 h63 hbytes hbase h
theorem int_infoR : (Try.prog.info? 3).map (fun i => (i.zero, i.size, i.bytes)) = some (some (Value.int .i64 0), 1, 8) := by kernel_rfl
theorem alloc_size' (v : World) (o : Obj) : (v.alloc o).heap.size = v.heap.size + 1 := by simp
/-- a header behind an append to a row -/
theorem hdr_after {wr W w4 : World} {base m c gh q : Nat} {V : List Value} {u x : Value} {o : Obj} (hdr : wr.ownsRow base 32 1 (.slice (some ⟨gh, 0, none⟩) m c) m V) (hx : x.ownBlock ≠ some gh) (hg : W.grownBy w4 x.ownBlock) (hW : W.heap = (wr.alloc o).heap) (hq : q < m) (hu : V[q]? = some u) :
  w4.cell? ⟨gh, q, none⟩ = some u ∧ w4.frozen? ⟨gh, q, none⟩ = false := by
 have hlt := (hdr.lt gh rfl).2
 have h1 : w4.heap[gh]? = wr.heap[gh]? := by
  rw [hg.block gh (by rw [hW, alloc_size']; omega) (fun e => hx e.symm), hW]
  exact Below.heap_alloc wr o gh hlt
 have h2 : w4.ownsRow base 32 1 (.slice (some ⟨gh, 0, none⟩) m c) m V := own_blocks hdr fun k hk => by
  obtain rfl : gh = k := by simpa [Value.ownBlock] using hk
  exact h1
 exact ⟨(h2.cellAt q (by omega)).trans hu, h2.frozenAt q⟩
theorem blk_after {wr W w4 : World} {b : Nat} {t : TypeId} {cs : Array Value} {x : Value} {o : Obj} (hX : Blk wr b t cs) (hx : x.ownBlock ≠ some b) (hg : W.grownBy w4 x.ownBlock) (hW : W.heap = (wr.alloc o).heap) : Blk w4 b t cs := by
 have h1 := hX.lt
 unfold Blk
 rw [hg.block b (by rw [hW, alloc_size']; omega) (fun e => hx e.symm), hW]
 exact (Below.heap_alloc wr o b h1).trans hX
/-- heard by those before q -/
def hearQ (on : Nat → Nat) (g : Nat) (x : Int) (H : Nat → List Int) (q : Nat) : Nat → List Int := fun p => if decide (p < q) && inCo on g p then H p ++ [x] else H p
def someQ (on : Nat → Nat) (g q : Nat) : Bool := (List.range q).any (inCo on g)
theorem hearQ_no {on : Nat → Nat} {g q : Nat} {x : Int} {H : Nat → List Int} (h : inCo on g q = false) : ∀ p, hearQ on g x H q p = hearQ on g x H (q + 1) p := fun p => by
 unfold hearQ
 by_cases e : p = q
 ·subst e; simp [h]
 ·have : decide (p < q) = decide (p < q + 1) := by rw [decide_eq_decide]; omega
  rw [this]
theorem hearQ_yes {on : Nat → Nat} {g q : Nat} {x : Int} {H : Nat → List Int} (h : inCo on g q = true) : ∀ p, upd (hearQ on g x H q) q (H q ++ [x]) p = hearQ on g x H (q + 1) p := fun p => by
 by_cases e : p = q
 ·subst e
  rw [upd_same]
  unfold hearQ
  simp [h]
 ·rw [upd_ne _ _ e]
  unfold hearQ
  have : decide (p < q) = decide (p < q + 1) := by rw [decide_eq_decide]; omega
  rw [this]
theorem hearQ_at (on : Nat → Nat) (g q : Nat) (x : Int) (H : Nat → List Int) : hearQ on g x H q q = H q := by unfold hearQ; simp
theorem someQ_succ (on : Nat → Nat) (g q : Nat) : someQ on g (q + 1) = (someQ on g q || inCo on g q) := by unfold someQ; rw [List.range_succ, List.any_append]; simp
theorem someQ_co {n : Nat} {on : Nat → Nat} {g : Nat} (h0 : on 0 = 0) : someQ on g (n + 1) = !decide (co n on g = []) := by
 have h00 : inCo on g 0 = false := by unfold inCo; simp [h0]
 rw [Bool.eq_iff_iff]
 unfold someQ co
 rw [List.any_eq_true]
 simp only [Bool.not_eq_true', decide_eq_false_iff_not]
 constructor
 ·rintro ⟨q, hq, hc⟩ he
  have hq' := List.mem_range.1 hq
  have hq0 : q ≠ 0 := fun e => by rw [e, h00] at hc; cases hc
  have : q ∈ ((List.range n).map (· + 1)).filter (inCo on g) := List.mem_filter.2 ⟨List.mem_map.2 ⟨q - 1, List.mem_range.2 (by omega), by omega⟩, hc⟩
  rw [he] at this
  simp at this
 ·intro he
  obtain ⟨q, hq⟩ := List.exists_mem_of_ne_nil _ he
  obtain ⟨h1, h2⟩ := List.mem_filter.1 hq
  obtain ⟨p, hp, rfl⟩ := List.mem_map.1 h1
  exact ⟨p + 1, List.mem_range.2 (by have := List.mem_range.1 hp; omega), h2⟩
theorem Rm.setBox {w : World} {base n b i : Nat} {on : Nat → Nat} {H : Nat → List Int} {al : List Int} {vO vH vA x : Value} {V : List Value} {cs : Array Value} (h : Rm w base n on H al vO vH vA V) (hX : Blk w b 52 cs) : Rm (w.setCell ⟨b, i, none⟩ x) base n on H al vO vH vA V := by
 refine ⟨ownsRow_setCell_other h.hO (own_blk_ne h.hO hX (by decide)) _, ⟨h.hH.len, ownsRow_setCell_other h.hH.hdr (own_blk_ne h.hH.hdr hX (by decide)) _, fun i u l h3 h4 => ?_, h.hH.apart⟩, ownsRow_setCell_other h.hA (own_blk_ne h.hA hX (by decide)) _, h.aO, h.aA⟩
 exact ownsRow_setCell_other (h.hH.row i u l h3 h4) (own_blk_ne (h.hH.row i u l h3 h4) hX (by decide)) _
def SayPost (base n : Nat) (on : Nat → Nat) (g : Nat) (x : Int) (H : Nat → List Int) (al : List Int) (vO vH : Value) (w : World) (e : Ending) (w' : World) : Prop :=
 ∃ vA' V', e = .returned (.agg #[vO, vH, vA']) ∧ Rm w' base n on (hearQ on g x H (n + 1)) (if co n on g = [] then al ++ [x] else al) vO vH vA' V' ∧ Below base w w' ∧ (∀ b' cs, Blk w b' 52 cs → Blk w' b' 52 cs)
section
variable {w : World} {base n : Nat} {on : Nat → Nat} {H : Nat → List Int} {al : List Int} {vO vH vA : Value} {V : List Value}
set_option maxRecDepth 20000 in
set_option maxHeartbeats 16000000 in
theorem l7Step_say (s : ByteArray) (hs : s.toList = sayL) (g : Nat) (x : Int) (h : Rm w base n on H al vO vH vA V) (hg1 : 1 ≤ g) (hg : g ≤ n) (hn : n ≤ 5) (hb : base ≤ w.heap.size) (h0 : on 0 = 0) (hH : ∀ q, (H q).length ≤ 1000) (hal : al.length ≤ 1000) :
  Calls Try.prog 46 #[.agg #[vO, vH, vA], .agg #[.string s, .int .i64 (g : Int), .int .i64 x]] w (SayPost base n on g x H al vO vH w) := by
 obtain ⟨ic, hi, hz0, hz1, hz2⟩ := info_parts int_infoR
 obtain ⟨go, c, rfl, hgo, hgo2⟩ := h.formO
 obtain ⟨gh, c2, rfl, hgh, hgh2⟩ := h.formH
 obtain ⟨A, c3, rfl⟩ := own_form h.hA
 have c0 := h.boxes (.cells #[.slice (some ⟨go, 0, none⟩) (n + 1) c, .slice (some ⟨gh, 0, none⟩) (n + 1) c2, .slice A al.length c3] 52) (.cells #[.string s, .int .i64 (g : Int), .int .i64 x] 41) (.cells #[.slice none 0 0, .slice none 0 0, .slice none 0 0] 52)
 have hR1 : Blk (((w.alloc (.cells #[.slice (some ⟨go, 0, none⟩) (n + 1) c, .slice (some ⟨gh, 0, none⟩) (n + 1) c2, .slice A al.length c3] 52)).alloc (.cells #[.string s, .int .i64 (g : Int), .int .i64 x] 41)).alloc (.cells #[.slice none 0 0, .slice none 0 0, .slice none 0 0] 52)) (w.heap.size) 52 #[.slice (some ⟨go, 0, none⟩) (n + 1) c, .slice (some ⟨gh, 0, none⟩) (n + 1) c2, .slice A al.length c3] := ((Blk.new_at _ _ _ rfl).alloc _).alloc _
 have hR2 : Blk (((w.alloc (.cells #[.slice (some ⟨go, 0, none⟩) (n + 1) c, .slice (some ⟨gh, 0, none⟩) (n + 1) c2, .slice A al.length c3] 52)).alloc (.cells #[.string s, .int .i64 (g : Int), .int .i64 x] 41)).alloc (.cells #[.slice none 0 0, .slice none 0 0, .slice none 0 0] 52)) (w.heap.size + 1) 41 #[.string s, .int .i64 (g : Int), .int .i64 x] := (Blk.new_at _ _ _ (by simp)).alloc _
 have hR3 : Blk (((w.alloc (.cells #[.slice (some ⟨go, 0, none⟩) (n + 1) c, .slice (some ⟨gh, 0, none⟩) (n + 1) c2, .slice A al.length c3] 52)).alloc (.cells #[.string s, .int .i64 (g : Int), .int .i64 x] 41)).alloc (.cells #[.slice none 0 0, .slice none 0 0, .slice none 0 0] 52)) (w.heap.size + 1 + 1) 52 #[.slice none 0 0, .slice none 0 0, .slice none 0 0] := Blk.new_at _ _ _ (by simp)
 have hB3 : Below base w (((w.alloc (.cells #[.slice (some ⟨go, 0, none⟩) (n + 1) c, .slice (some ⟨gh, 0, none⟩) (n + 1) c2, .slice A al.length c3] 52)).alloc (.cells #[.string s, .int .i64 (g : Int), .int .i64 x] 41)).alloc (.cells #[.slice none 0 0, .slice none 0 0, .slice none 0 0] 52)) := (((Below.refl base w).alloc hb _).alloc (by simp; omega) _).alloc (by simp; omega) _
 unfold sayL at hs
 have HS := Lib.hid (And.intro c0 (And.intro hR1 (And.intro hR2 (And.intro hR3 hB3))))
 clear h c0 hR1 hR2 hR3 hB3
 go_enter Try.func46, Try.ntmps46
 go_wp2
 go_loopw [6, 5] (fun iv hv wr => ∃ (q : Nat) (V' : List Value), 1 ≤ q ∧ q ≤ n + 1 ∧ iv = .int .i64 q ∧ hv = .bool (someQ on g q) ∧ Rm wr base n on (hearQ on g x H q) al (.slice (some ⟨go, 0, none⟩) (n + 1) c) (.slice (some ⟨gh, 0, none⟩) (n + 1) c2) (.slice A al.length c3) V' ∧
  Blk wr (w.heap.size) 52 #[.slice (some ⟨go, 0, none⟩) (n + 1) c, .slice (some ⟨gh, 0, none⟩) (n + 1) c2, .slice A al.length c3] ∧ Blk wr (w.heap.size + 1) 41 #[.string s, .int .i64 (g : Int), .int .i64 x] ∧ Blk wr (w.heap.size + 1 + 1) 52 #[.slice none 0 0, .slice none 0 0, .slice none 0 0] ∧ Below base w wr ∧ (∀ b' cs, Blk w b' 52 cs → Blk wr b' 52 cs)) (fun iv _ _ => n + 1 - (intOf iv).toNat)
 case atStart =>
  obtain ⟨a1, a2, a3, a4, a5⟩ := HS.out
  refine ⟨1, V, Nat.le_refl _, by omega, rfl, ?_, a1.congr (fun q _ => rfl) (fun q _ => ?_), a2, a3, a4, a5, fun b' cs hX => ((hX.alloc _).alloc _).alloc _⟩
  ·have : inCo on g 0 = false := by unfold inCo; simp [h0]
   simp [someQ, this]
  ·unfold hearQ
   by_cases e : q = 0
   ·subst e; simp [inCo, h0]
   ·have : decide (q < 1) = false := by simp; omega
    rw [this]; rfl
 case round =>
  obtain ⟨q, V', hq1, hq2, rfl, rfl, hR, hX1, hX2, hX3, hbel, hkb⟩ := hrel
  clear HS
  have HKB := Lib.hid hkb
  clear hkb
  have r0 := hX1.cell 0
  have r1 := hX1.cell 1
  have r2 := hX1.cell 2
  have s1 := hX2.cell 1
  have s2 := hX2.cell 2
  simp at r0 r1 r2 s1 s2
  by_cases hlt : q ≤ n
  ·have cq := hR.atO hlt
   have cg := hR.atO hg
   have hqi : (q : Int) < (n : Int) + 1 := by omega
   have hgi : (g : Int) < (n : Int) + 1 := by omega
   have HR := Lib.hid (And.intro hR (And.intro hX1 (And.intro hX2 (And.intro hX3 hbel))))
   have HH := Lib.hid hH
   cases hc : inCo on g q
   ·have Hsu : Hid (someQ on g (q + 1) = someQ on g q) := Lib.hid (by rw [someQ_succ, hc]; simp)
    have Hno := Lib.hid (hearQ_no (x := x) (H := H) hc)
    by_cases e1 : q = g
    ·subst e1
     clear hR hX1 hX2 hX3 hbel hc hH
     go_wp2
     go_quiet (fail)
     go_wp2
     go_roundw
     case rel =>
      obtain ⟨a1, a2, a3, a4, a5⟩ := HR.out
      exact ⟨q + 1, V', by omega, by omega, by go_num, by rw [Hsu.out], (a1.congr (fun _ _ => rfl) (fun p _ => Hno.out p)).blocks (fun _ _ _ => rfl), a2, a3, a4, below_drewN a5 _, fun b' cs hX => (HKB.out b' cs hX).drewN _⟩
     case measure => simp [intOf]; omega
    ·have e1i : ¬ (q : Int) = (g : Int) := by omega
     have e1b : ((q : Int) != (g : Int)) = true := by simp; omega
     by_cases e2 : on q = 0
     ·have e2i : decide ((0 : Int) < ((on q : Nat) : Int)) = false := by simp [e2]
      clear hR hX1 hX2 hX3 hbel hc hH
      go_wp2
      go_quiet (fail)
      go_wp2
      go_roundw
      case rel =>
       obtain ⟨a1, a2, a3, a4, a5⟩ := HR.out
       exact ⟨q + 1, V', by omega, by omega, by go_num, by rw [Hsu.out], (a1.congr (fun _ _ => rfl) (fun p _ => Hno.out p)).blocks (fun _ _ _ => rfl), a2, a3, a4, below_drewN a5 _, fun b' cs hX => (HKB.out b' cs hX).drewN _⟩
      case measure => simp [intOf]; omega
     ·have e2k : decide (0 < on q) = true := by simp; omega
      have e3 : ¬ on q = on g := fun e => by
       unfold inCo at hc
       simp [e1, e] at hc
       omega
      have e3i : ((((on q : Nat) : Int)) == ((on g : Nat) : Int)) = false := by simp; omega
      have e3k : (on q == on g) = false := by simp; exact e3
      have e3l : decide (on q = on g) = false := by simp; exact e3
      have e3j : ¬ ((on q : Nat) : Int) = ((on g : Nat) : Int) := by omega
      clear hR hX1 hX2 hX3 hbel hc hH
      go_wp2
      go_quiet (fail)
      go_wp2
      go_roundw
      case rel =>
       obtain ⟨a1, a2, a3, a4, a5⟩ := HR.out
       exact ⟨q + 1, V', by omega, by omega, by go_num, by rw [Hsu.out], (a1.congr (fun _ _ => rfl) (fun p _ => Hno.out p)).blocks (fun _ _ _ => rfl), a2, a3, a4, below_drewN a5 _, fun b' cs hX => (HKB.out b' cs hX).drewN _⟩
      case measure => simp [intOf]; omega
   ·have Hsu : Hid (someQ on g (q + 1) = true) := Lib.hid (by rw [someQ_succ, hc]; simp)
    have Hyes := Lib.hid (hearQ_yes (x := x) (H := H) hc)
    obtain ⟨⟨e1, e2⟩, e3⟩ : (q ≠ g ∧ 0 < on q) ∧ on q = on g := by
     unfold inCo at hc
     simpa using hc
    have hV : q < V'.length := by have := hR.hH.len; rw [hdL_len] at this; omega
    obtain ⟨u, hu⟩ : ∃ u, V'[q]? = some u := ⟨_, List.getElem?_eq_getElem hV⟩
    have hrow := hR.hH.row q u _ hu (hdL_get _ hlt)
    rw [hearQ_at] at hrow
    obtain ⟨A1, cc, rfl⟩ := own_form hrow
    have hVn : V'.length = n + 1 := by have := hR.hH.len; rw [hdL_len] at this; omega
    have hdr := hR.hH.hdr
    rw [hVn] at hdr
    have hhd := (hdr.cellAt q (by omega)).trans hu
    have hlen := hH q
    have hne1 := own_blk_ne hrow hX1 (by decide)
    have hne2 := own_blk_ne hrow hX2 (by decide)
    have hne3 := own_blk_ne hrow hX3 (by decide)
    have hgb : (Value.slice A1 (H q).length cc).ownBlock ≠ some gh := fun e => own_types hrow hdr (by decide) gh e rfl
    have hws : base ≤ wr.heap.size := by have := hR.hO.lt go rfl; omega
    have hghw : gh < wr.heap.size := (hdr.lt gh rfl).2
    have hw2 : w.heap.size + 1 + 1 < wr.heap.size := hX3.lt
    have hall : ∀ (k : Nat) (o : Obj), ((wr.drewN k).alloc o).cell? ⟨gh, q, none⟩ = some (.slice A1 (H q).length cc) := fun k o => (World.cell?_alloc_lt (wr.drewN k) o ⟨gh, q, none⟩ hghw).trans hhd
    have hal1 : ∀ (k : Nat) (o : Obj), ((wr.drewN k).alloc o).cell? ⟨w.heap.size, 1, none⟩ = some (.slice (some ⟨gh, 0, none⟩) (n + 1) c2) := fun k o => (World.cell?_alloc_lt (wr.drewN k) o ⟨w.heap.size, 1, none⟩ (by show w.heap.size < wr.heap.size; omega)).trans r1
    have hal2 : ∀ (k : Nat) (o : Obj), ((wr.drewN k).alloc o).cell? ⟨w.heap.size + 1, 2, none⟩ = some (.int .i64 x) := fun k o => (World.cell?_alloc_lt (wr.drewN k) o ⟨w.heap.size + 1, 2, none⟩ (by show w.heap.size + 1 < wr.heap.size; omega)).trans s2
    have hal3 : ∀ (k : Nat) (o : Obj), ((wr.drewN k).alloc o).cell? ⟨w.heap.size + 1, 1, none⟩ = some (.int .i64 g) := fun k o => (World.cell?_alloc_lt (wr.drewN k) o ⟨w.heap.size + 1, 1, none⟩ (by show w.heap.size + 1 < wr.heap.size; omega)).trans s1
    have HU := Lib.hid (And.intro hu (And.intro hrow (And.intro hne1 (And.intro hne2 (And.intro hne3 (And.intro hgb hdr))))))
    have e1i : ¬ (q : Int) = (g : Int) := by omega
    have e1b : ((q : Int) != (g : Int)) = true := by simp; omega
    have e2k : decide (0 < on q) = true := by simp; omega
    have e3i : ((((on q : Nat) : Int)) == ((on g : Nat) : Int)) = true := by simp; omega
    have e3k : (on q == on g) = true := by simp; exact e3
    have e3l : decide (on q = on g) = true := by simp; exact e3
    have e3h := Lib.hid e3
    clear hR hX1 hX2 hX3 hbel hc hH hdr hne1 hne2 hne3 hgb hu e3
    go_wp2
    go_quiet (fail)
    go_wp2_with fail
    go_region_law ((refine step_append_any rfl _ _ 32 rfl base 3 ic (.int .i64 0) 1 8 Try.underlying32 hi hz0 hz1 hz2 rfl (by decide) (.slice A1 (H q).length cc) (H q).length (ints (H q)) (by simp [Act.eval, Act.put]) (World.ownsRow.alloc (show World.ownsRow _ _ _ _ _ _ _ from hrow) _) _ (some ⟨wr.heap.size, 0, none⟩) 1 1 [.int .i64 x] (by simp [Act.eval, Act.put]) (Blk.reads (Blk.new _ _ _) rfl) (by intro u hu; obtain rfl := List.mem_singleton.1 hu; rfl) (by unfold maxLen; omega) (by omega) (by rw [alloc_size']; exact Nat.le_succ_of_le hws) ?_; intro v' w4 hown' hgrow hloc; obtain ⟨hc4, hf4⟩ := hdr_after (o := .cells #[.int .i64 x] 3) HU.out.2.2.2.2.2.2 HU.out.2.2.2.2.2.1 hgrow rfl (by omega) HU.out.1; obtain ⟨A5, c5, rfl⟩ := own_form hown'; have k5 : w4.cell? ⟨w.heap.size, 1, none⟩ = some (.slice (some ⟨gh, 0, none⟩) (n + 1) c2) := (blk_after (o := .cells #[.int .i64 x] 3) HR.out.2.1 HU.out.2.2.1 hgrow rfl).cell 1))
    all_goals
     have HZ := Lib.hid (And.intro hown' (And.intro hgrow hloc))
     clear hown' hgrow hloc
     go_wp2
     go_roundw
     case rel =>
      obtain ⟨a1, a2, a3, a4, a5⟩ := HR.out
      obtain ⟨hu, hrow, hne1, hne2, hne3, hgb, hdr⟩ := HU.out
      obtain ⟨hown', hgrow, hloc⟩ := HZ.out
      have hb4 : ∀ b', b' < wr.heap.size → (Value.slice A1 (H q).length cc).ownBlock ≠ some b' → w4.heap[b']? = wr.heap[b']? := fun b' hb' hne => (hgrow.block b' (by rw [alloc_size']; exact Nat.lt_succ_of_lt hb') (fun e => hne e.symm)).trans (Below.heap_alloc _ _ _ hb')
      have hs4 : wr.heap.size ≤ w4.heap.size := by have := hgrow.size; rw [alloc_size'] at this; exact Nat.le_of_succ_le this
      have R5 := a1.hear (w2 := w4) (l' := H q ++ [x]) hlt hu hs4 (by simpa [ints] using hown') hb4 (hloc.imp id fun e => ⟨_, by rw [alloc_size'] at *; exact Nat.le_succ _, e⟩)
      have hX : ∀ {b' : Nat} {t : TypeId} {cs : Array Value}, Blk wr b' t cs → (Value.slice A1 (H q).length cc).ownBlock ≠ some b' → b' ≠ gh → Blk (w4.setCell ⟨gh, q, none⟩ (.slice A5 ((H q).length + 1) c5)) b' t cs := fun h1 h2 h3 => (Below.heap_setCell _ _ _ _ h3).trans ((hb4 _ h1.lt h2).trans h1)
      have hb5 : Below base w w4 := below_of_grown (below_drewN a5 _) hgrow hws (fun k hk => (hrow.lt k hk).1)
      have hb6 := hb5.setCell (show base ≤ (⟨gh, q, none⟩ : Addr).block from hgh) (.slice A5 ((H q).length + 1) c5)
      exact ⟨q + 1, _, by omega, by omega, by go_num, by rw [Hsu.out], R5.congr (fun _ _ => rfl) (fun p _ => Hyes.out p), hX a2 hne1 (by omega), hX a3 hne2 (by omega), hX a4 hne3 (by omega), hb6, fun b' cs hY => hX (HKB.out b' cs hY) (own_blk_ne hrow (HKB.out b' cs hY) (by decide)) (fun e => own_blk_ne hdr (HKB.out b' cs hY) (by decide) (by rw [e]; rfl))⟩
     case measure => simp [intOf]; omega
  ·obtain rfl : q = n + 1 := by omega
   have hnl : ¬ (n : Int) + 1 < (n : Int) + 1 := by omega
   have hws : base ≤ wr.heap.size := by have := hR.hO.lt go rfl; omega
   have hal' := hR.hA
   have hne1 := own_blk_ne hal' hX1 (by decide)
   have hne3 := own_blk_ne hal' hX3 (by decide)
   by_cases hco : co n on g = []
   ·have hsm : someQ on g (n + 1) = false := by rw [someQ_co h0, hco]; simp
    rw [hsm]
    have HR := Lib.hid (And.intro hR (And.intro hX1 (And.intro hX2 (And.intro hX3 (And.intro hbel (And.intro hne1 hne3))))))
    have HC := Lib.hid hco
    clear hR hX1 hX2 hX3 hbel hH hco hsm
    go_wp2_with (at_builtin; refine wpList_append_any _ rfl _ _ 32 rfl base 3 ic (.int .i64 0) 1 8 Try.underlying32 hi hz0 hz1 hz2 rfl (by decide) (.slice A al.length c3) _ _ rfl (hal'.alloc _) _ (some ⟨wr.heap.size, 0, none⟩) 1 1 [.int .i64 x] rfl (Blk.reads (Blk.new _ _ _) rfl) (by intro u hu; obtain rfl := List.mem_singleton.1 hu; rfl) ?_ ?_ ?_ ?_; (unfold maxLen; omega); omega; (simp; omega); intro v' w4 hown' hgrow hloc; obtain ⟨A5, c5, rfl⟩ := own_form hown'; have hb4 : ∀ b', b' < wr.heap.size → (Value.slice A al.length c3).ownBlock ≠ some b' → w4.heap[b']? = wr.heap[b']? := (fun b' hb' hne => (hgrow.block b' (by rw [alloc_size']; exact Nat.lt_succ_of_lt hb') (fun e => hne e.symm)).trans (Below.heap_alloc _ _ _ hb')); have k1 := (hb4 _ HR.out.2.1.lt HR.out.2.2.2.2.2.1).trans HR.out.2.1; have k3 := (hb4 _ HR.out.2.2.2.1.lt HR.out.2.2.2.2.2.2).trans HR.out.2.2.2.1; have kf : w4.frozen? ⟨w.heap.size, 2, none⟩ = false := Blk.frozen k1 2; have kc : w4.cell? ⟨w.heap.size, 2, none⟩ = some (.slice A al.length c3) := Blk.cell k1 2; have k0 : w4.cell? ⟨w.heap.size, 0, none⟩ = some (.slice (some ⟨go, 0, none⟩) (n + 1) c) := Blk.cell k1 0; have k1' : w4.cell? ⟨w.heap.size, 1, none⟩ = some (.slice (some ⟨gh, 0, none⟩) (n + 1) c2) := Blk.cell k1 1; have m0 : w4.cell? ⟨w.heap.size + 1 + 1, 0, none⟩ = some (.slice none 0 0) := Blk.cell k3 0; have m1 : w4.cell? ⟨w.heap.size + 1 + 1, 1, none⟩ = some (.slice none 0 0) := Blk.cell k3 1; have m2 : w4.cell? ⟨w.heap.size + 1 + 1, 2, none⟩ = some (.slice none 0 0) := Blk.cell k3 2; have n0 : w4.frozen? ⟨w.heap.size + 1 + 1, 0, none⟩ = false := Blk.frozen k3 0; have n1 : w4.frozen? ⟨w.heap.size + 1 + 1, 1, none⟩ = false := Blk.frozen k3 1; have n2 : w4.frozen? ⟨w.heap.size + 1 + 1, 2, none⟩ = false := Blk.frozen k3 2; have HZ := Lib.hid (And.intro hown' (And.intro hgrow (And.intro hloc (And.intro hb4 (And.intro k1 k3))))); clear hown' hgrow hloc hb4 k1 k3)
    obtain ⟨hR, hX1, hX2, hX3, hbel, hne1, hne3⟩ := HR.out
    have K1 := HZ.out.2.2.2.2.1
    have K3 := HZ.out.2.2.2.2.2
    have hR5 : Blk ((((w4.setCell ⟨w.heap.size, 2, none⟩ (.slice A5 (al.length + 1) c5)).setCell ⟨w.heap.size + 1 + 1, 0, none⟩ (.slice (some ⟨go, 0, none⟩) (n + 1) c)).setCell ⟨w.heap.size + 1 + 1, 1, none⟩ (.slice (some ⟨gh, 0, none⟩) (n + 1) c2)).setCell ⟨w.heap.size + 1 + 1, 2, none⟩ (.slice A5 (al.length + 1) c5)) (w.heap.size + 1 + 1) 52 _ := (((Blk.far (t := 52) K3 (p := ⟨w.heap.size, 2, none⟩) (by show w.heap.size + 1 + 1 ≠ w.heap.size; omega) _).set_ 0 _).set_ 1 _).set_ 2 _
    have z0 := hR5.cell 0
    have z1 := hR5.cell 1
    have z2 := hR5.cell 2
    simp at z0 z1 z2
    refine bodyPost_ret (v := .agg #[.slice (some ⟨go, 0, none⟩) (n + 1) c, .slice (some ⟨gh, 0, none⟩) (n + 1) c2, .slice A5 (al.length + 1) c5]) (by simp [results, Try.results46, go_sem, z0, z1, z2]) rfl ⟨.slice A5 (al.length + 1) c5, V', rfl, ?_, ?_, fun b' cs hY => ?_⟩
    ·rw [if_pos HC.out]
     obtain ⟨hown', hgrow, hloc, hb4, _⟩ := HZ.out
     have R4 := hR.alone (w2 := w4) (al' := al ++ [x]) (by simpa [ints] using hown') hb4 (hloc.imp id fun e => ⟨_, by rw [alloc_size']; exact Nat.le_succ _, e⟩)
     have K3' := Blk.far (t := 52) K3 (p := ⟨w.heap.size, 2, none⟩) (by show w.heap.size + 1 + 1 ≠ w.heap.size; omega) (.slice A5 (al.length + 1) c5)
     exact (((R4.setBox (i := 2) (x := .slice A5 (al.length + 1) c5) K1).setBox (i := 0) (x := .slice (some ⟨go, 0, none⟩) (n + 1) c) K3').setBox (i := 1) (x := .slice (some ⟨gh, 0, none⟩) (n + 1) c2) (K3'.set_ 0 _)).setBox (i := 2) (x := .slice A5 (al.length + 1) c5) ((K3'.set_ 0 _).set_ 1 _)
    ·have hb5 : Below base w w4 := below_of_grown hbel HZ.out.2.1 hws (fun k hk => (hal'.lt k hk).1)
     exact (((hb5.setCell (show base ≤ (⟨w.heap.size, 2, none⟩ : Addr).block from hb) _).setCell (show base ≤ (⟨w.heap.size + 1 + 1, 0, none⟩ : Addr).block by show base ≤ w.heap.size + 1 + 1; omega) _).setCell (show base ≤ (⟨w.heap.size + 1 + 1, 1, none⟩ : Addr).block by show base ≤ w.heap.size + 1 + 1; omega) _).setCell (show base ≤ (⟨w.heap.size + 1 + 1, 2, none⟩ : Addr).block by show base ≤ w.heap.size + 1 + 1; omega) _
    ·have hlt := hY.lt
     have hY4 : Blk w4 b' 52 cs := (HZ.out.2.2.2.1 b' (HKB.out b' cs hY).lt (own_blk_ne hal' (HKB.out b' cs hY) (by decide))).trans (HKB.out b' cs hY)
     exact (((hY4.far (p := ⟨w.heap.size, 2, none⟩) (by show b' ≠ w.heap.size; omega) _).far (p := ⟨w.heap.size + 1 + 1, 0, none⟩) (by show b' ≠ w.heap.size + 1 + 1; omega) _).far (p := ⟨w.heap.size + 1 + 1, 1, none⟩) (by show b' ≠ w.heap.size + 1 + 1; omega) _).far (p := ⟨w.heap.size + 1 + 1, 2, none⟩) (by show b' ≠ w.heap.size + 1 + 1; omega) _
   ·have hsm : someQ on g (n + 1) = true := by rw [someQ_co h0]; simp [hco]
    rw [hsm]
    have t0 := hX3.cell 0
    have t1 := hX3.cell 1
    have t2 := hX3.cell 2
    have g0 := hX3.frozen 0
    have g1 := hX3.frozen 1
    have g2 := hX3.frozen 2
    simp at t0 t1 t2
    have hR5 := ((hX3.set_ 0 (.slice (some ⟨go, 0, none⟩) (n + 1) c)).set_ 1 (.slice (some ⟨gh, 0, none⟩) (n + 1) c2)).set_ 2 (.slice A al.length c3)
    have z0 := hR5.cell 0
    have z1 := hR5.cell 1
    have z2 := hR5.cell 2
    simp at z0 z1 z2
    have HR := Lib.hid (And.intro hR (And.intro hX3 hbel))
    have HC := Lib.hid hco
    clear hR hX1 hX2 hX3 hbel hH hco hsm hR5 hal' hne1 hne3
    go_wp2
    refine bodyPost_ret (v := .agg #[.slice (some ⟨go, 0, none⟩) (n + 1) c, .slice (some ⟨gh, 0, none⟩) (n + 1) c2, .slice A al.length c3]) (by simp [results, Try.results46, go_sem, z0, z1, z2]) rfl ⟨.slice A al.length c3, V', rfl, ?_, ?_, fun b' cs hY => ?_⟩
    ·rw [if_neg HC.out]
     have K3 := HR.out.2.1
     exact ((HR.out.1.setBox (i := 0) (x := .slice (some ⟨go, 0, none⟩) (n + 1) c) K3).setBox (i := 1) (x := .slice (some ⟨gh, 0, none⟩) (n + 1) c2) (K3.set_ 0 _)).setBox (i := 2) (x := .slice A al.length c3) ((K3.set_ 0 _).set_ 1 _)
    ·exact ((HR.out.2.2.setCell (show base ≤ (⟨w.heap.size + 1 + 1, 0, none⟩ : Addr).block by show base ≤ w.heap.size + 1 + 1; omega) _).setCell (show base ≤ (⟨w.heap.size + 1 + 1, 1, none⟩ : Addr).block by show base ≤ w.heap.size + 1 + 1; omega) _).setCell (show base ≤ (⟨w.heap.size + 1 + 1, 2, none⟩ : Addr).block by show base ≤ w.heap.size + 1 + 1; omega) _
    ·have hlt := hY.lt
     exact (((HKB.out b' cs hY).far (p := ⟨w.heap.size + 1 + 1, 0, none⟩) (by show b' ≠ w.heap.size + 1 + 1; omega) _).far (p := ⟨w.heap.size + 1 + 1, 1, none⟩) (by show b' ≠ w.heap.size + 1 + 1; omega) _).far (p := ⟨w.heap.size + 1 + 1, 2, none⟩) (by show b' ≠ w.heap.size + 1 + 1; omega) _
end
end Go.Proofs.Ythmgpkcijolljaa
