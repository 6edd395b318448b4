/-
  newGathering's drawn region, whatever its order: seven blocks.
-/
import Derived.Test.YthmgpkcijolljaaH10
import Derived.Test.YthmgpkcijolljaaH11
import Derived.Test.YthmgpkcijolljaaHKChans
namespace Go.Proofs.Ythmgpkcijolljaa
open Go.Conc Go.RowKit Go.Conc.Lib
open Go.ConcN (upd upd_same upd_ne)
open Go.ChangeMaps
set_option linter.unusedSimpArgs false
set_option linter.unusedVariables false
theorem chan_info : (Try.prog.info? 68).map (fun i => (i.zero, i.size, i.bytes)) = some (some (Value.chan none), 1, 8) := by kernel_rfl
theorem ints_info : (Try.prog.info? 32).map (fun i => (i.zero, i.size, i.bytes)) = some (some (Value.slice none 0 0), 1, 24) := by kernel_rfl
noncomputable def body48 : Code := Try.f48.body.getD .skip
noncomputable def ops48 : Array Oper := match body48 with | .seq _ (.seq (.region _ ops _) _) => ops | _ => #[]
noncomputable def R48 : Code := match body48 with | .seq _ (.seq _ c) => c | _ => .skip
def adr : Value → Nat
  | .slice (some a) _ _ => a.block
  | .map (some b) => b
  | .pointer (some a) => a.block
  | _ => 0
def isAl (i : Nat) : Bool := i == 0 || i == 1 || i == 6 || i == 7 || i == 10 || i == 13 || i == 15
def vl48 (n i p : Nat) : Value := if i = 0 then .slice (some ⟨p, 0, none⟩) 10 10 else if i = 1 ∨ i = 7 then .map (some p) else if i = 15 then .pointer (some ⟨p, 0, none⟩) else .slice (some ⟨p, 0, none⟩) n n
def gat48 (F : Nat → Value) : Array Value := #[F 0, F 3, F 6, F 7, F 10, F 13, .slice none 0 0]
def ob48 (n : Nat) (two : Bool) (F : Nat → Value) (i : Nat) : Obj :=
  if i = 0 then .cells (Array.replicate 10 (.chan none)) 68
  else if i = 1 then (if two then putCh #[] 0 none (.int .i64 0) else .map #[] 0)
  else if i = 7 then .map #[] 0
  else if i = 15 then .cells (gat48 F) 62
  else if i = 13 then .cells (Array.replicate n (.slice none 0 0)) 32
  else .cells (Array.replicate n (.chan none)) 68
def pv48 (g : Nat) (F : Nat → Value) (i : Nat) : Value :=
  if i = 3 then F 1 else if i = 4 ∨ i = 8 ∨ i = 11 then .int .i64 g else if i = 5 ∨ i = 9 ∨ i = 12 then .int .i64 ((g + 1 : Nat) : Int) else if i = 14 then .agg (gat48 F) else F 15
theorem adr_vl (n i p : Nat) : adr (vl48 n i p) = p := by unfold vl48; (repeat' split) <;> rfl
/-- What is done when it is done. -/
structure Cl48 (d : List Nat) : Prop where
  c3 : 3 ∈ d → 1 ∈ d
  c14 : 14 ∈ d → 0 ∈ d ∧ 3 ∈ d ∧ 6 ∈ d ∧ 7 ∈ d ∧ 10 ∈ d ∧ 13 ∈ d
  c15 : 15 ∈ d → 14 ∈ d
  c16 : 16 ∈ d → 15 ∈ d
/-- What stands when d is done. -/
structure Lay48 (w0 : World) (g : Nat) (d : List Nat) (F : Nat → Value) (v : World) : Prop where
  al : ∀ i ∈ d, isAl i = true → w0.heap.size ≤ adr (F i) ∧ F i = vl48 (g + 1) i (adr (F i)) ∧ v.heap[adr (F i)]? = some (ob48 (g + 1) (decide (2 ∈ d)) F i)
  inj : ∀ i ∈ d, ∀ j ∈ d, isAl i = true → isAl j = true → adr (F i) = adr (F j) → i = j
  pl : ∀ i ∈ d, isAl i = false → i ≠ 2 → F i = pv48 g F i
  old : Ups w0 v
section
variable {w0 v : World} {g : Nat} {d : List Nat} {F : Nat → Value}
theorem gat_upd (hC : Cl48 d) (h14 : 14 ∈ d) {i : Nat} (hi : i ∉ d) (x : Value) : gat48 (upd F i x) = gat48 F := by
  obtain ⟨a, b, c, e, f, h⟩ := hC.c14 h14
  have ne : ∀ j, j ∈ d → upd F i x j = F j := fun j hj => upd_ne _ _ (by rintro rfl; exact hi hj)
  unfold gat48
  rw [ne _ a, ne _ b, ne _ c, ne _ e, ne _ f, ne _ h]
theorem ob_upd (hC : Cl48 d) {i j : Nat} (hj : j ∈ d) (hi : i ∉ d) (x : Value) (two : Bool) : ob48 (g + 1) two (upd F i x) j = ob48 (g + 1) two F j := by
  by_cases h : j = 15
  · subst h
    unfold ob48
    simp only [show ¬ (15 = 0) by decide, show ¬ (15 = 1) by decide, show ¬ (15 = 7) by decide, if_false, if_true, gat_upd hC (hC.c15 hj) hi]
  · unfold ob48
    simp only [h, if_false]
theorem pv_upd (hC : Cl48 d) {i j : Nat} (hj : j ∈ d) (hi : i ∉ d) (x : Value) (hp : F j = pv48 g F j) (h16 : isAl j = false) (h2 : j ≠ 2) (hlt : j < 17) : F j = pv48 g (upd F i x) j := by
  have ne : ∀ k, k ∈ d → upd F i x k = F k := fun k hk => upd_ne _ _ (by rintro rfl; exact hi hk)
  rw [hp]
  rcases (by unfold isAl at h16; simp at h16; omega : j = 3 ∨ j = 4 ∨ j = 5 ∨ j = 8 ∨ j = 9 ∨ j = 11 ∨ j = 12 ∨ j = 14 ∨ j = 16) with rfl | rfl | rfl | rfl | rfl | rfl | rfl | rfl | rfl
  · show F 1 = upd F i x 1
    rw [ne _ (hC.c3 hj)]
  · rfl
  · rfl
  · rfl
  · rfl
  · rfl
  · rfl
  · show Value.agg (gat48 F) = .agg (gat48 (upd F i x))
    rw [gat_upd hC hj hi]
  · show F 15 = upd F i x 15
    rw [ne _ (hC.c16 hj)]
/-- a new block -/
theorem Lay48.alloc (h : Lay48 w0 g d F v) (hC : Cl48 d) (hlt : ∀ j ∈ d, j < 17) {i : Nat} (hi : i ∉ d) (hA : isAl i = true) :
    Lay48 w0 g (i :: d) (upd F i (vl48 (g + 1) i v.heap.size)) (v.alloc (ob48 (g + 1) (decide (2 ∈ d)) F i)) := by
  have ne : ∀ k, k ∈ d → upd F i (vl48 (g + 1) i v.heap.size) k = F k := fun k hk => upd_ne _ _ (by rintro rfl; exact hi hk)
  have h2 : i ≠ 2 := by rintro rfl; cases hA
  have e2 : decide (2 ∈ i :: d) = decide (2 ∈ d) := by simp [Ne.symm h2]
  have old : ∀ j ∈ d, isAl j = true → adr (F j) < v.heap.size := fun j hj ha => (Array.getElem?_eq_some_iff.1 (h.al j hj ha).2.2).1
  refine ⟨fun j hj ha => ?_, fun j hj k hk ha hb he => ?_, fun j hj ha hj2 => ?_, h.old.trans (Ups.alloc _ _)⟩
  · rw [e2]
    rcases List.mem_cons.1 hj with rfl | hj
    · rw [upd_same, adr_vl]
      refine ⟨h.old.size, rfl, ?_⟩
      rw [heap_alloc_new]
      congr 1
      by_cases h15 : j = 15
      · subst h15
        unfold ob48 gat48
        simp only [show ¬ (15 = 0) by decide, show ¬ (15 = 1) by decide, show ¬ (15 = 7) by decide, if_false, if_true]
        simp only [upd]
        rfl
      · unfold ob48
        simp only [h15, if_false]
    · rw [ne j hj, ob_upd hC hj hi]
      obtain ⟨h3, h4, h5⟩ := h.al j hj ha
      exact ⟨h3, h4, (Below.heap_alloc v _ _ (old j hj ha)).trans h5⟩
  · by_cases e1 : j = i <;> by_cases e3 : k = i
    · rw [e1, e3]
    · have hk' := (List.mem_cons.1 hk).resolve_left e3
      rw [e1, upd_same, adr_vl, ne k hk'] at he
      have := old k hk' hb; omega
    · have hj' := (List.mem_cons.1 hj).resolve_left e1
      rw [e3, upd_same, adr_vl, ne j hj'] at he
      have := old j hj' ha; omega
    · have hk' := (List.mem_cons.1 hk).resolve_left e3
      have hj' := (List.mem_cons.1 hj).resolve_left e1
      rw [ne j hj', ne k hk'] at he
      exact h.inj j hj' k hk' ha hb he
  · rcases List.mem_cons.1 hj with rfl | hj
    · rw [hA] at ha; cases ha
    · rw [ne j hj]
      exact pv_upd hC hj hi _ (h.pl j hj ha hj2) ha hj2 (hlt j hj)
/-- a value -/
theorem Lay48.val (h : Lay48 w0 g d F v) (hC : Cl48 d) (hlt : ∀ j ∈ d, j < 17) {i : Nat} (hi : i ∉ d) (hA : isAl i = false) (h2 : i ≠ 2) {x : Value} (hx : x = pv48 g F i) : Lay48 w0 g (i :: d) (upd F i x) v := by
  have ne : ∀ k, k ∈ d → upd F i x k = F k := fun k hk => upd_ne _ _ (by rintro rfl; exact hi hk)
  have e2 : decide (2 ∈ i :: d) = decide (2 ∈ d) := by simp [Ne.symm h2]
  have noti : ∀ j, j ∈ i :: d → isAl j = true → j ∈ d := fun j hj ha => by
    rcases List.mem_cons.1 hj with rfl | hj
    · rw [hA] at ha; cases ha
    · exact hj
  refine ⟨fun j hj ha => ?_, fun j hj k hk ha hb he => ?_, fun j hj ha hj2 => ?_, h.old⟩
  · have hj := noti j hj ha
    rw [ne j hj, e2, ob_upd hC hj hi]
    exact h.al j hj ha
  · have hj := noti j hj ha
    have hk := noti k hk hb
    rw [ne j hj, ne k hk] at he
    exact h.inj j hj k hk ha hb he
  · rcases List.mem_cons.1 hj with rfl | hj
    · rw [upd_same, hx]
      unfold pv48 gat48
      simp only [upd]
      by_cases h3 : j = 3
      · subst h3; rfl
      by_cases h14 : j = 14
      · subst h14; rfl
      by_cases h16 : j = 16
      · subst h16; rfl
      · have hne : j ≠ 15 ∧ j ≠ 1 := by unfold isAl at hA; simp at hA; omega
        simp only [h3, h14, if_false]
        have : ¬ (15 = j) := fun e => hne.1 e.symm
        repeat' split <;> first | rfl | (exfalso; omega)
    · rw [ne j hj]
      exact pv_upd hC hj hi _ (h.pl j hj ha hj2) ha hj2 (hlt j hj)
/-- nil's number -/
theorem Lay48.num (h : Lay48 w0 g d F v) (hC : Cl48 d) (hlt : ∀ j ∈ d, j < 17) (hi : 2 ∉ d) (h1 : 1 ∈ d) (x : Value) : Lay48 w0 g (2 :: d) (upd F 2 x) (mput v (adr (F 1)) none (.int .i64 0)) := by
  have ne : ∀ k, k ∈ d → upd F 2 x k = F k := fun k hk => upd_ne _ _ (by rintro rfl; exact hi hk)
  have noti : ∀ j, j ∈ 2 :: d → isAl j = true → j ∈ d := fun j hj ha => by
    rcases List.mem_cons.1 hj with rfl | hj
    · cases ha
    · exact hj
  obtain ⟨a1, a2, a3⟩ := h.al 1 h1 rfl
  have a3' : v.heap[adr (F 1)]? = some (.map #[] 0) := by rw [a3]; unfold ob48; simp [hi]
  refine ⟨fun j hj ha => ?_, fun j hj k hk ha hb he => ?_, fun j hj ha hj2 => ?_, ⟨by rw [mput_size]; exact h.old.size, fun b hb => ?_⟩⟩
  · have hj := noti j hj ha
    rw [ne j hj, ob_upd hC hj hi]
    obtain ⟨b1, b2, b3⟩ := h.al j hj ha
    refine ⟨b1, b2, ?_⟩
    by_cases hj1 : j = 1
    · subst hj1
      unfold mput
      rw [a3']
      simp only
      rw [heap_setBlock_same a3']
      unfold ob48
      simp
    · rw [mput_other (fun e => hj1 (h.inj j hj 1 h1 ha rfl e)), b3]
      unfold ob48
      simp only [hj1, if_false]
  · have hj := noti j hj ha
    have hk := noti k hk hb
    rw [ne j hj, ne k hk] at he
    exact h.inj j hj k hk ha hb he
  · rcases List.mem_cons.1 hj with rfl | hj
    · exact absurd rfl hj2
    · rw [ne j hj]
      exact pv_upd hC hj hi _ (h.pl j hj ha hj2) ha hj2 (hlt j hj)
  · exact (mput_other (by omega)).trans (h.old.get b hb)
end
theorem o48_0 : ops48[0]? = some { dst := some 5, op := Op.makeSlice 58 (Operand.const (Value.int IntKind.i64 10)) (Operand.const (Value.int IntKind.i64 10)), type := 58, pos := "l7_bridges.go:39", after := #[], guard := none } := by kernel_rfl
theorem o48_1 : ops48[1]? = some { dst := some 6, op := Op.makeMap 59 none, type := 59, pos := "l7_bridges.go:39", after := #[], guard := none } := by kernel_rfl
theorem o48_2 : ops48[2]? = some { dst := none, op := Op.insert 59 (Operand.tmp 6) (Operand.const (Value.chan none)) (Operand.const (Value.int IntKind.i64 0)), type := 0, pos := "l7_bridges.go:39", after := #[{ on := 1, ground := Ground.data }], guard := none } := by kernel_rfl
theorem o48_3 : ops48[3]? = some { dst := some 7, op := Op.move (Operand.tmp 6), type := 59, pos := "l7_bridges.go:39", after := #[{ on := 1, ground := Ground.data }, { on := 2, ground := Ground.data }], guard := none } := by kernel_rfl
theorem o48_4 : ops48[4]? = some { dst := some 8, op := Op.move (Operand.tmp 0), type := 3, pos := "l7_bridges.go:39", after := #[], guard := none } := by kernel_rfl
theorem o48_5 : ops48[5]? = some { dst := some 9, op := Op.binOp BinOp.add 3 (Operand.tmp 8) (Operand.const (Value.int IntKind.i64 1)) 3, type := 3, pos := "l7_bridges.go:39", after := #[{ on := 4, ground := Ground.data }], guard := none } := by kernel_rfl
theorem o48_6 : ops48[6]? = some { dst := some 10, op := Op.makeSlice 58 (Operand.tmp 9) (Operand.tmp 9), type := 58, pos := "l7_bridges.go:39", after := #[{ on := 5, ground := Ground.data }, { on := 5, ground := Ground.data }], guard := none } := by kernel_rfl
theorem o48_7 : ops48[7]? = some { dst := some 11, op := Op.makeMap 60 none, type := 60, pos := "l7_bridges.go:39", after := #[], guard := none } := by kernel_rfl
theorem o48_8 : ops48[8]? = some { dst := some 12, op := Op.move (Operand.tmp 0), type := 3, pos := "l7_bridges.go:39", after := #[], guard := none } := by kernel_rfl
theorem o48_9 : ops48[9]? = some { dst := some 13, op := Op.binOp BinOp.add 3 (Operand.tmp 12) (Operand.const (Value.int IntKind.i64 1)) 3, type := 3, pos := "l7_bridges.go:39", after := #[{ on := 8, ground := Ground.data }], guard := none } := by kernel_rfl
theorem o48_10 : ops48[10]? = some { dst := some 14, op := Op.makeSlice 58 (Operand.tmp 13) (Operand.tmp 13), type := 58, pos := "l7_bridges.go:39", after := #[{ on := 9, ground := Ground.data }, { on := 9, ground := Ground.data }], guard := none } := by kernel_rfl
theorem o48_11 : ops48[11]? = some { dst := some 15, op := Op.move (Operand.tmp 0), type := 3, pos := "l7_bridges.go:39", after := #[], guard := none } := by kernel_rfl
theorem o48_12 : ops48[12]? = some { dst := some 16, op := Op.binOp BinOp.add 3 (Operand.tmp 15) (Operand.const (Value.int IntKind.i64 1)) 3, type := 3, pos := "l7_bridges.go:39", after := #[{ on := 11, ground := Ground.data }], guard := none } := by kernel_rfl
theorem o48_13 : ops48[13]? = some { dst := some 17, op := Op.makeSlice 44 (Operand.tmp 16) (Operand.tmp 16), type := 44, pos := "l7_bridges.go:39", after := #[{ on := 12, ground := Ground.data }, { on := 12, ground := Ground.data }], guard := none } := by kernel_rfl
theorem o48_14 : ops48[14]? = some { dst := some 18, op := Op.build 62 #[(0, Operand.tmp 5), (1, Operand.tmp 7), (2, Operand.tmp 10), (3, Operand.tmp 11), (4, Operand.tmp 14), (5, Operand.tmp 17)], type := 62, pos := "l7_bridges.go:39", after := #[{ on := 0, ground := Ground.data }, { on := 3, ground := Ground.data }, { on := 6, ground := Ground.data }, { on := 7, ground := Ground.data }, { on := 10, ground := Ground.data }, { on := 13, ground := Ground.data }], guard := none } := by kernel_rfl
theorem o48_15 : ops48[15]? = some { dst := some 19, op := Op.box 62 (Operand.tmp 18), type := 56, pos := "l7_bridges.go:39", after := #[{ on := 14, ground := Ground.data }], guard := none } := by kernel_rfl
theorem o48_16 : ops48[16]? = some { dst := some 3, op := Op.assign (Operand.tmp 19), type := 56, pos := "l7_bridges.go:39", after := #[{ on := 15, ground := Ground.data }, { on := 0, ground := Ground.phase }, { on := 1, ground := Ground.phase }, { on := 2, ground := Ground.phase }, { on := 3, ground := Ground.phase }, { on := 4, ground := Ground.phase }, { on := 5, ground := Ground.phase }, { on := 6, ground := Ground.phase }, { on := 7, ground := Ground.phase }, { on := 8, ground := Ground.phase }, { on := 9, ground := Ground.phase }, { on := 10, ground := Ground.phase }, { on := 11, ground := Ground.phase }, { on := 12, ground := Ground.phase }, { on := 13, ground := Ground.phase }, { on := 14, ground := Ground.phase }, { on := 15, ground := Ground.phase }], guard := none } := by kernel_rfl
theorem cl_of {d : List Nat} (h : Shuts ops48 d) : Cl48 d :=
  ⟨fun hi => shut_dep h hi o48_3 (by kernel_rfl), fun hi => ⟨shut_dep h hi o48_14 (by kernel_rfl), shut_dep h hi o48_14 (by kernel_rfl), shut_dep h hi o48_14 (by kernel_rfl), shut_dep h hi o48_14 (by kernel_rfl), shut_dep h hi o48_14 (by kernel_rfl), shut_dep h hi o48_14 (by kernel_rfl)⟩,
   fun hi => shut_dep h hi o48_15 (by kernel_rfl), fun hi => shut_dep h hi o48_16 (by kernel_rfl)⟩
section
variable {main st : Bool} {Live : World → Prop} {K : Goroutine → World → Prop} {w0 : World} {b : Frame} {k : List Item} {cs : List Frame} {T0 : Array Value} {g : Nat}
def Inv48 (w0 : World) (g : Nat) (d : List Nat) (F : Nat → Value) (v : World) : Prop := Lay48 w0 g d F v ∧ (∀ j ∈ d, j < 17)
/-- what a step wants -/
def Stp (K : Goroutine → World → Prop) (b : Frame) (k : List Item) (cs : List Frame) (T0 : Array Value) (w0 : World) (g : Nat) (d : List Nat) (F : Nat → Value) (v : World) (i : Nat) (r : List Nat) : Prop :=
  (∀ F' v', Flat Try.prog v' → Inv48 w0 g (i :: d) F' v' → KA K (G (b.at ⟨fillT ops48 F' T0 (i :: d), []⟩ (.inRegion ops48 r :: k)) cs) v') → KA K (G (b.at ⟨fillT ops48 F T0 d, []⟩ (.inRegion ops48 (i :: r) :: k)) cs) v
theorem stp_al (hK : KOk Try.prog main false false Live K) (hk : b.kind ≠ .early) {d : List Nat} {F : Nat → Value} {v : World} {i : Nat} {r : List Nat} {o : Oper} (hF : Flat Try.prog v) (hI : Inv48 w0 g d F v) (hC : Cl48 d) (hi : i ∉ d) (hlt : i < 17) (ho : ops48[i]? = some o) (hg : o.guard = none) (hok : opOk Try.prog Sf o = true) (hA : isAl i = true)
    (hr : ∀ W : World, (execOp (Act.mk (fillT ops48 F T0 d) []).eval o).run Try.prog W = .ok (.value (vl48 (g + 1) i W.heap.size)) (W.alloc (ob48 (g + 1) (decide (2 ∈ d)) F i))) : Stp K b k cs T0 w0 g d F v i r := by
  intro h
  refine kOpX closedS.bodies hK hF hk ho (by unfold Region.wanted; rw [hg]) hok fun n hn hz t e => ⟨_, _, _, .inl rfl, hr _, (fun h => by cases h), fun hF' _ => ?_⟩
  have hn' := hz rfl
  subst hn'
  rw [upto_le (v := v) (Nat.le_refl _)] at hF' ⊢
  rw [fill_new hi ho]
  have hfl : Flat Try.prog (v.alloc (ob48 (g + 1) (decide (2 ∈ d)) F i)) := ⟨hF'.room, hF'.obj, hF'.low⟩
  exact KA.re (t := t) (d := e) (h _ _ hfl ⟨hI.1.alloc hC hI.2 hi hA, fun j hj => (List.mem_cons.1 hj).elim (fun e => e ▸ hlt) (hI.2 j)⟩)
theorem stp_vl (hK : KOk Try.prog main false false Live K) (hk : b.kind ≠ .early) {d : List Nat} {F : Nat → Value} {v : World} {i : Nat} {r : List Nat} {o : Oper} (hF : Flat Try.prog v) (hI : Inv48 w0 g d F v) (hC : Cl48 d) (hi : i ∉ d) (hlt : i < 17) (ho : ops48[i]? = some o) (hg : o.guard = none) (hok : opOk Try.prog Sf o = true) (hA : isAl i = false) (h2 : i ≠ 2)
    (hr : ∀ W : World, (execOp (Act.mk (fillT ops48 F T0 d) []).eval o).run Try.prog W = .ok (.value (pv48 g F i)) W) : Stp K b k cs T0 w0 g d F v i r := by
  intro h
  refine kOp closedS.bodies hK hF hk ho (by unfold Region.wanted; rw [hg]) hok (fun W _ => hr W) ?_
  rw [fill_new hi ho]
  exact h _ _ hF ⟨hI.1.val hC hI.2 hi hA h2 rfl, fun j hj => (List.mem_cons.1 hj).elim (fun e => e ▸ hlt) (hI.2 j)⟩
end
end Go.Proofs.Ythmgpkcijolljaa
/-
  newGathering's drawn region: its operations.
-/
namespace Go.Proofs.Ythmgpkcijolljaa
open Go.Conc Go.RowKit Go.Conc.Lib
open Go.ConcN (upd upd_same upd_ne)
open Go.ChangeMaps
set_option linter.unusedSimpArgs false
set_option linter.unusedVariables false
theorem mk10 (W : World) : (Instr.makeSlice 58 (.int .i64 10) (.int .i64 10)).run Try.prog W = .ok (.slice (some ⟨W.heap.size, 0, none⟩) 10 10) (W.alloc (Obj.cells (Array.replicate 10 (.chan none)) 68)) := by
 obtain ⟨ic, hi, hz0, hz1, hz2⟩ := info_parts chan_info
 exact run_makeN (P := Try.prog) 58 68 ic _ Try.underlying58 hi hz0 hz1 rfl (by omega) 10 10 (Nat.le_refl _) (by omega) W
theorem mkN (n : Nat) (h : n ≤ 1000) (W : World) : (Instr.makeSlice 58 (.int .i64 n) (.int .i64 n)).run Try.prog W = .ok (.slice (some ⟨W.heap.size, 0, none⟩) n n) (W.alloc (Obj.cells (Array.replicate n (.chan none)) 68)) := by
 obtain ⟨ic, hi, hz0, hz1, hz2⟩ := info_parts chan_info
 exact run_makeN (P := Try.prog) 58 68 ic _ Try.underlying58 hi hz0 hz1 rfl (by omega) n n (Nat.le_refl _) (by omega) W
theorem mkRows (n : Nat) (h : n ≤ 1000) (W : World) : (Instr.makeSlice 44 (.int .i64 n) (.int .i64 n)).run Try.prog W = .ok (.slice (some ⟨W.heap.size, 0, none⟩) n n) (W.alloc (Obj.cells (Array.replicate n (.slice none 0 0)) 32)) := by
 obtain ⟨ic, hi, hz0, hz1, hz2⟩ := info_parts ints_info
 exact run_makeN (P := Try.prog) 44 32 ic _ Try.underlying44 hi hz0 hz1 rfl (by omega) n n (Nat.le_refl _) (by omega) W
theorem re_heap' (v : World) (t : Nat → Question → Nat) (d : Nat) : (v.re t d).heap = v.heap := rfl
section
variable {main st : Bool} {Live : World → Prop} {K : Goroutine → World → Prop} {w0 : World} {b : Frame} {k : List Item} {cs : List Frame} {T0 : Array Value} {g : Nat}
set_option maxRecDepth 100000 in
set_option maxHeartbeats 4000000 in
theorem stp48 (hK : KOk Try.prog main false false Live K) (hk : b.kind ≠ .early) (hsz : T0.size = 44) (h0 : T0.getD 0 undef = .int .i64 g) (hg : g ≤ 900) {d : List Nat} {F : Nat → Value} {v : World} {i : Nat} {r : List Nat} (hF : Flat Try.prog v) (hI : Inv48 w0 g d F v) (hS : Shuts ops48 d) (hL : Lin ops48 d (i :: r)) : Stp K b k cs T0 w0 g d F v i r := by
 obtain ⟨hlt, hi, _, _⟩ := hL.step
 have hsize : ops48.size = 17 := by kernel_rfl
 rw [hsize] at hlt
 have hA : ApartB ops48 = true := by kernel_rfl
 have hC := cl_of hS
 have hgw : IntKind.i64.wrap ((g : Int) + 1) = ((g + 1 : Nat) : Int) := by rw [IntKind.wrap_i64]; omega
 have hmN := mkN (g + 1) (by omega)
 have hmR := mkRows (g + 1) (by omega)
 have hm10 := mk10
 have hmm := @run_makeMap Try.prog
 rcases (by omega : i = 0 ∨ i = 1 ∨ i = 2 ∨ i = 3 ∨ i = 4 ∨ i = 5 ∨ i = 6 ∨ i = 7 ∨ i = 8 ∨ i = 9 ∨ i = 10 ∨ i = 11 ∨ i = 12 ∨ i = 13 ∨ i = 14 ∨ i = 15 ∨ i = 16) with rfl | rfl | rfl | rfl | rfl | rfl | rfl | rfl | rfl | rfl | rfl | rfl | rfl | rfl | rfl | rfl | rfl
 ·-- 0
  refine stp_al hK hk hF hI hC hi hlt o48_0 rfl (by kernel_rfl) rfl fun W => ?_
  unfold execOp
  show _ = Result.ok (Next.value (Value.slice (some ⟨W.heap.size, 0, none⟩) 10 10)) (W.alloc (Obj.cells (Array.replicate 10 (.chan none)) 68))
  first | (go_simp <;> rfl) | (go_simp; done) | rfl
 ·-- 1
  refine stp_al hK hk hF hI hC hi hlt o48_1 rfl (by kernel_rfl) rfl fun W => ?_
  unfold execOp
  show _ = Result.ok (Next.value (Value.map (some W.heap.size))) (W.alloc (if decide (2 ∈ d) = true then putCh #[] 0 none (.int .i64 0) else Obj.map #[] 0))
  have h2 : 2 ∉ d := fun h => hi (shut_dep hS h o48_2 (by kernel_rfl))
  simp only [h2, decide_false, Bool.false_eq_true, if_false]
  first | (go_simp <;> rfl) | (go_simp; done) | rfl
 ·-- 2
  have m1 : 1 ∈ d := hL.waits o48_2 (by kernel_rfl)
  have e6 := fill_ev (F := F) (T0 := T0) hA (i := 1) (s := 6) (by kernel_rfl) (by rw [hsz]; decide) m1 []
  have f1 := (hI.1.al 1 m1 rfl).2.1
  have a1 := (hI.1.al 1 m1 rfl).2.2
  intro h
  refine kOpX closedS.bodies hK hF hk o48_2 rfl (by kernel_rfl) fun n hn hz t e => ⟨.skip, undef, (mput v (adr (F 1)) none (.int .i64 0)).re t e, .inr ⟨rfl, rfl⟩, ?_, (fun h => by cases h), fun hF' _ => ?_⟩
  ·have hn' := hz rfl
   subst hn'
   rw [upto_le (v := v) (Nat.le_refl _)]
   unfold execOp
   simp only [e6]
   have f1' : F 1 = .map (some (adr (F 1))) := f1
   have hb0 : v.heap[adr (F 1)]? = some (.map #[] 0) := by rw [a1]; unfold ob48; simp [hi]
   have hm : mcm (v.re t e) (adr (F 1)) = true := by show mcm v _ = true; unfold mcm; rw [hb0]; rfl
   have hu := run_mapUpdate_ch (P := Try.prog) (w := v.re t e) Try.underlying59 Try.underlying68 hm none (.int .i64 0)
   have hw' : mput (v.re t e) (adr (F 1)) none (.int .i64 0) = (mput v (adr (F 1)) none (.int .i64 0)).re t e := by unfold mput; rw [re_heap', hb0]; rfl
   rw [hw'] at hu
   generalize adr (F 1) = q at f1' hu ⊢
   rw [f1']
   go_simp
  ·rw [fill_new hi o48_2]
   exact KA.re (t := t) (d := e) (h _ _ ⟨hF'.room, hF'.obj, hF'.low⟩ ⟨hI.1.num hC hI.2 hi m1 undef, fun j hj => (List.mem_cons.1 hj).elim (fun e => e ▸ hlt) (hI.2 j)⟩)
 ·-- 3
  have m1 : 1 ∈ d := hL.waits o48_3 (by kernel_rfl)
  have e6 := fill_ev (F := F) (T0 := T0) hA (i := 1) (s := 6) (by kernel_rfl) (by rw [hsz]; decide) m1 []
  refine stp_vl hK hk hF hI hC hi hlt o48_3 rfl (by kernel_rfl) rfl (by decide) fun W => ?_
  unfold execOp
  simp only [e6]
  show _ = Result.ok (Next.value (F 1)) W
  first | (go_simp; done) | (go_simp <;> rfl) | rfl
 ·-- 4
  have e0 := (fill_old (ops := ops48) (F := F) (T0 := T0) (s := 0) (by kernel_rfl) d []).trans h0
  refine stp_vl hK hk hF hI hC hi hlt o48_4 rfl (by kernel_rfl) rfl (by decide) fun W => ?_
  unfold execOp
  simp only [e0]
  show _ = Result.ok (Next.value (Value.int .i64 g)) W
  first | (go_simp <;> rfl) | (go_simp; done) | rfl
 ·-- 5
  have m4 : 4 ∈ d := hL.waits o48_5 (by kernel_rfl)
  have e8 := fill_ev (F := F) (T0 := T0) hA (i := 4) (s := 8) (by kernel_rfl) (by rw [hsz]; decide) m4 []
  have f4 : F 4 = .int .i64 g := hI.1.pl 4 m4 rfl (by decide)
  rw [f4] at e8
  refine stp_vl hK hk hF hI hC hi hlt o48_5 rfl (by kernel_rfl) rfl (by decide) fun W => ?_
  unfold execOp
  simp only [e8]
  show _ = Result.ok (Next.value (Value.int .i64 ((g + 1 : Nat) : Int))) W
  first | (go_simp <;> rfl) | (go_simp; done) | rfl
 ·-- 6
  have m5 : 5 ∈ d := hL.waits o48_6 (by kernel_rfl)
  have e9 := fill_ev (F := F) (T0 := T0) hA (i := 5) (s := 9) (by kernel_rfl) (by rw [hsz]; decide) m5 []
  have f5 : F 5 = .int .i64 ((g + 1 : Nat) : Int) := hI.1.pl 5 m5 rfl (by decide)
  rw [f5] at e9
  refine stp_al hK hk hF hI hC hi hlt o48_6 rfl (by kernel_rfl) rfl fun W => ?_
  unfold execOp
  simp only [e9]
  show _ = Result.ok (Next.value (Value.slice (some ⟨W.heap.size, 0, none⟩) (g + 1) (g + 1))) (W.alloc (Obj.cells (Array.replicate (g + 1) (.chan none)) 68))
  rw [Sem.run_bind, hmN, Result.andThen_ok]; rfl
 ·-- 7
  refine stp_al hK hk hF hI hC hi hlt o48_7 rfl (by kernel_rfl) rfl fun W => ?_
  unfold execOp
  show _ = Result.ok (Next.value (Value.map (some W.heap.size))) (W.alloc (Obj.map #[] 0))
  first | (go_simp <;> rfl) | (go_simp; done) | rfl
 ·-- 8
  have e0 := (fill_old (ops := ops48) (F := F) (T0 := T0) (s := 0) (by kernel_rfl) d []).trans h0
  refine stp_vl hK hk hF hI hC hi hlt o48_8 rfl (by kernel_rfl) rfl (by decide) fun W => ?_
  unfold execOp
  simp only [e0]
  show _ = Result.ok (Next.value (Value.int .i64 g)) W
  first | (go_simp <;> rfl) | (go_simp; done) | rfl
 ·-- 9
  have m8 : 8 ∈ d := hL.waits o48_9 (by kernel_rfl)
  have e12 := fill_ev (F := F) (T0 := T0) hA (i := 8) (s := 12) (by kernel_rfl) (by rw [hsz]; decide) m8 []
  have f8 : F 8 = .int .i64 g := hI.1.pl 8 m8 rfl (by decide)
  rw [f8] at e12
  refine stp_vl hK hk hF hI hC hi hlt o48_9 rfl (by kernel_rfl) rfl (by decide) fun W => ?_
  unfold execOp
  simp only [e12]
  show _ = Result.ok (Next.value (Value.int .i64 ((g + 1 : Nat) : Int))) W
  first | (go_simp <;> rfl) | (go_simp; done) | rfl
 ·-- 10
  have m9 : 9 ∈ d := hL.waits o48_10 (by kernel_rfl)
  have e13 := fill_ev (F := F) (T0 := T0) hA (i := 9) (s := 13) (by kernel_rfl) (by rw [hsz]; decide) m9 []
  have f9 : F 9 = .int .i64 ((g + 1 : Nat) : Int) := hI.1.pl 9 m9 rfl (by decide)
  rw [f9] at e13
  refine stp_al hK hk hF hI hC hi hlt o48_10 rfl (by kernel_rfl) rfl fun W => ?_
  unfold execOp
  simp only [e13]
  show _ = Result.ok (Next.value (Value.slice (some ⟨W.heap.size, 0, none⟩) (g + 1) (g + 1))) (W.alloc (Obj.cells (Array.replicate (g + 1) (.chan none)) 68))
  rw [Sem.run_bind, hmN, Result.andThen_ok]; rfl
 ·-- 11
  have e0 := (fill_old (ops := ops48) (F := F) (T0 := T0) (s := 0) (by kernel_rfl) d []).trans h0
  refine stp_vl hK hk hF hI hC hi hlt o48_11 rfl (by kernel_rfl) rfl (by decide) fun W => ?_
  unfold execOp
  simp only [e0]
  show _ = Result.ok (Next.value (Value.int .i64 g)) W
  first | (go_simp <;> rfl) | (go_simp; done) | rfl
 ·-- 12
  have m11 : 11 ∈ d := hL.waits o48_12 (by kernel_rfl)
  have e15 := fill_ev (F := F) (T0 := T0) hA (i := 11) (s := 15) (by kernel_rfl) (by rw [hsz]; decide) m11 []
  have f11 : F 11 = .int .i64 g := hI.1.pl 11 m11 rfl (by decide)
  rw [f11] at e15
  refine stp_vl hK hk hF hI hC hi hlt o48_12 rfl (by kernel_rfl) rfl (by decide) fun W => ?_
  unfold execOp
  simp only [e15]
  show _ = Result.ok (Next.value (Value.int .i64 ((g + 1 : Nat) : Int))) W
  first | (go_simp <;> rfl) | (go_simp; done) | rfl
 ·-- 13
  have m12 : 12 ∈ d := hL.waits o48_13 (by kernel_rfl)
  have e16 := fill_ev (F := F) (T0 := T0) hA (i := 12) (s := 16) (by kernel_rfl) (by rw [hsz]; decide) m12 []
  have f12 : F 12 = .int .i64 ((g + 1 : Nat) : Int) := hI.1.pl 12 m12 rfl (by decide)
  rw [f12] at e16
  refine stp_al hK hk hF hI hC hi hlt o48_13 rfl (by kernel_rfl) rfl fun W => ?_
  unfold execOp
  simp only [e16]
  show _ = Result.ok (Next.value (Value.slice (some ⟨W.heap.size, 0, none⟩) (g + 1) (g + 1))) (W.alloc (Obj.cells (Array.replicate (g + 1) (.slice none 0 0)) 32))
  rw [Sem.run_bind, hmR, Result.andThen_ok]; rfl
 ·-- 14
  have m0 : 0 ∈ d := hL.waits o48_14 (by kernel_rfl)
  have e5 := fill_ev (F := F) (T0 := T0) hA (i := 0) (s := 5) (by kernel_rfl) (by rw [hsz]; decide) m0 []
  have m3 : 3 ∈ d := hL.waits o48_14 (by kernel_rfl)
  have e7 := fill_ev (F := F) (T0 := T0) hA (i := 3) (s := 7) (by kernel_rfl) (by rw [hsz]; decide) m3 []
  have f3 : F 3 = F 1 := hI.1.pl 3 m3 rfl (by decide)
  have m6 : 6 ∈ d := hL.waits o48_14 (by kernel_rfl)
  have e10 := fill_ev (F := F) (T0 := T0) hA (i := 6) (s := 10) (by kernel_rfl) (by rw [hsz]; decide) m6 []
  have m7 : 7 ∈ d := hL.waits o48_14 (by kernel_rfl)
  have e11 := fill_ev (F := F) (T0 := T0) hA (i := 7) (s := 11) (by kernel_rfl) (by rw [hsz]; decide) m7 []
  have m10 : 10 ∈ d := hL.waits o48_14 (by kernel_rfl)
  have e14 := fill_ev (F := F) (T0 := T0) hA (i := 10) (s := 14) (by kernel_rfl) (by rw [hsz]; decide) m10 []
  have m13 : 13 ∈ d := hL.waits o48_14 (by kernel_rfl)
  have e17 := fill_ev (F := F) (T0 := T0) hA (i := 13) (s := 17) (by kernel_rfl) (by rw [hsz]; decide) m13 []
  refine stp_vl hK hk hF hI hC hi hlt o48_14 rfl (by kernel_rfl) rfl (by decide) fun W => ?_
  unfold execOp
  simp only [List.map_toArray, List.map_cons, List.map_nil, e5, e7, e10, e11, e14, e17]
  show _ = Result.ok (Next.value (Value.agg (gat48 F))) W
  obtain ⟨p0, q0⟩ : ∃ p, F 0 = .slice (some ⟨p, 0, none⟩) 10 10 := ⟨_, (hI.1.al 0 m0 rfl).2.1⟩
  obtain ⟨p3, q3⟩ : ∃ p, F 3 = .map (some p) := ⟨_, f3.trans (hI.1.al 1 (hC.c3 m3) rfl).2.1⟩
  obtain ⟨p6, q6⟩ : ∃ p, F 6 = .slice (some ⟨p, 0, none⟩) (g + 1) (g + 1) := ⟨_, (hI.1.al 6 m6 rfl).2.1⟩
  obtain ⟨p7, q7⟩ : ∃ p, F 7 = .map (some p) := ⟨_, (hI.1.al 7 m7 rfl).2.1⟩
  obtain ⟨p10, q10⟩ : ∃ p, F 10 = .slice (some ⟨p, 0, none⟩) (g + 1) (g + 1) := ⟨_, (hI.1.al 10 m10 rfl).2.1⟩
  obtain ⟨p13, q13⟩ : ∃ p, F 13 = .slice (some ⟨p, 0, none⟩) (g + 1) (g + 1) := ⟨_, (hI.1.al 13 m13 rfl).2.1⟩
  unfold gat48
  rw [q0, q3, q6, q7, q10, q13, Sem.run_bind, run_build W 62 _ _ (by kernel_rfl), Result.andThen_ok]; rfl
 ·-- 15
  have m14 : 14 ∈ d := hL.waits o48_15 (by kernel_rfl)
  have e18 := fill_ev (F := F) (T0 := T0) hA (i := 14) (s := 18) (by kernel_rfl) (by rw [hsz]; decide) m14 []
  have f14 : F 14 = .agg (gat48 F) := hI.1.pl 14 m14 rfl (by decide)
  refine stp_al hK hk hF hI hC hi hlt o48_15 rfl (by kernel_rfl) rfl fun W => ?_
  unfold execOp
  simp only [e18]
  show _ = Result.ok (Next.value (Value.pointer (some ⟨W.heap.size, 0, none⟩))) (W.alloc (Obj.cells (gat48 F) 62))
  rw [f14]
  first | (go_simp; done) | (go_simp <;> rfl) | rfl
 ·-- 16
  have m15 : 15 ∈ d := hL.waits o48_16 (by kernel_rfl)
  have e19 := fill_ev (F := F) (T0 := T0) hA (i := 15) (s := 19) (by kernel_rfl) (by rw [hsz]; decide) m15 []
  refine stp_vl hK hk hF hI hC hi hlt o48_16 rfl (by kernel_rfl) rfl (by decide) fun W => ?_
  unfold execOp
  simp only [e19]
  show _ = Result.ok (Next.value (F 15)) W
  first | (go_simp; done) | (go_simp <;> rfl) | rfl
set_option maxRecDepth 100000 in
set_option maxHeartbeats 4000000 in
/-- The region. -/
theorem reg48 (hK : KOk Try.prog main false false Live K) (hk : b.kind ≠ .early) (hsz : T0.size = 44) (h0 : T0.getD 0 undef = .int .i64 g) (hg : g ≤ 900) (hF : Flat Try.prog w0)
  (h : ∀ d F v, Lay48 w0 g d F v → (∀ i, i < 17 → i ∈ d) → Flat Try.prog v → KA K (G (b.at ⟨fillT ops48 F T0 d, []⟩ (.inRegion ops48 [] :: k)) cs) v) :
  KA K (G (b.at ⟨T0, []⟩ (.code (.region 1 ops48 true) :: k)) cs) w0 := by
 have hsize : ops48.size = 17 := by kernel_rfl
 refine kDraw (by kernel_rfl) hK hF (by kernel_rfl) fun ord hord => ?_
 exact kFree (T0 := T0) (Inv48 w0 g) (fun d F v i o r hI hF hi ho hL hS hk' => stp48 hK hk hsz h0 hg hF hI hS hL hk') (fun d F v hI hF ha => h d F v hI.1 (fun i hi => ha i (by rw [hsize]; exact hi)) hF) ord [] (fun _ => undef) w0
  ⟨⟨fun i hi => (by cases hi), fun i hi => (by cases hi), fun i hi => (by cases hi), Ups.refl _⟩, fun i hi => (by cases hi)⟩ hF .nil hord
end
end Go.Proofs.Ythmgpkcijolljaa
