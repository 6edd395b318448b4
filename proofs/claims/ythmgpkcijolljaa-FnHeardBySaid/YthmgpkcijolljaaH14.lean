/-
  The worker of meetGuests: it hears on its channel, lays down what it has heard, and says Done.
-/
import Derived.Test.YthmgpkcijolljaaH10
import Derived.Test.YthmgpkcijolljaaH11
import Derived.Test.YthmgpkcijolljaaHKLinkF
import Derived.Test.YthmgpkcijolljaaH5
import Derived.Conc.WgGenN3
import Derived.Conc.WgWords
namespace Go.Proofs.Ythmgpkcijolljaa
open Go.Conc Go.RowKit Go.Conc.Lib Go.ConcR.Gen
open Go.ConcN (upd upd_same upd_ne)
open Go.ConcR (KK WgAt stA smA rd wr mk DC0)
set_option linter.unusedSimpArgs false
set_option linter.unusedVariables false
def b50 : Frame := baseD 50
noncomputable def bot : Frame := { (default : Frame) with fn := Try.prog.funcs.size, defers := [], mode := .panicking [goexitEntry] }
noncomputable def body50 : Code := Try.f50.body.getD .skip
noncomputable def L50 : Code := match body50 with | .seq _ (.seq _ (.seq (.seq _ (.block _ (.loop c))) _)) => c | _ => .skip
noncomputable def E50 : Code := match body50 with | .seq _ (.seq _ (.seq _ c)) => c | _ => .skip
noncomputable def ops50 : Array Oper := match E50 with | .region _ ops _ => ops | _ => #[]
def call50 (Wg bo bg bi : Nat) : Deferred := { target := .fn (.func 50) #[.pointer (some ⟨Wg, 0, none⟩), .pointer (some ⟨bo, 0, none⟩), .pointer (some ⟨bg, 0, none⟩), .pointer (some ⟨bi, 0, none⟩)], args := #[] }
/-- What the worker sees. -/
structure WF (bo bg bi G c i : Nat) (v : World) : Prop where
 own : v.cell? ⟨bo, 0, none⟩ = some (.chan (some c))
 g : v.cell? ⟨bg, 0, none⟩ = some (.pointer (some ⟨G, 0, none⟩))
 idx : v.cell? ⟨bi, 0, none⟩ = some (.int .i64 i)
theorem WF.ups {bo bg bi G c i : Nat} {v u : World} (h : WF bo bg bi G c i v) (k : Ups v u) : WF bo bg bi G c i u := ⟨k.cell h.own, k.cell h.g, k.cell h.idx⟩
/-- What is asked of Done. -/
def DoneOk (Wg : Nat) : Prop := ∀ (c : Frame) (cs : List Frame) (qt : Nat), c.mode = .returning → QuitsD Try.prog qt 0 (G c cs) →
 WG Try.prog 84 Wg false (DRel Try.prog 84 Wg) (G ((baseD 51).at ⟨#[.pointer (some ⟨Wg, 0, none⟩), undef, undef, undef], []⟩ [.code (body_done lk)]) (c :: cs))
theorem doneOk (Wg : Nat) : DoneOk Wg := fun c cs qt hm hT => wg_done wgLib hm hT
theorem WG.step {P : Program} {ty : TypeId} {Wg : Nat} {main : Bool} {Stop : Goroutine → World → Prop} {g g' : Goroutine} (hr : g.status = .running) (hs : ∀ w, stepG P main g w = .go g' w #[]) (h : WG P ty Wg main Stop g') : WG P ty Wg main Stop g := by
 obtain ⟨m, hm⟩ := h
 exact ⟨m + 1, fun w => Goes.step hr fun w₁ _ => by rw [hs]; exact ⟨⟨rfl, rfl⟩, hm _⟩⟩
theorem born_step (Wg bo bg bi : Nat) (w : World) : stepG Try.prog false (born Try.prog (call50 Wg bo bg bi)) w =
  .go (G (b50.at ⟨#[.pointer (some ⟨Wg, 0, none⟩), .pointer (some ⟨bo, 0, none⟩), .pointer (some ⟨bg, 0, none⟩), .pointer (some ⟨bi, 0, none⟩), undef, undef, undef, undef, undef, undef, undef, undef, undef, undef, undef, undef, undef, undef, undef, undef, undef], []⟩ [.code body50]) [bot]) w #[] := by
 simp [born, call50, stepG, unwind, callDeferred, invoke, callFunc, Try.func50, Try.f50, seen, GStep.after, G, Frame.enter, Frame.at, b50, baseD, bot, body50]
/-- The worker's way out once Done has left. -/
theorem quitsTail (T : Array Value) : QuitsD Try.prog 2 0 (G { b50.at ⟨T, []⟩ [] with mode := .returning } [bot]) := by
 refine QuitsD.ctl (g' := G bot []) rfl (fun w => ?_) ?_
 ·simp [G, stepG, unwind, doReturn, results, Frame.at, b50, baseD, bot, Try.func50, Try.f50, seen, GStep.after, goexitEntry]
 refine QuitsD.ctl (g' := { G bot [] with status := .finished }) rfl (fun w => ?_) ⟨rfl, rfl⟩
 simp [G, stepG, unwind, bot, goexitEntry, Frame.catches]
 rfl
/-- What a worker does that hears l. -/
def hears (l : List Int) : List Say := l.map (fun x => Say.recv (.int .i64 x)) ++ [.eof, .look, .put]
theorem hears_nil : hears [] = [.eof, .look, .put] := rfl
theorem hears_cons (x : Int) (l : List Int) : hears (x :: l) = .recv (.int .i64 x) :: hears l := rfl
theorem hears_formed (l : List Int) : Formed (hears l) := by
 refine Formed.mk_ (fun x hx => ?_) (fun x hx => ?_)
 ·obtain ⟨y, _, rfl⟩ := List.mem_map.1 hx
  exact ⟨id, by simp⟩
 ·simp at hx
  rcases hx with rfl | rfl <;> exact trivial
/-- What it leaves: a row that holds what it has heard. -/
def HeardD (B0 : Nat) (l : List Int) (y : Value) (v : World) : Prop := v.ownsRow B0 3 1 y l.length (ints l)
theorem heardD_re (B0 : Nat) (l : List Int) : ∀ y v t d, HeardD B0 l y (World.re v t d) → HeardD B0 l y v := fun _ _ _ _ h => h
theorem heardD_upto (B0 : Nat) (l : List Int) : ∀ y v n, Flat Try.prog v → HeardD B0 l y v → HeardD B0 l y (v.upto n) := fun _ v n _ h => (Ups.upto v n).own h
section
variable {bo bg bi GG c H n i Wg B0 : Nat} {l : List Int} {Dn : World → Prop}
/-- Its cell, and where it looks. -/
def ax50 (B0 GG H n i : Nat) (l : List Int) : Ax := ⟨⟨H, i, none⟩, ⟨GG, 5, none⟩, .slice (some ⟨H, 0, none⟩) n n, HeardD B0 l⟩
def KW (Wg c : Nat) (ax : Ax) (Dn : World → Prop) (s : List Say) : Goroutine → World → Prop := Th Try.prog false true false (fun _ => True) (AtSay Try.prog 84 Wg false ax c Dn s)
theorem kw_ok (h1 : ∀ v t d, Dn (v.re t d) → Dn v) (h2 : ∀ v n, Flat Try.prog v → Dn v → Dn (v.upto n)) (s : List Say) : KOk Try.prog false true false (fun _ => True) (KW Wg c (ax50 B0 GG H n i l) Dn s) := th_ok (say_ok (ax := ax50 B0 GG H n i l) (heardD_re B0 l) (heardD_upto B0 l) s h1 h2)
def T50 (Wg bo bg bi : Nat) (hv : Value) (c : Nat) (x5 x7 x8 x9 x10 x11 x12 x13 x14 x15 x16 x17 x18 x19 x20 : Value) : Array Value :=
 #[.pointer (some ⟨Wg, 0, none⟩), .pointer (some ⟨bo, 0, none⟩), .pointer (some ⟨bg, 0, none⟩), .pointer (some ⟨bi, 0, none⟩), hv, x5, .chan (some c), x7, x8, x9, x10, x11, x12, x13, x14, x15, x16, x17, x18, x19, x20]
/-- What the last region's operations come to. -/
def F50 (GG H n i : Nat) (hv : Value) (j : Nat) : Value := #[.pointer (some ⟨GG, 0, none⟩), .pointer (some ⟨GG, 0, none⟩), .pointer (some ⟨GG, 5, none⟩), .slice (some ⟨H, 0, none⟩) n n, .int .i64 i, hv, .pointer (some ⟨H, i, none⟩)].getD j undef
set_option maxRecDepth 100000 in
set_option maxHeartbeats 4000000 in
theorem quiet50 {v : World} {hv : Value} {T0 : Array Value} (hsz : T0.size = 21) (hW : WF bo bg bi GG c i v) (hin : i < n) (h2 : T0.getD 2 undef = .pointer (some ⟨bg, 0, none⟩)) (h3 : T0.getD 3 undef = .pointer (some ⟨bi, 0, none⟩)) (h4 : T0.getD 4 undef = hv) (j : Nat) (hj : j < 7) (hj3 : j ≠ 3) :
  QuietAt Try.prog Sf v ops50 (F50 GG H n i hv) T0 j := by
 have hA : ApartB ops50 = true := by kernel_rfl
 have hg := hW.g
 have hi := hW.idx
 rcases (by omega : j = 0 ∨ j = 1 ∨ j = 2 ∨ j = 4 ∨ j = 5 ∨ j = 6) with rfl | rfl | rfl | rfl | rfl | rfl
 ·refine quiet_of (o := { dst := some 14, op := Op.load 56 (Operand.tmp 2), type := 56, pos := "l7_bridges.go:103", after := #[], guard := none }) (by kernel_rfl) (by kernel_rfl) rfl [] (by kernel_rfl) fun d hd v₁ hx => ?_
  have e2 := (fill_old (ops := ops50) (F := F50 GG H n i hv) (T0 := T0) (s := 2) (by kernel_rfl) d []).trans h2
  have hc := cell_up hx hg
  unfold execOp
  simp only [e2]
  go_simp <;> rfl
 ·refine quiet_of (o := { dst := some 15, op := Op.nilCheck (Operand.tmp 14), type := 0, pos := "l7_bridges.go:103", after := #[{ on := 0, ground := Ground.data }], guard := none }) (by kernel_rfl) (by kernel_rfl) rfl [0] (by kernel_rfl) fun d hd v₁ hx => ?_
  have e14 := fill_ev (F := F50 GG H n i hv) (T0 := T0) hA (i := 0) (s := 14) (by kernel_rfl) (by rw [hsz]; decide) (hd 0 (by simp)) []
  unfold execOp
  simp only [e14]
  simp only [F50]; go_simp <;> rfl
 ·refine quiet_of (o := { dst := some 16, op := Op.fieldAddr 62 (Operand.tmp 15) 5, type := 0, pos := "l7_bridges.go:103", after := #[{ on := 1, ground := Ground.data }], guard := none }) (by kernel_rfl) (by kernel_rfl) rfl [1] (by kernel_rfl) fun d hd v₁ hx => ?_
  have e15 := fill_ev (F := F50 GG H n i hv) (T0 := T0) hA (i := 1) (s := 15) (by kernel_rfl) (by rw [hsz]; decide) (hd 1 (by simp)) []
  unfold execOp
  simp only [e15]
  simp only [F50]; go_simp <;> rfl
 ·refine quiet_of (o := { dst := some 18, op := Op.load 3 (Operand.tmp 3), type := 3, pos := "l7_bridges.go:103", after := #[], guard := none }) (by kernel_rfl) (by kernel_rfl) rfl [] (by kernel_rfl) fun d hd v₁ hx => ?_
  have e3 := (fill_old (ops := ops50) (F := F50 GG H n i hv) (T0 := T0) (s := 3) (by kernel_rfl) d []).trans h3
  have hc := cell_up hx hi
  unfold execOp
  simp only [e3]
  go_simp <;> rfl
 ·refine quiet_of (o := { dst := some 19, op := Op.move (Operand.tmp 4), type := 32, pos := "l7_bridges.go:103", after := #[], guard := none }) (by kernel_rfl) (by kernel_rfl) rfl [] (by kernel_rfl) fun d hd v₁ hx => ?_
  have e4 := (fill_old (ops := ops50) (F := F50 GG H n i hv) (T0 := T0) (s := 4) (by kernel_rfl) d []).trans h4
  unfold execOp
  simp only [e4]
  rfl
 ·refine quiet_of (o := { dst := some 20, op := Op.indexAddr 44 (Operand.tmp 17) (Operand.tmp 18), type := 0, pos := "l7_bridges.go:103", after := #[{ on := 3, ground := Ground.data }, { on := 4, ground := Ground.data }, { on := 0, ground := Ground.phase }, { on := 1, ground := Ground.phase }, { on := 2, ground := Ground.phase }, { on := 3, ground := Ground.phase }, { on := 4, ground := Ground.phase }, { on := 5, ground := Ground.phase }], guard := none }) (by kernel_rfl) (by kernel_rfl) rfl [3, 4] (by kernel_rfl) fun d hd v₁ hx => ?_
  have e17 := fill_ev (F := F50 GG H n i hv) (T0 := T0) hA (i := 3) (s := 17) (by kernel_rfl) (by rw [hsz]; decide) (hd 3 (by simp)) []
  have e18 := fill_ev (F := F50 GG H n i hv) (T0 := T0) hA (i := 4) (s := 18) (by kernel_rfl) (by rw [hsz]; decide) (hd 4 (by simp)) []
  have hin' : (i : Int) < (n : Int) := by omega
  unfold execOp
  simp only [e17, e18]
  simp only [F50]; go_simp <;> rfl
theorem seen50 (a : Addr) (b : Bool) : seen Try.prog 50 #[⟨.cell a, b, false⟩] = #[⟨.cell a, b, false⟩] :=
 seen_eq (by kernel_rfl) (by intro e he f; simp only [List.mem_toArray, List.mem_singleton] at he; subst he; simp)
set_option maxRecDepth 100000 in
set_option maxHeartbeats 4000000 in
/-- The last region: it looks, and lays down what it has heard. -/
theorem hear_end (h1 : ∀ v t d, Dn (v.re t d) → Dn v) (h2 : ∀ v n, Flat Try.prog v → Dn v → Dn (v.upto n)) {v : World} {hv : Value} (hF : Flat Try.prog v) (hW : WF bo bg bi GG c i v) (hin : i < n) (hrow : v.ownsRow B0 3 1 hv l.length (ints l)) :
  ∀ x5 x7 x8 x9 x10 x11 x12 x13 x14 x15 x16 x17 x18 x19 x20, KA (KW Wg c (ax50 B0 GG H n i l) Dn [.look, .put]) (G (b50.at ⟨T50 Wg bo bg bi hv c x5 x7 x8 x9 x10 x11 x12 x13 x14 x15 x16 x17 x18 x19 x20, [dcall 51 #[.pointer (some ⟨Wg, 0, none⟩)]]⟩ [.code E50]) [bot]) v := by
 intro x5 x7 x8 x9 x10 x11 x12 x13 x14 x15 x16 x17 x18 x19 x20
 have hK := kw_ok (Wg := Wg) (c := c) (B0 := B0) (GG := GG) (H := H) (n := n) (i := i) (l := l) h1 h2 [.look, .put]
 have hK2 := kw_ok (Wg := Wg) (c := c) (B0 := B0) (GG := GG) (H := H) (n := n) (i := i) (l := l) h1 h2 [.put]
 have hK3 := kw_ok (Wg := Wg) (c := c) (B0 := B0) (GG := GG) (H := H) (n := n) (i := i) (l := l) (heardD_re B0 l hv) (heardD_upto B0 l hv) []
 have hE : E50 = .region 6 ops50 true := rfl
 have hA : ApartB ops50 = true := by kernel_rfl
 have hq := fun j hj hj3 => quiet50 (n := n) (H := H) (T0 := T50 Wg bo bg bi hv c x5 x7 x8 x9 x10 x11 x12 x13 x14 x15 x16 x17 x18 x19 x20) (hv := hv) rfl hW hin rfl rfl rfl j hj hj3
 have o3 : ops50[3]? = some { dst := some 17, op := Op.load 44 (Operand.tmp 16), type := 44, pos := "l7_bridges.go:103", after := #[{ on := 2, ground := Ground.data }], guard := none } := by kernel_rfl
 have o6 : ops50[6]? = some { dst := some 20, op := Op.indexAddr 44 (Operand.tmp 17) (Operand.tmp 18), type := 0, pos := "l7_bridges.go:103", after := #[{ on := 3, ground := Ground.data }, { on := 4, ground := Ground.data }, { on := 0, ground := Ground.phase }, { on := 1, ground := Ground.phase }, { on := 2, ground := Ground.phase }, { on := 3, ground := Ground.phase }, { on := 4, ground := Ground.phase }, { on := 5, ground := Ground.phase }], guard := none } := by kernel_rfl
 have o7 : ops50[7]? = some { dst := none, op := Op.store 32 (Operand.tmp 20) (Operand.tmp 19), type := 0, pos := "l7_bridges.go:103", after := #[{ on := 6, ground := Ground.data }, { on := 5, ground := Ground.data }, { on := 0, ground := Ground.phase }, { on := 1, ground := Ground.phase }, { on := 2, ground := Ground.phase }, { on := 3, ground := Ground.phase }, { on := 4, ground := Ground.phase }, { on := 5, ground := Ground.phase }], guard := none } := by kernel_rfl
 have hsize : ops50.size = 8 := by kernel_rfl
 rw [hE]
 refine kDraw (by kernel_rfl) hK hF (by kernel_rfl) fun ord hord => ?_
 refine kQuiet (F := F50 GG H n i hv) (T0 := T50 Wg bo bg bi hv c x5 x7 x8 x9 x10 x11 x12 x13 x14 x15 x16 x17 x18 x19 x20) closedS.bodies hK hF (by k_ne) (fun j => j = 0 ∨ j = 1 ∨ j = 2 ∨ j = 4 ∨ j = 5) (fun j => j = 0 ∨ j = 1 ∨ j = 2 ∨ j = 4 ∨ j = 5) (fun _ h => h) (fun j hj => hq j (by omega) (by omega)) [] (fun d j r hnQ hR _ hC hL => ?_) (fun d hR _ hL => ?_) ord [] (by simp) (by simp) .nil hord
 ·obtain ⟨hlt, hnd, hdep, hL'⟩ := hL.step
  rw [hsize] at hlt
  rcases (by omega : j = 3 ∨ j = 6 ∨ j = 7) with rfl | rfl | rfl
  ·-- it looks
   have e16 := fill_ev (F := F50 GG H n i hv) (T0 := T50 Wg bo bg bi hv c x5 x7 x8 x9 x10 x11 x12 x13 x14 x15 x16 x17 x18 x19 x20) hA (i := 2) (s := 16) (by kernel_rfl) (by decide : 16 < 21) (hL.waits o3 (by kernel_rfl)) [dcall 51 #[.pointer (some ⟨Wg, 0, none⟩)]]
   have ep := fill_put (F := F50 GG H n i hv) (T0 := T50 Wg bo bg bi hv c x5 x7 x8 x9 x10 x11 x12 x13 x14 x15 x16 x17 x18 x19 x20) (d := d) (df := [dcall 51 #[.pointer (some ⟨Wg, 0, none⟩)]]) o3 (x := .slice (some ⟨H, 0, none⟩) n n) rfl
   intro t e
   refine Th.stop ⟨G (b50.at ⟨fillT ops50 (F50 GG H n i hv) (T50 Wg bo bg bi hv c x5 x7 x8 x9 x10 x11 x12 x13 x14 x15 x16 x17 x18 x19 x20) (3 :: d), [dcall 51 #[.pointer (some ⟨Wg, 0, none⟩)]]⟩ [.inRegion ops50 r]) [bot], ⟨rfl, rfl, fun w hw => ?_⟩, ?_⟩
   ·have hw' : w.cell? ⟨GG, 5, none⟩ = some (.slice (some ⟨H, 0, none⟩) n n) := hw
    rw [stepG_plain (x := .slice (some ⟨H, 0, none⟩) n n) (w' := w) (nx := .value (.slice (some ⟨H, 0, none⟩) n n)) (es := #[⟨.cell ⟨GG, 5, none⟩, false, false⟩]) (.inl rfl) o3 rfl (by k_ne) (by unfold execOp; simp only [e16, F50]; go_simp <;> rfl) (by unfold execOp; simp only [e16, F50]; go_simp), ep]
    show GStep.go _ _ (seen Try.prog 50 _) = _
    rw [seen50]; rfl
   ·refine KA.out (v := v.re t e) (KA.re ?_)
    refine kQuiet (F := F50 GG H n i hv) (T0 := T50 Wg bo bg bi hv c x5 x7 x8 x9 x10 x11 x12 x13 x14 x15 x16 x17 x18 x19 x20) closedS.bodies hK2 hF (by k_ne) (fun j => j < 7 ∧ j ≠ 3) (fun j => j ≠ 7) (fun j hj => by omega) (fun j hj => hq j hj.1 hj.2) [3] (fun d' j r' hnQ _ h3d hC' hL2 => ?_) (fun d' hR2 h3d hL2 => ?_) r (3 :: d) (fun j hj => (by rcases List.mem_cons.1 hj with rfl | hj; omega; have := hR j hj; omega)) (by simp) (hC.cons hdep) hL'
    ·obtain ⟨hlt2, hnd2, hdep2, hL3⟩ := hL2.step
     rw [hsize] at hlt2
     rcases (by omega : j = 3 ∨ j = 7) with rfl | rfl
     ·exact absurd (h3d 3 (by simp)) hnd2
     ·-- it lays down
      have e20 := fill_ev (F := F50 GG H n i hv) (T0 := T50 Wg bo bg bi hv c x5 x7 x8 x9 x10 x11 x12 x13 x14 x15 x16 x17 x18 x19 x20) hA (i := 6) (s := 20) (by kernel_rfl) (by decide : 20 < 21) (hL2.waits o7 (by kernel_rfl)) [dcall 51 #[.pointer (some ⟨Wg, 0, none⟩)]]
      have e19 := fill_ev (F := F50 GG H n i hv) (T0 := T50 Wg bo bg bi hv c x5 x7 x8 x9 x10 x11 x12 x13 x14 x15 x16 x17 x18 x19 x20) hA (i := 5) (s := 19) (by kernel_rfl) (by decide : 19 < 21) (hL2.waits o7 (by kernel_rfl)) [dcall 51 #[.pointer (some ⟨Wg, 0, none⟩)]]
      obtain rfl : r' = [] := by
       cases r' with
       | nil => rfl
       | cons m r'' =>
        exfalso
        obtain ⟨hm, hnm, _, _⟩ := hL3.step
        rw [hsize] at hm
        refine hnm ?_
        rcases (by omega : m = 0 ∨ m = 1 ∨ m = 2 ∨ m = 3 ∨ m = 4 ∨ m = 5 ∨ m = 6 ∨ m = 7) with rfl | rfl | rfl | rfl | rfl | rfl | rfl | rfl
        ·exact List.mem_cons_of_mem _ (hL2.waits o7 (by kernel_rfl))
        ·exact List.mem_cons_of_mem _ (hL2.waits o7 (by kernel_rfl))
        ·exact List.mem_cons_of_mem _ (hL2.waits o7 (by kernel_rfl))
        ·exact List.mem_cons_of_mem _ (hL2.waits o7 (by kernel_rfl))
        ·exact List.mem_cons_of_mem _ (hL2.waits o7 (by kernel_rfl))
        ·exact List.mem_cons_of_mem _ (hL2.waits o7 (by kernel_rfl))
        ·exact List.mem_cons_of_mem _ (hL2.waits o7 (by kernel_rfl))
        ·exact List.mem_cons_self ..
      obtain ⟨Ah, ch, ehv⟩ := own_form hrow
      intro t e
      refine Th.stop ⟨G (b50.at ⟨fillT ops50 (F50 GG H n i hv) (T50 Wg bo bg bi hv c x5 x7 x8 x9 x10 x11 x12 x13 x14 x15 x16 x17 x18 x19 x20) d', [dcall 51 #[.pointer (some ⟨Wg, 0, none⟩)]]⟩ [.inRegion ops50 []]) [bot], hv, ⟨rfl, rfl, fun w hw hf => ?_⟩, ?_⟩
      ·have hw' : w.cell? ⟨H, i, none⟩ ≠ none := hw
       have hf' : w.frozen? ⟨H, i, none⟩ = false := hf
       obtain ⟨x0, hx0⟩ := Option.ne_none_iff_exists'.1 hw'
       rw [stepG_plain (x := undef) (w' := w.setCell ⟨H, i, none⟩ hv) (nx := .skip) (es := #[⟨.cell ⟨H, i, none⟩, true, false⟩]) (.inr ⟨rfl, rfl⟩) o7 rfl (by k_ne) (by unfold execOp; simp only [e19, e20, F50]; subst ehv; go_simp) (by unfold execOp; simp only [e19, e20, F50]; subst ehv; go_simp)]
       show GStep.go _ _ (seen Try.prog 50 _) = _
       rw [seen50]; rfl
      ·refine KA.out (v := v.re t e) (KA.re ?_)
       refine kRegEnd hK3 hF (kEnd hK3 hF ?_)
       intro t' e'
       refine Th.stop ⟨hrow, ?_⟩
       refine WG.step rfl (fun w => stepG_unwind_enter rfl Try.func51 (by kernel_rfl) rfl) ?_
       exact doneOk Wg _ _ 2 rfl (quitsTail _)
    ·exact absurd rfl (hR2 7 (hL2.all 7 (by rw [hsize]; omega)))
  ·exact absurd (hR 3 (hL.waits o6 (by kernel_rfl))) (by omega)
  ·exact absurd (hR 6 (hL.waits o7 (by kernel_rfl))) (by omega)
 ·exact absurd (hR 3 (hL.all 3 (by rw [hsize]; omega))) (by omega)
end
end Go.Proofs.Ythmgpkcijolljaa
/-
  The worker of meetGuests: its whole way.
-/
namespace Go.Proofs.Ythmgpkcijolljaa
open Go.Conc Go.RowKit Go.Conc.Lib Go.ConcR.Gen
open Go.ConcN (upd upd_same upd_ne)
open Go.ConcR (KK WgAt stA smA rd wr mk DC0)
set_option linter.unusedSimpArgs false
set_option linter.unusedVariables false
theorem own_base {w : World} {base n sz : Nat} {e : TypeId} {v : Value} {xs : List Value} (h : w.ownsRow 0 e sz v n xs) (hb : ∀ q, v.ownBlock = some q → base ≤ q) : w.ownsRow base e sz v n xs := by
 refine ⟨h.1, ?_⟩
 rcases h.2 with h | ⟨g, cap, cur, rfl, h1, h2⟩
 ·exact .inl h
 ·exact .inr ⟨g, cap, cur, rfl, hb g rfl, h2⟩
section
variable {bo bg bi GG c H n i Wg B0 : Nat} {l : List Int} {Dn : World → Prop}
set_option maxRecDepth 100000 in
set_option maxHeartbeats 4000000 in
theorem hear_loop (h1 : ∀ v t d, Dn (v.re t d) → Dn v) (h2 : ∀ v n, Flat Try.prog v → Dn v → Dn (v.upto n)) (hin : i < n) (hl : l.length ≤ 100000) {B : Nat} (hB0 : B0 ≤ B) (hbo : bo < B) (hbg : bg < B) (hbi : bi < B) :
  ∀ (r h : List Int), h ++ r = l → ∀ v hv, Flat Try.prog v → WF bo bg bi GG c i v → B ≤ v.heap.size → (∀ q, hv.ownBlock = some q → B ≤ q) → v.ownsRow 0 3 1 hv h.length (ints h) → ∀ x5 x7 x8 x9 x10 x11 x12 x13 x14 x15 x16 x17 x18 x19 x20,
   KA (KW Wg c (ax50 B0 GG H n i l) Dn (hears r)) (G (b50.at ⟨T50 Wg bo bg bi hv c x5 x7 x8 x9 x10 x11 x12 x13 x14 x15 x16 x17 x18 x19 x20, [dcall 51 #[.pointer (some ⟨Wg, 0, none⟩)]]⟩ [.code L50, .inLoop L50, .inBlock 0, .code E50]) [bot]) v := by
 intro r
 induction r with
 | nil =>
  intro h hh v hv hF hW hBs hBq hrow x5 x7 x8 x9 x10 x11 x12 x13 x14 x15 x16 x17 x18 x19 x20
  have hhl : h = l := by simpa using hh
  subst hhl
  rw [hears_nil]
  have hK := kw_ok (Wg := Wg) (c := c) (B0 := B0) (GG := GG) (H := H) (n := n) (i := i) (l := h) h1 h2 [.eof, .look, .put]
  have hK2 := kw_ok (Wg := Wg) (c := c) (B0 := B0) (GG := GG) (H := H) (n := n) (i := i) (l := h) h1 h2 [.look, .put]
  have hend := hear_end (B0 := B0) (H := H) (n := n) (Wg := Wg) (Dn := Dn) h1 h2 hF hW hin (own_base hrow fun q hq => Nat.le_trans hB0 (hBq q hq))
  have hE : E50 = .region 6 ops50 true := rfl
  rw [hE] at hend ⊢
  simp only [L50, body50, Try.f50, Option.getD_some, T50] at hend ⊢
  refine kSeq hK hF (kRegion hK hF ?_)
  intro t d
  refine Th.stop ⟨trivial, _, .int .i64 0, .recv true, comm_at (cc := #[rcase c (.int .i64 0)]) (sh := .recv true) rfl rfl (by k_ne) (fun w => by unfold execOp; simp [rcase, go_sem, Act.eval]) (fun w => by unfold execOp; simp [go_sem, Act.eval]), ?_⟩
  rw [(after_at rfl).2.1]
  refine KA.out (v := v.re t d) (KA.re ?_)
  walk_nrm
  refine kOp closedS.bodies hK2 hF (val := .bool false) (by k_ne) rfl rfl (by kernel_rfl) (fun v₁ hv => by go_simp <;> rfl) ?_
  walk_nrm
  refine kRegEnd hK2 hF (kSeq hK2 hF (kCond hK2 hF (t := false) (by rfl) ?_))
  simp only [Bool.false_eq_true, if_false]
  refine kExit hK2 hF (k' := _) (by rfl) ?_
  exact hend _ _ _ _ _ _ _ _ _ _ _ _ _ _ _
 | cons x r ih =>
  intro h hh v hv hF hW hBs hBq hrow x5 x7 x8 x9 x10 x11 x12 x13 x14 x15 x16 x17 x18 x19 x20
  rw [hears_cons]
  have hK := kw_ok (Wg := Wg) (c := c) (B0 := B0) (GG := GG) (H := H) (n := n) (i := i) (l := l) h1 h2 (.recv (.int .i64 x) :: hears r)
  have hK2 := kw_ok (Wg := Wg) (c := c) (B0 := B0) (GG := GG) (H := H) (n := n) (i := i) (l := l) h1 h2 (hears r)
  have ih' := ih (h ++ [x]) (by simpa using hh)
  have hE : E50 = .region 6 ops50 true := rfl
  have hhl : h.length ≤ 100000 := by rw [← hh] at hl; simp at hl; omega
  rw [hE] at ih' ⊢
  simp only [L50, body50, Try.f50, Option.getD_some, T50] at ih' ⊢
  refine kSeq hK hF (kRegion hK hF ?_)
  intro t d
  refine Th.stop ⟨trivial, _, .int .i64 0, .recv true, comm_at (cc := #[rcase c (.int .i64 0)]) (sh := .recv true) rfl rfl (by k_ne) (fun w => by unfold execOp; simp [rcase, go_sem, Act.eval]) (fun w => by unfold execOp; simp [go_sem, Act.eval]), ?_⟩
  rw [(after_at rfl).2.1]
  refine KA.out (v := v.re t d) (KA.re ?_)
  walk_nrm
  refine kOp closedS.bodies hK2 hF (val := .bool true) (by k_ne) rfl rfl (by kernel_rfl) (fun v₁ hv => by go_simp <;> rfl) ?_
  walk_nrm
  refine kRegEnd hK2 hF (kSeq hK2 hF (kCond hK2 hF (t := true) (by rfl) ?_))
  simp only [if_true]
  refine kSkip hK2 hF (kBlock hK2 hF (kSeq hK2 hF (kRegion hK2 hF ?_)))
  refine kOp closedS.bodies hK2 hF (val := .int .i64 x) (by k_ne) rfl rfl (by kernel_rfl) (fun v₁ hv => by go_simp <;> rfl) ?_
  walk_nrm
  refine kOp closedS.bodies hK2 hF (val := .int .i64 x) (by k_ne) rfl rfl (by kernel_rfl) (fun v₁ hv => by go_simp <;> rfl) ?_
  walk_nrm
  refine kRegEnd hK2 hF (kRegion hK2 hF ?_)
  refine kOp closedS.bodies hK2 hF (val := hv) (by k_ne) rfl rfl (by kernel_rfl) (fun v₁ hv => by go_simp <;> rfl) ?_
  walk_nrm
  refine kOp closedS.bodies hK2 hF (val := .int .i64 x) (by k_ne) rfl rfl (by kernel_rfl) (fun v₁ hv => by go_simp <;> rfl) ?_
  walk_nrm
  refine kBuild1 hK2 hF (by k_ne) rfl rfl rfl (y := x) rfl fun u p hFu hU hp hc => ?_
  walk_nrm
  refine kAppend1 hK2 hFu (by k_ne) rfl rfl rfl (hv := hv) (l := h) (ad := ⟨p, 0, none⟩) (y := x) rfl rfl (hU.own hrow) hc hhl fun u2 hv2 hF2 hs2 hb2 hrow2 hnew2 => ?_
  walk_nrm
  refine kOp closedS.bodies hK2 hF2 (val := hv2) (by k_ne) rfl rfl (by kernel_rfl) (fun v₁ hv => by go_simp <;> rfl) ?_
  walk_nrm
  refine kRegEnd hK2 hF2 (kInBlock hK2 hF2 (kInLoop hK2 hF2 ?_))
  have hW2 : WF bo bg bi GG c i u2 := by
   have hWu := hW.ups hU
   have hsu := hU.size
   have keep : ∀ q x, q < B → u.cell? ⟨q, 0, none⟩ = some x → u2.cell? ⟨q, 0, none⟩ = some x := fun q x hq hx => by
    rw [cell_blk (a := ⟨q, 0, none⟩) (hb2 q (by omega) (fun e => by have := hBq q e; omega))]; exact hx
   exact ⟨keep _ _ hbo hWu.own, keep _ _ hbg hWu.g, keep _ _ hbi hWu.idx⟩
  have hsu := hU.size
  exact ih' u2 hv2 hF2 hW2 (by omega) (fun q hq => by
   rcases hnew2 with e | ⟨q', h3, e⟩
   ·exact hBq q (by rw [← e]; exact hq)
   ·rw [e] at hq
    have := Option.some.inj hq
    omega) hrow2 _ _ _ _ _ _ _ _ _ _ _ _ _ _ _
set_option maxRecDepth 100000 in
set_option maxHeartbeats 4000000 in
/-- ████ THE WORKER, FROM ITS BIRTH. ████ -/
theorem hear_all (h1 : ∀ v t d, Dn (v.re t d) → Dn v) (h2 : ∀ v n, Flat Try.prog v → Dn v → Dn (v.upto n)) (hin : i < n) (hl : l.length ≤ 100000) {v : World} (hB0 : B0 ≤ v.heap.size) (hF : Flat Try.prog v) (hW : WF bo bg bi GG c i v) : KW Wg c (ax50 B0 GG H n i l) Dn (hears l) (born Try.prog (call50 Wg bo bg bi)) v := by
 have hK := kw_ok (Wg := Wg) (c := c) (B0 := B0) (GG := GG) (H := H) (n := n) (i := i) (l := l) h1 h2 (hears l)
 refine KA.out (kstep hK hF rfl (born_step Wg bo bg bi) ?_)
 have hown := hW.own
 have hlp := hear_loop (B0 := B0) (H := H) (Wg := Wg) h1 h2 hin hl (B := v.heap.size) hB0 (cell_lt hW.own) (cell_lt hW.g) (cell_lt hW.idx) l [] rfl v (.slice none 0 0) hF hW (Nat.le_refl _) (fun q hq => by cases hq) (World.ownsRow_nil _ _ _ _)
 have hE : E50 = .region 6 ops50 true := rfl
 rw [hE] at hlp
 simp only [L50, body50, Try.f50, Option.getD_some, T50] at hlp ⊢
 refine kSeq hK hF (kRegion hK hF ?_)
 refine kstep hK hF rfl (fun w => stepG_defer rfl rfl (by k_ne) rfl) ?_
 walk_nrm
 refine kRegEnd hK hF (kSeq hK hF (kRegion hK hF ?_))
 refine kOp closedS.bodies hK hF (val := .slice none 0 0) (by k_ne) rfl rfl (by kernel_rfl) (fun v₁ hv => by go_simp) ?_
 walk_nrm
 refine kRegEnd hK hF (kSeq hK hF (kSeq hK hF (kRegion hK hF ?_)))
 refine kOp closedS.bodies hK hF (val := .chan (some c)) (by k_ne) rfl rfl (by kernel_rfl) (fun v₁ hv => by have := cell_up hv hown; go_simp) ?_
 walk_nrm
 refine kRegEnd hK hF (kBlock hK hF (kLoop hK hF ?_))
 exact hlp _ _ _ _ _ _ _ _ _ _ _ _ _ _ _
end
end Go.Proofs.Ythmgpkcijolljaa
