/-
  A guest moves to another bridge: the regions that draw their order.
-/
import Derived.Test.YthmgpkcijolljaaH16
import Derived.Test.YthmgpkcijolljaaH11
import Derived.Test.YthmgpkcijolljaaH13
namespace Go.Proofs.Ythmgpkcijolljaa
open Go.Conc Go.RowKit Go.Conc.Lib
open Go.ConcN (upd upd_same upd_ne)
open Go.ChangeMaps
set_option linter.unusedSimpArgs false
set_option linter.unusedVariables false
noncomputable def body53 : Code := Try.f53.body.getD .skip
noncomputable def ops53a : Array Oper := match body53 with
 | .seq _ (.seq (.seq (.region _ ops _) _) _) => ops
 | _ => #[]
theorem size53a : ops53a.size = 8 := by kernel_rfl
theorem apart53a : ApartB ops53a = true := by kernel_rfl
def F53a (GA On n1 g : Nat) (c : Option Nat) (j : Nat) : Value := #[.pointer (some ⟨GA, 0, none⟩), .pointer (some ⟨GA, 0, none⟩), .pointer (some ⟨GA, 2, none⟩), .slice (some ⟨On, 0, none⟩) n1 n1, .int .i64 g, .pointer (some ⟨On, g, none⟩), .chan c, .chan c].getD j undef
set_option maxRecDepth 100000 in
set_option maxHeartbeats 4000000 in
theorem quiet53a {v : World} {T0 : Array Value} {GA On n1 g : Nat} {c : Option Nat} {bq : Nat} (c2 : v.cell? ⟨GA, 2, none⟩ = some (.slice (some ⟨On, 0, none⟩) n1 n1)) (cg : v.cell? ⟨bq, 0, none⟩ = some (.int .i64 g)) (co : v.cell? ⟨On, g, none⟩ = some (.chan c)) (hg : g < n1) (hsz : T0.size = 52) (h0 : T0.getD 0 undef = .pointer (some ⟨GA, 0, none⟩)) (h4 : T0.getD 4 undef = .pointer (some ⟨bq, 0, none⟩)) (j : Nat) (hj : j = 0 ∨ j = 1 ∨ j = 2 ∨ j = 3 ∨ j = 4 ∨ j = 5 ∨ j = 6 ∨ j = 7) : QuietAt Try.prog Sf v ops53a (F53a GA On n1 g c) T0 j := by
 have hA := apart53a
 rcases hj with rfl | rfl | rfl | rfl | rfl | rfl | rfl | rfl
 ·refine quiet_of (o := { dst := some 7, op := Op.move (Operand.tmp 0), type := 56, pos := "l7_bridges.go:56", after := #[], guard := none }) (by kernel_rfl) (by kernel_rfl) rfl [] (by kernel_rfl) fun d hd v₁ hx => ?_
  have e0 := (fill_old (ops := ops53a) (F := (F53a GA On n1 g c)) (T0 := T0) (s := 0) (by kernel_rfl) d []).trans h0
  unfold execOp
  simp only [e0]
  first | (simp only [F53a]; go_simp <;> rfl) | (simp only [F53a]; rfl)
 ·refine quiet_of (o := { dst := some 8, op := Op.nilCheck (Operand.tmp 7), type := 0, pos := "l7_bridges.go:56", after := #[{ on := 0, ground := Ground.data }], guard := none }) (by kernel_rfl) (by kernel_rfl) rfl [0] (by kernel_rfl) fun d hd v₁ hx => ?_
  have e7 := fill_ev (F := (F53a GA On n1 g c)) (T0 := T0) hA (i := 0) (s := 7) (by kernel_rfl) (by rw [hsz]; decide) (hd 0 (by simp)) []
  unfold execOp
  simp only [e7]
  first | (simp only [F53a]; go_simp <;> rfl) | (simp only [F53a]; rfl)
 ·refine quiet_of (o := { dst := some 9, op := Op.fieldAddr 62 (Operand.tmp 8) 2, type := 0, pos := "l7_bridges.go:56", after := #[{ on := 1, ground := Ground.data }], guard := none }) (by kernel_rfl) (by kernel_rfl) rfl [1] (by kernel_rfl) fun d hd v₁ hx => ?_
  have e8 := fill_ev (F := (F53a GA On n1 g c)) (T0 := T0) hA (i := 1) (s := 8) (by kernel_rfl) (by rw [hsz]; decide) (hd 1 (by simp)) []
  unfold execOp
  simp only [e8]
  first | (simp only [F53a]; go_simp <;> rfl) | (simp only [F53a]; rfl)
 ·refine quiet_of (o := { dst := some 10, op := Op.load 58 (Operand.tmp 9), type := 58, pos := "l7_bridges.go:56", after := #[{ on := 2, ground := Ground.data }], guard := none }) (by kernel_rfl) (by kernel_rfl) rfl [2] (by kernel_rfl) fun d hd v₁ hx => ?_
  have e9 := fill_ev (F := (F53a GA On n1 g c)) (T0 := T0) hA (i := 2) (s := 9) (by kernel_rfl) (by rw [hsz]; decide) (hd 2 (by simp)) []
  have hc0 := cell_up hx c2
  unfold execOp
  simp only [e9]
  first | (simp only [F53a]; go_simp <;> rfl) | (simp only [F53a]; rfl)
 ·refine quiet_of (o := { dst := some 11, op := Op.load 3 (Operand.tmp 4), type := 3, pos := "l7_bridges.go:56", after := #[], guard := none }) (by kernel_rfl) (by kernel_rfl) rfl [] (by kernel_rfl) fun d hd v₁ hx => ?_
  have e4 := (fill_old (ops := ops53a) (F := (F53a GA On n1 g c)) (T0 := T0) (s := 4) (by kernel_rfl) d []).trans h4
  have hc0 := cell_up hx cg
  unfold execOp
  simp only [e4]
  first | (simp only [F53a]; go_simp <;> rfl) | (simp only [F53a]; rfl)
 ·refine quiet_of (o := { dst := some 12, op := Op.indexAddr 58 (Operand.tmp 10) (Operand.tmp 11), type := 0, pos := "l7_bridges.go:56", after := #[{ on := 3, ground := Ground.data }, { on := 4, ground := Ground.data }], guard := none }) (by kernel_rfl) (by kernel_rfl) rfl [3, 4] (by kernel_rfl) fun d hd v₁ hx => ?_
  have e10 := fill_ev (F := (F53a GA On n1 g c)) (T0 := T0) hA (i := 3) (s := 10) (by kernel_rfl) (by rw [hsz]; decide) (hd 3 (by simp)) []
  have e11 := fill_ev (F := (F53a GA On n1 g c)) (T0 := T0) hA (i := 4) (s := 11) (by kernel_rfl) (by rw [hsz]; decide) (hd 4 (by simp)) []
  have hg' : (g : Int) < (n1 : Int) := by omega
  unfold execOp
  simp only [e10, e11]
  first | (simp only [F53a]; go_simp <;> rfl) | (simp only [F53a]; rfl)
 ·refine quiet_of (o := { dst := some 13, op := Op.load 68 (Operand.tmp 12), type := 68, pos := "l7_bridges.go:56", after := #[{ on := 5, ground := Ground.data }], guard := none }) (by kernel_rfl) (by kernel_rfl) rfl [5] (by kernel_rfl) fun d hd v₁ hx => ?_
  have e12 := fill_ev (F := (F53a GA On n1 g c)) (T0 := T0) hA (i := 5) (s := 12) (by kernel_rfl) (by rw [hsz]; decide) (hd 5 (by simp)) []
  have hc0 := cell_up hx co
  unfold execOp
  simp only [e12]
  first | (simp only [F53a]; go_simp <;> rfl) | (simp only [F53a]; rfl)
 ·refine quiet_of (o := { dst := some 6, op := Op.assign (Operand.tmp 13), type := 68, pos := "l7_bridges.go:56", after := #[{ on := 6, ground := Ground.data }, { on := 0, ground := Ground.phase }, { on := 1, ground := Ground.phase }, { on := 2, ground := Ground.phase }, { on := 3, ground := Ground.phase }, { on := 4, ground := Ground.phase }, { on := 5, ground := Ground.phase }, { on := 6, ground := Ground.phase }], guard := none }) (by kernel_rfl) (by kernel_rfl) rfl [6] (by kernel_rfl) fun d hd v₁ hx => ?_
  have e13 := fill_ev (F := (F53a GA On n1 g c)) (T0 := T0) hA (i := 6) (s := 13) (by kernel_rfl) (by rw [hsz]; decide) (hd 6 (by simp)) []
  unfold execOp
  simp only [e13]
  first | (simp only [F53a]; go_simp <;> rfl) | (simp only [F53a]; rfl)
noncomputable def ops53b : Array Oper := match body53 with
 | .seq _ (.seq (.seq _ (.seq _ (.cond _ (.region _ ops _) _))) _) => ops
 | _ => #[]
theorem o53b_12 : ops53b[12]? = some { dst := some 28, op := Op.call { callee := Callee.value (Operand.func 70), args := #[Operand.tmp 26, Operand.tmp 27], argTypes := #[32, 107] }, type := 32, pos := "l7_bridges.go:57", after := #[{ on := 10, ground := Ground.data }, { on := 11, ground := Ground.data }], guard := none } := by kernel_rfl
theorem o53b_13 : ops53b[13]? = some { dst := none, op := Op.mapUpdate 60 (Operand.tmp 19) (Operand.tmp 20) (Operand.tmp 28), type := 0, pos := "l7_bridges.go:57", after := #[{ on := 3, ground := Ground.data }, { on := 4, ground := Ground.data }, { on := 12, ground := Ground.data }, { on := 12, ground := Ground.chain }, { on := 0, ground := Ground.phase }, { on := 1, ground := Ground.phase }, { on := 2, ground := Ground.phase }, { on := 3, ground := Ground.phase }, { on := 4, ground := Ground.phase }, { on := 5, ground := Ground.phase }, { on := 6, ground := Ground.phase }, { on := 7, ground := Ground.phase }, { on := 8, ground := Ground.phase }, { on := 9, ground := Ground.phase }, { on := 10, ground := Ground.phase }, { on := 11, ground := Ground.phase }, { on := 12, ground := Ground.phase }], guard := none } := by kernel_rfl
theorem size53b : ops53b.size = 14 := by kernel_rfl
theorem apart53b : ApartB ops53b = true := by kernel_rfl
def F53b (GA Gm bq : Nat) (c : Option Nat) (X R : Value) (j : Nat) : Value := #[.pointer (some ⟨GA, 0, none⟩), .pointer (some ⟨GA, 0, none⟩), .pointer (some ⟨GA, 3, none⟩), .map (some Gm), .chan c, .pointer (some ⟨GA, 0, none⟩), .pointer (some ⟨GA, 0, none⟩), .pointer (some ⟨GA, 3, none⟩), .map (some Gm), .chan c, X, .func (.func 71) #[] #[.pointer (some ⟨bq, 0, none⟩)], R, undef].getD j undef
set_option maxRecDepth 100000 in
set_option maxHeartbeats 4000000 in
theorem quiet53b {v : World} {T0 : Array Value} {GA Gm bq : Nat} {c : Option Nat} {X R : Value} (c3 : v.cell? ⟨GA, 3, none⟩ = some (.map (some Gm))) (hm : ∀ v₁ : World, (∀ (b : Nat) (o : Obj), v.heap[b]? = some o → v₁.heap[b]? = some o) → (Instr.lookup 60 (.map (some Gm)) (.chan c) false).run Try.prog v₁ = .ok X v₁) (hsz : T0.size = 52) (h0 : T0.getD 0 undef = .pointer (some ⟨GA, 0, none⟩)) (h4 : T0.getD 4 undef = .pointer (some ⟨bq, 0, none⟩)) (h6 : T0.getD 6 undef = .chan c) (j : Nat) (hj : j = 0 ∨ j = 1 ∨ j = 2 ∨ j = 3 ∨ j = 4 ∨ j = 5 ∨ j = 6 ∨ j = 7 ∨ j = 8 ∨ j = 9 ∨ j = 10 ∨ j = 11) : QuietAt Try.prog Sf v ops53b (F53b GA Gm bq c X R) T0 j := by
 have hA := apart53b
 rcases hj with rfl | rfl | rfl | rfl | rfl | rfl | rfl | rfl | rfl | rfl | rfl | rfl
 ·refine quiet_of (o := { dst := some 16, op := Op.move (Operand.tmp 0), type := 56, pos := "l7_bridges.go:57", after := #[], guard := none }) (by kernel_rfl) (by kernel_rfl) rfl [] (by kernel_rfl) fun d hd v₁ hx => ?_
  have e0 := (fill_old (ops := ops53b) (F := (F53b GA Gm bq c X R)) (T0 := T0) (s := 0) (by kernel_rfl) d []).trans h0
  unfold execOp
  simp only [e0]
  first | (simp only [F53b]; go_simp <;> rfl) | (simp only [F53b]; rfl)
 ·refine quiet_of (o := { dst := some 17, op := Op.nilCheck (Operand.tmp 16), type := 0, pos := "l7_bridges.go:57", after := #[{ on := 0, ground := Ground.data }], guard := none }) (by kernel_rfl) (by kernel_rfl) rfl [0] (by kernel_rfl) fun d hd v₁ hx => ?_
  have e16 := fill_ev (F := (F53b GA Gm bq c X R)) (T0 := T0) hA (i := 0) (s := 16) (by kernel_rfl) (by rw [hsz]; decide) (hd 0 (by simp)) []
  unfold execOp
  simp only [e16]
  first | (simp only [F53b]; go_simp <;> rfl) | (simp only [F53b]; rfl)
 ·refine quiet_of (o := { dst := some 18, op := Op.fieldAddr 62 (Operand.tmp 17) 3, type := 0, pos := "l7_bridges.go:57", after := #[{ on := 1, ground := Ground.data }], guard := none }) (by kernel_rfl) (by kernel_rfl) rfl [1] (by kernel_rfl) fun d hd v₁ hx => ?_
  have e17 := fill_ev (F := (F53b GA Gm bq c X R)) (T0 := T0) hA (i := 1) (s := 17) (by kernel_rfl) (by rw [hsz]; decide) (hd 1 (by simp)) []
  unfold execOp
  simp only [e17]
  first | (simp only [F53b]; go_simp <;> rfl) | (simp only [F53b]; rfl)
 ·refine quiet_of (o := { dst := some 19, op := Op.load 60 (Operand.tmp 18), type := 60, pos := "l7_bridges.go:57", after := #[{ on := 2, ground := Ground.data }], guard := none }) (by kernel_rfl) (by kernel_rfl) rfl [2] (by kernel_rfl) fun d hd v₁ hx => ?_
  have e18 := fill_ev (F := (F53b GA Gm bq c X R)) (T0 := T0) hA (i := 2) (s := 18) (by kernel_rfl) (by rw [hsz]; decide) (hd 2 (by simp)) []
  have hc0 := cell_up hx c3
  unfold execOp
  simp only [e18]
  first | (simp only [F53b]; go_simp <;> rfl) | (simp only [F53b]; rfl)
 ·refine quiet_of (o := { dst := some 20, op := Op.move (Operand.tmp 6), type := 68, pos := "l7_bridges.go:57", after := #[], guard := none }) (by kernel_rfl) (by kernel_rfl) rfl [] (by kernel_rfl) fun d hd v₁ hx => ?_
  have e6 := (fill_old (ops := ops53b) (F := (F53b GA Gm bq c X R)) (T0 := T0) (s := 6) (by kernel_rfl) d []).trans h6
  unfold execOp
  simp only [e6]
  first | (simp only [F53b]; go_simp <;> rfl) | (simp only [F53b]; rfl)
 ·refine quiet_of (o := { dst := some 21, op := Op.move (Operand.tmp 0), type := 56, pos := "l7_bridges.go:57", after := #[], guard := none }) (by kernel_rfl) (by kernel_rfl) rfl [] (by kernel_rfl) fun d hd v₁ hx => ?_
  have e0 := (fill_old (ops := ops53b) (F := (F53b GA Gm bq c X R)) (T0 := T0) (s := 0) (by kernel_rfl) d []).trans h0
  unfold execOp
  simp only [e0]
  first | (simp only [F53b]; go_simp <;> rfl) | (simp only [F53b]; rfl)
 ·refine quiet_of (o := { dst := some 22, op := Op.nilCheck (Operand.tmp 21), type := 0, pos := "l7_bridges.go:57", after := #[{ on := 5, ground := Ground.data }], guard := none }) (by kernel_rfl) (by kernel_rfl) rfl [5] (by kernel_rfl) fun d hd v₁ hx => ?_
  have e21 := fill_ev (F := (F53b GA Gm bq c X R)) (T0 := T0) hA (i := 5) (s := 21) (by kernel_rfl) (by rw [hsz]; decide) (hd 5 (by simp)) []
  unfold execOp
  simp only [e21]
  first | (simp only [F53b]; go_simp <;> rfl) | (simp only [F53b]; rfl)
 ·refine quiet_of (o := { dst := some 23, op := Op.fieldAddr 62 (Operand.tmp 22) 3, type := 0, pos := "l7_bridges.go:57", after := #[{ on := 6, ground := Ground.data }], guard := none }) (by kernel_rfl) (by kernel_rfl) rfl [6] (by kernel_rfl) fun d hd v₁ hx => ?_
  have e22 := fill_ev (F := (F53b GA Gm bq c X R)) (T0 := T0) hA (i := 6) (s := 22) (by kernel_rfl) (by rw [hsz]; decide) (hd 6 (by simp)) []
  unfold execOp
  simp only [e22]
  first | (simp only [F53b]; go_simp <;> rfl) | (simp only [F53b]; rfl)
 ·refine quiet_of (o := { dst := some 24, op := Op.load 60 (Operand.tmp 23), type := 60, pos := "l7_bridges.go:57", after := #[{ on := 7, ground := Ground.data }], guard := none }) (by kernel_rfl) (by kernel_rfl) rfl [7] (by kernel_rfl) fun d hd v₁ hx => ?_
  have e23 := fill_ev (F := (F53b GA Gm bq c X R)) (T0 := T0) hA (i := 7) (s := 23) (by kernel_rfl) (by rw [hsz]; decide) (hd 7 (by simp)) []
  have hc0 := cell_up hx c3
  unfold execOp
  simp only [e23]
  first | (simp only [F53b]; go_simp <;> rfl) | (simp only [F53b]; rfl)
 ·refine quiet_of (o := { dst := some 25, op := Op.move (Operand.tmp 6), type := 68, pos := "l7_bridges.go:57", after := #[], guard := none }) (by kernel_rfl) (by kernel_rfl) rfl [] (by kernel_rfl) fun d hd v₁ hx => ?_
  have e6 := (fill_old (ops := ops53b) (F := (F53b GA Gm bq c X R)) (T0 := T0) (s := 6) (by kernel_rfl) d []).trans h6
  unfold execOp
  simp only [e6]
  first | (simp only [F53b]; go_simp <;> rfl) | (simp only [F53b]; rfl)
 ·refine quiet_of (o := { dst := some 26, op := Op.lookup 60 (Operand.tmp 24) (Operand.tmp 25) false, type := 32, pos := "l7_bridges.go:57", after := #[{ on := 8, ground := Ground.data }, { on := 9, ground := Ground.data }], guard := none }) (by kernel_rfl) (by kernel_rfl) rfl [8, 9] (by kernel_rfl) fun d hd v₁ hx => ?_
  have e24 := fill_ev (F := (F53b GA Gm bq c X R)) (T0 := T0) hA (i := 8) (s := 24) (by kernel_rfl) (by rw [hsz]; decide) (hd 8 (by simp)) []
  have e25 := fill_ev (F := (F53b GA Gm bq c X R)) (T0 := T0) hA (i := 9) (s := 25) (by kernel_rfl) (by rw [hsz]; decide) (hd 9 (by simp)) []
  have hm1 := hm v₁ hx
  clear hm
  unfold execOp
  simp only [e24, e25]
  first | (simp only [F53b]; go_simp <;> rfl) | (simp only [F53b]; rfl)
 ·refine quiet_of (o := { dst := some 27, op := Op.makeFunc (Fn.func 71) #[] #[Operand.tmp 4], type := 107, pos := "l7_bridges.go:57", after := #[], guard := none }) (by kernel_rfl) (by kernel_rfl) rfl [] (by kernel_rfl) fun d hd v₁ hx => ?_
  have e4 := (fill_old (ops := ops53b) (F := (F53b GA Gm bq c X R)) (T0 := T0) (s := 4) (by kernel_rfl) d []).trans h4
  unfold execOp
  simp only [e4]
  simp only [F53b, List.map_toArray, List.map_cons, List.map_nil, e4]; go_simp <;> rfl
noncomputable def ops53c : Array Oper := match body53 with
 | .seq _ (.seq _ (.seq (.region _ ops _) _)) => ops
 | _ => #[]
theorem o53c_7 : ops53c[7]? = some { dst := none, op := Op.store 68 (Operand.tmp 35) (Operand.tmp 34), type := 0, pos := "l7_bridges.go:59", after := #[{ on := 6, ground := Ground.data }, { on := 5, ground := Ground.data }, { on := 0, ground := Ground.phase }, { on := 1, ground := Ground.phase }, { on := 2, ground := Ground.phase }, { on := 3, ground := Ground.phase }, { on := 4, ground := Ground.phase }, { on := 5, ground := Ground.phase }], guard := none } := by kernel_rfl
theorem size53c : ops53c.size = 8 := by kernel_rfl
theorem apart53c : ApartB ops53c = true := by kernel_rfl
def F53c (GA On n1 g : Nat) (c : Option Nat) (j : Nat) : Value := #[.pointer (some ⟨GA, 0, none⟩), .pointer (some ⟨GA, 0, none⟩), .pointer (some ⟨GA, 2, none⟩), .slice (some ⟨On, 0, none⟩) n1 n1, .int .i64 g, .chan c, .pointer (some ⟨On, g, none⟩), undef].getD j undef
set_option maxRecDepth 100000 in
set_option maxHeartbeats 4000000 in
theorem quiet53c {v : World} {T0 : Array Value} {GA On n1 g : Nat} {c : Option Nat} {bq : Nat} (c2 : v.cell? ⟨GA, 2, none⟩ = some (.slice (some ⟨On, 0, none⟩) n1 n1)) (cg : v.cell? ⟨bq, 0, none⟩ = some (.int .i64 g)) (hg : g < n1) (hsz : T0.size = 52) (h0 : T0.getD 0 undef = .pointer (some ⟨GA, 0, none⟩)) (h2 : T0.getD 2 undef = .chan c) (h4 : T0.getD 4 undef = .pointer (some ⟨bq, 0, none⟩)) (j : Nat) (hj : j = 0 ∨ j = 1 ∨ j = 2 ∨ j = 3 ∨ j = 4 ∨ j = 5 ∨ j = 6) : QuietAt Try.prog Sf v ops53c (F53c GA On n1 g c) T0 j := by
 have hA := apart53c
 rcases hj with rfl | rfl | rfl | rfl | rfl | rfl | rfl
 ·refine quiet_of (o := { dst := some 29, op := Op.move (Operand.tmp 0), type := 56, pos := "l7_bridges.go:59", after := #[], guard := none }) (by kernel_rfl) (by kernel_rfl) rfl [] (by kernel_rfl) fun d hd v₁ hx => ?_
  have e0 := (fill_old (ops := ops53c) (F := (F53c GA On n1 g c)) (T0 := T0) (s := 0) (by kernel_rfl) d []).trans h0
  unfold execOp
  simp only [e0]
  first | (simp only [F53c]; go_simp <;> rfl) | (simp only [F53c]; rfl)
 ·refine quiet_of (o := { dst := some 30, op := Op.nilCheck (Operand.tmp 29), type := 0, pos := "l7_bridges.go:59", after := #[{ on := 0, ground := Ground.data }], guard := none }) (by kernel_rfl) (by kernel_rfl) rfl [0] (by kernel_rfl) fun d hd v₁ hx => ?_
  have e29 := fill_ev (F := (F53c GA On n1 g c)) (T0 := T0) hA (i := 0) (s := 29) (by kernel_rfl) (by rw [hsz]; decide) (hd 0 (by simp)) []
  unfold execOp
  simp only [e29]
  first | (simp only [F53c]; go_simp <;> rfl) | (simp only [F53c]; rfl)
 ·refine quiet_of (o := { dst := some 31, op := Op.fieldAddr 62 (Operand.tmp 30) 2, type := 0, pos := "l7_bridges.go:59", after := #[{ on := 1, ground := Ground.data }], guard := none }) (by kernel_rfl) (by kernel_rfl) rfl [1] (by kernel_rfl) fun d hd v₁ hx => ?_
  have e30 := fill_ev (F := (F53c GA On n1 g c)) (T0 := T0) hA (i := 1) (s := 30) (by kernel_rfl) (by rw [hsz]; decide) (hd 1 (by simp)) []
  unfold execOp
  simp only [e30]
  first | (simp only [F53c]; go_simp <;> rfl) | (simp only [F53c]; rfl)
 ·refine quiet_of (o := { dst := some 32, op := Op.load 58 (Operand.tmp 31), type := 58, pos := "l7_bridges.go:59", after := #[{ on := 2, ground := Ground.data }], guard := none }) (by kernel_rfl) (by kernel_rfl) rfl [2] (by kernel_rfl) fun d hd v₁ hx => ?_
  have e31 := fill_ev (F := (F53c GA On n1 g c)) (T0 := T0) hA (i := 2) (s := 31) (by kernel_rfl) (by rw [hsz]; decide) (hd 2 (by simp)) []
  have hc0 := cell_up hx c2
  unfold execOp
  simp only [e31]
  first | (simp only [F53c]; go_simp <;> rfl) | (simp only [F53c]; rfl)
 ·refine quiet_of (o := { dst := some 33, op := Op.load 3 (Operand.tmp 4), type := 3, pos := "l7_bridges.go:59", after := #[], guard := none }) (by kernel_rfl) (by kernel_rfl) rfl [] (by kernel_rfl) fun d hd v₁ hx => ?_
  have e4 := (fill_old (ops := ops53c) (F := (F53c GA On n1 g c)) (T0 := T0) (s := 4) (by kernel_rfl) d []).trans h4
  have hc0 := cell_up hx cg
  unfold execOp
  simp only [e4]
  first | (simp only [F53c]; go_simp <;> rfl) | (simp only [F53c]; rfl)
 ·refine quiet_of (o := { dst := some 34, op := Op.move (Operand.tmp 2), type := 68, pos := "l7_bridges.go:59", after := #[], guard := none }) (by kernel_rfl) (by kernel_rfl) rfl [] (by kernel_rfl) fun d hd v₁ hx => ?_
  have e2 := (fill_old (ops := ops53c) (F := (F53c GA On n1 g c)) (T0 := T0) (s := 2) (by kernel_rfl) d []).trans h2
  unfold execOp
  simp only [e2]
  first | (simp only [F53c]; go_simp <;> rfl) | (simp only [F53c]; rfl)
 ·refine quiet_of (o := { dst := some 35, op := Op.indexAddr 58 (Operand.tmp 32) (Operand.tmp 33), type := 0, pos := "l7_bridges.go:59", after := #[{ on := 3, ground := Ground.data }, { on := 4, ground := Ground.data }, { on := 0, ground := Ground.phase }, { on := 1, ground := Ground.phase }, { on := 2, ground := Ground.phase }, { on := 3, ground := Ground.phase }, { on := 4, ground := Ground.phase }, { on := 5, ground := Ground.phase }], guard := none }) (by kernel_rfl) (by kernel_rfl) rfl [3, 4] (by kernel_rfl) fun d hd v₁ hx => ?_
  have e32 := fill_ev (F := (F53c GA On n1 g c)) (T0 := T0) hA (i := 3) (s := 32) (by kernel_rfl) (by rw [hsz]; decide) (hd 3 (by simp)) []
  have e33 := fill_ev (F := (F53c GA On n1 g c)) (T0 := T0) hA (i := 4) (s := 33) (by kernel_rfl) (by rw [hsz]; decide) (hd 4 (by simp)) []
  have hg' : (g : Int) < (n1 : Int) := by omega
  unfold execOp
  simp only [e32, e33]
  first | (simp only [F53c]; go_simp <;> rfl) | (simp only [F53c]; rfl)
noncomputable def ops53d : Array Oper := match body53 with
 | .seq _ (.seq _ (.seq _ (.seq _ (.cond _ (.region _ ops _) _)))) => ops
 | _ => #[]
theorem o53d_12 : ops53d[12]? = some { dst := some 50, op := Op.buildSlice 32 1 #[(0, Operand.tmp 49)], type := 32, pos := "l7_bridges.go:61", after := #[{ on := 11, ground := Ground.data }], guard := none } := by kernel_rfl
theorem o53d_13 : ops53d[13]? = some { dst := some 51, op := Op.call { callee := Callee.builtin Builtin.append, args := #[Operand.tmp 48, Operand.tmp 50], argTypes := #[32, 32] }, type := 32, pos := "l7_bridges.go:61", after := #[{ on := 10, ground := Ground.data }, { on := 12, ground := Ground.data }], guard := none } := by kernel_rfl
theorem o53d_14 : ops53d[14]? = some { dst := none, op := Op.mapUpdate 60 (Operand.tmp 41) (Operand.tmp 42) (Operand.tmp 51), type := 0, pos := "l7_bridges.go:61", after := #[{ on := 3, ground := Ground.data }, { on := 4, ground := Ground.data }, { on := 13, ground := Ground.data }, { on := 13, ground := Ground.chain }, { on := 0, ground := Ground.phase }, { on := 1, ground := Ground.phase }, { on := 2, ground := Ground.phase }, { on := 3, ground := Ground.phase }, { on := 4, ground := Ground.phase }, { on := 5, ground := Ground.phase }, { on := 6, ground := Ground.phase }, { on := 7, ground := Ground.phase }, { on := 8, ground := Ground.phase }, { on := 9, ground := Ground.phase }, { on := 10, ground := Ground.phase }, { on := 11, ground := Ground.phase }, { on := 12, ground := Ground.phase }, { on := 13, ground := Ground.phase }], guard := none } := by kernel_rfl
theorem size53d : ops53d.size = 15 := by kernel_rfl
theorem apart53d : ApartB ops53d = true := by kernel_rfl
def F53d (GA Gm g : Nat) (c : Option Nat) (X Bv R : Value) (j : Nat) : Value := #[.pointer (some ⟨GA, 0, none⟩), .pointer (some ⟨GA, 0, none⟩), .pointer (some ⟨GA, 3, none⟩), .map (some Gm), .chan c, .pointer (some ⟨GA, 0, none⟩), .pointer (some ⟨GA, 0, none⟩), .pointer (some ⟨GA, 3, none⟩), .map (some Gm), .chan c, X, .int .i64 g, Bv, R, undef].getD j undef
set_option maxRecDepth 100000 in
set_option maxHeartbeats 4000000 in
theorem quiet53d {v : World} {T0 : Array Value} {GA Gm g : Nat} {c : Option Nat} {X Bv R : Value} {bq : Nat} (c3 : v.cell? ⟨GA, 3, none⟩ = some (.map (some Gm))) (cg : v.cell? ⟨bq, 0, none⟩ = some (.int .i64 g)) (hm : ∀ v₁ : World, (∀ (b : Nat) (o : Obj), v.heap[b]? = some o → v₁.heap[b]? = some o) → (Instr.lookup 60 (.map (some Gm)) (.chan c) false).run Try.prog v₁ = .ok X v₁) (hsz : T0.size = 52) (h0 : T0.getD 0 undef = .pointer (some ⟨GA, 0, none⟩)) (h2 : T0.getD 2 undef = .chan c) (h4 : T0.getD 4 undef = .pointer (some ⟨bq, 0, none⟩)) (j : Nat) (hj : j = 0 ∨ j = 1 ∨ j = 2 ∨ j = 3 ∨ j = 4 ∨ j = 5 ∨ j = 6 ∨ j = 7 ∨ j = 8 ∨ j = 9 ∨ j = 10 ∨ j = 11) : QuietAt Try.prog Sf v ops53d (F53d GA Gm g c X Bv R) T0 j := by
 have hA := apart53d
 rcases hj with rfl | rfl | rfl | rfl | rfl | rfl | rfl | rfl | rfl | rfl | rfl | rfl
 ·refine quiet_of (o := { dst := some 38, op := Op.move (Operand.tmp 0), type := 56, pos := "l7_bridges.go:61", after := #[], guard := none }) (by kernel_rfl) (by kernel_rfl) rfl [] (by kernel_rfl) fun d hd v₁ hx => ?_
  have e0 := (fill_old (ops := ops53d) (F := (F53d GA Gm g c X Bv R)) (T0 := T0) (s := 0) (by kernel_rfl) d []).trans h0
  unfold execOp
  simp only [e0]
  first | (simp only [F53d]; go_simp <;> rfl) | (simp only [F53d]; rfl)
 ·refine quiet_of (o := { dst := some 39, op := Op.nilCheck (Operand.tmp 38), type := 0, pos := "l7_bridges.go:61", after := #[{ on := 0, ground := Ground.data }], guard := none }) (by kernel_rfl) (by kernel_rfl) rfl [0] (by kernel_rfl) fun d hd v₁ hx => ?_
  have e38 := fill_ev (F := (F53d GA Gm g c X Bv R)) (T0 := T0) hA (i := 0) (s := 38) (by kernel_rfl) (by rw [hsz]; decide) (hd 0 (by simp)) []
  unfold execOp
  simp only [e38]
  first | (simp only [F53d]; go_simp <;> rfl) | (simp only [F53d]; rfl)
 ·refine quiet_of (o := { dst := some 40, op := Op.fieldAddr 62 (Operand.tmp 39) 3, type := 0, pos := "l7_bridges.go:61", after := #[{ on := 1, ground := Ground.data }], guard := none }) (by kernel_rfl) (by kernel_rfl) rfl [1] (by kernel_rfl) fun d hd v₁ hx => ?_
  have e39 := fill_ev (F := (F53d GA Gm g c X Bv R)) (T0 := T0) hA (i := 1) (s := 39) (by kernel_rfl) (by rw [hsz]; decide) (hd 1 (by simp)) []
  unfold execOp
  simp only [e39]
  first | (simp only [F53d]; go_simp <;> rfl) | (simp only [F53d]; rfl)
 ·refine quiet_of (o := { dst := some 41, op := Op.load 60 (Operand.tmp 40), type := 60, pos := "l7_bridges.go:61", after := #[{ on := 2, ground := Ground.data }], guard := none }) (by kernel_rfl) (by kernel_rfl) rfl [2] (by kernel_rfl) fun d hd v₁ hx => ?_
  have e40 := fill_ev (F := (F53d GA Gm g c X Bv R)) (T0 := T0) hA (i := 2) (s := 40) (by kernel_rfl) (by rw [hsz]; decide) (hd 2 (by simp)) []
  have hc0 := cell_up hx c3
  unfold execOp
  simp only [e40]
  first | (simp only [F53d]; go_simp <;> rfl) | (simp only [F53d]; rfl)
 ·refine quiet_of (o := { dst := some 42, op := Op.move (Operand.tmp 2), type := 68, pos := "l7_bridges.go:61", after := #[], guard := none }) (by kernel_rfl) (by kernel_rfl) rfl [] (by kernel_rfl) fun d hd v₁ hx => ?_
  have e2 := (fill_old (ops := ops53d) (F := (F53d GA Gm g c X Bv R)) (T0 := T0) (s := 2) (by kernel_rfl) d []).trans h2
  unfold execOp
  simp only [e2]
  first | (simp only [F53d]; go_simp <;> rfl) | (simp only [F53d]; rfl)
 ·refine quiet_of (o := { dst := some 43, op := Op.move (Operand.tmp 0), type := 56, pos := "l7_bridges.go:61", after := #[], guard := none }) (by kernel_rfl) (by kernel_rfl) rfl [] (by kernel_rfl) fun d hd v₁ hx => ?_
  have e0 := (fill_old (ops := ops53d) (F := (F53d GA Gm g c X Bv R)) (T0 := T0) (s := 0) (by kernel_rfl) d []).trans h0
  unfold execOp
  simp only [e0]
  first | (simp only [F53d]; go_simp <;> rfl) | (simp only [F53d]; rfl)
 ·refine quiet_of (o := { dst := some 44, op := Op.nilCheck (Operand.tmp 43), type := 0, pos := "l7_bridges.go:61", after := #[{ on := 5, ground := Ground.data }], guard := none }) (by kernel_rfl) (by kernel_rfl) rfl [5] (by kernel_rfl) fun d hd v₁ hx => ?_
  have e43 := fill_ev (F := (F53d GA Gm g c X Bv R)) (T0 := T0) hA (i := 5) (s := 43) (by kernel_rfl) (by rw [hsz]; decide) (hd 5 (by simp)) []
  unfold execOp
  simp only [e43]
  first | (simp only [F53d]; go_simp <;> rfl) | (simp only [F53d]; rfl)
 ·refine quiet_of (o := { dst := some 45, op := Op.fieldAddr 62 (Operand.tmp 44) 3, type := 0, pos := "l7_bridges.go:61", after := #[{ on := 6, ground := Ground.data }], guard := none }) (by kernel_rfl) (by kernel_rfl) rfl [6] (by kernel_rfl) fun d hd v₁ hx => ?_
  have e44 := fill_ev (F := (F53d GA Gm g c X Bv R)) (T0 := T0) hA (i := 6) (s := 44) (by kernel_rfl) (by rw [hsz]; decide) (hd 6 (by simp)) []
  unfold execOp
  simp only [e44]
  first | (simp only [F53d]; go_simp <;> rfl) | (simp only [F53d]; rfl)
 ·refine quiet_of (o := { dst := some 46, op := Op.load 60 (Operand.tmp 45), type := 60, pos := "l7_bridges.go:61", after := #[{ on := 7, ground := Ground.data }], guard := none }) (by kernel_rfl) (by kernel_rfl) rfl [7] (by kernel_rfl) fun d hd v₁ hx => ?_
  have e45 := fill_ev (F := (F53d GA Gm g c X Bv R)) (T0 := T0) hA (i := 7) (s := 45) (by kernel_rfl) (by rw [hsz]; decide) (hd 7 (by simp)) []
  have hc0 := cell_up hx c3
  unfold execOp
  simp only [e45]
  first | (simp only [F53d]; go_simp <;> rfl) | (simp only [F53d]; rfl)
 ·refine quiet_of (o := { dst := some 47, op := Op.move (Operand.tmp 2), type := 68, pos := "l7_bridges.go:61", after := #[], guard := none }) (by kernel_rfl) (by kernel_rfl) rfl [] (by kernel_rfl) fun d hd v₁ hx => ?_
  have e2 := (fill_old (ops := ops53d) (F := (F53d GA Gm g c X Bv R)) (T0 := T0) (s := 2) (by kernel_rfl) d []).trans h2
  unfold execOp
  simp only [e2]
  first | (simp only [F53d]; go_simp <;> rfl) | (simp only [F53d]; rfl)
 ·refine quiet_of (o := { dst := some 48, op := Op.lookup 60 (Operand.tmp 46) (Operand.tmp 47) false, type := 32, pos := "l7_bridges.go:61", after := #[{ on := 8, ground := Ground.data }, { on := 9, ground := Ground.data }], guard := none }) (by kernel_rfl) (by kernel_rfl) rfl [8, 9] (by kernel_rfl) fun d hd v₁ hx => ?_
  have e46 := fill_ev (F := (F53d GA Gm g c X Bv R)) (T0 := T0) hA (i := 8) (s := 46) (by kernel_rfl) (by rw [hsz]; decide) (hd 8 (by simp)) []
  have e47 := fill_ev (F := (F53d GA Gm g c X Bv R)) (T0 := T0) hA (i := 9) (s := 47) (by kernel_rfl) (by rw [hsz]; decide) (hd 9 (by simp)) []
  have hm1 := hm v₁ hx
  clear hm
  unfold execOp
  simp only [e46, e47]
  first | (simp only [F53d]; go_simp <;> rfl) | (simp only [F53d]; rfl)
 ·refine quiet_of (o := { dst := some 49, op := Op.load 3 (Operand.tmp 4), type := 3, pos := "l7_bridges.go:61", after := #[], guard := none }) (by kernel_rfl) (by kernel_rfl) rfl [] (by kernel_rfl) fun d hd v₁ hx => ?_
  have e4 := (fill_old (ops := ops53d) (F := (F53d GA Gm g c X Bv R)) (T0 := T0) (s := 4) (by kernel_rfl) d []).trans h4
  have hc0 := cell_up hx cg
  unfold execOp
  simp only [e4]
  first | (simp only [F53d]; go_simp <;> rfl) | (simp only [F53d]; rfl)
end Go.Proofs.Ythmgpkcijolljaa
/-
  A guest moves to another bridge: onto the other bridge.
-/
namespace Go.Proofs.Ythmgpkcijolljaa
open Go.Conc Go.RowKit Go.Conc.Lib
open Go.ConcN (upd upd_same upd_ne)
open Go.ChangeMaps
set_option linter.unusedSimpArgs false
set_option linter.unusedVariables false
theorem lin_last {ops : Array Oper} {d r : List Nat} {m : Nat} (hL : Lin ops (m :: d) r) (hsz : ops.size = m + 1) (hall : ∀ j, j < m → j ∈ d) : r = [] := by
 cases r with
 | nil => rfl
 | cons q r =>
  exfalso
  obtain ⟨h1, h2, _, _⟩ := hL.step
  refine h2 ?_
  by_cases e : q = m
  ·rw [e]; exact List.mem_cons_self ..
  ·exact List.mem_cons_of_mem _ (hall q (by omega))
/-- the rows of the bridges, and what was said alone -/
def Lr (al : List Int) (rows : Nat → List Nat) : Nat → List Int := fun b => if b = 0 then al else rowI (rows b)
theorem Lr_upd (al : List Int) (rows : Nat → List Nat) {b : Nat} (hb : b ≠ 0) (l : List Nat) : upd (Lr al rows) b (rowI l) = Lr al (upd rows b l) := by
 funext c
 by_cases e : c = b
 ·subst e; rw [upd_same]; unfold Lr; rw [if_neg hb, upd_same]
 ·rw [upd_ne _ _ e]; unfold Lr
  split
  ·rfl
  ·rw [upd_ne _ _ e]
theorem Lr_al (al al' : List Int) (rows : Nat → List Nat) : upd (Lr al rows) 0 al' = Lr al' rows := by
 funext c
 by_cases e : c = 0
 ·subst e; rw [upd_same]; rfl
 ·rw [upd_ne _ _ e]; unfold Lr; rw [if_neg e, if_neg e]
theorem rowI_app (l : List Nat) (q : Nat) : rowI l ++ [(q : Int)] = rowI (l ++ [q]) := by simp [rowI]
theorem look_up {v : World} {Gm : Nat} {r : Option Nat} {X : Value} (h : mcm v Gm = true) (hX : (mget v Gm r).getD (.slice none 0 0) = X) : ∀ v₁ : World, (∀ (b : Nat) (o : Obj), v.heap[b]? = some o → v₁.heap[b]? = some o) → (Instr.lookup 60 (.map (some Gm)) (.chan r) false).run Try.prog v₁ = .ok X v₁ := fun v₁ hx => by
 have hb : v₁.heap[Gm]? = v.heap[Gm]? := by
  have hlt := mcm_lt h
  rw [Array.getElem?_eq_getElem hlt]
  exact hx _ _ (Array.getElem?_eq_getElem hlt)
 have hm : mcm v₁ Gm = true := (mcm_of_block hb).trans h
 rw [run_look hm, mget_of_block hb, hX]
noncomputable def E53 : Code := match body53 with | .seq _ (.seq _ c) => c | _ => .skip
section
variable {main : Bool} {Live : World → Prop} {K : Goroutine → World → Prop} {v0 u : World} {A : Ad} {k : Nat} {C : Nat → Nat} {on : Nat → Nat} {L : Nat → List Int} {X : Nat → Value} {al : List Int} {rows : Nat → List Nat} {g bb bq : Nat}
set_option maxRecDepth 100000 in
set_option maxHeartbeats 1000000 in
/-- onto the other bridge -/
theorem on_reg (hK : KOk Try.prog main true false Live K) {b : Frame} {ks : List Item} {cs : List Frame} {T : Array Value} (hk : b.kind ≠ .early) (hM : Mt v0 A k C on (Lr al rows) X u) (hA : AdOk A) (hb0 : 1 ≤ bb) (hb9 : bb ≤ 9) (hlen : (rows bb).length ≤ 1000)
  (hbq : u.cell? ⟨bq, 0, none⟩ = some (.int .i64 g)) (hbx : (X bb).ownBlock ≠ some bq) (hz : T.size = 52) (h0 : T.getD 0 undef = .pointer (some ⟨A.GA, 0, none⟩)) (h2 : T.getD 2 undef = .chan (A.ch bb)) (h4 : T.getD 4 undef = .pointer (some ⟨bq, 0, none⟩))
  (h : ∀ u' X' T', Mt v0 A k C on (Lr al (upd rows bb (rows bb ++ [g]))) X' u' → KA K (G (b.at ⟨T', []⟩ ks) cs) u') :
  KA K (G (b.at ⟨T, []⟩ (.code (.region 6 ops53d true) :: ks)) cs) u := by
 have hF := hM.flat
 have hs : ops53d.size = 15 := size53d
 have hc3 : ∀ {w : World}, Ups u w → w.cell? ⟨A.GA, 3, none⟩ = some (.map (some A.Gm)) := fun hU => hU.cell (by have := hM.cell 3; simpa [gatC] using this)
 have hgmg := hM.gmg bb hb0 hb9
 have hrow := hM.row bb hb9
 have hLb : Lr al rows bb = rowI (rows bb) := by unfold Lr; rw [if_neg (by omega)]
 rw [hLb] at hrow
 refine kDraw (by kernel_rfl) hK hF (by kernel_rfl) fun ord hord => ?_
 have hQ1 := fun j hj => quiet53d (v := u) (T0 := T) (Gm := A.Gm) (GA := A.GA) (g := g) (c := A.ch bb) (X := X bb) (Bv := undef) (R := undef) (bq := bq) (hc3 (Ups.refl u)) hbq (look_up hM.gm hgmg) hz h0 h2 h4 j hj
 refine kPhase (F := F53d A.GA A.Gm g (A.ch bb) (X bb) undef undef) (T0 := T) (df := []) closedS.bodies hK hF hk [0, 1, 2, 3, 4, 5, 6, 7, 8, 9, 10, 11] [] (fun j hj => hQ1 j (by simpa using hj)) 12 (by rw [hs]; decide) (fun d i r hi _ hlt hnd hR _ hC hL => ?_) (l := ord) (d := []) (by simp) (by simp) .nil hord
 rw [hs] at hlt
 simp only [List.mem_cons, List.not_mem_nil, or_false, not_or] at hi
 have hnot : ∀ q, q ∈ d → q < 12 := fun q hq => by
  have := hR q hq
  simp only [List.mem_cons, List.not_mem_nil, or_false] at this
  omega
 rcases (by omega : i = 12 ∨ i = 13 ∨ i = 14) with rfl | rfl | rfl
 ·have m11 : 11 ∈ d := hL.waits o53d_12 (by kernel_rfl)
  have e49 := fill_ev (F := F53d A.GA A.Gm g (A.ch bb) (X bb) undef undef) (T0 := T) apart53d (i := 11) (s := 49) (by kernel_rfl) (by omega) m11 []
  refine kBuild1 hK hF hk o53d_12 rfl rfl (y := (g : Int)) e49 fun u1 p hF1 hU1 hp hc1 => ?_
  obtain ⟨_, _, hdep, hL1⟩ := hL.step
  have hsh1 := hC.cons hdep
  have eF : (Act.mk (fillT ops53d (F53d A.GA A.Gm g (A.ch bb) (X bb) undef undef) T d) []).put (some 50) (.slice (some ⟨p, 0, none⟩) 1 1) = ⟨fillT ops53d (F53d A.GA A.Gm g (A.ch bb) (X bb) (.slice (some ⟨p, 0, none⟩) 1 1) undef) T (12 :: d), []⟩ := by
   rw [fillT_congr (F := F53d A.GA A.Gm g (A.ch bb) (X bb) undef undef) (F' := F53d A.GA A.Gm g (A.ch bb) (X bb) (.slice (some ⟨p, 0, none⟩) 1 1) undef) fun j hj => ?_]
   ·exact fill_put o53d_12 rfl
   ·have := hnot j hj
    rcases (by omega : j = 0 ∨ j = 1 ∨ j = 2 ∨ j = 3 ∨ j = 4 ∨ j = 5 ∨ j = 6 ∨ j = 7 ∨ j = 8 ∨ j = 9 ∨ j = 10 ∨ j = 11) with rfl | rfl | rfl | rfl | rfl | rfl | rfl | rfl | rfl | rfl | rfl | rfl <;> rfl
  refine Eq.mp (congrArg (fun a => KA K (G (b.at a _) cs) u1) eF.symm) ?_
  clear eF
  have hM1 := hM.ups hF1 hU1
  have hQ2 := fun j hj => quiet53d (v := u1) (T0 := T) (Gm := A.Gm) (GA := A.GA) (g := g) (c := A.ch bb) (X := X bb) (Bv := .slice (some ⟨p, 0, none⟩) 1 1) (R := undef) (bq := bq) (hc3 hU1) (hU1.cell hbq) (look_up hM1.gm (hM1.gmg bb hb0 hb9)) hz h0 h2 h4 j hj
  refine kPhase (F := F53d A.GA A.Gm g (A.ch bb) (X bb) (.slice (some ⟨p, 0, none⟩) 1 1) undef) (T0 := T) (df := []) closedS.bodies hK hF1 hk [0, 1, 2, 3, 4, 5, 6, 7, 8, 9, 10, 11] [12] (fun j hj => hQ2 j (by simpa using hj)) 13 (by rw [hs]; decide) (fun d' i r' hi hi2 hlt' hnd' hR' h0' hC' hL' => ?_) (fun j hj => ?_) (by simp) hsh1 hL1
  ·rw [hs] at hlt'
   simp only [List.mem_cons, List.not_mem_nil, or_false, not_or] at hi hi2
   have hnot' : ∀ q, q ∈ d' → q < 13 := fun q hq => by
    have := hR' q hq
    simp only [List.mem_cons, List.not_mem_nil, or_false] at this
    omega
   rcases (by omega : i = 13 ∨ i = 14) with rfl | rfl
   ·have m10 : 10 ∈ d' := hL'.waits o53d_13 (by kernel_rfl)
    have m12 : 12 ∈ d' := h0' 12 (by simp)
    have m11' : 11 ∈ d' := shut_dep hC' m12 o53d_12 (by kernel_rfl)
    have e48 := fill_ev (F := F53d A.GA A.Gm g (A.ch bb) (X bb) (.slice (some ⟨p, 0, none⟩) 1 1) undef) (T0 := T) apart53d (i := 10) (s := 48) (by kernel_rfl) (by omega) m10 []
    have e50 := fill_ev (F := F53d A.GA A.Gm g (A.ch bb) (X bb) (.slice (some ⟨p, 0, none⟩) 1 1) undef) (T0 := T) apart53d (i := 12) (s := 50) (by kernel_rfl) (by omega) m12 []
    refine kAppend1 hK hF1 hk o53d_13 rfl rfl (hv := X bb) (l := rowI (rows bb)) (ad := ⟨p, 0, none⟩) (y := g) e48 e50 (own_mono (hU1.own hrow) (Nat.zero_le _)) hc1 (by rw [rowI_length]; omega) fun u2 x' hF2 hs2 hg2 hr2 hl2 => ?_
    obtain ⟨_, _, hdep2, hL2⟩ := hL'.step
    have hsh2 := hC'.cons hdep2
    rw [rowI_app] at hr2
    have hRC : RowCh u u2 A X bb x' (rowI (rows bb ++ [g])) := by
     refine ⟨hF2, Nat.le_trans hU1.size hs2, fun q hq hne => (hg2 q (by have := hU1.size; omega) hne).trans (hU1.get q hq), own_base hr2 fun q hq => ?_, ?_⟩
     ·rcases hl2 with e | ⟨q', h3, e⟩
      ·exact (hrow.lt q (e ▸ hq)).1
      ·rw [e] at hq
       obtain rfl := Option.some.inj hq
       have := hM.old.size
       have := hM.rb.2
       have := hU1.size
       omega
     ·rcases hl2 with e | ⟨q', h3, e⟩
      ·exact .inl e
      ·exact .inr ⟨q', Nat.le_trans hU1.size h3, e⟩
    have eF2 : (Act.mk (fillT ops53d (F53d A.GA A.Gm g (A.ch bb) (X bb) (.slice (some ⟨p, 0, none⟩) 1 1) undef) T d') []).put (some 51) x' = ⟨fillT ops53d (F53d A.GA A.Gm g (A.ch bb) (X bb) (.slice (some ⟨p, 0, none⟩) 1 1) x') T (13 :: d'), []⟩ := by
     rw [fillT_congr (F := F53d A.GA A.Gm g (A.ch bb) (X bb) (.slice (some ⟨p, 0, none⟩) 1 1) undef) (F' := F53d A.GA A.Gm g (A.ch bb) (X bb) (.slice (some ⟨p, 0, none⟩) 1 1) x') fun j hj => ?_]
     ·exact fill_put o53d_13 rfl
     ·have := hnot' j hj
      rcases (by omega : j = 0 ∨ j = 1 ∨ j = 2 ∨ j = 3 ∨ j = 4 ∨ j = 5 ∨ j = 6 ∨ j = 7 ∨ j = 8 ∨ j = 9 ∨ j = 10 ∨ j = 11 ∨ j = 12) with rfl | rfl | rfl | rfl | rfl | rfl | rfl | rfl | rfl | rfl | rfl | rfl | rfl <;> rfl
    refine Eq.mp (congrArg (fun a => KA K (G (b.at a _) cs) u2) eF2.symm) ?_
    clear eF2
    have hgat2 := hRC.gat hM hb9
    have d3 : u2.cell? ⟨A.GA, 3, none⟩ = some (.map (some A.Gm)) := by simp [World.cell?, hgat2, gatC]
    have hgm2 : mcm u2 A.Gm = true := (mcm_of_block (hRC.get _ (mcm_lt hM.gm) (fun e => hM.row_ne hb9 e (mem_all (by simp))))).trans hM.gm
    have hgmg2 : (mget u2 A.Gm (A.ch bb)).getD (.slice none 0 0) = X bb := by
     rw [mget_of_block (hRC.get _ (mcm_lt hM.gm) (fun e => hM.row_ne hb9 e (mem_all (by simp))))]; exact hgmg
    have hbq2 : u2.cell? ⟨bq, 0, none⟩ = some (.int .i64 g) := by
     rw [World.cell?_of_block (a := ⟨bq, 0, none⟩) (hRC.get bq (cell_lt hbq) hbx)]; exact hbq
    have hQ3 := fun j hj => quiet53d (v := u2) (T0 := T) (Gm := A.Gm) (GA := A.GA) (g := g) (c := A.ch bb) (X := X bb) (Bv := .slice (some ⟨p, 0, none⟩) 1 1) (R := x') (bq := bq) d3 hbq2 (look_up hgm2 hgmg2) hz h0 h2 h4 j hj
    refine kPhase (F := F53d A.GA A.Gm g (A.ch bb) (X bb) (.slice (some ⟨p, 0, none⟩) 1 1) x') (T0 := T) (df := []) closedS.bodies hK hF2 hk [0, 1, 2, 3, 4, 5, 6, 7, 8, 9] [10, 11, 12, 13] (fun j hj => hQ3 j (by simp at hj; omega)) 14 (by rw [hs]; decide) (fun d3' i r3 hi3 hi4 hlt3 hnd3 hR3 h03 hC3 hL3 => ?_) (fun j hj => ?_) (by simp [m10, m11', m12]) hsh2 hL2
    ·rw [hs] at hlt3
     simp only [List.mem_cons, List.not_mem_nil, or_false, not_or] at hi3 hi4
     obtain rfl : i = 14 := by omega
     have hall := Dom.all (m := 14) (by kernel_rfl) hC3 hL3
     obtain ⟨_, _, _, hL4⟩ := hL3.step
     obtain rfl := lin_last hL4 hs hall
     have e41 := fill_ev (F := F53d A.GA A.Gm g (A.ch bb) (X bb) (.slice (some ⟨p, 0, none⟩) 1 1) x') (T0 := T) apart53d (i := 3) (s := 41) (by kernel_rfl) (by omega) (hall 3 (by omega)) []
     have e42 := fill_ev (F := F53d A.GA A.Gm g (A.ch bb) (X bb) (.slice (some ⟨p, 0, none⟩) 1 1) x') (T0 := T) apart53d (i := 4) (s := 42) (by kernel_rfl) (by omega) (hall 4 (by omega)) []
     have e51 := fill_ev (F := F53d A.GA A.Gm g (A.ch bb) (X bb) (.slice (some ⟨p, 0, none⟩) 1 1) x') (T0 := T) apart53d (i := 13) (s := 51) (by kernel_rfl) (by omega) (hall 13 (by omega)) []
     refine kOpX closedS.bodies hK hF2 hk o53d_14 rfl (by kernel_rfl) fun n hn _ t e => ⟨.skip, undef, mput ((u2.upto n).re t e) A.Gm (A.ch bb) x', .inr ⟨rfl, rfl⟩, ?_, (fun h => by cases h), fun hF' _ => ?_⟩
     ·have hU : Ups u2 ((u2.upto n).re t e) := (Ups.upto u2 n).re t e
      have hm : mcm ((u2.upto n).re t e) A.Gm = true := (mcm_of_block (hU.get _ (mcm_lt hgm2))).trans hgm2
      unfold execOp
      simp only [e41, e42, e51]
      simp only [F53d]
      go_simp <;> rfl
     ·have hFu : Flat Try.prog ((u2.upto n).re t e) := ⟨(hF2.upto n).room, (hF2.upto n).obj, (hF2.upto n).low⟩
      have hM' := hM.rowSet hA (hRC.up hFu ((Ups.upto u2 n).re t e)) hb0 hb9 hF'
      rw [Lr_upd al rows (by omega)] at hM'
      exact kRegEnd hK hF' (h _ _ _ hM')
    ·rcases List.mem_cons.1 hj with rfl | hj
     ·simp
     ·have := hnot' j hj
      simp only [List.mem_cons, List.not_mem_nil, or_false]
      omega
   ·exact absurd (hnot' 13 (hL'.waits o53d_14 (by kernel_rfl))) (by omega)
  ·rcases List.mem_cons.1 hj with rfl | hj
   ·simp
   ·have := hnot j hj
    simp only [List.mem_cons, List.not_mem_nil, or_false]
    omega
 ·exact absurd (hnot 12 (hL.waits o53d_13 (by kernel_rfl))) (by omega)
 ·exact absurd (hnot 13 (hL.waits o53d_14 (by kernel_rfl))) (by omega)
end
end Go.Proofs.Ythmgpkcijolljaa
