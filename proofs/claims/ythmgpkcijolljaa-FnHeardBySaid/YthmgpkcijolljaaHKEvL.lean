/-
  meetGuests: what the guests do, one by one.
-/
import Derived.Test.YthmgpkcijolljaaH18
namespace Go.Proofs.Ythmgpkcijolljaa
open Go.Conc Go.RowKit Go.Conc.Lib
open Go.ConcN (upd upd_same upd_ne)
open Go.ChangeMaps
set_option linter.unusedSimpArgs false
set_option linter.unusedVariables false
noncomputable def body35 : Code := Try.f35.body.getD .skip
noncomputable def S35 : Code := match body35 with | .seq _ (.seq _ (.seq _ (.seq _ (.seq _ c)))) => c | _ => .skip
noncomputable def V35 : Code := match S35 with | .seq _ c => c | _ => .skip
noncomputable def L4 : Code := match V35 with | .seq (.seq _ (.block _ (.loop c))) _ => c | _ => .skip
noncomputable def E4 : Code := match V35 with | .seq _ c => c | _ => .skip
noncomputable def ops35m : Array Oper := match L4 with
 | .seq _ (.seq _ (.seq (.block _ (.seq _ (.seq _ (.region _ ops _)))) _)) => ops
 | _ => #[]
theorem o35m_11 : ops35m[11]? = some { dst := some 81, op := Op.call { callee := Callee.value (Operand.func 53), args := #[Operand.tmp 70, Operand.tmp 72, Operand.tmp 80], argTypes := #[56, 3, 68] }, type := 0, pos := "l7_bridges.go:111", after := #[{ on := 0, ground := Ground.data }, { on := 2, ground := Ground.data }, { on := 10, ground := Ground.data }], guard := none } := by kernel_rfl
theorem size35m : ops35m.size = 12 := by kernel_rfl
theorem apart35m : ApartB ops35m = true := by kernel_rfl
def F35m (GA B q g bb : Nat) (c : Option Nat) (j : Nat) : Value := #[.pointer (some ⟨GA, 0, none⟩), .pointer (some ⟨q, 1, none⟩), .int .i64 g, .pointer (some ⟨GA, 0, none⟩), .pointer (some ⟨GA, 0, none⟩), .pointer (some ⟨GA, 0, none⟩), .slice (some ⟨B, 0, none⟩) 10 10, .pointer (some ⟨q, 2, none⟩), .int .i64 bb, .pointer (some ⟨B, bb, none⟩), .chan c, undef].getD j undef
set_option maxRecDepth 100000 in
set_option maxHeartbeats 4000000 in
theorem quiet35m {v : World} {T0 : Array Value} {GA B q g bb : Nat} {c : Option Nat} {bg : Nat} (cb : v.cell? ⟨bg, 0, none⟩ = some (.pointer (some ⟨GA, 0, none⟩))) (c0 : v.cell? ⟨GA, 0, none⟩ = some (.slice (some ⟨B, 0, none⟩) 10 10)) (q1 : v.cell? ⟨q, 1, none⟩ = some (.int .i64 g)) (q2 : v.cell? ⟨q, 2, none⟩ = some (.int .i64 bb)) (cl : v.cell? ⟨B, bb, none⟩ = some (.chan c)) (hb : bb < 10) (hsz : T0.size = 97) (h7 : T0.getD 7 undef = .pointer (some ⟨bg, 0, none⟩)) (h12 : T0.getD 12 undef = .pointer (some ⟨q, 0, none⟩)) (j : Nat) (hj : j = 0 ∨ j = 1 ∨ j = 2 ∨ j = 3 ∨ j = 4 ∨ j = 5 ∨ j = 6 ∨ j = 7 ∨ j = 8 ∨ j = 9 ∨ j = 10) : QuietAt Try.prog Sf v ops35m (F35m GA B q g bb c) T0 j := by
 have hA := apart35m
 rcases hj with rfl | rfl | rfl | rfl | rfl | rfl | rfl | rfl | rfl | rfl | rfl
 ·refine quiet_of (o := { dst := some 70, op := Op.load 56 (Operand.tmp 7), type := 56, pos := "l7_bridges.go:111", after := #[], guard := none }) (by kernel_rfl) (by kernel_rfl) rfl [] (by kernel_rfl) fun d hd v₁ hx => ?_
  have e7 := (fill_old (ops := ops35m) (F := (F35m GA B q g bb c)) (T0 := T0) (s := 7) (by kernel_rfl) d []).trans h7
  have hc0 := cell_up hx cb
  unfold execOp
  simp only [e7]
  first | (simp only [F35m]; go_simp <;> rfl) | (simp only [F35m]; rfl)
 ·refine quiet_of (o := { dst := some 71, op := Op.fieldAddr 41 (Operand.tmp 12) 1, type := 0, pos := "l7_bridges.go:111", after := #[], guard := none }) (by kernel_rfl) (by kernel_rfl) rfl [] (by kernel_rfl) fun d hd v₁ hx => ?_
  have e12 := (fill_old (ops := ops35m) (F := (F35m GA B q g bb c)) (T0 := T0) (s := 12) (by kernel_rfl) d []).trans h12
  unfold execOp
  simp only [e12]
  first | (simp only [F35m]; go_simp <;> rfl) | (simp only [F35m]; rfl)
 ·refine quiet_of (o := { dst := some 72, op := Op.load 3 (Operand.tmp 71), type := 3, pos := "l7_bridges.go:111", after := #[{ on := 1, ground := Ground.data }], guard := none }) (by kernel_rfl) (by kernel_rfl) rfl [1] (by kernel_rfl) fun d hd v₁ hx => ?_
  have e71 := fill_ev (F := (F35m GA B q g bb c)) (T0 := T0) hA (i := 1) (s := 71) (by kernel_rfl) (by rw [hsz]; decide) (hd 1 (by simp)) []
  have hc0 := cell_up hx q1
  unfold execOp
  simp only [e71]
  first | (simp only [F35m]; go_simp <;> rfl) | (simp only [F35m]; rfl)
 ·refine quiet_of (o := { dst := some 73, op := Op.load 56 (Operand.tmp 7), type := 56, pos := "l7_bridges.go:111", after := #[], guard := none }) (by kernel_rfl) (by kernel_rfl) rfl [] (by kernel_rfl) fun d hd v₁ hx => ?_
  have e7 := (fill_old (ops := ops35m) (F := (F35m GA B q g bb c)) (T0 := T0) (s := 7) (by kernel_rfl) d []).trans h7
  have hc0 := cell_up hx cb
  unfold execOp
  simp only [e7]
  first | (simp only [F35m]; go_simp <;> rfl) | (simp only [F35m]; rfl)
 ·refine quiet_of (o := { dst := some 74, op := Op.nilCheck (Operand.tmp 73), type := 0, pos := "l7_bridges.go:111", after := #[{ on := 3, ground := Ground.data }], guard := none }) (by kernel_rfl) (by kernel_rfl) rfl [3] (by kernel_rfl) fun d hd v₁ hx => ?_
  have e73 := fill_ev (F := (F35m GA B q g bb c)) (T0 := T0) hA (i := 3) (s := 73) (by kernel_rfl) (by rw [hsz]; decide) (hd 3 (by simp)) []
  unfold execOp
  simp only [e73]
  first | (simp only [F35m]; go_simp <;> rfl) | (simp only [F35m]; rfl)
 ·refine quiet_of (o := { dst := some 75, op := Op.fieldAddr 62 (Operand.tmp 74) 0, type := 0, pos := "l7_bridges.go:111", after := #[{ on := 4, ground := Ground.data }], guard := none }) (by kernel_rfl) (by kernel_rfl) rfl [4] (by kernel_rfl) fun d hd v₁ hx => ?_
  have e74 := fill_ev (F := (F35m GA B q g bb c)) (T0 := T0) hA (i := 4) (s := 74) (by kernel_rfl) (by rw [hsz]; decide) (hd 4 (by simp)) []
  unfold execOp
  simp only [e74]
  first | (simp only [F35m]; go_simp <;> rfl) | (simp only [F35m]; rfl)
 ·refine quiet_of (o := { dst := some 76, op := Op.load 58 (Operand.tmp 75), type := 58, pos := "l7_bridges.go:111", after := #[{ on := 5, ground := Ground.data }], guard := none }) (by kernel_rfl) (by kernel_rfl) rfl [5] (by kernel_rfl) fun d hd v₁ hx => ?_
  have e75 := fill_ev (F := (F35m GA B q g bb c)) (T0 := T0) hA (i := 5) (s := 75) (by kernel_rfl) (by rw [hsz]; decide) (hd 5 (by simp)) []
  have hc0 := cell_up hx c0
  unfold execOp
  simp only [e75]
  first | (simp only [F35m]; go_simp <;> rfl) | (simp only [F35m]; rfl)
 ·refine quiet_of (o := { dst := some 77, op := Op.fieldAddr 41 (Operand.tmp 12) 2, type := 0, pos := "l7_bridges.go:111", after := #[], guard := none }) (by kernel_rfl) (by kernel_rfl) rfl [] (by kernel_rfl) fun d hd v₁ hx => ?_
  have e12 := (fill_old (ops := ops35m) (F := (F35m GA B q g bb c)) (T0 := T0) (s := 12) (by kernel_rfl) d []).trans h12
  unfold execOp
  simp only [e12]
  first | (simp only [F35m]; go_simp <;> rfl) | (simp only [F35m]; rfl)
 ·refine quiet_of (o := { dst := some 78, op := Op.load 3 (Operand.tmp 77), type := 3, pos := "l7_bridges.go:111", after := #[{ on := 7, ground := Ground.data }], guard := none }) (by kernel_rfl) (by kernel_rfl) rfl [7] (by kernel_rfl) fun d hd v₁ hx => ?_
  have e77 := fill_ev (F := (F35m GA B q g bb c)) (T0 := T0) hA (i := 7) (s := 77) (by kernel_rfl) (by rw [hsz]; decide) (hd 7 (by simp)) []
  have hc0 := cell_up hx q2
  unfold execOp
  simp only [e77]
  first | (simp only [F35m]; go_simp <;> rfl) | (simp only [F35m]; rfl)
 ·refine quiet_of (o := { dst := some 79, op := Op.indexAddr 58 (Operand.tmp 76) (Operand.tmp 78), type := 0, pos := "l7_bridges.go:111", after := #[{ on := 6, ground := Ground.data }, { on := 8, ground := Ground.data }], guard := none }) (by kernel_rfl) (by kernel_rfl) rfl [6, 8] (by kernel_rfl) fun d hd v₁ hx => ?_
  have e76 := fill_ev (F := (F35m GA B q g bb c)) (T0 := T0) hA (i := 6) (s := 76) (by kernel_rfl) (by rw [hsz]; decide) (hd 6 (by simp)) []
  have e78 := fill_ev (F := (F35m GA B q g bb c)) (T0 := T0) hA (i := 8) (s := 78) (by kernel_rfl) (by rw [hsz]; decide) (hd 8 (by simp)) []
  have hb' : (bb : Int) < 10 := by omega
  unfold execOp
  simp only [e76, e78]
  first | (simp only [F35m]; go_simp <;> rfl) | (simp only [F35m]; rfl)
 ·refine quiet_of (o := { dst := some 80, op := Op.load 68 (Operand.tmp 79), type := 68, pos := "l7_bridges.go:111", after := #[{ on := 9, ground := Ground.data }], guard := none }) (by kernel_rfl) (by kernel_rfl) rfl [9] (by kernel_rfl) fun d hd v₁ hx => ?_
  have e79 := fill_ev (F := (F35m GA B q g bb c)) (T0 := T0) hA (i := 9) (s := 79) (by kernel_rfl) (by rw [hsz]; decide) (hd 9 (by simp)) []
  have hc0 := cell_up hx cl
  unfold execOp
  simp only [e79]
  first | (simp only [F35m]; go_simp <;> rfl) | (simp only [F35m]; rfl)
theorem RowsOk.len {n : Nat} {on : Nat → Nat} {rows : Nat → List Nat} (h : RowsOk n on rows) {b : Nat} (h1 : 1 ≤ b) (h9 : b ≤ 9) : (rows b).length ≤ n := by
 have hnd : (((List.range n).map (· + 1)).filter fun q => on q == b).Nodup := List.Pairwise.filter _ (List.Pairwise.map _ (fun a b e => by omega) (List.nodup_range (n := n)))
 have hp : (rows b).Perm (((List.range n).map (· + 1)).filter fun q => on q == b) := by
  refine (List.perm_ext_iff_of_nodup (h.nod b h1 h9) hnd).2 fun q => ?_
  rw [h.mem b h1 h9, List.mem_filter, List.mem_map]
  simp only [List.mem_range, beq_iff_eq]
  constructor
  ·rintro ⟨⟨a, c⟩, d⟩
   exact ⟨⟨q - 1, by omega, by omega⟩, d⟩
  ·rintro ⟨⟨x, hx, rfl⟩, d⟩
   exact ⟨⟨by omega, by omega⟩, d⟩
 rw [hp.length_eq]
 refine Nat.le_trans (List.length_filter_le _ _) ?_
 simp
section
variable {Base : BsP} {Post : Value → World → Prop} {Wg : Nat} {v0 u : World} {A : Ad} {C : Nat → Nat} {on : Nat → Nat} {X : Nat → Value} {al : List Int} {rows : Nat → List Nat} {F : Nat → List Int}
theorem rows_zero {on : Nat → Nat} {rows : Nat → List Nat} {g bb : Nat} (h9 : True ∨ g ≤ 0) (h : rows 0 = []) : rowsOn (rowsOff on rows g) g bb 0 = [] := by
 have h1 : rowsOff on rows g 0 = [] := by
  unfold rowsOff
  split
  ·exact h
  ·rename_i h0; rw [upd_ne _ _ (fun e => h0 e.symm)]; exact h
 unfold rowsOn
 split
 ·exact h1
 ·rename_i h0; rw [upd_ne _ _ (fun e => h0 e.symm)]; exact h1
theorem getD_set_ne {T : Array Value} {i j : Nat} {x : Value} (h : i ≠ j) : (T.setIfInBounds i x).getD j undef = T.getD j undef := by
 rw [Array.getD_eq_getD_getElem?, Array.getD_eq_getD_getElem?, Array.getElem?_setIfInBounds_ne h]
/-- the slots at the loop's head -/
structure HdT (A : Ad) (ad : Addr) (cp n p Wg : Nat) (T : Array Value) : Prop where
 size : T.size = 97
 t7 : T.getD 7 undef = .pointer (some ⟨A.bg, 0, none⟩)
 t8 : T.getD 8 undef = .pointer (some ⟨Wg, 0, none⟩)
 t55 : n = 0 ∨ T.getD 55 undef = .slice (some ad) n cp
 t56 : T.getD 56 undef = .int .i64 n
 t57 : T.getD 57 undef = .int .i64 p
noncomputable def R26 : Code := match L4 with | .seq _ (.seq _ (.seq _ c)) => c | _ => .skip
set_option maxRecDepth 100000 in
set_option maxHeartbeats 1000000 in
theorem ev_tail {N : Nat} {γ : View} {ad : Addr} {cp n p : Nat} {T : Array Value} {cs : List Frame} (hF : Flat Try.prog u) (hT : HdT A ad cp n p Wg T) (hp : p ≤ 1000)
  (h : ∀ T', HdT A ad cp n (p + 1) Wg T' → KA (MNext Try.prog 84 Wg false Base Post (N + 1) γ) (G ((Conc.base 35).at ⟨T', []⟩ [.code L4, .inLoop L4, .inBlock 4, .code E4]) cs) u) :
  KA (MNext Try.prog 84 Wg false Base Post (N + 1) γ) (G ((Conc.base 35).at ⟨T, []⟩ [.code R26, .inLoop L4, .inBlock 4, .code E4]) cs) u := by
 have hK := kn_ok (P := Try.prog) (ty := 84) (Wg := Wg) (Base := Base) (Post := Post) N γ
 obtain ⟨hz, h7, h8, h55, h56, h57⟩ := hT
 obtain ⟨x0, x1, x2, x3, x4, x5, x6, x7, x8, x9, x10, x11, x12, x13, x14, x15, x16, x17, x18, x19, x20, x21, x22, x23, x24, x25, x26, x27, x28, x29, x30, x31, x32, x33, x34, x35, x36, x37, x38, x39, x40, x41, x42, x43, x44, x45, x46, x47, x48, x49, x50, x51, x52, x53, x54, x55, x56, x57, x58, x59, x60, x61, x62, x63, x64, x65, x66, x67, x68, x69, x70, x71, x72, x73, x74, x75, x76, x77, x78, x79, x80, x81, x82, x83, x84, x85, x86, x87, x88, x89, x90, x91, x92, x93, x94, x95, x96, rfl⟩ := arr97 hz
 obtain rfl : x7 = .pointer (some ⟨A.bg, 0, none⟩) := h7
 obtain rfl : x8 = .pointer (some ⟨Wg, 0, none⟩) := h8
 obtain rfl : x56 = .int .i64 n := h56
 obtain rfl : x57 = .int .i64 p := h57
 have hi64 : IntKind.i64.wrap ((p : Int) + 1) = ((p + 1 : Nat) : Int) := by rw [IntKind.wrap_i64]; omega
 have h' := fun T' => h T'
 clear h
 simp only [R26, L4, E4, V35, S35, body35, Try.f35, Option.getD_some] at h' ⊢
 refine kRegion hK hF ?_
 refine kOp closedS.bodies hK hF (val := .int .i64 ((p + 1 : Nat) : Int)) (by k_ne) rfl rfl (by kernel_rfl) (fun v₁ hv => by go_simp; try simp [hi64]) ?_
 walk_nrm
 refine kOp closedS.bodies hK hF (val := .int .i64 ((p + 1 : Nat) : Int)) (by k_ne) rfl rfl (by kernel_rfl) (fun v₁ hv => by go_simp <;> rfl) ?_
 walk_nrm
 refine kRegEnd hK hF (kInLoop hK hF ?_)
 exact h' _ ⟨rfl, rfl, rfl, h55, rfl, rfl⟩
set_option maxRecDepth 100000 in
set_option maxHeartbeats 1000000 in
theorem ev_round {ad : Addr} {cp nl p N : Nat} {γ : View} {d : Dd} {r : List Dd} {cs : List Frame} {T : Array Value} (hp : p < nl) (hnl : nl ≤ 50) (hd : SaidOk A.n d) (hM : Mt v0 A A.n C on (Lr al rows) X u) (hA : AdOk A) (hro : RowsOk A.n on rows) (hr0 : rows 0 = []) (hal : al.length ≤ p) (hT : HdT A ad cp nl p Wg T)
  (hV : Vw γ A.n C A.R (fut on (d :: r)) F) (h1 : u.cell? (ad.add (p * 3)) = some (.string d.1)) (h2 : u.cell? ⟨(ad.add (p * 3)).block, (ad.add (p * 3)).off + 1, none⟩ = some (.int .i64 d.2.1)) (h3 : u.cell? ⟨(ad.add (p * 3)).block, (ad.add (p * 3)).off + 2, none⟩ = some (.int .i64 d.2.2))
  (h : ∀ u' X' γ' T' al' rows', Mt v0 A A.n C (onStep on d) (Lr al' rows') X' u' → RowsOk A.n (onStep on d) rows' → rows' 0 = [] → al'.length ≤ p + 1 → al' ++ aloneF A.n (onStep on d) r = al ++ aloneF A.n on (d :: r) → Vw γ' A.n C A.R (fut (onStep on d) r) F → HdT A ad cp nl (p + 1) Wg T' →
   KA (MNext Try.prog 84 Wg false Base Post (N + 1) γ') (G ((Conc.base 35).at ⟨T', []⟩ [.code L4, .inLoop L4, .inBlock 4, .code E4]) cs) u') :
  KA (MNext Try.prog 84 Wg false Base Post ((if isSay d then (co A.n on d.2.1.toNat).length else 0) + N + 1) γ) (G ((Conc.base 35).at ⟨T, []⟩ [.code L4, .inLoop L4, .inBlock 4, .code E4]) cs) u := by
 have hF := hM.flat
 obtain ⟨NN, hNN⟩ : ∃ NN, NN = (if isSay d then (co A.n on d.2.1.toNat).length else 0) + N := ⟨_, rfl⟩
 rw [← hNN]
 have hK := kn_ok (P := Try.prog) (ty := 84) (Wg := Wg) (Base := Base) (Post := Post) NN γ
 obtain ⟨d1, d2, dc⟩ := hd.cases
 obtain ⟨g, hg⟩ : ∃ g, g = d.2.1.toNat := ⟨_, rfl⟩
 have hgi : ((g : Nat) : Int) = d.2.1 := by omega
 have g1 : 1 ≤ g := by omega
 have gn : g ≤ A.n := by omega
 have hn5 := hA.n5
 obtain ⟨hz, t7, t8, t55, t56, t57⟩ := hT
 have t55' := t55.resolve_left (by omega)
 obtain ⟨x0, x1, x2, x3, x4, x5, x6, x7, x8, x9, x10, x11, x12, x13, x14, x15, x16, x17, x18, x19, x20, x21, x22, x23, x24, x25, x26, x27, x28, x29, x30, x31, x32, x33, x34, x35, x36, x37, x38, x39, x40, x41, x42, x43, x44, x45, x46, x47, x48, x49, x50, x51, x52, x53, x54, x55, x56, x57, x58, x59, x60, x61, x62, x63, x64, x65, x66, x67, x68, x69, x70, x71, x72, x73, x74, x75, x76, x77, x78, x79, x80, x81, x82, x83, x84, x85, x86, x87, x88, x89, x90, x91, x92, x93, x94, x95, x96, rfl⟩ := arr97 hz
 obtain rfl : x7 = .pointer (some ⟨A.bg, 0, none⟩) := t7
 obtain rfl : x8 = .pointer (some ⟨Wg, 0, none⟩) := t8
 obtain rfl : x55 = .slice (some ad) nl cp := t55'
 obtain rfl : x56 = .int .i64 nl := t56
 obtain rfl : x57 = .int .i64 p := t57
 have hlt : (p : Int) < (nl : Int) := by omega
 have htl := fun u' γ' N' T' (hF' : Flat Try.prog u') (hT' : HdT A ad cp nl p Wg T') => ev_tail (Base := Base) (Post := Post) (u := u') (A := A) (N := N') (γ := γ') (cs := cs) hF' hT' (by omega)
 have Hh := Lib.hid h
 have HG := Lib.hid (And.intro hg (And.intro hgi hNN))
 clear h hg hgi hNN
 try clear hz
 try clear t55
 simp only [R26, L4, E4, V35, S35, body35, Try.f35, Option.getD_some] at htl ⊢
 refine kSeq hK hF (kRegion hK hF ?_)
 refine kOp closedS.bodies hK hF (val := .bool true) (by k_ne) rfl rfl (by kernel_rfl) (fun v₁ hv => by go_simp; try simp [hlt]) ?_
 walk_nrm
 refine kRegEnd hK hF (kSeq hK hF (kCond hK hF (t := true) (by rfl) ?_))
 simp only [if_true]
 refine kSkip hK hF (kSeq hK hF (kBlock hK hF (kSeq hK hF (kRegion hK hF ?_))))
 refine kOp closedS.bodies hK hF (val := .pointer (some (ad.add (p * 3)))) (by k_ne) rfl rfl (by kernel_rfl) (fun v₁ hv => by go_simp <;> rfl) ?_
 walk_nrm
 refine kOp closedS.bodies hK hF (val := .agg #[.string d.1, .int .i64 d.2.1, .int .i64 d.2.2]) (by k_ne) rfl rfl (by kernel_rfl) (fun v₁ hv => by
  have e1 := cell_up hv h1
  have e2 := cell_up hv h2
  have e3 := cell_up hv h3
  clear h1 h2 h3
  go_simp) ?_
 walk_nrm
 refine kOpX closedS.bodies hK hF (by k_ne) rfl rfl (by kernel_rfl) fun n hn _ t e => ⟨.value (.pointer (some ⟨((u.upto n).re t e).heap.size, 0, none⟩)), .pointer (some ⟨((u.upto n).re t e).heap.size, 0, none⟩), ((u.upto n).re t e).alloc (.cells #[.string ⟨#[]⟩, .int .i64 0, .int .i64 0] 41), .inl rfl, ?_, (fun h => by cases h), fun hF1 _ => ?_⟩
 ·clear htl
  unfold execOp
  go_simp <;> rfl
 have hU : Ups u (((u.upto n).re t e).alloc (.cells #[.string ⟨#[]⟩, .int .i64 0, .int .i64 0] 41)) := ((Ups.upto u n).re t e).trans (Ups.alloc _ _)
 have hB : Blk (((u.upto n).re t e).alloc (.cells #[.string ⟨#[]⟩, .int .i64 0, .int .i64 0] 41)) ((u.upto n).re t e).heap.size 41 #[.string ⟨#[]⟩, .int .i64 0, .int .i64 0] := Blk.new _ _ _
 have hqu : u.heap.size ≤ ((u.upto n).re t e).heap.size := ((Ups.upto u n).re t e).size
 generalize (((u.upto n).re t e).alloc (.cells #[.string ⟨#[]⟩, .int .i64 0, .int .i64 0] 41)) = u1 at hF1 hU hB ⊢
 generalize ((u.upto n).re t e).heap.size = q at hB hqu ⊢
 walk_nrm
 refine kOpX closedS.bodies hK hF1 (by k_ne) rfl rfl (by kernel_rfl) fun n hn _ t e => ⟨.skip, undef, ((((u1.upto n).re t e).setCell ⟨q, 0, none⟩ (.string d.1)).setCell ⟨q, 1, none⟩ (.int .i64 d.2.1)).setCell ⟨q, 2, none⟩ (.int .i64 d.2.2), .inr ⟨rfl, rfl⟩, ?_, (fun h => by cases h), fun hF2 _ => ?_⟩
 ·have hB' : Blk ((u1.upto n).re t e) q 41 #[.string ⟨#[]⟩, .int .i64 0, .int .i64 0] := (((Ups.upto u1 n).re t e).get _ hB.lt).trans hB
  have b0 := hB'.cell 0
  have b1 := hB'.cell 1
  have b2 := hB'.cell 2
  have f0 := hB'.frozen 0
  have f1 := hB'.frozen 1
  have f2 := hB'.frozen 2
  simp at b0 b1 b2
  clear h1 h2 h3 hB hB' htl
  unfold execOp
  go_simp
 have hB2 : Blk (((((u1.upto n).re t e).setCell ⟨q, 0, none⟩ (.string d.1)).setCell ⟨q, 1, none⟩ (.int .i64 d.2.1)).setCell ⟨q, 2, none⟩ (.int .i64 d.2.2)) q 41 #[.string d.1, .int .i64 d.2.1, .int .i64 d.2.2] := by
  have hB' : Blk ((u1.upto n).re t e) q 41 #[.string ⟨#[]⟩, .int .i64 0, .int .i64 0] := (((Ups.upto u1 n).re t e).get _ hB.lt).trans hB
  exact ((hB'.set_ 0 (.string d.1)).set_ 1 (.int .i64 d.2.1)).set_ 2 (.int .i64 d.2.2)
 have hU2 : Ups u (((((u1.upto n).re t e).setCell ⟨q, 0, none⟩ (.string d.1)).setCell ⟨q, 1, none⟩ (.int .i64 d.2.1)).setCell ⟨q, 2, none⟩ (.int .i64 d.2.2)) :=
  set_ups (set_ups (set_ups (hU.trans ((Ups.upto u1 n).re t e)) (a := ⟨q, 0, none⟩) hqu _) (a := ⟨q, 1, none⟩) hqu _) (a := ⟨q, 2, none⟩) hqu _
 generalize ((((u1.upto n).re t e).setCell ⟨q, 0, none⟩ (.string d.1)).setCell ⟨q, 1, none⟩ (.int .i64 d.2.1)).setCell ⟨q, 2, none⟩ (.int .i64 d.2.2) = u2 at hF2 hB2 hU2
 have hM2 := hM.ups hF2 hU2
 have q0 : u2.cell? ⟨q, 0, none⟩ = some (.string d.1) := hB2.cell 0
 have q1 : u2.cell? ⟨q, 1, none⟩ = some (.int .i64 d.2.1) := hB2.cell 1
 have q2 : u2.cell? ⟨q, 2, none⟩ = some (.int .i64 d.2.2) := hB2.cell 2
 clear hM hU hU2 hB hB2 h1 h2 h3 hF hF1 hn hqu
 walk_nrm
 refine kRegEnd hK hF2 (kSeq hK hF2 (kSeq hK hF2 (kRegion hK hF2 ?_)))
 refine kOp closedS.bodies hK hF2 (val := .pointer (some ⟨q, 0, none⟩)) (by k_ne) rfl rfl (by kernel_rfl) (fun v₁ hv => by go_simp <;> rfl) ?_
 walk_nrm
 refine kOp closedS.bodies hK hF2 (val := .string d.1) (by k_ne) rfl rfl (by kernel_rfl) (fun v₁ hv => by have := cell_up hv q0; go_simp <;> rfl) ?_
 walk_nrm
 refine kOp closedS.bodies hK hF2 (val := .bool (isSay d)) (by k_ne) rfl rfl (by kernel_rfl) (fun v₁ hv => by go_simp <;> rfl) ?_
 walk_nrm
 refine kRegEnd hK hF2 ?_
 have hbg := hM2.bgCell
 cases hs : isSay d with
 | true =>
  refine kCond hK hF2 (t := true) (by rfl) ?_
  simp only [if_true]
  refine kSeq hK hF2 (kRegion hK hF2 ?_)
  refine kOp closedS.bodies hK hF2 (val := .pointer (some ⟨A.GA, 0, none⟩)) (by k_ne) rfl rfl (by kernel_rfl) (fun v₁ hv => by have := cell_up hv hbg; go_simp <;> rfl) ?_
  walk_nrm
  refine kOp closedS.bodies hK hF2 (val := .pointer (some ⟨q, 1, none⟩)) (by k_ne) rfl rfl (by kernel_rfl) (fun v₁ hv => by go_simp <;> rfl) ?_
  walk_nrm
  refine kOp closedS.bodies hK hF2 (val := .int .i64 d.2.1) (by k_ne) rfl rfl (by kernel_rfl) (fun v₁ hv => by have := cell_up hv q1; go_simp <;> rfl) ?_
  walk_nrm
  refine kOp closedS.bodies hK hF2 (val := .pointer (some ⟨q, 2, none⟩)) (by k_ne) rfl rfl (by kernel_rfl) (fun v₁ hv => by go_simp <;> rfl) ?_
  walk_nrm
  refine kOp closedS.bodies hK hF2 (val := .int .i64 d.2.2) (by k_ne) rfl rfl (by kernel_rfl) (fun v₁ hv => by have := cell_up hv q2; go_simp <;> rfl) ?_
  walk_nrm
  obtain ⟨hg, hgi, hNN⟩ := HG.out
  rw [hs, if_pos rfl, ← hg] at hNN
  have hon : onStep on d = on := by unfold onStep; rw [if_pos hs]
  have hal0 : aloneF A.n on (d :: r) = if co A.n on g = [] then d.2.2 :: aloneF A.n on r else aloneF A.n on r := by
   show (if isSay d then _ else _) = _
   rw [hs, if_pos rfl, ← hg]
  have hV2 : Vw γ A.n C A.R (fun x => if inCo on g x then d.2.2 :: fut on r x else fut on r x) F := hV.congr fun i _ => by
   show (if isSay d then _ else _) = _
   rw [hs, if_pos rfl, ← hg]
  rw [hNN]
  refine say_call (N := N) (rows := rows) (g := g) (w := d.2.2) (f := fut on r) (F := F) rfl rfl (by k_ne) rfl rfl (by show Value.int .i64 d.2.1 = .int .i64 (g : Int); rw [hgi]) rfl hM2 hA (fun b hb => ?_) hro (fun b b1 b9 => by unfold Lr; rw [if_neg (by omega)]) g1 gn hV2 fun u3 X3 γ3 hM3 hV3 => ?_
  ·unfold Lr
   split
   ·omega
   ·rw [rowI_length]
    have := hro.len (b := b) (by omega) hb
    omega
  have hF3 := hM3.flat
  have hK3 := kn_ok (P := Try.prog) (ty := 84) (Wg := Wg) (Base := Base) (Post := Post) N γ3
  walk_nrm
  refine kRegEnd hK3 hF3 (kExit hK3 hF3 (k' := _) (by rfl) ?_)
  refine htl u3 γ3 N _ hF3 ⟨by rfl, by rfl, by rfl, .inr (by rfl), by rfl, by rfl⟩ fun T' hT' => ?_
  have hh := Hh.out
  rw [hon, hal0] at hh
  have hrw : alUp (Lr al rows) (decide (co A.n on g = [])) d.2.2 = Lr (if co A.n on g = [] then al ++ [d.2.2] else al) rows := by
   unfold alUp
   by_cases hc : co A.n on g = []
   ·rw [if_pos hc, if_pos (by simp [hc])]
    exact Lr_al al _ rows
   ·rw [if_neg hc, if_neg (by simp [hc])]
  rw [hrw] at hM3
  exact hh u3 X3 γ3 T' _ rows hM3 hro hr0 (by split <;> first | omega | (simp; omega) | (simp; exact hal)) (by split <;> simp) hV3 hT'
 | false =>
  have hc0 : u2.cell? ⟨A.GA, 0, none⟩ = some (.slice (some ⟨A.B, 0, none⟩) 10 10) := by have := hM2.cell 0; simpa [gatC] using this
  obtain ⟨hg, hgi, hNN⟩ := HG.out
  rw [hs] at hNN
  obtain ⟨bb, hbb⟩ : ∃ bb, bb = d.2.2.toNat := ⟨_, rfl⟩
  have hd9 : 0 ≤ d.2.2 ∧ d.2.2 ≤ 9 := by
   rcases dc with ⟨h1, _⟩ | ⟨_, h2⟩
   ·rw [hs] at h1; cases h1
   ·exact h2
  have hbi : ((bb : Nat) : Int) = d.2.2 := by omega
  have hb9 : bb ≤ 9 := by omega
  have hN0 : NN = N := by rw [hNN]; simp
  have hon : onStep on d = upd on g bb := by unfold onStep; rw [if_neg (by rw [hs]; simp), ← hg, ← hbb]
  have hal0 : aloneF A.n on (d :: r) = aloneF A.n (onStep on d) r := by
   show (if isSay d then _ else _) = _
   rw [hs]; rfl
  have hV2 : Vw γ A.n C A.R (fut (onStep on d) r) F := hV.congr fun i _ => by
   show (if isSay d then _ else _) = _
   rw [hs]; rfl
  have q1' : u2.cell? ⟨q, 1, none⟩ = some (.int .i64 (g : Int)) := by rw [q1, hgi]
  have q2' : u2.cell? ⟨q, 2, none⟩ = some (.int .i64 (bb : Int)) := by rw [q2, hbi]
  have hcl : u2.cell? ⟨A.B, bb, none⟩ = some (.chan (A.ch bb)) := (hM2.br.cell bb).trans (by rw [brArr_get _ _ _ (by omega), if_pos (by omega)])
  refine kCond hK hF2 (t := false) (by rfl) ?_
  simp only [Bool.false_eq_true, if_false]
  refine kSkip hK hF2 ?_
  refine kT fun T0 hT0 => ?_
  have z0 : T0.size = 97 := by rw [hT0]; rfl
  have g7 : T0.getD 7 undef = .pointer (some ⟨A.bg, 0, none⟩) := by rw [hT0]; rfl
  have g8 : T0.getD 8 undef = .pointer (some ⟨Wg, 0, none⟩) := by rw [hT0]; rfl
  have g12 : T0.getD 12 undef = .pointer (some ⟨q, 0, none⟩) := by rw [hT0]; rfl
  have g55 : T0.getD 55 undef = .slice (some ad) nl cp := by rw [hT0]; rfl
  have g56 : T0.getD 56 undef = .int .i64 nl := by rw [hT0]; rfl
  have g57 : T0.getD 57 undef = .int .i64 p := by rw [hT0]; rfl
  clear hT0
  refine kLast (F := F35m A.GA A.B q g bb (A.ch bb)) (ops := ops35m) closedS.bodies (by kernel_rfl) hK hF2 (by k_ne) (by kernel_rfl) size35m (by kernel_rfl) (fun j hj => quiet35m hbg hc0 q1' q2' hcl (by omega) z0 g7 g12 j (by omega)) fun dd hdd hnd => ?_
  have e70 := fill_ev (F := F35m A.GA A.B q g bb (A.ch bb)) (T0 := T0) apart35m (i := 0) (s := 70) (by kernel_rfl) (by omega) (hdd 0 (by omega)) []
  have e72 := fill_ev (F := F35m A.GA A.B q g bb (A.ch bb)) (T0 := T0) apart35m (i := 2) (s := 72) (by kernel_rfl) (by omega) (hdd 2 (by omega)) []
  have e80 := fill_ev (F := F35m A.GA A.B q g bb (A.ch bb)) (T0 := T0) apart35m (i := 10) (s := 80) (by kernel_rfl) (by omega) (hdd 10 (by omega)) []
  have e7 := (fill_old (ops := ops35m) (F := F35m A.GA A.B q g bb (A.ch bb)) (T0 := T0) (s := 7) (by kernel_rfl) dd []).trans g7
  have e8 := (fill_old (ops := ops35m) (F := F35m A.GA A.B q g bb (A.ch bb)) (T0 := T0) (s := 8) (by kernel_rfl) dd []).trans g8
  have e55 := (fill_old (ops := ops35m) (F := F35m A.GA A.B q g bb (A.ch bb)) (T0 := T0) (s := 55) (by kernel_rfl) dd []).trans g55
  have e56 := (fill_old (ops := ops35m) (F := F35m A.GA A.B q g bb (A.ch bb)) (T0 := T0) (s := 56) (by kernel_rfl) dd []).trans g56
  have e57 := (fill_old (ops := ops35m) (F := F35m A.GA A.B q g bb (A.ch bb)) (T0 := T0) (s := 57) (by kernel_rfl) dd []).trans g57
  have ez := (fillT_size (ops := ops35m) (F := F35m A.GA A.B q g bb (A.ch bb)) (T0 := T0) dd).trans z0
  refine move_call (rows := rows) (g := g) (bb := bb) hK o35m_11 rfl (by k_ne) rfl e70 e72 e80 hM2 hA hro (fun b hb => ?_) hb9 g1 gn fun u3 X3 hM3 => ?_
  ·by_cases hb0 : b = 0
   ·rw [hb0, hr0]; simp
   ·have := hro.len (b := b) (by omega) hb
    omega
  have hF3 := hM3.flat
  rw [hN0] at hK ⊢
  refine kRegEnd hK hF3 (kInBlock hK hF3 ?_)
  have hh := Hh.out
  rw [hon] at hh hV2 hal0
  refine htl u3 γ N _ hF3 ⟨?_, ?_, ?_, .inr ?_, ?_, ?_⟩ fun T' hT' => hh u3 X3 γ T' al _ hM3 (hro.move g1 gn hb9) (rows_zero (.inl trivial) hr0) (by omega) (by rw [hal0]) hV2 hT'
  ·simpa using ez
  ·exact (getD_set_ne (by decide)).trans e7
  ·exact (getD_set_ne (by decide)).trans e8
  ·exact (getD_set_ne (by decide)).trans e55
  ·exact (getD_set_ne (by decide)).trans e56
  ·exact (getD_set_ne (by decide)).trans e57
set_option maxRecDepth 100000 in
set_option maxHeartbeats 1000000 in
/-- ████ all that the guests do ████ -/
theorem ev_loop {l : List Dd} {Al : Option Addr} {cp N : Nat} {cs : List Frame} {tot : List Int} {fin : Nat → Nat} (hRD : RD v0 v0.heap.size Al l) (hl : l.length ≤ 50) (hval : ∀ d ∈ l, SaidOk A.n d) (hA : AdOk A)
  (h : ∀ u X γ T rows, Mt v0 A A.n C fin (Lr tot rows) X u → RowsOk A.n fin rows → Vw γ A.n C A.R (fun _ => []) F → HdT A (Al.getD default) cp l.length l.length Wg T → KA (MNext Try.prog 84 Wg false Base Post (N + 1) γ) (G ((Conc.base 35).at ⟨T, []⟩ [.code E4]) cs) u) :
  ∀ (r : List Dd) (p : Nat), p + r.length = l.length → r = l.drop p → ∀ on rows al X γ u T, Mt v0 A A.n C on (Lr al rows) X u → RowsOk A.n on rows → rows 0 = [] → al.length ≤ p → al ++ aloneF A.n on r = tot → onEnd on r = fin → HdT A (Al.getD default) cp l.length p Wg T → Vw γ A.n C A.R (fut on r) F →
   KA (MNext Try.prog 84 Wg false Base Post (cost A.n on r + N + 1) γ) (G ((Conc.base 35).at ⟨T, []⟩ [.code L4, .inLoop L4, .inBlock 4, .code E4]) cs) u := by
 intro r
 induction r with
 | nil =>
  intro p hp hr on rows al X γ u T hM hro hr0 hal htot hfin hT hV
  obtain rfl : p = l.length := by simpa using hp
  have hF := hM.flat
  have hnl : ¬ ((l.length : Int) < (l.length : Int)) := by omega
  have e1 : al = tot := by rw [← htot]; simp [aloneF]
  have e2 : on = fin := hfin
  subst e1
  subst e2
  have h' := fun T' hT' => h u X γ T' rows hM hro (hV.congr fun i _ => rfl) hT'
  clear h
  rw [show cost A.n on [] + N + 1 = N + 1 by simp [cost]]
  have hK := kn_ok (P := Try.prog) (ty := 84) (Wg := Wg) (Base := Base) (Post := Post) N γ
  obtain ⟨hz, t7, t8, t55, t56, t57⟩ := hT
  obtain ⟨x0, x1, x2, x3, x4, x5, x6, x7, x8, x9, x10, x11, x12, x13, x14, x15, x16, x17, x18, x19, x20, x21, x22, x23, x24, x25, x26, x27, x28, x29, x30, x31, x32, x33, x34, x35, x36, x37, x38, x39, x40, x41, x42, x43, x44, x45, x46, x47, x48, x49, x50, x51, x52, x53, x54, x55, x56, x57, x58, x59, x60, x61, x62, x63, x64, x65, x66, x67, x68, x69, x70, x71, x72, x73, x74, x75, x76, x77, x78, x79, x80, x81, x82, x83, x84, x85, x86, x87, x88, x89, x90, x91, x92, x93, x94, x95, x96, rfl⟩ := arr97 hz
  obtain rfl : x7 = .pointer (some ⟨A.bg, 0, none⟩) := t7
  obtain rfl : x8 = .pointer (some ⟨Wg, 0, none⟩) := t8
  obtain rfl : x56 = .int .i64 l.length := t56
  obtain rfl : x57 = .int .i64 l.length := t57
  simp only [L4, E4, V35, S35, body35, Try.f35, Option.getD_some] at h' ⊢
  refine kSeq hK hF (kRegion hK hF ?_)
  refine kOp closedS.bodies hK hF (val := .bool false) (by k_ne) rfl rfl (by kernel_rfl) (fun v₁ hv => by go_simp; try simp [hnl]) ?_
  walk_nrm
  refine kRegEnd hK hF (kSeq hK hF (kCond hK hF (t := false) (by rfl) ?_))
  simp only [Bool.false_eq_true, if_false]
  refine kExit hK hF (k' := _) (by rfl) ?_
  exact h' _ ⟨rfl, rfl, rfl, t55, rfl, rfl⟩
 | cons d r ih =>
  intro p hp hr on rows al X γ u T hM hro hr0 hal htot hfin hT hV
  have hpl : p < l.length := by simp at hp; omega
  have hd : l[p] = d := by
   have h1 : (l.drop p)[0]? = some d := by rw [← hr]; rfl
   rw [List.getElem?_drop] at h1
   simpa [List.getElem?_eq_getElem hpl] using h1
  have hr' : r = l.drop (p + 1) := by
   rw [List.drop_eq_getElem_cons hpl] at hr
   exact (List.cons.inj hr).2
  obtain ⟨ad, rfl, hab, c1, c2, c3⟩ := hRD.at_ hpl
  rw [hd] at c1 c2 c3
  have key := ev_round (Base := Base) (Post := Post) (A := A) (u := u) (on := on) (rows := rows) (al := al) (X := X) (C := C) (F := F) (ad := ad) (cp := cp) (nl := l.length) (p := p) (N := cost A.n (onStep on d) r + N) (γ := γ) (d := d) (r := r) (cs := cs) (T := T) hpl hl (hval d (by rw [← hd]; exact List.getElem_mem _)) hM hA hro hr0 hal hT hV (hM.old.cell c1) (hM.old.cell c2) (hM.old.cell c3)
   (fun u' X' γ' T' al' rows' hM' hro' hr0' hal' htot' hV' hT' => ih (p + 1) (by simp at hp; omega) hr' _ rows' al' X' γ' u' T' hM' hro' hr0' hal' (htot'.trans htot) hfin hT' hV')
  have eN : cost A.n on (d :: r) + N + 1 = (if isSay d then (co A.n on d.2.1.toNat).length else 0) + (cost A.n (onStep on d) r + N) + 1 := by
   show (if isSay d then _ else _) + _ + N + 1 = _
   omega
  rw [eN]
  exact key
end
end Go.Proofs.Ythmgpkcijolljaa
