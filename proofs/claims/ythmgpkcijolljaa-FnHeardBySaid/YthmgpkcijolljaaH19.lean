/-
  meetGuests: what is seen when a worker goes; the operations that store its channel.
-/
import Derived.Test.YthmgpkcijolljaaHKEvL
import Derived.Test.YthmgpkcijolljaaH4
import Derived.Test.YthmgpkcijolljaaH5
namespace Go.Proofs.Ythmgpkcijolljaa
open Go.Conc Go.RowKit Go.Conc.Lib Go.ConcR.Gen
open Go.ConcN (upd upd_same upd_ne)
open Go.ConcR (KK WgAt stA smA rd wr mk DC0)
open Go.ChangeMaps
set_option linter.unusedSimpArgs false
set_option linter.unusedVariables false
theorem mkChan (W : World) : (Instr.makeChan 68 (.int .i64 0)).run Try.prog W = .ok (.chan (some W.heap.size)) (W.alloc (.chan 0 #[] false 0 0 false)) := by
 obtain ⟨i, hi, hz0, hz1, hz2⟩ := info_parts int_info'
 exact Conc.run_makeChan (P := Try.prog) (w := W) Try.underlying68 hi .i64 0 (by omega) (by omega)
noncomputable def L2 : Code := match S35 with | .seq (.seq _ (.block _ (.loop c))) _ => c | _ => .skip
noncomputable def R15s : Code := match L2 with | .seq _ (.seq (.block _ (.seq _ (.seq c _))) _) => c | _ => .skip
noncomputable def ops35s : Array Oper := match R15s with
 | .region _ ops _ => ops
 | _ => #[]
theorem o35s_7 : ops35s[7]? = some { dst := none, op := Op.store 68 (Operand.tmp 51) (Operand.tmp 50), type := 0, pos := "l7_bridges.go:95", after := #[{ on := 6, ground := Ground.data }, { on := 5, ground := Ground.data }, { on := 0, ground := Ground.phase }, { on := 1, ground := Ground.phase }, { on := 2, ground := Ground.phase }, { on := 3, ground := Ground.phase }, { on := 4, ground := Ground.phase }, { on := 5, ground := Ground.phase }], guard := none } := by kernel_rfl
theorem size35s : ops35s.size = 8 := by kernel_rfl
theorem apart35s : ApartB ops35s = true := by kernel_rfl
def F35s (GA Ow n k1 c : Nat) (j : Nat) : Value := #[.pointer (some ⟨GA, 0, none⟩), .pointer (some ⟨GA, 0, none⟩), .pointer (some ⟨GA, 4, none⟩), .slice (some ⟨Ow, 0, none⟩) n n, .int .i64 k1, .chan (some c), .pointer (some ⟨Ow, k1, none⟩), undef].getD j undef
set_option maxRecDepth 100000 in
set_option maxHeartbeats 4000000 in
theorem quiet35s {v : World} {T0 : Array Value} {GA Ow n k1 c : Nat} {bg bi bo : Nat} (cb : v.cell? ⟨bg, 0, none⟩ = some (.pointer (some ⟨GA, 0, none⟩))) (c4 : v.cell? ⟨GA, 4, none⟩ = some (.slice (some ⟨Ow, 0, none⟩) n n)) (ci : v.cell? ⟨bi, 0, none⟩ = some (.int .i64 k1)) (co : v.cell? ⟨bo, 0, none⟩ = some (.chan (some c))) (hk : k1 < n) (hsz : T0.size = 97) (h7 : T0.getD 7 undef = .pointer (some ⟨bg, 0, none⟩)) (h9 : T0.getD 9 undef = .pointer (some ⟨bi, 0, none⟩)) (h10 : T0.getD 10 undef = .pointer (some ⟨bo, 0, none⟩)) (j : Nat) (hj : j = 0 ∨ j = 1 ∨ j = 2 ∨ j = 3 ∨ j = 4 ∨ j = 5 ∨ j = 6) : QuietAt Try.prog Sf v ops35s (F35s GA Ow n k1 c) T0 j := by
 have hA := apart35s
 rcases hj with rfl | rfl | rfl | rfl | rfl | rfl | rfl
 ·refine quiet_of (o := { dst := some 45, op := Op.load 56 (Operand.tmp 7), type := 56, pos := "l7_bridges.go:95", after := #[], guard := none }) (by kernel_rfl) (by kernel_rfl) rfl [] (by kernel_rfl) fun d hd v₁ hx => ?_
  have e7 := (fill_old (ops := ops35s) (F := (F35s GA Ow n k1 c)) (T0 := T0) (s := 7) (by kernel_rfl) d []).trans h7
  have hc0 := cell_up hx cb
  unfold execOp
  simp only [e7]
  first | (simp only [F35s]; go_simp <;> rfl) | (simp only [F35s]; rfl)
 ·refine quiet_of (o := { dst := some 46, op := Op.nilCheck (Operand.tmp 45), type := 0, pos := "l7_bridges.go:95", after := #[{ on := 0, ground := Ground.data }], guard := none }) (by kernel_rfl) (by kernel_rfl) rfl [0] (by kernel_rfl) fun d hd v₁ hx => ?_
  have e45 := fill_ev (F := (F35s GA Ow n k1 c)) (T0 := T0) hA (i := 0) (s := 45) (by kernel_rfl) (by rw [hsz]; decide) (hd 0 (by simp)) []
  unfold execOp
  simp only [e45]
  first | (simp only [F35s]; go_simp <;> rfl) | (simp only [F35s]; rfl)
 ·refine quiet_of (o := { dst := some 47, op := Op.fieldAddr 62 (Operand.tmp 46) 4, type := 0, pos := "l7_bridges.go:95", after := #[{ on := 1, ground := Ground.data }], guard := none }) (by kernel_rfl) (by kernel_rfl) rfl [1] (by kernel_rfl) fun d hd v₁ hx => ?_
  have e46 := fill_ev (F := (F35s GA Ow n k1 c)) (T0 := T0) hA (i := 1) (s := 46) (by kernel_rfl) (by rw [hsz]; decide) (hd 1 (by simp)) []
  unfold execOp
  simp only [e46]
  first | (simp only [F35s]; go_simp <;> rfl) | (simp only [F35s]; rfl)
 ·refine quiet_of (o := { dst := some 48, op := Op.load 58 (Operand.tmp 47), type := 58, pos := "l7_bridges.go:95", after := #[{ on := 2, ground := Ground.data }], guard := none }) (by kernel_rfl) (by kernel_rfl) rfl [2] (by kernel_rfl) fun d hd v₁ hx => ?_
  have e47 := fill_ev (F := (F35s GA Ow n k1 c)) (T0 := T0) hA (i := 2) (s := 47) (by kernel_rfl) (by rw [hsz]; decide) (hd 2 (by simp)) []
  have hc0 := cell_up hx c4
  unfold execOp
  simp only [e47]
  first | (simp only [F35s]; go_simp <;> rfl) | (simp only [F35s]; rfl)
 ·refine quiet_of (o := { dst := some 49, op := Op.load 3 (Operand.tmp 9), type := 3, pos := "l7_bridges.go:95", after := #[], guard := none }) (by kernel_rfl) (by kernel_rfl) rfl [] (by kernel_rfl) fun d hd v₁ hx => ?_
  have e9 := (fill_old (ops := ops35s) (F := (F35s GA Ow n k1 c)) (T0 := T0) (s := 9) (by kernel_rfl) d []).trans h9
  have hc0 := cell_up hx ci
  unfold execOp
  simp only [e9]
  first | (simp only [F35s]; go_simp <;> rfl) | (simp only [F35s]; rfl)
 ·refine quiet_of (o := { dst := some 50, op := Op.load 68 (Operand.tmp 10), type := 68, pos := "l7_bridges.go:95", after := #[], guard := none }) (by kernel_rfl) (by kernel_rfl) rfl [] (by kernel_rfl) fun d hd v₁ hx => ?_
  have e10 := (fill_old (ops := ops35s) (F := (F35s GA Ow n k1 c)) (T0 := T0) (s := 10) (by kernel_rfl) d []).trans h10
  have hc0 := cell_up hx co
  unfold execOp
  simp only [e10]
  first | (simp only [F35s]; go_simp <;> rfl) | (simp only [F35s]; rfl)
 ·refine quiet_of (o := { dst := some 51, op := Op.indexAddr 58 (Operand.tmp 48) (Operand.tmp 49), type := 0, pos := "l7_bridges.go:95", after := #[{ on := 3, ground := Ground.data }, { on := 4, ground := Ground.data }, { on := 0, ground := Ground.phase }, { on := 1, ground := Ground.phase }, { on := 2, ground := Ground.phase }, { on := 3, ground := Ground.phase }, { on := 4, ground := Ground.phase }, { on := 5, ground := Ground.phase }], guard := none }) (by kernel_rfl) (by kernel_rfl) rfl [3, 4] (by kernel_rfl) fun d hd v₁ hx => ?_
  have e48 := fill_ev (F := (F35s GA Ow n k1 c)) (T0 := T0) hA (i := 3) (s := 48) (by kernel_rfl) (by rw [hsz]; decide) (hd 3 (by simp)) []
  have e49 := fill_ev (F := (F35s GA Ow n k1 c)) (T0 := T0) hA (i := 4) (s := 49) (by kernel_rfl) (by rw [hsz]; decide) (hd 4 (by simp)) []
  have hk' : (k1 : Int) < n := by omega
  unfold execOp
  simp only [e48, e49]
  first | (simp only [F35s]; go_simp <;> rfl) | (simp only [F35s]; rfl)
section
variable {v0 u : World} {A : Ad} {k : Nat} {C : Nat → Nat} {on : Nat → Nat} {L : Nat → List Int} {X : Nat → Value}
theorem Mt.all_lt (h : Mt v0 A k C on L X u) {q : Nat} (hq : q ∈ A.all) : q < u.heap.size := by
 have lt : ∀ {q : Nat} {o : Obj}, u.heap[q]? = some o → q < u.heap.size := fun e => (Array.getElem?_eq_some_iff.1 e).1
 obtain ⟨f, hf, _⟩ := h.bg
 unfold Ad.all at hq
 simp only [List.mem_cons, List.not_mem_nil, or_false] at hq
 rcases hq with e | e | e | e | e | e | e | e | e
 ·rw [e]; exact lt h.gat
 ·rw [e]; exact h.br.lt
 ·rw [e]; exact mcm_lt h.num
 ·rw [e]; exact h.onb.lt
 ·rw [e]; exact mcm_lt h.gm
 ·rw [e]; exact h.owb.lt
 ·rw [e]; exact lt h.hH
 ·rw [e]; exact lt h.hWg
 ·rw [e]; exact lt hf
/-- What is seen behind a go statement: the box of the gathering is shared. -/
theorem Mt.mask (h : Mt v0 A k C on L X u) (hA : AdOk A) {m : Nat → Vis} (hm : ∀ q, q ≠ A.bg → (q < A.B0 ∨ q ∈ A.all ∨ ∃ b, b ≤ 9 ∧ (X b).ownBlock = some q) → m q = .own) (hg : m A.bg = .froz) : Mt v0 A k C on L X (u.mask m) := by
 have nod := hA.nod
 simp only [List.nodup_cons, List.mem_cons, List.not_mem_nil, or_false, not_or] at nod
 obtain ⟨⟨_, _, _, _, _, _, _, a8⟩, ⟨_, _, _, _, _, _, b7⟩, ⟨_, _, _, _, _, c6⟩, ⟨_, _, _, _, d5⟩, ⟨_, _, _, e4⟩, ⟨_, _, f3⟩, ⟨_, g2⟩, g3, _⟩ := nod
 have al : ∀ q, q ≠ A.bg → (q = A.GA ∨ q = A.B ∨ q = A.N ∨ q = A.On ∨ q = A.Gm ∨ q = A.Ow ∨ q = A.H ∨ q = A.Wg ∨ q = A.bg) → (u.mask m).heap[q]? = u.heap[q]? := fun q hne h => mask_own (hm q hne (.inr (.inl (mem_all h))))
 refine ⟨h.flat.mask noGlobals, ⟨h.rb.1, by rw [mask_size]; exact h.rb.2⟩, h.b0, ⟨by rw [mask_size]; exact h.old.size, fun b hb => ?_⟩, (al _ a8 (by simp)).trans h.gat, ?_, (al _ b7 (by simp)).trans h.br, (al _ d5 (by simp)).trans h.onb, (al _ f3 (by simp)).trans h.owb, ?_, fun j hj => ?_, ?_, fun b h1 h9 => ?_, fun b hb => ?_, h.apart, (al _ g2 (by simp)).trans h.hH, (al _ g3 (by simp)).trans h.hWg⟩
 ·have : b < A.B0 := by rw [h.b0]; exact hb
  refine (mask_own (hm b ?_ (.inl this))).trans (h.old.get b hb)
  have := hA.lo
  omega
 ·obtain ⟨f, hf, hf'⟩ := h.bg
  refine ⟨_, mask_froz hg hf, .inr ?_⟩
  rcases hf' with rfl | rfl <;> rfl
 ·rw [mcm_of_block (al _ c6 (by simp))]; exact h.num
 ·rw [mget_of_block (al _ c6 (by simp))]; exact h.numg j hj
 ·rw [mcm_of_block (al _ e4 (by simp))]; exact h.gm
 ·rw [mget_of_block (al _ e4 (by simp))]; exact h.gmg b h1 h9
 ·exact own_to (h.row b hb) fun q hqq => mask_own (hm q (fun e => h.row_ne hb hqq (e ▸ mem_all (by simp))) (.inr (.inr ⟨b, hb, hqq⟩)))
end
/-- Who sees what behind the go statement. -/
def mMain (c bo bg bi : Nat) (b : Nat) : Vis := if b = c ∨ b = bo then .hide else if b = bg ∨ b = bi then .froz else .own
def mWork (bo bg bi : Nat) (b : Nat) : Vis := if b = bo then .own else if b = bg ∨ b = bi then .froz else .hide
def nilX : Nat → Value := fun _ => .slice none 0 0
def payX (A : Ad) : Pl := ⟨A.H, 32, Array.replicate (A.n + 1) (.slice none 0 0), ⟨A.GA, 5, none⟩, .slice (some ⟨A.H, 0, none⟩) (A.n + 1) (A.n + 1)⟩
def View.went (γ : View) (c : Nat) (says : List Say) (dn : Value → World → Prop) : View := { γ with j := γ.j + 1, c := upd γ.c γ.j c, σ := upd γ.σ γ.j says, shut := upd γ.shut γ.j false, dn := upd γ.dn γ.j dn, owed := 0 }
theorem Vw.went {γ : View} {k : Nat} {C : Nat → Nat} {B0 : Nat} {F : Nat → List Int} (h : Vw γ k C B0 F F) (c : Nat) : Vw (View.went { γ with owed := 1 } c (hears (F (k + 1))) (HeardD B0 (F (k + 1)))) (k + 1) (upd C k c) B0 F F := by
 have hj := h.j
 refine ⟨by show γ.j + 1 = _; rw [hj], rfl, fun i hi => ?_, fun i hi => ?_, fun i hi => ?_, fun i hi => ?_⟩
 ·show upd γ.c γ.j c i = upd C k c i
  rw [hj]
  by_cases e : i = k
  ·subst e; rw [upd_same, upd_same]
  ·rw [upd_ne _ _ e, upd_ne _ _ e]; exact h.c i (by omega)
 ·show upd γ.shut γ.j false i = false
  rw [hj]
  by_cases e : i = k
  ·subst e; rw [upd_same]
  ·rw [upd_ne _ _ e]; exact h.shut i (by omega)
 ·show upd γ.σ γ.j (hears (F (k + 1))) i = _
  rw [hj]
  by_cases e : i = k
  ·subst e; rw [upd_same]
  ·rw [upd_ne _ _ e]; exact h.say i (by omega)
 ·show upd γ.dn γ.j (HeardD B0 (F (k + 1))) i = _
  rw [hj]
  by_cases e : i = k
  ·subst e; rw [upd_same]
  ·rw [upd_ne _ _ e]; exact h.dn i (by omega)
theorem cell_of_heap {w : World} {b i : Nat} {cs : Array Value} {e : TypeId} {f : Nat × Nat} (h : w.heap[b]? = some (.cells cs e f)) : w.cell? ⟨b, i, none⟩ = cs[i]? := by
 simp [World.cell?, h]
/-- the slots at the loop's head -/
structure HdP (A : Ad) (ls : Value) (bi Wg : Nat) (T : Array Value) : Prop where
 size : T.size = 97
 t0 : T.getD 0 undef = .int .i64 A.n
 t1 : T.getD 1 undef = ls
 t7 : T.getD 7 undef = .pointer (some ⟨A.bg, 0, none⟩)
 t8 : T.getD 8 undef = .pointer (some ⟨Wg, 0, none⟩)
 t9 : T.getD 9 undef = .pointer (some ⟨bi, 0, none⟩)
theorem upto_re_flat {u : World} (hF : Flat Try.prog u) (n : Nat) (t : Nat → Question → Nat) (e : Nat) : Flat Try.prog ((u.upto n).re t e) := ⟨(hF.upto n).room, (hF.upto n).obj, (hF.upto n).low⟩
end Go.Proofs.Ythmgpkcijolljaa
/-
  meetGuests: one worker goes.
-/
namespace Go.Proofs.Ythmgpkcijolljaa
open Go.Conc Go.RowKit Go.Conc.Lib Go.ConcR.Gen
open Go.ConcN (upd upd_same upd_ne)
open Go.ConcR (KK WgAt stA smA rd wr mk DC0)
open Go.ChangeMaps
set_option linter.unusedSimpArgs false
set_option linter.unusedVariables false
noncomputable def C16 : Code := match L2 with | .seq _ (.seq (.block _ (.seq _ (.seq _ c))) _) => c | _ => .skip
noncomputable def C18 : Code := match L2 with | .seq _ (.seq _ c) => c | _ => .skip
section
variable {Base : BsP} {Post : Value → World → Prop} {Wg : Nat} {v0 u : World} {A : Ad} {C : Nat → Nat} {F : Nat → List Int}
set_option maxRecDepth 100000 in
set_option maxHeartbeats 1000000 in
/-- behind the stored channel: Add, the go statement, the next index -/
theorem spawn_rest {N k : Nat} {γ : View} {cs : List Frame} {ls : Value} {bi bo c : Nat} {T : Array Value} (hk : k < A.n) (hM : Mt v0 A (k + 1) (upd C k c) (fun _ => 0) (fun _ => []) nilX u) (hA : AdOk A) (hX : Base.X = payX A) (hV : Vw γ k C A.R F F) (hl : (F (k + 1)).length ≤ 100000)
  (hb : Blk u bi 3 #[.int .i64 ((k + 1 : Nat) : Int)]) (hbo : Blk u bo 68 #[.chan (some c)]) (hcc : u.heap[c]? = some (.chan 0 #[] false 0 0 false)) (hbf : bi ∉ A.all ∧ bo ∉ A.all ∧ c ∉ A.all) (hlo : A.B0 ≤ bi ∧ A.B0 ≤ bo ∧ A.B0 ≤ c) (hT : HdP A ls bi A.Wg T) (h10 : T.getD 10 undef = .pointer (some ⟨bo, 0, none⟩))
  (h : ∀ u' γ' bi' T', Mt v0 A (k + 1) (upd C k c) (fun _ => 0) (fun _ => []) nilX u' → Vw γ' (k + 1) (upd C k c) A.R F F → Blk u' bi' 3 #[.int .i64 ((k + 1 + 1 : Nat) : Int)] → bi' ∉ A.all → A.B0 ≤ bi' → HdP A ls bi' A.Wg T' → KA (MNext Try.prog 84 A.Wg false Base Post (N + 1) γ') (G ((Conc.base 35).at ⟨T', []⟩ [.code L2, .inLoop L2, .inBlock 2, .code V35]) cs) u') :
  KA (MNext Try.prog 84 A.Wg false Base Post (N + 3) γ) (G ((Conc.base 35).at ⟨T, []⟩ [.code C16, .inBlock 3, .code C18, .inLoop L2, .inBlock 2, .code V35]) cs) u := by
 have hF := hM.flat
 have hn5 := hA.n5
 have hK := kn_ok (P := Try.prog) (ty := 84) (Wg := A.Wg) (Base := Base) (Post := Post) (N + 2) γ
 obtain ⟨hz, t0, t1, t7, t8, t9⟩ := hT
 obtain ⟨x0, x1, x2, x3, x4, x5, x6, x7, x8, x9, x10, x11, x12, x13, x14, x15, x16, x17, x18, x19, x20, x21, x22, x23, x24, x25, x26, x27, x28, x29, x30, x31, x32, x33, x34, x35, x36, x37, x38, x39, x40, x41, x42, x43, x44, x45, x46, x47, x48, x49, x50, x51, x52, x53, x54, x55, x56, x57, x58, x59, x60, x61, x62, x63, x64, x65, x66, x67, x68, x69, x70, x71, x72, x73, x74, x75, x76, x77, x78, x79, x80, x81, x82, x83, x84, x85, x86, x87, x88, x89, x90, x91, x92, x93, x94, x95, x96, rfl⟩ := arr97 hz
 obtain rfl : x0 = .int .i64 A.n := t0
 obtain rfl : x1 = ls := t1
 obtain rfl : x7 = .pointer (some ⟨A.bg, 0, none⟩) := t7
 obtain rfl : x8 = .pointer (some ⟨A.Wg, 0, none⟩) := t8
 obtain rfl : x9 = .pointer (some ⟨bi, 0, none⟩) := t9
 obtain rfl : x10 = .pointer (some ⟨bo, 0, none⟩) := h10
 -- who sees what
 obtain ⟨f, hbg, hf⟩ := hM.bg
 have hbga : A.bg ∈ A.all := mem_all (by simp)
 have hcb : c ≠ bo := fun e => by have h1 := hbo; unfold Blk at h1; rw [← e, hcc] at h1; simp at h1
 have hcbi : c ≠ bi := fun e => by have h1 := hb; unfold Blk at h1; rw [← e, hcc] at h1; simp at h1
 have hbb : bo ≠ bi := hbo.ne_ hb (by decide)
 have hcg : c ≠ A.bg := fun e => hbf.2.2 (e ▸ hbga)
 have hog : bo ≠ A.bg := fun e => hbf.2.1 (e ▸ hbga)
 have hig : bi ≠ A.bg := fun e => hbf.1 (e ▸ hbga)
 have hcW : c ≠ A.Wg := fun e => hbf.2.2 (e ▸ mem_all (by simp))
 have hsp : Split Try.prog u (u.mask (mMain c bo A.bg bi)) (u.mask (mWork bo A.bg bi)) := by
  refine Split.mask hF noGlobals fun b => ?_
  unfold mMain mWork
  by_cases h1 : b = bo
  ·rw [if_pos (.inr h1)]; exact .inl rfl
  ·by_cases h2 : b = A.bg
   ·subst h2
    rw [if_neg (fun e => e.elim (fun e => hcg e.symm) h1), if_pos (.inl rfl), if_neg h1, if_pos (.inl rfl)]
    refine .inr (.inr ⟨rfl, rfl, fun c' e f' h3 => ?_⟩)
    rw [hbg] at h3
    simp only [Option.some.injEq, Obj.cells.injEq] at h3
    obtain ⟨rfl, rfl, rfl⟩ := h3
    rcases hf with e | e
    ·exact .inl e
    ·exact .inr e
   ·by_cases h3 : b = bi
    ·subst h3
     rw [if_neg (fun e => e.elim (fun e => hcbi e.symm) h1), if_pos (.inr rfl), if_neg h1, if_pos (.inr rfl)]
     refine .inr (.inr ⟨rfl, rfl, fun c' e f' h3 => ?_⟩)
     have h4 := hb
     unfold Blk at h4
     rw [h4] at h3
     simp only [Option.some.injEq, Obj.cells.injEq] at h3
     exact .inl h3.2.2.symm
    ·exact .inr (.inl (by rw [if_neg h1, if_neg (fun e => e.elim h2 h3)]))
 have own1 : ∀ q, q ≠ c → q ≠ bo → q ≠ A.bg → q ≠ bi → mMain c bo A.bg bi q = .own := fun q a1 a2 a3 a4 => by
  unfold mMain
  rw [if_neg (fun e => e.elim a1 a2), if_neg (fun e => e.elim a3 a4)]
 have hMm : Mt v0 A (k + 1) (upd C k c) (fun _ => 0) (fun _ => []) nilX (u.mask (mMain c bo A.bg bi)) := by
  refine hM.mask hA (fun q hq hc => ?_) (by unfold mMain; rw [if_neg (fun e => e.elim (fun e => hcg e.symm) (fun e => hog e.symm)), if_pos (.inl rfl)])
  rcases hc with hc | hc | ⟨b, _, hc⟩
  ·exact own1 q (by omega) (by omega) hq (by omega)
  ·exact own1 q (fun e => hbf.2.2 (e ▸ hc)) (fun e => hbf.2.1 (e ▸ hc)) hq (fun e => hbf.1 (e ▸ hc))
  ·cases hc
 have hbm : (u.mask (mMain c bo A.bg bi)).cell? ⟨bi, 0, none⟩ = some (.int .i64 ((k + 1 : Nat) : Int)) :=
  cell_of_heap (mask_froz (by unfold mMain; rw [if_neg (fun e => e.elim (fun e => hcbi e.symm) (fun e => hbb e.symm)), if_pos (.inr rfl)]) hb)
 have hwf : WF bo A.bg bi A.GA c (k + 1) (u.mask (mWork bo A.bg bi)) := by
  refine ⟨?_, ?_, ?_⟩
  ·exact cell_of_heap ((mask_own (by unfold mWork; rw [if_pos rfl])).trans hbo)
  ·exact cell_of_heap (mask_froz (by unfold mWork; rw [if_neg (fun e => hog e.symm), if_pos (.inl rfl)]) hbg)
  ·exact cell_of_heap (mask_froz (by unfold mWork; rw [if_neg (fun e => hbb e.symm), if_pos (.inr rfl)]) hb)
 have hcm : (u.mask (mMain c bo A.bg bi)).heap[c]? = some hid := mask_hide (by unfold mMain; rw [if_pos (.inl rfl)]) (Array.getElem?_eq_some_iff.1 hcc).1
 have hcw : (u.mask (mWork bo A.bg bi)).heap[c]? = some hid := mask_hide (by unfold mWork; rw [if_neg hcb, if_neg (fun e => e.elim hcg hcbi)]) (Array.getElem?_eq_some_iff.1 hcc).1
 have hV' := hV.went c
 have hB0w : A.R ≤ (u.mask (mWork bo A.bg bi)).heap.size := by rw [mask_size]; exact hM.rb.2
 have hFw : Flat Try.prog (u.mask (mWork bo A.bg bi)) := hF.mask noGlobals
 have hj := hV.j
 simp only [C16, C18, L2, V35, S35, body35, Try.f35, Option.getD_some] at h ⊢
 refine kSeq hK hF (kRegion hK hF ?_)
 refine kCall hK hF rfl rfl (by k_ne) rfl wgLib.f_add (nm_add lk) rfl ?_
 walk_nrmf addFn
 refine kn_add hV.owed (by rw [hj]; omega) (fun Fin hFin => wg_add wgLib hFin) rfl ?_
 walk_nrm
 have hK2 := kn_ok (P := Try.prog) (ty := 84) (Wg := A.Wg) (Base := Base) (Post := Post) (N + 1) { γ with owed := 1 }
 refine kRegEnd hK2 hF (kRegion hK2 hF ?_)
 refine kOp closedS.bodies hK2 hF (val := .func (.func 50) #[] #[.pointer (some ⟨A.Wg, 0, none⟩), .pointer (some ⟨bo, 0, none⟩), .pointer (some ⟨A.bg, 0, none⟩), .pointer (some ⟨bi, 0, none⟩)]) (by k_ne) rfl rfl (by kernel_rfl) (fun v₁ hv => by go_simp) ?_
 walk_nrm
 refine kn_go_at (dn := HeardD A.R (F (k + 1))) (says := hears (F (k + 1))) (c := c) (d := call50 A.Wg bo A.bg bi) rfl rfl (by k_ne) (fun w => by simp [go_sem, call50, Deferred.ofValue, execOp, resolve, Act.eval]) (fun w => by simp [go_sem, execOp, resolve, Act.eval, Deferred.ofValue]) rfl rfl hsp hcc
  hcm hcw hcW (by unfold hears; simp) (hears_formed _) (by show γ.j + 1 < Base.X.cs.size; rw [hX, hj]; simp [payX]; omega) ?_ (heardD_re A.R _) (heardD_upto A.R _) ?_
 ·show Th Try.prog false true false (fun _ => True) (AtSay Try.prog 84 A.Wg false ⟨⟨Base.X.H, γ.j + 1, none⟩, Base.X.lk, Base.X.hv, HeardD A.R (F (k + 1))⟩ c (HeardD A.R (F (k + 1)) ((Base.X.cs[γ.j + 1]?).getD undef)) (hears (F (k + 1)))) (born Try.prog (call50 A.Wg bo A.bg bi)) _
  rw [hX, hj]
  exact hear_all (B0 := A.R) (GG := A.GA) (H := A.H) (n := A.n + 1) (i := k + 1) (l := F (k + 1)) (heardD_re A.R _ _) (heardD_upto A.R _ _) (by omega) hl hB0w hFw hwf
 walk_nrm
 generalize u.mask (mMain c bo A.bg bi) = v at hMm hbm ⊢
 clear hM hb hbo hcc hwf hcm hcw hsp hB0w hFw hbg hF hK hK2 own1
 have hF := hMm.flat
 have hK : KOk Try.prog true true false (fun _ => True) (MNext Try.prog 84 A.Wg false Base Post (N + 1) (View.went { γ with owed := 1 } c (hears (F (k + 1))) (HeardD A.R (F (k + 1))))) := kn_ok (P := Try.prog) (ty := 84) (Wg := A.Wg) (Base := Base) (Post := Post) N _
 have h' := h
 generalize hγ : View.went { γ with owed := 1 } c (hears (F (k + 1))) (HeardD A.R (F (k + 1))) = γ1 at hV' hK
 show KA (MNext Try.prog 84 A.Wg false Base Post (N + 1) (View.went { γ with owed := 1 } c (hears (F (k + 1))) (HeardD A.R (F (k + 1))))) _ v
 rw [hγ]
 clear hγ h
 have hi64 : IntKind.i64.wrap (((k + 1 : Nat) : Int) + 1) = ((k + 1 + 1 : Nat) : Int) := by rw [IntKind.wrap_i64]; omega
 have hi65 : IntKind.i64.wrap ((k : Int) + 1 + 1) = (k : Int) + 1 + 1 := by rw [IntKind.wrap_i64]; omega
 refine kRegEnd hK hF (kInBlock hK hF (kSeq hK hF (kSeq hK hF (kRegion hK hF ?_))))
 refine kOp closedS.bodies hK hF (val := .int .i64 ((k + 1 : Nat) : Int)) (by k_ne) rfl rfl (by kernel_rfl) (fun v₁ hv => by have := cell_up hv hbm; go_simp <;> rfl) ?_
 walk_nrm
 refine kRegEnd hK hF (kRegion hK hF ?_)
 refine kOpX closedS.bodies hK hF (by k_ne) rfl rfl (by kernel_rfl) fun n hn _ t e => ⟨.value (.pointer (some ⟨((v.upto n).re t e).heap.size, 0, none⟩)), .pointer (some ⟨((v.upto n).re t e).heap.size, 0, none⟩), ((v.upto n).re t e).alloc (.cells #[.int .i64 0] 3), .inl rfl, ?_, (fun h => by cases h), fun hF1 _ => ?_⟩
 ·unfold execOp
  go_simp <;> rfl
 have hU : Ups v (((v.upto n).re t e).alloc (.cells #[.int .i64 0] 3)) := ((Ups.upto v n).re t e).trans (Ups.alloc _ _)
 have hB : Blk (((v.upto n).re t e).alloc (.cells #[.int .i64 0] 3)) ((v.upto n).re t e).heap.size 3 #[.int .i64 0] := Blk.new _ _ _
 have hqu : v.heap.size ≤ ((v.upto n).re t e).heap.size := ((Ups.upto v n).re t e).size
 generalize (((v.upto n).re t e).alloc (.cells #[.int .i64 0] 3)) = u1 at hF1 hU hB ⊢
 generalize ((v.upto n).re t e).heap.size = q at hB hqu ⊢
 walk_nrm
 refine kOpX closedS.bodies hK hF1 (by k_ne) rfl rfl (by kernel_rfl) fun n hn _ t e => ⟨.skip, undef, ((u1.upto n).re t e).setCell ⟨q, 0, none⟩ (.int .i64 ((k + 1 : Nat) : Int)), .inr ⟨rfl, rfl⟩, ?_, (fun h => by cases h), fun hF2 _ => ?_⟩
 ·have hB' : Blk ((u1.upto n).re t e) q 3 #[.int .i64 0] := (((Ups.upto u1 n).re t e).get _ hB.lt).trans hB
  have b0 := hB'.cell 0
  have f0 := hB'.frozen 0
  simp at b0
  clear hB hB' h'
  unfold execOp
  go_simp
 have hB2 : Blk (((u1.upto n).re t e).setCell ⟨q, 0, none⟩ (.int .i64 ((k + 1 : Nat) : Int))) q 3 #[.int .i64 ((k + 1 : Nat) : Int)] := by
  have hB' : Blk ((u1.upto n).re t e) q 3 #[.int .i64 0] := (((Ups.upto u1 n).re t e).get _ hB.lt).trans hB
  exact hB'.set_ 0 _
 have hU2 : Ups v (((u1.upto n).re t e).setCell ⟨q, 0, none⟩ (.int .i64 ((k + 1 : Nat) : Int))) := set_ups (hU.trans ((Ups.upto u1 n).re t e)) (a := ⟨q, 0, none⟩) hqu _
 generalize ((u1.upto n).re t e).setCell ⟨q, 0, none⟩ (.int .i64 ((k + 1 : Nat) : Int)) = u2 at hF2 hB2 hU2
 have q0 : u2.cell? ⟨q, 0, none⟩ = some (.int .i64 ((k + 1 : Nat) : Int)) := hB2.cell 0
 clear hU hB hF1 hn
 walk_nrm
 refine kRegEnd hK hF2 (kRegion hK hF2 ?_)
 refine kOp closedS.bodies hK hF2 (val := .int .i64 ((k + 1 : Nat) : Int)) (by k_ne) rfl rfl (by kernel_rfl) (fun v₁ hv => by have := cell_up hv q0; go_simp <;> rfl) ?_
 walk_nrm
 refine kOp closedS.bodies hK hF2 (val := .int .i64 ((k + 1 + 1 : Nat) : Int)) (by k_ne) rfl rfl (by kernel_rfl) (fun v₁ hv => by go_simp; try simp [hi64, hi65]) ?_
 walk_nrm
 refine kOpX closedS.bodies hK hF2 (by k_ne) rfl rfl (by kernel_rfl) fun n hn _ t e => ⟨.skip, undef, ((u2.upto n).re t e).setCell ⟨q, 0, none⟩ (.int .i64 ((k + 1 + 1 : Nat) : Int)), .inr ⟨rfl, rfl⟩, ?_, (fun h => by cases h), fun hF3 _ => ?_⟩
 ·have hB' : Blk ((u2.upto n).re t e) q 3 #[.int .i64 ((k + 1 : Nat) : Int)] := (((Ups.upto u2 n).re t e).get _ hB2.lt).trans hB2
  have b0 := hB'.cell 0
  have f0 := hB'.frozen 0
  simp at b0
  clear hB' hB2 h' q0 hbm
  unfold execOp
  go_simp
 have hB3 : Blk (((u2.upto n).re t e).setCell ⟨q, 0, none⟩ (.int .i64 ((k + 1 + 1 : Nat) : Int))) q 3 #[.int .i64 ((k + 1 + 1 : Nat) : Int)] := by
  have hB' : Blk ((u2.upto n).re t e) q 3 #[.int .i64 ((k + 1 : Nat) : Int)] := (((Ups.upto u2 n).re t e).get _ hB2.lt).trans hB2
  exact hB'.set_ 0 _
 have hU3 : Ups v (((u2.upto n).re t e).setCell ⟨q, 0, none⟩ (.int .i64 ((k + 1 + 1 : Nat) : Int))) := set_ups (hU2.trans ((Ups.upto u2 n).re t e)) (a := ⟨q, 0, none⟩) hqu _
 generalize ((u2.upto n).re t e).setCell ⟨q, 0, none⟩ (.int .i64 ((k + 1 + 1 : Nat) : Int)) = u3 at hF3 hB3 hU3
 walk_nrm
 refine kRegEnd hK hF3 (kInLoop hK hF3 ?_)
 exact h' u3 γ1 q _ (hMm.ups hF3 hU3) hV' hB3 (fun e => by have := hMm.all_lt e; omega) (by have := hMm.old.size; have := hMm.b0; omega) ⟨rfl, rfl, rfl, rfl, rfl, rfl⟩
set_option maxRecDepth 100000 in
set_option maxHeartbeats 1000000 in
/-- One worker goes. -/
theorem spawn_round {N k : Nat} {γ : View} {cs : List Frame} {ls : Value} {bi : Nat} {T : Array Value} (hk : k < A.n) (hM : Mt v0 A k C (fun _ => 0) (fun _ => []) nilX u) (hA : AdOk A) (hX : Base.X = payX A) (hV : Vw γ k C A.R F F) (hl : (F (k + 1)).length ≤ 100000)
  (hb : Blk u bi 3 #[.int .i64 ((k + 1 : Nat) : Int)]) (hbf : bi ∉ A.all) (hlo : A.B0 ≤ bi) (hT : HdP A ls bi A.Wg T)
  (h : ∀ u' C' γ' bi' T', Mt v0 A (k + 1) C' (fun _ => 0) (fun _ => []) nilX u' → Vw γ' (k + 1) C' A.R F F → Blk u' bi' 3 #[.int .i64 ((k + 1 + 1 : Nat) : Int)] → bi' ∉ A.all → A.B0 ≤ bi' → HdP A ls bi' A.Wg T' → KA (MNext Try.prog 84 A.Wg false Base Post (N + 1) γ') (G ((Conc.base 35).at ⟨T', []⟩ [.code L2, .inLoop L2, .inBlock 2, .code V35]) cs) u') :
  KA (MNext Try.prog 84 A.Wg false Base Post (N + 3) γ) (G ((Conc.base 35).at ⟨T, []⟩ [.code L2, .inLoop L2, .inBlock 2, .code V35]) cs) u := by
 have hF := hM.flat
 have hn5 := hA.n5
 have hK := kn_ok (P := Try.prog) (ty := 84) (Wg := A.Wg) (Base := Base) (Post := Post) (N + 2) γ
 have hc : u.cell? ⟨bi, 0, none⟩ = some (.int .i64 ((k + 1 : Nat) : Int)) := hb.cell 0
 have hle : (k : Int) + 1 ≤ (A.n : Int) := by omega
 have hrest := fun u' c bo T' hM' => spawn_rest (v0 := v0) (C := C) (u := u') (c := c) (bo := bo) (T := T') (Base := Base) (Post := Post) (F := F) (N := N) (cs := cs) (ls := ls) (bi := bi) (γ := γ) hk hM' hA hX hV hl
 obtain ⟨hz, t0, t1, t7, t8, t9⟩ := hT
 obtain ⟨x0, x1, x2, x3, x4, x5, x6, x7, x8, x9, x10, x11, x12, x13, x14, x15, x16, x17, x18, x19, x20, x21, x22, x23, x24, x25, x26, x27, x28, x29, x30, x31, x32, x33, x34, x35, x36, x37, x38, x39, x40, x41, x42, x43, x44, x45, x46, x47, x48, x49, x50, x51, x52, x53, x54, x55, x56, x57, x58, x59, x60, x61, x62, x63, x64, x65, x66, x67, x68, x69, x70, x71, x72, x73, x74, x75, x76, x77, x78, x79, x80, x81, x82, x83, x84, x85, x86, x87, x88, x89, x90, x91, x92, x93, x94, x95, x96, rfl⟩ := arr97 hz
 obtain rfl : x0 = .int .i64 A.n := t0
 obtain rfl : x1 = ls := t1
 obtain rfl : x7 = .pointer (some ⟨A.bg, 0, none⟩) := t7
 obtain rfl : x8 = .pointer (some ⟨A.Wg, 0, none⟩) := t8
 obtain rfl : x9 = .pointer (some ⟨bi, 0, none⟩) := t9
 show KA _ (G ((Conc.base 35).at ⟨_, []⟩ (.code (.seq (.seq (.region 12 _ _) (.cond _ _ _)) (.seq (.block 3 (.seq (.region 14 _ _) (.seq (.region 15 ops35s true) C16))) C18)) :: _)) cs) u
 refine kSeq hK hF (kSeq hK hF (kRegion hK hF ?_))
 refine kOp closedS.bodies hK hF (val := .int .i64 ((k + 1 : Nat) : Int)) (by k_ne) rfl rfl (by kernel_rfl) (fun v₁ hv => by have := cell_up hv hc; go_simp <;> rfl) ?_
 walk_nrm
 refine kOp closedS.bodies hK hF (val := .int .i64 A.n) (by k_ne) rfl rfl (by kernel_rfl) (fun v₁ hv => by go_simp <;> rfl) ?_
 walk_nrm
 refine kOp closedS.bodies hK hF (val := .bool true) (by k_ne) rfl rfl (by kernel_rfl) (fun v₁ hv => by go_simp; try simp [hle]) ?_
 walk_nrm
 refine kRegEnd hK hF (kCond hK hF (t := true) (by rfl) ?_)
 simp only [if_true]
 refine kSkip hK hF (kSeq hK hF (kBlock hK hF (kSeq hK hF (kRegion hK hF ?_))))
 refine kOpX closedS.bodies hK hF (by k_ne) rfl rfl (by kernel_rfl) fun n hn _ t e => ⟨.value (.chan (some ((u.upto n).re t e).heap.size)), .chan (some ((u.upto n).re t e).heap.size), ((u.upto n).re t e).alloc (.chan 0 #[] false 0 0 false), .inl rfl, ?_, (fun h => by cases h), fun hF1 _ => ?_⟩
 ·have hmk := mkChan ((u.upto n).re t e)
  clear hrest
  unfold execOp
  go_simp
 have hU1 : Ups u (((u.upto n).re t e).alloc (.chan 0 #[] false 0 0 false)) := ((Ups.upto u n).re t e).trans (Ups.alloc _ _)
 have hC1 : (((u.upto n).re t e).alloc (.chan 0 #[] false 0 0 false)).heap[((u.upto n).re t e).heap.size]? = some (.chan 0 #[] false 0 0 false) := heap_alloc_new _ _
 have hqc : u.heap.size ≤ ((u.upto n).re t e).heap.size := ((Ups.upto u n).re t e).size
 generalize (((u.upto n).re t e).alloc (.chan 0 #[] false 0 0 false)) = u1 at hF1 hU1 hC1 ⊢
 generalize ((u.upto n).re t e).heap.size = c at hC1 hqc ⊢
 walk_nrm
 refine kOpX closedS.bodies hK hF1 (by k_ne) rfl rfl (by kernel_rfl) fun n hn _ t e => ⟨.value (.pointer (some ⟨((u1.upto n).re t e).heap.size, 0, none⟩)), .pointer (some ⟨((u1.upto n).re t e).heap.size, 0, none⟩), ((u1.upto n).re t e).alloc (.cells #[.chan none] 68), .inl rfl, ?_, (fun h => by cases h), fun hF2 _ => ?_⟩
 ·clear hrest
  unfold execOp
  go_simp <;> rfl
 have hU12 : Ups u1 (((u1.upto n).re t e).alloc (.cells #[.chan none] 68)) := ((Ups.upto u1 n).re t e).trans (Ups.alloc _ _)
 have hB : Blk (((u1.upto n).re t e).alloc (.cells #[.chan none] 68)) ((u1.upto n).re t e).heap.size 68 #[.chan none] := Blk.new _ _ _
 have hqo : u1.heap.size ≤ ((u1.upto n).re t e).heap.size := ((Ups.upto u1 n).re t e).size
 generalize (((u1.upto n).re t e).alloc (.cells #[.chan none] 68)) = u2 at hF2 hU12 hB ⊢
 generalize ((u1.upto n).re t e).heap.size = bo at hB hqo ⊢
 have hC2 := (hU12.get c (Array.getElem?_eq_some_iff.1 hC1).1).trans hC1
 have hU2 := hU1.trans hU12
 have hub : u.heap.size ≤ bo := Nat.le_trans hU1.size hqo
 have hcb : c ≠ bo := fun e => by have := (Array.getElem?_eq_some_iff.1 hC1).1; omega
 walk_nrm
 refine kOpX closedS.bodies hK hF2 (by k_ne) rfl rfl (by kernel_rfl) fun n hn _ t e => ⟨.skip, undef, ((u2.upto n).re t e).setCell ⟨bo, 0, none⟩ (.chan (some c)), .inr ⟨rfl, rfl⟩, ?_, (fun h => by cases h), fun hF3 _ => ?_⟩
 ·have hB' : Blk ((u2.upto n).re t e) bo 68 #[.chan none] := (((Ups.upto u2 n).re t e).get _ hB.lt).trans hB
  have b0 := hB'.cell 0
  have f0 := hB'.frozen 0
  simp at b0
  clear hB hB' hrest
  unfold execOp
  go_simp
 have hB3 : Blk (((u2.upto n).re t e).setCell ⟨bo, 0, none⟩ (.chan (some c))) bo 68 #[.chan (some c)] := by
  have hB' : Blk ((u2.upto n).re t e) bo 68 #[.chan none] := (((Ups.upto u2 n).re t e).get _ hB.lt).trans hB
  exact hB'.set_ 0 _
 have hU3 : Ups u (((u2.upto n).re t e).setCell ⟨bo, 0, none⟩ (.chan (some c))) := set_ups (hU2.trans ((Ups.upto u2 n).re t e)) (a := ⟨bo, 0, none⟩) hub _
 have hC3 : (((u2.upto n).re t e).setCell ⟨bo, 0, none⟩ (.chan (some c))).heap[c]? = some (.chan 0 #[] false 0 0 false) := (heap_set_ne (by exact hcb)).trans ((((Ups.upto u2 n).re t e).get c (Array.getElem?_eq_some_iff.1 hC2).1).trans hC2)
 generalize ((u2.upto n).re t e).setCell ⟨bo, 0, none⟩ (.chan (some c)) = u3 at hF3 hB3 hU3 hC3
 clear hU12 hU1 hC1 hC2 hU2 hB hF1 hF2 hn hqo
 have hM3 := hM.ups hF3 hU3
 have hbgc := hM3.bgCell
 have c4 : u3.cell? ⟨A.GA, 4, none⟩ = some (.slice (some ⟨A.Ow, 0, none⟩) (A.n + 1) (A.n + 1)) := by have := hM3.cell 4; simpa [gatC] using this
 have hci : u3.cell? ⟨bi, 0, none⟩ = some (.int .i64 ((k + 1 : Nat) : Int)) := hU3.cell hc
 have hco : u3.cell? ⟨bo, 0, none⟩ = some (.chan (some c)) := hB3.cell 0
 have hbi3 := (hU3.get bi hb.lt).trans hb
 walk_nrm
 refine kRegEnd hK hF3 (kSeq hK hF3 ?_)
 obtain ⟨T1, hT1⟩ : ∃ T1 : Array Value, T1 = #[.int .i64 A.n, x1, x2, x3, x4, x5, x6, .pointer (some ⟨A.bg, 0, none⟩), .pointer (some ⟨A.Wg, 0, none⟩), .pointer (some ⟨bi, 0, none⟩), .pointer (some ⟨bo, 0, none⟩), x11, x12, x13, x14, x15, x16, x17, x18, x19, x20, x21, x22, x23, x24, x25, x26, x27, x28, x29, x30, x31, x32, x33, x34, x35, x36, x37, x38, .int .i64 ((k + 1 : Nat) : Int), .int .i64 A.n, .bool true, x42, x43, .chan (some c), x45, x46, x47, x48, x49, x50, x51, x52, x53, x54, x55, x56, x57, x58, x59, x60, x61, x62, x63, x64, x65, x66, x67, x68, x69, x70, x71, x72, x73, x74, x75, x76, x77, x78, x79, x80, x81, x82, x83, x84, x85, x86, x87, x88, x89, x90, x91, x92, x93, x94, x95, x96] := ⟨_, rfl⟩
 have z1 : T1.size = 97 := by rw [hT1]; rfl
 have g0 : T1.getD 0 undef = .int .i64 A.n := by rw [hT1]; rfl
 have g1 : T1.getD 1 undef = x1 := by rw [hT1]; rfl
 have g7 : T1.getD 7 undef = .pointer (some ⟨A.bg, 0, none⟩) := by rw [hT1]; rfl
 have g8 : T1.getD 8 undef = .pointer (some ⟨A.Wg, 0, none⟩) := by rw [hT1]; rfl
 have g9 : T1.getD 9 undef = .pointer (some ⟨bi, 0, none⟩) := by rw [hT1]; rfl
 have g10 : T1.getD 10 undef = .pointer (some ⟨bo, 0, none⟩) := by rw [hT1]; rfl
 rw [← hT1]
 clear hT1
 refine kLast (F := F35s A.GA A.Ow (A.n + 1) (k + 1) c) (ops := ops35s) closedS.bodies (by kernel_rfl) hK hF3 (by k_ne) (by kernel_rfl) size35s (by kernel_rfl) (fun j hj => quiet35s hbgc c4 hci hco (by omega) z1 g7 g9 g10 j (by omega)) fun d hd hnd => ?_
 have e51 := fill_ev (F := F35s A.GA A.Ow (A.n + 1) (k + 1) c) (T0 := T1) apart35s (i := 6) (s := 51) (by kernel_rfl) (by omega) (hd 6 (by omega)) []
 have e50 := fill_ev (F := F35s A.GA A.Ow (A.n + 1) (k + 1) c) (T0 := T1) apart35s (i := 5) (s := 50) (by kernel_rfl) (by omega) (hd 5 (by omega)) []
 have f0 := (fill_old (ops := ops35s) (F := F35s A.GA A.Ow (A.n + 1) (k + 1) c) (T0 := T1) (s := 0) (by kernel_rfl) d []).trans g0
 have f1 := (fill_old (ops := ops35s) (F := F35s A.GA A.Ow (A.n + 1) (k + 1) c) (T0 := T1) (s := 1) (by kernel_rfl) d []).trans g1
 have f7 := (fill_old (ops := ops35s) (F := F35s A.GA A.Ow (A.n + 1) (k + 1) c) (T0 := T1) (s := 7) (by kernel_rfl) d []).trans g7
 have f8 := (fill_old (ops := ops35s) (F := F35s A.GA A.Ow (A.n + 1) (k + 1) c) (T0 := T1) (s := 8) (by kernel_rfl) d []).trans g8
 have f9 := (fill_old (ops := ops35s) (F := F35s A.GA A.Ow (A.n + 1) (k + 1) c) (T0 := T1) (s := 9) (by kernel_rfl) d []).trans g9
 have f10 := (fill_old (ops := ops35s) (F := F35s A.GA A.Ow (A.n + 1) (k + 1) c) (T0 := T1) (s := 10) (by kernel_rfl) d []).trans g10
 have ez := (fillT_size (ops := ops35s) (F := F35s A.GA A.Ow (A.n + 1) (k + 1) c) (T0 := T1) d).trans z1
 have how := hM3.owb
 refine kOpX closedS.bodies hK hF3 (by k_ne) o35s_7 rfl (by kernel_rfl) fun n hn _ t e => ⟨.skip, undef, ((u3.upto n).re t e).setCell ⟨A.Ow, k + 1, none⟩ (.chan (some c)), .inr ⟨rfl, rfl⟩, ?_, (fun h => by cases h), fun hF4 _ => ?_⟩
 ·have hB' : Blk ((u3.upto n).re t e) A.Ow 68 (owArr A C k) := (((Ups.upto u3 n).re t e).get _ how.lt).trans how
  have b0 := hB'.cell (k + 1)
  have f0 := hB'.frozen (k + 1)
  rw [owArr_get A C k (k + 1) (by omega)] at b0
  clear hrest hB' how hB3 hb h
  unfold execOp
  simp only [e51, e50]
  simp only [F35s]
  go_simp
 have hU4 : Ups u3 ((u3.upto n).re t e) := (Ups.upto u3 n).re t e
 have hM4 := (hM3.ups (upto_re_flat hF3 n t e) hU4).owSet hA hk c hF4
 have hbi4 : Blk (((u3.upto n).re t e).setCell ⟨A.Ow, k + 1, none⟩ (.chan (some c))) bi 3 #[.int .i64 ((k + 1 : Nat) : Int)] := (heap_set_ne (by show bi ≠ A.Ow; exact fun e' => hbf (e' ▸ mem_all (by simp)))).trans ((hU4.get _ (Array.getElem?_eq_some_iff.1 hbi3).1).trans hbi3)
 have hbo4 : Blk (((u3.upto n).re t e).setCell ⟨A.Ow, k + 1, none⟩ (.chan (some c))) bo 68 #[.chan (some c)] := (heap_set_ne (by show bo ≠ A.Ow; have := hM.all_lt (q := A.Ow) (mem_all (by simp)); omega)).trans ((hU4.get _ hB3.lt).trans hB3)
 have hcc4 : (((u3.upto n).re t e).setCell ⟨A.Ow, k + 1, none⟩ (.chan (some c))).heap[c]? = some (.chan 0 #[] false 0 0 false) := (heap_set_ne (by show c ≠ A.Ow; have := hM.all_lt (q := A.Ow) (mem_all (by simp)); omega)).trans ((hU4.get _ (Array.getElem?_eq_some_iff.1 hC3).1).trans hC3)
 generalize ((u3.upto n).re t e).setCell ⟨A.Ow, k + 1, none⟩ (.chan (some c)) = u4 at hF4 hM4 hbi4 hbo4 hcc4
 refine kT fun T2 hT2 => ?_
 have hT3 : T2 = fillT ops35s (F35s A.GA A.Ow (A.n + 1) (k + 1) c) T1 d := hT2
 rw [← hT3] at f0 f1 f7 f8 f9 f10 ez
 refine kRegEnd hK hF4 ?_
 have hb0 := hM.b0
 have hos := hM.old.size
 exact hrest u4 c bo T2 hM4 hbi4 hbo4 hcc4 ⟨hbf, fun e' => by have := hM.all_lt e'; omega, fun e' => by have := hM.all_lt e'; omega⟩ ⟨hlo, by omega, by omega⟩ ⟨ez, f0, f1, f7, f8, f9⟩ f10 (fun u' γ' bi' T' a1 a2 a3 a4 a5 a6 => h u' _ γ' bi' T' a1 a2 a3 a4 a5 a6)
end
end Go.Proofs.Ythmgpkcijolljaa
