/-
  The law FnSaidAlone, walked beside leavers.
-/
import Derived.Test.YthmgpkcijolljaaJ6
import Derived.Test.YthmgpkcijolljaaJ2
import Derived.Test.YthmgpkcijolljaaJKDrw3
import Derived.Lib.MinMax
namespace Go.Proofs.Ythmgpkcijolljaa
open Go.Conc Go.RowKit Go.Conc.Lib Go.ConcR.Gen
set_option linter.unusedSimpArgs false
set_option linter.unusedVariables false
theorem wf_u8' {x : Int} (h : (Lit.int .u8 x).wf = true) : 0 ≤ x ∧ x ≤ 255 := by simpa [Lit.wf, IntKind.min, IntKind.max, IntKind.signed, IntKind.bits] using h
/-- An append where no other allots. -/
theorem kAppend {main : Bool} {Live : World → Prop} {K : Goroutine → World → Prop} {v : World} {b : Frame} {k : List Item} {cs : List Frame} {d : List Deferred} {ops : Array Oper} {i : Nat} {rest : List Nat} {o : Oper} {tmps : Array Value} (hK : KOk Try.prog main false false Live K) (hF : Flat Try.prog v) (hk : b.kind ≠ .early) (ho : ops[i]? = some o)
  (hw : Region.wanted o (yielded ops tmps) = true) (hok : opOk Try.prog Sf o = true) (s x : Operand) (t : TypeId) (hop : o.op = .call { callee := .builtin .append, args := #[s, x], argTypes := #[t, t] })
  (base : Nat) (e : TypeId) (i0 : TypeInfo) (z : Value) (size bytes : Nat) (ht : Try.prog.underlying t = some (.slice e)) (hi : Try.prog.info? e = some i0) (hz : i0.zero = some z) (hsize : i0.size = size) (hby : i0.bytes = bytes) (hzs : z.cells.size = size) (hsz : 0 < size)
  (vv : Value) (n : Nat) (xs : List Value) (hs : (Act.mk tmps []).eval s = vv) (hown : v.ownsRow base e size vv n xs) (A : Option Addr) (m c : Nat) (news : List Value) (hx : (Act.mk tmps []).eval x = .slice A m c) (hr : Reads v v.heap.size size A m news) (h1 : ∀ u ∈ news, u.oneCell' = true)
  (h63 : n + m ≤ maxLen) (hbytes : (n + m) * bytes ≤ 140737488355328) (hbase : base ≤ v.heap.size)
  (h : ∀ val v', Flat Try.prog v' → v'.ownsRow base e size val (n + m) (xs ++ news) → v.heap.size ≤ v'.heap.size → (∀ q, q < v.heap.size → vv.ownBlock ≠ some q → v'.heap[q]? = v.heap[q]?) → KA K (G (b.at ((Act.mk tmps d).put o.dst val) (.inRegion ops rest :: k)) cs) v') :
  KA K (G (b.at ⟨tmps, d⟩ (.inRegion ops (i :: rest) :: k)) cs) v :=
 kOpG closedS.bodies hK hF hk ho hw hok fun n' hn hz' t' e' => by
  rw [hz' rfl, upto_le (v := v) (Nat.le_refl _)]
  obtain ⟨val, w', hrun, h2, h3, _⟩ := run_append_any (P := Try.prog) (w := v.re t' e') base t o.type e i0 z size bytes ht hi hz hsize hby hzs hsz vv n xs hown v.heap.size A m c news hr h1 h63 hbytes hbase
  refine ⟨val, w', ?_, (fun x => by cases x), fun hf => h val w' hf h2 h3.size (fun q hq hne => h3.block q hq (fun e => hne e.symm))⟩
  unfold execOp
  simp only [hop, resolve, invoke, builtin, Sem.run_bind, Sem.run_pure, Result.andThen_ok, List.map_toArray, List.map_cons, List.map_nil, hs, hx, hrun]
/-- how often one says something -/
def saysTo (l : List Dd) (k : Nat) : Nat := ((l.take k).filter isSay).length
theorem saysTo_succ {l : List Dd} {k : Nat} (h : k < l.length) : saysTo l (k + 1) = saysTo l k + (if isSay l[k] then 1 else 0) := by
 unfold saysTo
 rw [take_one h, List.filter_append, List.length_append]
 cases hs : isSay l[k] <;> simp [hs]
theorem saysTo_le (l : List Dd) (k : Nat) : saysTo l k ≤ saysTo l l.length := by
 unfold saysTo
 rw [List.take_length]
 have h : (l.take k).filter isSay ++ (l.drop k).filter isSay = l.filter isSay := by rw [← List.filter_append, List.take_append_drop]
 have := congrArg List.length h
 rw [List.length_append] at this
 omega
theorem saysTo_len (l : List Dd) (k : Nat) : saysTo l k ≤ l.length := by
 unfold saysTo
 refine Nat.le_trans (List.length_filter_le _ _) ?_
 rw [List.length_take]; omega
theorem alone_says (n : Nat) (l : List Dd) : ∀ k, (aloneAt n l k).length ≤ saysTo l k := by
 intro k
 induction k with
 | zero => rw [aloneAt_zero]; exact Nat.zero_le _
 | succ k ih =>
  by_cases h : k < l.length
  ·rw [aloneAt_succ n h, saysTo_succ h, List.length_append]
   cases isSay l[k] <;> simp <;> first | omega | (split <;> simp <;> omega)
  ·have e1 : aloneAt n l (k + 1) = aloneAt n l k := by unfold aloneAt; rw [List.take_of_length_le (by omega), List.take_of_length_le (by omega)]
   have e2 : saysTo l (k + 1) = saysTo l k := by unfold saysTo; rw [List.take_of_length_le (by omega), List.take_of_length_le (by omega)]
   rw [e1, e2]; exact ih
/-- as many are heard as there are others, at most all others each -/
theorem cnt_says {n : Nat} {l : List Dd} (hv : ∀ d ∈ l, SaidOk n d) : ∀ k, cntN n (futAt l k) ≤ saysTo l k * (n - 1) := by
 intro k
 induction k with
 | zero =>
  have : cntN n (futAt l 0) = 0 := by
   have := cntN_le (n := n) (m := 0) (H := futAt l 0) (fun q => by rw [futAt_zero]; exact Nat.le_refl _)
   omega
  rw [this]; exact Nat.zero_le _
 | succ k ih =>
  by_cases h : k < l.length
  ·obtain ⟨h1, h2, _⟩ := (hv _ (List.getElem_mem h)).cases
   rw [cnt_step h, saysTo_succ h]
   cases isSay l[k]
   ·simpa using ih
   ·have := co_lt1 (n := n) (on := onAt l k) (g := l[k].2.1.toNat) (by omega) (by omega)
    simp only [if_true, Nat.add_mul, Nat.one_mul]
    omega
  ·have e1 : futAt l (k + 1) = futAt l k := by funext q; unfold futAt; rw [List.take_of_length_le (by omega), List.take_of_length_le (by omega)]
   have e2 : saysTo l (k + 1) = saysTo l k := by unfold saysTo; rw [List.take_of_length_le (by omega), List.take_of_length_le (by omega)]
   rw [e1, e2]; exact ih
theorem okAll_take {p : Dd → Bool} {l : List Dd} (k : Nat) (h : okAll p l = true) : okAll p (l.take k) = true := by
 unfold okAll at *
 rw [List.all_eq_true] at *
 exact fun x hx => h x (List.mem_of_mem_take hx)
theorem meetB_take {g : Int} {l : List Dd} (k : Nat) (h : meetB g l = true) : meetB g (l.take k) = true := by
 unfold meetB at *
 simp only [Bool.and_eq_true, decide_eq_true_eq] at *
 exact ⟨⟨h.1.1, by rw [List.length_take]; omega⟩, okAll_take k h.2⟩
/-- the company before deed k -/
theorem coL_at {g : Int} {l : List Dd} {k : Nat} (hm : meetB g l = true) (h : k < l.length) : coL g (l.take k) l[k].2.1 = (co g.toNat (onAt l k) l[k].2.1.toNat).map fun (q : Nat) => (q : Int) := by
 obtain ⟨h1, h2, h3, h4⟩ := meetB_true hm
 obtain ⟨d1, d2, _⟩ := (h4 _ (List.getElem_mem h)).cases
 exact coL_yes (meetB_take k hm) (by omega)
theorem RD.take {w : World} {B : Nat} {A : Option Addr} {l : List Dd} (h : RD w B A l) {k : Nat} (hk : k ≤ l.length) : RD w B A (l.take k) := by
 have hl : (l.take k).length = k := by rw [List.length_take]; omega
 have e : cells3 l = cells3 (l.take k) ++ cells3 (l.drop k) := by unfold cells3; rw [← List.flatMap_append, List.take_append_drop]
 refine ⟨by simp, fun hn => ?_⟩
 obtain ⟨ad, e1, e2, e3⟩ := h.2 (by rw [hl] at hn; omega)
 refine ⟨ad, e1, e2, fun j u hu => e3 j u ?_⟩
 rw [e, List.getElem?_append_left (by exact (List.getElem?_eq_some_iff.1 hu).1)]
 exact hu
set_option maxRecDepth 100000 in
theorem arr143 {T : Array Value} (h : T.size = 143) : ∃ f : Nat → Value, (∀ j, T.getD j undef = f j) ∧ T = #[f 0, f 1, f 2, f 3, f 4, f 5, f 6, f 7, f 8, f 9, f 10, f 11, f 12, f 13, f 14, f 15, f 16, f 17, f 18, f 19, f 20, f 21, f 22, f 23, f 24, f 25, f 26, f 27, f 28, f 29, f 30, f 31, f 32, f 33, f 34, f 35, f 36, f 37, f 38, f 39, f 40, f 41, f 42, f 43, f 44, f 45, f 46, f 47, f 48, f 49, f 50, f 51, f 52, f 53, f 54, f 55, f 56, f 57, f 58, f 59, f 60, f 61, f 62, f 63, f 64, f 65, f 66, f 67, f 68, f 69, f 70, f 71, f 72, f 73, f 74, f 75, f 76, f 77, f 78, f 79, f 80, f 81, f 82, f 83, f 84, f 85, f 86, f 87, f 88, f 89, f 90, f 91, f 92, f 93, f 94, f 95, f 96, f 97, f 98, f 99, f 100, f 101, f 102, f 103, f 104, f 105, f 106, f 107, f 108, f 109, f 110, f 111, f 112, f 113, f 114, f 115, f 116, f 117, f 118, f 119, f 120, f 121, f 122, f 123, f 124, f 125, f 126, f 127, f 128, f 129, f 130, f 131, f 132, f 133, f 134, f 135, f 136, f 137, f 138, f 139, f 140, f 141, f 142] :=
 ⟨fun j => T.getD j undef, fun _ => rfl, (arr_of T 143 h).trans rfl⟩
noncomputable def body5 : Code := Try.f5.body.getD .skip
noncomputable def S5 : Code := match body5 with | .seq _ (.seq _ (.seq _ (.seq _ (.seq _ (.seq _ (.seq _ (.seq _ c))))))) => c | _ => .skip
noncomputable def LS : Code := match S5 with | .seq (.seq _ (.block _ (.loop c))) _ => c | _ => .skip
noncomputable def ES : Code := match S5 with | .seq _ c => c | _ => .skip
/-- the slots at the loop's head -/
structure HdSd (g : Int) (A : Option Addr) (n c : Nat) (Aa : Option Addr) (la ca : Nat) (nn sm sd k : Nat) (T : Array Value) : Prop where
 size : T.size = 143
 t3 : T.getD 3 undef = .int .i64 g
 t4 : T.getD 4 undef = .slice A n c
 t5 : T.getD 5 undef = .slice Aa la ca
 t9 : T.getD 9 undef = .int .i64 nn
 t10 : T.getD 10 undef = .int .i64 sm
 t11 : T.getD 11 undef = .int .i64 sd
 t12 : T.getD 12 undef = .int .i64 k
noncomputable def ops5a : Array Oper := match LS with
 | .seq _ (.seq (.block _ (.seq _ (.cond _ (.seq _ (.region _ ops _)) _))) _) => ops
 | _ => #[]
theorem o5a_0 : ops5a[0]? = some { dst := some 91, op := Op.move (Operand.tmp 10), type := 3, pos := "laws.go:1325", after := #[], guard := none } := by kernel_rfl
theorem o5a_1 : ops5a[1]? = some { dst := some 92, op := Op.move (Operand.tmp 3), type := 3, pos := "laws.go:1325", after := #[], guard := none } := by kernel_rfl
theorem o5a_2 : ops5a[2]? = some { dst := some 93, op := Op.move (Operand.tmp 4), type := 25, pos := "laws.go:1325", after := #[], guard := none } := by kernel_rfl
theorem o5a_3 : ops5a[3]? = some { dst := some 94, op := Op.move (Operand.tmp 12), type := 3, pos := "laws.go:1325", after := #[], guard := none } := by kernel_rfl
theorem o5a_4 : ops5a[4]? = some { dst := some 95, op := Op.slice 25 (Operand.tmp 93) none (some (Operand.tmp 94)) none, type := 25, pos := "laws.go:1325", after := #[{ on := 2, ground := Ground.data }, { on := 3, ground := Ground.data }], guard := none } := by kernel_rfl
theorem o5a_5 : ops5a[5]? = some { dst := some 96, op := Op.move (Operand.tmp 4), type := 25, pos := "laws.go:1325", after := #[], guard := none } := by kernel_rfl
theorem o5a_6 : ops5a[6]? = some { dst := some 97, op := Op.move (Operand.tmp 12), type := 3, pos := "laws.go:1325", after := #[], guard := none } := by kernel_rfl
theorem o5a_7 : ops5a[7]? = some { dst := some 98, op := Op.indexAddr 25 (Operand.tmp 96) (Operand.tmp 97), type := 0, pos := "laws.go:1325", after := #[{ on := 5, ground := Ground.data }, { on := 6, ground := Ground.data }], guard := none } := by kernel_rfl
theorem o5a_8 : ops5a[8]? = some { dst := some 99, op := Op.fieldAddr 41 (Operand.tmp 98) 1, type := 0, pos := "laws.go:1325", after := #[{ on := 7, ground := Ground.data }], guard := none } := by kernel_rfl
theorem o5a_9 : ops5a[9]? = some { dst := some 100, op := Op.load 3 (Operand.tmp 99), type := 3, pos := "laws.go:1325", after := #[{ on := 8, ground := Ground.data }], guard := none } := by kernel_rfl
theorem o5a_10 : ops5a[10]? = some { dst := some 101, op := Op.call { callee := Callee.value (Operand.func 16), args := #[Operand.tmp 92, Operand.tmp 95, Operand.tmp 100], argTypes := #[3, 25, 3] }, type := 32, pos := "laws.go:1325", after := #[{ on := 1, ground := Ground.data }, { on := 4, ground := Ground.data }, { on := 9, ground := Ground.data }], guard := none } := by kernel_rfl
theorem o5a_11 : ops5a[11]? = some { dst := some 102, op := Op.call { callee := Callee.builtin Builtin.len, args := #[Operand.tmp 101], argTypes := #[32] }, type := 3, pos := "laws.go:1325", after := #[{ on := 10, ground := Ground.data }], guard := none } := by kernel_rfl
theorem o5a_12 : ops5a[12]? = some { dst := some 103, op := Op.binOp BinOp.add 3 (Operand.tmp 91) (Operand.tmp 102) 3, type := 3, pos := "laws.go:1325", after := #[{ on := 0, ground := Ground.data }, { on := 11, ground := Ground.data }], guard := none } := by kernel_rfl
theorem o5a_13 : ops5a[13]? = some { dst := some 10, op := Op.assign (Operand.tmp 103), type := 3, pos := "laws.go:1325", after := #[{ on := 12, ground := Ground.data }, { on := 10, ground := Ground.chain }, { on := 0, ground := Ground.phase }, { on := 1, ground := Ground.phase }, { on := 2, ground := Ground.phase }, { on := 3, ground := Ground.phase }, { on := 4, ground := Ground.phase }, { on := 5, ground := Ground.phase }, { on := 6, ground := Ground.phase }, { on := 7, ground := Ground.phase }, { on := 8, ground := Ground.phase }, { on := 9, ground := Ground.phase }, { on := 10, ground := Ground.phase }, { on := 11, ground := Ground.phase }, { on := 12, ground := Ground.phase }], guard := none } := by kernel_rfl
theorem size5a : ops5a.size = 14 := by kernel_rfl
theorem apart5a : ApartB ops5a = true := by kernel_rfl
def F5a (sm : Nat) (g : Int) (ad : Addr) (n c i : Nat) (gu : Int) (Au : Option Addr) (lu cu : Nat) (j : Nat) : Value := #[.int .i64 sm, .int .i64 g, .slice (some ad) n c, .int .i64 i, .slice (some ad) i c, .slice (some ad) n c, .int .i64 i, .pointer (some (ad.add (i * 3))), .pointer (some ⟨(ad.add (i * 3)).block, (ad.add (i * 3)).off + 1, none⟩), .int .i64 gu, .slice Au lu cu, .int .i64 lu, .int .i64 ((sm : Int) + lu), .int .i64 ((sm : Int) + lu)].getD j undef
set_option maxRecDepth 100000 in
set_option maxHeartbeats 4000000 in
theorem quiet5a {v : World} {T0 : Array Value} {sm : Nat} {g : Int} {ad : Addr} {n c i : Nat} {gu : Int} {Au : Option Addr} {lu cu : Nat} (cg : v.cell? ⟨(ad.add (i * 3)).block, (ad.add (i * 3)).off + 1, none⟩ = some (.int .i64 gu)) (hin : i < n) (hnc : n ≤ c) (hc5 : c ≤ 9223372036854775807) (hsl : sm + lu ≤ 100000) (hsz : T0.size = 143) (h3 : T0.getD 3 undef = .int .i64 g) (h4 : T0.getD 4 undef = .slice (some ad) n c) (h12 : T0.getD 12 undef = .int .i64 i) (j : Nat) (hj : j = 1 ∨ j = 2 ∨ j = 3 ∨ j = 4 ∨ j = 5 ∨ j = 6 ∨ j = 7 ∨ j = 8 ∨ j = 9 ∨ j = 11 ∨ j = 12 ∨ j = 13) : QuietAt Try.prog Sf v ops5a (F5a sm g ad n c i gu Au lu cu) T0 j := by
 have hA := apart5a
 rcases hj with rfl | rfl | rfl | rfl | rfl | rfl | rfl | rfl | rfl | rfl | rfl | rfl
 ·refine quiet_of o5a_1 (by kernel_rfl) rfl [] (by kernel_rfl) fun d hd v₁ hx => ?_
  have e3 := (fill_old (ops := ops5a) (F := (F5a sm g ad n c i gu Au lu cu)) (T0 := T0) (s := 3) (by kernel_rfl) d []).trans h3
  unfold execOp
  simp only [e3]
  first | (simp only [F5a]; go_simp <;> rfl) | (simp only [F5a]; rfl)
 ·refine quiet_of o5a_2 (by kernel_rfl) rfl [] (by kernel_rfl) fun d hd v₁ hx => ?_
  have e4 := (fill_old (ops := ops5a) (F := (F5a sm g ad n c i gu Au lu cu)) (T0 := T0) (s := 4) (by kernel_rfl) d []).trans h4
  unfold execOp
  simp only [e4]
  first | (simp only [F5a]; go_simp <;> rfl) | (simp only [F5a]; rfl)
 ·refine quiet_of o5a_3 (by kernel_rfl) rfl [] (by kernel_rfl) fun d hd v₁ hx => ?_
  have e12 := (fill_old (ops := ops5a) (F := (F5a sm g ad n c i gu Au lu cu)) (T0 := T0) (s := 12) (by kernel_rfl) d []).trans h12
  unfold execOp
  simp only [e12]
  first | (simp only [F5a]; go_simp <;> rfl) | (simp only [F5a]; rfl)
 ·refine quiet_of o5a_4 (by kernel_rfl) rfl [2, 3] (by kernel_rfl) fun d hd v₁ hx => ?_
  have e93 := fill_ev (F := (F5a sm g ad n c i gu Au lu cu)) (T0 := T0) hA (i := 2) (s := 93) (by kernel_rfl) (by rw [hsz]; decide) (hd 2 (by simp)) []
  have e94 := fill_ev (F := (F5a sm g ad n c i gu Au lu cu)) (T0 := T0) hA (i := 3) (s := 94) (by kernel_rfl) (by rw [hsz]; decide) (hd 3 (by simp)) []
  have b1 : (i : Int) ≤ (c : Int) := by omega
  have b2 : ¬ c = 0 := by omega
  unfold execOp
  simp only [e93, e94]
  simp only [Option.map_some, Option.map_none, e94]; (first | (simp only [F5a]; go_simp <;> rfl) | (simp only [F5a]; go_simp))
 ·refine quiet_of o5a_5 (by kernel_rfl) rfl [] (by kernel_rfl) fun d hd v₁ hx => ?_
  have e4 := (fill_old (ops := ops5a) (F := (F5a sm g ad n c i gu Au lu cu)) (T0 := T0) (s := 4) (by kernel_rfl) d []).trans h4
  unfold execOp
  simp only [e4]
  first | (simp only [F5a]; go_simp <;> rfl) | (simp only [F5a]; rfl)
 ·refine quiet_of o5a_6 (by kernel_rfl) rfl [] (by kernel_rfl) fun d hd v₁ hx => ?_
  have e12 := (fill_old (ops := ops5a) (F := (F5a sm g ad n c i gu Au lu cu)) (T0 := T0) (s := 12) (by kernel_rfl) d []).trans h12
  unfold execOp
  simp only [e12]
  first | (simp only [F5a]; go_simp <;> rfl) | (simp only [F5a]; rfl)
 ·refine quiet_of o5a_7 (by kernel_rfl) rfl [5, 6] (by kernel_rfl) fun d hd v₁ hx => ?_
  have e96 := fill_ev (F := (F5a sm g ad n c i gu Au lu cu)) (T0 := T0) hA (i := 5) (s := 96) (by kernel_rfl) (by rw [hsz]; decide) (hd 5 (by simp)) []
  have e97 := fill_ev (F := (F5a sm g ad n c i gu Au lu cu)) (T0 := T0) hA (i := 6) (s := 97) (by kernel_rfl) (by rw [hsz]; decide) (hd 6 (by simp)) []
  have b1 : (i : Int) < (n : Int) := by omega
  unfold execOp
  simp only [e96, e97]
  first | (simp only [F5a]; go_simp <;> rfl) | (simp only [F5a]; rfl)
 ·refine quiet_of o5a_8 (by kernel_rfl) rfl [7] (by kernel_rfl) fun d hd v₁ hx => ?_
  have e98 := fill_ev (F := (F5a sm g ad n c i gu Au lu cu)) (T0 := T0) hA (i := 7) (s := 98) (by kernel_rfl) (by rw [hsz]; decide) (hd 7 (by simp)) []
  unfold execOp
  simp only [e98]
  first | (simp only [F5a]; go_simp <;> rfl) | (simp only [F5a]; rfl)
 ·refine quiet_of o5a_9 (by kernel_rfl) rfl [8] (by kernel_rfl) fun d hd v₁ hx => ?_
  have e99 := fill_ev (F := (F5a sm g ad n c i gu Au lu cu)) (T0 := T0) hA (i := 8) (s := 99) (by kernel_rfl) (by rw [hsz]; decide) (hd 8 (by simp)) []
  have hc0 := cell_up hx cg
  unfold execOp
  simp only [e99]
  first | (simp only [F5a]; go_simp <;> rfl) | (simp only [F5a]; rfl)
 ·refine quiet_of o5a_11 (by kernel_rfl) rfl [10] (by kernel_rfl) fun d hd v₁ hx => ?_
  have e101 := fill_ev (F := (F5a sm g ad n c i gu Au lu cu)) (T0 := T0) hA (i := 10) (s := 101) (by kernel_rfl) (by rw [hsz]; decide) (hd 10 (by simp)) []
  unfold execOp
  simp only [e101]
  simp only [resolve, invoke, builtin, Sem.run_bind, Sem.run_pure, Result.andThen_ok, List.map_toArray, List.map_cons, List.map_nil, e101, F5a]; go_simp <;> rfl
 ·refine quiet_of o5a_12 (by kernel_rfl) rfl [0, 11] (by kernel_rfl) fun d hd v₁ hx => ?_
  have e91 := fill_ev (F := (F5a sm g ad n c i gu Au lu cu)) (T0 := T0) hA (i := 0) (s := 91) (by kernel_rfl) (by rw [hsz]; decide) (hd 0 (by simp)) []
  have e102 := fill_ev (F := (F5a sm g ad n c i gu Au lu cu)) (T0 := T0) hA (i := 11) (s := 102) (by kernel_rfl) (by rw [hsz]; decide) (hd 11 (by simp)) []
  have b1 : IntKind.i64.wrap ((sm : Int) + (lu : Int)) = (sm : Int) + lu := by rw [IntKind.wrap_i64]; omega
  unfold execOp
  simp only [e91, e102]
  first | (simp only [F5a]; go_simp <;> rfl) | (simp only [F5a]; rfl)
 ·refine quiet_of o5a_13 (by kernel_rfl) rfl [12] (by kernel_rfl) fun d hd v₁ hx => ?_
  have e103 := fill_ev (F := (F5a sm g ad n c i gu Au lu cu)) (T0 := T0) hA (i := 12) (s := 103) (by kernel_rfl) (by rw [hsz]; decide) (hd 12 (by simp)) []
  unfold execOp
  simp only [e103]
  first | (simp only [F5a]; go_simp <;> rfl) | (simp only [F5a]; rfl)
theorem quiet5a0 {v : World} {T0 : Array Value} {sm : Nat} {g : Int} {ad : Addr} {n c i : Nat} {gu : Int} {Au : Option Addr} {lu cu : Nat} (h10 : T0.getD 10 undef = .int .i64 sm) : QuietS Try.prog Sf v ops5a (F5a sm g ad n c i gu Au lu cu) T0 0 := by
 refine ⟨_, o5a_0, by kernel_rfl, rfl, fun d hd _ hC v₁ hx => ?_⟩
 have hn : ∀ j ∈ d, (ops5a[j]?).bind (·.dst) ≠ some 10 := fun j hj e => by
  have h13 : j = 13 := by
   by_cases hj14 : j < 14
   ·have : j = 0 ∨ j = 1 ∨ j = 2 ∨ j = 3 ∨ j = 4 ∨ j = 5 ∨ j = 6 ∨ j = 7 ∨ j = 8 ∨ j = 9 ∨ j = 10 ∨ j = 11 ∨ j = 12 ∨ j = 13 := by omega
    rcases this with rfl | rfl | rfl | rfl | rfl | rfl | rfl | rfl | rfl | rfl | rfl | rfl | rfl | rfl
    ·rw [o5a_0] at e; simp at e
    ·rw [o5a_1] at e; simp at e
    ·rw [o5a_2] at e; simp at e
    ·rw [o5a_3] at e; simp at e
    ·rw [o5a_4] at e; simp at e
    ·rw [o5a_5] at e; simp at e
    ·rw [o5a_6] at e; simp at e
    ·rw [o5a_7] at e; simp at e
    ·rw [o5a_8] at e; simp at e
    ·rw [o5a_9] at e; simp at e
    ·rw [o5a_10] at e; simp at e
    ·rw [o5a_11] at e; simp at e
    ·rw [o5a_12] at e; simp at e
    ·rfl
   ·rw [Array.getElem?_eq_none (by rw [size5a]; omega)] at e; cases e
  subst h13
  exact hd (shut_dep hC hj o5a_13 (by kernel_rfl))
 have e10 : (Act.mk (fillT ops5a (F5a sm g ad n c i gu Au lu cu) T0 d) []).eval (.tmp 10) = .int .i64 sm := (fillT_keep hn).trans h10
 unfold execOp
 simp only [e10]
 rfl
end Go.Proofs.Ythmgpkcijolljaa
/-
  The law FnSaidAlone, walked beside leavers: its loop, what follows, the whole.
-/
namespace Go.Proofs.Ythmgpkcijolljaa
open Go.Conc Go.RowKit Go.Conc.Lib Go.ConcR.Gen
set_option linter.unusedSimpArgs false
set_option linter.unusedVariables false
theorem kCode {K : Goroutine → World → Prop} {b : Frame} {a : Act} {k : List Item} {cs : List Frame} {v : World} {c c' : Code} (e : c = c') (h : KA K (G (b.at a (.code c' :: k)) cs) v) : KA K (G (b.at a (.code c :: k)) cs) v := e ▸ h
abbrev O5_11 : Array Oper := #[{ dst := some 77, op := Op.move (Operand.tmp 12), type := 3, pos := "laws.go:1322", after := #[], guard := none }, { dst := some 78, op := Op.move (Operand.tmp 4), type := 25, pos := "laws.go:1322", after := #[], guard := none }, { dst := some 79, op := Op.call { callee := Callee.builtin Builtin.len, args := #[Operand.tmp 78], argTypes := #[25] }, type := 3, pos := "laws.go:1322", after := #[{ on := 1, ground := Ground.data }], guard := none }, { dst := some 80, op := Op.binOp BinOp.lss 3 (Operand.tmp 77) (Operand.tmp 79) 3, type := 4, pos := "laws.go:1322", after := #[{ on := 0, ground := Ground.data }, { on := 2, ground := Ground.data }], guard := none }]
abbrev O5_12 : Array Oper := #[{ dst := some 81, op := Op.move (Operand.tmp 12), type := 3, pos := "laws.go:1322", after := #[], guard := none }, { dst := some 82, op := Op.binOp BinOp.add 3 (Operand.tmp 81) (Operand.const (Value.int IntKind.i64 1)) 3, type := 3, pos := "laws.go:1322", after := #[{ on := 0, ground := Ground.data }], guard := none }, { dst := some 12, op := Op.assign (Operand.tmp 82), type := 3, pos := "laws.go:1322", after := #[{ on := 1, ground := Ground.data }, { on := 0, ground := Ground.phase }, { on := 1, ground := Ground.phase }], guard := none }]
abbrev O5_13 : Array Oper := #[{ dst := some 83, op := Op.move (Operand.tmp 4), type := 25, pos := "laws.go:1323", after := #[], guard := none }, { dst := some 84, op := Op.move (Operand.tmp 12), type := 3, pos := "laws.go:1323", after := #[], guard := none }, { dst := some 85, op := Op.indexAddr 25 (Operand.tmp 83) (Operand.tmp 84), type := 0, pos := "laws.go:1323", after := #[{ on := 0, ground := Ground.data }, { on := 1, ground := Ground.data }], guard := none }, { dst := some 86, op := Op.fieldAddr 41 (Operand.tmp 85) 0, type := 0, pos := "laws.go:1323", after := #[{ on := 2, ground := Ground.data }], guard := none }, { dst := some 87, op := Op.load 9 (Operand.tmp 86), type := 9, pos := "laws.go:1323", after := #[{ on := 3, ground := Ground.data }], guard := none }, { dst := some 88, op := Op.binOp BinOp.eql 9 (Operand.tmp 87) (Operand.const (Value.string { data := #[115, 97, 121] })) 9, type := 4, pos := "laws.go:1323", after := #[{ on := 4, ground := Ground.data }], guard := none }]
abbrev O5_14 : Array Oper := #[{ dst := some 89, op := Op.move (Operand.tmp 11), type := 3, pos := "laws.go:1324", after := #[], guard := none }, { dst := some 90, op := Op.binOp BinOp.add 3 (Operand.tmp 89) (Operand.const (Value.int IntKind.i64 1)) 3, type := 3, pos := "laws.go:1324", after := #[{ on := 0, ground := Ground.data }], guard := none }, { dst := some 11, op := Op.assign (Operand.tmp 90), type := 3, pos := "laws.go:1324", after := #[{ on := 1, ground := Ground.data }, { on := 0, ground := Ground.phase }, { on := 1, ground := Ground.phase }], guard := none }]
abbrev O5_16 : Array Oper := #[{ dst := some 105, op := Op.move (Operand.tmp 3), type := 3, pos := "laws.go:1328", after := #[], guard := none }, { dst := some 106, op := Op.buildSlice 25 0 #[], type := 25, pos := "laws.go:1328", after := #[], guard := none }, { dst := some 107, op := Op.move (Operand.tmp 4), type := 25, pos := "laws.go:1328", after := #[], guard := none }, { dst := some 108, op := Op.move (Operand.tmp 4), type := 25, pos := "laws.go:1328", after := #[], guard := none }, { dst := some 109, op := Op.call { callee := Callee.builtin Builtin.len, args := #[Operand.tmp 108], argTypes := #[25] }, type := 3, pos := "laws.go:1328", after := #[{ on := 3, ground := Ground.data }], guard := none }, { dst := some 110, op := Op.binOp BinOp.quo 3 (Operand.tmp 109) (Operand.const (Value.int IntKind.i64 2)) 3, type := 3, pos := "laws.go:1328", after := #[{ on := 4, ground := Ground.data }], guard := none }, { dst := some 111, op := Op.slice 25 (Operand.tmp 107) none (some (Operand.tmp 110)) none, type := 25, pos := "laws.go:1328", after := #[{ on := 2, ground := Ground.data }, { on := 5, ground := Ground.data }], guard := none }, { dst := some 112, op := Op.call { callee := Callee.builtin Builtin.append, args := #[Operand.tmp 106, Operand.tmp 111], argTypes := #[25, 25] }, type := 25, pos := "laws.go:1328", after := #[{ on := 1, ground := Ground.data }, { on := 6, ground := Ground.data }], guard := none }, { dst := some 113, op := Op.build 41 #[(0, Operand.const (Value.string { data := #[108, 101, 97, 118, 101] })), (1, Operand.const (Value.int IntKind.i64 1))], type := 41, pos := "laws.go:1328", after := #[], guard := none }, { dst := some 114, op := Op.buildSlice 25 1 #[(0, Operand.tmp 113)], type := 25, pos := "laws.go:1328", after := #[{ on := 8, ground := Ground.data }], guard := none }, { dst := some 115, op := Op.call { callee := Callee.builtin Builtin.append, args := #[Operand.tmp 112, Operand.tmp 114], argTypes := #[25, 25] }, type := 25, pos := "laws.go:1328", after := #[{ on := 7, ground := Ground.data }, { on := 9, ground := Ground.data }, { on := 7, ground := Ground.chain }], guard := none }, { dst := some 116, op := Op.call { callee := Callee.value (Operand.func 20), args := #[Operand.tmp 105, Operand.tmp 115], argTypes := #[3, 25] }, type := 38, pos := "laws.go:1328", after := #[{ on := 0, ground := Ground.data }, { on := 10, ground := Ground.data }, { on := 10, ground := Ground.chain }], guard := none }, { dst := some 104, op := Op.move (Operand.tmp 116), type := 38, pos := "laws.go:1328", after := #[{ on := 11, ground := Ground.data }], guard := none }, { dst := some 117, op := Op.extract (Operand.tmp 104) 0, type := 32, pos := "laws.go:1328", after := #[{ on := 12, ground := Ground.data }], guard := none }, { dst := some 118, op := Op.extract (Operand.tmp 104) 1, type := 4, pos := "laws.go:1328", after := #[{ on := 12, ground := Ground.data }, { on := 15, ground := Ground.gcOnly Departure.lateStores }], guard := none }, { dst := some 13, op := Op.assign (Operand.tmp 117), type := 32, pos := "laws.go:1328", after := #[{ on := 13, ground := Ground.data }, { on := 11, ground := Ground.chain }, { on := 0, ground := Ground.phase }, { on := 1, ground := Ground.phase }, { on := 2, ground := Ground.phase }, { on := 3, ground := Ground.phase }, { on := 4, ground := Ground.phase }, { on := 5, ground := Ground.phase }, { on := 6, ground := Ground.phase }, { on := 7, ground := Ground.phase }, { on := 8, ground := Ground.phase }, { on := 9, ground := Ground.phase }, { on := 10, ground := Ground.phase }, { on := 11, ground := Ground.phase }, { on := 12, ground := Ground.phase }, { on := 13, ground := Ground.phase }, { on := 14, ground := Ground.textOnly Departure.lateStores }], guard := none }, { dst := some 14, op := Op.assign (Operand.tmp 118), type := 4, pos := "laws.go:1328", after := #[{ on := 14, ground := Ground.data }, { on := 15, ground := Ground.chain }, { on := 0, ground := Ground.phase }, { on := 1, ground := Ground.phase }, { on := 2, ground := Ground.phase }, { on := 3, ground := Ground.phase }, { on := 4, ground := Ground.phase }, { on := 5, ground := Ground.phase }, { on := 6, ground := Ground.phase }, { on := 7, ground := Ground.phase }, { on := 8, ground := Ground.phase }, { on := 9, ground := Ground.phase }, { on := 10, ground := Ground.phase }, { on := 11, ground := Ground.phase }, { on := 12, ground := Ground.phase }, { on := 13, ground := Ground.phase }, { on := 14, ground := Ground.phase }, { on := 15, ground := Ground.phase }], guard := none }]
abbrev O5_17 : Array Oper := #[{ dst := some 119, op := Op.move (Operand.tmp 9), type := 3, pos := "laws.go:1329", after := #[], guard := none }, { dst := some 120, op := Op.move (Operand.tmp 10), type := 3, pos := "laws.go:1329", after := #[], guard := none }, { dst := some 121, op := Op.binOp BinOp.eql 3 (Operand.tmp 119) (Operand.tmp 120) 3, type := 4, pos := "laws.go:1329", after := #[{ on := 0, ground := Ground.data }, { on := 1, ground := Ground.data }], guard := none }, { dst := some 122, op := Op.move (Operand.tmp 121), type := 4, pos := "laws.go:1329", after := #[{ on := 2, ground := Ground.data }], guard := none }, { dst := some 123, op := Op.move (Operand.tmp 5), type := 32, pos := "laws.go:1329", after := #[{ on := 3, ground := Ground.guard }], guard := some (3, true) }, { dst := some 124, op := Op.call { callee := Callee.builtin Builtin.len, args := #[Operand.tmp 123], argTypes := #[32] }, type := 3, pos := "laws.go:1329", after := #[{ on := 4, ground := Ground.data }, { on := 3, ground := Ground.guard }], guard := some (3, true) }, { dst := some 125, op := Op.move (Operand.tmp 11), type := 3, pos := "laws.go:1329", after := #[{ on := 3, ground := Ground.guard }], guard := some (3, true) }, { dst := some 126, op := Op.binOp BinOp.leq 3 (Operand.tmp 124) (Operand.tmp 125) 3, type := 4, pos := "laws.go:1329", after := #[{ on := 5, ground := Ground.data }, { on := 6, ground := Ground.data }, { on := 3, ground := Ground.guard }], guard := some (3, true) }, { dst := some 127, op := Op.pick (Operand.tmp 122) (Operand.tmp 126) (Operand.const (Value.bool false)), type := 4, pos := "laws.go:1329", after := #[{ on := 3, ground := Ground.data }, { on := 7, ground := Ground.data }], guard := none }, { dst := some 128, op := Op.move (Operand.tmp 127), type := 4, pos := "laws.go:1329", after := #[{ on := 8, ground := Ground.data }, { on := 3, ground := Ground.chain }], guard := none }, { dst := some 129, op := Op.move (Operand.tmp 13), type := 32, pos := "laws.go:1329", after := #[{ on := 9, ground := Ground.guard }], guard := some (9, true) }, { dst := some 130, op := Op.call { callee := Callee.builtin Builtin.len, args := #[Operand.tmp 129], argTypes := #[32] }, type := 3, pos := "laws.go:1329", after := #[{ on := 10, ground := Ground.data }, { on := 9, ground := Ground.guard }], guard := some (9, true) }, { dst := some 131, op := Op.move (Operand.tmp 11), type := 3, pos := "laws.go:1329", after := #[{ on := 9, ground := Ground.guard }], guard := some (9, true) }, { dst := some 132, op := Op.binOp BinOp.leq 3 (Operand.tmp 130) (Operand.tmp 131) 3, type := 4, pos := "laws.go:1329", after := #[{ on := 11, ground := Ground.data }, { on := 12, ground := Ground.data }, { on := 9, ground := Ground.guard }], guard := some (9, true) }, { dst := some 133, op := Op.pick (Operand.tmp 128) (Operand.tmp 132) (Operand.const (Value.bool false)), type := 4, pos := "laws.go:1329", after := #[{ on := 9, ground := Ground.data }, { on := 13, ground := Ground.data }], guard := none }, { dst := some 134, op := Op.move (Operand.tmp 133), type := 4, pos := "laws.go:1329", after := #[{ on := 14, ground := Ground.data }, { on := 9, ground := Ground.chain }], guard := none }, { dst := some 135, op := Op.move (Operand.tmp 9), type := 3, pos := "laws.go:1329", after := #[{ on := 15, ground := Ground.guard }], guard := some (15, true) }, { dst := some 136, op := Op.move (Operand.tmp 11), type := 3, pos := "laws.go:1329", after := #[{ on := 15, ground := Ground.guard }], guard := some (15, true) }, { dst := some 137, op := Op.move (Operand.tmp 3), type := 3, pos := "laws.go:1329", after := #[{ on := 15, ground := Ground.guard }], guard := some (15, true) }, { dst := some 138, op := Op.binOp BinOp.sub 3 (Operand.tmp 137) (Operand.const (Value.int IntKind.i64 1)) 3, type := 3, pos := "laws.go:1329", after := #[{ on := 18, ground := Ground.data }, { on := 15, ground := Ground.guard }], guard := some (15, true) }, { dst := some 139, op := Op.call { callee := Callee.builtin Builtin.max, args := #[Operand.tmp 138, Operand.const (Value.int IntKind.i64 0)], argTypes := #[3, 3] }, type := 3, pos := "laws.go:1329", after := #[{ on := 19, ground := Ground.data }, { on := 15, ground := Ground.guard }], guard := some (15, true) }, { dst := some 140, op := Op.binOp BinOp.mul 3 (Operand.tmp 136) (Operand.tmp 139) 3, type := 3, pos := "laws.go:1329", after := #[{ on := 17, ground := Ground.data }, { on := 20, ground := Ground.data }, { on := 15, ground := Ground.guard }], guard := some (15, true) }, { dst := some 141, op := Op.binOp BinOp.leq 3 (Operand.tmp 135) (Operand.tmp 140) 3, type := 4, pos := "laws.go:1329", after := #[{ on := 16, ground := Ground.data }, { on := 21, ground := Ground.data }, { on := 15, ground := Ground.guard }], guard := some (15, true) }, { dst := some 142, op := Op.pick (Operand.tmp 134) (Operand.tmp 141) (Operand.const (Value.bool false)), type := 4, pos := "laws.go:1329", after := #[{ on := 15, ground := Ground.data }, { on := 22, ground := Ground.data }], guard := none }, { dst := some 2, op := Op.assign (Operand.tmp 142), type := 4, pos := "laws.go:1329", after := #[{ on := 23, ground := Ground.data }, { on := 15, ground := Ground.chain }, { on := 0, ground := Ground.phase }, { on := 1, ground := Ground.phase }, { on := 2, ground := Ground.phase }, { on := 3, ground := Ground.phase }, { on := 4, ground := Ground.phase }, { on := 5, ground := Ground.phase }, { on := 6, ground := Ground.phase }, { on := 7, ground := Ground.phase }, { on := 8, ground := Ground.phase }, { on := 9, ground := Ground.phase }, { on := 10, ground := Ground.phase }, { on := 11, ground := Ground.phase }, { on := 12, ground := Ground.phase }, { on := 13, ground := Ground.phase }, { on := 14, ground := Ground.phase }, { on := 15, ground := Ground.phase }, { on := 16, ground := Ground.phase }, { on := 17, ground := Ground.phase }, { on := 18, ground := Ground.phase }, { on := 19, ground := Ground.phase }, { on := 20, ground := Ground.phase }, { on := 21, ground := Ground.phase }, { on := 22, ground := Ground.phase }, { on := 23, ground := Ground.phase }], guard := none }]
theorem LS_eq : LS = .seq (.seq (.region 11 O5_11 false) (.cond (.tmp 80) .skip (.exit 0))) (.seq (.block 1 (.seq (.region 13 O5_13 false) (.cond (.tmp 88) (.seq (.region 14 O5_14 false) (.region 15 ops5a true)) .skip))) (.region 12 O5_12 false)) := by kernel_rfl
theorem ES_eq : ES = .seq (.region 16 O5_16 false) (.seq (.region 17 O5_17 false) .ret) := by kernel_rfl
def leaveD : Dd := (⟨#[108, 101, 97, 118, 101]⟩, 1, 0)
theorem said_infoT : (Try.prog.info? 41).map (fun i => (i.zero, i.size, i.bytes)) = some (some (Value.agg #[.string ByteArray.empty, .int .i64 0, .int .i64 0]), 3, 32) := by kernel_rfl
/-- what is said alone in the first half, one leaving behind it -/
theorem again_len {g : Int} {l : List Dd} (hm : meetB g l = true) (k : Nat) : (aloneL g (l.take k ++ [leaveD])).length ≤ saysTo l l.length := by
 cases hm2 : meetB g (l.take k ++ [leaveD])
 ·rw [aloneL_no hm2]; exact Nat.zero_le _
 ·rw [aloneL_yes hm2, aloneF_app, aloneF_one, List.length_append]
  have h1 := alone_says g.toNat l k
  have h2 := saysTo_le l k
  have e : isSay leaveD = false := by kernel_rfl
  rw [e]
  simp only [Bool.false_and, Bool.false_eq_true, if_false, List.length_nil]
  have h3 : (aloneF g.toNat on0 (l.take k)).length = (aloneAt g.toNat l k).length := rfl
  omega
theorem cells3_all (l : List Dd) : ∀ u ∈ cells3 l, u.oneCell' = true := by
 intro u hu
 unfold cells3 at hu
 obtain ⟨d, _, hd⟩ := List.mem_flatMap.1 hu
 simp [encD] at hd
 rcases hd with rfl | rfl | rfl <;> rfl
theorem run_half {w : World} {A : Option Addr} {n c h : Nat} (hn : 0 < n → ∃ ad, A = some ad) (hh : h ≤ n) (hc : n ≤ c) (hm : c ≤ maxLen) : (Instr.sliceAt 25 (.slice A n c) none (some (.int .i64 (h : Int))) none).run Try.prog w = .ok (.slice A h c) w := by
 unfold maxLen at hm
 have b1 : (h : Int) ≤ (c : Int) := by omega
 cases A with
 | some ad =>
  clear hn
  by_cases hc0 : c = 0
  ·subst hc0
   obtain rfl : h = 0 := by omega
   go_simp <;> rfl
  ·go_simp <;> rfl
 | none =>
  obtain rfl : n = 0 := by
   rcases Nat.eq_zero_or_pos n with h0 | h0
   ·exact h0
   ·obtain ⟨ad, e⟩ := hn h0; cases e
  obtain rfl : h = 0 := by omega
  clear hn
  go_simp <;> rfl
set_option maxRecDepth 100000 in
set_option maxHeartbeats 4000000 in
theorem said_next {g : Int} {A : Option Addr} {n c : Nat} {Aa : Option Addr} {la ca nn sm sd k : Nat} {T : Array Value} {v : World} (hF : Flat Try.prog v) (hT : HdSd g A n c Aa la ca nn sm sd k T) (hk : k ≤ 1000)
  (h : ∀ T', HdSd g A n c Aa la ca nn sm sd (k + 1) T' → KA KL (G ((Conc.base 5).at ⟨T', []⟩ [.code LS, .inLoop LS, .inBlock 0, .code ES]) []) v) :
  KA KL (G ((Conc.base 5).at ⟨T, []⟩ [.inBlock 1, .code (.region 12 O5_12 false), .inLoop LS, .inBlock 0, .code ES]) []) v := by
 have hK := kl_ok
 obtain ⟨hz, t3, t4, t5, t9, t10, t11, t12⟩ := hT
 obtain ⟨f, hf, hT⟩ := arr143 hz
 rw [hf] at t3 t4 t5 t9 t10 t11 t12
 subst hT
 rw [t3, t4, t5, t9, t10, t11, t12]
 clear hz hf t3 t4 t5 t9 t10 t11 t12
 have hi64 : IntKind.i64.wrap ((k : Int) + 1) = ((k + 1 : Nat) : Int) := by rw [IntKind.wrap_i64]; omega
 have h' := fun T' => h T'
 clear h
 refine kInBlock hK hF (kRegion hK hF ?_)
 refine kOp closedS.bodies hK hF (val := .int .i64 k) (by k_ne) rfl rfl (by kernel_rfl) (fun v₁ hv => by go_simp <;> rfl) ?_
 walk_nrm
 refine kOp closedS.bodies hK hF (val := .int .i64 ((k + 1 : Nat) : Int)) (by k_ne) rfl rfl (by kernel_rfl) (fun v₁ hv => by go_simp; try simp [hi64]) ?_
 walk_nrm
 refine kOp closedS.bodies hK hF (val := .int .i64 ((k + 1 : Nat) : Int)) (by k_ne) rfl rfl (by kernel_rfl) (fun v₁ hv => by go_simp <;> rfl) ?_
 walk_nrm
 refine kRegEnd hK hF (kInLoop hK hF ?_)
 exact h' _ ⟨rfl, rfl, rfl, rfl, rfl, rfl, rfl, rfl⟩
set_option maxRecDepth 100000 in
set_option maxHeartbeats 16000000 in
/-- behind the loop -/
theorem said_tail {g : Int} {ls : List Dd} {A : Option Addr} {c : Nat} {Aa : Option Addr} {la ca nn sm sd k : Nat} (hm : meetB g ls = true) (hls : ls.length ≤ 13) (hc : ls.length ≤ c) (hcm : c ≤ maxLen) (hsm : nn = sm) (hla : la ≤ sd) (hsd : sd = saysTo ls ls.length) (hnn : nn ≤ sd * (g.toNat - 1)) (T : Array Value) (v : World) (hF : Flat Try.prog v) (hRD : RD v v.heap.size A ls)
  (hT : HdSd g A ls.length c Aa la ca nn sm sd k T) : KA KL (G ((Conc.base 5).at ⟨T, []⟩ [.code ES]) []) v := by
 have hK := kl_ok
 obtain ⟨i0, hi, hz0, hz1, hz2⟩ := info_parts said_infoT
 obtain ⟨hz, t3, t4, t5, t9, t10, t11, t12⟩ := hT
 obtain ⟨f, hff, hT⟩ := arr143 hz
 rw [hff] at t3 t4 t5 t9 t10 t11 t12
 subst hT
 rw [t3, t4, t5, t9, t10, t11, t12]
 clear hz hff t3 t4 t5 t9 t10 t11 t12
 obtain ⟨b1, b2, b3, b4⟩ := meetB_true hm
 obtain ⟨hf, hhf⟩ : ∃ hf, hf = ls.length / 2 := ⟨_, rfl⟩
 have hhl : hf ≤ ls.length := by omega
 have hlt : (ls.take hf).length = hf := by rw [List.length_take]; omega
 have hsd13 : sd ≤ 13 := by rw [hsd]; have := saysTo_len ls ls.length; omega
 have hag := again_len hm hf
 have HG := Lib.hid (And.intro b1 (And.intro b2 (And.intro hsm (And.intro hla (And.intro hnn (And.intro hsd hag))))))
 have hq2 : IntKind.i64.wrap ((ls.length : Int) / 2) = (hf : Int) := by rw [IntKind.wrap_i64]; omega
 refine kCode ES_eq (kSeq hK hF (kRegion hK hF ?_))
 refine kOp closedS.bodies hK hF (val := .int .i64 g) (by k_ne) rfl rfl (by kernel_rfl) (fun v₁ hv => by go_simp <;> rfl) ?_
 walk_nrm
 refine kOpN closedS.bodies hK hF (val := .slice (some ⟨v.heap.size, 0, none⟩) 0 0) (v' := v.alloc (.cells #[] 41)) (by k_ne) rfl rfl (by kernel_rfl) (fun t e => by go_simp <;> first | rfl | exact ⟨rfl, rfl⟩) ?_
 walk_nrm
 intro hF1
 have hO1 := ownsRow_emptyD v
 have hRD1 : RD (v.alloc (.cells #[] 41)) (v.alloc (.cells #[] 41)).heap.size A ls := hRD.ups (Ups.alloc v _)
 have hs1 : v.heap.size < (v.alloc (.cells #[] 41)).heap.size := by simp
 generalize v.alloc (.cells #[] 41) = w1 at hF1 hO1 hRD1 hs1 ⊢
 refine kOp closedS.bodies hK hF1 (val := .slice A ls.length c) (by k_ne) rfl rfl (by kernel_rfl) (fun v₁ hv => by go_simp <;> rfl) ?_
 walk_nrm
 refine kOp closedS.bodies hK hF1 (val := .slice A ls.length c) (by k_ne) rfl rfl (by kernel_rfl) (fun v₁ hv => by go_simp <;> rfl) ?_
 walk_nrm
 refine kOp closedS.bodies hK hF1 (val := .int .i64 ls.length) (by k_ne) rfl rfl (by kernel_rfl) (fun v₁ hv => by go_simp <;> rfl) ?_
 walk_nrm
 refine kOp closedS.bodies hK hF1 (val := .int .i64 (hf : Int)) (by k_ne) rfl rfl (by kernel_rfl) (fun v₁ hv => by go_simp <;> first | rfl | simp [hq2]) ?_
 walk_nrm
 have hne : 0 < ls.length → ∃ ad, A = some ad := fun h0 => by obtain ⟨ad, e, _⟩ := hRD.2 h0; exact ⟨ad, e⟩
 have hrh := fun w : World => run_half (w := w) hne hhl hc hcm
 refine kOp closedS.bodies hK hF1 (val := .slice A hf c) (by k_ne) rfl rfl (by kernel_rfl) (fun v₁ hv => by have hr := hrh v₁; unfold execOp; simp only [Option.map_some, Option.map_none]; show (do let y ← Instr.sliceAt 25 (.slice A ls.length c) none (some (.int .i64 (hf : Int))) none; pure (Next.value y) : Sem Next).run Try.prog v₁ = _; rw [Sem.run_bind, hr]; rfl) ?_
 walk_nrm
 have hcl : (cells3 ls).length = ls.length * 3 := cells3_length ls
 refine kAppend hK hF1 (by k_ne) rfl rfl (by kernel_rfl) _ _ 25 rfl v.heap.size 41 i0 (.agg #[.string ByteArray.empty, .int .i64 0, .int .i64 0]) 3 32 Try.underlying25 hi hz0 hz1 hz2 rfl (by decide) (.slice (some ⟨v.heap.size, 0, none⟩) 0 0) 0 (cells3 []) rfl hO1 A hf c (cells3 (ls.take hf)) rfl ?_ (cells3_all _) (by unfold maxLen; omega) (by omega) (by omega) (fun val w2 hF2 hO2 hs2 hg2 => ?_)
 ·have h1 := RD.take hRD1 hhl
  unfold RD at h1
  rw [hlt] at h1
  exact h1
 have hO2' : w2.ownsRow v.heap.size 41 3 val hf (cells3 (ls.take hf)) := by simpa [cells3] using hO2
 obtain ⟨A2, c2, rfl⟩ := own_form hO2'
 clear hO1 hO2 hRD1 hg2
 walk_nrm
 refine kOp closedS.bodies hK hF2 (val := .agg #[.string ⟨#[108, 101, 97, 118, 101]⟩, .int .i64 1, .int .i64 0]) (by k_ne) rfl rfl (by kernel_rfl) (fun v₁ hv => by go_simp <;> rfl) ?_
 walk_nrm
 refine kOpN closedS.bodies hK hF2 (val := .slice (some ⟨w2.heap.size, 0, none⟩) 1 1) (v' := w2.alloc (.cells #[.string ⟨#[108, 101, 97, 118, 101]⟩, .int .i64 1, .int .i64 0] 41)) (by k_ne) rfl rfl (by kernel_rfl) (fun t e => by go_simp <;> first | rfl | exact ⟨rfl, rfl⟩) ?_
 walk_nrm
 intro hF3
 have hO3 := World.ownsRow.alloc hO2' (.cells #[.string ⟨#[108, 101, 97, 118, 101]⟩, .int .i64 1, .int .i64 0] 41)
 have hN3 := new_said w2 ⟨#[108, 101, 97, 118, 101]⟩ 1 0
 have hs3 : v.heap.size < (w2.alloc (.cells #[.string ⟨#[108, 101, 97, 118, 101]⟩, .int .i64 1, .int .i64 0] 41)).heap.size := by simp; omega
 obtain ⟨q2, hq⟩ : ∃ q, q = w2.heap.size := ⟨_, rfl⟩
 rw [← hq] at hN3 ⊢
 generalize w2.alloc (.cells #[.string ⟨#[108, 101, 97, 118, 101]⟩, .int .i64 1, .int .i64 0] 41) = w3 at hF3 hO3 hN3 hs3 ⊢
 clear hO2' hq
 refine kAppend hK hF3 (by k_ne) rfl rfl (by kernel_rfl) _ _ 25 rfl v.heap.size 41 i0 (.agg #[.string ByteArray.empty, .int .i64 0, .int .i64 0]) 3 32 Try.underlying25 hi hz0 hz1 hz2 rfl (by decide) (.slice A2 hf c2) hf (cells3 (ls.take hf)) rfl hO3 (some ⟨q2, 0, none⟩) 1 1 (cells3 [leaveD]) rfl hN3 (cells3_all _) (by unfold maxLen; omega) (by omega) (by omega) (fun val w4 hF4 hO4 hs4 hg4 => ?_)
 have hl4 : (ls.take hf ++ [leaveD]).length = hf + 1 := by rw [List.length_append, hlt]; rfl
 have hO4' : w4.ownsRow v.heap.size 41 3 val (ls.take hf ++ [leaveD]).length (cells3 (ls.take hf ++ [leaveD])) := by rw [hl4]; simpa [cells3] using hO4
 obtain ⟨A4, c4, rfl⟩ := own_form hO4'
 clear hO3 hN3 hO4 hg4
 walk_nrm
 refine alone_call (l := ls.take hf ++ [leaveD]) rfl rfl (by k_ne) rfl rfl rfl hF4 (RD.of_own hO4') (by rw [hl4]; omega) (fun w5 u hF5 e5 hG5 => ?_)
 obtain ⟨L5, hL5⟩ : ∃ L, L = aloneL g (ls.take hf ++ [leaveD]) := ⟨_, rfl⟩
 have HL5 := Lib.hid hL5
 rw [← hL5] at hG5
 obtain ⟨b5, hb5⟩ : ∃ b, b = meetB g (ls.take hf ++ [leaveD]) := ⟨_, rfl⟩
 rw [← hb5]
 obtain ⟨A5, c5, rfl⟩ := own_form hG5
 clear hL5 hb5 hG5 hO4'
 walk_nrm
 refine kOp closedS.bodies hK hF5 (val := .tuple #[.slice A5 L5.length c5, .bool b5]) (by k_ne) rfl rfl (by kernel_rfl) (fun v₁ hv => by go_simp <;> rfl) ?_
 walk_nrm
 refine kOp closedS.bodies hK hF5 (val := .slice A5 L5.length c5) (by k_ne) rfl rfl (by kernel_rfl) (fun v₁ hv => by go_simp <;> rfl) ?_
 walk_nrm
 refine kOp closedS.bodies hK hF5 (val := .bool b5) (by k_ne) rfl rfl (by kernel_rfl) (fun v₁ hv => by go_simp <;> rfl) ?_
 walk_nrm
 refine kOp closedS.bodies hK hF5 (val := .slice A5 L5.length c5) (by k_ne) rfl rfl (by kernel_rfl) (fun v₁ hv => by go_simp <;> rfl) ?_
 walk_nrm
 refine kOp closedS.bodies hK hF5 (val := .bool b5) (by k_ne) rfl rfl (by kernel_rfl) (fun v₁ hv => by go_simp <;> rfl) ?_
 walk_nrm
 refine kRegEnd hK hF5 ?_
 obtain ⟨a1, a2, a3, a4, a5, a6, a7⟩ := HG.out
 rw [← a6, ← HL5.out] at a7
 subst a3
 obtain ⟨M, hM, M0, M4⟩ : ∃ M : Int, max (g - 1) 0 = M ∧ 0 ≤ M ∧ M ≤ 4 := ⟨_, rfl, by omega, by omega⟩
 have hMg : ((g.toNat - 1 : Nat) : Int) = M := by omega
 have hnM : (nn : Int) ≤ (sd : Int) * M := by
  rw [← hMg]
  have := Int.ofNat_le.2 a5
  rw [Int.natCast_mul] at this
  exact this
 have hMs : (sd : Int) * M ≤ 52 := by
  have h1 : (sd : Int) * M ≤ 13 * 4 := Int.mul_le_mul (by omega) M4 M0 (by omega)
  omega
 have hM1 : 0 ≤ (sd : Int) * M := Int.mul_nonneg (by omega) M0
 have hw64 : wrap64 ((sd : Int) * M) = (sd : Int) * M := by
  generalize (sd : Int) * M = p at hMs hM1 ⊢
  unfold wrap64; omega
 have hg64 : wrap64 (g - 1) = g - 1 := by unfold wrap64; omega
 have hwg : IntKind.i64.wrap (g - 1) = g - 1 := by rw [IntKind.wrap_i64]; omega
 have hee : ((nn : Int) == (nn : Int)) = true := by simp
 have hl1 : decide ((la : Int) ≤ (sd : Int)) = true := by simp; omega
 have hl2 : decide ((L5.length : Int) ≤ (sd : Int)) = true := by simp; omega
 have hl3 : decide ((nn : Int) ≤ (sd : Int) * M) = true := by simp; exact hnM
 have hl1' : (la : Int) ≤ (sd : Int) := by omega
 have hl2' : (L5.length : Int) ≤ (sd : Int) := by omega
 have hk1 : la ≤ sd := by omega
 have hk2 : L5.length ≤ sd := by omega
 clear HG HL5 a1 a2 a4 a5 a6 a7 hMg hM1 hMs hsd hla hnn hsd13 hag hRD hm b4 hhf hlt
 refine kLift closedS hK hF5 (by kernel_rfl) (by k_ne) fun t => ?_
 generalize hQ : Behind _ _ _ _ _ = Q
 go_wp2
 subst hQ
 refine fun todo _ _ => KA.re ?_
 exact law_ret rfl rfl Try.func5 rfl (by kernel_rfl) rfl
end Go.Proofs.Ythmgpkcijolljaa
