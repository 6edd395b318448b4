/-
  The law FnHeardBy, walked beside leavers: words, plain laws, lists of lists compared.
-/
import Derived.Test.YthmgpkcijolljaaK3
import Derived.Test.YthmgpkcijolljaaKKCallsH
namespace Go.Proofs.Ythmgpkcijolljaa
open Go.Conc Go.RowKit Go.Conc.Lib Go.ConcR.Gen
set_option linter.unusedSimpArgs false
set_option linter.unusedVariables false
/-- how many each has heard before deed i -/
def atM (n : Nat) (ls : List Dd) (i : Nat) : List Int := (List.range n).map fun q => (((futAt ls i (q + 1)).length : Nat) : Int)
/-- .. and the first j of the company C one more -/
def midL (n : Nat) (ls : List Dd) (i : Nat) (C : List Nat) (j : Nat) : List Int := (List.range n).map fun q => (((futAt ls i (q + 1)).length + (if q + 1 ∈ C.take j then 1 else 0) : Nat) : Int)
theorem midL_zero (n : Nat) (ls : List Dd) (i : Nat) (C : List Nat) : midL n ls i C 0 = atM n ls i := by simp [midL, atM]
theorem midL_all {n : Nat} {ls : List Dd} {i : Nat} (h : i < ls.length) (hs : isSay ls[i] = true) : midL n ls i (co n (onAt ls i) ls[i].2.1.toNat) (co n (onAt ls i) ls[i].2.1.toNat).length = atM n ls (i + 1) := by
 unfold midL atM
 refine List.map_congr_left fun q hq => ?_
 have hq' := List.mem_range.1 hq
 rw [futAt_succ h, hs, List.take_length, List.length_append]
 congr 2
 by_cases hc : inCo (onAt ls i) ls[i].2.1.toNat (q + 1) = true
 ·have hm : q + 1 ∈ co n (onAt ls i) ls[i].2.1.toNat := by
   unfold co
   exact List.mem_filter.2 ⟨List.mem_map.2 ⟨q, hq, rfl⟩, hc⟩
  rw [if_pos hm, hc]; rfl
 ·have hm : q + 1 ∉ co n (onAt ls i) ls[i].2.1.toNat := fun hm => by
   unfold co at hm
   exact hc (List.mem_filter.1 hm).2
  rw [if_neg hm]
  simp [hc]
theorem atM_not {n : Nat} {ls : List Dd} {i : Nat} (h : i < ls.length) (hs : isSay ls[i] = false) : atM n ls (i + 1) = atM n ls i := by
 unfold atM
 refine List.map_congr_left fun q _ => ?_
 rw [futAt_succ h, hs]; simp
theorem midL_set {n : Nat} {ls : List Dd} {i : Nat} {C : List Nat} (hC : C.Nodup) {j : Nat} (hj : j < C.length) (h1 : 1 ≤ C[j]) (hn : C[j] ≤ n) : (midL n ls i C j).set (C[j] - 1) ((((futAt ls i C[j]).length + 1 : Nat) : Nat) : Int) = midL n ls i C (j + 1) := by
 apply List.ext_getElem?
 intro q
 unfold midL
 by_cases hq : q < n
 ·rw [List.getElem?_set, List.getElem?_map, List.getElem?_map, List.getElem?_range hq, List.take_succ_eq_append_getElem hj]
  by_cases e : C[j] - 1 = q
  ·rw [if_pos e, if_pos (by simp; omega)]
   simp only [Option.map_some, Option.some.injEq]
   have hm : q + 1 ∈ C.take j ++ [C[j]] := List.mem_append.2 (.inr (List.mem_singleton.2 (by omega)))
   rw [if_pos hm]
   have e2 : C[j] = q + 1 := by omega
   rw [e2]
  ·rw [if_neg e]
   simp only [Option.map_some, Option.some.injEq]
   have hm : (q + 1 ∈ C.take j ++ [C[j]]) ↔ q + 1 ∈ C.take j := by
    rw [List.mem_append, List.mem_singleton]
    constructor
    ·rintro (h | h)
     ·exact h
     ·omega
    ·exact .inl
   simp only [hm]
 ·rw [List.getElem?_eq_none (by simp; omega), List.getElem?_eq_none (by simp; omega)]
theorem midL_get {n : Nat} {ls : List Dd} {i : Nat} {C : List Nat} (hC : C.Nodup) {j : Nat} (hj : j < C.length) (h1 : 1 ≤ C[j]) (hn : C[j] ≤ n) : (midL n ls i C j)[C[j] - 1]? = some (((futAt ls i C[j]).length : Nat) : Int) := by
 unfold midL
 rw [List.getElem?_map, List.getElem?_range (by omega)]
 have e : C[j] - 1 + 1 = C[j] := by omega
 have hm : C[j] ∉ C.take j := fun hm => by
  obtain ⟨p, hp, e2⟩ := List.getElem_of_mem hm
  rw [List.getElem_take] at e2
  have hp' : p < j := by rw [List.length_take] at hp; omega
  have h3 := List.pairwise_iff_getElem.1 hC p j (by omega) hj hp'
  exact h3 e2
 simp [e, hm]
/-- what one of the company hears next -/
theorem fut_next {ls : List Dd} {i : Nat} (h : i < ls.length) (hs : isSay ls[i] = true) {c : Nat} (hc : inCo (onAt ls i) ls[i].2.1.toNat c = true) : (futAt ls i c).length < (fut on0 ls c).length ∧ (fut on0 ls c)[(futAt ls i c).length]? = some ls[i].2.2 := by
 have e1 : fut on0 ls c = futAt ls (i + 1) c ++ fut (onAt ls (i + 1)) (ls.drop (i + 1)) c := by
  have e2 : ls = ls.take (i + 1) ++ ls.drop (i + 1) := (List.take_append_drop _ _).symm
  have e3 := fut_app on0 (ls.take (i + 1)) (ls.drop (i + 1)) c
  rw [← e2] at e3
  exact e3
 rw [futAt_succ h, hs, hc] at e1
 simp only [Bool.and_self, if_true] at e1
 rw [e1]
 refine ⟨by simp, ?_⟩
 rw [List.append_assoc, List.getElem?_append_right (Nat.le_refl _)]
 simp
theorem aloneAt_len_succ {n : Nat} {ls : List Dd} {i : Nat} (h : i < ls.length) : (aloneAt n ls (i + 1)).length = (aloneAt n ls i).length + (if isSay ls[i] && decide (co n (onAt ls i) ls[i].2.1.toNat = []) then 1 else 0) := by
 rw [aloneAt_succ n h, List.length_append]
 congr 1
 split <;> rfl
set_option maxHeartbeats 4000000 in
theorem cbLists_same (A A' : Option Addr) (c c' : Nat) (M : List (List Int)) (w : World) (h : LRd w w.heap.size A M) (h' : LRd w w.heap.size A' M) (hn : M.length ≤ 1000) (hn2 : ∀ l ∈ M, l.length ≤ 1000) :
  Calls Try.prog 31 #[.slice A M.length c, .slice A' M.length c'] w fun e w' => e = .returned (.bool true) ∧ Below w.heap.size w w' := by
 have hee : ((M.length : Int) == (M.length : Int)) = true := by simp
 go_enter Try.func31, Try.ntmps31
 go_wp2
 go_loopw [5] (fun i wr => ∃ k : Nat, k ≤ M.length ∧ i = .int .i64 k ∧ Below w.heap.size w wr) (fun i _ => M.length - (intOf i).toNat)
 case atStart => exact ⟨0, Nat.zero_le _, rfl, Below.refl _ _⟩
 case round =>
  obtain ⟨k, hk, rfl, hbel⟩ := hrel
  by_cases hlt : k < M.length
  ·obtain ⟨ad, A1, c1, rfl, hb, hc, hr⟩ := (h.kept hbel.block) k hlt
   obtain ⟨ad', A2, c2, rfl, hb', hc', hr'⟩ := (h'.kept hbel.block) k hlt
   have hs := hbel.size
   have hl := hn2 _ (List.getElem_mem hlt)
   obtain ⟨l, hl'⟩ : ∃ l, M[k] = l := ⟨_, rfl⟩
   rw [hl'] at hc hc' hr hr' hl
   have hl6 : l.length ≤ 1048576 := by omega
   clear hl' hn2 h h' hee
   have hbk : (ad.add k).block < wr.heap.size := by rw [block_of_add]; omega
   have hbk' : (ad'.add k).block < wr.heap.size := by rw [block_of_add]; omega
   go_wp2
   go_region_held3 (fun w' => w'.cell? (ad.add k) = some (.slice A1 l.length c1) ∧ w'.cell? (ad'.add k) = some (.slice A2 l.length c2)) (go_keep) (first | (go_at_call 17; refine (cbSame_same A1 A2 c1 c2 l wr.drew _ _ hr hr' hl6).mono ?_; rintro e w2 ⟨rfl, n2, rfl⟩; have hb2 := below_drewN (Below.refl wr.drew.heap.size wr.drew) n2; have k1 := (hb2.cell (p := ad.add k) hbk).trans hc; have k2 := (hb2.cell (p := ad'.add k) hbk').trans hc'))
   go_wp2
   go_roundw
   case rel => exact ⟨k + 1, by omega, by go_num, below_drewN hbel _⟩
   case measure => simp [intOf]; omega
  ·obtain rfl : k = M.length := by omega
   clear h h' hn2
   go_wp2
   go_ret
   exact ⟨rfl, hbel⟩
set_option maxRecDepth 100000 in
theorem arrH {T : Array Value} (h : T.size = 160) : ∃ f : Nat → Value, (∀ j, T.getD j undef = f j) ∧ T = #[f 0, f 1, f 2, f 3, f 4, f 5, f 6, f 7, f 8, f 9, f 10, f 11, f 12, f 13, f 14, f 15, f 16, f 17, f 18, f 19, f 20, f 21, f 22, f 23, f 24, f 25, f 26, f 27, f 28, f 29, f 30, f 31, f 32, f 33, f 34, f 35, f 36, f 37, f 38, f 39, f 40, f 41, f 42, f 43, f 44, f 45, f 46, f 47, f 48, f 49, f 50, f 51, f 52, f 53, f 54, f 55, f 56, f 57, f 58, f 59, f 60, f 61, f 62, f 63, f 64, f 65, f 66, f 67, f 68, f 69, f 70, f 71, f 72, f 73, f 74, f 75, f 76, f 77, f 78, f 79, f 80, f 81, f 82, f 83, f 84, f 85, f 86, f 87, f 88, f 89, f 90, f 91, f 92, f 93, f 94, f 95, f 96, f 97, f 98, f 99, f 100, f 101, f 102, f 103, f 104, f 105, f 106, f 107, f 108, f 109, f 110, f 111, f 112, f 113, f 114, f 115, f 116, f 117, f 118, f 119, f 120, f 121, f 122, f 123, f 124, f 125, f 126, f 127, f 128, f 129, f 130, f 131, f 132, f 133, f 134, f 135, f 136, f 137, f 138, f 139, f 140, f 141, f 142, f 143, f 144, f 145, f 146, f 147, f 148, f 149, f 150, f 151, f 152, f 153, f 154, f 155, f 156, f 157, f 158, f 159] :=
 ⟨fun j => T.getD j undef, fun _ => rfl, (arr_of T 160 h).trans rfl⟩
noncomputable def body8 : Code := Try.f8.body.getD .skip
noncomputable def S8 : Code := match body8 with | .seq _ (.seq _ (.seq _ (.seq _ (.seq _ (.seq _ (.seq _ (.seq _ c))))))) => c | _ => .skip
noncomputable def LH : Code := match S8 with | .seq (.seq _ (.block _ (.loop c))) _ => c | _ => .skip
noncomputable def EH : Code := match S8 with | .seq _ c => c | _ => .skip
/-- the slots at the loop's head -/
structure HdH (g : Int) (A : Option Addr) (n c : Nat) (Ah : Option Addr) (mh ch gat na al i : Nat) (T : Array Value) : Prop where
 size : T.size = 160
 t3 : T.getD 3 undef = .int .i64 g
 t4 : T.getD 4 undef = .slice A n c
 t5 : T.getD 5 undef = .slice Ah mh ch
 t9 : T.getD 9 undef = .slice (some ⟨gat, 0, none⟩) na na
 t10 : T.getD 10 undef = .int .i64 al
 t11 : T.getD 11 undef = .int .i64 i
noncomputable def ops8a : Array Oper := match LH with
 | .seq _ (.seq (.block _ (.seq _ (.seq (.region _ ops _) _))) _) => ops
 | _ => #[]
theorem o8a_0 : ops8a[0]? = some { dst := some 73, op := Op.move (Operand.tmp 3), type := 3, pos := "laws.go:1235", after := #[], guard := none } := by kernel_rfl
theorem o8a_1 : ops8a[1]? = some { dst := some 74, op := Op.move (Operand.tmp 4), type := 25, pos := "laws.go:1235", after := #[], guard := none } := by kernel_rfl
theorem o8a_2 : ops8a[2]? = some { dst := some 75, op := Op.move (Operand.tmp 11), type := 3, pos := "laws.go:1235", after := #[], guard := none } := by kernel_rfl
theorem o8a_3 : ops8a[3]? = some { dst := some 76, op := Op.slice 25 (Operand.tmp 74) none (some (Operand.tmp 75)) none, type := 25, pos := "laws.go:1235", after := #[{ on := 1, ground := Ground.data }, { on := 2, ground := Ground.data }], guard := none } := by kernel_rfl
theorem o8a_4 : ops8a[4]? = some { dst := some 77, op := Op.move (Operand.tmp 4), type := 25, pos := "laws.go:1235", after := #[], guard := none } := by kernel_rfl
theorem o8a_5 : ops8a[5]? = some { dst := some 78, op := Op.move (Operand.tmp 11), type := 3, pos := "laws.go:1235", after := #[], guard := none } := by kernel_rfl
theorem o8a_6 : ops8a[6]? = some { dst := some 79, op := Op.indexAddr 25 (Operand.tmp 77) (Operand.tmp 78), type := 0, pos := "laws.go:1235", after := #[{ on := 4, ground := Ground.data }, { on := 5, ground := Ground.data }], guard := none } := by kernel_rfl
theorem o8a_7 : ops8a[7]? = some { dst := some 80, op := Op.fieldAddr 41 (Operand.tmp 79) 1, type := 0, pos := "laws.go:1235", after := #[{ on := 6, ground := Ground.data }], guard := none } := by kernel_rfl
theorem o8a_8 : ops8a[8]? = some { dst := some 81, op := Op.load 3 (Operand.tmp 80), type := 3, pos := "laws.go:1235", after := #[{ on := 7, ground := Ground.data }], guard := none } := by kernel_rfl
theorem o8a_9 : ops8a[9]? = some { dst := some 82, op := Op.call { callee := Callee.value (Operand.func 16), args := #[Operand.tmp 73, Operand.tmp 76, Operand.tmp 81], argTypes := #[3, 25, 3] }, type := 32, pos := "laws.go:1235", after := #[{ on := 0, ground := Ground.data }, { on := 3, ground := Ground.data }, { on := 8, ground := Ground.data }], guard := none } := by kernel_rfl
theorem o8a_10 : ops8a[10]? = some { dst := some 12, op := Op.assign (Operand.tmp 82), type := 32, pos := "laws.go:1235", after := #[{ on := 9, ground := Ground.data }, { on := 9, ground := Ground.chain }, { on := 0, ground := Ground.phase }, { on := 1, ground := Ground.phase }, { on := 2, ground := Ground.phase }, { on := 3, ground := Ground.phase }, { on := 4, ground := Ground.phase }, { on := 5, ground := Ground.phase }, { on := 6, ground := Ground.phase }, { on := 7, ground := Ground.phase }, { on := 8, ground := Ground.phase }, { on := 9, ground := Ground.phase }], guard := none } := by kernel_rfl
theorem size8a : ops8a.size = 11 := by kernel_rfl
theorem apart8a : ApartB ops8a = true := by kernel_rfl
def F8a (g : Int) (ad : Addr) (n c i : Nat) (gu : Int) (Au : Option Addr) (lu cu : Nat) (j : Nat) : Value := #[.int .i64 g, .slice (some ad) n c, .int .i64 i, .slice (some ad) i c, .slice (some ad) n c, .int .i64 i, .pointer (some (ad.add (i * 3))), .pointer (some ⟨(ad.add (i * 3)).block, (ad.add (i * 3)).off + 1, none⟩), .int .i64 gu, .slice Au lu cu, .slice Au lu cu].getD j undef
set_option maxRecDepth 100000 in
set_option maxHeartbeats 4000000 in
theorem quiet8a {v : World} {T0 : Array Value} {g : Int} {ad : Addr} {n c i : Nat} {gu : Int} {Au : Option Addr} {lu cu : Nat} (cg : v.cell? ⟨(ad.add (i * 3)).block, (ad.add (i * 3)).off + 1, none⟩ = some (.int .i64 gu)) (hin : i < n) (hnc : n ≤ c) (hc5 : c ≤ 9223372036854775807) (hsz : T0.size = 160) (h3 : T0.getD 3 undef = .int .i64 g) (h4 : T0.getD 4 undef = .slice (some ad) n c) (h11 : T0.getD 11 undef = .int .i64 i) (j : Nat) (hj : j = 0 ∨ j = 1 ∨ j = 2 ∨ j = 3 ∨ j = 4 ∨ j = 5 ∨ j = 6 ∨ j = 7 ∨ j = 8 ∨ j = 10) : QuietAt Try.prog Sf v ops8a (F8a g ad n c i gu Au lu cu) T0 j := by
 have hA := apart8a
 rcases hj with rfl | rfl | rfl | rfl | rfl | rfl | rfl | rfl | rfl | rfl
 ·refine quiet_of o8a_0 (by kernel_rfl) rfl [] (by kernel_rfl) fun d hd v₁ hx => ?_
  have e3 := (fill_old (ops := ops8a) (F := (F8a g ad n c i gu Au lu cu)) (T0 := T0) (s := 3) (by kernel_rfl) d []).trans h3
  unfold execOp
  simp only [e3]
  first | (simp only [F8a]; go_simp <;> rfl) | (simp only [F8a]; rfl)
 ·refine quiet_of o8a_1 (by kernel_rfl) rfl [] (by kernel_rfl) fun d hd v₁ hx => ?_
  have e4 := (fill_old (ops := ops8a) (F := (F8a g ad n c i gu Au lu cu)) (T0 := T0) (s := 4) (by kernel_rfl) d []).trans h4
  unfold execOp
  simp only [e4]
  first | (simp only [F8a]; go_simp <;> rfl) | (simp only [F8a]; rfl)
 ·refine quiet_of o8a_2 (by kernel_rfl) rfl [] (by kernel_rfl) fun d hd v₁ hx => ?_
  have e11 := (fill_old (ops := ops8a) (F := (F8a g ad n c i gu Au lu cu)) (T0 := T0) (s := 11) (by kernel_rfl) d []).trans h11
  unfold execOp
  simp only [e11]
  first | (simp only [F8a]; go_simp <;> rfl) | (simp only [F8a]; rfl)
 ·refine quiet_of o8a_3 (by kernel_rfl) rfl [1, 2] (by kernel_rfl) fun d hd v₁ hx => ?_
  have e74 := fill_ev (F := (F8a g ad n c i gu Au lu cu)) (T0 := T0) hA (i := 1) (s := 74) (by kernel_rfl) (by rw [hsz]; decide) (hd 1 (by simp)) []
  have e75 := fill_ev (F := (F8a g ad n c i gu Au lu cu)) (T0 := T0) hA (i := 2) (s := 75) (by kernel_rfl) (by rw [hsz]; decide) (hd 2 (by simp)) []
  have b1 : (i : Int) ≤ (c : Int) := by omega
  have b2 : ¬ c = 0 := by omega
  unfold execOp
  simp only [e74, e75]
  simp only [Option.map_some, Option.map_none, e75]; (first | (simp only [F8a]; go_simp <;> rfl) | (simp only [F8a]; go_simp))
 ·refine quiet_of o8a_4 (by kernel_rfl) rfl [] (by kernel_rfl) fun d hd v₁ hx => ?_
  have e4 := (fill_old (ops := ops8a) (F := (F8a g ad n c i gu Au lu cu)) (T0 := T0) (s := 4) (by kernel_rfl) d []).trans h4
  unfold execOp
  simp only [e4]
  first | (simp only [F8a]; go_simp <;> rfl) | (simp only [F8a]; rfl)
 ·refine quiet_of o8a_5 (by kernel_rfl) rfl [] (by kernel_rfl) fun d hd v₁ hx => ?_
  have e11 := (fill_old (ops := ops8a) (F := (F8a g ad n c i gu Au lu cu)) (T0 := T0) (s := 11) (by kernel_rfl) d []).trans h11
  unfold execOp
  simp only [e11]
  first | (simp only [F8a]; go_simp <;> rfl) | (simp only [F8a]; rfl)
 ·refine quiet_of o8a_6 (by kernel_rfl) rfl [4, 5] (by kernel_rfl) fun d hd v₁ hx => ?_
  have e77 := fill_ev (F := (F8a g ad n c i gu Au lu cu)) (T0 := T0) hA (i := 4) (s := 77) (by kernel_rfl) (by rw [hsz]; decide) (hd 4 (by simp)) []
  have e78 := fill_ev (F := (F8a g ad n c i gu Au lu cu)) (T0 := T0) hA (i := 5) (s := 78) (by kernel_rfl) (by rw [hsz]; decide) (hd 5 (by simp)) []
  have b1 : (i : Int) < (n : Int) := by omega
  unfold execOp
  simp only [e77, e78]
  first | (simp only [F8a]; go_simp <;> rfl) | (simp only [F8a]; rfl)
 ·refine quiet_of o8a_7 (by kernel_rfl) rfl [6] (by kernel_rfl) fun d hd v₁ hx => ?_
  have e79 := fill_ev (F := (F8a g ad n c i gu Au lu cu)) (T0 := T0) hA (i := 6) (s := 79) (by kernel_rfl) (by rw [hsz]; decide) (hd 6 (by simp)) []
  unfold execOp
  simp only [e79]
  first | (simp only [F8a]; go_simp <;> rfl) | (simp only [F8a]; rfl)
 ·refine quiet_of o8a_8 (by kernel_rfl) rfl [7] (by kernel_rfl) fun d hd v₁ hx => ?_
  have e80 := fill_ev (F := (F8a g ad n c i gu Au lu cu)) (T0 := T0) hA (i := 7) (s := 80) (by kernel_rfl) (by rw [hsz]; decide) (hd 7 (by simp)) []
  have hc0 := cell_up hx cg
  unfold execOp
  simp only [e80]
  first | (simp only [F8a]; go_simp <;> rfl) | (simp only [F8a]; rfl)
 ·refine quiet_of o8a_10 (by kernel_rfl) rfl [9] (by kernel_rfl) fun d hd v₁ hx => ?_
  have e82 := fill_ev (F := (F8a g ad n c i gu Au lu cu)) (T0 := T0) hA (i := 9) (s := 82) (by kernel_rfl) (by rw [hsz]; decide) (hd 9 (by simp)) []
  unfold execOp
  simp only [e82]
  first | (simp only [F8a]; go_simp <;> rfl) | (simp only [F8a]; rfl)
end Go.Proofs.Ythmgpkcijolljaa
/-
  The law FnHeardBy, walked beside leavers: its loop.
-/
namespace Go.Proofs.Ythmgpkcijolljaa
open Go.Conc Go.RowKit Go.Conc.Lib Go.ConcR.Gen
set_option linter.unusedSimpArgs false
set_option linter.unusedVariables false
abbrev O8_11 : Array Oper := #[{ dst := some 61, op := Op.move (Operand.tmp 11), type := 3, pos := "laws.go:1231", after := #[], guard := none }, { dst := some 62, op := Op.move (Operand.tmp 4), type := 25, pos := "laws.go:1231", after := #[], guard := none }, { dst := some 63, op := Op.call { callee := Callee.builtin Builtin.len, args := #[Operand.tmp 62], argTypes := #[25] }, type := 3, pos := "laws.go:1231", after := #[{ on := 1, ground := Ground.data }], guard := none }, { dst := some 64, op := Op.binOp BinOp.lss 3 (Operand.tmp 61) (Operand.tmp 63) 3, type := 4, pos := "laws.go:1231", after := #[{ on := 0, ground := Ground.data }, { on := 2, ground := Ground.data }], guard := none }]
abbrev O8_12 : Array Oper := #[{ dst := some 65, op := Op.move (Operand.tmp 11), type := 3, pos := "laws.go:1231", after := #[], guard := none }, { dst := some 66, op := Op.binOp BinOp.add 3 (Operand.tmp 65) (Operand.const (Value.int IntKind.i64 1)) 3, type := 3, pos := "laws.go:1231", after := #[{ on := 0, ground := Ground.data }], guard := none }, { dst := some 11, op := Op.assign (Operand.tmp 66), type := 3, pos := "laws.go:1231", after := #[{ on := 1, ground := Ground.data }, { on := 0, ground := Ground.phase }, { on := 1, ground := Ground.phase }], guard := none }]
abbrev O8_13 : Array Oper := #[{ dst := some 67, op := Op.move (Operand.tmp 4), type := 25, pos := "laws.go:1232", after := #[], guard := none }, { dst := some 68, op := Op.move (Operand.tmp 11), type := 3, pos := "laws.go:1232", after := #[], guard := none }, { dst := some 69, op := Op.indexAddr 25 (Operand.tmp 67) (Operand.tmp 68), type := 0, pos := "laws.go:1232", after := #[{ on := 0, ground := Ground.data }, { on := 1, ground := Ground.data }], guard := none }, { dst := some 70, op := Op.fieldAddr 41 (Operand.tmp 69) 0, type := 0, pos := "laws.go:1232", after := #[{ on := 2, ground := Ground.data }], guard := none }, { dst := some 71, op := Op.load 9 (Operand.tmp 70), type := 9, pos := "laws.go:1232", after := #[{ on := 3, ground := Ground.data }], guard := none }, { dst := some 72, op := Op.binOp BinOp.neq 9 (Operand.tmp 71) (Operand.const (Value.string { data := #[115, 97, 121] })) 9, type := 4, pos := "laws.go:1232", after := #[{ on := 4, ground := Ground.data }], guard := none }]
abbrev O8_29 : Array Oper := #[{ dst := some 151, op := Op.move (Operand.tmp 3), type := 3, pos := "laws.go:1252", after := #[], guard := none }, { dst := some 152, op := Op.move (Operand.tmp 4), type := 25, pos := "laws.go:1252", after := #[], guard := none }, { dst := some 153, op := Op.call { callee := Callee.value (Operand.func 20), args := #[Operand.tmp 151, Operand.tmp 152], argTypes := #[3, 25] }, type := 38, pos := "laws.go:1252", after := #[{ on := 0, ground := Ground.data }, { on := 1, ground := Ground.data }], guard := none }, { dst := some 150, op := Op.move (Operand.tmp 153), type := 38, pos := "laws.go:1252", after := #[{ on := 2, ground := Ground.data }], guard := none }, { dst := some 154, op := Op.extract (Operand.tmp 150) 0, type := 32, pos := "laws.go:1252", after := #[{ on := 3, ground := Ground.data }], guard := none }, { dst := some 155, op := Op.extract (Operand.tmp 150) 1, type := 4, pos := "laws.go:1252", after := #[{ on := 3, ground := Ground.data }, { on := 6, ground := Ground.gcOnly Departure.lateStores }], guard := none }, { dst := some 16, op := Op.assign (Operand.tmp 154), type := 32, pos := "laws.go:1252", after := #[{ on := 4, ground := Ground.data }, { on := 2, ground := Ground.chain }, { on := 0, ground := Ground.phase }, { on := 1, ground := Ground.phase }, { on := 2, ground := Ground.phase }, { on := 3, ground := Ground.phase }, { on := 4, ground := Ground.phase }, { on := 5, ground := Ground.textOnly Departure.lateStores }], guard := none }, { dst := some 17, op := Op.assign (Operand.tmp 155), type := 4, pos := "laws.go:1252", after := #[{ on := 5, ground := Ground.data }, { on := 6, ground := Ground.chain }, { on := 0, ground := Ground.phase }, { on := 1, ground := Ground.phase }, { on := 2, ground := Ground.phase }, { on := 3, ground := Ground.phase }, { on := 4, ground := Ground.phase }, { on := 5, ground := Ground.phase }, { on := 6, ground := Ground.phase }], guard := none }]
abbrev O8_30 : Array Oper := #[{ dst := some 156, op := Op.move (Operand.tmp 16), type := 32, pos := "laws.go:1253", after := #[], guard := none }, { dst := some 157, op := Op.call { callee := Callee.builtin Builtin.len, args := #[Operand.tmp 156], argTypes := #[32] }, type := 3, pos := "laws.go:1253", after := #[{ on := 0, ground := Ground.data }], guard := none }, { dst := some 158, op := Op.move (Operand.tmp 10), type := 3, pos := "laws.go:1253", after := #[], guard := none }, { dst := some 159, op := Op.binOp BinOp.eql 3 (Operand.tmp 157) (Operand.tmp 158) 3, type := 4, pos := "laws.go:1253", after := #[{ on := 1, ground := Ground.data }, { on := 2, ground := Ground.data }], guard := none }, { dst := some 2, op := Op.assign (Operand.tmp 159), type := 4, pos := "laws.go:1253", after := #[{ on := 3, ground := Ground.data }, { on := 0, ground := Ground.phase }, { on := 1, ground := Ground.phase }, { on := 2, ground := Ground.phase }, { on := 3, ground := Ground.phase }], guard := none }]
abbrev BHc : Code := (((Code.region 15 #[{ dst := some 83, op := Op.move (Operand.tmp 12), type := 32, pos := "laws.go:1236", after := #[], guard := none }, { dst := some 84, op := Op.call { callee := Callee.builtin Builtin.len, args := #[Operand.tmp 83], argTypes := #[32] }, type := 3, pos := "laws.go:1236", after := #[{ on := 0, ground := Ground.data }], guard := none }, { dst := some 85, op := Op.binOp BinOp.eql 3 (Operand.tmp 84) (Operand.const (Value.int IntKind.i64 0)) 3, type := 4, pos := "laws.go:1236", after := #[{ on := 1, ground := Ground.data }], guard := none }] false).seq (Code.cond (Operand.tmp 85) (Code.region 16 #[{ dst := some 86, op := Op.move (Operand.tmp 10), type := 3, pos := "laws.go:1237", after := #[], guard := none }, { dst := some 87, op := Op.binOp BinOp.add 3 (Operand.tmp 86) (Operand.const (Value.int IntKind.i64 1)) 3, type := 3, pos := "laws.go:1237", after := #[{ on := 0, ground := Ground.data }], guard := none }, { dst := some 10, op := Op.assign (Operand.tmp 87), type := 3, pos := "laws.go:1237", after := #[{ on := 1, ground := Ground.data }, { on := 0, ground := Ground.phase }, { on := 1, ground := Ground.phase }], guard := none }] false) Code.skip)).seq ((Code.region 17 #[{ dst := some 13, op := Op.assign (Operand.const (Value.int IntKind.i64 0)), type := 3, pos := "laws.go:1239", after := #[], guard := none }] false).seq (Code.block 2 (((Code.region 18 #[{ dst := some 88, op := Op.move (Operand.tmp 13), type := 3, pos := "laws.go:1239", after := #[], guard := none }, { dst := some 89, op := Op.move (Operand.tmp 12), type := 32, pos := "laws.go:1239", after := #[], guard := none }, { dst := some 90, op := Op.call { callee := Callee.builtin Builtin.len, args := #[Operand.tmp 89], argTypes := #[32] }, type := 3, pos := "laws.go:1239", after := #[{ on := 1, ground := Ground.data }], guard := none }, { dst := some 91, op := Op.binOp BinOp.lss 3 (Operand.tmp 88) (Operand.tmp 90) 3, type := 4, pos := "laws.go:1239", after := #[{ on := 0, ground := Ground.data }, { on := 2, ground := Ground.data }], guard := none }] false).seq (Code.cond (Operand.tmp 91) Code.skip (Code.exit 2))).seq ((Code.block 3 ((Code.region 20 #[{ dst := some 94, op := Op.move (Operand.tmp 12), type := 32, pos := "laws.go:1240", after := #[], guard := none }, { dst := some 95, op := Op.move (Operand.tmp 13), type := 3, pos := "laws.go:1240", after := #[], guard := none }, { dst := some 96, op := Op.indexAddr 32 (Operand.tmp 94) (Operand.tmp 95), type := 0, pos := "laws.go:1240", after := #[{ on := 0, ground := Ground.data }, { on := 1, ground := Ground.data }], guard := none }, { dst := some 97, op := Op.load 3 (Operand.tmp 96), type := 3, pos := "laws.go:1240", after := #[{ on := 2, ground := Ground.data }], guard := none }, { dst := some 98, op := Op.binOp BinOp.sub 3 (Operand.tmp 97) (Operand.const (Value.int IntKind.i64 1)) 3, type := 3, pos := "laws.go:1240", after := #[{ on := 3, ground := Ground.data }], guard := none }, { dst := some 14, op := Op.assign (Operand.tmp 98), type := 3, pos := "laws.go:1240", after := #[{ on := 4, ground := Ground.data }, { on := 0, ground := Ground.phase }, { on := 1, ground := Ground.phase }, { on := 2, ground := Ground.phase }, { on := 3, ground := Ground.phase }, { on := 4, ground := Ground.phase }], guard := none }] false).seq (((Code.region 21 #[{ dst := some 99, op := Op.move (Operand.tmp 9), type := 32, pos := "laws.go:1241", after := #[], guard := none }, { dst := some 100, op := Op.move (Operand.tmp 14), type := 3, pos := "laws.go:1241", after := #[], guard := none }, { dst := some 101, op := Op.indexAddr 32 (Operand.tmp 99) (Operand.tmp 100), type := 0, pos := "laws.go:1241", after := #[{ on := 0, ground := Ground.data }, { on := 1, ground := Ground.data }], guard := none }, { dst := some 102, op := Op.load 3 (Operand.tmp 101), type := 3, pos := "laws.go:1241", after := #[{ on := 2, ground := Ground.data }], guard := none }, { dst := some 103, op := Op.move (Operand.tmp 5), type := 44, pos := "laws.go:1241", after := #[], guard := none }, { dst := some 104, op := Op.move (Operand.tmp 14), type := 3, pos := "laws.go:1241", after := #[], guard := none }, { dst := some 105, op := Op.indexAddr 44 (Operand.tmp 103) (Operand.tmp 104), type := 0, pos := "laws.go:1241", after := #[{ on := 4, ground := Ground.data }, { on := 5, ground := Ground.data }], guard := none }, { dst := some 106, op := Op.load 32 (Operand.tmp 105), type := 32, pos := "laws.go:1241", after := #[{ on := 6, ground := Ground.data }], guard := none }, { dst := some 107, op := Op.call { callee := Callee.builtin Builtin.len, args := #[Operand.tmp 106], argTypes := #[32] }, type := 3, pos := "laws.go:1241", after := #[{ on := 7, ground := Ground.data }], guard := none }, { dst := some 108, op := Op.binOp BinOp.geq 3 (Operand.tmp 102) (Operand.tmp 107) 3, type := 4, pos := "laws.go:1241", after := #[{ on := 3, ground := Ground.data }, { on := 8, ground := Ground.data }], guard := none }, { dst := some 109, op := Op.move (Operand.tmp 108), type := 4, pos := "laws.go:1241", after := #[{ on := 9, ground := Ground.data }], guard := none }, { dst := some 110, op := Op.move (Operand.tmp 5), type := 44, pos := "laws.go:1241", after := #[{ on := 10, ground := Ground.guard }], guard := some (10, false) }, { dst := some 111, op := Op.move (Operand.tmp 14), type := 3, pos := "laws.go:1241", after := #[{ on := 10, ground := Ground.guard }], guard := some (10, false) }, { dst := some 112, op := Op.indexAddr 44 (Operand.tmp 110) (Operand.tmp 111), type := 0, pos := "laws.go:1241", after := #[{ on := 11, ground := Ground.data }, { on := 12, ground := Ground.data }, { on := 10, ground := Ground.guard }], guard := some (10, false) }, { dst := some 113, op := Op.load 32 (Operand.tmp 112), type := 32, pos := "laws.go:1241", after := #[{ on := 13, ground := Ground.data }, { on := 10, ground := Ground.guard }], guard := some (10, false) }, { dst := some 114, op := Op.move (Operand.tmp 9), type := 32, pos := "laws.go:1241", after := #[{ on := 10, ground := Ground.guard }], guard := some (10, false) }, { dst := some 115, op := Op.move (Operand.tmp 14), type := 3, pos := "laws.go:1241", after := #[{ on := 10, ground := Ground.guard }], guard := some (10, false) }, { dst := some 116, op := Op.indexAddr 32 (Operand.tmp 114) (Operand.tmp 115), type := 0, pos := "laws.go:1241", after := #[{ on := 15, ground := Ground.data }, { on := 16, ground := Ground.data }, { on := 10, ground := Ground.guard }], guard := some (10, false) }, { dst := some 117, op := Op.load 3 (Operand.tmp 116), type := 3, pos := "laws.go:1241", after := #[{ on := 17, ground := Ground.data }, { on := 10, ground := Ground.guard }], guard := some (10, false) }, { dst := some 118, op := Op.indexAddr 32 (Operand.tmp 113) (Operand.tmp 117), type := 0, pos := "laws.go:1241", after := #[{ on := 14, ground := Ground.data }, { on := 18, ground := Ground.data }, { on := 10, ground := Ground.guard }], guard := some (10, false) }, { dst := some 119, op := Op.load 3 (Operand.tmp 118), type := 3, pos := "laws.go:1241", after := #[{ on := 19, ground := Ground.data }, { on := 10, ground := Ground.guard }], guard := some (10, false) }, { dst := some 120, op := Op.move (Operand.tmp 4), type := 25, pos := "laws.go:1241", after := #[{ on := 10, ground := Ground.guard }], guard := some (10, false) }, { dst := some 121, op := Op.move (Operand.tmp 11), type := 3, pos := "laws.go:1241", after := #[{ on := 10, ground := Ground.guard }], guard := some (10, false) }, { dst := some 122, op := Op.indexAddr 25 (Operand.tmp 120) (Operand.tmp 121), type := 0, pos := "laws.go:1241", after := #[{ on := 21, ground := Ground.data }, { on := 22, ground := Ground.data }, { on := 10, ground := Ground.guard }], guard := some (10, false) }, { dst := some 123, op := Op.fieldAddr 41 (Operand.tmp 122) 2, type := 0, pos := "laws.go:1241", after := #[{ on := 23, ground := Ground.data }, { on := 10, ground := Ground.guard }], guard := some (10, false) }, { dst := some 124, op := Op.load 3 (Operand.tmp 123), type := 3, pos := "laws.go:1241", after := #[{ on := 24, ground := Ground.data }, { on := 10, ground := Ground.guard }], guard := some (10, false) }, { dst := some 125, op := Op.binOp BinOp.neq 3 (Operand.tmp 119) (Operand.tmp 124) 3, type := 4, pos := "laws.go:1241", after := #[{ on := 20, ground := Ground.data }, { on := 25, ground := Ground.data }, { on := 10, ground := Ground.guard }], guard := some (10, false) }, { dst := some 126, op := Op.pick (Operand.tmp 109) (Operand.const (Value.bool true)) (Operand.tmp 125), type := 4, pos := "laws.go:1241", after := #[{ on := 10, ground := Ground.data }, { on := 26, ground := Ground.data }], guard := none }] true).seq (Code.cond (Operand.tmp 126) ((Code.region 22 #[{ dst := some 2, op := Op.assign (Operand.const (Value.bool false)), type := 4, pos := "laws.go:1242", after := #[], guard := none }] false).seq Code.ret) Code.skip)).seq (Code.region 23 #[{ dst := some 127, op := Op.move (Operand.tmp 9), type := 32, pos := "laws.go:1244", after := #[], guard := none }, { dst := some 128, op := Op.move (Operand.tmp 14), type := 3, pos := "laws.go:1244", after := #[], guard := none }, { dst := some 129, op := Op.move (Operand.tmp 9), type := 32, pos := "laws.go:1244", after := #[], guard := none }, { dst := some 130, op := Op.move (Operand.tmp 14), type := 3, pos := "laws.go:1244", after := #[], guard := none }, { dst := some 131, op := Op.indexAddr 32 (Operand.tmp 129) (Operand.tmp 130), type := 0, pos := "laws.go:1244", after := #[{ on := 2, ground := Ground.data }, { on := 3, ground := Ground.data }], guard := none }, { dst := some 132, op := Op.load 3 (Operand.tmp 131), type := 3, pos := "laws.go:1244", after := #[{ on := 4, ground := Ground.data }], guard := none }, { dst := some 133, op := Op.binOp BinOp.add 3 (Operand.tmp 132) (Operand.const (Value.int IntKind.i64 1)) 3, type := 3, pos := "laws.go:1244", after := #[{ on := 5, ground := Ground.data }], guard := none }, { dst := some 134, op := Op.indexAddr 32 (Operand.tmp 127) (Operand.tmp 128), type := 0, pos := "laws.go:1244", after := #[{ on := 0, ground := Ground.data }, { on := 1, ground := Ground.data }, { on := 0, ground := Ground.phase }, { on := 1, ground := Ground.phase }, { on := 2, ground := Ground.phase }, { on := 3, ground := Ground.phase }, { on := 4, ground := Ground.phase }, { on := 5, ground := Ground.phase }, { on := 6, ground := Ground.phase }], guard := none }, { dst := none, op := Op.store 3 (Operand.tmp 134) (Operand.tmp 133), type := 0, pos := "laws.go:1244", after := #[{ on := 7, ground := Ground.data }, { on := 6, ground := Ground.data }, { on := 0, ground := Ground.phase }, { on := 1, ground := Ground.phase }, { on := 2, ground := Ground.phase }, { on := 3, ground := Ground.phase }, { on := 4, ground := Ground.phase }, { on := 5, ground := Ground.phase }, { on := 6, ground := Ground.phase }], guard := none }] false)))).seq (Code.region 19 #[{ dst := some 92, op := Op.move (Operand.tmp 13), type := 3, pos := "laws.go:1239", after := #[], guard := none }, { dst := some 93, op := Op.binOp BinOp.add 3 (Operand.tmp 92) (Operand.const (Value.int IntKind.i64 1)) 3, type := 3, pos := "laws.go:1239", after := #[{ on := 0, ground := Ground.data }], guard := none }, { dst := some 13, op := Op.assign (Operand.tmp 93), type := 3, pos := "laws.go:1239", after := #[{ on := 1, ground := Ground.data }, { on := 0, ground := Ground.phase }, { on := 1, ground := Ground.phase }], guard := none }] false))).loop)))
abbrev X24 : Code := ((Code.region 24 #[{ dst := some 15, op := Op.assign (Operand.const (Value.int IntKind.i64 0)), type := 3, pos := "laws.go:1247", after := #[], guard := none }] false).seq (Code.block 4 (((Code.region 25 #[{ dst := some 135, op := Op.move (Operand.tmp 15), type := 3, pos := "laws.go:1247", after := #[], guard := none }, { dst := some 136, op := Op.move (Operand.tmp 3), type := 3, pos := "laws.go:1247", after := #[], guard := none }, { dst := some 137, op := Op.binOp BinOp.lss 3 (Operand.tmp 135) (Operand.tmp 136) 3, type := 4, pos := "laws.go:1247", after := #[{ on := 0, ground := Ground.data }, { on := 1, ground := Ground.data }], guard := none }] false).seq (Code.cond (Operand.tmp 137) Code.skip (Code.exit 4))).seq ((Code.block 5 ((Code.region 27 #[{ dst := some 140, op := Op.move (Operand.tmp 9), type := 32, pos := "laws.go:1248", after := #[], guard := none }, { dst := some 141, op := Op.move (Operand.tmp 15), type := 3, pos := "laws.go:1248", after := #[], guard := none }, { dst := some 142, op := Op.indexAddr 32 (Operand.tmp 140) (Operand.tmp 141), type := 0, pos := "laws.go:1248", after := #[{ on := 0, ground := Ground.data }, { on := 1, ground := Ground.data }], guard := none }, { dst := some 143, op := Op.load 3 (Operand.tmp 142), type := 3, pos := "laws.go:1248", after := #[{ on := 2, ground := Ground.data }], guard := none }, { dst := some 144, op := Op.move (Operand.tmp 5), type := 44, pos := "laws.go:1248", after := #[], guard := none }, { dst := some 145, op := Op.move (Operand.tmp 15), type := 3, pos := "laws.go:1248", after := #[], guard := none }, { dst := some 146, op := Op.indexAddr 44 (Operand.tmp 144) (Operand.tmp 145), type := 0, pos := "laws.go:1248", after := #[{ on := 4, ground := Ground.data }, { on := 5, ground := Ground.data }], guard := none }, { dst := some 147, op := Op.load 32 (Operand.tmp 146), type := 32, pos := "laws.go:1248", after := #[{ on := 6, ground := Ground.data }], guard := none }, { dst := some 148, op := Op.call { callee := Callee.builtin Builtin.len, args := #[Operand.tmp 147], argTypes := #[32] }, type := 3, pos := "laws.go:1248", after := #[{ on := 7, ground := Ground.data }], guard := none }, { dst := some 149, op := Op.binOp BinOp.neq 3 (Operand.tmp 143) (Operand.tmp 148) 3, type := 4, pos := "laws.go:1248", after := #[{ on := 3, ground := Ground.data }, { on := 8, ground := Ground.data }], guard := none }] true).seq (Code.cond (Operand.tmp 149) ((Code.region 28 #[{ dst := some 2, op := Op.assign (Operand.const (Value.bool false)), type := 4, pos := "laws.go:1249", after := #[], guard := none }] false).seq Code.ret) Code.skip))).seq (Code.region 26 #[{ dst := some 138, op := Op.move (Operand.tmp 15), type := 3, pos := "laws.go:1247", after := #[], guard := none }, { dst := some 139, op := Op.binOp BinOp.add 3 (Operand.tmp 138) (Operand.const (Value.int IntKind.i64 1)) 3, type := 3, pos := "laws.go:1247", after := #[{ on := 0, ground := Ground.data }], guard := none }, { dst := some 15, op := Op.assign (Operand.tmp 139), type := 3, pos := "laws.go:1247", after := #[{ on := 1, ground := Ground.data }, { on := 0, ground := Ground.phase }, { on := 1, ground := Ground.phase }], guard := none }] false))).loop))
theorem LH_eq : LH = .seq (.seq (.region 11 O8_11 false) (.cond (.tmp 64) .skip (.exit 0))) (.seq (.block 1 (.seq (.seq (.region 13 O8_13 false) (.cond (.tmp 72) (.exit 1) .skip)) (.seq (.region 14 ops8a true) BHc))) (.region 12 O8_12 false)) := by kernel_rfl
theorem EH_eq : EH = .seq X24 (.seq (.region 29 O8_29 false) (.seq (.region 30 O8_30 false) .ret)) := by kernel_rfl
theorem heard_get {g : Int} {l : List Dd} (h : meetB g l = true) {q : Nat} (hq : q < (heardL g l).length) : (heardL g l)[q] = fut on0 l (q + 1) := by simp only [heardL_yes h, List.getElem_map, List.getElem_range]
theorem heardL_n {g : Int} {l : List Dd} (h : meetB g l = true) : (heardL g l).length = g.toNat := by rw [heardL_yes h]; simp
set_option maxRecDepth 100000 in
set_option maxHeartbeats 4000000 in
theorem heard_next {g : Int} {A : Option Addr} {n c : Nat} {Ah : Option Addr} {mh ch gat na al k : Nat} {T : Array Value} {v : World} (hF : Flat Try.prog v) (hT : HdH g A n c Ah mh ch gat na al k T) (hk : k ≤ 1000)
  (h : ∀ T', HdH g A n c Ah mh ch gat na al (k + 1) T' → KA KL (G ((Conc.base 8).at ⟨T', []⟩ [.code LH, .inLoop LH, .inBlock 0, .code EH]) []) v) :
  KA KL (G ((Conc.base 8).at ⟨T, []⟩ [.code (.region 12 O8_12 false), .inLoop LH, .inBlock 0, .code EH]) []) v := by
 have hK := kl_ok
 obtain ⟨hz, t3, t4, t5, t9, t10, t11⟩ := hT
 obtain ⟨f, hf, hT⟩ := arrH hz
 rw [hf] at t3 t4 t5 t9 t10 t11
 subst hT
 rw [t3, t4, t5, t9, t10, t11]
 clear hz hf t3 t4 t5 t9 t10 t11
 have hi64 : IntKind.i64.wrap ((k : Int) + 1) = ((k + 1 : Nat) : Int) := by rw [IntKind.wrap_i64]; omega
 have h' := fun T' => h T'
 clear h
 refine kRegion hK hF ?_
 refine kOp closedS.bodies hK hF (val := .int .i64 k) (by k_ne) rfl rfl (by kernel_rfl) (fun v₁ hv => by go_simp <;> rfl) ?_
 walk_nrm
 refine kOp closedS.bodies hK hF (val := .int .i64 ((k + 1 : Nat) : Int)) (by k_ne) rfl rfl (by kernel_rfl) (fun v₁ hv => by go_simp; try simp [hi64]) ?_
 walk_nrm
 refine kOp closedS.bodies hK hF (val := .int .i64 ((k + 1 : Nat) : Int)) (by k_ne) rfl rfl (by kernel_rfl) (fun v₁ hv => by go_simp <;> rfl) ?_
 walk_nrm
 refine kRegEnd hK hF (kInLoop hK hF ?_)
 exact h' _ ⟨rfl, rfl, rfl, rfl, rfl, rfl, rfl⟩
set_option maxRecDepth 100000 in
set_option maxHeartbeats 16000000 in
/-- behind the company: each of it hears the word next -/
theorem heard_inner {g : Int} {ls : List Dd} {ad : Addr} {c : Nat} {Ah : Option Addr} {ch gat B al k : Nat} {M : List (List Int)} {Au : Option Addr} {cu : Nat} {L2 : List Int} {w : World} {T : Array Value} {ks : List Item} (hm : meetB g ls = true) (hM : M = heardL g ls) (hkl : k < ls.length) (hsay : isSay ls[k] = true) (hF : Flat Try.prog w)
  (hL2 : L2 = (co g.toNat (onAt ls k) ls[k].2.1.toNat).map fun (q : Nat) => (q : Int)) (hw3 : w.cell? ⟨(ad.add (k * 3)).block, (ad.add (k * 3)).off + 2, none⟩ = some (.int .i64 ls[k].2.2)) (hadB : ad.block < B)
  (hLR : LRd w B Ah M) (hO : w.ownsRow B 3 1 (.slice (some ⟨gat, 0, none⟩) g.toNat g.toNat) g.toNat (ints (atM g.toNat ls k))) (hU : w.ownsRow (gat + 1) 3 1 (.slice Au L2.length cu) L2.length (ints L2))
  (hT : HdH g (some ad) ls.length c Ah M.length ch gat g.toNat al k T) (h12 : T.getD 12 undef = .slice Au L2.length cu) (hal : al ≤ 1000)
  (h : ∀ (T' : Array Value) (w' : World), Flat Try.prog w' → w'.heap.size = w.heap.size → (∀ b, b ≠ gat → w'.heap[b]? = w.heap[b]?) → w'.ownsRow B 3 1 (.slice (some ⟨gat, 0, none⟩) g.toNat g.toNat) g.toNat (ints (atM g.toNat ls (k + 1))) →
   HdH g (some ad) ls.length c Ah M.length ch gat g.toNat (al + (if L2.length = 0 then 1 else 0)) k T' → KA KL (G ((Conc.base 8).at ⟨T', []⟩ ks) []) w') :
  KA KL (G ((Conc.base 8).at ⟨T, []⟩ (.code BHc :: ks)) []) w := by
 have hK := kl_ok
 obtain ⟨b1, b2, b3, b4⟩ := meetB_true hm
 obtain ⟨n, hn⟩ : ∃ n, n = g.toNat := ⟨_, rfl⟩
 have hMl : M.length = n := by rw [hM, heardL_n hm, hn]
 obtain ⟨C, hC⟩ : ∃ C, C = co g.toNat (onAt ls k) ls[k].2.1.toNat := ⟨_, rfl⟩
 have hCn : C.Nodup := by rw [hC]; exact (co_sorted _ _ _).imp (fun h => by omega)
 have hC5 : C.length ≤ 5 := by rw [hC]; have := co_lt (n := g.toNat) (on := onAt ls k) (g := ls[k].2.1.toNat); omega
 rw [← hC] at hL2
 have hl2 : L2.length = C.length := by rw [hL2, List.length_map]
 have hstep : ∀ j (hj : j < C.length), ∃ q a adr adh A1 c1, C[j] = q + 1 ∧ q < n ∧ a < (fut on0 ls (q + 1)).length ∧ (fut on0 ls (q + 1)).length ≤ 50 ∧ a = (futAt ls k (q + 1)).length ∧ Ah = some adh ∧ (adh.add q).block < B ∧ w.cell? (adh.add q) = some (.slice A1 (fut on0 ls (q + 1)).length c1) ∧ A1 = some adr ∧ (adr.add a).block < B ∧ w.cell? (adr.add a) = some (.int .i64 ls[k].2.2) := by
  intro j hj
  have hmem : C[j] ∈ co g.toNat (onAt ls k) ls[k].2.1.toNat := by rw [← hC]; exact List.getElem_mem hj
  have hcm := co_mem.1 hmem
  have hin : inCo (onAt ls k) ls[k].2.1.toNat C[j] = true := by unfold co at hmem; exact (List.mem_filter.1 hmem).2
  obtain ⟨f1, f2⟩ := fut_next hkl hsay hin
  obtain ⟨q, hq⟩ : ∃ q, q = C[j] - 1 := ⟨_, rfl⟩
  have hq1 : C[j] = q + 1 := by omega
  have hqM : q < M.length := by omega
  obtain ⟨adh, A1, c1, e1, e2, e3, e4⟩ := hLR q hqM
  have hMq : M[q] = fut on0 ls (q + 1) := by subst hM; exact heard_get hm hqM
  rw [hMq] at e3 e4
  rw [hq1] at f1 f2
  obtain ⟨adr, e5, e6, e7⟩ := e4.at_ f1
  have e8 : (fut on0 ls (q + 1))[(futAt ls k (q + 1)).length] = ls[k].2.2 := by
   rw [List.getElem?_eq_getElem f1] at f2
   exact Option.some.inj f2
  rw [e8] at e7
  exact ⟨q, _, adr, adh, A1, c1, hq1, by omega, f1, fut_le hm _, rfl, e1, by rw [block_of_add]; exact e2, e3, e5, by rw [block_of_add]; exact e6, e7⟩
 have hatl : (adl : Addr) → adl = ad → (ad.add (k * 3)).block < B := fun _ _ => by rw [block_of_add]; exact hadB
 have hBg := hO.lt gat rfl
 have hwbk : (ad.add (k * 3)).block ≠ gat := by have := hatl ad rfl; omega
 have hlen' := hl2
 have hmid0 : w.ownsRow B 3 1 (.slice (some ⟨gat, 0, none⟩) n n) n (ints (midL n ls k C 0)) := by rw [midL_zero, hn]; exact hO
 have hmidE := Lib.hid (show midL n ls k C C.length = atM n ls (k + 1) by rw [hC, hn]; exact midL_all hkl hsay)
 have hU' : ∀ wr : World, (∀ b, b ≠ gat → wr.heap[b]? = w.heap[b]?) → wr.ownsRow (gat + 1) 3 1 (.slice Au L2.length cu) L2.length (ints L2) := fun wr hk => own_to hU fun q hq => hk q (by have := (hU.lt q hq).1; omega)
 have hLget : ∀ j (hj : j < C.length) q, C[j] = q + 1 → L2[j]? = some ((q : Int) + 1) := fun j hj q hq => by
  rw [hL2, List.getElem?_map, List.getElem?_eq_getElem hj, hq]; simp
 have Hstep := Lib.hid (And.intro hstep (And.intro hU' (And.intro hLget (And.intro hCn hatl))))
 obtain ⟨word, hword⟩ : ∃ x, x = ls[k].2.2 := ⟨_, rfl⟩
 obtain ⟨hz, t3, t4, t5, t9, t10, t11⟩ := hT
 obtain ⟨f, hf, hT⟩ := arrH hz
 rw [hf] at t3 t4 t5 t9 t10 t11 h12
 subst hT
 rw [← hn] at t9 h
 rw [t3, t4, t5, t9, t10, t11, h12]
 have h' := Lib.hid (fun T' w' a b c d e => h T' w' a b c d e)
 have HM := Lib.hid hMl
 have hkA : (k : Int) < (ls.length : Int) := by omega
 rw [← hword] at hw3
 have Hword := Lib.hid hword
 have hn5 : n ≤ 5 := by omega
 have hL25 : L2.length ≤ 5 := by omega
 have Hl2 := Lib.hid hl2
 clear hz hf t3 t4 t5 t9 t10 t11 h12 h hstep hU' hLget hC hL2 hl2 hlen' hatl hword hO hU hLR hM hMl hm b3 b4 hsay hn b1 b2 hCn hC5
 refine kLift closedS hK hF (by kernel_rfl) (by k_ne) fun t => ?_
 generalize hQ : Behind _ _ _ _ _ = Q
 delta BHc
 have hw4 : (w.re t 0).cell? ⟨(ad.add (k * 3)).block, (ad.add (k * 3)).off + 2, none⟩ = some (.int .i64 word) := hw3
 have hmid1 : (w.re t 0).ownsRow B 3 1 (.slice (some ⟨gat, 0, none⟩) n n) n (ints (midL n ls k C 0)) := hmid0
 obtain ⟨wv, hwv⟩ : ∃ wv, wv = w.re t 0 := ⟨_, rfl⟩
 rw [← hwv] at hw4 hmid1 ⊢
 have HW := Lib.hid hwv
 have Hmid := Lib.hid hmid1
 clear hw3 hmid0 hmid1 hwv
 have inner : ∀ (al' : Nat), al' = al + (if L2.length = 0 then 1 else 0) → al' ≤ 1001 → True := fun _ _ _ => trivial
 clear inner
 by_cases hz0 : L2.length = 0
 ·have hzz : ((L2.length : Int) == 0) = true := by simp [hz0]
  have ha64 : wrap64 ((al : Int) + 1) = (al : Int) + 1 := by unfold wrap64; omega
  have hC0 : C.length = 0 := by have := Hl2.out; omega
  have hLi : (L2.length : Int) = 0 := by omega
  clear hw4
  go_wp2
  go_loopw [13] (fun iv wr => iv = .int .i64 0 ∧ wr = wv) (fun _ _ => 0)
  case atStart => exact ⟨rfl, rfl⟩
  case round =>
   obtain ⟨rfl, rfl⟩ := hrel
   have hnl : ¬ (0 : Int) < (L2.length : Int) := by omega
   go_wp2
   subst hQ
   refine fun hF3 _ => ?_
   rw [HW.out] at hF3 ⊢
   have hmE := hmidE.out
   rw [hC0] at hmE
   have hO3 := Hmid.out
   rw [hmE, HW.out] at hO3
   exact h'.out _ _ hF3 rfl (fun _ _ => rfl) hO3 ⟨rfl, rfl, rfl, rfl, rfl, by rw [if_pos hz0]; show Value.int .i64 _ = _; congr 1, rfl⟩
 ·have hzz : ((L2.length : Int) == 0) = false := by rw [beq_eq_false_iff_ne]; omega
  have hLi : ¬ (L2.length : Int) = 0 := by omega
  go_wp2
  go_loopw [13] (fun iv wr => ∃ j : Nat, j ≤ L2.length ∧ iv = .int .i64 j ∧ wr.ownsRow B 3 1 (.slice (some ⟨gat, 0, none⟩) n n) n (ints (midL n ls k C j)) ∧ wr.heap.size = wv.heap.size ∧ (∀ b, b ≠ gat → wr.heap[b]? = wv.heap[b]?)) (fun iv _ => L2.length - (intOf iv).toNat)
  case atStart => exact ⟨0, Nat.zero_le _, rfl, Hmid.out, rfl, fun _ _ => rfl⟩
  case round =>
   obtain ⟨j, hj1, rfl, hrow, hsz, hkp⟩ := hrel
   by_cases hlt : j < L2.length
   ·have hjC : j < C.length := by have := Hl2.out; omega
    obtain ⟨hstep, hU', hLget, hCn, hatl⟩ := Hstep.out
    obtain ⟨q, a, adr, adh, A1, c1, s1, s2, s3, s4, s5, rfl, s7, s8, rfl, s10, s11⟩ := hstep j hjC
    have hkw : ∀ b, b ≠ gat → wr.heap[b]? = w.heap[b]? := fun b hb => (hkp b hb).trans (by rw [HW.out]; rfl)
    have hUr := hU' wr hkw
    obtain ⟨adc, e1, _, e2⟩ := (RI.of_own hUr).at_ hlt
    have hLj : L2[j] = (q : Int) + 1 := by
     have := hLget j hjC q s1
     rw [List.getElem?_eq_getElem hlt] at this
     exact Option.some.inj this
    rw [hLj] at e2
    have d1 : wr.cell? (adh.add q) = some (.slice (some adr) (fut on0 ls (q + 1)).length c1) := (World.cell?_of_block (w := w) (hkw _ (by omega))).trans s8
    have d2 : wr.cell? (adr.add a) = some (.int .i64 word) := by rw [Hword.out]; exact (World.cell?_of_block (w := w) (hkw _ (by omega))).trans s11
    have d3 : wr.cell? ⟨(ad.add (k * 3)).block, (ad.add (k * 3)).off + 2, none⟩ = some (.int .i64 word) := (World.cell?_of_block (w := wv) (a := ⟨(ad.add (k * 3)).block, (ad.add (k * 3)).off + 2, none⟩) (hkp _ hwbk)).trans hw4
    have d4 : wr.cell? ⟨gat, q, none⟩ = some (.int .i64 a) := by
     rw [hrow.cellAt q (by omega)]
     have := midL_get (n := n) (ls := ls) (i := k) hCn hjC (by omega) (by omega)
     rw [s1] at this
     have e9 : q + 1 - 1 = q := by omega
     rw [e9] at this
     simp [ints, List.getElem?_map, this, s5]
    have d5 := hrow.frozenAt q
    have hset := (hrow.stored q (.int .i64 ((a : Int) + 1))).1
    have hmset := midL_set (n := n) (ls := ls) (i := k) hCn hjC (by omega) (by omega)
    rw [s1] at hmset
    have e9 : q + 1 - 1 = q := by omega
    rw [e9, ← s5] at hmset
    rw [ints_set] at hset
    have hset2 : (wr.setCell ⟨gat, q, none⟩ (.int .i64 ((a : Int) + 1))).ownsRow B 3 1 (.slice (some ⟨gat, 0, none⟩) n n) n (ints (midL n ls k C (j + 1))) := by
     rw [← hmset]
     have e10 : (((a + 1 : Nat) : Nat) : Int) = (a : Int) + 1 := by omega
     rw [e10]
     exact hset
    have HS := Lib.hid (And.intro hset2 (And.intro hsz hkp))
    obtain ⟨ml, hml⟩ : ∃ ml, ml = (fut on0 ls (q + 1)).length := ⟨_, rfl⟩
    rw [← hml] at d1 s3 s4
    have Hml := Lib.hid hml
    obtain rfl : Au = some adc := e1
    have hqM : (q : Int) < (M.length : Int) := by have := HM.out; omega
    have hqn : (q : Int) < (n : Int) := Int.ofNat_lt.2 s2
    have haml : (a : Int) < (ml : Int) := Int.ofNat_lt.2 s3
    clear hLj hset hmset hset2 hrow hsz hkp hkw hUr hstep hU' hLget hCn hatl s1 s5 s7 s8 s10 s11 hml hw4 e9
    have hww : (word != word) = false := by simp
    have hge : decide ((ml : Int) ≤ (a : Int)) = false := by simp; omega
    have hge2 : decide (ml ≤ a) = false := by simp; omega
    have hge3 : ¬ (ml : Int) ≤ (a : Int) := by omega
    have hj5 : j ≤ 5 := by omega
    have ha64 : wrap64 ((a : Int) + 1) = (a : Int) + 1 := by unfold wrap64; omega
    have hq64 : wrap64 ((q : Int) + 1 - 1) = (q : Int) := by clear ha64; unfold wrap64; omega
    go_wp2
    go_quiet (fail)
    go_wp2
    go_roundw
    case rel =>
     obtain ⟨p1, p2, p3⟩ := HS.out
     refine ⟨j + 1, by omega, by go_num, p1, by rw [← p2]; simp [World.setCell], fun b hb => (Below.heap_setCell _ _ _ _ hb).trans (p3 b hb)⟩
    case measure => simp [intOf]; omega
   ·obtain rfl : j = L2.length := by omega
    have hnl : ¬ (L2.length : Int) < (L2.length : Int) := by omega
    have HO := Lib.hid (And.intro hrow (And.intro hsz hkp))
    clear hrow hsz hkp hw4
    go_wp2
    subst hQ
    refine fun hF3 _ => ?_
    obtain ⟨p1, p2, p3⟩ := HO.out
    have hmE := hmidE.out
    rw [← Hl2.out] at hmE
    rw [hmE] at p1
    exact h'.out _ _ hF3 (p2.trans (by rw [HW.out]; rfl)) (fun b hb => (p3 b hb).trans (by rw [HW.out]; rfl)) p1 ⟨rfl, rfl, rfl, rfl, rfl, by rw [if_neg hz0]; rfl, rfl⟩
end Go.Proofs.Ythmgpkcijolljaa
/-
  The law FnHeardBy, walked beside leavers: its loop, whole.
-/
namespace Go.Proofs.Ythmgpkcijolljaa
open Go.Conc Go.RowKit Go.Conc.Lib Go.ConcR.Gen
set_option linter.unusedSimpArgs false
set_option linter.unusedVariables false
theorem alone_step {n k : Nat} {ls : List Dd} (h : k < ls.length) (hs : isSay ls[k] = true) {L2 : List Int} (hl : L2.length = (co n (onAt ls k) ls[k].2.1.toNat).length) : (aloneAt n ls k).length + (if L2.length = 0 then 1 else 0) = (aloneAt n ls (k + 1)).length := by
 rw [aloneAt_len_succ h, hs, hl]
 by_cases e : co n (onAt ls k) ls[k].2.1.toNat = []
 ·rw [e]; simp
 ·have h0 : ¬ (co n (onAt ls k) ls[k].2.1.toNat).length = 0 := fun h0 => e (List.length_eq_zero_iff.1 h0)
  rw [if_neg h0]; simp [e]
theorem alone_not {n k : Nat} {ls : List Dd} (h : k < ls.length) (hs : isSay ls[k] = false) : (aloneAt n ls (k + 1)).length = (aloneAt n ls k).length := by
 rw [aloneAt_len_succ h, hs]; simp
set_option maxRecDepth 100000 in
set_option maxHeartbeats 16000000 in
theorem heard_loop {g : Int} {ls : List Dd} {A : Option Addr} {c : Nat} {Ah : Option Addr} {ch gat B : Nat} {M : List (List Int)} (hm : meetB g ls = true) (hls : ls.length ≤ 13) (hc : ls.length ≤ c) (hcm : c ≤ maxLen) (hM : M = heardL g ls)
  (htail : ∀ (T : Array Value) (v : World), Flat Try.prog v → RD v B A ls → LRd v B Ah M → v.ownsRow B 3 1 (.slice (some ⟨gat, 0, none⟩) g.toNat g.toNat) g.toNat (ints (atM g.toNat ls ls.length)) → HdH g A ls.length c Ah M.length ch gat g.toNat (aloneAt g.toNat ls ls.length).length ls.length T →
   KA KL (G ((Conc.base 8).at ⟨T, []⟩ [.code EH]) []) v) :
  ∀ m k, k + m = ls.length → ∀ (T : Array Value) (v : World), Flat Try.prog v → RD v B A ls → LRd v B Ah M → v.ownsRow B 3 1 (.slice (some ⟨gat, 0, none⟩) g.toNat g.toNat) g.toNat (ints (atM g.toNat ls k)) → HdH g A ls.length c Ah M.length ch gat g.toNat (aloneAt g.toNat ls k).length k T →
   KA KL (G ((Conc.base 8).at ⟨T, []⟩ [.code LH, .inLoop LH, .inBlock 0, .code EH]) []) v := by
 have hK := kl_ok
 intro m
 induction m with
 | zero =>
  intro k hk T v hF hRD hLR hO hT
  obtain rfl : k = ls.length := by omega
  obtain ⟨al, hal⟩ : ∃ al, al = (aloneAt g.toNat ls ls.length).length := ⟨_, rfl⟩
  rw [← hal] at hT
  have htl := fun T' hT' => htail T' v hF hRD hLR hO hT'
  rw [← hal] at htl
  have Ht := Lib.hid htl
  obtain ⟨hz, t3, t4, t5, t9, t10, t11⟩ := hT
  obtain ⟨f, hf, hT⟩ := arrH hz
  rw [hf] at t3 t4 t5 t9 t10 t11
  subst hT
  rw [t3, t4, t5, t9, t10, t11]
  have hlt : ¬ (ls.length : Int) < (ls.length : Int) := by omega
  clear hz hf t3 t4 t5 t9 t10 t11 htl htail hRD hLR hO hal
  refine kCode LH_eq (kSeq hK hF (kSeq hK hF (kRegion hK hF ?_)))
  refine kOp closedS.bodies hK hF (val := .int .i64 ls.length) (by k_ne) rfl rfl (by kernel_rfl) (fun v₁ hv => by go_simp <;> rfl) ?_
  walk_nrm
  refine kOp closedS.bodies hK hF (val := .slice A ls.length c) (by k_ne) rfl rfl (by kernel_rfl) (fun v₁ hv => by go_simp <;> rfl) ?_
  walk_nrm
  refine kOp closedS.bodies hK hF (val := .int .i64 ls.length) (by k_ne) rfl rfl (by kernel_rfl) (fun v₁ hv => by go_simp <;> rfl) ?_
  walk_nrm
  refine kOp closedS.bodies hK hF (val := .bool false) (by k_ne) rfl rfl (by kernel_rfl) (fun v₁ hv => by go_simp <;> first | rfl | simp [hlt]) ?_
  walk_nrm
  refine kRegEnd hK hF (kCond hK hF (t := false) (by rfl) ?_)
  simp only [Bool.false_eq_true, if_false]
  refine kExit hK hF (k' := _) (by rfl) ?_
  exact Ht.out _ ⟨rfl, rfl, rfl, rfl, rfl, rfl, rfl⟩
 | succ m ih =>
  intro k hk T v hF hRD hLR hO hT
  have hkl : k < ls.length := by omega
  have ih' := fun T' v' hF' hR' hL' hO' hT' => ih (k + 1) (by omega) T' v' hF' hR' hL' hO' hT'
  have Hih := Lib.hid ih'
  clear ih ih' htail
  obtain ⟨ad, rfl, hb, c1, c2, c3⟩ := hRD.at_ hkl
  have hBg := hO.lt gat rfl
  have hBs : B ≤ v.heap.size := by omega
  obtain ⟨s, hs0⟩ : ∃ s, s = ls[k].1 := ⟨_, rfl⟩
  obtain ⟨z, hz0⟩ : ∃ z, z = ls[k].2.1 := ⟨_, rfl⟩
  have hco : coL g (ls.take k) z = (co g.toNat (onAt ls k) ls[k].2.1.toNat).map fun (q : Nat) => (q : Int) := by rw [hz0]; exact coL_at hm hkl
  have hsay : isSay ls[k] = (s.toList == [115, 97, 121]) := by rw [hs0]; rfl
  have hcol := co_lt (n := g.toNat) (on := onAt ls k) (g := ls[k].2.1.toNat)
  have hg5 := (meetB_true hm).2.1
  have hal13 : (aloneAt g.toNat ls k).length ≤ 13 := by
   have h1 := alone_says g.toNat ls k
   have h2 := saysTo_len ls k
   omega
  rw [← hs0] at c1
  rw [← hz0] at c2
  have HC := Lib.hid (And.intro hco (And.intro hsay (And.intro hcol c3)))
  have HO := Lib.hid (And.intro hRD (And.intro hLR hO))
  obtain ⟨al, hal⟩ : ∃ al, al = (aloneAt g.toNat ls k).length := ⟨_, rfl⟩
  have Hal := Lib.hid hal
  rw [← hal] at hT hal13
  obtain ⟨hz, t3, t4, t5, t9, t10, t11⟩ := hT
  obtain ⟨f, hf, hT⟩ := arrH hz
  rw [hf] at t3 t4 t5 t9 t10 t11
  subst hT
  rw [t3, t4, t5, t9, t10, t11]
  have hlt : (k : Int) < (ls.length : Int) := by omega
  clear hz hf t3 t4 t5 t9 t10 t11 hal hco hsay hcol c3 hs0 hz0 hRD hLR hO
  refine kCode LH_eq (kSeq hK hF (kSeq hK hF (kRegion hK hF ?_)))
  refine kOp closedS.bodies hK hF (val := .int .i64 k) (by k_ne) rfl rfl (by kernel_rfl) (fun v₁ hv => by go_simp <;> rfl) ?_
  walk_nrm
  refine kOp closedS.bodies hK hF (val := .slice (some ad) ls.length c) (by k_ne) rfl rfl (by kernel_rfl) (fun v₁ hv => by go_simp <;> rfl) ?_
  walk_nrm
  refine kOp closedS.bodies hK hF (val := .int .i64 ls.length) (by k_ne) rfl rfl (by kernel_rfl) (fun v₁ hv => by go_simp <;> rfl) ?_
  walk_nrm
  refine kOp closedS.bodies hK hF (val := .bool true) (by k_ne) rfl rfl (by kernel_rfl) (fun v₁ hv => by go_simp <;> first | rfl | simp [hlt]) ?_
  walk_nrm
  refine kRegEnd hK hF (kCond hK hF (t := true) (by rfl) ?_)
  simp only [if_true]
  refine kSkip hK hF (kSeq hK hF (kBlock hK hF (kSeq hK hF (kSeq hK hF (kLift closedS hK hF (by kernel_rfl) (by k_ne) fun t => ?_)))))
  generalize hQ : Behind _ _ _ _ _ = Q
  have d1 : (v.re t 0).cell? (ad.add (k * 3)) = some (.string s) := c1
  delta O8_13
  go_wp2
  subst hQ
  refine fun hF2 _ => KA.re ?_
  clear d1
  have hF2 := hF
  refine kCond hK hF (t := !(s.toList == [115, 97, 121])) (by rfl) ?_
  cases hs : s.toList == [115, 97, 121]
  ·simp only [Bool.not_false, if_true]
   obtain ⟨_, hsay, _⟩ := HC.out
   rw [hs] at hsay
   obtain ⟨hRD, hLR, hO⟩ := HO.out
   refine kExit hK hF (k' := _) (by rfl) ?_
   refine heard_next hF (g := g) (A := some ad) (n := ls.length) (c := c) (Ah := Ah) (mh := M.length) (ch := ch) (gat := gat) (na := g.toNat) (al := al) (k := k) ⟨rfl, rfl, rfl, rfl, rfl, rfl, rfl⟩ (by omega) fun T' hT' => ?_
   exact Hih.out T' v hF hRD hLR (by rw [atM_not hkl hsay]; exact hO) (by rw [alone_not hkl hsay, ← Hal.out]; exact hT')
  ·simp only [Bool.not_true, Bool.false_eq_true, if_false]
   refine kSkip hK hF (kSeq hK hF ?_)
   have Hs := Lib.hid hs
   clear hs
   refine kT fun T0 hT0 => ?_
   have z0 : T0.size = 160 := by rw [hT0]; rfl
   have g3 : T0.getD 3 undef = .int .i64 g := by rw [hT0]; rfl
   have g4 : T0.getD 4 undef = .slice (some ad) ls.length c := by rw [hT0]; rfl
   have g5 : T0.getD 5 undef = .slice Ah M.length ch := by rw [hT0]; rfl
   have g9 : T0.getD 9 undef = .slice (some ⟨gat, 0, none⟩) g.toNat g.toNat := by rw [hT0]; rfl
   have g10 : T0.getD 10 undef = .int .i64 al := by rw [hT0]; rfl
   have g11 : T0.getD 11 undef = .int .i64 k := by rw [hT0]; rfl
   clear hT0
   have hc63 : c ≤ 9223372036854775807 := by unfold maxLen at hcm; omega
   have hlk : (ls.take k).length = k := by rw [List.length_take]; omega
   refine kOne (F := (F8a g ad ls.length c k z none 0 0)) (T0 := T0) (ops := ops8a) closedS.bodies (by kernel_rfl) hK hF (by k_ne) [0, 1, 2, 3, 4, 5, 6, 7, 8] (by kernel_rfl) (m := 9) (by rw [size8a]; decide) (by decide) (by kernel_rfl) (fun j hj => ?_) fun dd r hd hC hL => ?_
   ·have hj' : j = 0 ∨ j = 1 ∨ j = 2 ∨ j = 3 ∨ j = 4 ∨ j = 5 ∨ j = 6 ∨ j = 7 ∨ j = 8 ∨ j = 10 := by
     simp at hj; omega
    exact (quiet8a c2 hkl hc hc63 z0 g3 g4 g11 j hj').s
   have e73 := fill_ev (F := (F8a g ad ls.length c k z none 0 0)) (T0 := T0) apart8a (i := 0) (s := 73) (by kernel_rfl) (by omega) (hL.waits o8a_9 (k := 0) (by kernel_rfl)) []
   have e76 := fill_ev (F := (F8a g ad ls.length c k z none 0 0)) (T0 := T0) apart8a (i := 3) (s := 76) (by kernel_rfl) (by omega) (hL.waits o8a_9 (k := 3) (by kernel_rfl)) []
   have e81 := fill_ev (F := (F8a g ad ls.length c k z none 0 0)) (T0 := T0) apart8a (i := 8) (s := 81) (by kernel_rfl) (by omega) (hL.waits o8a_9 (k := 8) (by kernel_rfl)) []
   obtain ⟨hRD, hLR, hO⟩ := HO.out
   obtain ⟨hco, hsay, hcol, c3⟩ := HC.out
   rw [Hs.out] at hsay
   refine company_call (l := ls.take k) (who := z) (g := g) (cp := c) o8a_9 rfl (by k_ne) rfl e73 (by rw [hlk]; exact e76) e81 hF ((RD.take hRD (by omega)).more hBs) (by rw [hlk]; omega) (fun w2 u hF2 e2 hG => ?_)
   rw [hco] at hG
   obtain ⟨L2, hL2⟩ : ∃ L, L = (co g.toNat (onAt ls k) ls[k].2.1.toNat).map fun (q : Nat) => (q : Int) := ⟨_, rfl⟩
   rw [← hL2] at hG
   have hl2 : L2.length = (co g.toNat (onAt ls k) ls[k].2.1.toNat).length := by rw [hL2, List.length_map]
   obtain ⟨Au, cu, rfl⟩ := own_form hG
   have hl5 : L2.length ≤ 5 := by rw [hl2]; omega
   have hRD2 : RD w2 B (some ad) ls := Reads.ups hRD hBs e2
   have hLR2 : LRd w2 B Ah M := hLR.kept fun b hb => e2.get b (by omega)
   have hO2 := own_ups hO e2
   have hG2 := own_mono (base' := gat + 1) hG (by omega)
   have c22 := e2.cell c2
   have c32 := e2.cell c3
   have hstep := alone_step (n := g.toNat) hkl hsay hl2
   rw [← Hal.out] at hstep
   have ecg : fillT ops8a (F8a g ad ls.length c k z none 0 0) T0 dd = fillT ops8a (F8a g ad ls.length c k z Au L2.length cu) T0 dd := fillT_congr fun j hj => by
    have := hd j hj
    simp at this
    rcases this with rfl | rfl | rfl | rfl | rfl | rfl | rfl | rfl | rfl <;> rfl
   have hfin := kRest (F := (F8a g ad ls.length c k z Au L2.length cu)) (T0 := T0) (ops := ops8a) (b := Conc.base 8) (df := []) (k := [.code BHc, .inBlock 1, .code (.region 12 O8_12 false), .inLoop LH, .inBlock 0, .code EH]) (cs := []) (m := 9) closedS.bodies hK hF2 (by k_ne) (fun j hj hj9 => ?_) (fun d' hd' => ?_) (d := dd) (r := r) (fun j hj => by have := hd j hj; simp at this; rw [size8a]; omega) hC hL
   ·have hput : (Act.mk (fillT ops8a (F8a g ad ls.length c k z Au L2.length cu) T0 dd) []).put (some 82) (.slice Au L2.length cu) = ⟨fillT ops8a (F8a g ad ls.length c k z Au L2.length cu) T0 (9 :: dd), []⟩ := fill_put o8a_9 rfl
    rw [← hput, ← ecg] at hfin
    exact hfin
   ·rw [size8a] at hj
    have hj' : j = 0 ∨ j = 1 ∨ j = 2 ∨ j = 3 ∨ j = 4 ∨ j = 5 ∨ j = 6 ∨ j = 7 ∨ j = 8 ∨ j = 10 := by omega
    exact (quiet8a c22 hkl hc hc63 z0 g3 g4 g11 j hj').s
   ·refine kRegEnd hK hF2 ?_
    have y3 := (fill_old (ops := ops8a) (F := (F8a g ad ls.length c k z Au L2.length cu)) (T0 := T0) (s := 3) (by kernel_rfl) d' []).trans g3
    have y4 := (fill_old (ops := ops8a) (F := (F8a g ad ls.length c k z Au L2.length cu)) (T0 := T0) (s := 4) (by kernel_rfl) d' []).trans g4
    have y5 := (fill_old (ops := ops8a) (F := (F8a g ad ls.length c k z Au L2.length cu)) (T0 := T0) (s := 5) (by kernel_rfl) d' []).trans g5
    have y9 := (fill_old (ops := ops8a) (F := (F8a g ad ls.length c k z Au L2.length cu)) (T0 := T0) (s := 9) (by kernel_rfl) d' []).trans g9
    have y10 := (fill_old (ops := ops8a) (F := (F8a g ad ls.length c k z Au L2.length cu)) (T0 := T0) (s := 10) (by kernel_rfl) d' []).trans g10
    have y11 := (fill_old (ops := ops8a) (F := (F8a g ad ls.length c k z Au L2.length cu)) (T0 := T0) (s := 11) (by kernel_rfl) d' []).trans g11
    have y12 := fill_ev (F := (F8a g ad ls.length c k z Au L2.length cu)) (T0 := T0) apart8a (i := 10) (s := 12) (by kernel_rfl) (by omega) (hd' 10 (by rw [size8a]; decide)) []
    have yz := (fillT_size (ops := ops8a) (F := (F8a g ad ls.length c k z Au L2.length cu)) (T0 := T0) d').trans z0
    refine heard_inner (g := g) (ls := ls) (ad := ad) (c := c) (Ah := Ah) (ch := ch) (gat := gat) (B := B) (al := al) (k := k) (M := M) (Au := Au) (cu := cu) (L2 := L2) (w := w2) hm hM hkl hsay hF2 hL2 c32 hb hLR2 hO2 hG2 ⟨yz, y3, y4, y5, y9, y10, y11⟩ y12 (by omega) fun T' w' hF' hsz hkp hO' hT' => ?_
    have hRD3 : RD w' B (some ad) ls := Reads.keep hRD2 fun p hp => World.cell?_of_block (w := w2) (hkp p.block (by omega))
    have hLR3 : LRd w' B Ah M := hLR2.kept fun b hb => hkp b (by omega)
    rw [hstep] at hT'
    have hal' : (aloneAt g.toNat ls (k + 1)).length ≤ 1000 := by
     have h1 := alone_says g.toNat ls (k + 1)
     have h2 := saysTo_len ls (k + 1)
     omega
    exact kInBlock hK hF' (heard_next hF' hT' (by omega) fun T'' hT'' => Hih.out T'' w' hF' hRD3 hLR3 hO' hT'')
end Go.Proofs.Ythmgpkcijolljaa
/-
  The law FnHeardBy, walked beside leavers: behind its loop.
-/
namespace Go.Proofs.Ythmgpkcijolljaa
open Go.Conc Go.RowKit Go.Conc.Lib Go.ConcR.Gen
set_option linter.unusedSimpArgs false
set_option linter.unusedVariables false
set_option maxRecDepth 100000 in
set_option maxHeartbeats 16000000 in
theorem heard_tail {g : Int} {ls : List Dd} {A : Option Addr} {c : Nat} {Ah : Option Addr} {ch gat B : Nat} {M : List (List Int)} (hm : meetB g ls = true) (hls : ls.length ≤ 13) (hM : M = heardL g ls) (T : Array Value) (v : World) (hF : Flat Try.prog v) (hRD : RD v B A ls) (hLR : LRd v B Ah M)
  (hO : v.ownsRow B 3 1 (.slice (some ⟨gat, 0, none⟩) g.toNat g.toNat) g.toNat (ints (atM g.toNat ls ls.length))) (hT : HdH g A ls.length c Ah M.length ch gat g.toNat (aloneAt g.toNat ls ls.length).length ls.length T) :
  KA KL (G ((Conc.base 8).at ⟨T, []⟩ [.code EH]) []) v := by
 have hK := kl_ok
 obtain ⟨b1, b2, b3, b4⟩ := meetB_true hm
 obtain ⟨n, hn⟩ : ∃ n : Nat, g = n := ⟨g.toNat, by omega⟩
 have hgn : g.toNat = n := by omega
 have hMl : M.length = n := by rw [hM, heardL_n hm, hgn]
 have hMr : ∀ q (hq : q < M.length), M[q].length = (futAt ls ls.length (q + 1)).length := fun q hq => by
  subst hM; rw [heard_get hm hq, futAt_all]
 rw [hgn] at hO hT
 have hat : ∀ q, q < n → (ints (atM n ls ls.length))[q]? = some (.int .i64 ((futAt ls ls.length (q + 1)).length : Nat)) := fun q hq => by
  simp [ints, atM, List.getElem?_map, List.getElem?_range hq]
 have hal : (aloneL g ls).length = (aloneAt n ls ls.length).length := by rw [aloneL_yes hm, hgn, aloneAt_all]
 have hBg := hO.lt gat rfl
 have hRDs := RD.more hRD (show B ≤ v.heap.size by omega)
 obtain ⟨al, hal2⟩ : ∃ al, al = (aloneAt n ls ls.length).length := ⟨_, rfl⟩
 rw [← hal2] at hal hT
 have Hal := Lib.hid hal
 have hn5 : n ≤ 5 := by omega
 have HR := Lib.hid (And.intro hMl (And.intro hMr (And.intro hat (And.intro hO hLR))))
 have hMl5 : M.length ≤ 5 := by omega
 obtain ⟨hz, t3, t4, t5, t9, t10, t11⟩ := hT
 obtain ⟨f, hf, hT⟩ := arrH hz
 rw [hf] at t3 t4 t5 t9 t10 t11
 subst hT
 rw [t3, t4, t5, t9, t10, t11]
 clear hz hf t3 t4 t5 t9 t10 t11 hal hal2 hMl hMr hat hO hLR hm hM hRD b3 b4 hBg hgn b1 b2
 have HRD := Lib.hid hRDs
 clear hRDs
 subst hn
 refine kCode EH_eq (kSeq hK hF (kLift closedS hK hF (by kernel_rfl) (by k_ne) fun t => ?_))
 generalize hQ : Behind _ _ _ _ _ = Q
 obtain ⟨wv, hwv⟩ : ∃ wv, wv = v.re t 0 := ⟨_, rfl⟩
 rw [← hwv]
 have HW := Lib.hid hwv
 clear hwv
 delta X24
 go_wp2
 go_loopw [15] (fun iv wr => ∃ j : Nat, j ≤ n ∧ iv = .int .i64 j ∧ wr.heap = wv.heap) (fun iv _ => n - (intOf iv).toNat)
 case atStart => exact ⟨0, Nat.zero_le _, rfl, rfl⟩
 case round =>
  obtain ⟨j, hj1, rfl, hwh⟩ := hrel
  have hwc : ∀ p, wr.cell? p = v.cell? p := fun p => World.cell?_of_block (w := v) (by rw [hwh, HW.out]; rfl)
  by_cases hlt : j < n
  ·obtain ⟨hMl, hMr, hat, hO, hLR⟩ := HR.out
   have hjM : j < M.length := by omega
   obtain ⟨adh, A1, c1, rfl, e2, e3, e4⟩ := hLR j hjM
   have r1 := hMr j hjM
   obtain ⟨q, hq⟩ : ∃ q, q = (futAt ls ls.length (j + 1)).length := ⟨_, rfl⟩
   rw [r1, ← hq] at e3
   have d1 : wr.cell? (adh.add j) = some (.slice A1 q c1) := (hwc _).trans e3
   have d2 : wr.cell? ⟨gat, j, none⟩ = some (.int .i64 q) := by
    have h1 := hO.cellAt j (by omega)
    rw [hat j hlt, ← hq] at h1
    exact (hwc _).trans h1
   have hqq : ((q : Int) != (q : Int)) = false := by simp
   have hjM2 : (j : Int) < (M.length : Int) := by omega
   have hjn : (j : Int) < (n : Int) := by omega
   clear hwc hMl hMr hat hO hLR e2 e3 e4 r1 hq
   go_wp2
   go_quiet (fail)
   go_wp2
   go_roundw
   case rel => exact ⟨j + 1, by omega, by go_num, hwh⟩
   case measure => simp [intOf]; omega
  ·obtain rfl : j = n := by omega
   have hnl : ¬ (j : Int) < (j : Int) := by omega
   go_wp2
   subst hQ
   refine fun hF3 _ => ?_
   have hRDs : RD wr wr.heap.size A ls := by
    have h1 : RD wr v.heap.size A ls := Reads.keep HRD.out fun p _ => hwc p
    have h2 : wr.heap.size = v.heap.size := by rw [hwh, HW.out]; rfl
    rwa [← h2] at h1
   clear hF
   have hF := hF3
   clear hF3
   refine kSeq hK hF (kRegion hK hF ?_)
   refine kOp closedS.bodies hK hF (val := .int .i64 (j : Nat)) (by k_ne) rfl rfl (by kernel_rfl) (fun v₁ hv => by go_simp <;> rfl) ?_
   walk_nrm
   refine kOp closedS.bodies hK hF (val := .slice A ls.length c) (by k_ne) rfl rfl (by kernel_rfl) (fun v₁ hv => by go_simp <;> rfl) ?_
   walk_nrm
   refine alone_call rfl rfl (by k_ne) rfl rfl rfl hF hRDs (by omega) (fun w2 u hF2 e2 hG => ?_)
   rw [Hal.out] at hG
   obtain ⟨Ag, cg, rfl⟩ := own_form hG
   generalize meetB (j : Int) ls = bo
   walk_nrm
   refine kOp closedS.bodies hK hF2 (val := .tuple #[.slice Ag al cg, .bool bo]) (by k_ne) rfl rfl (by kernel_rfl) (fun v₁ hv => by go_simp <;> rfl) ?_
   walk_nrm
   refine kOp closedS.bodies hK hF2 (val := .slice Ag al cg) (by k_ne) rfl rfl (by kernel_rfl) (fun v₁ hv => by go_simp <;> rfl) ?_
   walk_nrm
   refine kOp closedS.bodies hK hF2 (val := .bool bo) (by k_ne) rfl rfl (by kernel_rfl) (fun v₁ hv => by go_simp <;> rfl) ?_
   walk_nrm
   refine kOp closedS.bodies hK hF2 (val := .slice Ag al cg) (by k_ne) rfl rfl (by kernel_rfl) (fun v₁ hv => by go_simp <;> rfl) ?_
   walk_nrm
   refine kOp closedS.bodies hK hF2 (val := .bool bo) (by k_ne) rfl rfl (by kernel_rfl) (fun v₁ hv => by go_simp <;> rfl) ?_
   walk_nrm
   refine kRegEnd hK hF2 (kLift closedS hK hF2 (by kernel_rfl) (by k_ne) fun t => ?_)
   generalize hQ : Behind _ _ _ _ _ = Q
   have hll : ((al : Int) == (al : Int)) = true := by simp
   delta O8_30
   go_wp2
   subst hQ
   refine fun todo _ _ => KA.re ?_
   exact law_ret rfl rfl Try.func8 rfl (by kernel_rfl) rfl
end Go.Proofs.Ythmgpkcijolljaa
