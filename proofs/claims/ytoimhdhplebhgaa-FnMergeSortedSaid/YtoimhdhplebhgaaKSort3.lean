/-
  The call of MergeSorted, beside leavers.
-/
import Derived.Test.YtoimhdhplebhgaaG14
import Derived.Test.YtoimhdhplebhgaaKSortC
import Derived.Test.YtoimhdhplebhgaaKAround
namespace Go.Proofs.Ytoimhdhplebhgaa
open Go.Conc Go.RowKit Go.Conc.Lib Go.ConcR.Gen
open Go.ConcN (upd upd_same upd_ne)
open Go.ConcR (KK WgAt stA smA rd wr mk DC0)
set_option linter.unusedSimpArgs false
set_option linter.unusedVariables false

theorem first_pair (R : Nat → List Int) : ∀ (l : List Nat) (j i : Nat) (x : Int), (l.filter fun i => decide (R i ≠ []))[j]? = some i → (l.flatMap fun i => (R i).take 1)[j]? = some x → i ∈ l ∧ ∃ r, R i = x :: r
  | [], j, i, x, h1, h2 => by simp at h1
  | a :: l, j, i, x, h1, h2 => by
    rw [List.flatMap_cons] at h2
    cases ha : R a with
    | nil =>
      rw [List.filter_cons_of_neg (by simp [ha])] at h1
      rw [ha] at h2
      obtain ⟨h3, h4⟩ := first_pair R l j i x h1 (by simpa using h2)
      exact ⟨List.mem_cons_of_mem _ h3, h4⟩
    | cons y r =>
      rw [List.filter_cons_of_pos (by simp [ha])] at h1
      rw [ha] at h2
      cases j with
      | zero =>
        simp at h1 h2
        subst h1 h2
        exact ⟨List.mem_cons_self .., r, ha⟩
      | succ j =>
        simp at h1 h2
        obtain ⟨h3, h4⟩ := first_pair R l j i x (by simpa using h1) (by simpa using h2)
        exact ⟨List.mem_cons_of_mem _ h3, h4⟩
theorem first_len (R : Nat → List Int) : ∀ (l : List Nat), (l.flatMap fun i => (R i).take 1).length = (l.filter fun i => decide (R i ≠ [])).length
  | [] => rfl
  | a :: l => by
    rw [List.flatMap_cons, List.length_append, first_len R l]
    cases ha : R a with
    | nil => rw [List.filter_cons_of_neg (by simp [ha])]; simp
    | cons y r => rw [List.filter_cons_of_pos (by simp [ha])]; simp; omega
section
variable {v u : World} {V : List Value} {M : List (List Int)} {C : Nat → Nat} {γ : View} {ov stv hdv mv : Value}
theorem Rin.start (h : Rin v V M C (List.range M.length) ov γ (runR (fun i => M.getD i []) (List.range M.length)) stv hdv (runStill (fun i => M.getD i []) (List.range M.length)) (runOut (fun i => M.getD i []) (List.range M.length)) u)
    (hM : M.length ≤ 6) (ha : ∀ l ∈ M, ascB l = true) (hmv : u.ownsRow v.heap.size 3 1 mv ([] : List Int).length (ints [])) (hap : ∀ b, hdv.ownBlock = some b → mv.ownBlock ≠ some b) :
    Rs v V M C γ (runR (fun i => M.getD i []) (List.range M.length)) (fun i => M.getD i []) (runStill (fun i => M.getD i []) (List.range M.length)) (runOut (fun i => M.getD i []) (List.range M.length)) stv hdv mv [] u := by
  obtain ⟨R, hR⟩ : ∃ R : Nat → List Int, R = fun i => M.getD i [] := ⟨_, rfl⟩
  have hn : (List.range M.length).Nodup := List.nodup_range
  have e1 := runStill_eq (List.range M.length) R hn
  have e2 := runOut_eq (List.range M.length) R hn
  have e3 := runR_eq (List.range M.length) R hn
  rw [← hR] at h ⊢
  refine ⟨h.rv, h.hst, h.hmv, hmv, hap, ?_, ?_, ?_, fun i hi => ?_, by rw [hR]; exact Mrg.start ha, fun j i x h1 h2 => ?_, fun i hi hni => ?_⟩
  · rw [e1, e2]; exact first_len R _
  · rw [e1]
    have := List.length_filter_le (fun i => decide (R i ≠ [])) (List.range M.length)
    rw [List.length_range] at this
    omega
  · rw [e1]; exact hn.filter _
  · rw [e1] at hi
    exact List.mem_range.1 (List.mem_filter.1 hi).1
  · rw [e1] at h1
    rw [e2] at h2
    obtain ⟨h3, r, h4⟩ := first_pair R _ j i x h1 h2
    rw [e3, if_pos h3, h4]; rfl
  · have h5 : R i = [] := by
      rcases hc : R i with _ | ⟨y, r⟩
      · rfl
      · exact absurd (by rw [e1]; exact List.mem_filter.2 ⟨List.mem_range.2 hi, by simp [hc]⟩) hni
    exact ⟨h5, by rw [e3, h5]; simp⟩
end
section
variable {Post : Value → World → Prop} {v0 : World} {B0 : Nat} {A : Option Addr} {cap : Nat} {V : List Value} {M : List (List Int)}
set_option maxRecDepth 100000 in
set_option maxHeartbeats 16000000 in
/-- ████ MergeSorted ████ -/
theorem sorted_call {b : Frame} {a : Act} {ks : List Item} {cs : List Frame} {ops : Array Oper} {i : Nat} {rest : List Nat} {o : Oper} {x : Operand} {ats : Array TypeId}
    (ho : ops[i]? = some o) (hw : Region.wanted o (yielded ops a.tmps) = true) (hk : b.kind ≠ .early) (hop : o.op = .call { callee := .value (.func 19), args := #[x], argTypes := ats }) (hx : a.eval x = .slice A M.length cap)
    (hF : Flat Try.prog v0) (hG : OII v0 B0 (.slice A M.length cap) V M) (hn : M.length ≤ 1048576) (hn2 : ∀ l ∈ M, l.length ≤ 1048576)
    (h : ∀ v' sv, Flat Try.prog v' → Below v0.heap.size v0 v' → v'.ownsRow v0.heap.size 3 1 sv (sL M).length (ints (sL M)) → KA (Wins Try.prog Post) (G (b.at (a.put o.dst (.tuple #[sv, .bool (sB M)])) (.inRegion ops rest :: ks)) cs) v') :
    KA (Wins Try.prog Post) (G (b.at a (.inRegion ops (i :: rest) :: ks)) cs) v0 := by
  have hK := wins_ok (P := Try.prog) (Post := Post)
  have hdst : (ops[i]?).bind (·.dst) = o.dst := by rw [ho]; rfl
  refine kCall hK hF ho hw hk hop Try.func19 (by kernel_rfl) rfl ?_
  simp only [List.map_toArray, List.map_cons, List.map_nil, hx]
  walk_nrmf Try.f19
  refine kSeq hK hF (kRegion hK hF ?_)
  refine kOp closedS.bodies hK hF (val := .slice none 0 0) (by k_ne) rfl rfl (by kernel_rfl) (fun v₁ hv => by go_simp) ?_
  walk_nrm
  refine kOp closedS.bodies hK hF (val := .bool false) (by k_ne) rfl rfl (by kernel_rfl) (fun v₁ hv => by go_simp) ?_
  walk_nrm
  refine kRegEnd hK hF (kSeq hK hF (kSeq hK hF ?_))
  refine kLift closedS hK hF (by kernel_rfl) (by k_ne) fun t1 => ?_
  have hG1 : OII (v0.re t1 0) B0 (.slice A M.length cap) V M := ⟨hG.len, hG.hdr, hG.row, hG.apart⟩
  go_wp2_with (go_at_call 23; refine (iListsValid_any A cap M V B0 _ hG1 hn hn2).mono ?_; rintro e w' ⟨rfl, rfl⟩)
  refine fun _ _ => KA.re ?_
  clear hG1
  cases hv : listsB M with
  | false =>
    simp only [Bool.not_false]
    refine kCond hK hF (t := true) (by rfl) ?_
    simp only [if_true]
    refine kSeq hK hF (kRegion hK hF ?_)
    refine kOp closedS.bodies hK hF (val := .slice none 0 0) (by k_ne) rfl rfl (by kernel_rfl) (fun v₁ hv => by go_simp) ?_
    walk_nrm
    refine kOp closedS.bodies hK hF (val := .bool false) (by k_ne) rfl rfl (by kernel_rfl) (fun v₁ hv => by go_simp) ?_
    walk_nrm
    refine kRegEnd hK hF (kRet hK hF (kLeave2 hK hF rfl rfl Try.func19 rfl ?_))
    rw [hdst]
    rw [sB_lists hv] at h
    have e : sL M = [] := by simp [sL, sB_lists hv]
    rw [e] at h
    exact h v0 _ hF (Below.refl _ _) (World.ownsRow_nil _ _ _ _)
  | true =>
    simp only [Bool.not_true]
    refine kCond hK hF (t := false) (by rfl) ?_
    simp only [Bool.false_eq_true, if_false]
    refine kSkip hK hF (kSeq hK hF ?_)
    obtain ⟨h6, h40⟩ := listsB_true hv
    refine kLift closedS hK hF (by kernel_rfl) (by k_ne) fun t1 => ?_
    have hG1 : OII (v0.re t1 0) B0 (.slice A M.length cap) V M := ⟨hG.len, hG.hdr, hG.row, hG.apart⟩
    generalize hQ : Behind _ _ _ _ _ = Q
    go_wp2
    go_loopw [2, 3, 24] (fun rv bv iv wr => ∃ (k n : Nat), k ≤ M.length ∧ rv = .slice none 0 0 ∧ bv = .bool false ∧ iv = .int .i64 k ∧ (∀ q (hq : q < M.length), q < k → ascB M[q] = true) ∧ wr = (v0.re t1 0).drewN n) (fun _ _ iv _ => M.length - (intOf iv).toNat)
    case atStart => exact ⟨0, 0, Nat.zero_le _, rfl, rfl, rfl, fun q hq h => by omega, rfl⟩
    case round =>
      obtain ⟨k, nq, hk1, rfl, rfl, rfl, hall, rfl⟩ := hrel
      by_cases hlt : k < M.length
      · obtain ⟨ad, A1, c1, rfl, hb, hc1, _, hr1⟩ := (hG1.drewN nq).at_ hlt
        have hn1 := hn2 M[k] (List.getElem_mem _)
        have Hall := Lib.hid hall
        have Hno := Lib.hid (fun h : ascB M[k] = false => sB_row (List.getElem_mem hlt) h)
        obtain ⟨l, hl⟩ : ∃ l, M[k] = l := ⟨_, rfl⟩
        have Hl := Lib.hid hl
        rw [hl] at hc1 hr1 hn1 Hno
        have R1 := RI.of_own hr1
        clear hl hall hr1 hn2 h40 hG1
        by_cases hasc : ascB l = true
        · go_wp2_with (go_at_call 29; refine (isSorted_any _ _ l _ _ R1 hn1).mono ?_; rintro e w2 ⟨rfl, n2, rfl⟩; rw [hasc])
          go_roundw
          case rel =>
            refine ⟨k + 1, _, by omega, rfl, rfl, by go_num, fun q hq hqk => ?_, rfl⟩
            by_cases e : q = k
            · subst e; rw [Hl.out]; exact hasc
            · exact Hall.out q hq (by omega)
          case measure => simp [intOf]; omega
        · have hasc' : ascB l = false := by simpa using hasc
          clear hasc
          go_wp2_with (go_at_call 29; refine (isSorted_any _ _ l _ _ R1 hn1).mono ?_; rintro e w2 ⟨rfl, n2, rfl⟩; rw [hasc'])
          subst hQ
          refine fun todo hFx _ => ?_
          refine kLeave2 hK hFx rfl rfl Try.func19 rfl ?_
          rw [hdst]
          have hsf := Hno.out hasc'
          rw [hsf] at h
          have e : sL M = [] := by simp [sL, hsf]
          rw [e] at h
          exact KA.re (t := t1) (h v0 _ hF (Below.refl _ _) (World.ownsRow_nil _ _ _ _))
      · have HT : Hid (∀ l ∈ M, ascB l = true) := Lib.hid (fun l hl => by
          obtain ⟨q, hq, rfl⟩ := List.getElem_of_mem hl
          exact hall q hq (by omega))
        clear hall
        go_wp2
        subst hQ
        refine fun hFx _ => ?_
        have Hasc := HT.out
        have hsB : sB M = true := sB_mk hv Hasc
        clear HT hFx hlt hk1
        refine KA.re (t := t1) (v := v0) ?_
        refine kSeq hK hF ?_
        refine kLift closedS hK hF (by kernel_rfl) (by k_ne) fun t2 => ?_
        generalize hQ : Behind _ _ _ _ _ = Q
        go_wp2
        subst hQ
        refine fun hF1 _ => ?_
        simp only [re_heap]
        have hW1 : WgAt 47 v0.heap.size ((v0.re t2 0).alloc (Obj.cells #[Value.int IntKind.u64 0, Value.int IntKind.u32 0] 47)) 0 0 := heap_alloc_new (v0.re t2 0) _
        have hb1 : ∀ b, b < v0.heap.size → ((v0.re t2 0).alloc (Obj.cells #[Value.int IntKind.u64 0, Value.int IntKind.u32 0] 47)).heap[b]? = v0.heap[b]? := fun b hb => Below.heap_alloc (v0.re t2 0) _ b hb
        have hs1 : ((v0.re t2 0).alloc (Obj.cells #[Value.int IntKind.u64 0, Value.int IntKind.u32 0] 47)).heap.size = v0.heap.size + 1 := by rw [alloc_size, re_heap]
        generalize ((v0.re t2 0).alloc (Obj.cells #[Value.int IntKind.u64 0, Value.int IntKind.u32 0] 47)) = v1 at hF1 hW1 hb1 hs1 ⊢
        have hlow : Try.prog.globals.size ≤ v0.heap.size := by rw [noGlobals]; exact Nat.zero_le _
        intro t3 d3
        obtain ⟨NN, hNN⟩ : ∃ NN, NN = 2 * M.length + (M.length + M.flatten.length) + 1 := ⟨_, rfl⟩
        refine wins_of_talk (ty := 47) (Wg := v0.heap.size) (st := true) (n := 2 * M.length + (M.length + M.flatten.length) + 1) (v := v1.re t3 d3) hW1 hlow (fun J W => ?_)
        have key : ∀ g, KA (MNext Try.prog 47 v0.heap.size true ⟨fun b => v1.heap[b]? = some hid, Shut v1, W⟩ Post (2 * M.length + (M.length + M.flatten.length) + 1) (view0 J)) g (v1.hide v0.heap.size) → MNext Try.prog 47 v0.heap.size true ⟨fun b => (v1.re t3 d3).heap[b]? = some hid, Shut (v1.re t3 d3), W⟩ Post (2 * M.length + (M.length + M.flatten.length) + 1) (view0 J) g ((v1.re t3 d3).hide v0.heap.size) := fun g hg => hg t3 d3
        refine key _ ?_
        clear key
        have hFv : Flat Try.prog (v1.hide v0.heap.size) := (hF1.self.hide hlow).flat
        have hsv : (v1.hide v0.heap.size).heap.size = v0.heap.size + 1 := by rw [hide_size, hs1]
        have hbv : ∀ b, b < v0.heap.size → (v1.hide v0.heap.size).heap[b]? = v0.heap[b]? := fun b hb => by rw [hide_ne (by omega)]; exact hb1 b hb
        have hWv : (v1.hide v0.heap.size).heap[v0.heap.size]? = some hid := hide_same (by omega)
        have hBase : ∀ b, v1.heap[b]? = some hid → b < v0.heap.size ∧ v0.heap[b]? = some hid := fun b hb => by
          have hlt : b < v0.heap.size + 1 := by rw [← hs1]; exact (Array.getElem?_eq_some_iff.1 hb).1
          by_cases e : b = v0.heap.size
          · subst e
            have hW1' : v1.heap[v0.heap.size]? = some (Go.ConcR.wgBlock 47 0 0) := hW1
            rw [hW1'] at hb
            cases hb
          · exact ⟨by omega, by rw [← hb1 b (by omega)]; exact hb⟩
        have hBase2 : ∀ b, Shut v1 b → b < v0.heap.size ∧ Shut v0 b := fun b hb => by
          have hlt : b < v0.heap.size + 1 := by rw [← hs1]; exact hb.lt
          by_cases e : b = v0.heap.size
          · subst e
            have hW1' : v1.heap[v0.heap.size]? = some (Go.ConcR.wgBlock 47 0 0) := hW1
            unfold Go.ConcR.wgBlock at hW1'
            rcases hb with h1 | ⟨c, t, f, h1, h2⟩
            · rw [hW1'] at h1; cases h1
            · rw [hW1'] at h1
              simp only [Option.some.injEq, Obj.cells.injEq] at h1
              obtain ⟨rfl, rfl, rfl⟩ := h1
              have := (h2 0 (by simp)).2
              simp at this
          · exact ⟨by omega, hb.of_get (hb1 b (by omega)).symm⟩
        have hGv : OII (v1.hide v0.heap.size) B0 (.slice A M.length cap) V M := hG.blocks hbv
        generalize v1.hide v0.heap.size = v at hFv hsv hbv hWv hGv ⊢
        have hKm := kn_ok (P := Try.prog) (ty := 47) (Wg := v0.heap.size) (Base := ⟨fun b => v1.heap[b]? = some hid, Shut v1, W⟩) (Post := Post) (2 * M.length + (M.length + M.flatten.length)) (view0 J)
        clear hK
        refine kSeq hKm hFv (kRegion hKm hFv ?_)
        refine kOp closedS.bodies hKm hFv (val := .slice none 0 0) (by k_ne) rfl rfl (by kernel_rfl) (fun v₁ hv => by go_simp) ?_
        walk_nrm
        refine kRegEnd hKm hFv (kSeq hKm hFv (kRegion hKm hFv ?_))
        refine kOp closedS.bodies hKm hFv (val := .slice none 0 0) (by k_ne) rfl rfl (by kernel_rfl) (fun v₁ hv => by go_simp) ?_
        walk_nrm
        refine kRegEnd hKm hFv (kSeq hKm hFv (kSeq hKm hFv (kRegion hKm hFv ?_)))
        refine kOp closedS.bodies hKm hFv (val := .slice A M.length cap) (by k_ne) rfl rfl (by kernel_rfl) (fun v₁ hv => by go_simp) ?_
        walk_nrm
        refine send_call (B0 := B0) (V := V) rfl rfl (by k_ne) rfl rfl rfl hFv hGv (by omega) hn2 hWv ⟨rfl, rfl⟩ (fun v' sv γ' bw hS => ?_)
        walk_nrm
        have hR := hS.rv
        have hF2 := hS.flat
        have hsrow := hS.row
        clear hKm
        have hK := kn_ok (P := Try.prog) (ty := 47) (Wg := v0.heap.size) (Base := ⟨fun b => v1.heap[b]? = some hid, Shut v1, W⟩) (Post := Post) (M.length + M.flatten.length) γ'
        obtain ⟨As, cs0, esv⟩ := own_form hsrow
        subst esv
        refine kOp closedS.bodies hK hF2 (val := .int .i64 M.length) (by k_ne) rfl rfl (by kernel_rfl) (fun v₁ hv => by go_simp) ?_
        walk_nrm
        refine kOp closedS.bodies hK hF2 (val := .int .i64 0) (by k_ne) rfl rfl (by kernel_rfl) (fun v₁ hv => by go_simp) ?_
        walk_nrm
        refine kRegEnd hK hF2 (kBlock hK hF2 (kLoop hK hF2 ?_))
        have hfst := sorted_first (Base := ⟨fun b => v1.heap[b]? = some hid, Shut v1, W⟩) (Post := Post) (Wg := v0.heap.size) (wgp := .pointer (some ⟨v0.heap.size, 0, none⟩)) (N := M.flatten.length) (v := v) (V := V) (M := M) (C := γ'.c) (I := List.range M.length) (ov := .slice As M.length cs0) (cs := b.at a (.inRegion ops (i :: rest) :: ks) :: cs) (by rw [List.length_range]; omega) (fun i hi => List.mem_range.1 hi) (List.range M.length) 0 rfl (by simp) γ' v' (fun i => M.getD i []) [] (.slice none 0 0) (.slice none 0 0) []
          ⟨hR, by rw [List.length_range, chs_range]; exact hsrow, World.ownsRow_nil _ _ _ _, World.ownsRow_nil _ _ _ _, fun b hb => by cases hb⟩ (Nat.le_refl _) (by rw [List.length_range]; simp; omega) ?_
        · simp only [L19, E19, body19, Try.f19, Option.getD_some, T19, List.length_range] at hfst
          exact hfst _ _ _ _ _ _ _ _ _ _ _ _ _ _ _ _ _ _ _ _ _ _ _ _ _ _ _ _ _ _ _ _ _ _ _ _ _ _ _ _ _ _ _ _ _ _ _ _ _ _ _ _ _ _ _ _ _ _ _ _ _ _ _ _ _ _ _ _ _ _ _ _ _ _ _ _ _ _ _ _ _ _ _ _ _ _ _ _ _ _ _ _ _ _ _ _ _
        intro γ2 u2 stv hdv hRin x0 x1 x4 x5 x9 x10 x11 x12 x13 x14 x15 x16 x17 x18 x19 x20 x21 x22 x23 x24 x25 x26 x27 x28 x29 x30 x31 x32 x36 x37 x38 x39 x40 x41 x42 x43 x44 x45 x46 x47 x48 x49 x50 x51 x52 x53 x54 x55 x56 x57 x58 x59 x60 x61 x62 x63 x64 x65 x66 x67 x68 x69 x70 x71 x72 x73 x74 x75 x76 x77 x78 x79 x80 x81 x82 x83 x84 x85 x86 x87 x88 x89 x90 x91 x92 x93 x94 x95 x96 x97 x98 x99 x100 x101 x102 x103 x104
        have hF4 := hRin.rv.flat
        have hK := kn_ok (P := Try.prog) (ty := 47) (Wg := v0.heap.size) (Base := ⟨fun b => v1.heap[b]? = some hid, Shut v1, W⟩) (Post := Post) M.flatten.length γ2
        simp only [E19, body19, Try.f19, Option.getD_some, T19, List.nil_append] at hRin ⊢
        refine kSeq hK hF4 ?_
        refine kLift closedS hK hF4 (by kernel_rfl) (by k_ne) fun t4 => ?_
        generalize hQ : Behind _ _ _ _ _ = Q
        go_wp2
        subst hQ
        refine fun hF5 _ => ?_
        simp only [re_heap]
        have hs5 : ((u2.re t4 0).alloc (Obj.cells #[] 3)).heap.size = u2.heap.size + 1 := by rw [alloc_size, re_heap]
        have hb5 : ∀ b, b < u2.heap.size → ((u2.re t4 0).alloc (Obj.cells #[] 3)).heap[b]? = u2.heap[b]? := fun b hb => Below.heap_alloc (u2.re t4 0) _ b hb
        have hRin5 : Rin v V M γ'.c (List.range M.length) (.slice As M.length cs0) γ2 (runR (fun i => M.getD i []) (List.range M.length)) stv hdv (runStill (fun i => M.getD i []) (List.range M.length)) (runOut (fun i => M.getD i []) (List.range M.length)) ((u2.re t4 0).alloc (Obj.cells #[] 3)) :=
          ⟨hRin.rv.world hF5 (by omega) (fun b hb => hb5 b (by have := hRin.rv.size; omega)), own_blocks hRin.hov fun b hb => hb5 b (hRin.hov.lt b hb).2, own_blocks hRin.hst fun b hb => hb5 b (hRin.hst.lt b hb).2, own_blocks hRin.hmv fun b hb => hb5 b (hRin.hmv.lt b hb).2, hRin.apart⟩
        have hmv5 : ((u2.re t4 0).alloc (Obj.cells #[] 3)).ownsRow v.heap.size 3 1 (.slice (some ⟨u2.heap.size, 0, none⟩) 0 0) ([] : List Int).length (ints []) := own_mono (ownsRow_empty' (u2.re t4 0)) (by rw [re_heap]; exact hRin.rv.size)
        have hap5 : ∀ b, hdv.ownBlock = some b → (Value.slice (some ⟨u2.heap.size, 0, none⟩) 0 0).ownBlock ≠ some b := fun b hb e => by
          have h1 := (hRin.hmv.lt b hb).2
          have h2 : u2.heap.size = b := by simpa [Value.ownBlock] using e
          omega
        have hRs := hRin5.start h6 Hasc hmv5 hap5
        have hk : (Go.Proofs.Ytoimhdhplebhgaa.rest (fun i => M.getD i []) M.length).length = M.flatten.length := by rw [rest_all]
        have h240 : M.flatten.length ≤ 240 := by
          have h1 := flatten_len_le h40
          have h2 : 40 * M.length ≤ 40 * 6 := Nat.mul_le_mul_left _ h6
          omega
        generalize ((u2.re t4 0).alloc (Obj.cells #[] 3)) = u5 at hF5 hs5 hb5 hRin5 hmv5 hRs ⊢
        have hmain := sorted_main (Base := ⟨fun b => v1.heap[b]? = some hid, Shut v1, W⟩) (Post := Post) (Wg := v0.heap.size) (wgp := .pointer (some ⟨v0.heap.size, 0, none⟩)) (N := 0) (v := v) (V := V) (M := M) (C := γ'.c) (cs := b.at a (.inRegion ops (i :: rest) :: ks) :: cs) h6 h240 ?_ M.flatten.length γ2 u5 _ _ _ _ _ _ _ _ hRs hk
        · simp only [L19m, E19m, E19, body19, Try.f19, Option.getD_some, T19m, Nat.add_zero] at hmain
          refine kSeq hK hF5 (kBlock hK hF5 (kLoop hK hF5 ?_))
          exact hmain _ _ _ _ _ _ _ _ _ _ _ _ _ _ _ _ _ _ _ _ _ _ _ _ _ _ _ _ _ _ _ _ _ _ _ _ _ _ _ _ _ _ _ _ _ _ _ _ _ _ _ _ _ _ _ _ _ _ _ _ _ _ _ _ _ _ _ _ _ _ _ _ _ _ _ _ _ _ _ _ _ _ _ _ _ _ _ _ _ _ _ _ _ _ _ _ _ _ _
        · intro γ'' u R opv hdv' mv hRu hE hmv x0 x1 x4 x5 x9 x10 x11 x12 x14 x15 x16 x17 x18 x19 x20 x21 x22 x23 x24 x25 x26 x27 x28 x29 x30 x31 x32 x33 x34 x35 x36 x37 x38 x39 x40 x41 x42 x43 x44 x45 x46 x47 x48 x49 x50 x51 x52 x53 x54 x55 x56 x57 x58 x59 x60 x61 x62 x63 x64 x65 x66 x67 x68 x69 x70 x71 x72 x73 x74 x75 x76 x77 x78 x79 x80 x81 x82 x83 x84 x85 x86 x87 x88 x89 x90 x91 x92 x93 x94 x95 x96 x97 x98 x99 x100 x101 x102 x103 x104
          have hFu := hRu.flat
          have hRn : Rv v V M γ'.c (fun _ => []) γ'' u := ⟨hRu.flat, hRu.size, hRu.blk, hRu.j, hRu.owed, hRu.shut, hRu.dn, hRu.c, fun i hi => by rw [hRu.say i hi, hE i hi]⟩
          have hK2 := kn_ok (P := Try.prog) (ty := 47) (Wg := v0.heap.size) (Base := ⟨fun b => v1.heap[b]? = some hid, Shut v1, W⟩) (Post := Post) 0 γ''
          simp only [E19m, E19, body19, Try.f19, Option.getD_some, T19m]
          refine kSeq hK2 hFu (kRegion hK2 hFu ?_)
          refine kn_wait_at rfl rfl (by k_ne) rfl rfl hRn (fun _ => rfl) (joined_of hF rfl hsv hbv hBase hBase2 hGv.len.symm hRn hmv fun vf hFf hbf hmvf => ?_)
          have hKw := wins_ok (P := Try.prog) (Post := Post)
          walk_nrm
          refine kRegEnd hKw hFf (kSeq hKw hFf (kRegion hKw hFf ?_))
          refine kOp closedS.bodies hKw hFf (val := mv) (by k_ne) rfl rfl (by kernel_rfl) (fun v₁ hv => by go_simp) ?_
          walk_nrm
          refine kOp closedS.bodies hKw hFf (val := mv) (by k_ne) rfl rfl (by kernel_rfl) (fun v₁ hv => by go_simp) ?_
          walk_nrm
          refine kOp closedS.bodies hKw hFf (val := .bool true) (by k_ne) rfl rfl (by kernel_rfl) (fun v₁ hv => by go_simp) ?_
          walk_nrm
          refine kRegEnd hKw hFf (kRet hKw hFf (kLeave2 hKw hFf rfl rfl Try.func19 rfl ?_))
          rw [hdst]
          rw [hsB] at h
          have e : sL M = sortedL M := by simp [sL, hsB]
          rw [e] at h
          exact h vf mv hFf hbf hmvf
end
end Go.Proofs.Ytoimhdhplebhgaa
