/-
  The call of MergeAround, beside leavers.
-/
import Derived.Test.YtoimhdhplebhgaaG9
import Derived.Test.YtoimhdhplebhgaaKJoin
import Derived.Test.YtoimhdhplebhgaaG10
namespace Go.Proofs.Ytoimhdhplebhgaa
open Go.Conc Go.RowKit Go.Conc.Lib Go.ConcR.Gen
open Go.ConcN (upd upd_same upd_ne)
open Go.ConcR (KK WgAt stA smA rd wr mk DC0)
set_option linter.unusedSimpArgs false
set_option linter.unusedVariables false

theorem chs_range (C : Nat → Nat) (n : Nat) : chs C (List.range n) = chansOf C n := rfl
theorem outerN_le : ∀ (d : Nat) (R : Nat → List Int) (I : List Nat), outerN d R I ≤ d * I.length
  | 0, _, _ => by simp [outerN]
  | d + 1, R, I => by
    by_cases h : I = []
    · simp [outerN, h]
    · have h1 := outerN_le d (runR R I) (runStill R I)
      have h2 : d * (runStill R I).length ≤ d * I.length := Nat.mul_le_mul_left _ (runStill_len I R)
      simp only [outerN, if_neg h]
      rw [Nat.succ_mul]
      omega
theorem OII.blocks {w w' : World} {base : Nat} {v : Value} {V : List Value} {M : List (List Int)} (h : OII w base v V M) (he : ∀ b, b < w.heap.size → w'.heap[b]? = w.heap[b]?) : OII w' base v V M :=
  ⟨h.len, own_blocks h.hdr fun b hb => he b (h.hdr.lt b hb).2, fun i u l h1 h2 => own_blocks (h.row i u l h1 h2) fun b hb => he b ((h.row i u l h1 h2).lt b hb).2, h.apart⟩
section
variable {Post : Value → World → Prop} {v0 : World} {B0 : Nat} {A : Option Addr} {cap : Nat} {V : List Value} {M : List (List Int)}
set_option maxRecDepth 100000 in
set_option maxHeartbeats 4000000 in
/-- ████ MergeAround ████ -/
theorem around_call {b : Frame} {a : Act} {ks : List Item} {cs : List Frame} {ops : Array Oper} {i : Nat} {rest : List Nat} {o : Oper} {x : Operand} {ats : Array TypeId}
    (ho : ops[i]? = some o) (hw : Region.wanted o (yielded ops a.tmps) = true) (hk : b.kind ≠ .early) (hop : o.op = .call { callee := .value (.func 8), args := #[x], argTypes := ats }) (hx : a.eval x = .slice A M.length cap)
    (hF : Flat Try.prog v0) (hG : OII v0 B0 (.slice A M.length cap) V M) (hn : M.length ≤ 1048576) (hn2 : ∀ l ∈ M, l.length ≤ 1048576)
    (h : ∀ v' sv, Flat Try.prog v' → Below v0.heap.size v0 v' → v'.ownsRow v0.heap.size 3 1 sv (aL M).length (ints (aL M)) → KA (Wins Try.prog Post) (G (b.at (a.put o.dst (.tuple #[sv, .bool (listsB M)])) (.inRegion ops rest :: ks)) cs) v') :
    KA (Wins Try.prog Post) (G (b.at a (.inRegion ops (i :: rest) :: ks)) cs) v0 := by
  have hK := wins_ok (P := Try.prog) (Post := Post)
  have hdst : (ops[i]?).bind (·.dst) = o.dst := by rw [ho]; rfl
  refine kCall hK hF ho hw hk hop Try.func8 (by kernel_rfl) rfl ?_
  simp only [List.map_toArray, List.map_cons, List.map_nil, hx]
  walk_nrmf Try.f8
  refine kSeq hK hF (kRegion hK hF ?_)
  refine kOp closedS.bodies hK hF (val := .slice none 0 0) (by k_ne) rfl rfl (by kernel_rfl) (fun v₁ hv => by go_simp) ?_
  walk_nrm
  refine kOp closedS.bodies hK hF (val := .bool false) (by k_ne) rfl rfl (by kernel_rfl) (fun v₁ hv => by go_simp) ?_
  walk_nrm
  refine kRegEnd hK hF (kSeq hK hF (kSeq hK hF ?_))
  refine kLift closedS hK hF (by kernel_rfl) (by k_ne) fun t1 => ?_
  have hG1 : OII (v0.re t1 0) B0 (.slice A M.length cap) V M := ⟨hG.len, hG.hdr, hG.row, hG.apart⟩
  go_wp2_with (go_at_call 23; refine (iListsValid_any A cap M V B0 _ hG1 hn hn2).mono ?_; rintro e w' ⟨rfl, rfl⟩)
  refine fun _ _ => KA.re ?_
  clear hG1
  cases hv : listsB M with
  | false =>
    simp only [Bool.not_false]
    refine kCond hK hF (t := true) (by rfl) ?_
    simp only [if_true]
    refine kSeq hK hF (kRegion hK hF ?_)
    refine kOp closedS.bodies hK hF (val := .slice none 0 0) (by k_ne) rfl rfl (by kernel_rfl) (fun v₁ hv => by go_simp) ?_
    walk_nrm
    refine kOp closedS.bodies hK hF (val := .bool false) (by k_ne) rfl rfl (by kernel_rfl) (fun v₁ hv => by go_simp) ?_
    walk_nrm
    refine kRegEnd hK hF (kRet hK hF (kLeave2 hK hF rfl rfl Try.func8 rfl ?_))
    rw [hdst]
    rw [hv] at h
    have e : aL M = [] := by simp [aL, hv]
    rw [e] at h
    exact h v0 _ hF (Below.refl _ _) (World.ownsRow_nil _ _ _ _)
  | true =>
    simp only [Bool.not_true]
    refine kCond hK hF (t := false) (by rfl) ?_
    simp only [Bool.false_eq_true, if_false]
    refine kSkip hK hF (kSeq hK hF ?_)
    refine kLift closedS hK hF (by kernel_rfl) (by k_ne) fun t1 => ?_
    go_wp2
    refine fun hF1 _ => ?_
    simp only [re_heap]
    have hW1 : WgAt 47 v0.heap.size ((v0.re t1 0).alloc (Obj.cells #[Value.int IntKind.u64 0, Value.int IntKind.u32 0] 47)) 0 0 := heap_alloc_new (v0.re t1 0) _
    have hb1 : ∀ b, b < v0.heap.size → ((v0.re t1 0).alloc (Obj.cells #[Value.int IntKind.u64 0, Value.int IntKind.u32 0] 47)).heap[b]? = v0.heap[b]? := fun b hb => Below.heap_alloc (v0.re t1 0) _ b hb
    have hs1 : ((v0.re t1 0).alloc (Obj.cells #[Value.int IntKind.u64 0, Value.int IntKind.u32 0] 47)).heap.size = v0.heap.size + 1 := by rw [alloc_size, re_heap]
    generalize ((v0.re t1 0).alloc (Obj.cells #[Value.int IntKind.u64 0, Value.int IntKind.u32 0] 47)) = v1 at hF1 hW1 hb1 hs1 ⊢
    have hlow : Try.prog.globals.size ≤ v0.heap.size := by rw [noGlobals]; exact Nat.zero_le _
    intro t2 d2
    refine wins_of_talk (ty := 47) (Wg := v0.heap.size) (st := true) (n := 2 * M.length + outerN 42 (fun i => M.getD i []) (List.range M.length) + 1) (v := v1.re t2 d2) hW1 hlow (fun J W => ?_)
    have key : ∀ g, KA (MNext Try.prog 47 v0.heap.size true ⟨fun b => v1.heap[b]? = some hid, Shut v1, W⟩ Post (2 * M.length + outerN 42 (fun i => M.getD i []) (List.range M.length) + 1) (view0 J)) g (v1.hide v0.heap.size) → MNext Try.prog 47 v0.heap.size true ⟨fun b => (v1.re t2 d2).heap[b]? = some hid, Shut (v1.re t2 d2), W⟩ Post (2 * M.length + outerN 42 (fun i => M.getD i []) (List.range M.length) + 1) (view0 J) g ((v1.re t2 d2).hide v0.heap.size) := fun g hg => hg t2 d2
    refine key _ ?_
    clear key
    obtain ⟨h6, h40⟩ := listsB_true hv
    have hFv : Flat Try.prog (v1.hide v0.heap.size) := (hF1.self.hide hlow).flat
    have hsv : (v1.hide v0.heap.size).heap.size = v0.heap.size + 1 := by rw [hide_size, hs1]
    have hbv : ∀ b, b < v0.heap.size → (v1.hide v0.heap.size).heap[b]? = v0.heap[b]? := fun b hb => by rw [hide_ne (by omega)]; exact hb1 b hb
    have hWv : (v1.hide v0.heap.size).heap[v0.heap.size]? = some hid := hide_same (by omega)
    have hBase : ∀ b, v1.heap[b]? = some hid → b < v0.heap.size ∧ v0.heap[b]? = some hid := fun b hb => by
      have hlt : b < v0.heap.size + 1 := by rw [← hs1]; exact (Array.getElem?_eq_some_iff.1 hb).1
      by_cases e : b = v0.heap.size
      · subst e
        have hW1' : v1.heap[v0.heap.size]? = some (Go.ConcR.wgBlock 47 0 0) := hW1
        rw [hW1'] at hb
        cases hb
      · exact ⟨by omega, by rw [← hb1 b (by omega)]; exact hb⟩
    have hBase2 : ∀ b, Shut v1 b → b < v0.heap.size ∧ Shut v0 b := fun b hb => by
      have hlt : b < v0.heap.size + 1 := by rw [← hs1]; exact hb.lt
      by_cases e : b = v0.heap.size
      · subst e
        have hW1' : v1.heap[v0.heap.size]? = some (Go.ConcR.wgBlock 47 0 0) := hW1
        unfold Go.ConcR.wgBlock at hW1'
        rcases hb with h1 | ⟨c, t, f, h1, h2⟩
        · rw [hW1'] at h1; cases h1
        · rw [hW1'] at h1
          simp only [Option.some.injEq, Obj.cells.injEq] at h1
          obtain ⟨rfl, rfl, rfl⟩ := h1
          have := (h2 0 (by simp)).2
          simp at this
      · exact ⟨by omega, hb.of_get (hb1 b (by omega)).symm⟩
    have hGv : OII (v1.hide v0.heap.size) B0 (.slice A M.length cap) V M := hG.blocks hbv
    generalize v1.hide v0.heap.size = v at hFv hsv hbv hWv hGv ⊢
    have hKm := kn_ok (P := Try.prog) (ty := 47) (Wg := v0.heap.size) (Base := ⟨fun b => v1.heap[b]? = some hid, Shut v1, W⟩) (Post := Post) (2 * M.length + outerN 42 (fun i => M.getD i []) (List.range M.length)) (view0 J)
    clear hK
    refine kSeq hKm hFv (kRegion hKm hFv ?_)
    refine kOp closedS.bodies hKm hFv (val := .slice A M.length cap) (by k_ne) rfl rfl (by kernel_rfl) (fun v₁ hv => by go_simp) ?_
    walk_nrm
    refine send_call (B0 := B0) (V := V) rfl rfl (by k_ne) rfl rfl rfl hFv hGv (by omega) hn2 hWv ⟨rfl, rfl⟩ (fun v' sv γ' bw hS => ?_)
    walk_nrm
    have hR := hS.rv
    have hF2 := hS.flat
    have hsrow := hS.row
    clear hKm
    have hK := kn_ok (P := Try.prog) (ty := 47) (Wg := v0.heap.size) (Base := ⟨fun b => v1.heap[b]? = some hid, Shut v1, W⟩) (Post := Post) (outerN 42 (fun i => M.getD i []) (List.range M.length)) γ'
    refine kOp closedS.bodies hK hF2 (val := sv) (by k_ne) rfl rfl (by kernel_rfl) (fun v₁ hv => by go_simp) ?_
    walk_nrm
    refine kRegEnd hK hF2 (kSeq hK hF2 ?_)
    refine kLift closedS hK hF2 (by kernel_rfl) (by k_ne) fun t3 => ?_
    go_wp2
    refine fun hF3 _ => ?_
    simp only [re_heap]
    have hs3 : ((v'.re t3 0).alloc (Obj.cells #[] 3)).heap.size = v'.heap.size + 1 := by rw [alloc_size, re_heap]
    have hb3 : ∀ b, b < v'.heap.size → ((v'.re t3 0).alloc (Obj.cells #[] 3)).heap[b]? = v'.heap[b]? := fun b hb => Below.heap_alloc (v'.re t3 0) _ b hb
    have hR3 := hR.world hF3 (by omega) (fun b hb => hb3 b (by have := hR.size; omega))
    have hov3 : ((v'.re t3 0).alloc (Obj.cells #[] 3)).ownsRow v.heap.size 51 1 sv (List.range M.length).length (chs γ'.c (List.range M.length)) := by
      rw [List.length_range, chs_range]
      exact own_blocks hsrow fun b hb => hb3 b (hsrow.lt b hb).2
    have hmv3 : ((v'.re t3 0).alloc (Obj.cells #[] 3)).ownsRow v.heap.size 3 1 (.slice (some ⟨v'.heap.size, 0, none⟩) 0 0) ([] : List Int).length (ints []) := own_mono (ownsRow_empty' (v'.re t3 0)) (by rw [re_heap]; exact hR.size)
    generalize ((v'.re t3 0).alloc (Obj.cells #[] 3)) = v3 at hF3 hs3 hb3 hR3 hov3 hmv3 ⊢
    have hout := around_outer (Base := ⟨fun b => v1.heap[b]? = some hid, Shut v1, W⟩) (Post := Post) (Wg := v0.heap.size) (wgp := .pointer (some ⟨v0.heap.size, 0, none⟩)) (N := 0) (C := γ'.c) (cs := b.at a (.inRegion ops (i :: rest) :: ks) :: cs) (aroundL M) ?_ 42 (fun i => M.getD i []) (List.range M.length) (around_ends h40) (by simp; omega) (fun i hi => List.mem_range.1 hi) (fun i hi => ?_) γ' v3 sv _ [] hR3 hov3 hmv3 rfl ?_
    · simp only [L8o, E8, body8, Try.f8, Option.getD_some, T8o] at hout
      refine kSeq hK hF3 (kBlock hK hF3 (kLoop hK hF3 ?_))
      exact hout _ _ _ _ _ _ _ _ _ _ _ _ _ _ _ _ _ _ _ _ _ _ _ _ _ _ _ _ _ _ _ _ _ _ _ _ _ _ _ _
    · intro γ'' u R mv hRu hE hmv ov x0 x1 x7 x8 x9 x10 x11 x12 x13 x14 x15 x16 x17 x18 x19 x20 x21 x22 x23 x24 x25 x26 x27 x28 x29 x30 x31 x32 x33 x34 x35 x36 x37 x38 x39 x40 x41 x42 x43 x44
      have hFu := hRu.flat
      have hK2 := kn_ok (P := Try.prog) (ty := 47) (Wg := v0.heap.size) (Base := ⟨fun b => v1.heap[b]? = some hid, Shut v1, W⟩) (Post := Post) 0 γ''
      simp only [E8, body8, Try.f8, Option.getD_some, T8o]
      refine kSeq hK2 hFu (kRegion hK2 hFu ?_)
      refine kn_wait_at rfl rfl (by k_ne) rfl rfl hRu hE (joined_of hF rfl hsv hbv hBase hBase2 hGv.len.symm hRu hmv fun vf hFf hbf hmvf => ?_)
      have hKw := wins_ok (P := Try.prog) (Post := Post)
      walk_nrm
      refine kRegEnd hKw hFf (kSeq hKw hFf (kRegion hKw hFf ?_))
      refine kOp closedS.bodies hKw hFf (val := mv) (by k_ne) rfl rfl (by kernel_rfl) (fun v₁ hv => by go_simp) ?_
      walk_nrm
      refine kOp closedS.bodies hKw hFf (val := mv) (by k_ne) rfl rfl (by kernel_rfl) (fun v₁ hv => by go_simp) ?_
      walk_nrm
      refine kOp closedS.bodies hKw hFf (val := .bool true) (by k_ne) rfl rfl (by kernel_rfl) (fun v₁ hv => by go_simp) ?_
      walk_nrm
      refine kRegEnd hKw hFf (kRet hKw hFf (kLeave2 hKw hFf rfl rfl Try.func8 rfl ?_))
      rw [hdst]
      rw [hv] at h
      have e : aL M = aroundL M := by simp [aL, hv]
      rw [e] at h
      exact h vf mv hFf hbf hmvf
    · show M.getD i [] = []
      rw [List.getD_eq_getElem?_getD, List.getElem?_eq_none (Nat.le_of_not_lt fun x => hi (List.mem_range.2 x))]; rfl
    · have := outerN_le 42 (fun i => M.getD i []) (List.range M.length)
      rw [List.length_range] at this
      simp only [List.length_nil]
      omega
end
end Go.Proofs.Ytoimhdhplebhgaa
