/-
  meetGuests: the workers go, the guests do what they do, the channels are closed.
-/
import Derived.Test.YthmgpkcijolljaaH19
import Derived.Test.YthmgpkcijolljaaH20
import Derived.Test.YthmgpkcijolljaaH4
namespace Go.Proofs.Ythmgpkcijolljaa
open Go.Conc Go.RowKit Go.Conc.Lib Go.ConcR.Gen
open Go.ConcN (upd upd_same upd_ne)
open Go.ConcR (KK WgAt stA smA rd wr mk DC0)
open Go.ChangeMaps
set_option linter.unusedSimpArgs false
set_option linter.unusedVariables false
section
variable {Base : BsP} {Post : Value → World → Prop} {v0 u : World} {A : Ad} {C : Nat → Nat} {F : Nat → List Int}
set_option maxRecDepth 100000 in
set_option maxHeartbeats 1000000 in
theorem spawn_loop {N : Nat} {cs : List Frame} {ls : Value} (hA : AdOk A) (hX : Base.X = payX A) (hl : ∀ q, (F q).length ≤ 100000)
  (h : ∀ u' C' γ' T', Mt v0 A A.n C' (fun _ => 0) (fun _ => []) nilX u' → Vw γ' A.n C' A.R F F → T'.size = 97 → T'.getD 1 undef = ls → T'.getD 7 undef = .pointer (some ⟨A.bg, 0, none⟩) → T'.getD 8 undef = .pointer (some ⟨A.Wg, 0, none⟩) → KA (MNext Try.prog 84 A.Wg false Base Post (N + 1) γ') (G ((Conc.base 35).at ⟨T', []⟩ [.code V35]) cs) u') :
  ∀ (m k : Nat), k + m = A.n → ∀ u C γ bi T, Mt v0 A k C (fun _ => 0) (fun _ => []) nilX u → Vw γ k C A.R F F → Blk u bi 3 #[.int .i64 ((k + 1 : Nat) : Int)] → bi ∉ A.all → A.B0 ≤ bi → HdP A ls bi A.Wg T →
   KA (MNext Try.prog 84 A.Wg false Base Post (2 * m + N + 1) γ) (G ((Conc.base 35).at ⟨T, []⟩ [.code L2, .inLoop L2, .inBlock 2, .code V35]) cs) u := by
 intro m
 induction m with
 | zero =>
  intro k hkm u C γ bi T hM hV hb hbf hlo hT
  obtain rfl : k = A.n := by omega
  have hF := hM.flat
  have hn5 := hA.n5
  rw [show 2 * 0 + N + 1 = N + 1 by omega]
  have hK := kn_ok (P := Try.prog) (ty := 84) (Wg := A.Wg) (Base := Base) (Post := Post) N γ
  have hc : u.cell? ⟨bi, 0, none⟩ = some (.int .i64 ((A.n + 1 : Nat) : Int)) := hb.cell 0
  have hle : ¬ (A.n : Int) + 1 ≤ (A.n : Int) := by omega
  have h' := fun T' => h u C γ T' hM hV
  clear h
  obtain ⟨hz, t0, t1, t7, t8, t9⟩ := hT
  obtain ⟨x0, x1, x2, x3, x4, x5, x6, x7, x8, x9, x10, x11, x12, x13, x14, x15, x16, x17, x18, x19, x20, x21, x22, x23, x24, x25, x26, x27, x28, x29, x30, x31, x32, x33, x34, x35, x36, x37, x38, x39, x40, x41, x42, x43, x44, x45, x46, x47, x48, x49, x50, x51, x52, x53, x54, x55, x56, x57, x58, x59, x60, x61, x62, x63, x64, x65, x66, x67, x68, x69, x70, x71, x72, x73, x74, x75, x76, x77, x78, x79, x80, x81, x82, x83, x84, x85, x86, x87, x88, x89, x90, x91, x92, x93, x94, x95, x96, rfl⟩ := arr97 hz
  obtain rfl : x0 = .int .i64 A.n := t0
  obtain rfl : x1 = ls := t1
  obtain rfl : x7 = .pointer (some ⟨A.bg, 0, none⟩) := t7
  obtain rfl : x8 = .pointer (some ⟨A.Wg, 0, none⟩) := t8
  obtain rfl : x9 = .pointer (some ⟨bi, 0, none⟩) := t9
  show KA _ (G ((Conc.base 35).at ⟨_, []⟩ (.code (.seq (.seq (.region 12 _ _) (.cond _ _ _)) _) :: _)) cs) u
  refine kSeq hK hF (kSeq hK hF (kRegion hK hF ?_))
  refine kOp closedS.bodies hK hF (val := .int .i64 ((A.n + 1 : Nat) : Int)) (by k_ne) rfl rfl (by kernel_rfl) (fun v₁ hv => by have := cell_up hv hc; go_simp <;> rfl) ?_
  walk_nrm
  refine kOp closedS.bodies hK hF (val := .int .i64 A.n) (by k_ne) rfl rfl (by kernel_rfl) (fun v₁ hv => by go_simp <;> rfl) ?_
  walk_nrm
  refine kOp closedS.bodies hK hF (val := .bool false) (by k_ne) rfl rfl (by kernel_rfl) (fun v₁ hv => by go_simp; try simp [hle]) ?_
  walk_nrm
  refine kRegEnd hK hF (kCond hK hF (t := false) (by rfl) ?_)
  simp only [Bool.false_eq_true, if_false]
  refine kExit hK hF (k' := _) (by rfl) ?_
  exact h' _ rfl rfl rfl rfl
 | succ m ih =>
  intro k hkm u C γ bi T hM hV hb hbf hlo hT
  have h1 := spawn_round (Base := Base) (Post := Post) (N := 2 * m + N) (cs := cs) (by omega) hM hA hX hV (hl _) hb hbf hlo hT (fun u' C' γ' bi' T' a1 a2 a3 a4 a5 a6 => ih (k + 1) (by omega) u' C' γ' bi' T' a1 a2 a3 a4 a5 a6)
  rw [show 2 * (m + 1) + N + 1 = 2 * m + N + 3 by omega]
  exact h1
theorem lr_nil : Lr [] (fun _ => []) = fun _ => [] := by
 funext b
 unfold Lr
 first | (split <;> rfl) | rfl | simp [rowI]
set_option maxRecDepth 100000 in
set_option maxHeartbeats 1000000 in
/-- ████ from the first worker to the join ████ -/
theorem talk_all {N : Nat} {cs : List Frame} {l : List Dd} {Al : Option Addr} {cp bi : Nat} {γ : View} {T : Array Value} (hRD : RD v0 v0.heap.size Al l) (hl : l.length ≤ 50) (hval : ∀ d ∈ l, SaidOk A.n d) (hA : AdOk A) (hX : Base.X = payX A) (hlF : ∀ q, (fut (fun _ => 0) l q).length ≤ 100000)
  (hM : Mt v0 A 0 C (fun _ => 0) (fun _ => []) nilX u) (hV : Vw γ 0 C A.R (fut (fun _ => 0) l) (fut (fun _ => 0) l)) (hb : Blk u bi 3 #[.int .i64 ((0 + 1 : Nat) : Int)]) (hbf : bi ∉ A.all) (hlo : A.B0 ≤ bi) (hT : HdP A (.slice Al l.length cp) bi A.Wg T)
  (h : ∀ u' C' X' γ' T' rows, Mt v0 A A.n C' (onEnd (fun _ => 0) l) (Lr (aloneF A.n (fun _ => 0) l) rows) X' u' → Vx γ' A.n C' A.R A.n (fut (fun _ => 0) l) → HdS A A.n A.Wg T' → KA (MNext Try.prog 84 A.Wg false Base Post (N + 1) γ') (G ((Conc.base 35).at ⟨T', []⟩ [.code E6]) cs) u') :
  KA (MNext Try.prog 84 A.Wg false Base Post (2 * A.n + (cost A.n (fun _ => 0) l + (A.n + N)) + 1) γ) (G ((Conc.base 35).at ⟨T, []⟩ [.code L2, .inLoop L2, .inBlock 2, .code V35]) cs) u := by
 refine spawn_loop (Base := Base) (Post := Post) (N := cost A.n (fun _ => 0) l + (A.n + N)) (cs := cs) hA hX hlF (fun u1 C1 γ1 T1 hM1 hV1 z1 e1 e7 e8 => ?_) A.n 0 (by omega) u C γ bi T hM hV hb hbf hlo hT
 have hF := hM1.flat
 have hK := kn_ok (P := Try.prog) (ty := 84) (Wg := A.Wg) (Base := Base) (Post := Post) (cost A.n (fun _ => 0) l + (A.n + N)) γ1
 have hMl : Mt v0 A A.n C1 (fun _ => 0) (Lr [] (fun _ => [])) nilX u1 := by rw [lr_nil]; exact hM1
 have hloop := fun T' hT' => ev_loop (Base := Base) (Post := Post) (Wg := A.Wg) (F := fut (fun _ => 0) l) (A := A) (C := C1) (cp := cp) (N := A.n + N) (cs := cs) (tot := aloneF A.n (fun _ => 0) l) (fin := onEnd (fun _ => 0) l) hRD hl hval hA
  (fun u2 X2 γ2 T2 rows hM2 hR2 hV2 hT2 => shut_all (Base := Base) (Post := Post) (Wg := A.Wg) (N := N) (cs := cs) hM2 hA hV2 hT2 (fun γ3 T3 hV3 hT3 => h u2 C1 X2 γ3 T3 rows hM2 hV3 hT3)) l 0 (by omega) rfl (fun _ => 0) (fun _ => []) [] nilX γ1 u1 T' hMl (RowsOk.none _) rfl (Nat.le_refl _) rfl rfl hT' hV1
 clear h
 have h55 : l.length = 0 ∨ (.slice Al l.length cp : Value) = .slice (some (Al.getD default)) l.length cp := by
  by_cases h0 : l.length = 0
  ·exact .inl h0
  ·obtain ⟨ad, rfl, _⟩ := hRD.at_ (k := 0) (by omega)
   exact .inr rfl
 obtain ⟨x0, x1, x2, x3, x4, x5, x6, x7, x8, x9, x10, x11, x12, x13, x14, x15, x16, x17, x18, x19, x20, x21, x22, x23, x24, x25, x26, x27, x28, x29, x30, x31, x32, x33, x34, x35, x36, x37, x38, x39, x40, x41, x42, x43, x44, x45, x46, x47, x48, x49, x50, x51, x52, x53, x54, x55, x56, x57, x58, x59, x60, x61, x62, x63, x64, x65, x66, x67, x68, x69, x70, x71, x72, x73, x74, x75, x76, x77, x78, x79, x80, x81, x82, x83, x84, x85, x86, x87, x88, x89, x90, x91, x92, x93, x94, x95, x96, rfl⟩ := arr97 z1
 obtain rfl : x1 = .slice Al l.length cp := e1
 obtain rfl : x7 = .pointer (some ⟨A.bg, 0, none⟩) := e7
 obtain rfl : x8 = .pointer (some ⟨A.Wg, 0, none⟩) := e8
 show KA _ (G ((Conc.base 35).at ⟨_, []⟩ (.code (.seq (.seq (.region 20 _ _) (.block 4 (.loop L4))) E4) :: _)) cs) u1
 refine kSeq hK hF (kSeq hK hF (kRegion hK hF ?_))
 refine kOp closedS.bodies hK hF (val := .slice Al l.length cp) (by k_ne) rfl rfl (by kernel_rfl) (fun v₁ hv => by go_simp <;> rfl) ?_
 walk_nrm
 refine kOp closedS.bodies hK hF (val := .int .i64 l.length) (by k_ne) rfl rfl (by kernel_rfl) (fun v₁ hv => by go_simp <;> rfl) ?_
 walk_nrm
 refine kOp closedS.bodies hK hF (val := .int .i64 (0 : Nat)) (by k_ne) rfl rfl (by kernel_rfl) (fun v₁ hv => by go_simp <;> rfl) ?_
 walk_nrm
 refine kRegEnd hK hF (kBlock hK hF (kLoop hK hF ?_))
 exact hloop _ ⟨rfl, rfl, rfl, h55, rfl, rfl⟩
end
end Go.Proofs.Ythmgpkcijolljaa
/-
  Behind the join of meetGuests: what has come of the gathering; Wait, and the return.
-/
namespace Go.Proofs.Ythmgpkcijolljaa
open Go.Conc Go.RowKit Go.Conc.Lib Go.ConcR.Gen
open Go.ConcN (upd upd_same upd_ne)
open Go.ConcR (KK WgAt stA smA rd wr mk DC0)
open Go.ChangeMaps
set_option linter.unusedSimpArgs false
set_option linter.unusedVariables false
theorem range_get {f : Nat → Obj} {n b : Nat} : ((Array.range n).map f)[b]? = if b < n then some (f b) else none := by
 rw [Array.getElem?_map, Array.getElem?_range]
 split <;> rfl
/-- What has come of the gathering. -/
structure Gd (v0 vf : World) (A : Ad) (on : Nat → Nat) (al : List Int) (F : Nat → List Int) : Prop where
 flat : Flat Try.prog vf
 old : Ups v0 vf
 b0 : A.B0 = v0.heap.size
 ok : AdOk A
 gat : ∃ x0, vf.heap[A.GA]? = some (.cells (gatC (A.n + 1) A.B A.N A.On A.Gm A.Ow A.H x0) 62 (0, 6)) ∧ vf.ownsRow A.B0 3 1 x0 al.length (ints al)
 bg : vf.cell? ⟨A.bg, 0, none⟩ = some (.pointer (some ⟨A.GA, 0, none⟩))
 onb : Blk vf A.On 68 (onArr A on)
 num : mcm vf A.N = true
 numg : ∀ j, j < 10 → mget vf A.N (A.ch j) = some (.int .i64 j)
 hb : ∃ cs, Blk vf A.H 32 cs ∧ cs.size = A.n + 1 ∧ cs[0]? = some (.slice none 0 0) ∧ ∀ k, k < A.n → ∃ y, cs[k + 1]? = some y ∧ vf.ownsRow A.B0 3 1 y (F (k + 1)).length (ints (F (k + 1)))
def sh : Obj → Obj
 | .cells c e _ => .cells c e (0, 0)
 | _ => hid
theorem sh_of {c : Array Value} {e : TypeId} {o : Obj} (h : Blq (.cells c e (0, 0)) o) : sh o = .cells c e (0, 0) ∧ Blq (sh o) o := by
 cases h with
 | cells _ _ _ f' hf => exact ⟨rfl, .cells _ _ _ _ hf⟩
section
variable {Base : BsP} {Post : Value → World → Prop} {v0 v u : World} {A : Ad} {C : Nat → Nat} {on : Nat → Nat} {L : Nat → List Int} {X : Nat → Value} {F : Nat → List Int} {γ : View} {g : Goroutine}
theorem joined_of (hA : AdOk A) (hM : Mt v0 A A.n C on L X u) (hV : Vx γ A.n C A.R A.n F) (hX : Base.X = payX A) (hR : A.R = v.heap.size) (hUv : Ups v0 v) (hBh : ∀ b, Base b → v.heap[b]? = some hid) (hBs : ∀ b, Base.shut b → Shut v b) (hall : ∀ q ∈ A.all, q < v.heap.size ∧ ¬ Shut v q)
  (h : ∀ vf, Gd v0 vf A on (L 0) F → KA (Wins Try.prog Post) g vf) : ∀ t d, Joined Try.prog A.Wg Base Post γ (u.re t d) g := by
 intro t d w hVw hP hdn
 have hsz : u.heap.size ≤ w.heap.size := hVw.size
 have hblk : ∀ (b : Nat) (o : Obj), u.heap[b]? = some o → ∃ o', w.heap[b]? = some o' ∧ Blq o o' := hVw.blk
 rw [hX] at hP hdn
 rw [hV.j] at hdn
 obtain ⟨cs, hH, hcs, hc0⟩ := hP
 have hH' : w.heap[A.H]? = some (.cells cs 32 (0, 0)) := hH
 have hcs' : cs.size = A.n + 1 := by rw [hcs]; simp [payX]
 obtain ⟨y, hy⟩ : ∃ y : Nat → Value, y = fun k => pcell (payX A) w k := ⟨_, rfl⟩
 have hyc : ∀ k, k < A.n → cs[k + 1]? = some (y k) := fun k hk => by
  have h1 : w.cell? ⟨A.H, k + 1, none⟩ = cs[k + 1]? := by simp [World.cell?, hH']
  have h2 : cs[k + 1]? = some (cs[k + 1]'(by omega)) := Array.getElem?_eq_getElem _
  rw [hy]
  show _ = some ((w.cell? ⟨A.H, k + 1, none⟩).getD undef)
  rw [h1, h2]; rfl
 have hrow : ∀ k, k < A.n → ∃ vk, Veil Try.prog vk w ∧ vk.ownsRow A.R 3 1 (y k) (F (k + 1)).length (ints (F (k + 1))) := fun k hk => by
  obtain ⟨vk, h1, h2⟩ := hdn k hk
  rw [hV.dn k hk] at h2
  rw [hy]
  exact ⟨vk, h1, h2⟩
 have hus : v0.heap.size ≤ u.heap.size := hM.old.size
 have hb0 := hM.b0
 obtain ⟨hBR, hRu⟩ := hM.rb
 obtain ⟨f, hf⟩ : ∃ f : Nat → Obj, f = fun b => if b < A.B0 then (u.heap[b]?).getD hid else if b = A.H then .cells cs 32 (0, 0) else if b ∈ A.all then (u.heap[b]?).getD hid
   else if (X 0).ownBlock = some b ∨ ((List.range A.n).any fun k => (y k).ownBlock == some b) = true then sh ((w.heap[b]?).getD hid) else hid := ⟨_, rfl⟩
 have hlo := hA.lo
 have fget : ∀ b, b < w.heap.size → ((Array.range w.heap.size).map f)[b]? = some (f b) := fun b hb => by rw [range_get, if_pos hb]
 have hlow : ∀ b, b < A.B0 → ((Array.range w.heap.size).map f)[b]? = u.heap[b]? := fun b hb => by
  rw [fget b (by omega), hf]
  dsimp only
  rw [if_pos hb, Array.getElem?_eq_getElem (by omega : b < u.heap.size)]; rfl
 have hal0 : ∀ b ∈ A.all, A.B0 ≤ b := fun b hb => by
  unfold Ad.all at hb
  simp only [List.mem_cons, List.not_mem_nil, or_false] at hb
  rcases hb with e | e | e | e | e | e | e | e | e <;> (rw [e]; omega)
 have hal : ∀ b ∈ A.all, b ≠ A.H → ((Array.range w.heap.size).map f)[b]? = u.heap[b]? := fun b hb hne => by
  have h1 := hM.all_lt hb
  have h2 := hal0 b hb
  rw [fget b (by omega), hf]
  dsimp only
  rw [if_neg (by omega), if_neg hne, if_pos hb, Array.getElem?_eq_getElem h1]; rfl
 have hHw : A.H < w.heap.size := (Array.getElem?_eq_some_iff.1 hH').1
 have hHb : ((Array.range w.heap.size).map f)[A.H]? = some (.cells cs 32 (0, 0)) := by
  rw [fget _ hHw, hf]
  dsimp only
  rw [if_neg (by have := hal0 A.H (mem_all (by simp)); omega), if_pos rfl]
 have hnall : ∀ b, A.R ≤ b → b ∉ A.all := fun b hb hm => by have := (hall b hm).1; omega
 -- a row of one of them, as it is seen by its owner
 have key : ∀ (z : World) (x : Value) (n : Nat) (xs : List Value), (∀ (b : Nat) (o : Obj), z.heap[b]? = some o → ∃ o', w.heap[b]? = some o' ∧ Blq o o') → z.ownsRow A.R 3 1 x n xs → (∀ b, x.ownBlock = some b → (X 0).ownBlock = some b ∨ ((List.range A.n).any fun k => (y k).ownBlock == some b) = true) → ∀ b, x.ownBlock = some b →
   b < w.heap.size ∧ f b = sh ((w.heap[b]?).getD hid) ∧ some (f b) = z.heap[b]? ∧ ∃ o', w.heap[b]? = some o' ∧ Blq (f b) o' := fun z x n xs hz hx hc b hb => by
  obtain ⟨c, hcell⟩ := own_cells hx hb
  obtain ⟨o', h1, h2⟩ := hz b _ hcell
  obtain ⟨e1, e2⟩ := sh_of h2
  have h3 := (hx.lt b hb).1
  have e3 : f b = sh ((w.heap[b]?).getD hid) := by
   rw [hf]
   dsimp only
   rw [if_neg (by omega), if_neg (fun e => hnall b h3 (mem_all (by simp [e]))), if_neg (hnall b h3), if_pos (hc b hb)]
  have e4 : f b = sh o' := by rw [e3, h1]; rfl
  refine ⟨(Array.getElem?_eq_some_iff.1 h1).1, e3, ?_, o', h1, ?_⟩
  ·rw [e4, e1, hcell]
  ·rw [e4]; exact e2
 have hX0 := key u (X 0) _ _ hblk (hM.row 0 (by omega)) (fun b hb => .inl hb)
 have hyk : ∀ k (hk : k < A.n) (vk : World), Veil Try.prog vk w → vk.ownsRow A.R 3 1 (y k) (F (k + 1)).length (ints (F (k + 1))) → ∀ b, (y k).ownBlock = some b → b < w.heap.size ∧ f b = sh ((w.heap[b]?).getD hid) ∧ some (f b) = vk.heap[b]? ∧ ∃ o', w.heap[b]? = some o' ∧ Blq (f b) o' := fun k hk vk h1 h2 =>
  key vk (y k) _ _ h1.blk h2 (fun b hb => .inr (List.any_eq_true.2 ⟨k, List.mem_range.2 hk, by simp [hb]⟩))
 have hblq : ∀ b, b < w.heap.size → ∃ o', w.heap[b]? = some o' ∧ Blq (f b) o' := fun b hb => by
  by_cases h1 : b < A.B0
  ·have h2 : b < u.heap.size := by omega
   have h3 := hlow b h1
   rw [fget b hb, Array.getElem?_eq_getElem h2] at h3
   rw [Option.some.inj h3]
   exact hblk b _ (Array.getElem?_eq_getElem h2)
  ·by_cases h2 : b = A.H
   ·subst h2
    have h3 := hHb
    rw [fget _ hb] at h3
    rw [Option.some.inj h3]
    exact ⟨_, hH', .cells _ _ _ _ ⟨fun _ x => x, fun x => x⟩⟩
   ·by_cases h3 : b ∈ A.all
    ·have h4 := hM.all_lt h3
     have h5 := hal b h3 h2
     rw [fget b hb, Array.getElem?_eq_getElem h4] at h5
     rw [Option.some.inj h5]
     exact hblk b _ (Array.getElem?_eq_getElem h4)
    ·by_cases h4 : (X 0).ownBlock = some b
     ·exact (hX0 b h4).2.2.2
     ·by_cases h5 : ((List.range A.n).any fun k => (y k).ownBlock == some b) = true
      ·obtain ⟨k, hk, hkb⟩ := List.any_eq_true.1 h5
       have hk' := List.mem_range.1 hk
       obtain ⟨vk, g1, g2⟩ := hrow k hk'
       exact (hyk k hk' vk g1 g2 b (by simpa using hkb)).2.2.2
      ·have e : f b = hid := by
        rw [hf]
        dsimp only
        rw [if_neg h1, if_neg h2, if_neg h3, if_neg (fun e => e.elim h4 h5)]
       rw [e]
       exact ⟨_, Array.getElem?_eq_getElem hb, .hid _⟩
 have hflat : Flat Try.prog { v0 with heap := (Array.range w.heap.size).map f } := by
  refine ⟨by rw [noGlobals]; exact Nat.zero_le _, fun b o e => ?_, fun b _ => by rw [noGlobals]; exact Nat.zero_le _⟩
  have e' : ((Array.range w.heap.size).map f)[b]? = some o := e
  have hb : b < w.heap.size := by
   rw [range_get] at e'
   split at e'
   ·assumption
   ·cases e'
  rw [fget b hb] at e'
  rw [← Option.some.inj e']
  obtain ⟨o', _, h2⟩ := hblq b hb
  generalize f b = z at h2 ⊢
  cases h2 <;> first | exact trivial | exact ⟨rfl, rfl⟩
 have hrest : ∀ b, A.B0 ≤ b → b < A.R → b ∉ A.all → ((Array.range w.heap.size).map f)[b]? = some hid := fun b h1 h2 h3 => by
  have hb : b < w.heap.size := by omega
  rw [fget b hb, hf]
  dsimp only
  rw [if_neg (by omega), if_neg (fun e => h3 (mem_all (by simp [e]))), if_neg h3, if_neg ?_]
  rintro (h4 | h4)
  ·have := ((hM.row 0 (by omega)).lt b h4).1; omega
  ·obtain ⟨k, hk, hkb⟩ := List.any_eq_true.1 h4
   obtain ⟨vk, g1, g2⟩ := hrow k (List.mem_range.1 hk)
   have := (g2.lt b (by simpa using hkb)).1
   omega
 have hUold : ∀ b, b < v0.heap.size → ((Array.range w.heap.size).map f)[b]? = v0.heap[b]? := fun b hb => (hlow b (by omega)).trans (hM.old.get b hb)
 have hne := hA.ne
 obtain ⟨⟨a1, a2, a3, a4, a5, a6, a7, a8⟩, ⟨b1, b2, b3, b4, b5, b6, b7⟩, ⟨c1, c2, c3, c4, c5, c6⟩, ⟨d1, d2, d3, d4, d5⟩, ⟨e1, e2, e3⟩⟩ := hne
 have nod := hA.nod
 simp only [List.nodup_cons, List.mem_cons, List.not_mem_nil, or_false, not_or] at nod
 have hNH : A.N ≠ A.H := by obtain ⟨_, _, ⟨_, _, _, h4, _⟩, _⟩ := nod; exact h4
 refine ⟨{ v0 with heap := (Array.range w.heap.size).map f }, ⟨by simp, fun b o e => ?_, hflat⟩, by simp, fun b hb hbw => ?_, ?_, fun b hb => ?_, ?_⟩
 ·have e' : ((Array.range w.heap.size).map f)[b]? = some o := e
  have hb : b < w.heap.size := by
   rw [range_get] at e'
   split at e'
   ·assumption
   ·cases e'
  rw [fget b hb] at e'
  rw [← Option.some.inj e']
  exact hblq b hb
 ·have h1 := hBh b hb
  have h2 : b < v.heap.size := (Array.getElem?_eq_some_iff.1 h1).1
  show ((Array.range w.heap.size).map f)[b]? = some hid
  by_cases h3 : b < A.B0
  ·rw [hUold b (by omega), ← hUv.get b (by omega)]; exact h1
  ·exact hrest b (by omega) (by omega) (fun hm => (hall b hm).2 (.inl h1))
 ·show ((Array.range w.heap.size).map f)[A.Wg]? = some hid
  rw [hal A.Wg (mem_all (by simp)) (Ne.symm e1)]
  exact hM.hWg
 ·have h1 := hBs b hb
  have h2 := h1.lt
  by_cases h3 : b < A.B0
  ·exact h1.of_get ((hUold b (by omega)).trans (hUv.get b (by omega)).symm)
  ·exact .inl (hrest b (by omega) (by omega) (fun hm => (hall b hm).2 h1))
 ·have hmb : ∀ q, q ∈ A.all → q ≠ A.H → ({ v0 with heap := (Array.range w.heap.size).map f } : World).heap[q]? = u.heap[q]? := hal
  refine (h _ ⟨hflat, ⟨by show v0.heap.size ≤ ((Array.range w.heap.size).map f).size; simp; omega, hUold⟩, hb0, hA, ⟨X 0, (hmb A.GA (mem_all (by simp)) a4).trans hM.gat, ?_⟩, ?_, (hmb A.On (mem_all (by simp)) b3).trans hM.onb, ?_, fun j hj => ?_, ⟨cs, hHb, hcs', ?_, fun k hk => ⟨y k, hyc k hk, ?_⟩⟩⟩).out
  ·refine own_mono (own_to (hM.row 0 (by omega)) fun b hb => ?_) hBR
   obtain ⟨g1, _, g3, _⟩ := hX0 b hb
   show ((Array.range w.heap.size).map f)[b]? = _
   rw [fget b g1]; exact g3
  ·obtain ⟨ff, hbg, _⟩ := hM.bg
   have h1 := (hmb A.bg (mem_all (by simp)) (Ne.symm e2)).trans hbg
   exact cell_of_heap h1
  ·rw [mcm_of_block (hmb A.N (mem_all (by simp)) hNH)]; exact hM.num
  ·rw [mget_of_block (hmb A.N (mem_all (by simp)) hNH)]; exact hM.numg j hj
  ·rw [hc0 0 (.inl rfl)]; simp [payX]
  ·obtain ⟨vk, g1, g2⟩ := hrow k hk
   refine own_mono (own_to g2 fun b hb => ?_) hBR
   obtain ⟨k1, _, k3, _⟩ := hyk k hk vk g1 g2 b hb
   show ((Array.range w.heap.size).map f)[b]? = _
   rw [fget b k1]; exact k3
/-- Wait, in a walk. -/
theorem kn_wait_at {N : Nat} {b : Frame} {a : Act} {k : List Item} {cs : List Frame} {ops : Array Oper} {i : Nat} {rest : List Nat} {o : Oper} {x : Operand} {ats : Array TypeId}
  (ho : ops[i]? = some o) (hw : Region.wanted o (yielded ops a.tmps) = true) (hk : b.kind ≠ .early) (hop : o.op = .call { callee := .value (.func 54), args := #[x], argTypes := ats }) (hx : a.eval x = .pointer (some ⟨A.Wg, 0, none⟩))
  (hF : Flat Try.prog u) (hV : Vx γ A.n C A.R A.n F)
  (h : ∀ t d, Joined Try.prog A.Wg Base Post γ (u.re t d) (G (b.at (a.put o.dst (.tuple #[])) (.inRegion ops rest :: k)) cs)) :
  KA (MNext Try.prog 84 A.Wg false Base Post (N + 1) γ) (G (b.at a (.inRegion ops (i :: rest) :: k)) cs) u := by
 have hK := kn_ok (P := Try.prog) (ty := 84) (Wg := A.Wg) (Base := Base) (Post := Post) N γ
 have hdst : (ops[i]?).bind (·.dst) = o.dst := by rw [ho]; rfl
 refine kCall hK hF ho hw hk hop wgLib.f_wait (nm_wait lk) rfl ?_
 simp only [List.map_toArray, List.map_cons, List.map_nil, hx]
 walk_nrmf waitFn
 refine kn_wait (gf := G (b.at (a.put ((ops[i]?).bind (·.dst)) (.tuple #[])) (.inRegion ops rest :: k)) cs) hV.owed (fun i hi => .inr ?_) (wg_wait wgLib) (fun Fin hFin g hg => wg_round wgLib hFin g hg) rfl ?_
 ·rw [hV.j] at hi
  exact ⟨⟨[.look, .put], by rw [hV.say i hi, hears_nil]⟩, by rw [hV.shut i hi]; simp [hi]⟩
 ·rw [hdst]; exact h
set_option maxRecDepth 100000 in
set_option maxHeartbeats 1000000 in
/-- Wait and the return. -/
theorem fin_f35 {N : Nat} {T : Array Value} {b : Frame} {a : Act} {ks : List Item} {cs : List Frame} {ops : Array Oper} {i : Nat} {rest : List Nat} {dst : Option Tmp} (hdst : (ops[i]?).bind (·.dst) = dst)
  (hA : AdOk A) (hM : Mt v0 A A.n C on L X u) (hV : Vx γ A.n C A.R A.n F) (hT : HdS A A.n A.Wg T) (hX : Base.X = payX A) (hR : A.R = v.heap.size) (hUv : Ups v0 v) (hBh : ∀ b, Base b → v.heap[b]? = some hid) (hBs : ∀ b, Base.shut b → Shut v b) (hall : ∀ q ∈ A.all, q < v.heap.size ∧ ¬ Shut v q)
  (h : ∀ vf, Gd v0 vf A on (L 0) F → KA (Wins Try.prog Post) (G (b.at (a.put dst (.pointer (some ⟨A.GA, 0, none⟩))) (.inRegion ops rest :: ks)) cs) vf) :
  KA (MNext Try.prog 84 A.Wg false Base Post (N + 1) γ) (G ((Conc.base 35).at ⟨T, []⟩ [.code E6]) (b.at a (.inRegion ops (i :: rest) :: ks) :: cs)) u := by
 have hF := hM.flat
 have hK := kn_ok (P := Try.prog) (ty := 84) (Wg := A.Wg) (Base := Base) (Post := Post) N γ
 obtain ⟨hz, t7, t8, t87, t88, t89⟩ := hT
 obtain ⟨x0, x1, x2, x3, x4, x5, x6, x7, x8, x9, x10, x11, x12, x13, x14, x15, x16, x17, x18, x19, x20, x21, x22, x23, x24, x25, x26, x27, x28, x29, x30, x31, x32, x33, x34, x35, x36, x37, x38, x39, x40, x41, x42, x43, x44, x45, x46, x47, x48, x49, x50, x51, x52, x53, x54, x55, x56, x57, x58, x59, x60, x61, x62, x63, x64, x65, x66, x67, x68, x69, x70, x71, x72, x73, x74, x75, x76, x77, x78, x79, x80, x81, x82, x83, x84, x85, x86, x87, x88, x89, x90, x91, x92, x93, x94, x95, x96, rfl⟩ := arr97 hz
 obtain rfl : x7 = .pointer (some ⟨A.bg, 0, none⟩) := t7
 obtain rfl : x8 = .pointer (some ⟨A.Wg, 0, none⟩) := t8
 simp only [E6, E4, V35, S35, body35, Try.f35, Option.getD_some]
 refine kSeq hK hF (kRegion hK hF ?_)
 refine kn_wait_at rfl rfl (by k_ne) rfl rfl hF hV (joined_of hA hM hV hX hR hUv hBh hBs hall fun vf hG => ?_)
 have hKw := wins_ok (P := Try.prog) (Post := Post)
 have hFf := hG.flat
 have hbg := hG.bg
 walk_nrm
 refine kRegEnd hKw hFf (kSeq hKw hFf (kRegion hKw hFf ?_))
 refine kOp closedS.bodies hKw hFf (val := .pointer (some ⟨A.GA, 0, none⟩)) (by k_ne) rfl rfl (by kernel_rfl) (fun v₁ hv => by have := cell_up hv hbg; go_simp <;> rfl) ?_
 walk_nrm
 refine kOp closedS.bodies hKw hFf (val := .pointer (some ⟨A.GA, 0, none⟩)) (by k_ne) rfl rfl (by kernel_rfl) (fun v₁ hv => by go_simp <;> rfl) ?_
 walk_nrm
 refine kRegEnd hKw hFf (kRet hKw hFf (kLeave1 hKw hFf rfl rfl Try.func35 rfl ?_))
 rw [hdst]
 exact h vf hG
end
end Go.Proofs.Ythmgpkcijolljaa
/-
  meetGuests: from the first worker to the return, beside leavers.
-/
namespace Go.Proofs.Ythmgpkcijolljaa
open Go.Conc Go.RowKit Go.Conc.Lib Go.ConcR.Gen
open Go.ConcN (upd upd_same upd_ne)
open Go.ConcR (KK WgAt stA smA rd wr mk DC0)
open Go.ChangeMaps
set_option linter.unusedSimpArgs false
set_option linter.unusedVariables false
def _root_.Go.World.setBlk (v : World) (b : Nat) (o : Obj) : World := { v with heap := v.heap.setIfInBounds b o }
theorem setBlk_same {v : World} {b : Nat} {o : Obj} (h : b < v.heap.size) : (v.setBlk b o).heap[b]? = some o := by simp [World.setBlk, h]
theorem setBlk_ne {v : World} {b c : Nat} {o : Obj} (h : c ≠ b) : (v.setBlk b o).heap[c]? = v.heap[c]? := by simp [World.setBlk, Array.getElem?_setIfInBounds_ne (fun e => h e.symm)]
theorem setBlk_size {v : World} {b : Nat} {o : Obj} : (v.setBlk b o).heap.size = v.heap.size := by simp [World.setBlk]
theorem setBlk_flat {v : World} {b : Nat} {o : Obj} (h : Flat Try.prog v) (ho : flat o) : Flat Try.prog (v.setBlk b o) := by
 refine ⟨by rw [noGlobals]; exact Nat.zero_le _, fun c o' e => ?_, fun c _ => by rw [noGlobals]; exact Nat.zero_le _⟩
 by_cases e' : c = b
 ·subst e'
  have hlt := (Array.getElem?_eq_some_iff.1 e).1
  rw [setBlk_size] at hlt
  rw [setBlk_same hlt] at e
  rw [← Option.some.inj e]; exact ho
 ·rw [setBlk_ne e'] at e; exact h.obj c o' e
/-- The gathering as it is when the first worker goes. -/
structure St0 (v0 v : World) (A : Ad) : Prop where
 flat : Flat Try.prog v
 old : Ups v0 v
 b0 : A.B0 = v0.heap.size
 r : A.R = v.heap.size
 ok : AdOk A
 gat : Blk v A.GA 62 (gatC (A.n + 1) A.B A.N A.On A.Gm A.Ow A.H (.slice none 0 0))
 bg : Blk v A.bg 56 #[.pointer (some ⟨A.GA, 0, none⟩)]
 br : Blk v A.B 68 (brArr A.ch 10)
 onb : Blk v A.On 68 (Array.replicate (A.n + 1) (.chan none))
 owb : Blk v A.Ow 68 (Array.replicate (A.n + 1) (.chan none))
 hH : Blk v A.H 32 (Array.replicate (A.n + 1) (.slice none 0 0))
 num : mcm v A.N = true
 numg : ∀ j, j < 10 → mget v A.N (A.ch j) = some (.int .i64 j)
 gm : v.heap[A.Gm]? = some (.map #[] 0)
 wg : WgAt 84 A.Wg v 0 0
theorem nodup9 {w : World} {GA B N On Gm Ow H Wg bg : Nat} {c1 c2 c3 c4 c5 c6 c7 : Array Value} (h1 : Blk w GA 62 c1) (h2 : Blk w B 68 c2) (h3 : mcm w N = true) (h4 : Blk w On 68 c3) (h5 : w.heap[Gm]? = some (.map #[] 0)) (h6 : Blk w Ow 68 c4)
  (h7 : Blk w H 32 c5) (h8 : Blk w Wg 84 c6) (h9 : Blk w bg 56 c7) (hne : B ≠ On ∧ B ≠ Ow ∧ On ≠ Ow ∧ Gm ≠ N) : [GA, B, N, On, Gm, Ow, H, Wg, bg].Nodup := by
 have cm : ∀ {g : Nat} {t : TypeId} {cs : Array Value}, Blk w g t cs → g ≠ N := fun h e => by
  unfold Blk at h
  unfold mcm at h3
  rw [← e, h] at h3
  cases h3
 have cg : ∀ {g : Nat} {t : TypeId} {cs : Array Value}, Blk w g t cs → g ≠ Gm := fun h e => by
  unfold Blk at h
  rw [e, h5] at h
  cases h
 obtain ⟨n1, n2, n3, n4⟩ := hne
 simp only [List.nodup_cons, List.mem_cons, List.not_mem_nil, or_false, not_or]
 exact ⟨⟨h1.ne_ h2 (by decide), cm h1, h1.ne_ h4 (by decide), cg h1, h1.ne_ h6 (by decide), h1.ne_ h7 (by decide), h1.ne_ h8 (by decide), h1.ne_ h9 (by decide)⟩,
  ⟨cm h2, n1, cg h2, n2, h2.ne_ h7 (by decide), h2.ne_ h8 (by decide), h2.ne_ h9 (by decide)⟩,
  ⟨(cm h4).symm, n4.symm, (cm h6).symm, (cm h7).symm, (cm h8).symm, (cm h9).symm⟩,
  ⟨cg h4, n3, h4.ne_ h7 (by decide), h4.ne_ h8 (by decide), h4.ne_ h9 (by decide)⟩,
  ⟨(cg h6).symm, (cg h7).symm, (cg h8).symm, (cg h9).symm⟩,
  ⟨h6.ne_ h7 (by decide), h6.ne_ h8 (by decide), h6.ne_ h9 (by decide)⟩,
  ⟨h7.ne_ h8 (by decide), h7.ne_ h9 (by decide)⟩, h8.ne_ h9 (by decide), not_false, List.nodup_nil⟩
/-- What is seen of it from now on. -/
def first (v : World) (A : Ad) : World := ((v.setBlk A.H hid).setBlk A.Wg hid).setBlk A.GA (.cells (gatC (A.n + 1) A.B A.N A.On A.Gm A.Ow A.H (.slice none 0 0)) 62 (0, 6))
section
variable {v0 v : World} {A : Ad}
theorem first_ne {q : Nat} (h1 : q ≠ A.H) (h2 : q ≠ A.Wg) (h3 : q ≠ A.GA) : (first v A).heap[q]? = v.heap[q]? := by
 unfold first
 rw [setBlk_ne h3, setBlk_ne h2, setBlk_ne h1]
theorem first_size : (first v A).heap.size = v.heap.size := by unfold first; rw [setBlk_size, setBlk_size, setBlk_size]
theorem St0.first_H (h : St0 v0 v A) : (first v A).heap[A.H]? = some hid := by
 obtain ⟨⟨a1, a2, a3, a4, a5, a6, a7, a8⟩, _, _, _, ⟨e1, e2, e3⟩⟩ := h.ok.ne
 unfold first
 rw [setBlk_ne (Ne.symm a4), setBlk_ne e1, setBlk_same h.hH.lt]
theorem St0.first_Wg (h : St0 v0 v A) : (first v A).heap[A.Wg]? = some hid := by
 obtain ⟨⟨a1, a2, a3, a4, a5, a6, a7, a8⟩, _, _, _, ⟨e1, e2, e3⟩⟩ := h.ok.ne
 unfold first
 rw [setBlk_ne (Ne.symm a5), setBlk_same (by rw [setBlk_size]; exact (Array.getElem?_eq_some_iff.1 h.wg).1)]
theorem St0.first_GA (h : St0 v0 v A) : (first v A).heap[A.GA]? = some (.cells (gatC (A.n + 1) A.B A.N A.On A.Gm A.Ow A.H (.slice none 0 0)) 62 (0, 6)) := by
 unfold first
 rw [setBlk_same (by rw [setBlk_size, setBlk_size]; exact h.gat.lt)]
theorem St0.first_flat (h : St0 v0 v A) : Flat Try.prog (first v A) := setBlk_flat (setBlk_flat (setBlk_flat h.flat ⟨rfl, rfl⟩) ⟨rfl, rfl⟩) trivial
theorem St0.first_veil (h : St0 v0 v A) : Veil Try.prog (first v A) v := by
 refine ⟨Nat.le_of_eq first_size, fun b o e => ?_, h.first_flat⟩
 have hb : b < v.heap.size := by have := (Array.getElem?_eq_some_iff.1 e).1; rwa [first_size] at this
 by_cases h3 : b = A.GA
 ·subst h3
  rw [h.first_GA] at e
  rw [← Option.some.inj e]
  exact ⟨_, h.gat, .cells _ _ _ _ ⟨fun i hi => absurd hi.2 (Nat.not_lt_zero _), fun _ => rfl⟩⟩
 ·by_cases h1 : b = A.H
  ·subst h1
   rw [h.first_H] at e
   rw [← Option.some.inj e]
   exact ⟨_, h.hH, .hid _⟩
  ·by_cases h2 : b = A.Wg
   ·subst h2
    rw [h.first_Wg] at e
    rw [← Option.some.inj e]
    exact ⟨_, h.wg, .hid _⟩
   ·rw [first_ne h1 h2 h3] at e
    exact ⟨o, e, flat_self (h.flat.obj b o e)⟩
theorem St0.pay (h : St0 v0 v A) : PayAt (payX A) A.Wg v (first v A) := by
 obtain ⟨⟨a1, a2, a3, a4, a5, a6, a7, a8⟩, _, _, _, ⟨e1, e2, e3⟩⟩ := h.ok.ne
 refine ⟨h.hH, by simp [payX], e1, h.first_H, ?_, ?_, a5, a4⟩
 ·exact h.gat.cell 5
 ·rintro ⟨_, h2⟩
  have h3 : (first v A).frozen? ⟨A.GA, 5, none⟩ = (decide ((0, 6).1 ≤ 5) && decide (5 < (0, 6).2)) := frozen?_true (a := ⟨A.GA, 5, none⟩) h.first_GA
  have h4 : (first v A).frozen? ⟨A.GA, 5, none⟩ = false := h2
  rw [h4] at h3
  simp at h3
theorem St0.lo (h : St0 v0 v A) {q : Nat} (hq : q < v0.heap.size) : q ≠ A.H ∧ q ≠ A.Wg ∧ q ≠ A.GA := by
 obtain ⟨l1, l2, l3, l4, l5, l6, l7, l8, l9⟩ := h.ok.lo
 have := h.b0
 omega
theorem St0.mt (h : St0 v0 v A) (C : Nat → Nat) : Mt v0 A 0 C (fun _ => 0) (fun _ => []) nilX (first v A) := by
 have nod := h.ok.nod
 simp only [List.nodup_cons, List.mem_cons, List.not_mem_nil, or_false, not_or] at nod
 obtain ⟨⟨x1, x2, x3, x4, x5, x6, x7, x8⟩, ⟨b1, b2, b3, b4, b5, b6, b7⟩, ⟨c1, c2, c3, c4, c5, c6⟩, ⟨d1, d2, d3, d4, d5⟩, ⟨y1, y2, y3, y4⟩, ⟨f1, f2, f3⟩, ⟨g1, g2⟩, g3, _⟩ := nod
 have hne : ∀ q, q ≠ A.H → q ≠ A.Wg → q ≠ A.GA → (first v A).heap[q]? = v.heap[q]? := fun q h1 h2 h3 => first_ne h1 h2 h3
 have hl := h.ok.lo
 have hB := h.b0
 have hR := h.r
 have hos := h.old.size
 refine ⟨h.first_flat, ⟨by omega, by rw [first_size]; omega⟩, h.b0, ⟨by rw [first_size]; exact h.old.size, fun b hb => ?_⟩, h.first_GA, ⟨_, (hne A.bg (Ne.symm g2) (Ne.symm g3) (Ne.symm x8)).trans h.bg, .inl rfl⟩, (hne A.B b5 b6 (Ne.symm x1)).trans h.br, ?_, ?_, ?_, fun j hj => ?_, ?_, fun b h1 h9 => ?_, fun b hb => ?_, fun b b' _ _ _ q hq => (by cases hq), h.first_H, h.first_Wg⟩
 ·obtain ⟨h1, h2, h3⟩ := h.lo hb
  exact (hne b h1 h2 h3).trans (h.old.get b hb)
 ·rw [onArr_none A h.ok.h0]
  exact (hne A.On d3 d4 (Ne.symm x3)).trans h.onb
 ·rw [owArr_none]
  exact (hne A.Ow f1 f2 (Ne.symm x5)).trans h.owb
 ·rw [mcm_of_block (hne A.N c4 c5 (Ne.symm x2))]; exact h.num
 ·rw [mget_of_block (hne A.N c4 c5 (Ne.symm x2))]; exact h.numg j hj
 ·rw [mcm_of_block (hne A.Gm y2 y3 (Ne.symm x4))]
  unfold mcm
  rw [h.gm]; rfl
 ·rw [mget_of_block (hne A.Gm y2 y3 (Ne.symm x4))]
  have : mget v A.Gm (A.ch b) = none := by unfold mget; rw [h.gm]; rfl
  rw [this]; rfl
 ·exact World.ownsRow_nil _ _ _ _
theorem St0.hall (h : St0 v0 v A) : ∀ q ∈ A.all, q < v.heap.size ∧ ¬ Shut v q := by
 have cell : ∀ {q : Nat} {t : TypeId} {cs : Array Value}, Blk v q t cs → 0 < cs.size → q < v.heap.size ∧ ¬ Shut v q := fun hq hs => by
  refine ⟨hq.lt, ?_⟩
  unfold Blk at hq
  rintro (h1 | ⟨c, e, f, h1, h2⟩)
  ·rw [hq] at h1; cases h1
  ·rw [hq] at h1
   simp only [Option.some.injEq, Obj.cells.injEq] at h1
   obtain ⟨rfl, rfl, rfl⟩ := h1
   exact absurd (h2 0 hs).2 (Nat.not_lt_zero _)
 have map : ∀ {q : Nat}, mcm v q = true → q < v.heap.size ∧ ¬ Shut v q := fun hq => by
  refine ⟨mcm_lt hq, ?_⟩
  unfold mcm at hq
  rintro (h1 | ⟨c, e, f, h1, h2⟩) <;> (rw [h1] at hq; cases hq)
 intro q hq
 unfold Ad.all at hq
 simp only [List.mem_cons, List.not_mem_nil, or_false] at hq
 rcases hq with rfl | rfl | rfl | rfl | rfl | rfl | rfl | rfl | rfl
 ·exact cell h.gat (by simp [gatC])
 ·exact cell h.br (by simp [brArr])
 ·exact map h.num
 ·exact cell h.onb (by simp)
 ·exact map (by unfold mcm; rw [h.gm]; rfl)
 ·exact cell h.owb (by simp)
 ·exact cell h.hH (by simp)
 ·exact cell (t := 84) (cs := #[.int .u64 0, .int .u32 0]) h.wg (by simp)
 ·exact cell h.bg (by simp)
theorem fut_len (on : Nat → Nat) (l : List Dd) (q : Nat) : (fut on l q).length ≤ l.length := by
 induction l generalizing on with
 | nil => exact Nat.le_refl _
 | cons d l ih =>
  unfold fut
  split
  ·split
   ·simp only [List.length_cons]; have := ih on; omega
   ·simp only [List.length_cons]; have := ih on; omega
  ·simp only [List.length_cons]; have := ih (onStep on d); omega
end
section
variable {Post : Value → World → Prop} {v0 v : World} {A : Ad}
set_option maxRecDepth 100000 in
set_option maxHeartbeats 1000000 in
/-- ████ from the first worker to the return ████ -/
theorem meet_talk {l : List Dd} {Al : Option Addr} {cp bi : Nat} {T : Array Value} {b : Frame} {a : Act} {ks : List Item} {cs : List Frame} {ops : Array Oper} {i : Nat} {rest : List Nat} {dst : Option Tmp} (hdst : (ops[i]?).bind (·.dst) = dst)
  (hS : St0 v0 v A) (hRD : RD v0 v0.heap.size Al l) (hl : l.length ≤ 50) (hval : ∀ d ∈ l, SaidOk A.n d) (hb : Blk v bi 3 #[.int .i64 ((0 + 1 : Nat) : Int)]) (hbf : bi ∉ A.all) (hlo : A.B0 ≤ bi) (hT : HdP A (.slice Al l.length cp) bi A.Wg T)
  (h : ∀ vf, Gd v0 vf A (onEnd (fun _ => 0) l) (aloneF A.n (fun _ => 0) l) (fut (fun _ => 0) l) → KA (Wins Try.prog Post) (G (b.at (a.put dst (.pointer (some ⟨A.GA, 0, none⟩))) (.inRegion ops rest :: ks)) cs) vf) :
  KA (Wins Try.prog Post) (G ((Conc.base 35).at ⟨T, []⟩ [.code L2, .inLoop L2, .inBlock 2, .code V35]) (b.at a (.inRegion ops (i :: rest) :: ks) :: cs)) v := by
 intro t2 d2
 refine wins_of_talk (ty := 84) (Wg := A.Wg) (st := false) (X := payX A) (n := 2 * A.n + (cost A.n (fun _ => 0) l + (A.n + 0)) + 1) (v := v.re t2 d2) (v1 := (first v A).re t2 d2) hS.wg ?_ (first_size) hS.first_Wg ?_ (fun J W => ?_)
 ·have h1 := hS.first_veil
  exact ⟨h1.size, h1.blk, ⟨h1.flat.room, h1.flat.obj, h1.flat.low⟩⟩
 ·have h1 := hS.pay
  exact ⟨h1.blk, h1.room, h1.hwg, h1.hid, h1.lkv, h1.lkw, h1.lwg, h1.lH⟩
 have key : KA (MNext Try.prog 84 A.Wg false ⟨⟨fun b => v.heap[b]? = some hid, Shut v, W⟩, payX A⟩ Post (2 * A.n + (cost A.n (fun _ => 0) l + (A.n + 0)) + 1) (view0 J)) (G ((Conc.base 35).at ⟨T, []⟩ [.code L2, .inLoop L2, .inBlock 2, .code V35]) (b.at a (.inRegion ops (i :: rest) :: ks) :: cs)) (first v A) := by
  refine talk_all (Base := ⟨⟨fun b => v.heap[b]? = some hid, Shut v, W⟩, payX A⟩) (Post := Post) (N := 0) (C := fun _ => 0) hRD hl hval hS.ok rfl (fun q => Nat.le_trans (fut_len _ l q) (by omega)) (hS.mt _) ⟨rfl, rfl, fun i hi => absurd hi (Nat.not_lt_zero _), fun i hi => absurd hi (Nat.not_lt_zero _), fun i hi => absurd hi (Nat.not_lt_zero _), fun i hi => absurd hi (Nat.not_lt_zero _)⟩ ?_ hbf hlo hT (fun u' C' X' γ' T' rows hM hV hT' => ?_)
  ·refine (first_ne ?_ ?_ ?_).trans hb
   ·exact fun e => hbf (e ▸ mem_all (by simp))
   ·exact fun e => hbf (e ▸ mem_all (by simp))
   ·exact fun e => hbf (e ▸ mem_all (by simp))
  ·exact fin_f35 (v := v) hdst hS.ok hM hV hT' rfl hS.r hS.old (fun b hb => hb) (fun b hb => hb) hS.hall (fun vf hG => h vf hG)
 exact key t2 d2
end
end Go.Proofs.Ythmgpkcijolljaa
/-
  meetGuests: the call.
-/
namespace Go.Proofs.Ythmgpkcijolljaa
open Go.Conc Go.RowKit Go.Conc.Lib Go.ConcR.Gen
open Go.ConcN (upd upd_same upd_ne)
open Go.ConcR (KK WgAt stA smA rd wr mk DC0)
open Go.ChangeMaps
set_option linter.unusedSimpArgs false
set_option linter.unusedVariables false
def okAll (p : Dd → Bool) (l : List Dd) : Bool := l.all p
theorem okAll_no {p : Dd → Bool} {l : List Dd} {k : Nat} (hk : k < l.length) (h : p l[k] = false) : okAll p l = false := by
 unfold okAll
 rw [List.all_eq_false]
 exact ⟨l[k], List.getElem_mem hk, by simp [h]⟩
theorem okAll_succ {p : Dd → Bool} {l : List Dd} {k : Nat} (hk : k < l.length) (h1 : okAll p (l.take k) = true) (h : p l[k] = true) : okAll p (l.take (k + 1)) = true := by
 unfold okAll at *
 rw [List.take_succ_eq_append_getElem hk, List.all_append, h1]
 simp [h]
def saidP (g : Int) (d : Dd) : Bool := saidB d.1.toList d.2.1 d.2.2 g
/-- what meetGuests takes -/
def meetB (g : Int) (l : List Dd) : Bool := decide (1 ≤ g ∧ g ≤ 5) && decide (l.length ≤ 50) && okAll (saidP g) l
theorem meetB_true {g : Int} {l : List Dd} (h : meetB g l = true) : 1 ≤ g ∧ g ≤ 5 ∧ l.length ≤ 50 ∧ ∀ d ∈ l, SaidOk g.toNat d := by
 unfold meetB okAll at h
 simp only [Bool.and_eq_true, decide_eq_true_eq, List.all_eq_true] at h
 obtain ⟨⟨⟨h1, h2⟩, h3⟩, h4⟩ := h
 refine ⟨h1, h2, h3, fun d hd => ?_⟩
 have h5 := h4 d hd
 unfold saidP at h5
 rw [saidB_rest ⟨h1, h2⟩] at h5
 unfold SaidOk
 rw [show ((g.toNat : Nat) : Int) = g by omega]
 exact h5
noncomputable def C9 : Code := match body35 with | .seq _ (.seq _ (.seq _ c)) => c | _ => .skip
section
variable {Post : Value → World → Prop} {v0 : World}
set_option maxRecDepth 100000 in
set_option maxHeartbeats 1000000 in
/-- behind the checks -/
theorem meet_make {n : Nat} {l : List Dd} {Al : Option Addr} {cp : Nat} {T : Array Value} {b : Frame} {a : Act} {ks : List Item} {cs : List Frame} {ops : Array Oper} {i : Nat} {rest : List Nat} {dst : Option Tmp} (hdst : (ops[i]?).bind (·.dst) = dst)
  (hF : Flat Try.prog v0) (hn : 1 ≤ n ∧ n ≤ 5) (hRD : RD v0 v0.heap.size Al l) (hl : l.length ≤ 50) (hval : ∀ d ∈ l, SaidOk n d) (hz : T.size = 97) (h0 : T.getD 0 undef = .int .i64 n) (h1 : T.getD 1 undef = .slice Al l.length cp)
  (h : ∀ vf A, A.n = n → Gd v0 vf A (onEnd (fun _ => 0) l) (aloneF n (fun _ => 0) l) (fut (fun _ => 0) l) → KA (Wins Try.prog Post) (G (b.at (a.put dst (.pointer (some ⟨A.GA, 0, none⟩))) (.inRegion ops rest :: ks)) cs) vf) :
  KA (Wins Try.prog Post) (G ((Conc.base 35).at ⟨T, []⟩ [.code C9]) (b.at a (.inRegion ops (i :: rest) :: ks) :: cs)) v0 := by
 have hK := wins_ok (P := Try.prog) (Post := Post)
 obtain ⟨x0, x1, x2, x3, x4, x5, x6, x7, x8, x9, x10, x11, x12, x13, x14, x15, x16, x17, x18, x19, x20, x21, x22, x23, x24, x25, x26, x27, x28, x29, x30, x31, x32, x33, x34, x35, x36, x37, x38, x39, x40, x41, x42, x43, x44, x45, x46, x47, x48, x49, x50, x51, x52, x53, x54, x55, x56, x57, x58, x59, x60, x61, x62, x63, x64, x65, x66, x67, x68, x69, x70, x71, x72, x73, x74, x75, x76, x77, x78, x79, x80, x81, x82, x83, x84, x85, x86, x87, x88, x89, x90, x91, x92, x93, x94, x95, x96, rfl⟩ := arr97 hz
 obtain rfl : x0 = .int .i64 n := h0
 obtain rfl : x1 = .slice Al l.length cp := h1
 show KA _ (G ((Conc.base 35).at ⟨_, []⟩ (.code (.seq (.region 9 _ _) (.seq (.region 10 _ _) (.seq (.seq (.region 11 _ _) (.block 2 (.loop L2))) V35))) :: _)) _) v0
 refine kSeq hK hF (kRegion hK hF ?_)
 refine kOp closedS.bodies hK hF (val := .int .i64 n) (by k_ne) rfl rfl (by kernel_rfl) (fun v₁ hv => by go_simp <;> rfl) ?_
 walk_nrm
 refine new_call hK rfl rfl (by k_ne) rfl rfl (by omega) hF (fun v GA B N On Gm Ow H ch hFv hP => ?_)
 walk_nrm
 have hP1 := hP
 refine kOpX closedS.bodies hK hFv (by k_ne) rfl rfl (by kernel_rfl) fun m hm hm2 t e => ⟨.value (.pointer (some ⟨((v.upto m).re t e).heap.size, 0, none⟩)), .pointer (some ⟨((v.upto m).re t e).heap.size, 0, none⟩), ((v.upto m).re t e).alloc (.cells #[.pointer none] 56), .inl rfl, ?_, (fun h => by cases h), fun hF1 _ => ?_⟩
 ·unfold execOp
  go_simp <;> rfl
 have hU : Ups v (((v.upto m).re t e).alloc (.cells #[.pointer none] 56)) := ((Ups.upto v m).re t e).trans (Ups.alloc _ _)
 have hB : Blk (((v.upto m).re t e).alloc (.cells #[.pointer none] 56)) ((v.upto m).re t e).heap.size 56 #[.pointer none] := Blk.new _ _ _
 have hqu : v.heap.size ≤ ((v.upto m).re t e).heap.size := ((Ups.upto v m).re t e).size
 generalize (((v.upto m).re t e).alloc (.cells #[.pointer none] 56)) = u1 at hF1 hU hB ⊢
 generalize ((v.upto m).re t e).heap.size = q at hB hqu ⊢
 walk_nrm
 refine kOpX closedS.bodies hK hF1 (by k_ne) rfl rfl (by kernel_rfl) fun m hm hm2 t e => ⟨.skip, undef, ((u1.upto m).re t e).setCell ⟨q, 0, none⟩ (.pointer (some ⟨GA, 0, none⟩)), .inr ⟨rfl, rfl⟩, ?_, (fun h => by cases h), fun hF2 _ => ?_⟩
 ·have hB' : Blk ((u1.upto m).re t e) q 56 #[.pointer none] := (((Ups.upto u1 m).re t e).get _ hB.lt).trans hB
  have b0 := hB'.cell 0
  have f0 := hB'.frozen 0
  simp at b0
  clear hm2 hB hB' h hP hP1 hRD hval
  unfold execOp
  go_simp
 have hB2 : Blk (((u1.upto m).re t e).setCell ⟨q, 0, none⟩ (.pointer (some ⟨GA, 0, none⟩))) q 56 #[.pointer (some ⟨GA, 0, none⟩)] := by
  have hB' : Blk ((u1.upto m).re t e) q 56 #[.pointer none] := (((Ups.upto u1 m).re t e).get _ hB.lt).trans hB
  exact hB'.set_ 0 _
 have hU2 : Ups v (((u1.upto m).re t e).setCell ⟨q, 0, none⟩ (.pointer (some ⟨GA, 0, none⟩))) := set_ups (hU.trans ((Ups.upto u1 m).re t e)) (a := ⟨q, 0, none⟩) hqu _
 generalize ((u1.upto m).re t e).setCell ⟨q, 0, none⟩ (.pointer (some ⟨GA, 0, none⟩)) = u2 at hF2 hB2 hU2
 clear hU hB hF1 hm
 walk_nrm
 refine kRegEnd hK hF2 (kSeq hK hF2 (kRegion hK hF2 ?_))
 -- the group
 refine kOpX closedS.bodies hK hF2 (by k_ne) rfl rfl (by kernel_rfl) fun m hm hm2 t e => ⟨.value (.pointer (some ⟨((u2.upto m).re t e).heap.size, 0, none⟩)), .pointer (some ⟨((u2.upto m).re t e).heap.size, 0, none⟩), ((u2.upto m).re t e).alloc (.cells #[.int .u64 0, .int .u32 0] 84), .inl rfl, ?_, (fun h => by cases h), fun hF3 _ => ?_⟩
 ·unfold execOp
  go_simp <;> rfl
 have hU3 : Ups u2 (((u2.upto m).re t e).alloc (.cells #[.int .u64 0, .int .u32 0] 84)) := ((Ups.upto u2 m).re t e).trans (Ups.alloc _ _)
 have hW3 : Blk (((u2.upto m).re t e).alloc (.cells #[.int .u64 0, .int .u32 0] 84)) ((u2.upto m).re t e).heap.size 84 #[.int .u64 0, .int .u32 0] := Blk.new _ _ _
 have hwu : u2.heap.size ≤ ((u2.upto m).re t e).heap.size := ((Ups.upto u2 m).re t e).size
 generalize (((u2.upto m).re t e).alloc (.cells #[.int .u64 0, .int .u32 0] 84)) = u3 at hF3 hU3 hW3 ⊢
 generalize ((u2.upto m).re t e).heap.size = Wg at hW3 hwu ⊢
 walk_nrm
 refine kRegEnd hK hF3 (kSeq hK hF3 (kSeq hK hF3 (kRegion hK hF3 ?_)))
 -- the index
 refine kOpX closedS.bodies hK hF3 (by k_ne) rfl rfl (by kernel_rfl) fun m hm hm2 t e => ⟨.value (.pointer (some ⟨((u3.upto m).re t e).heap.size, 0, none⟩)), .pointer (some ⟨((u3.upto m).re t e).heap.size, 0, none⟩), ((u3.upto m).re t e).alloc (.cells #[.int .i64 0] 3), .inl rfl, ?_, (fun h => by cases h), fun hF4 _ => ?_⟩
 ·unfold execOp
  go_simp <;> rfl
 have hU4 : Ups u3 (((u3.upto m).re t e).alloc (.cells #[.int .i64 0] 3)) := ((Ups.upto u3 m).re t e).trans (Ups.alloc _ _)
 have hI4 : Blk (((u3.upto m).re t e).alloc (.cells #[.int .i64 0] 3)) ((u3.upto m).re t e).heap.size 3 #[.int .i64 0] := Blk.new _ _ _
 have hiu : u3.heap.size ≤ ((u3.upto m).re t e).heap.size := ((Ups.upto u3 m).re t e).size
 generalize (((u3.upto m).re t e).alloc (.cells #[.int .i64 0] 3)) = u4 at hF4 hU4 hI4 ⊢
 generalize ((u3.upto m).re t e).heap.size = bi at hI4 hiu ⊢
 walk_nrm
 refine kOpX closedS.bodies hK hF4 (by k_ne) rfl rfl (by kernel_rfl) fun m hm hm2 t e => ⟨.skip, undef, ((u4.upto m).re t e).setCell ⟨bi, 0, none⟩ (.int .i64 1), .inr ⟨rfl, rfl⟩, ?_, (fun h => by cases h), fun hF5 _ => ?_⟩
 ·have hB' : Blk ((u4.upto m).re t e) bi 3 #[.int .i64 0] := (((Ups.upto u4 m).re t e).get _ hI4.lt).trans hI4
  have b0 := hB'.cell 0
  have f0 := hB'.frozen 0
  simp at b0
  clear hm2 hI4 hB' h hP hP1 hRD hval hB2 hW3
  unfold execOp
  go_simp
 have hI5 : Blk (((u4.upto m).re t e).setCell ⟨bi, 0, none⟩ (.int .i64 1)) bi 3 #[.int .i64 1] := by
  have hB' : Blk ((u4.upto m).re t e) bi 3 #[.int .i64 0] := (((Ups.upto u4 m).re t e).get _ hI4.lt).trans hI4
  exact hB'.set_ 0 _
 have hU5 : Ups u3 (((u4.upto m).re t e).setCell ⟨bi, 0, none⟩ (.int .i64 1)) := set_ups (hU4.trans ((Ups.upto u4 m).re t e)) (a := ⟨bi, 0, none⟩) hiu _
 generalize ((u4.upto m).re t e).setCell ⟨bi, 0, none⟩ (.int .i64 1) = u5 at hF5 hI5 hU5
 clear hU4 hI4 hF4 hm
 walk_nrm
 refine kRegEnd hK hF5 (kBlock hK hF5 (kLoop hK hF5 ?_))
 -- all is there
 have hUv : Ups v u5 := hU2.trans (hU3.trans hU5)
 have hbg5 : Blk u5 q 56 #[.pointer (some ⟨GA, 0, none⟩)] := ((hU3.trans hU5).get _ hB2.lt).trans hB2
 have hwg5 : Blk u5 Wg 84 #[.int .u64 0, .int .u32 0] := (hU5.get _ hW3.lt).trans hW3
 have up : ∀ {g : Nat} {t : TypeId} {cs : Array Value}, Blk v g t cs → Blk u5 g t cs := fun h => (hUv.get _ h.lt).trans h
 have hGm5 : u5.heap[Gm]? = some (.map #[] 0) := (hUv.get _ (Array.getElem?_eq_some_iff.1 hP.hGm).1).trans hP.hGm
 have hN5 : mcm u5 N = true := by rw [mcm_of_block (hUv.get _ (mcm_lt hP.hcm))]; exact hP.hcm
 have hs1 : v0.heap.size ≤ v.heap.size := hP.old.size
 have hs2 : v.heap.size ≤ u2.heap.size := hU2.size
 have hs3 : u2.heap.size ≤ u3.heap.size := hU3.size
 have hnod := nodup9 (up hP.hS) (up hP.hB) hN5 (up hP.hOn) hGm5 (up hP.hOw) (up hP.hH) hwg5 hbg5 hP.ne
 obtain ⟨l1, l2, l3, l4, l5, l6, l7⟩ := hP.lo
 have hS : St0 v0 u5 ⟨GA, B, N, On, Gm, Ow, H, Wg, q, n, v0.heap.size, u5.heap.size, ch⟩ := by
  refine ⟨hF5, hP.old.trans hUv, rfl, rfl, ⟨hn.1, hn.2, hP.h0, hP.inj, ⟨l1, l2, l3, l4, l5, l6, l7, by show v0.heap.size ≤ Wg; omega, by show v0.heap.size ≤ q; omega⟩, hnod⟩, up hP.hS, hbg5, up hP.hB, up hP.hOn, up hP.hOw, up hP.hH, hN5, fun j hj => ?_, hGm5, hwg5⟩
  show mget u5 N (ch j) = _
  rw [mget_of_block (hUv.get _ (mcm_lt hP.hcm))]
  exact hP.hget j hj
 have hbf : bi ∉ Ad.all ⟨GA, B, N, On, Gm, Ow, H, Wg, q, n, v0.heap.size, u5.heap.size, ch⟩ := by
  have lt3 : ∀ {g : Nat} {t : TypeId} {cs : Array Value}, Blk v g t cs → g < u3.heap.size := fun h => by have := h.lt; omega
  have k1 := lt3 hP.hS
  have k2 := lt3 hP.hB
  have k3 := lt3 hP.hOn
  have k4 := lt3 hP.hOw
  have k5 := lt3 hP.hH
  have k6 := mcm_lt hP.hcm
  have k7 := (Array.getElem?_eq_some_iff.1 hP.hGm).1
  have k8 := hW3.lt
  have k9 := hB2.lt
  unfold Ad.all
  simp only [List.mem_cons, List.not_mem_nil, or_false, not_or]
  refine ⟨?_, ?_, ?_, ?_, ?_, ?_, ?_, ?_, ?_⟩ <;> omega
 exact meet_talk hdst hS hRD hl hval hI5 hbf (by show v0.heap.size ≤ bi; omega) ⟨rfl, rfl, rfl, rfl, rfl, rfl⟩ (fun vf hG => h vf _ rfl hG)
set_option maxRecDepth 100000 in
set_option maxHeartbeats 4000000 in
/-- ████ meetGuests ████ -/
theorem meet_call {g : Int} {l : List Dd} {Al : Option Addr} {cp : Nat} {b : Frame} {a : Act} {ks : List Item} {cs : List Frame} {ops : Array Oper} {i : Nat} {rest : List Nat} {o : Oper} {x y : Operand} {ats : Array TypeId}
  (ho : ops[i]? = some o) (hw : Region.wanted o (yielded ops a.tmps) = true) (hk : b.kind ≠ .early) (hop : o.op = .call { callee := .value (.func 35), args := #[x, y], argTypes := ats }) (hx : a.eval x = .int .i64 g) (hy : a.eval y = .slice Al l.length cp)
  (hF : Flat Try.prog v0) (hRD : RD v0 v0.heap.size Al l) (hlen : l.length ≤ 1048576)
  (hbad : meetB g l = false → ∀ v', Flat Try.prog v' → Ups v0 v' → KA (Wins Try.prog Post) (G (b.at (a.put o.dst (.pointer none)) (.inRegion ops rest :: ks)) cs) v')
  (hok : meetB g l = true → ∀ v' vf A, Ups v0 v' → A.n = g.toNat → Gd v' vf A (onEnd (fun _ => 0) l) (aloneF g.toNat (fun _ => 0) l) (fut (fun _ => 0) l) → KA (Wins Try.prog Post) (G (b.at (a.put o.dst (.pointer (some ⟨A.GA, 0, none⟩))) (.inRegion ops rest :: ks)) cs) vf) :
  KA (Wins Try.prog Post) (G (b.at a (.inRegion ops (i :: rest) :: ks)) cs) v0 := by
 have hK := wins_ok (P := Try.prog) (Post := Post)
 have hdst : (ops[i]?).bind (·.dst) = o.dst := by rw [ho]; rfl
 refine kCall hK hF ho hw hk hop Try.func35 (by kernel_rfl) rfl ?_
 simp only [List.map_toArray, List.map_cons, List.map_nil, hx, hy]
 walk_nrmf Try.f35
 refine kSeq hK hF (kRegion hK hF ?_)
 refine kOp closedS.bodies hK hF (val := .pointer none) (by k_ne) rfl rfl (by kernel_rfl) (fun v₁ hv => by go_simp <;> rfl) ?_
 walk_nrm
 refine kRegEnd hK hF (kSeq hK hF (kSeq hK hF ?_))
 refine kLift closedS hK hF (by kernel_rfl) (by k_ne) fun t1 => ?_
 by_cases h1 : g < 1
 ·have hm : meetB g l = false := by unfold meetB; simp; omega
  have Hb := Lib.hid (hbad hm)
  clear hbad hok hm
  generalize hQ : Behind _ _ _ _ _ = Q
  go_wp2
  subst hQ
  refine fun _ _ => KA.re ?_
  refine kCond hK hF (t := true) (by rfl) ?_
  simp only [if_true]
  refine kSeq hK hF (kRegion hK hF ?_)
  refine kOp closedS.bodies hK hF (val := .pointer none) (by k_ne) rfl rfl (by kernel_rfl) (fun v₁ hv => by go_simp <;> rfl) ?_
  walk_nrm
  refine kRegEnd hK hF (kRet hK hF (kLeave1 hK hF rfl rfl Try.func35 rfl ?_))
  rw [hdst]
  exact Hb.out v0 hF (Ups.refl _)
 by_cases h2 : 5 < g
 ·have hm : meetB g l = false := by unfold meetB; simp; omega
  have Hb := Lib.hid (hbad hm)
  clear hbad hok hm
  generalize hQ : Behind _ _ _ _ _ = Q
  go_wp2
  subst hQ
  refine fun _ _ => KA.re ?_
  refine kCond hK hF (t := true) (by rfl) ?_
  simp only [if_true]
  refine kSeq hK hF (kRegion hK hF ?_)
  refine kOp closedS.bodies hK hF (val := .pointer none) (by k_ne) rfl rfl (by kernel_rfl) (fun v₁ hv => by go_simp <;> rfl) ?_
  walk_nrm
  refine kRegEnd hK hF (kRet hK hF (kLeave1 hK hF rfl rfl Try.func35 rfl ?_))
  rw [hdst]
  exact Hb.out v0 hF (Ups.refl _)
 by_cases h3 : 50 < l.length
 ·have hm : meetB g l = false := by unfold meetB; simp; omega
  have Hb := Lib.hid (hbad hm)
  have h3' : (50 : Int) < (l.length : Int) := by omega
  clear hbad hok hm
  generalize hQ : Behind _ _ _ _ _ = Q
  go_wp2
  subst hQ
  refine fun _ _ => KA.re ?_
  refine kCond hK hF (t := true) (by rfl) ?_
  simp only [if_true]
  refine kSeq hK hF (kRegion hK hF ?_)
  refine kOp closedS.bodies hK hF (val := .pointer none) (by k_ne) rfl rfl (by kernel_rfl) (fun v₁ hv => by go_simp <;> rfl) ?_
  walk_nrm
  refine kRegEnd hK hF (kRet hK hF (kLeave1 hK hF rfl rfl Try.func35 rfl ?_))
  rw [hdst]
  exact Hb.out v0 hF (Ups.refl _)
 have h3' : ¬ (50 : Int) < (l.length : Int) := by omega
 obtain ⟨n, rfl⟩ : ∃ n : Nat, g = n := ⟨g.toNat, by omega⟩
 have hmk := fun (T : Array Value) (v' : World) (hu : Ups v0 v') (hFv : Flat Try.prog v') (hall : okAll (saidP n) l = true) (hz : T.size = 97) (a0 : T.getD 0 undef = .int .i64 n) (a1 : T.getD 1 undef = .slice Al l.length cp) => by
  have hm : meetB n l = true := by unfold meetB; rw [hall]; simp; omega
  obtain ⟨b1, b2, b3, b4⟩ := meetB_true hm
  rw [show ((n : Nat) : Int).toNat = n by omega] at b4
  have hRDv : RD v' v'.heap.size Al l := (hRD.keep fun p hp => by rw [World.cell?_of_block (w := v0) (hu.get p.block hp)]).more hu.size
  exact meet_make (Post := Post) (n := n) (l := l) (cs := cs) (ks := ks) (rest := rest) (cp := cp) (b := b) (a := a) hdst hFv (by omega) hRDv (by omega) b4 hz a0 a1 (fun vf A hA hG => hok hm v' vf A hu (by rw [hA]; omega) (by rw [show ((n : Nat) : Int).toNat = n by omega]; exact hG))
 have Hmk := Lib.hid hmk
 have Hb := Lib.hid (fun h : okAll (saidP n) l = false => hbad (by unfold meetB; rw [h]; simp))
 clear hbad hok hmk
 generalize hQ : Behind _ _ _ _ _ = Q
 go_wp2
 subst hQ
 refine fun _ _ => KA.re ?_
 refine kCond hK hF (t := false) (by rfl) ?_
 simp only [Bool.false_eq_true, if_false]
 refine kSkip hK hF (kSeq hK hF ?_)
 refine kLift closedS hK hF (by kernel_rfl) (by k_ne) fun t2 => ?_
 have hR2 : RD (v0.re t2 0) (v0.re t2 0).heap.size Al l := hRD
 generalize hQ : Behind _ _ _ _ _ = Q
 go_wp2
 go_loopw [28, 4, 6] (fun iv rv _ wr => ∃ k : Nat, k ≤ l.length ∧ iv = .int .i64 k ∧ rv = .pointer none ∧ okAll (saidP n) (l.take k) = true ∧ Below (v0.re t2 0).heap.size (v0.re t2 0) wr) (fun iv _ _ _ => l.length - (intOf iv).toNat)
 case atStart => exact ⟨0, Nat.zero_le _, rfl, rfl, by simp [okAll], Below.refl _ _⟩
 case round =>
  obtain ⟨k, hk1, rfl, rfl, hall, hbel⟩ := hrel
  by_cases hlt : k < l.length
  ·obtain ⟨ad, rfl, hb, c1, c2, c3⟩ := (hR2.below hbel).at_ hlt
   have Hs := Lib.hid (okAll_succ hlt hall)
   have Hf := Lib.hid (okAll_no (p := saidP n) hlt)
   clear hall
   obtain ⟨d, hd⟩ : ∃ d, l[k] = d := ⟨_, rfl⟩
   rw [hd] at c1 c2 c3 Hs Hf
   obtain ⟨s, z, z'⟩ := d
   clear hd hRD hR2
   have hp : Hid (saidP n (s, z, z') = saidB s.toList z z' n) := Lib.hid rfl
   simp only at c1 c2 c3
   have hs := hbel.size
   have hbs := hbel.alloc hs (.cells #[.string s, .int .i64 z, .int .i64 z'] 41)
   cases h5 : saidB s.toList z z' n
   ·have E := Lib.hid (Hf.out (by rw [hp.out, h5]))
    go_wp2_with (go_at_call 47; refine (iSaidValid_any _ _ _ _ _).mono ?_; rintro e w1 ⟨rfl, hb1⟩)
    subst hQ
    refine fun todo hFx _ => ?_
    refine kLeave1 hK hFx rfl rfl Try.func35 rfl ?_
    rw [hdst]
    have hbb := hbs.trans (hb1.mono (by simp; omega))
    exact Hb.out E.out _ hFx ⟨hbb.size, hbb.block⟩
   ·go_wp2_with (go_at_call 47; refine (iSaidValid_any _ _ _ _ _).mono ?_; rintro e w1 ⟨rfl, hb1⟩)
    go_roundw
    case rel => exact ⟨k + 1, by omega, by go_num, rfl, Hs.out (by rw [hp.out, h5]), hbs.trans (hb1.mono (by simp; omega))⟩
    case measure => simp [intOf]; omega
  ·have hk' : k = l.length := by omega
   have Hall2 : Hid (okAll (saidP n) l = true) := by rw [hk', List.take_length] at hall; exact Lib.hid hall
   clear hall hk' hRD hR2
   go_wp2
   subst hQ
   refine fun hFx _ => ?_
   exact Hmk.out _ _ ⟨hbel.size, hbel.block⟩ hFx Hall2.out rfl rfl rfl
end
end Go.Proofs.Ythmgpkcijolljaa
