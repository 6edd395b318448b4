/-
  sendLists: for each list a channel, an Add, a worker.
-/
import Derived.Test.YtoimhdhplebhgaaKNext
import Derived.Test.YtoimhdhplebhgaaG11
import Derived.Test.YtoimhdhplebhgaaG3
import Derived.Test.YtoimhdhplebhgaaG4
import Derived.Test.YtoimhdhplebhgaaKOii
namespace Go.Proofs.Ytoimhdhplebhgaa
open Go.Conc Go.RowKit Go.Conc.Lib Go.ConcR.Gen
open Go.ConcN (upd upd_same upd_ne)
open Go.ConcR (KK WgAt stA smA rd wr mk DC0)
set_option linter.unusedSimpArgs false
set_option linter.unusedVariables false

theorem doneOk (Wg : Nat) : DoneOk Wg := fun c cs qt hm hT => wg_done wgLib hm hT
theorem noGlobals : Try.prog.globals.size = 0 := by kernel_rfl
theorem chan_info : (Try.prog.info? 51).map (fun i => (i.zero, i.size, i.bytes)) = some (some (Value.chan none), 1, 8) := by kernel_rfl
/-- What a worker leaves behind: the row it has read, as it was. -/
def DnOf (v : World) (x : Value) (u : World) : Prop := ∀ b o, x.ownBlock = some b → v.heap[b]? = some o → u.heap[b]? = some o
theorem DnOf.re {v : World} {x : Value} (u : World) (t : Nat → Question → Nat) (d : Nat) (h : DnOf v x (u.re t d)) : DnOf v x u := h
theorem DnOf.to_re {v : World} {x : Value} (u : World) (t : Nat → Question → Nat) (d : Nat) (h : DnOf v x u) : DnOf v x (u.re t d) := h
theorem DnOf.upto {v : World} {x : Value} (u : World) (n : Nat) (hF : Flat Try.prog u) (h : DnOf v x u) : DnOf v x (u.upto n) := fun b o h1 h2 => by
  have h3 := h b o h1 h2
  rw [upto_get (Array.getElem?_eq_some_iff.1 h3).1]; exact h3
def chansOf (c : Nat → Nat) (n : Nat) : List Value := (List.range n).map fun i => Value.chan (some (c i))
theorem chansOf_succ (c : Nat → Nat) (n x : Nat) : chansOf (upd c n x) (n + 1) = chansOf c n ++ [.chan (some x)] := by
  unfold chansOf
  rw [List.range_succ, List.map_append, List.map_cons, List.map_nil, upd_same]
  congr 1
  refine List.map_congr_left fun i hi => ?_
  rw [upd_ne _ _ (by have := List.mem_range.1 hi; omega)]
def View.went (γ : View) (c : Nat) (says : List Say) (dn : World → Prop) : View := { γ with j := γ.j + 1, c := upd γ.c γ.j c, σ := upd γ.σ γ.j says, shut := upd γ.shut γ.j false, dn := upd γ.dn γ.j dn, owed := 0 }
/-- k lists have their workers. -/
structure Sl (v : World) (V : List Value) (M : List (List Int)) (Wg bw : Nat) (γ : View) (k : Nat) (sv : Value) (u : World) : Prop where
  flat : Flat Try.prog u
  size : v.heap.size ≤ u.heap.size
  bw : v.heap.size ≤ bw ∧ ∃ f, u.heap[bw]? = some (.cells #[.pointer (some ⟨Wg, 0, none⟩)] 50 f) ∧ (f = (0, 0) ∨ f = (0, 1))
  blk : ∀ b, b < v.heap.size → u.heap[b]? = v.heap[b]? ∨ (u.heap[b]? = some hid ∧ ∃ i x, i < k ∧ V[i]? = some x ∧ x.ownBlock = some b)
  row : u.ownsRow v.heap.size 51 1 sv k (chansOf γ.c k)
  j : γ.j = k
  owed : γ.owed = 0
  shut : ∀ i, i < k → γ.shut i = false
  say : ∀ i (h : i < M.length), i < k → γ.σ i = says M[i]
  dn : ∀ i x, i < k → V[i]? = some x → γ.dn i = DnOf v x
def T24 (A : Option Addr) (n cap : Nat) (wg : Value) (bw : Nat) (sv : Value) (k : Nat) (x6 x7 x8 x9 x10 x11 x15 x16 x17 x18 x19 x20 x21 x22 x23 x24 x25 x26 x27 : Value) : Array Value :=
  #[.slice A n cap, wg, undef, .pointer (some ⟨bw, 0, none⟩), .slice none 0 0, sv, x6, x7, x8, x9, x10, x11, .slice A n cap, .int .i64 n, .int .i64 k, x15, x16, x17, x18, x19, x20, x21, x22, x23, x24, x25, x26, x27]
noncomputable def body24 : Code := Try.f24.body.getD .skip
noncomputable def L24 : Code := match body24 with | .seq _ (.seq _ (.seq (.seq _ (.block _ (.loop c))) _)) => c | _ => .skip
noncomputable def E24 : Code := match body24 with | .seq _ (.seq _ (.seq _ c)) => c | _ => .skip
theorem Sl.keepRow {v u : World} {V : List Value} {M : List (List Int)} {Wg bw : Nat} {γ : View} {k : Nat} {sv : Value} (h : Sl v V M Wg bw γ k sv u) {base n sz : Nat} {e : TypeId} {x : Value} {xs : List Value} (hr : v.ownsRow base e sz x n xs)
    (ha : ∀ i y, i < k → V[i]? = some y → ∀ b, y.ownBlock = some b → x.ownBlock ≠ some b) : u.ownsRow base e sz x n xs := by
  refine own_blocks hr fun b hb => ?_
  rcases h.blk b (hr.lt b hb).2 with h1 | ⟨_, i, y, hi, hy, h2⟩
  · exact h1
  · exact absurd hb (ha i y hi hy b h2)
theorem mkChan (W : World) : (Instr.makeChan 51 (.int .i64 0)).run Try.prog W = .ok (.chan (some W.heap.size)) (W.alloc (.chan 0 #[] false 0 0 false)) := by
  obtain ⟨i, hi, hz0, hz1, hz2⟩ := info_parts int_info
  exact run_makeChan (P := Try.prog) (w := W) Try.underlying51 hi .i64 0 (by omega) (by omega)
theorem re_heap (v : World) (t : Nat → Question → Nat) (d : Nat) : (v.re t d).heap = v.heap := rfl
theorem alloc_size (v : World) (o : Obj) : (v.alloc o).heap.size = v.heap.size + 1 := by simp
/-- Who sees what behind a go statement. -/
def mMain (c bs bl bw : Nat) (r : Option Nat) (b : Nat) : Vis := if b = c ∨ b = bs ∨ b = bl ∨ r = some b then .hide else if b = bw then .froz else .own
def mWork (bs bl bw : Nat) (r : Option Nat) (b : Nat) : Vis := if b = bs ∨ b = bl ∨ r = some b then .own else if b = bw then .froz else .hide
theorem cell_of_heap {w : World} {b i : Nat} {cs : Array Value} {e : TypeId} {f : Nat × Nat} (h : w.heap[b]? = some (.cells cs e f)) : w.cell? ⟨b, i, none⟩ = cs[i]? := by
  simp [World.cell?, h]
theorem Sl.next {v u w : World} {V : List Value} {M : List (List Int)} {Wg bw : Nat} {γ : View} {k : Nat} {sv sv' : Value} {bl c bs : Nat} {x : Value} (h : Sl v V M Wg bw γ k sv u) (hk : k < M.length) (hx : V[k]? = some x)
    (hlt : ∀ b, x.ownBlock = some b → b < v.heap.size) (hF : Flat Try.prog w) (h1 : u.heap.size ≤ bl) (h2 : u.heap.size ≤ c) (h3 : u.heap.size ≤ bs) (hsz : u.heap.size ≤ w.heap.size) (hlt3 : bl < w.heap.size ∧ c < w.heap.size ∧ bs < w.heap.size) (hb : ∀ b, b < u.heap.size → sv.ownBlock ≠ some b → w.heap[b]? = u.heap[b]?)
    (hrow : w.ownsRow v.heap.size 51 1 sv' (k + 1) (chansOf γ.c k ++ [.chan (some c)])) (hr2 : ∀ b, sv'.ownBlock = some b → b ≠ bl ∧ b ≠ c ∧ b ≠ bs) (hbwr : sv'.ownBlock ≠ some bw ∧ sv.ownBlock ≠ some bw) :
    Sl v V M Wg bw (View.went { γ with owed := 1 } c (says M[k]) (DnOf v x)) (k + 1) sv' (w.mask (mMain c bs bl bw x.ownBlock)) := by
  have hvu := h.size
  have hbwl := h.bw.1
  have hbwu : bw < u.heap.size := by obtain ⟨f, h4, _⟩ := h.bw.2; exact (Array.getElem?_eq_some_iff.1 h4).1
  have hj := h.j
  refine ⟨hF.mask noGlobals, by rw [mask_size]; omega, ⟨hbwl, ?_⟩, fun b hbv => ?_, ?_, by show γ.j + 1 = _; rw [hj], rfl, fun i hi => ?_, fun i hi1 hi => ?_, fun i y hi hy => ?_⟩
  · obtain ⟨f, h4, h5⟩ := h.bw.2
    have h6 : w.heap[bw]? = some (.cells #[.pointer (some ⟨Wg, 0, none⟩)] 50 f) := (hb bw hbwu hbwr.2).trans h4
    have hm : mMain c bs bl bw x.ownBlock bw = .froz := by
      unfold mMain
      rw [if_neg, if_pos rfl]
      rintro (e | e | e | e)
      · omega
      · omega
      · omega
      · have := hlt bw e; omega
    refine ⟨_, mask_froz hm h6, ?_⟩
    rcases h5 with rfl | rfl
    · exact .inr rfl
    · exact .inr rfl
  · have hne : sv.ownBlock ≠ some b := fun e => by have := (h.row.lt b e).1; omega
    by_cases hxb : x.ownBlock = some b
    · refine .inr ⟨mask_hide (by unfold mMain; rw [if_pos (.inr (.inr (.inr hxb)))]) (by omega), k, x, by omega, hx, hxb⟩
    · have hm : mMain c bs bl bw x.ownBlock b = .own := by
        unfold mMain
        rw [if_neg, if_neg (by omega)]
        rintro (e | e | e | e)
        · omega
        · omega
        · omega
        · exact hxb e
      rw [mask_own hm, hb b (by omega) hne]
      rcases h.blk b hbv with h4 | ⟨h4, i, y, hi, hy, h5⟩
      · exact .inl h4
      · exact .inr ⟨h4, i, y, by omega, hy, h5⟩
  · have e : chansOf (upd γ.c γ.j c) (k + 1) = chansOf γ.c k ++ [.chan (some c)] := by rw [hj]; exact chansOf_succ _ _ _
    show (w.mask _).ownsRow v.heap.size 51 1 sv' (k + 1) (chansOf (upd γ.c γ.j c) (k + 1))
    rw [e]
    refine own_blocks hrow fun b hb' => mask_own ?_
    have h7 := (hrow.lt b hb').1
    obtain ⟨h8, h9, h10⟩ := hr2 b hb'
    unfold mMain
    rw [if_neg, if_neg (fun e : b = bw => hbwr.1 (e ▸ hb'))]
    rintro (e | e | e | e)
    · exact h9 e
    · exact h10 e
    · exact h8 e
    · have := hlt b e; omega
  · show upd γ.shut γ.j false i = false
    rw [hj]
    by_cases e : i = k
    · subst e; rw [upd_same]
    · rw [upd_ne _ _ e]; exact h.shut i (by omega)
  · show upd γ.σ γ.j (says M[k]) i = _
    rw [hj]
    by_cases e : i = k
    · subst e; rw [upd_same]
    · rw [upd_ne _ _ e]; exact h.say i hi1 (by omega)
  · show upd γ.dn γ.j (DnOf v x) i = _
    rw [hj]
    by_cases e : i = k
    · subst e
      rw [upd_same]
      rw [hx] at hy
      rw [Option.some.inj hy]
    · rw [upd_ne _ _ e]; exact h.dn i y (by omega) hy
/-- The worker sees its box of the group, its source, its list. -/
theorem wk_of {w : World} {Wg bw bl c bs : Nat} {A : Option Addr} {l : List Int} {cap B0 : Nat} {f : Nat × Nat} (hbw : w.heap[bw]? = some (.cells #[.pointer (some ⟨Wg, 0, none⟩)] 50 f)) (hbs : w.heap[bs]? = some (.cells #[.chan (some c)] 51 (0, 0)))
    (hbl : w.heap[bl]? = some (.cells #[.slice A l.length cap] 25 (0, 0))) (hrow : w.ownsRow B0 3 1 (.slice A l.length cap) l.length (ints l)) (hl : l.length ≤ 1048576)
    (hne : bw ≠ bs ∧ bw ≠ bl ∧ (Value.slice A l.length cap).ownBlock ≠ some bw) : WK bw bs bl Wg c A l cap (w.mask (mWork bs bl bw (Value.slice A l.length cap).ownBlock)) := by
  have hm : mWork bs bl bw (Value.slice A l.length cap).ownBlock bw = .froz := by
    unfold mWork
    rw [if_neg, if_pos rfl]
    rintro (e | e | e)
    · exact hne.1 e
    · exact hne.2.1 e
    · exact hne.2.2 e
  refine ⟨?_, ?_, ?_, fun k hk => ?_, hl⟩
  · rw [cell_of_heap (mask_froz hm hbw)]; rfl
  · rw [cell_of_heap ((mask_own (by unfold mWork; rw [if_pos (.inl rfl)])).trans hbs)]; rfl
  · rw [cell_of_heap ((mask_own (by unfold mWork; rw [if_pos (.inr (.inl rfl))])).trans hbl)]; rfl
  · have h1 : (w.mask (mWork bs bl bw (Value.slice A l.length cap).ownBlock)).ownsRow B0 3 1 (.slice A l.length cap) l.length (ints l) :=
      own_blocks hrow fun b hb => mask_own (by unfold mWork; rw [if_pos (.inr (.inr hb))])
    obtain ⟨ad, e, _, hc⟩ := (RI.of_own h1).at_ hk
    exact ⟨ad, e, hc⟩
/-- A go statement in a walk. -/
theorem kn_go_at {P : Program} {ty : TypeId} {Wg : Nat} {Base : Bs} {Post : Value → World → Prop} {n : Nat} {γ : View} {v v0 vc : World} {b : Frame} {a : Act} {k : List Item} {cs : List Frame} {ops : Array Oper} {i : Nat} {rest : List Nat} {o : Oper} {d : Deferred} {f : Fn} {cap : Array Value} {c : Nat} {tm : Bool} {says : List Say} {dn : World → Prop}
    (ho : ops[i]? = some o) (hw : Region.wanted o (yielded ops a.tmps) = true) (hk : b.kind ≠ .early) (hr : ∀ w, (execOp a.eval o).run P w = .ok (.spawn d) w) (he : ∀ w, (execOp a.eval o).events P w #[] = #[]) (hd : d.target = .fn f cap)
    (h1 : γ.owed = 1) (hS : Split P v v0 vc) (hc : v.heap[c]? = some (.chan 0 #[] false 0 0 tm)) (hc0 : v0.heap[c]? = some hid) (hcc : vc.heap[c]? = some hid) (hcW : c ≠ Wg) (hsay : says ≠ []) (hT : Th P false true true (fun _ => True) (AtSay P ty Wg true c dn says) (born P d) vc)
    (hd1 : ∀ v t d, dn (v.re t d) → dn v) (hd2 : ∀ v n, Flat P v → dn v → dn (v.upto n))
    (h : KA (MNext P ty Wg true Base Post n (γ.went c says dn)) (G (b.at (a.put o.dst undef) (.inRegion ops rest :: k)) cs) v0) :
    KA (MNext P ty Wg true Base Post (n + 1) γ) (G (b.at a (.inRegion ops (i :: rest) :: k)) cs) v :=
  kn_go h1 rfl rfl rfl (fun w => by rw [stepG_spawn ho hw hk (hr w) hd, listed0 (he w)]) hS hc hc0 hcc hcW hsay hT hd1 hd2 h
section
variable {Base : Bs} {Post : Value → World → Prop} {v u : World} {Wg bw B0 : Nat} {A : Option Addr} {cap : Nat} {V : List Value} {M : List (List Int)} {γ : View} {sv wgv : Value}
set_option maxRecDepth 100000 in
set_option maxHeartbeats 4000000 in
theorem send_round {n k : Nat} {cs : List Frame} (hk : k < M.length) (hG : OII v B0 (.slice A M.length cap) V M) (hn : M.length ≤ 100) (hl : ∀ l ∈ M, l.length ≤ 1048576) (hWg : v.heap[Wg]? = some hid) (hS : Sl v V M Wg bw γ k sv u)
    (h : ∀ u' sv' γ', Sl v V M Wg bw γ' (k + 1) sv' u' → ∀ x6 x7 x8 x9 x10 x11 x15 x16 x17 x18 x19 x20 x21 x22 x23 x24 x25 x26 x27, KA (MNext Try.prog 47 Wg true Base Post (n + 1) γ') (G ((Conc.base 24).at ⟨T24 A M.length cap wgv bw sv' (k + 1) x6 x7 x8 x9 x10 x11 x15 x16 x17 x18 x19 x20 x21 x22 x23 x24 x25 x26 x27, []⟩ [.code L24, .inLoop L24, .inBlock 0, .code E24]) cs) u') :
    ∀ x6 x7 x8 x9 x10 x11 x15 x16 x17 x18 x19 x20 x21 x22 x23 x24 x25 x26 x27, KA (MNext Try.prog 47 Wg true Base Post (n + 3) γ) (G ((Conc.base 24).at ⟨T24 A M.length cap wgv bw sv k x6 x7 x8 x9 x10 x11 x15 x16 x17 x18 x19 x20 x21 x22 x23 x24 x25 x26 x27, []⟩ [.code L24, .inLoop L24, .inBlock 0, .code E24]) cs) u := by
  intro x6 x7 x8 x9 x10 x11 x15 x16 x17 x18 x19 x20 x21 x22 x23 x24 x25 x26 x27
  have hK := kn_ok (P := Try.prog) (ty := 47) (Wg := Wg) (Base := Base) (Post := Post) (n + 2) γ
  have hF := hS.flat
  have hlt : (k : Int) < (M.length : Int) := by omega
  have hkV : k < V.length := by rw [← hG.len]; exact hk
  -- the header and the row of list k
  obtain ⟨ad, A1, c1, rfl, hadb, _, hVk, hrow⟩ := hG.at_ hk
  have hrow1 := hS.keepRow hrow fun i y hi hy b hb hb' => hG.apart i k y _ (by omega) hy hVk b hb hb'
  have hhdr := hS.keepRow hG.hdr fun i y hi hy b hb hb' => own_types (hG.row i y _ hy (List.getElem?_eq_getElem (by omega))) hG.hdr (by decide) b hb hb'
  have hcell : u.cell? (ad.add k) = some (.slice A1 M[k].length c1) := by
    have h1 := hhdr
    rw [← hG.len] at h1
    obtain ⟨ad', e1, hb, hc⟩ := (Reads.of_own h1).2 (by omega)
    obtain rfl := Option.some.inj e1
    exact hc k _ hVk
  obtain ⟨l, hMl⟩ : ∃ l, l = M[k] := ⟨_, rfl⟩
  have hl1 : l.length ≤ 1048576 := by rw [hMl]; exact hl _ (List.getElem_mem hk)
  rw [← hMl] at hrow hrow1 hcell hVk
  have HMl := Lib.hid hMl
  clear hMl
  simp only [L24, body24, Try.f24, Option.getD_some, T24] at h ⊢
  refine kSeq hK hF (kRegion hK hF ?_)
  refine kOp closedS.bodies hK hF (val := .bool true) (by k_ne) rfl rfl (by kernel_rfl) (fun v₁ hv => by go_simp; try simp [hlt]) ?_
  walk_nrm
  refine kRegEnd hK hF (kSeq hK hF (kCond hK hF (t := true) (by rfl) ?_))
  simp only [if_true]
  refine kSkip hK hF (kSeq hK hF (kBlock hK hF (kSeq hK hF ?_)))
  refine kLift closedS hK hF (by kernel_rfl) (by k_ne) fun t => ?_
  have hcell' : (u.re t 0).cell? (ad.add k) = some (.slice A1 l.length c1) := hcell
  go_wp2
  refine fun hF1 _ => ?_
  have hB1 : Blk ((u.re t 0).alloc (Obj.cells #[Value.slice A1 l.length c1] 25)) u.heap.size 25 #[.slice A1 l.length c1] := Blk.new _ _ _
  have hb1 : Below u.heap.size u (((u.re t 0).alloc (Obj.cells #[Value.slice A1 l.length c1] 25)).re u.tape u.drawn) := ⟨rfl, rfl, rfl, by simp [World.re], fun b hb => Below.heap_alloc _ _ _ hb⟩
  have hs1 : ((u.re t 0).alloc (Obj.cells #[Value.slice A1 l.length c1] 25)).heap.size = u.heap.size + 1 := by simp [World.re]
  simp only [re_heap]
  generalize ((u.re t 0).alloc (Obj.cells #[Value.slice A1 l.length c1] 25)) = w1 at hF1 hB1 hb1 hs1 ⊢
  clear hcell'
  refine kSeq hK hF1 (kLift closedS hK hF1 (by kernel_rfl) (by k_ne) fun t2 => ?_)
  have hmc := mkChan
  go_wp2
  clear hmc
  refine fun hF2 _ => ?_
  simp only [re_heap, hs1]
  obtain ⟨w2, hw2⟩ : ∃ w2, w2 = ((w1.re t2 0).alloc (Obj.chan 0 #[] false 0 0 false)).alloc (Obj.cells #[Value.chan (some (u.heap.size + 1))] 51) := ⟨_, rfl⟩
  simp only [re_heap, hs1] at hF2
  rw [← hw2] at hF2 ⊢
  have hC2 : w2.heap[u.heap.size + 1]? = some (.chan 0 #[] false 0 0 false) := by
    rw [hw2, Below.heap_alloc _ _ _ (by rw [alloc_size, re_heap, hs1]; omega), ← hs1]
    exact heap_alloc_new (w1.re t2 0) _
  have hB2 : Blk w2 (u.heap.size + 2) 51 #[Value.chan (some (u.heap.size + 1))] := by
    rw [hw2]; exact Blk.new_at _ _ _ (by rw [alloc_size, re_heap, hs1])
  have hb2 : Below w1.heap.size w1 (w2.re w1.tape w1.drawn) := by
    rw [hw2]
    exact ⟨rfl, rfl, rfl, by rw [re_heap, alloc_size, alloc_size, re_heap]; omega, fun b hb => (Below.heap_alloc ((w1.re t2 0).alloc (Obj.chan 0 #[] false 0 0 false)) _ b (by rw [alloc_size, re_heap]; omega)).trans (Below.heap_alloc (w1.re t2 0) _ b hb)⟩
  have hs2 : w2.heap.size = u.heap.size + 3 := by rw [hw2, alloc_size, alloc_size, re_heap, hs1]
  clear hw2
  have hB12 : Blk w2 u.heap.size 25 #[.slice A1 l.length c1] := (hb2.block u.heap.size (by omega)).trans hB1
  have hb3 : ∀ b, b < u.heap.size → w2.heap[b]? = u.heap[b]? := fun b hb => (hb2.block b (by omega)).trans (hb1.block b hb)
  have hown2 : w2.ownsRow v.heap.size 51 1 sv k (chansOf γ.c k) := own_blocks hS.row fun b hb => hb3 b (hS.row.lt b hb).2
  have hsvl : ∀ b, sv.ownBlock = some b → b < u.heap.size := fun b hb => (hS.row.lt b hb).2
  clear hB1 hb1 hb2
  refine kSeq hK hF2 (kLift closedS hK hF2 (by kernel_rfl) (by k_ne) fun t3 => ?_)
  have hcbs : (w2.re t3 0).cell? ⟨u.heap.size + 2, 0, none⟩ = some (.chan (some (u.heap.size + 1))) := hB2.cell 0
  have hown3 : (w2.re t3 0).ownsRow v.heap.size 51 1 sv k (chansOf γ.c k) := hown2
  obtain ⟨ic, hi, hz0, hz1, hz2⟩ := info_parts chan_info
  have hvu := hS.size
  go_wp2_with (at_builtin; refine wpList_append_own_at _ rfl _ _ 48 rfl v.heap.size 51 ic (.chan none) 1 8 Try.underlying48 hi hz0 hz1 hz2 rfl (by decide) sv _ _ rfl (hown3.alloc _) ⟨(w2.re t3 0).heap.size, 0, none⟩ 1 1 [.chan (some (u.heap.size + 1))] rfl rfl (cell_one_new _ _ _) (by intro u hu; obtain rfl := List.mem_singleton.1 hu; rfl) ?_ ?_ ?_ ?_; (unfold maxLen; omega); omega; (simp [re_heap]; omega); intro sv' w3 hown' hgrow hnil hloc)
  refine fun hF3 _ => ?_
  have hb3' : ∀ b, b < u.heap.size + 3 → sv.ownBlock ≠ some b → w3.heap[b]? = w2.heap[b]? := fun b hb hne => by
    rw [hgrow.block b (by rw [alloc_size, re_heap]; omega) (fun e => hne e.symm), Below.heap_alloc _ _ _ (by rw [re_heap]; omega)]; rfl
  have hs3 : u.heap.size + 3 ≤ w3.heap.size := by have := hgrow.size; rw [alloc_size, re_heap, hs2] at this; omega
  have hsvne : ∀ b, u.heap.size ≤ b → sv.ownBlock ≠ some b := fun b hb e => by have := hsvl b e; omega
  have hC3 : w3.heap[u.heap.size + 1]? = some (.chan 0 #[] false 0 0 false) := (hb3' _ (by omega) (hsvne _ (by omega))).trans hC2
  have hBs3 : w3.heap[u.heap.size + 2]? = some (.cells #[Value.chan (some (u.heap.size + 1))] 51 (0, 0)) := (hb3' _ (by omega) (hsvne _ (by omega))).trans hB2
  have hBl3 : w3.heap[u.heap.size]? = some (.cells #[.slice A1 l.length c1] 25 (0, 0)) := (hb3' _ (by omega) (hsvne _ (by omega))).trans hB12
  have hB3 : ∀ b, b < u.heap.size → sv.ownBlock ≠ some b → w3.heap[b]? = u.heap[b]? := fun b hb hne => (hb3' b (by omega) hne).trans (hb3 b hb)
  have hsvl' : ∀ b, sv'.ownBlock = some b → b ≠ u.heap.size ∧ b ≠ u.heap.size + 1 ∧ b ≠ u.heap.size + 2 := fun b hb => by
    rcases hloc with e | e
    · have := hsvl b (e ▸ hb); omega
    · rw [e, alloc_size, re_heap, hs2] at hb
      have := Option.some.inj hb
      omega
  obtain ⟨f, hbw, hf⟩ := hS.bw.2
  have hbwu : bw < u.heap.size := (Array.getElem?_eq_some_iff.1 hbw).1
  have hbwsv : sv.ownBlock ≠ some bw := fun e => by
    rcases hS.row.2 with ⟨rfl, _⟩ | ⟨g, cp, cur, rfl, _, hh, _⟩
    · simp [Value.ownBlock] at e
    · simp [Value.ownBlock] at e
      subst e
      rw [hbw] at hh
      simp at hh
  have hbwsv' : sv'.ownBlock ≠ some bw := fun e => by
    rcases hloc with e' | e'
    · exact hbwsv (e' ▸ e)
    · rw [e', alloc_size, re_heap, hs2] at e
      have := Option.some.inj e
      omega
  have hbw3 := (hB3 bw hbwu hbwsv).trans hbw
  have hbwc : w3.cell? ⟨bw, 0, none⟩ = some (.pointer (some ⟨Wg, 0, none⟩)) := by rw [cell_of_heap hbw3]; rfl
  have hown4 := hown'
  clear hcbs hown3 hi hz0 hz1 hz2 hgrow hown' hnil hC2 hB2 hB12
  have hlen := hG.len
  -- Add(1)
  refine kSeq hK hF3 (kRegion hK hF3 ?_)
  refine kOp closedS.bodies hK hF3 (val := .pointer (some ⟨Wg, 0, none⟩)) (by k_ne) rfl rfl (by kernel_rfl) (fun v₁ hv => by have := cell_up hv hbwc; go_simp) ?_
  walk_nrm
  refine kCall hK hF3 rfl rfl (by k_ne) rfl wgLib.f_add (nm_add lk) rfl ?_
  walk_nrmf addFn
  refine kn_add hS.owed (by have := hS.j; show γ.j + 2 < _; omega) (fun Fin hFin => wg_add wgLib hFin) rfl ?_
  walk_nrm
  have hK2 := kn_ok (P := Try.prog) (ty := 47) (Wg := Wg) (Base := Base) (Post := Post) (n + 1) { γ with owed := 1 }
  refine kRegEnd hK2 hF3 (kRegion hK2 hF3 ?_)
  refine kOp closedS.bodies hK2 hF3 (val := .func (.func 36) #[] #[.pointer (some ⟨bw, 0, none⟩), .pointer (some ⟨u.heap.size + 2, 0, none⟩), .pointer (some ⟨u.heap.size, 0, none⟩)]) (by k_ne) rfl rfl (by kernel_rfl) (fun v₁ hv => by go_simp) ?_
  walk_nrm
  have hnx := hS.next (bl := u.heap.size) (c := u.heap.size + 1) (bs := u.heap.size + 2) hk hVk (fun b hb => (hrow.lt b hb).2) hF3 (Nat.le_refl _) (by omega) (by omega) (by omega) (by omega) hB3 hown4 hsvl' ⟨hbwsv', hbwsv⟩
  rw [← HMl.out] at hnx
  have hxl : ∀ b, (Value.slice A1 l.length c1).ownBlock = some b → b < v.heap.size := fun b hb => (hrow.lt b hb).2
  have hbwv := hS.bw.1
  have hvu' := hS.size
  have hxw : ∀ b, (Value.slice A1 l.length c1).ownBlock = some b → w3.heap[b]? = v.heap[b]? := fun b hb => by
    have h1 := hxl b hb
    refine (hB3 b (by omega) (fun e => by have := (hS.row.lt b e).1; omega)).trans ?_
    rcases hS.blk b h1 with h2 | ⟨_, i, y, hi, hy, h3⟩
    · exact h2
    · exact absurd hb (hG.apart i k y _ (by omega) hy hVk b h3)
  have hrow3 : w3.ownsRow B0 3 1 (.slice A1 l.length c1) l.length (ints l) := own_blocks hrow hxw
  have hwk := wk_of hbw3 hBs3 hBl3 hrow3 hl1 ⟨by omega, by omega, fun e => by have := hxl bw e; omega⟩
  have hsp : Split Try.prog w3 (w3.mask (mMain (u.heap.size + 1) (u.heap.size + 2) u.heap.size bw (Value.slice A1 l.length c1).ownBlock)) (w3.mask (mWork (u.heap.size + 2) u.heap.size bw (Value.slice A1 l.length c1).ownBlock)) := by
    refine Split.mask hF3 noGlobals fun b => ?_
    unfold mMain mWork
    by_cases h1 : b = u.heap.size + 2 ∨ b = u.heap.size ∨ (Value.slice A1 l.length c1).ownBlock = some b
    · rw [if_pos (.inr h1)]; exact .inl rfl
    · by_cases h2 : b = bw
      · subst h2
        rw [if_neg (fun e => e.elim (fun e => by omega) h1), if_pos rfl, if_neg h1, if_pos rfl]
        refine .inr (.inr ⟨rfl, rfl, fun c e f' h3 => ?_⟩)
        rw [hbw3] at h3
        simp only [Option.some.injEq, Obj.cells.injEq] at h3
        obtain ⟨rfl, rfl, rfl⟩ := h3
        rcases hf with e | e
        · exact .inl e
        · exact .inr e
      · rw [if_neg h1, if_neg h2, if_neg h2]; exact .inr (.inl rfl)
  have hWgl : Wg < v.heap.size := (Array.getElem?_eq_some_iff.1 hWg).1
  refine kn_go_at (dn := DnOf v (.slice A1 l.length c1)) (d := call36 bw (u.heap.size + 2) u.heap.size) rfl rfl (by k_ne) (fun w => by simp [go_sem, call36, Deferred.ofValue, execOp, resolve, Act.eval]) (fun w => by simp [go_sem, execOp, resolve, Act.eval, Deferred.ofValue]) rfl rfl hsp hC3
    (mask_hide (by unfold mMain; rw [if_pos (.inl rfl)]) (by omega)) (mask_hide (by unfold mWork; rw [if_neg (by rintro (e | e | e); omega; omega; have := hxl _ e; omega), if_neg (by omega)]) (by omega)) (by omega) (by unfold says; simp)
    (worker_all (doneOk Wg) (fun v t d => DnOf.re v t d) (fun v n => DnOf.upto v n) (fun v t d => DnOf.to_re v t d) (hF3.mask noGlobals) hwk (fun b o h1 h2 => ?_)) (fun v t d => DnOf.re v t d) (fun v n => DnOf.upto v n) ?_
  · rw [mask_own (by unfold mWork; rw [if_pos (.inr (.inr h1))]), hxw b h1]; exact h2
  walk_nrm
  have hF4 := hnx.flat
  have hK3 := kn_ok (P := Try.prog) (ty := 47) (Wg := Wg) (Base := Base) (Post := Post) n (View.went { γ with owed := 1 } (u.heap.size + 1) (says l) (DnOf v (.slice A1 l.length c1)))
  have hi64 : IntKind.i64.wrap ((k : Int) + 1) = ((k + 1 : Nat) : Int) := by rw [IntKind.wrap_i64]; omega
  refine kRegEnd hK3 hF4 (kInBlock hK3 hF4 (kRegion hK3 hF4 ?_))
  refine kOp closedS.bodies hK3 hF4 (val := .int .i64 ((k + 1 : Nat) : Int)) (by k_ne) rfl rfl (by kernel_rfl) (fun v₁ hv => by go_simp; try simp [hi64]) ?_
  walk_nrm
  refine kOp closedS.bodies hK3 hF4 (val := .int .i64 ((k + 1 : Nat) : Int)) (by k_ne) rfl rfl (by kernel_rfl) (fun v₁ hv => by go_simp) ?_
  walk_nrm
  refine kRegEnd hK3 hF4 (kInLoop hK3 hF4 ?_)
  exact h _ _ _ hnx _ _ _ _ _ _ _ _ _ _ _ _ _ _ _ _ _ _ _
end
end Go.Proofs.Ytoimhdhplebhgaa
/-
  sendLists: the call.
-/
namespace Go.Proofs.Ytoimhdhplebhgaa
open Go.Conc Go.RowKit Go.Conc.Lib Go.ConcR.Gen
open Go.ConcN (upd upd_same upd_ne)
open Go.ConcR (KK WgAt stA smA rd wr mk DC0)
set_option linter.unusedSimpArgs false
set_option linter.unusedVariables false

section
variable {Base : Bs} {Post : Value → World → Prop} {v : World} {Wg B0 : Nat} {A : Option Addr} {cap : Nat} {V : List Value} {M : List (List Int)}
set_option maxRecDepth 100000 in
set_option maxHeartbeats 4000000 in
theorem send_loop {N bw : Nat} {wgv : Value} {b : Frame} {a : Act} {ks : List Item} {cs : List Frame} {ops : Array Oper} {i : Nat} {rest : List Nat} {dst : Option Tmp} (hdst : (ops[i]?).bind (·.dst) = dst) (hG : OII v B0 (.slice A M.length cap) V M) (hn : M.length ≤ 100) (hl : ∀ l ∈ M, l.length ≤ 1048576) (hWg : v.heap[Wg]? = some hid)
    (h : ∀ v' sv γ' bw, Sl v V M Wg bw γ' M.length sv v' → KA (MNext Try.prog 47 Wg true Base Post (N + 1) γ') (G (b.at (a.put dst sv) (.inRegion ops rest :: ks)) cs) v') :
    ∀ (m k : Nat), k + m = M.length → ∀ (u : World) (sv : Value) (γ : View), Sl v V M Wg bw γ k sv u → ∀ x6 x7 x8 x9 x10 x11 x15 x16 x17 x18 x19 x20 x21 x22 x23 x24 x25 x26 x27,
      KA (MNext Try.prog 47 Wg true Base Post (2 * m + N + 1) γ) (G ((Conc.base 24).at ⟨T24 A M.length cap wgv bw sv k x6 x7 x8 x9 x10 x11 x15 x16 x17 x18 x19 x20 x21 x22 x23 x24 x25 x26 x27, []⟩ [.code L24, .inLoop L24, .inBlock 0, .code E24]) (b.at a (.inRegion ops (i :: rest) :: ks) :: cs)) u := by
  intro m
  induction m with
  | zero =>
    intro k hk u sv γ hS x6 x7 x8 x9 x10 x11 x15 x16 x17 x18 x19 x20 x21 x22 x23 x24 x25 x26 x27
    obtain rfl : k = M.length := by omega
    have hnl : ¬ ((M.length : Int) < (M.length : Int)) := by omega
    have hK := kn_ok (P := Try.prog) (ty := 47) (Wg := Wg) (Base := Base) (Post := Post) N γ
    have hF := hS.flat
    rw [show 2 * 0 + N + 1 = N + 1 by omega]
    simp only [L24, E24, body24, Try.f24, Option.getD_some, T24]
    refine kSeq hK hF (kRegion hK hF ?_)
    refine kOp closedS.bodies hK hF (val := .bool false) (by k_ne) rfl rfl (by kernel_rfl) (fun v₁ hv => by go_simp; try simp [hnl]) ?_
    walk_nrm
    refine kRegEnd hK hF (kSeq hK hF (kCond hK hF (t := false) (by rfl) ?_))
    simp only [Bool.false_eq_true, if_false]
    refine kExit hK hF (k' := _) (by rfl) (kSeq hK hF (kRegion hK hF ?_))
    refine kOp closedS.bodies hK hF (val := sv) (by k_ne) rfl rfl (by kernel_rfl) (fun v₁ hv => by go_simp) ?_
    walk_nrm
    refine kOp closedS.bodies hK hF (val := sv) (by k_ne) rfl rfl (by kernel_rfl) (fun v₁ hv => by go_simp) ?_
    walk_nrm
    refine kRegEnd hK hF (kRet hK hF ?_)
    refine kLeave1 hK hF rfl rfl Try.func24 rfl ?_
    rw [hdst]
    exact h _ _ _ _ hS
  | succ m ih =>
    intro k hk u sv γ hS
    have h1 := send_round (Base := Base) (Post := Post) (n := 2 * m + N) (wgv := wgv) (cs := b.at a (.inRegion ops (i :: rest) :: ks) :: cs) (by omega) hG hn hl hWg hS (fun u' sv' γ' h' => ih (k + 1) (by omega) u' sv' γ' h')
    rw [show 2 * (m + 1) + N + 1 = 2 * m + N + 3 by omega]
    exact h1
set_option maxRecDepth 100000 in
set_option maxHeartbeats 4000000 in
/-- ████ sendLists ████ -/
theorem send_call {N : Nat} {b : Frame} {a : Act} {ks : List Item} {cs : List Frame} {ops : Array Oper} {i : Nat} {rest : List Nat} {o : Oper} {x y : Operand} {ats : Array TypeId} {γ : View}
    (ho : ops[i]? = some o) (hw : Region.wanted o (yielded ops a.tmps) = true) (hk : b.kind ≠ .early) (hop : o.op = .call { callee := .value (.func 24), args := #[x, y], argTypes := ats })
    (hx : a.eval x = .slice A M.length cap) (hy : a.eval y = .pointer (some ⟨Wg, 0, none⟩))
    (hF : Flat Try.prog v) (hG : OII v B0 (.slice A M.length cap) V M) (hn : M.length ≤ 100) (hl : ∀ l ∈ M, l.length ≤ 1048576) (hWg : v.heap[Wg]? = some hid) (hγ : γ.j = 0 ∧ γ.owed = 0)
    (h : ∀ v' sv γ' bw, Sl v V M Wg bw γ' M.length sv v' → KA (MNext Try.prog 47 Wg true Base Post (N + 1) γ') (G (b.at (a.put o.dst sv) (.inRegion ops rest :: ks)) cs) v') :
    KA (MNext Try.prog 47 Wg true Base Post (2 * M.length + N + 1) γ) (G (b.at a (.inRegion ops (i :: rest) :: ks)) cs) v := by
  have hK := kn_ok (P := Try.prog) (ty := 47) (Wg := Wg) (Base := Base) (Post := Post) (2 * M.length + N) γ
  have hdst : (ops[i]?).bind (·.dst) = o.dst := by rw [ho]; rfl
  refine kCall hK hF ho hw hk hop Try.func24 (by kernel_rfl) rfl ?_
  simp only [List.map_toArray, List.map_cons, List.map_nil, hx, hy]
  walk_nrmf Try.f24
  refine kSeq hK hF ?_
  refine kLift closedS hK hF (by kernel_rfl) (by k_ne) fun t1 => ?_
  go_wp2
  refine fun hF1 _ => ?_
  have hB1 : Blk ((v.re t1 0).alloc (Obj.cells #[.pointer (some ⟨Wg, 0, none⟩)] 50)) v.heap.size 50 #[.pointer (some ⟨Wg, 0, none⟩)] := Blk.new _ _ _
  have hb1 : ∀ b, b < v.heap.size → ((v.re t1 0).alloc (Obj.cells #[.pointer (some ⟨Wg, 0, none⟩)] 50)).heap[b]? = v.heap[b]? := fun b hb => Below.heap_alloc (v.re t1 0) _ b hb
  have hs1 : ((v.re t1 0).alloc (Obj.cells #[.pointer (some ⟨Wg, 0, none⟩)] 50)).heap.size = v.heap.size + 1 := by simp [World.re]
  simp only [re_heap]
  generalize ((v.re t1 0).alloc (Obj.cells #[.pointer (some ⟨Wg, 0, none⟩)] 50)) = w1 at hF1 hB1 hb1 hs1 ⊢
  refine kSeq hK hF1 (kLift closedS hK hF1 (by kernel_rfl) (by k_ne) fun t2 => ?_)
  obtain ⟨ic, hi, hz0, hz1, hz2⟩ := info_parts chan_info
  have hmk : ∀ W : World, (Instr.makeSlice 48 (.int .i64 0) (.int .i64 (M.length : Int))).run Try.prog W = .ok (.slice (some ⟨W.heap.size, 0, none⟩) 0 M.length) (W.alloc (.cells (Array.replicate M.length (.chan none)) 51)) := fun W => run_makeN (P := Try.prog) 48 51 ic _ Try.underlying48 hi hz0 hz1 rfl (by omega) 0 M.length (Nat.zero_le _) (by omega) W
  clear hi hz0 hz1 hz2
  go_wp2
  clear hmk
  refine fun hF2 _ => ?_
  have hrow : ((w1.re t2 0).alloc (Obj.cells (Array.replicate M.length (.chan none)) 51)).ownsRow v.heap.size 51 1 (.slice (some ⟨w1.heap.size, 0, none⟩) 0 M.length) 0 [] := by
    have h0 := World.ownsRow_made (base := v.heap.size) (e := 51) (size := 1) (w1.re t2 0) (Array.replicate M.length (.chan none)) M.length (by rw [re_heap]; omega) (by unfold maxLen; omega) (by simp)
    exact h0
  have hb2 : ∀ b, b < w1.heap.size → ((w1.re t2 0).alloc (Obj.cells (Array.replicate M.length (.chan none)) 51)).heap[b]? = w1.heap[b]? := fun b hb => Below.heap_alloc (w1.re t2 0) _ b hb
  have hs2 : ((w1.re t2 0).alloc (Obj.cells (Array.replicate M.length (.chan none)) 51)).heap.size = v.heap.size + 2 := by rw [alloc_size, re_heap, hs1]
  simp only [re_heap]
  generalize ((w1.re t2 0).alloc (Obj.cells (Array.replicate M.length (.chan none)) 51)) = w2 at hF2 hrow hb2 hs2 ⊢
  have hS : Sl v V M Wg v.heap.size γ 0 (.slice (some ⟨w1.heap.size, 0, none⟩) 0 M.length) w2 :=
    ⟨hF2, by omega, ⟨Nat.le_refl _, (0, 0), (hb2 _ (by omega)).trans hB1, .inl rfl⟩, fun b hb => .inl ((hb2 b (by omega)).trans (hb1 b hb)), hrow, hγ.1, hγ.2, fun i hi => absurd hi (Nat.not_lt_zero _), fun i _ hi => absurd hi (Nat.not_lt_zero _), fun i _ hi => absurd hi (Nat.not_lt_zero _)⟩
  have hloop := send_loop (N := N) (wgv := .pointer (some ⟨Wg, 0, none⟩)) (cs := cs) hdst hG hn hl hWg h M.length 0 (by omega) w2 _ γ hS
  simp only [L24, E24, body24, Try.f24, Option.getD_some, T24] at hloop
  refine kSeq hK hF2 (kSeq hK hF2 (kRegion hK hF2 ?_))
  refine kOp closedS.bodies hK hF2 (val := .slice A M.length cap) (by k_ne) rfl rfl (by kernel_rfl) (fun v₁ hv => by go_simp) ?_
  walk_nrm
  refine kOp closedS.bodies hK hF2 (val := .int .i64 M.length) (by k_ne) rfl rfl (by kernel_rfl) (fun v₁ hv => by go_simp) ?_
  walk_nrm
  refine kOp closedS.bodies hK hF2 (val := .int .i64 (0 : Nat)) (by k_ne) rfl rfl (by kernel_rfl) (fun v₁ hv => by go_simp) ?_
  walk_nrm
  refine kRegEnd hK hF2 (kBlock hK hF2 (kLoop hK hF2 ?_))
  exact hloop _ _ _ _ _ _ _ _ _ _ _ _ _ _ _ _ _ _ _
end
end Go.Proofs.Ytoimhdhplebhgaa
