/-
  What HeardBy returns, the program's beside leavers, and the reference's; lists of lists compared.
-/
import Derived.Test.YthmgpkcijolljaaK5
import Derived.Test.YthmgpkcijolljaaKKSpecF
namespace Go.Proofs.Ythmgpkcijolljaa
open Go.Conc Go.RowKit Go.Conc.Lib Go.ConcR.Gen
open Go.ConcN (upd upd_same upd_ne)
open Go.ChangeMaps
set_option linter.unusedSimpArgs false
set_option linter.unusedVariables false
/-- what HeardBy returns -/
def heardL (g : Int) (l : List Dd) : List (List Int) := if meetB g l then (List.range g.toNat).map fun q => fut on0 l (q + 1) else []
theorem heardL_no {g : Int} {l : List Dd} (h : meetB g l = false) : heardL g l = [] := by unfold heardL; rw [h]; rfl
theorem heardL_yes {g : Int} {l : List Dd} (h : meetB g l = true) : heardL g l = (List.range g.toNat).map fun q => fut on0 l (q + 1) := by unfold heardL; rw [h]; rfl
theorem heardL_len (g : Int) (l : List Dd) : (heardL g l).length ≤ 5 := by
 cases h : meetB g l
 ·rw [heardL_no h]; simp
 ·rw [heardL_yes h]
  have := (meetB_true h).2.1
  simp; omega
theorem heardL_row {g : Int} {l : List Dd} : ∀ r ∈ heardL g l, r.length ≤ 50 := by
 intro r hr
 cases h : meetB g l
 ·rw [heardL_no h] at hr; simp at hr
 ·rw [heardL_yes h] at hr
  obtain ⟨q, _, rfl⟩ := List.mem_map.1 hr
  exact fut_le h _
/-- a slice whose headers and rows read as M -/
def LRd (w : World) (B : Nat) (A : Option Addr) (M : List (List Int)) : Prop := ∀ k (h : k < M.length), ∃ ad A1 c1, A = some ad ∧ ad.block < B ∧ w.cell? (ad.add k) = some (.slice A1 M[k].length c1) ∧ RI w B A1 M[k]
theorem LRd.kept {w w' : World} {B : Nat} {A : Option Addr} {M : List (List Int)} (h : LRd w B A M) (e : ∀ b, b < B → w'.heap[b]? = w.heap[b]?) : LRd w' B A M := fun k hk => by
 obtain ⟨ad, A1, c1, h1, h2, h3, h4⟩ := h k hk
 exact ⟨ad, A1, c1, h1, h2, (World.cell?_of_block (w := w) (e _ (by rw [block_of_add]; exact h2))).trans h3, Reads.keep h4 fun p hp => World.cell?_of_block (w := w) (e p.block hp)⟩
theorem LRd.more {w : World} {B B' : Nat} {A : Option Addr} {M : List (List Int)} (h : LRd w B A M) (hB : B ≤ B') : LRd w B' A M := fun k hk => by
 obtain ⟨ad, A1, c1, h1, h2, h3, h4⟩ := h k hk
 exact ⟨ad, A1, c1, h1, by omega, h3, h4.more hB⟩
theorem LRd.of_oii {w : World} {base c : Nat} {A : Option Addr} {V : List Value} {M : List (List Int)} (h : OII w base (.slice A M.length c) V M) : LRd w w.heap.size A M := fun k hk => by
 obtain ⟨ad, A1, c1, h1, h2, h3, _, h5⟩ := h.at_ hk
 exact ⟨ad, A1, c1, h1, h2, h3, RI.of_own h5⟩
set_option maxRecDepth 100000 in
theorem clone_any (ad : Addr) (n : Nat) (V : List Value) (w : World) (hr : Reads w w.heap.size 1 (some ad) n V) (hone : ∀ u ∈ V, u.oneCell' = true) (hn : n ≤ 100) :
  Calls Try.prog 42 #[.slice (some ad) n n] w fun e w' => ∃ A c, e = .returned (.slice A n c) ∧ w'.ownsRow w.heap.size 32 1 (.slice A n c) n V ∧ Below w.heap.size w w' := by
 obtain ⟨ic, hi, hz0, hz1, hz2⟩ := info_parts ints_info
 have hrd2 : Reads (w.alloc (.cells #[] 32)) w.heap.size 1 (some ad) n V := Reads.alloc hr (Nat.le_refl _) _
 have hem : (w.alloc (.cells #[] 32)).ownsRow w.heap.size 32 1 (.slice (some ⟨w.heap.size, 0, none⟩) 0 0) 0 [] := (OII.empty w).hdr
 have he : ∀ w : World, (binOp .eql 44 (.slice (some ad) n n) (.slice none 0 0)).run Try.prog w = .ok (.bool false) w := fun _ => rfl
 clear hr
 go_enter Try.func42, Try.ntmps42
 go_wp2_with (at_builtin; refine wpList_append_any _ rfl _ _ 44 rfl w.heap.size 32 ic (.slice none 0 0) 1 24 Try.underlying44 hi hz0 hz1 hz2 rfl (by decide) (.slice (some ⟨w.heap.size, 0, none⟩) 0 0) 0 [] rfl hem w.heap.size (some ad) n n V rfl hrd2 hone ?_ ?_ ?_ ?_; (unfold maxLen; omega); omega; (simp); intro val w4 hown' hgrow hloc; simp only [Nat.zero_add, List.nil_append] at hown'; obtain ⟨AV, cV, hv⟩ := own_form hown'; rw [hv] at hown'; rw [hv])
 have hb : Below w.heap.size w w4 := ((Below.refl _ _).alloc (Nat.le_refl _) _).grown hgrow (by simp) (fun q hq => by simp [Value.ownBlock] at hq; omega)
 go_ret
 exact ⟨AV, cV, rfl, hown', hb⟩
section
variable {Post : Value → World → Prop} {v0 : World}
set_option maxRecDepth 100000 in
set_option maxHeartbeats 16000000 in
theorem heard_call {g : Int} {l : List Dd} {Al : Option Addr} {cp : Nat} {b : Frame} {a : Act} {ks : List Item} {cs : List Frame} {ops : Array Oper} {i : Nat} {rest : List Nat} {o : Oper} {x y : Operand} {ats : Array TypeId}
  (ho : ops[i]? = some o) (hw : Region.wanted o (yielded ops a.tmps) = true) (hk : b.kind ≠ .early) (hop : o.op = .call { callee := .value (.func 29), args := #[x, y], argTypes := ats }) (hx : a.eval x = .int .i64 g) (hy : a.eval y = .slice Al l.length cp)
  (hF : Flat Try.prog v0) (hRD : RD v0 v0.heap.size Al l) (hlen : l.length ≤ 1048576)
  (h : ∀ vf A' c', Flat Try.prog vf → Ups v0 vf → LRd vf vf.heap.size A' (heardL g l) → KA (Wins Try.prog Post) (G (b.at (a.put o.dst (.tuple #[.slice A' (heardL g l).length c', .bool (meetB g l)])) (.inRegion ops rest :: ks)) cs) vf) :
  KA (Wins Try.prog Post) (G (b.at a (.inRegion ops (i :: rest) :: ks)) cs) v0 := by
 have hK := wins_ok (P := Try.prog) (Post := Post)
 have hdst : (ops[i]?).bind (·.dst) = o.dst := by rw [ho]; rfl
 refine kCall hK hF ho hw hk hop Try.func29 (by kernel_rfl) rfl ?_
 simp only [List.map_toArray, List.map_cons, List.map_nil, hx, hy]
 walk_nrmf Try.f29
 refine kSeq hK hF (kRegion hK hF ?_)
 refine kOp closedS.bodies hK hF (val := .slice none 0 0) (by k_ne) rfl rfl (by kernel_rfl) (fun v₁ hv => by go_simp <;> rfl) ?_
 walk_nrm
 refine kOp closedS.bodies hK hF (val := .bool false) (by k_ne) rfl rfl (by kernel_rfl) (fun v₁ hv => by go_simp <;> rfl) ?_
 walk_nrm
 refine kRegEnd hK hF (kSeq hK hF (kRegion hK hF ?_))
 refine kOp closedS.bodies hK hF (val := .int .i64 g) (by k_ne) rfl rfl (by kernel_rfl) (fun v₁ hv => by go_simp <;> rfl) ?_
 walk_nrm
 refine kOp closedS.bodies hK hF (val := .slice Al l.length cp) (by k_ne) rfl rfl (by kernel_rfl) (fun v₁ hv => by go_simp <;> rfl) ?_
 walk_nrm
 refine meet_call rfl rfl (by k_ne) rfl rfl rfl hF hRD hlen (fun hm v' hF' hU => ?_) (fun hm v' vf A hU hA hG => ?_)
 ·walk_nrm
  refine kOp closedS.bodies hK hF' (val := .pointer none) (by k_ne) rfl rfl (by kernel_rfl) (fun v₁ hv => by go_simp <;> rfl) ?_
  walk_nrm
  refine kRegEnd hK hF' (kSeq hK hF' (kSeq hK hF' (kRegion hK hF' ?_)))
  refine kOp closedS.bodies hK hF' (val := .pointer none) (by k_ne) rfl rfl (by kernel_rfl) (fun v₁ hv => by go_simp <;> rfl) ?_
  walk_nrm
  refine kOpW hK hF' (val := .bool true) (by k_ne) rfl rfl (fun w => by go_simp <;> rfl) (fun w => by rfl) ?_
  walk_nrm
  refine kRegEnd hK hF' (kCond hK hF' (t := true) (by rfl) ?_)
  simp only [if_true]
  refine kLift closedS hK hF' (by kernel_rfl) (by k_ne) fun t => ?_
  generalize hQ : Behind _ _ _ _ _ = Q
  go_wp2
  subst hQ
  refine fun todo hFx _ => ?_
  refine kLeave2 hK hFx rfl rfl Try.func29 rfl ?_
  rw [hdst]
  have hUx := hU.re t 0
  have h2 := h _ none 0 hFx hUx
  rw [heardL_no hm, hm] at h2
  exact h2 (fun k hk => by simp at hk)
 ·have hF' := hG.flat
  walk_nrm
  refine kOp closedS.bodies hK hF' (val := .pointer (some ⟨A.GA, 0, none⟩)) (by k_ne) rfl rfl (by kernel_rfl) (fun v₁ hv => by go_simp <;> rfl) ?_
  walk_nrm
  refine kRegEnd hK hF' (kSeq hK hF' (kSeq hK hF' (kRegion hK hF' ?_)))
  refine kOp closedS.bodies hK hF' (val := .pointer (some ⟨A.GA, 0, none⟩)) (by k_ne) rfl rfl (by kernel_rfl) (fun v₁ hv => by go_simp <;> rfl) ?_
  walk_nrm
  refine kOpW hK hF' (val := .bool false) (by k_ne) rfl rfl (fun w => by go_simp <;> rfl) (fun w => by rfl) ?_
  walk_nrm
  refine kRegEnd hK hF' (kCond hK hF' (t := false) (by rfl) ?_)
  simp only [Bool.false_eq_true, if_false]
  refine kSkip hK hF' ?_
  refine kLift closedS hK hF' (by kernel_rfl) (by k_ne) fun t => ?_
  generalize hQ : Behind _ _ _ _ _ = Q
  obtain ⟨x0, hx0, c1, c2, c5, c6⟩ := hG.cell t
  have hUf : Ups v0 vf := hU.trans hG.old
  have H := Lib.hid h
  have HG := Lib.hid (And.intro hG (And.intro hm (And.intro hUf (And.intro hdst hA))))
  obtain ⟨n, rfl⟩ : ∃ n : Nat, g = n := ⟨g.toNat, by have := (meetB_true hm).1; omega⟩
  obtain rfl : A.n = n := by rw [hA]; omega
  have hn5 : A.n ≤ 5 := hG.ok.n5
  have hn0 : ¬ A.n = 0 := by have := hG.ok.n1; omega
  obtain ⟨ic, hi, hz0, hz1, hz2⟩ := info_parts ints_info
  obtain ⟨cs5, hH, hsz, _, hrows⟩ := hG.hb
  obtain ⟨Vh, hVl, hVg⟩ : ∃ V : List Value, V.length = A.n ∧ ∀ j, j < A.n → cs5[j + 1]? = V[j]? := by
   refine ⟨cs5.toList.drop 1, by simp [hsz], fun j hj => ?_⟩
   rw [List.getElem?_drop, Nat.add_comm 1 j]; simp
  have hrd : Reads (vf.re t 0) (vf.re t 0).heap.size 1 (some ⟨A.H, 1, none⟩) A.n Vh := by
   refine ⟨by simp [hVl], fun _ => ⟨_, rfl, hH.lt, fun j u hu => ?_⟩⟩
   have hj : j < A.n := by rw [← hVl]; exact (List.getElem?_eq_some_iff.1 hu).1
   have e1 : ((⟨A.H, 1, none⟩ : Addr).add j) = ⟨A.H, j + 1, none⟩ := by
    unfold Addr.add
    by_cases hj0 : j = 0
    ·subst hj0; rfl
    ·simp [hj0]; omega
   rw [e1]
   refine (Blk.cell (w := vf) hH (j + 1)).trans ?_
   rw [hVg j hj, hu]
  have hone : ∀ u ∈ Vh, u.oneCell' = true := fun u hu => by
   obtain ⟨j, hj⟩ := List.getElem?_of_mem hu
   have hj' : j < A.n := by rw [← hVl]; exact (List.getElem?_eq_some_iff.1 hj).1
   obtain ⟨y, h1, h2⟩ := hrows j hj'
   rw [hVg j hj', hj] at h1
   obtain ⟨A1, c1, e⟩ := own_form h2
   rw [Option.some.inj h1, e]; rfl
  obtain ⟨vr, hvr⟩ : ∃ vr, vr = vf.re t 0 := ⟨_, rfl⟩
  rw [← hvr] at c5 hrd ⊢
  have HV := Lib.hid (And.intro hvr (And.intro hVl (And.intro hVg hrows)))
  clear h hG hx0 c1 c2 c6 hm hU hA hRD hF hF' hUf ho hw hop hx hy hdst hvr hVl hVg hrows hH hsz
  go_wp2_with (go_at_call 42; refine (clone_any ⟨A.H, 1, none⟩ A.n Vh vr hrd hone (by omega)).mono ?_; rintro e w4 ⟨AV, cV, rfl, hown0, hb0⟩)
  have HZ := Lib.hid (And.intro hown0 hb0)
  clear hown0 hb0
  subst hQ
  refine fun todo hFx _ => ?_
  obtain ⟨hG, hm, hUf, hdst, hA⟩ := HG.out
  obtain ⟨hvr, hVl, hVg, hrows⟩ := HV.out
  obtain ⟨hown, hgrow⟩ := HZ.out
  refine kLeave2 hK hFx rfl rfl Try.func29 rfl ?_
  rw [hdst]
  have hse : vr.heap.size = vf.heap.size := by rw [hvr]; rfl
  have hs4 : vf.heap.size ≤ w4.heap.size := by have := hgrow.size; omega
  have hb4 : ∀ q, q < vf.heap.size → w4.heap[q]? = vf.heap[q]? := fun q hq => (hgrow.block q (by omega)).trans (by rw [hvr]; rfl)
  have h2 := H.out w4 AV cV hFx (hUf.trans ⟨hs4, hb4⟩)
  have hLl : (heardL ((A.n : Nat) : Int) l).length = A.n := by rw [heardL_yes hm]; simp
  rw [hLl, hm] at h2
  refine h2 fun k hk => ?_
  rw [hLl] at hk
  obtain ⟨y, h3, h4⟩ := hrows k (by omega)
  rw [hVg k (by omega)] at h3
  obtain ⟨A1, c1, rfl⟩ := own_form h4
  have hL : (heardL ((A.n : Nat) : Int) l)[k]'(by rw [hLl]; omega) = fut on0 l (k + 1) := by simp only [heardL_yes hm, List.getElem_map, List.getElem_range]
  obtain ⟨gV, cV2, hv2, _, hlt2⟩ := own_some hown (by omega)
  injection hv2 with hv2 _ _
  refine ⟨⟨gV, 0, none⟩, A1, c1, hv2, hlt2, ?_, ?_⟩
  ·rw [hL]
   subst hv2
   have e1 : ((⟨gV, 0, none⟩ : Addr).add k) = ⟨gV, k, none⟩ := by
    unfold Addr.add
    by_cases hk0 : k = 0
    ·subst hk0; rfl
    ·simp [hk0]
   rw [e1, hown.cellAt k (by omega), h3]
   rfl
  ·rw [hL]
   have h5 : RI vf vf.heap.size A1 (fut on0 l (k + 1)) := RI.of_own h4
   exact (Reads.keep h5 fun p hp => World.cell?_of_block (w := vf) (hb4 p.block hp)).more hs4
end
set_option maxHeartbeats 4000000 in
theorem l11OwnListListint_any (A : Option Addr) (c : Nat) (G : List (List Int)) (w : World) (h : LRd w w.heap.size A G) (hn : G.length ≤ 100) (hn2 : ∀ l ∈ G, l.length ≤ 100) :
  Calls Try.prog 44 #[.slice A G.length c] w (NewII w G) := by
 obtain ⟨i0, hi, hz0, hz1, hz2⟩ := info_parts ints_info
 obtain ⟨j0, hj, hy0, hy1, hy2⟩ := info_parts int_info'
 go_enter Try.func44, Try.ntmps44
 go_wp2
 go_loopw [9, 3] (fun i v wr => ∃ (k : Nat) (U : List Value), k ≤ G.length ∧ i = .int .i64 k ∧ OII wr w.heap.size v U (G.take k) ∧ Below w.heap.size w wr) (fun i _ _ => G.length - (intOf i).toNat)
 case atStart => exact ⟨0, [], Nat.zero_le _, rfl, OII.empty w, (Below.refl _ _).alloc (Nat.le_refl _) _⟩
 case round =>
  obtain ⟨k, U, hk, rfl, ho, hbel⟩ := hrel
  have hs := hbel.size
  by_cases hlt : k < G.length
  ·obtain ⟨ad, A1, c1, rfl, hb, hc, hrow⟩ := (h.kept hbel.block) k hlt
   have Ht := Lib.hid (show G.take (k + 1) = G.take k ++ [G[k]] from List.take_succ_eq_append_getElem hlt)
   have hle := hn2 _ (List.getElem_mem hlt)
   obtain ⟨l, hl⟩ : ∃ l, G[k] = l := ⟨_, rfl⟩
   rw [hl] at hc hrow Ht hle
   have hUl : U.length ≤ 100 := by have := ho.len; simp at this; omega
   have hv : ∀ q, u3.ownBlock = some q → w.heap.size ≤ q := fun q hq => (ho.hdr.lt q hq).1
   have R1 : RI wr wr.heap.size A1 l := hrow.more hs
   clear hl hrow h hn2
   go_wp2_with (first | (at_builtin; refine wpList_append_any _ rfl _ _ 32 rfl wr.heap.size 3 j0 (.int .i64 0) 1 8 Try.underlying32 hj hy0 hy1 hy2 rfl (by decide) (.slice (some ⟨wr.heap.size, 0, none⟩) 0 0) 0 [] rfl (ownsRow_empty wr) wr.heap.size A1 l.length c1 (ints l) rfl (R1.alloc_ _) (ints_oneCell' l) ?_ ?_ ?_ ?_; (unfold maxLen; omega); omega; (simp); intro r' w2 hown2 hgrow2 hloc2; simp only [Nat.zero_add, List.nil_append] at hown2; obtain ⟨A3, c3, hr3⟩ := own_form hown2; rw [hr3] at hown2; rw [hr3]; have hb2 : Below wr.heap.size wr w2 := ((Below.refl _ _).alloc (Nat.le_refl _) _).grown hgrow2 (by simp) (fun q hq => by simp [Value.ownBlock] at hq; omega); have hs2 := hb2.size; have hbb := hbel.trans (hb2.mono hs); clear hgrow2 hloc2 hr3) | (at_builtin; refine wpList_append_own_at _ rfl _ _ 44 rfl w.heap.size 32 i0 (.slice none 0 0) 1 24 Try.underlying44 hi hz0 hz1 hz2 rfl (by decide) u3 _ _ rfl ((ho.below hb2).hdr.alloc _) ⟨w2.heap.size, 0, none⟩ 1 1 [.slice A3 l.length c3] rfl rfl (cell_one_new _ _ _) (by intro u hu; obtain rfl := List.mem_singleton.1 hu; rfl) ?_ ?_ ?_ ?_; (unfold maxLen; omega); omega; (simp; omega); intro v' w3 hown' hgrow hnil hloc))
   have hsn := ho.snoc hb2 hown2 _ hown' hgrow hs
   go_roundw
   case rel => exact ⟨k + 1, _, by omega, by go_num, by rw [Ht.out]; exact hsn, below_of_grown hbb hgrow (by omega) hv⟩
   case measure => simp [intOf]; omega
  ·obtain rfl : k = G.length := by omega
   rw [List.take_length] at ho
   clear h hn2
   go_wp2
   go_ret
   exact NewII.mk_ ho hbel
/-- lists that read as M, and a bool -/
def ReadII2 (w : World) (M : List (List Int)) (b : Bool) (e : Ending) (w' : World) : Prop :=
 ∃ A c, e = .returned (.tuple #[.slice A M.length c, .bool b]) ∧ LRd w' w'.heap.size A M ∧ Below w.heap.size w w'
set_option maxHeartbeats 4000000 in
theorem l7RawHeardBy_any (A : Option Addr) (cp : Nat) (g : Int) (l : List Dd) (w : World) (h : RD w w.heap.size A l) (hlen : l.length ≤ 1048576) :
  Calls Try.prog 43 #[.int .i64 g, .slice A l.length cp] w (ReadII2 w (heardL g l) (meetB g l)) := by
 cases hm : meetB g l
 ·have E := Lib.hid (heardL_no hm)
  go_enter Try.func43, Try.ntmps43
  go_wp2_with (go_at_call 33; refine (l7Run_no h hlen hm).mono ?_; rintro e w1 ⟨AA, kA, rfl, h1, hb⟩)
  go_ret2
  rw [E.out]
  exact ⟨_, _, rfl, (fun k hk => by simp at hk), (hb.alloc hb.size _).alloc (by have := hb.size; simp; omega) _⟩
 ·obtain ⟨b1, b2, b3, b4⟩ := meetB_true hm
  obtain ⟨n, rfl⟩ : ∃ n : Nat, g = n := ⟨g.toNat, by omega⟩
  have en : ((n : Nat) : Int).toNat = n := by omega
  have E := Lib.hid (heardL_yes hm)
  rw [en] at E
  have hn5 : n ≤ 5 := by omega
  have hn0 : ¬ n = 0 := by omega
  go_enter Try.func43, Try.ntmps43
  go_wp2_with (go_at_call 33; refine (l7Run_yes h hlen hm).mono ?_; rw [en]; rintro e w1 ⟨go, kO, gh, kH, AA, kA, V, rfl, hR⟩; have hk0 : ¬ kH = 1 := (by have := hR.cH; omega); have hk1 : ¬ kH - 1 = 0 := (by have := hR.cH; omega); have hk2 : (1 : Int) ≤ (kH : Int) := (by have := hR.cH; omega); have hk3 : (n : Int) + 1 ≤ (kH : Int) := (by have := hR.cH; omega))
  go_ret2
  rw [E.out]
  have hl : ((List.range n).map fun q => fut on0 l (q + 1)).length = n := by simp
  refine ⟨_, _, by rw [hl]; rfl, fun j hj => ?_, hR.bel.alloc hR.bel.size _⟩
  rw [hl] at hj
  obtain ⟨A1, c1, h1, h2⟩ := hR.atH (q := j + 1) (by omega)
  have e1 : ((⟨gh, 1, none⟩ : Addr).add j) = ⟨gh, j + 1, none⟩ := by
   unfold Addr.add
   by_cases hj0 : j = 0
   ·subst hj0; rfl
   ·simp [hj0]; omega
  refine ⟨⟨gh, 1, none⟩, A1, c1, rfl, by have := hR.gH; simp; omega, ?_, ?_⟩
  ·rw [e1, List.getElem_map, List.getElem_range]
   exact (World.cell?_alloc_lt w1 _ ⟨gh, j + 1, none⟩ hR.gH).trans h1
  ·rw [List.getElem_map, List.getElem_range]
   exact (Reads.alloc h2 (Nat.le_refl _) _).more (by simp)
set_option maxHeartbeats 4000000 in
theorem sHeardBy_any (A : Option Addr) (cp : Nat) (g : Int) (l : List Dd) (w : World) (h : RD w w.heap.size A l) (hlen : l.length ≤ 1048576) :
  Calls Try.prog 30 #[.int .i64 g, .slice A l.length cp] w (ReadII2 w (heardL g l) (meetB g l)) := by
 have hll := heardL_len g l
 have hlr := heardL_row (g := g) (l := l)
 obtain ⟨M, hM⟩ : ∃ M, M = heardL g l := ⟨_, rfl⟩
 have hraw := l7RawHeardBy_any A cp g l w h hlen
 rw [← hM] at hraw hll hlr ⊢
 clear hM
 go_enter Try.func30, Try.ntmps30
 go_wp2_with fail
 refine hraw.mono ?_
 rintro e w1 ⟨A1, c1, rfl, h1, hb1⟩
 clear hraw
 go_wp2_with fail
 refine (l11OwnListListint_any A1 c1 M w1 h1 (by omega) (fun r hr => by have := hlr r hr; omega)).mono ?_
 rintro e w2 ⟨A2, c2, V, rfl, h2, hb2⟩
 clear hlr h1
 go_wp2_with fail
 go_ret2
 exact ⟨A2, c2, rfl, LRd.of_oii h2, hb1.trans (hb2.mono hb1.size)⟩
end Go.Proofs.Ythmgpkcijolljaa
