/-
  A board that is being made.
-/
import Derived.Test.YthdnhaaojicmbaaDoorRun
import Derived.Test.YthdnhaaojicmbaaDoorOut
import Derived.Test.YthdnhaaojicmbaaDoorOut3
namespace Go.Proofs.YthdnhaaojicmbaaDoor
open Go.RowKit
set_option linter.unusedSimpArgs false
set_option linter.unusedVariables false

/-- a board whose rows are still being made -/
structure PB (w : World) (base : Nat) (vL vO vV vP : Value) (ls : List Ln) (os : List Int) (vs : List Value) (ps : List Pt) : Prop where
  lines : LinesAt w base vL ls
  own : w.ownsRow base 3 1 vO os.length (ints os)
  ovr : w.ownsRow base 22 1 vV vs.length vs
  pts : w.ownsRow base 93 6 vP ps.length (ps.flatMap encP)
  heard : ∀ q ∈ ps, w.ownsRow base 3 1 (rowV q.heard) q.heard.2.1.length (ints q.heard.2.1)
  plan : ∀ q ∈ ps, w.ownsRow base 67 3 (rowV q.plan) q.plan.2.1.length (cells3 q.plan.2.1)
  each : ∀ v ∈ vs, lenV v = 0 ∧ ∃ xs, w.ownsRow base 3 1 v (lenV v) xs
  apH : ∀ v ∈ vs, ∀ x ∈ ls, Apart v (rowV x.held)
  apQ : ∀ v ∈ vs, ∀ q ∈ ps, Apart v (rowV q.heard)
  apO : ∀ v ∈ vs, Apart v vO
  apV : ∀ (i j : Nat) (v u : Value), i ≠ j → vs[i]? = some v → vs[j]? = some u → Apart v u
section
variable {w0 w w' : World} {base : Nat} {vL vO vV vP : Value} {ls : List Ln} {os : List Int} {vs : List Value} {ps : List Pt}
theorem PB.keep (h : PB w base vL vO vV vP ls os vs ps) (hb : Below w.heap.size w w') : PB w' base vL vO vV vP ls os vs ps :=
  ⟨⟨own_below h.lines.row hb, fun x hx => own_below (h.lines.held x hx) hb⟩, own_below h.own hb, own_below h.ovr hb, own_below h.pts hb, fun q hq => own_below (h.heard q hq) hb, fun q hq => own_below (h.plan q hq) hb,
   fun v hv => by obtain ⟨h0, xs, h2⟩ := h.each v hv; exact ⟨h0, xs, own_below h2 hb⟩, h.apH, h.apQ, h.apO, h.apV⟩
theorem PB.alloc (h : PB w base vL vO vV vP ls os vs ps) (o : Obj) : PB (w.alloc o) base vL vO vV vP ls os vs ps := h.keep ((Below.refl _ _).alloc (Nat.le_refl _) o)
theorem PB.drew (h : PB w base vL vO vV vP ls os vs ps) : PB w.drew base vL vO vV vP ls os vs ps := h.keep (Below.refl _ _).drew
theorem PB.box (h : PB w base vL vO vV vP ls os vs ps) {b i : Nat} {cs : Array Value} (hb : Blk w b 79 cs) (u : Value) : PB (w.setCell ⟨b, i, none⟩ u) base vL vO vV vP ls os vs ps := by
  have t : ∀ {n sz : Nat} {e : TypeId} {v : Value} {xs : List Value}, w.ownsRow base e sz v n xs → e ≠ 79 → (w.setCell ⟨b, i, none⟩ u).ownsRow base e sz v n xs := fun hr hne => ownsRow_setCell_other hr (a := ⟨b, i, none⟩) (own_blk_ne hr hb hne) u
  exact ⟨⟨t h.lines.row (by decide), fun x hx => t (h.lines.held x hx) (by decide)⟩, t h.own (by decide), t h.ovr (by decide), t h.pts (by decide), fun q hq => t (h.heard q hq) (by decide), fun q hq => t (h.plan q hq) (by decide), fun v hv => by obtain ⟨h0, xs, h2⟩ := h.each v hv; exact ⟨h0, xs, t h2 (by decide)⟩, h.apH, h.apQ, h.apO, h.apV⟩
theorem mem_snoc {α : Type} {l : List α} {x y : α} (h : y ∈ l ++ [x]) : y ∈ l ∨ y = x := by
  rcases List.mem_append.1 h with h | h
  · exact .inl h
  · exact .inr (List.mem_singleton.1 h)
theorem PB.snocV (h0 : PB w0 base vL vO vV vP ls os vs ps) (h : PB w base vL vO vV vP ls os vs ps) {v vV' : Value} (hg : w.grownBy w' vV.ownBlock) (hown : w'.ownsRow base 22 1 vV' (vs ++ [v]).length (vs ++ [v])) (hv : w.ownsRow base 3 1 v 0 []) (hb : ∀ r, v.ownBlock = some r → w0.heap.size ≤ r) (hl : lenV v = 0) : PB w' base vL vO vV' vP ls os (vs ++ [v]) ps := by
  have m : ∀ {n sz : Nat} {e : TypeId} {u : Value} {xs : List Value}, w.ownsRow base e sz u n xs → e ≠ 22 → w'.ownsRow base e sz u n xs := fun hr hne => own_mark hr hg fun k e1 e2 => apart_ty hr h.ovr hne k e1 e2
  have fr : ∀ {n sz : Nat} {e : TypeId} {u : Value} {xs : List Value}, w0.ownsRow base e sz u n xs → Apart v u := fun hr r e1 e2 => by
    have a := hb r e1
    have b := (hr.lt r e2).2
    omega
  refine ⟨⟨m h.lines.row (by decide), fun x hx => m (h.lines.held x hx) (by decide)⟩, m h.own (by decide), hown, m h.pts (by decide), fun q hq => m (h.heard q hq) (by decide), fun q hq => m (h.plan q hq) (by decide), fun u hu => ?_, fun u hu x hx => ?_, fun u hu q hq => ?_, fun u hu => ?_, fun i j u1 u2 hij e1 e2 => ?_⟩
  · rcases mem_snoc hu with hu | rfl
    · obtain ⟨h1, xs, h2⟩ := h.each u hu; exact ⟨h1, xs, m h2 (by decide)⟩
    · exact ⟨hl, [], by rw [hl]; exact m hv (by decide)⟩
  · rcases mem_snoc hu with hu | rfl
    · exact h.apH u hu x hx
    · exact fr (h0.lines.held x hx)
  · rcases mem_snoc hu with hu | rfl
    · exact h.apQ u hu q hq
    · exact fr (h0.heard q hq)
  · rcases mem_snoc hu with hu | rfl
    · exact h.apO u hu
    · exact fr h0.own
  · have old : ∀ {j : Nat} {u : Value}, vs[j]? = some u → Apart v u := fun hj => by
      obtain ⟨_, ys, hy⟩ := h0.each _ (List.mem_of_getElem? hj)
      exact fr hy
    by_cases i1 : i < vs.length
    · rw [List.getElem?_append_left i1] at e1
      by_cases j1 : j < vs.length
      · rw [List.getElem?_append_left j1] at e2
        exact h.apV i j u1 u2 hij e1 e2
      · rw [List.getElem?_append_right (by omega)] at e2
        have : j - vs.length = 0 := by
          rcases Nat.eq_zero_or_pos (j - vs.length) with e | e
          · exact e
          · rw [List.getElem?_eq_none (by simp; omega)] at e2; cases e2
        rw [this] at e2
        injection e2 with e2
        subst e2
        exact fun r a b => old e1 r b a
    · rw [List.getElem?_append_right (by omega)] at e1
      have hi0 : i - vs.length = 0 := by
        rcases Nat.eq_zero_or_pos (i - vs.length) with e | e
        · exact e
        · rw [List.getElem?_eq_none (by simp; omega)] at e1; cases e1
      rw [hi0] at e1
      injection e1 with e1
      subst e1
      by_cases j1 : j < vs.length
      · rw [List.getElem?_append_left j1] at e2
        exact old e2
      · rw [List.getElem?_append_right (by omega)] at e2
        have : j - vs.length = 0 := by
          rcases Nat.eq_zero_or_pos (j - vs.length) with e | e
          · exact e
          · rw [List.getElem?_eq_none (by simp; omega)] at e2; cases e2
        omega
theorem PB.snocV' (h0 : PB w0 base vL vO vV vP ls os vs ps) (h : PB w base vL vO vV vP ls os vs ps) {g : Nat} {vV' : Value} (hg : w.grownBy w' vV.ownBlock) (hown : w'.ownsRow base 22 1 vV' (vs.length + 1) (vs ++ [.slice (some ⟨g, 0, none⟩) 0 0])) (hv : w.ownsRow w0.heap.size 3 1 (.slice (some ⟨g, 0, none⟩) 0 0) 0 []) (hb : base ≤ w0.heap.size) (hgg : w0.heap.size ≤ g) : PB w' base vL vO vV' vP ls os (vs ++ [.slice (some ⟨g, 0, none⟩) 0 0]) ps :=
  h0.snocV h hg (by rw [List.length_append]; exact hown) (own_mono hv hb) (fun r hr => by simp [Value.ownBlock] at hr; omega) rfl
theorem lo_of {v v' : Value} {n B : Nat} (hloc : v'.ownBlock = v.ownBlock ∨ v'.ownBlock = some n) (h : ∀ k, v.ownBlock = some k → B ≤ k) (hn : B ≤ n) : ∀ k, v'.ownBlock = some k → B ≤ k := fun k hk => by
  rcases hloc with e | e
  · exact h k (e.symm.trans hk)
  · rw [e] at hk; injection hk with hk; omega
theorem ne_ints_board : (22 : TypeId) ≠ 79 := by decide
theorem PB.snocP (h0 : PB w0 base vL vO vV vP ls os vs ps) (h : PB w base vL vO vV vP ls os vs ps) {q : Pt} {vP' : Value} (hg : w.grownBy w' vP.ownBlock) (hown : w'.ownsRow base 93 6 vP' (ps ++ [q]).length ((ps ++ [q]).flatMap encP)) (hv : w.ownsRow base 3 1 (rowV q.heard) q.heard.2.1.length (ints q.heard.2.1)) (hb : ∀ r, (rowV q.heard).ownBlock = some r → w0.heap.size ≤ r)
    (hp : w.ownsRow base 67 3 (rowV q.plan) q.plan.2.1.length (cells3 q.plan.2.1)) : PB w' base vL vO vV vP' ls os vs (ps ++ [q]) := by
  have m : ∀ {n sz : Nat} {e : TypeId} {u : Value} {xs : List Value}, w.ownsRow base e sz u n xs → e ≠ 93 → w'.ownsRow base e sz u n xs := fun hr hne => own_mark hr hg fun k e1 e2 => apart_ty hr h.pts hne k e1 e2
  refine ⟨⟨m h.lines.row (by decide), fun x hx => m (h.lines.held x hx) (by decide)⟩, m h.own (by decide), m h.ovr (by decide), hown, fun y hy => ?_, fun y hy => ?_, fun u hu => ?_, h.apH, fun u hu y hy => ?_, h.apO, h.apV⟩
  · rcases mem_snoc hy with hy | rfl
    · exact m (h.heard y hy) (by decide)
    · exact m hv (by decide)
  · rcases mem_snoc hy with hy | rfl
    · exact m (h.plan y hy) (by decide)
    · exact m hp (by decide)
  · obtain ⟨h1, xs, h2⟩ := h.each u hu
    exact ⟨h1, xs, m h2 (by decide)⟩
  · rcases mem_snoc hy with hy | rfl
    · exact h.apQ u hu y hy
    · obtain ⟨_, xs, h2⟩ := h0.each u hu
      exact fun r e1 e2 => by
        have a := hb r e2
        have b := (h2.lt r e1).2
        omega
theorem PB.bd (h : PB w base vL vO vV vP ls os vs ps) (h1 : 0 < ls.length) (h2 : 0 < os.length) (h3 : 0 < vs.length) (h4 : 0 < ps.length) : ∃ gL gO gV gP cL cO cV cP, vL = .slice (some ⟨gL, 0, none⟩) ls.length cL ∧ vO = .slice (some ⟨gO, 0, none⟩) os.length cO ∧ vV = .slice (some ⟨gV, 0, none⟩) vs.length cV ∧ vP = .slice (some ⟨gP, 0, none⟩) ps.length cP ∧ BD w base gL gO gV gP cL cO cV cP ls os vs ps := by
  obtain ⟨gL, cL, rfl, -⟩ := own_some h.lines.row h1
  obtain ⟨gO, cO, rfl, -⟩ := own_some h.own h2
  obtain ⟨gV, cV, rfl, -⟩ := own_some h.ovr h3
  obtain ⟨gP, cP, rfl, -⟩ := own_some h.pts h4
  exact ⟨gL, gO, gV, gP, cL, cO, cV, cP, rfl, rfl, rfl, rfl, h.lines, h.own, h.ovr, h.pts, h.heard, h.plan, fun v hv => (h.each v hv).2, h.apH, h.apQ, fun v hv e => h.apO v hv gO e rfl, h.apV⟩
end
/-- a party at its first deed -/
def newP (r : DRow) (hd : IRow) : Pt := ⟨r, 0, hd, ⟨#[]⟩, 0, 0⟩
/-- what is known of parties at their first deeds -/
def FreshP (R : List DRow) (q : Pt) : Prop := (∃ r ∈ R, q.plan = r) ∧ q.at_ = 0 ∧ q.heard.2.1 = [] ∧ q.fin = ⟨#[]⟩ ∧ q.last = 0
theorem fresh_ok {nl : Nat} {R : List DRow} {ls : List Ln} {os : List Int} {vs : List Value} {ps : List Pt} (hl : ls.length = nl + 1) (ho : os.length = nl + 1) (hv : vs.length = nl + 1) (hp : ps.length = R.length) (hR : R.length ≤ 4) (hd : ∀ r ∈ R, r.2.1.length ≤ 12 ∧ ∀ d ∈ r.2.1, deedOk nl d)
    (hln : ∀ x ∈ ls, x.held.2.1 = []) (hvv : ∀ v ∈ vs, lenV v = 0) (hq : ∀ q ∈ ps, FreshP R q) : BOk nl ls os vs ps ∧ mu ls ps ≤ 500 := by
  have m1 : (ls.map fun x => x.held.2.1.length).sum = 0 := by
    clear hl
    induction ls with
    | nil => rfl
    | cons a l ih =>
      simp only [List.map_cons, List.sum_cons]
      rw [hln a (by simp), ih (fun x hx => hln x (by simp [hx]))]
      rfl
  have m2 : ∀ l : List Pt, (∀ q ∈ l, FreshP R q) → (l.map muP).sum ≤ 25 * l.length := fun l => by
    induction l with
    | nil => intro _; simp
    | cons a l ih =>
      intro h
      have h1 := ih (fun x hx => h x (by simp [hx]))
      obtain ⟨⟨r, hr, e⟩, e2, _, e4, _⟩ := h a (by simp)
      have h3 := (hd r hr).1
      have h4 : muP a ≤ 25 := by
        unfold muP
        rw [e, e2]
        split <;> omega
      simp only [List.map_cons, List.sum_cons, List.length_cons]
      omega
  have m3 := m2 ps hq
  have hm : mu ls ps ≤ 100 := by unfold mu; omega
  refine ⟨⟨hl, ho, hv, by omega, fun q h => ?_, fun x hx y hy => ?_, fun q h => ?_, fun v h => ?_⟩, by omega⟩
  · obtain ⟨⟨r, hr, e⟩, e2, e3, e4, e5⟩ := hq q h
    refine ⟨by omega, by rw [e]; exact (hd r hr).1, by rw [e]; exact (hd r hr).2, .inl e4, by omega, by omega, fun x hx => ?_⟩
    rw [e3] at hx; cases hx
  · rw [hln x hx] at hy; cases hy
  · obtain ⟨_, _, e3, _⟩ := hq q h
    rw [e3]; simp; omega
  · rw [hvv v h]; omega
end Go.Proofs.YthdnhaaojicmbaaDoor
/-
  l3Open: a board is made.
-/
namespace Go.Proofs.YthdnhaaojicmbaaDoor
open Go.RowKit
set_option linter.unusedSimpArgs false
set_option linter.unusedVariables false

theorem ints_info : (Tryd.prog.info? 22).map (fun i => (i.zero, i.size, i.bytes)) = some (some (Value.slice none 0 0), 1, 24) := by kernel_rfl
/-- behind l3Open: a board with parties at their first deeds -/
def BoardOpened (base nl n : Nat) (w : World) (e : Ending) (w' : World) : Prop :=
  ∃ (gL gO gV gP cL cO cV cP : Nat) (ls : List Ln) (os : List Int) (vs : List Value) (ps : List Pt), e = .returned (.agg #[.slice (some ⟨gL, 0, none⟩) ls.length cL, .slice (some ⟨gO, 0, none⟩) os.length cO, .slice (some ⟨gV, 0, none⟩) vs.length cV, .slice (some ⟨gP, 0, none⟩) ps.length cP]) ∧
    ps.length = n ∧ BD w' base gL gO gV gP cL cO cV cP ls os vs ps ∧ BOk nl ls os vs ps ∧ mu ls ps ≤ 500 ∧ Below w.heap.size w w'
set_option maxHeartbeats 16000000 in
theorem l3Open_any (base : Nat) (A : Option Addr) (c : Nat) (l : List Int) (A2 : Option Addr) (c2 : Nat) (R : List DRow) (A3 : Option Addr) (c3 : Nat) (L3 : List Int) (w : World) (h : RI w w.heap.size A l) (P : PlansAt w base (.slice A2 R.length c2) R) (h3 : RI w w.heap.size A3 L3) (hbase : base ≤ w.heap.size) (hl6 : l.length ≤ 6) (hL3 : L3.length = l.length) (hR1 : 1 ≤ R.length) (hR4 : R.length ≤ 4) (hd : ∀ r ∈ R, r.2.1.length ≤ 12 ∧ ∀ d ∈ r.2.1, deedOk l.length d) :
    Calls Tryd.prog 48 #[.slice A l.length c, .slice A2 R.length c2, .slice A3 L3.length c3] w (BoardOpened base l.length R.length w) := by
  obtain ⟨i0, hi0, iz0, iz1, iz2⟩ := info_parts int_info
  have HI := Lib.hid (And.intro hi0 (And.intro iz0 (And.intro iz1 iz2)))
  obtain ⟨s0, hs0, sz0, sz1, sz2⟩ := info_parts ints_info
  have HSI := Lib.hid (And.intro hs0 (And.intro sz0 (And.intro sz1 sz2)))
  obtain ⟨j0, hj0, jz0, jz1, jz2⟩ := info_parts party_info
  have HJ := Lib.hid (And.intro hj0 (And.intro jz0 (And.intro jz1 jz2)))
  clear hi0 iz0 iz1 iz2 hs0 sz0 sz1 sz2 hj0 jz0 jz1 jz2
  have B1 := (Below.refl w.heap.size w).alloc (Nat.le_refl _) (.cells #[.slice none 0 0, .slice none 0 0, .slice none 0 0, .slice none 0 0] 79)
  have kR1 := Blk.new w 79 #[.slice none 0 0, .slice none 0 0, .slice none 0 0, .slice none 0 0]
  have h1 : RI (w.alloc (.cells #[.slice none 0 0, .slice none 0 0, .slice none 0 0, .slice none 0 0] 79)) (w.alloc (.cells #[.slice none 0 0, .slice none 0 0, .slice none 0 0, .slice none 0 0] 79)).heap.size A l := (h.below B1).more (by simp)
  have HP := Lib.hid P
  have H3 := Lib.hid h3
  have Hd := Lib.hid hd
  have HL3 := Lib.hid hL3
  have hL36 : L3.length ≤ 6 := by omega
  clear P h3 hd h hL3
  go_enter Tryd.func48, Tryd.ntmps48
  go_wp2_with (first | (go_at_call 58; refine (l1Open_any A c l _ h1 (by omega)).mono ?_; rintro e w2 ⟨ls, A1, c1, rfl, hls, hfr, hLA, hb2⟩; have B2 := B1.trans (hb2.mono B1.size); have hs2 := B2.size; have bN := (Below.refl w2.heap.size w2).alloc (Nat.le_refl _) (.cells #[.int .i64 (-1)] 3); have oN : (w2.alloc (.cells #[.int .i64 (-1)] 3)).ownsRow w2.heap.size 3 1 (.slice (some ⟨w2.heap.size, 0, none⟩) 1 1) 1 [.int .i64 (-1)] := ownsRow_blk (l := [-1]) (Blk.new w2 _ _) (Nat.le_refl _) (by decide); have hI : RI (w2.alloc (.cells #[.int .i64 (-1)] 3)) (w2.alloc (.cells #[.int .i64 (-1)] 3)).heap.size A3 L3 := ((H3.out.below B2).more hs2).alloc_ _ |>.more (by simp); have HLS := Lib.hid (And.intro hls (And.intro hfr hLA)); clear hls hfr hLA h1) | (at_builtin; refine wpList_append_any _ rfl _ _ 22 rfl w2.heap.size 3 i0 (.int .i64 0) 1 8 Tryd.underlying22 HI.out.1 HI.out.2.1 HI.out.2.2.1 HI.out.2.2.2 rfl (by decide) (.slice (some ⟨w2.heap.size, 0, none⟩) 1 1) _ _ rfl oN _ A3 L3.length c3 (ints L3) rfl hI (ints_oneCell' L3) ?_ ?_ ?_ ?_; (unfold maxLen; omega); omega; exact bN.size; intro v4 w4 hown4 hgrow4 hloc4; have b4 := bN.grown hgrow4 bN.size (fun k hk => (oN.lt k hk).1); obtain ⟨os, hos⟩ : ∃ os : List Int, -1 :: L3 = os := ⟨_, rfl⟩; have hown4 : w4.ownsRow w2.heap.size 3 1 v4 os.length (ints os) := (by rw [← hos]; simpa [ints, Nat.add_comm] using hown4); have HOS : Hid (os.length = L3.length + 1) := Lib.hid (by rw [← hos]; simp); obtain ⟨A4, c4, rfl⟩ := own_form hown4; clear hos))
  have b7w : Below w.heap.size w w4 := B2.trans (b4.mono hs2)
  have hs4 := b7w.size
  obtain ⟨hls, hfr, hLA⟩ := HLS.out
  have hs1w : (w.alloc (.cells #[.slice none 0 0, .slice none 0 0, .slice none 0 0, .slice none 0 0] 79)).heap.size = w.heap.size + 1 := World.size_alloc w _
  have pb0 : PB (w4.alloc (.cells #[.slice A1 ls.length c1, .slice A4 os.length c4, .slice none 0 0, .slice none 0 0] 79)) base (.slice A1 ls.length c1) (.slice A4 os.length c4) (.slice none 0 0) (.slice none 0 0) ls os [] [] := by
    have q0 : PB w4 base (.slice A1 ls.length c1) (.slice A4 os.length c4) (.slice none 0 0) (.slice none 0 0) ls os [] [] :=
      ⟨⟨own_mono (own_below hLA.row b4) (by omega), fun x hx => own_mono (own_below (hLA.held x hx) b4) (by omega)⟩, own_mono hown4 (by omega), ⟨rfl, .inl ⟨rfl, rfl⟩⟩, ⟨rfl, .inl ⟨rfl, rfl⟩⟩, (fun q hq => by cases hq), (fun q hq => by cases hq), (fun v hv => by cases hv), (fun v hv => by cases hv), (fun v hv => by cases hv), (fun v hv => by cases hv), (fun i j v u hij e1 => by simp at e1)⟩
    exact q0.alloc _
  have bW := b7w.alloc hs4 (.cells #[.slice A1 ls.length c1, .slice A4 os.length c4, .slice none 0 0, .slice none 0 0] 79)
  have kW : Blk (w4.alloc (.cells #[.slice A1 ls.length c1, .slice A4 os.length c4, .slice none 0 0, .slice none 0 0] 79)) w4.heap.size 79 #[.slice A1 ls.length c1, .slice A4 os.length c4, .slice none 0 0, .slice none 0 0] := Blk.new w4 _ _
  have kRW : Blk (w4.alloc (.cells #[.slice A1 ls.length c1, .slice A4 os.length c4, .slice none 0 0, .slice none 0 0] 79)) w.heap.size 79 #[.slice none 0 0, .slice none 0 0, .slice none 0 0, .slice none 0 0] := (((kR1.below hb2 kR1.lt).below b4 (by have := hb2.size; omega)).alloc _)
  obtain ⟨b7, hb7⟩ : ∃ b7, w4.heap.size = b7 := ⟨_, rfl⟩
  have hb7w : w.heap.size < b7 := by have := hb2.size; have := b4.size; omega
  have hlsl : ls.length ≤ 7 := by omega
  have HL1 := Lib.hid (And.intro hls hfr)
  rw [hb7] at kW
  simp only [hb7]
  generalize w4.alloc (.cells #[.slice A1 ls.length c1, .slice A4 os.length c4, .slice none 0 0, .slice none 0 0] 79) = w5 at pb0 bW kW kRW ⊢
  have HS := Lib.hid (And.intro pb0 (And.intro bW (And.intro kW kRW)))
  clear pb0 bW kW kRW b4 B1 B2 hs2 bN oN hI hown4 hgrow4 hloc4 b7w hs4 hLA HLS hb2 kR1 hs1w hb7 hls hfr H3
  go_loopw [8] (fun i wr => ∃ (j : Nat) (vs : List Value) (vV : Value), i = .int .i64 j ∧ j ≤ ls.length ∧ vs.length = j ∧ PB wr base (.slice A1 ls.length c1) (.slice A4 os.length c4) vV (.slice none 0 0) ls os vs [] ∧ Below w.heap.size w wr ∧ Blk wr b7 79 #[.slice A1 ls.length c1, .slice A4 os.length c4, vV, .slice none 0 0] ∧ Blk wr w.heap.size 79 #[.slice none 0 0, .slice none 0 0, .slice none 0 0, .slice none 0 0] ∧ ∀ k, vV.ownBlock = some k → w.heap.size ≤ k) (fun i _ => ls.length - (intOf i).toNat)
  case atStart =>
    obtain ⟨h1, h2, h3, h4⟩ := HS.out
    exact ⟨0, [], _, rfl, Nat.zero_le _, rfl, h1, h2, h3, h4, fun k hk => by cases hk⟩
  case round =>
    clear HS
    obtain ⟨j, vs, vV, rfl, hj, hvs, hPB, hb, kB, kR, hgv⟩ := hrel
    have GV := Lib.hid hgv
    clear hgv
    have z0 : wr.cell? ⟨b7, 0, none⟩ = some (.slice A1 ls.length c1) := kB.cell 0
    have z2 : wr.cell? ⟨b7, 2, none⟩ = some vV := kB.cell 2
    have Hvs := Lib.hid hvs
    clear hvs
    have hsz := hb.size
    by_cases hlt : j < ls.length
    · have hlt' : (j : Int) < (ls.length : Int) := by omega
      obtain ⟨vA, vc, hvV⟩ := own_form hPB.ovr
      subst hvV
      have a1 := hPB.alloc (.cells #[] 3)
      have a2 := a1.alloc (.cells #[.slice (some ⟨wr.heap.size, 0, none⟩) 0 0] 22)
      have kB2 := (kB.alloc (.cells #[] 3)).alloc (.cells #[.slice (some ⟨wr.heap.size, 0, none⟩) 0 0] 22)
      have kR2 := (kR.alloc (.cells #[] 3)).alloc (.cells #[.slice (some ⟨wr.heap.size, 0, none⟩) 0 0] 22)
      have hb2 := (hb.alloc hsz (.cells #[] 3)).alloc (by simp; omega) (.cells #[.slice (some ⟨wr.heap.size, 0, none⟩) 0 0] 22)
      have hv := ((ownsRow_emptyI wr).alloc (.cells #[.slice (some ⟨wr.heap.size, 0, none⟩) 0 0] 22))
      have hrd := (Blk.new_at (g := wr.heap.size + 1) (wr.alloc (.cells #[] 3)) 22 #[.slice (some ⟨wr.heap.size, 0, none⟩) 0 0] (World.size_alloc wr _).symm).reads rfl
      have hsz2 := hb2.size
      have oV := a2.ovr
      have HA := Lib.hid (And.intro a2 (And.intro kB2 (And.intro kR2 (And.intro hb2 hv))))
      clear a1 a2 kB2 kR2 hb2 hv
      go_wp2_with (at_builtin; refine wpList_append_any _ rfl _ _ 76 rfl base 22 s0 (.slice none 0 0) 1 24 Tryd.underlying76 HSI.out.1 HSI.out.2.1 HSI.out.2.2.1 HSI.out.2.2.2 rfl (by decide) (.slice vA vs.length vc) _ _ rfl oV _ (some ⟨wr.heap.size + 1, 0, none⟩) 1 1 [.slice (some ⟨wr.heap.size, 0, none⟩) 0 0] rfl hrd (by intro u hu; obtain rfl := List.mem_singleton.1 hu; rfl) ?_ ?_ ?_ ?_; (have := Hvs.out; unfold maxLen; omega); (have := Hvs.out; omega); (exact Nat.le_trans hbase hsz2); intro v' w4 hown' hgrow hloc; have pb4 := hPB.snocV' HA.out.1 hgrow hown' HA.out.2.2.2.2 (Nat.le_trans hbase hsz) (Nat.le_refl _); have kB4 := HA.out.2.1.grown hgrow (fun e => own_blk_ne oV HA.out.2.1 ne_ints_board e.symm); have kR4 := HA.out.2.2.1.grown hgrow (fun e => own_blk_ne oV HA.out.2.2.1 ne_ints_board e.symm); have b4 : Below w.heap.size w w4 := HA.out.2.2.2.1.grown hgrow hsz2 (fun k hk => GV.out k hk); have GV4 := Lib.hid (lo_of hloc GV.out hsz2); obtain ⟨A9, c9, rfl⟩ := own_form hown'; have HB4 := Lib.hid (And.intro pb4 (And.intro kB4 (And.intro kR4 b4))); clear pb4 kR4 b4 hown' hgrow hloc; have z2b : w4.cell? ⟨b7, 2, none⟩ = some (.slice vA vs.length vc) := kB4.cell 2; have fz := kB4.frozen 2)
      obtain ⟨pb4, kB4', kR4, b4⟩ := HB4.out
      have pb5 := pb4.box (i := 2) kB4' (.slice A9 (vs.length + 1) c9)
      have kB5 := kB4'.set_ 2 (.slice A9 (vs.length + 1) c9)
      have kR5 := kR4.far (p := ⟨b7, 2, none⟩) (by show w.heap.size ≠ b7; omega) (.slice A9 (vs.length + 1) c9)
      have b5 := b4.setCell (p := ⟨b7, 2, none⟩) (by show w.heap.size ≤ b7; omega) (.slice A9 (vs.length + 1) c9)
      clear pb4 kB4' kB4 kR4 b4 HB4 z2b fz
      go_roundw
      case rel => exact ⟨j + 1, vs ++ [.slice (some ⟨wr.heap.size, 0, none⟩) 0 0], _, by congr 1, by omega, by rw [List.length_append, Hvs.out]; rfl, pb5, b5, kB5, kR5, GV4.out⟩
      case measure => simp [intOf]; omega
    · obtain rfl : j = ls.length := by omega
      have hlt' : ¬ (ls.length : Int) < (ls.length : Int) := by omega
      obtain ⟨vA, vc, hvV⟩ := own_form hPB.ovr
      subst hvV
      have HS := Lib.hid (And.intro hPB (And.intro hb (And.intro kB kR)))
      clear hPB hb kB kR
      go_wp2_with fail
      clear z0 z2
      go_loopw [9] (fun i wr => ∃ (k : Nat) (ps : List Pt) (vP : Value), i = .int .i64 k ∧ k ≤ R.length ∧ ps.length = k ∧ (∀ q ∈ ps, FreshP R q) ∧ PB wr base (.slice A1 ls.length c1) (.slice A4 os.length c4) (.slice vA vs.length vc) vP ls os vs ps ∧ Below w.heap.size w wr ∧ Blk wr b7 79 #[.slice A1 ls.length c1, .slice A4 os.length c4, .slice vA vs.length vc, vP] ∧ Blk wr w.heap.size 79 #[.slice none 0 0, .slice none 0 0, .slice none 0 0, .slice none 0 0] ∧ ∀ k, vP.ownBlock = some k → w.heap.size ≤ k) (fun i _ => R.length - (intOf i).toNat)
      case atStart =>
        obtain ⟨h1, h2, h3, h4⟩ := HS.out
        exact ⟨0, [], _, rfl, Nat.zero_le _, rfl, (fun q hq => by cases hq), h1, h2, h3, h4, fun k hk => by cases hk⟩
      case round =>
        clear HS
        obtain ⟨k, ps, vP, rfl, hk, hps, hfr, hPB, hb, kB, kR, hgp⟩ := hrel
        have GP := Lib.hid hgp
        have Hps := Lib.hid hps
        have HFr := Lib.hid hfr
        clear hgp hps hfr
        have hsz' := hb.size
        by_cases hlt2 : k < R.length
        · have hlt2' : (k : Int) < (R.length : Int) := by omega
          obtain ⟨ad, u, hA2, hbl, hu, hcw⟩ := (Reads.of_own HP.out.1).at_ hlt2
          obtain ⟨r, hr⟩ : ∃ r, R[k] = r := ⟨_, rfl⟩
          have hrm : r ∈ R := by rw [← hr]; exact List.getElem_mem hlt2
          have hu2 : u = rowV r := by
            rw [List.getElem?_map, List.getElem?_eq_getElem hlt2, hr] at hu
            injection hu with hu
            exact hu.symm
          subst hu2
          obtain ⟨Ar, lr, cr⟩ := r
          simp only [rowV] at hcw
          subst hA2
          have hpl : wr.ownsRow base 67 3 (.slice Ar lr.length cr) lr.length (cells3 lr) := own_below (HP.out.2 _ hrm).1 hb
          have z3 : wr.cell? ⟨b7, 3, none⟩ = some vP := kB.cell 3
          have hc := keepC hb hcw
          obtain ⟨pA, pc, hvP⟩ := own_form hPB.pts
          subst hvP
          have pbA := (hPB.drew.alloc (.cells #[] 3)).alloc (.cells #[.slice Ar lr.length cr, .int .i64 0, .slice (some ⟨wr.heap.size, 0, none⟩) 0 0, .string ⟨#[]⟩, .int .i64 0, .int .i64 0] 93)
          have kNN := Blk.new_at (g := wr.heap.size + 1) (wr.alloc (.cells #[] 3)) 93 #[.slice Ar lr.length cr, .int .i64 0, .slice (some ⟨wr.heap.size, 0, none⟩) 0 0, .string ⟨#[]⟩, .int .i64 0, .int .i64 0] (World.size_alloc wr _).symm
          have hrd : Reads ((wr.alloc (.cells #[] 3)).alloc (.cells #[.slice Ar lr.length cr, .int .i64 0, .slice (some ⟨wr.heap.size, 0, none⟩) 0 0, .string ⟨#[]⟩, .int .i64 0, .int .i64 0] 93)) ((wr.alloc (.cells #[] 3)).alloc (.cells #[.slice Ar lr.length cr, .int .i64 0, .slice (some ⟨wr.heap.size, 0, none⟩) 0 0, .string ⟨#[]⟩, .int .i64 0, .int .i64 0] 93)).heap.size 6 (some ⟨wr.heap.size + 1, 0, none⟩) 1 ([newP (Ar, lr, cr) (some ⟨wr.heap.size, 0, none⟩, [], 0)].flatMap encP) := by
            have h6 := lit_reads (wr.alloc (.cells #[] 3)) 93 ([newP (Ar, lr, cr) (some ⟨wr.heap.size, 0, none⟩, [], 0)].flatMap encP) 6 1 rfl
            have hsz6 : (wr.alloc (.cells #[] 3)).heap.size = wr.heap.size + 1 := World.size_alloc wr _
            rw [hsz6] at h6
            exact h6
          have hheard := (ownsRow_emptyI wr).alloc (.cells #[.slice Ar lr.length cr, .int .i64 0, .slice (some ⟨wr.heap.size, 0, none⟩) 0 0, .string ⟨#[]⟩, .int .i64 0, .int .i64 0] 93)
          have HR2 := Lib.hid (And.intro hpl (And.intro hrd (And.intro hheard (And.intro hcw (And.intro hrm hr)))))
          have HPB := Lib.hid (And.intro hPB pbA)
          have HKB := Lib.hid (And.intro kB (And.intro kR hb))
          clear hpl hrd hheard hcw hrm hr hPB pbA kB kR hb kNN hbl hu
          go_upto_region 9 with fail
          go_wp2_with fail
          refine wp_region_noPanic ?_
          refine wp_region_late (C := (fun w' => w'.cell? ⟨b7, 3, none⟩ = some (.slice pA ps.length pc) ∧ w'.cell? (ad.add k) = some (.slice Ar lr.length cr))) (t := 11) (by kernel_rfl) (⟨z3, hc⟩) (fun hHeld => ?_)
          refine' Late.take (i := 0) (oi := _) (v := _) rfl (by kernel_rfl) (by kernel_rfl) (by kernel_rfl) (by kernel_rfl) (fun _ _ _ h => h) (Or.inl ⟨by rfl, ?hy0r9⟩) hHeld ?rest0r9
          case hy0r9 => (intro w' hSw; (try dsimp only at hSw); go_simp; try with_reducible rfl)
          case' rest0r9 => try simp only [Act.put, List.setIfInBounds_toArray, List.set_cons_zero, List.set_cons_succ, List.getElem_toArray, List.getElem_cons_succ, List.getElem_cons_zero]
          refine' Late.take (i := 1) (oi := _) (v := _) rfl (by kernel_rfl) (by kernel_rfl) (by kernel_rfl) (by kernel_rfl) (fun _ _ _ h => h) (Or.inl ⟨by rfl, ?hy1r9⟩) hHeld ?rest1r9
          case hy1r9 => (intro w' hSw; (try dsimp only at hSw); go_simp; try with_reducible rfl)
          case' rest1r9 => try simp only [Act.put, List.setIfInBounds_toArray, List.set_cons_zero, List.set_cons_succ, List.getElem_toArray, List.getElem_cons_succ, List.getElem_cons_zero]
          refine' Late.take (i := 2) (oi := _) (v := _) rfl (by kernel_rfl) (by kernel_rfl) (by kernel_rfl) (by kernel_rfl) (fun _ _ _ h => h) (Or.inl ⟨by rfl, ?hy2r9⟩) hHeld ?rest2r9
          case hy2r9 => (intro w' hSw; (try dsimp only at hSw); go_simp; try with_reducible rfl)
          case' rest2r9 => try simp only [Act.put, List.setIfInBounds_toArray, List.set_cons_zero, List.set_cons_succ, List.getElem_toArray, List.getElem_cons_succ, List.getElem_cons_zero]
          refine' Late.take (i := 3) (oi := _) (v := _) rfl (by kernel_rfl) (by kernel_rfl) (by kernel_rfl) (by kernel_rfl) (fun _ _ _ h => h) (Or.inl ⟨by rfl, ?hy3r9⟩) hHeld ?rest3r9
          case hy3r9 => (intro w' hSw; (try dsimp only at hSw); go_simp; try with_reducible rfl)
          case' rest3r9 => try simp only [Act.put, List.setIfInBounds_toArray, List.set_cons_zero, List.set_cons_succ, List.getElem_toArray, List.getElem_cons_succ, List.getElem_cons_zero]
          refine' Late.take (i := 4) (oi := _) (v := _) rfl (by kernel_rfl) (by kernel_rfl) (by kernel_rfl) (by kernel_rfl) (fun _ _ _ h => h) (Or.inl ⟨by rfl, ?hy4r9⟩) hHeld ?rest4r9
          case hy4r9 => (intro w' hSw; (try dsimp only at hSw); go_simp; try with_reducible rfl)
          case' rest4r9 => try simp only [Act.put, List.setIfInBounds_toArray, List.set_cons_zero, List.set_cons_succ, List.getElem_toArray, List.getElem_cons_succ, List.getElem_cons_zero]
          refine' Late.take (i := 5) (oi := _) (v := _) rfl (by kernel_rfl) (by kernel_rfl) (by kernel_rfl) (by kernel_rfl) (fun _ _ _ h => h) (Or.inl ⟨by rfl, ?hy5r9⟩) hHeld ?rest5r9
          case hy5r9 => (intro w' hSw; (try dsimp only at hSw); go_simp; try with_reducible rfl)
          case' rest5r9 => try simp only [Act.put, List.setIfInBounds_toArray, List.set_cons_zero, List.set_cons_succ, List.getElem_toArray, List.getElem_cons_succ, List.getElem_cons_zero]
          refine Late.ready (rs := [6]) (by kernel_rfl) (by simp) ?_
          refine LateAll.cons (o := _) rfl (fun K hK => ?_) LateAll.nil
          go_simp
          have BA : Below wr.heap.size wr (wr.drew.alloc (.cells #[] 3)) := ((Below.refl wr.heap.size wr).drew).alloc (Nat.le_refl _) _
          try go_wp2_with fail
          refine hK.out _ _ (⟨keepC BA z3, keepC BA hc⟩) (fun hHeld => ?_)
          clear hK K
          try simp only [Act.put, List.setIfInBounds_toArray, List.set_cons_zero, List.set_cons_succ, List.getElem_toArray, List.getElem_cons_succ, List.getElem_cons_zero]
          refine' Late.take (i := 7) (oi := _) (v := _) rfl (by kernel_rfl) (by kernel_rfl) (by kernel_rfl) (by kernel_rfl) (fun _ _ _ h => h) (Or.inl ⟨by rfl, ?hy7r9⟩) hHeld ?rest7r9
          case hy7r9 => (intro w' hSw; (try dsimp only at hSw); go_simp; try with_reducible rfl)
          case' rest7r9 => try simp only [Act.put, List.setIfInBounds_toArray, List.set_cons_zero, List.set_cons_succ, List.getElem_toArray, List.getElem_cons_succ, List.getElem_cons_zero]
          refine Late.ready (rs := [8]) (by kernel_rfl) (by simp) ?_
          refine LateAll.cons (o := _) rfl (fun K hK => ?_) LateAll.nil
          go_simp
          have BB2 : Below wr.heap.size wr ((wr.drew.alloc (.cells #[] 3)).alloc (.cells #[.slice Ar lr.length cr, .int .i64 0, .slice (some ⟨wr.heap.size, 0, none⟩) 0 0, .string ⟨#[]⟩, .int .i64 0, .int .i64 0] 93)) := BA.alloc BA.size _
          try go_wp2_with fail
          refine hK.out _ _ (⟨keepC BB2 z3, keepC BB2 hc⟩) (fun hHeld => ?_)
          clear hK K
          try simp only [Act.put, List.setIfInBounds_toArray, List.set_cons_zero, List.set_cons_succ, List.getElem_toArray, List.getElem_cons_succ, List.getElem_cons_zero]
          refine Late.ready (rs := [9]) (by kernel_rfl) (by simp) ?_
          refine LateAll.cons (o := _) rfl (fun K hK => ?_) LateAll.nil
          refine step_append_any rfl _ _ 77 rfl base 93 j0 (.agg #[.slice none 0 0, .int .i64 0, .slice none 0 0, .string ⟨#[]⟩, .int .i64 0, .int .i64 0]) 6 88 Tryd.underlying77 HJ.out.1 HJ.out.2.1 HJ.out.2.2.1 HJ.out.2.2.2 rfl (by decide) (.slice pA ps.length pc) ps.length (ps.flatMap encP) (by simp [Act.eval, Act.put]) (PB.pts (w := (wr.drew.alloc (.cells #[] 3)).alloc (.cells #[.slice Ar lr.length cr, .int .i64 0, .slice (some ⟨wr.heap.size, 0, none⟩) 0 0, .string ⟨#[]⟩, .int .i64 0, .int .i64 0] 93)) HPB.out.2) _ (some ⟨wr.heap.size + 1, 0, none⟩) 1 1 ([newP (Ar, lr, cr) (some ⟨wr.heap.size, 0, none⟩, [], 0)].flatMap encP) (by simp [Act.eval, Act.put]) HR2.out.2.1 (encP_oneCell _) (by have := Hps.out; unfold maxLen; omega) (by have := Hps.out; omega) (by have := BB2.size; show base ≤ ((wr.drew.alloc (.cells #[] 3)).alloc (.cells #[.slice Ar lr.length cr, .int .i64 0, .slice (some ⟨wr.heap.size, 0, none⟩) 0 0, .string ⟨#[]⟩, .int .i64 0, .int .i64 0] 93)).heap.size; omega) ?_
          intro v' w4 hown' hgrow hloc
          obtain ⟨kB, kR, hb⟩ := HKB.out
          have bw2 : Below w.heap.size w ((wr.drew.alloc (.cells #[] 3)).alloc (.cells #[.slice Ar lr.length cr, .int .i64 0, .slice (some ⟨wr.heap.size, 0, none⟩) 0 0, .string ⟨#[]⟩, .int .i64 0, .int .i64 0] 93)) := hb.trans (BB2.mono hsz')
          have b4 : Below w.heap.size w w4 := bw2.grown hgrow bw2.size (fun q hq => GP.out q hq)
          have hown2 : w4.ownsRow base 93 6 v' (ps ++ [newP (Ar, lr, cr) (some ⟨wr.heap.size, 0, none⟩, [], 0)]).length ((ps ++ [newP (Ar, lr, cr) (some ⟨wr.heap.size, 0, none⟩, [], 0)]).flatMap encP) := by rw [List.flatMap_append, List.length_append]; exact hown'
          have pb4 := HPB.out.1.snocP (q := newP (Ar, lr, cr) (some ⟨wr.heap.size, 0, none⟩, [], 0)) HPB.out.2 hgrow hown2 (own_mono HR2.out.2.2.1 (by omega)) (fun r hr => by simp [rowV, newP, Value.ownBlock] at hr; omega) (own_below HR2.out.1 BB2)
          have kB4 := (kB.below BB2 kB.lt).grown hgrow (fun e => own_blk_ne HPB.out.2.pts (kB.below BB2 kB.lt) (by decide) e.symm)
          have kR4 := (kR.below BB2 kR.lt).grown hgrow (fun e => own_blk_ne HPB.out.2.pts (kR.below BB2 kR.lt) (by decide) e.symm)
          have GP4 : Hid (∀ k, v'.ownBlock = some k → w.heap.size ≤ k) := Lib.hid (fun k hk => by rcases hloc with e | e; exact GP.out k (e.symm.trans hk); rw [e] at hk; injection hk with hk; have := bw2.size; subst hk; exact this)
          obtain ⟨ps2, hps2⟩ : ∃ ps2, ps ++ [newP (Ar, lr, cr) (some ⟨wr.heap.size, 0, none⟩, [], 0)] = ps2 := ⟨_, rfl⟩
          rw [hps2] at hown2 pb4
          have Hps2 : Hid (ps2.length = ps.length + 1 ∧ ∀ q ∈ ps2, FreshP R q) := Lib.hid ⟨by rw [← hps2]; simp, fun q hq => by rw [← hps2] at hq; rcases mem_snoc hq with hq | rfl; exact HFr.out q hq; exact ⟨⟨_, HR2.out.2.2.2.2.1, rfl⟩, rfl, rfl, rfl, rfl⟩⟩
          clear hps2
          obtain ⟨A9, c9, rfl⟩ := own_form hown2
          have z3b : w4.cell? ⟨b7, 3, none⟩ = some (.slice pA ps.length pc) := kB4.cell 3
          have hcb : w4.cell? (ad.add k) = some (.slice Ar lr.length cr) := keepC b4 HR2.out.2.2.2.1
          have fz := kB4.frozen 3
          have HB4 := Lib.hid (And.intro pb4 (And.intro kB4 (And.intro kR4 b4)))
          clear pb4 kR4 b4 hown' hown2 hgrow hloc bw2 kB kR hb
          refine hK.out _ _ (⟨z3b, hcb⟩) (fun hHeld => ?_)
          clear hK K
          try simp only [Act.put, List.setIfInBounds_toArray, List.set_cons_zero, List.set_cons_succ, List.getElem_toArray, List.getElem_cons_succ, List.getElem_cons_zero]
          refine Late.ready (rs := [10]) (by kernel_rfl) (by simp) ?_
          refine LateAll.cons (o := _) rfl (fun K hK => ?_) LateAll.nil
          go_simp
          try go_wp2_with fail
          refine hK.out _ _ (hHeld) (fun hHeld => ?_)
          clear hK K
          try simp only [Act.put, List.setIfInBounds_toArray, List.set_cons_zero, List.set_cons_succ, List.getElem_toArray, List.getElem_cons_succ, List.getElem_cons_zero]
          refine Late.ready (rs := [11]) (by kernel_rfl) (by simp) ?_
          refine LateAll.last (o := _) rfl (fun K hK => ?_)
          go_simp
          try go_wp2_with fail
          refine hK.out _ _ ?_
          clear hK K
          try simp only [Act.put, List.setIfInBounds_toArray, List.set_cons_zero, List.set_cons_succ, List.getElem_toArray, List.getElem_cons_succ, List.getElem_cons_zero]
          refine Late.done (by kernel_rfl) ?_ _
          refine NoPanic.normal ?_
          obtain ⟨pb4, kB4', kR4, b4⟩ := HB4.out
          have pb5 := pb4.box (i := 3) kB4' (.slice A9 ps2.length c9)
          have kB5 := kB4'.set_ 3 (.slice A9 ps2.length c9)
          have kR5 := kR4.far (p := ⟨b7, 3, none⟩) (by show w.heap.size ≠ b7; omega) (.slice A9 ps2.length c9)
          have b5 := b4.setCell (p := ⟨b7, 3, none⟩) (by show w.heap.size ≤ b7; omega) (.slice A9 ps2.length c9)
          clear pb4 kB4' kB4 kR4 b4 HB4 z3b hcb fz
          go_wp2_with fail
          go_roundw
          case rel => exact ⟨k + 1, ps2, _, by congr 1, by omega, by rw [Hps2.out.1, Hps.out], Hps2.out.2, pb5, b5, kB5, kR5, GP4.out⟩
          case measure => simp [intOf]; omega
        · obtain rfl : k = R.length := by omega
          have hlt2' : ¬ (R.length : Int) < (R.length : Int) := by omega
          have hv := Hvs.out
          have hp := Hps.out
          obtain ⟨gL, gO, gV, gP, cL, cO, cV, cP, e1, e2, e3, e4, hBD⟩ := hPB.bd (by have := HL1.out.1; omega) (by have := HOS.out; omega) (by have := HL1.out.1; omega) (by omega)
          injection e1 with e1 e1' e1''
          injection e2 with e2 e2' e2''
          injection e3 with e3 e3' e3''
          subst e1 e1'' e2 e2'' e3 e3'' e4
          have okk := fresh_ok (nl := l.length) (os := os) (vs := vs) (ps := ps) (R := R) (ls := ls) HL1.out.1 (by rw [HOS.out, HL3.out]) (by rw [hv]; exact HL1.out.1) hp hR4 Hd.out (fun x hx => (HL1.out.2 x hx).1) (fun v hv => (hPB.each v hv).1) HFr.out
          have z0 : wr.cell? ⟨b7, 0, none⟩ = some (.slice (some ⟨gL, 0, none⟩) ls.length c1) := kB.cell 0
          have z1 : wr.cell? ⟨b7, 1, none⟩ = some (.slice (some ⟨gO, 0, none⟩) os.length c4) := kB.cell 1
          have z2 : wr.cell? ⟨b7, 2, none⟩ = some (.slice (some ⟨gV, 0, none⟩) vs.length vc) := kB.cell 2
          have z3 : wr.cell? ⟨b7, 3, none⟩ = some (.slice (some ⟨gP, 0, none⟩) ps.length cP) := kB.cell 3
          have v0 := kR.cell 0
          have v1 := kR.cell 1
          have v2 := kR.cell 2
          have v3 := kR.cell 3
          simp at v0 v1 v2 v3
          have y0 := kR.frozen 0
          have y1 := kR.frozen 1
          have y2 := kR.frozen 2
          have y3 := kR.frozen 3
          have HPS := Lib.hid (And.intro hp okk)
          clear hv hp okk hPB kB
          go_wp2_with fail
          have f1 := ((((hBD.box (i := 0) kR (.slice (some ⟨gL, 0, none⟩) ls.length c1)).box (i := 1) (kR.set_ 0 (.slice (some ⟨gL, 0, none⟩) ls.length c1)) (.slice (some ⟨gO, 0, none⟩) os.length c4)).box (i := 2) ((kR.set_ 0 (.slice (some ⟨gL, 0, none⟩) ls.length c1)).set_ 1 (.slice (some ⟨gO, 0, none⟩) os.length c4)) (.slice (some ⟨gV, 0, none⟩) vs.length vc)).box (i := 3) (((kR.set_ 0 (.slice (some ⟨gL, 0, none⟩) ls.length c1)).set_ 1 (.slice (some ⟨gO, 0, none⟩) os.length c4)).set_ 2 (.slice (some ⟨gV, 0, none⟩) vs.length vc)) (.slice (some ⟨gP, 0, none⟩) ps.length cP))
          have f2 : Below w.heap.size w _ := ((((hb.setCell (p := ⟨w.heap.size, 0, none⟩) (Nat.le_refl _) (.slice (some ⟨gL, 0, none⟩) ls.length c1)).setCell (p := ⟨w.heap.size, 1, none⟩) (Nat.le_refl _) (.slice (some ⟨gO, 0, none⟩) os.length c4)).setCell (p := ⟨w.heap.size, 2, none⟩) (Nat.le_refl _) (.slice (some ⟨gV, 0, none⟩) vs.length vc)).setCell (p := ⟨w.heap.size, 3, none⟩) (Nat.le_refl _) (.slice (some ⟨gP, 0, none⟩) ps.length cP))
          have f4 : Blk _ w.heap.size 79 #[.slice (some ⟨gL, 0, none⟩) ls.length c1, .slice (some ⟨gO, 0, none⟩) os.length c4, .slice (some ⟨gV, 0, none⟩) vs.length vc, .slice (some ⟨gP, 0, none⟩) ps.length cP] := ((((kR.set_ 0 (.slice (some ⟨gL, 0, none⟩) ls.length c1)).set_ 1 (.slice (some ⟨gO, 0, none⟩) os.length c4)).set_ 2 (.slice (some ⟨gV, 0, none⟩) vs.length vc)).set_ 3 (.slice (some ⟨gP, 0, none⟩) ps.length cP))
          clear z0 z1 z2 z3 v0 v1 v2 v3 y0 y1 y2 y3 kR hBD hb
          generalize ((((wr.setCell ⟨w.heap.size, 0, none⟩ (.slice (some ⟨gL, 0, none⟩) ls.length c1)).setCell ⟨w.heap.size, 1, none⟩ (.slice (some ⟨gO, 0, none⟩) os.length c4)).setCell ⟨w.heap.size, 2, none⟩ (.slice (some ⟨gV, 0, none⟩) vs.length vc)).setCell ⟨w.heap.size, 3, none⟩ (.slice (some ⟨gP, 0, none⟩) ps.length cP)) = W7 at f1 f2 f4 ⊢
          have r0 := f4.cell 0
          have r1 := f4.cell 1
          have r2 := f4.cell 2
          have r3 := f4.cell 3
          simp at r0 r1 r2 r3
          exact bodyPost_ret (v := .agg #[.slice (some ⟨gL, 0, none⟩) ls.length c1, .slice (some ⟨gO, 0, none⟩) os.length c4, .slice (some ⟨gV, 0, none⟩) vs.length vc, .slice (some ⟨gP, 0, none⟩) ps.length cP]) (by simp [results, Tryd.results48, go_sem, r0, r1, r2, r3]) rfl ⟨gL, gO, gV, gP, c1, c4, vc, cP, ls, os, vs, ps, rfl, HPS.out.1, f1, HPS.out.2.1, HPS.out.2.2, f2⟩
end Go.Proofs.YthdnhaaojicmbaaDoor
/-
  Outcomes in a row; copies of them.
-/
namespace Go.Proofs.YthdnhaaojicmbaaDoor
open Go.RowKit
set_option linter.unusedSimpArgs false
set_option linter.unusedVariables false

/-- an outcome: what was heard, how it ended, where -/
abbrev Oc := IRow × ByteArray × Int
def encO (o : Oc) : List Value := [rowV o.1, .string o.2.1, .int .i64 o.2.2]
theorem encO_length (o : Oc) : (encO o).length = 3 := rfl
theorem encO_oneCell (o : Oc) : ∀ u ∈ [o].flatMap encO, u.oneCell' = true := by
  intro u hu
  simp [encO, rowV] at hu
  rcases hu with rfl | rfl | rfl <;> rfl
def ocOk (o : Oc) : Prop := o.1.2.1.length ≤ 500 ∧ (∀ x ∈ o.1.2.1, -1 ≤ x ∧ x ≤ 1000) ∧ (o.2.1.size ≤ 5 ∧ (32 : UInt8) ∉ o.2.1.data.toList) ∧ -1 ≤ o.2.2 ∧ o.2.2 ≤ 12
/-- outcomes that are laid -/
def OutsAt (w : World) (base : Nat) (v : Value) (L : List Oc) : Prop := w.ownsRow base 27 3 v L.length (L.flatMap encO) ∧ ∀ o ∈ L, w.ownsRow base 3 1 (rowV o.1) o.1.2.1.length (ints o.1.2.1) ∧ ocOk o
theorem outc_info : (Tryd.prog.info? 27).map (fun i => (i.zero, i.size, i.bytes)) = some (some (Value.agg #[.slice none 0 0, .string ⟨#[]⟩, .int .i64 0]), 3, 48) := by kernel_rfl
theorem OutsAt.below {w w' : World} {base : Nat} {v : Value} {L : List Oc} (h : OutsAt w base v L) (hb : Below w.heap.size w w') : OutsAt w' base v L := ⟨own_below h.1 hb, fun o ho => ⟨own_below (h.2 o ho).1 hb, (h.2 o ho).2⟩⟩
theorem OutsAt.mono {w : World} {base base' : Nat} {v : Value} {L : List Oc} (h : OutsAt w base v L) (hb : base' ≤ base) : OutsAt w base' v L := ⟨own_mono h.1 hb, fun o ho => ⟨own_mono (h.2 o ho).1 hb, (h.2 o ho).2⟩⟩
theorem OutsAt.snoc {w w' : World} {base : Nat} {v v' : Value} {L : List Oc} {o : Oc} (h : OutsAt w base v L) (hg : w.grownBy w' v.ownBlock) (hown : w'.ownsRow base 27 3 v' (L.length + 1) (L.flatMap encO ++ [o].flatMap encO)) (ho : w.ownsRow base 3 1 (rowV o.1) o.1.2.1.length (ints o.1.2.1)) (hok : ocOk o) : OutsAt w' base v' (L ++ [o]) := by
  refine ⟨by rw [List.length_append, List.flatMap_append]; exact hown, fun y hy => ?_⟩
  rcases mem_snoc hy with hy | rfl
  · exact ⟨own_mark (h.2 y hy).1 hg fun k e1 e2 => apart_ty (h.2 y hy).1 h.1 (by decide) k e1 e2, (h.2 y hy).2⟩
  · exact ⟨own_mark ho hg fun k e1 e2 => apart_ty ho h.1 (by decide) k e1 e2, hok⟩
theorem OutsAt.cell {w : World} {base g c : Nat} {L : List Oc} (h : OutsAt w base (.slice (some ⟨g, 0, none⟩) L.length c) L) {k : Nat} (hk : k < L.length) : w.cell? ⟨g, k * 3, none⟩ = some (rowV L[k].1) ∧ w.cell? ⟨g, k * 3 + 1, none⟩ = some (.string L[k].2.1) ∧ w.cell? ⟨g, k * 3 + 2, none⟩ = some (.int .i64 L[k].2.2) := by
  have hc := h.1.cells (g := g) rfl
  refine ⟨?_, ?_, ?_⟩
  · have := hc (k * 3 + 0) _ (by rw [flat_get encO_length L hk (by omega)]; rfl)
    rw [add0] at this; exact this
  · have := hc (k * 3 + 1) _ (by rw [flat_get encO_length L hk (by omega)]; rfl)
    rw [add0] at this; exact this
  · have := hc (k * 3 + 2) _ (by rw [flat_get encO_length L hk (by omega)]; rfl)
    rw [add0] at this; exact this
theorem OutsAt.empty (w : World) : OutsAt (w.alloc (.cells #[] 27)) w.heap.size (.slice (some ⟨w.heap.size, 0, none⟩) 0 0) [] :=
  ⟨⟨rfl, .inr ⟨_, 0, #[], rfl, Nat.le_refl _, heap_alloc_new w _, Nat.le_refl _, by unfold maxLen; omega, rfl, rfl⟩⟩, fun o ho => by cases ho⟩
/-- an outcome that shares no memory -/
def OwnOc (w : World) (l : List Int) (s : ByteArray) (y : Int) (e : Ending) (w' : World) : Prop :=
  ∃ (A' : Option Addr) (c' : Nat), e = .returned (.agg #[.slice A' l.length c', .string s, .int .i64 y]) ∧ w'.ownsRow w.heap.size 3 1 (.slice A' l.length c') l.length (ints l) ∧ Below w.heap.size w w'
set_option maxHeartbeats 4000000 in
theorem ownOutcome_any (A : Option Addr) (c : Nat) (l : List Int) (s : ByteArray) (y : Int) (w : World) (h : RI w w.heap.size A l) (hn : l.length ≤ 1000) :
    Calls Tryd.prog 38 #[.agg #[.slice A l.length c, .string s, .int .i64 y]] w (OwnOc w l s y) := by
  obtain ⟨i0, hi, hz0, hz1, hz2⟩ := info_parts int_info
  have HI := Lib.hid (And.intro hi (And.intro hz0 (And.intro hz1 hz2)))
  clear hi hz0 hz1 hz2
  have B1 := ((Below.refl w.heap.size w).alloc (Nat.le_refl _) (.cells #[.slice A l.length c, .string s, .int .i64 y] 27)).alloc (by simp) (.cells #[.slice none 0 0, .string ⟨#[]⟩, .int .i64 0] 27)
  have k1 := (Blk.new w 27 #[.slice A l.length c, .string s, .int .i64 y]).alloc (.cells #[.slice none 0 0, .string ⟨#[]⟩, .int .i64 0] 27)
  have k2 := Blk.new (w.alloc (.cells #[.slice A l.length c, .string s, .int .i64 y] 27)) 27 #[.slice none 0 0, .string ⟨#[]⟩, .int .i64 0]
  simp only [World.size_alloc] at k2
  go_enter Tryd.func38, Tryd.ntmps38
  go_upto_region 1 with fail
  generalize (w.alloc (.cells #[.slice A l.length c, .string s, .int .i64 y] 27)).alloc (.cells #[.slice none 0 0, .string ⟨#[]⟩, .int .i64 0] 27) = wB at B1 k1 k2 ⊢
  have hlt := k2.lt
  have hI := Reads.more (Reads.alloc (Reads.below h B1) (by omega) (.cells #[] 3)) (B' := (wB.alloc (.cells #[] 3)).heap.size) (by simp; omega)
  have oE := own_mono (ownsRow_emptyI wB) (base' := w.heap.size) (by omega)
  have K1 := k1.alloc (.cells #[] 3)
  have K2 := k2.alloc (.cells #[] 3)
  have B2 := B1.alloc (by omega) (.cells #[] 3)
  have hs2 := B2.size
  have c0 : (wB.alloc (.cells #[] 3)).cell? ⟨w.heap.size, 0, none⟩ = some (.slice A l.length c) := K1.cell 0
  have hne1 : (3 : TypeId) ≠ 27 := by decide
  go_upto_region 2 with (at_builtin; refine wpList_append_any _ rfl _ _ 22 rfl w.heap.size 3 i0 (.int .i64 0) 1 8 Tryd.underlying22 HI.out.1 HI.out.2.1 HI.out.2.2.1 HI.out.2.2.2 rfl (by decide) (.slice (some ⟨wB.heap.size, 0, none⟩) 0 0) _ _ rfl oE _ A l.length c (ints l) rfl hI (ints_oneCell' l) ?_ ?_ ?_ ?_; (unfold maxLen; omega); omega; exact hs2; intro v' w4 hown' hgrow hloc; have K3 := K1.grown hgrow (fun e => own_blk_ne oE K1 hne1 e.symm); have K4 := K2.grown hgrow (fun e => own_blk_ne oE K2 hne1 e.symm); have B4 := B2.grown hgrow hs2 (fun k hk => (oE.lt k hk).1); have hown4 : w4.ownsRow w.heap.size 3 1 v' l.length (ints l) := (by simpa [ints] using hown'); obtain ⟨A9, c9, rfl⟩ := own_form hown4; have c0 : w4.cell? ⟨w.heap.size, 0, none⟩ = some (.slice A l.length c) := K3.cell 0; have fz := K3.frozen 0)
  have o5 := ownsRow_setCell_other hown4 (a := ⟨w.heap.size, 0, none⟩) (own_blk_ne hown4 K3 hne1) (.slice A9 l.length c9)
  have K5 := K3.set_ 0 (.slice A9 l.length c9)
  have K6 := K4.far (p := ⟨w.heap.size, 0, none⟩) (by show w.heap.size + 1 ≠ w.heap.size; omega) (.slice A9 l.length c9)
  have B5 := B4.setCell (p := ⟨w.heap.size, 0, none⟩) (Nat.le_refl _) (.slice A9 l.length c9)
  clear K3 K4 B4 hown' hown4 hgrow hloc c0 fz K1 K2 B2 oE hI h k1 k2 B1
  generalize w4.setCell ⟨w.heap.size, 0, none⟩ (.slice A9 l.length c9) = w5 at o5 K5 K6 B5 ⊢
  have a0 : w5.cell? ⟨w.heap.size, 0, none⟩ = some (.slice A9 l.length c9) := K5.cell 0
  have a1 : w5.cell? ⟨w.heap.size, 1, none⟩ = some (.string s) := K5.cell 1
  have a2 : w5.cell? ⟨w.heap.size, 2, none⟩ = some (.int .i64 y) := K5.cell 2
  have b0 : w5.cell? ⟨w.heap.size + 1, 0, none⟩ = some (.slice none 0 0) := K6.cell 0
  have b1 : w5.cell? ⟨w.heap.size + 1, 1, none⟩ = some (.string ⟨#[]⟩) := K6.cell 1
  have b2 : w5.cell? ⟨w.heap.size + 1, 2, none⟩ = some (.int .i64 0) := K6.cell 2
  have y0 := K6.frozen 0
  have y1 := K6.frozen 1
  have y2 := K6.frozen 2
  have HO := Lib.hid (And.intro o5 (And.intro K6 B5))
  clear o5 K5 K6 B5
  go_wp2_with fail
  obtain ⟨o5, K6, B5⟩ := HO.out
  have ne := own_blk_ne o5 K6 hne1
  have f1 := ownsRow_setCell_other (ownsRow_setCell_other (ownsRow_setCell_other o5 (a := ⟨w.heap.size + 1, 0, none⟩) ne (.slice A9 l.length c9)) (a := ⟨w.heap.size + 1, 1, none⟩) ne (.string s)) (a := ⟨w.heap.size + 1, 2, none⟩) ne (.int .i64 y)
  have f2 := ((K6.set_ 0 (.slice A9 l.length c9)).set_ 1 (.string s)).set_ 2 (.int .i64 y)
  have f3 := ((B5.setCell (p := ⟨w.heap.size + 1, 0, none⟩) (by show w.heap.size ≤ w.heap.size + 1; omega) (.slice A9 l.length c9)).setCell (p := ⟨w.heap.size + 1, 1, none⟩) (by show w.heap.size ≤ w.heap.size + 1; omega) (.string s)).setCell (p := ⟨w.heap.size + 1, 2, none⟩) (by show w.heap.size ≤ w.heap.size + 1; omega) (.int .i64 y)
  clear a0 a1 a2 b0 b1 b2 y0 y1 y2 o5 K6 B5
  generalize ((w5.setCell ⟨w.heap.size + 1, 0, none⟩ (.slice A9 l.length c9)).setCell ⟨w.heap.size + 1, 1, none⟩ (.string s)).setCell ⟨w.heap.size + 1, 2, none⟩ (.int .i64 y) = W7 at f1 f2 f3 ⊢
  have r0 : W7.cell? ⟨w.heap.size + 1, 0, none⟩ = some (.slice A9 l.length c9) := f2.cell 0
  have r1 : W7.cell? ⟨w.heap.size + 1, 1, none⟩ = some (.string s) := f2.cell 1
  have r2 : W7.cell? ⟨w.heap.size + 1, 2, none⟩ = some (.int .i64 y) := f2.cell 2
  exact bodyPost_ret (v := .agg #[.slice A9 l.length c9, .string s, .int .i64 y]) (by simp [results, Tryd.results38, go_sem, r0, r1, r2]) rfl ⟨A9, c9, rfl, f1, f3⟩
end Go.Proofs.YthdnhaaojicmbaaDoor
/-
  l11OwnListOutcome.
-/
namespace Go.Proofs.YthdnhaaojicmbaaDoor
open Go.RowKit
set_option linter.unusedSimpArgs false
set_option linter.unusedVariables false

/-- so many outcomes of the call's own -/
def OwnOcs (n : Nat) (w : World) (e : Ending) (w' : World) : Prop :=
  ∃ (L : List Oc) (A' : Option Addr) (c' : Nat), e = .returned (.slice A' L.length c') ∧ L.length = n ∧ OutsAt w' w.heap.size (.slice A' L.length c') L ∧ Below w.heap.size w w'
theorem ocAppend {w3 w5 : World} {B : Nat} {u v' : Value} {L : List Oc} {A5 : Option Addr} {c5 : Nat} {l0 : List Int} {s0 : ByteArray} {y0 : Int} (P : OutsAt w3 B u L) (hown : w5.ownsRow B 27 3 v' (L.length + 1) (L.flatMap encO ++ [((A5, l0, c5), s0, y0)].flatMap encO)) (hg : w3.grownBy w5 u.ownBlock) (ho : w3.ownsRow B 3 1 (.slice A5 l0.length c5) l0.length (ints l0)) (hok : ocOk ((A5, l0, c5), s0, y0)) : OutsAt w5 B v' (L ++ [((A5, l0, c5), s0, y0)]) := P.snoc hg hown ho hok
set_option maxHeartbeats 4000000 in
theorem ownListOutcome_any (A : Option Addr) (c base : Nat) (L0 : List Oc) (w : World) (h : OutsAt w base (.slice A L0.length c) L0) (hn : L0.length ≤ 4) :
    Calls Tryd.prog 28 #[.slice A L0.length c] w (OwnOcs L0.length w) := by
  obtain ⟨j0, hj0, jz0, jz1, jz2⟩ := info_parts outc_info
  have HJ := Lib.hid (And.intro hj0 (And.intro jz0 (And.intro jz1 jz2)))
  clear hj0 jz0 jz1 jz2
  have o5 := OutsAt.empty w
  have H := Lib.hid h
  clear h
  go_enter Tryd.func28, Tryd.ntmps28
  go_wp2_with fail
  go_loopw [9, 3] (fun i v wr => ∃ (k : Nat) (L : List Oc), i = .int .i64 k ∧ k ≤ L0.length ∧ L.length = k ∧ OutsAt wr w.heap.size v L ∧ Below w.heap.size w wr) (fun i _ _ => L0.length - (intOf i).toNat)
  case atStart => exact ⟨0, [], rfl, Nat.zero_le _, rfl, o5, (Below.refl _ _).alloc (Nat.le_refl _) _⟩
  case round =>
    clear o5
    obtain ⟨k, L, rfl, hk, hL, P, hb⟩ := hrel
    have HL := Lib.hid hL
    clear hL
    by_cases hlt : k < L0.length
    · have hlt' : (k : Int) < (L0.length : Int) := by omega
      obtain ⟨g, cg, hA, hgb, hgl⟩ := own_some (H.out.below hb).1 (by omega : 0 < L0.length)
      injection hA with hA _ hcg
      subst hA hcg
      obtain ⟨d0, d1, d2⟩ := (H.out.below hb).cell hlt
      have hrow := ((H.out.below hb).2 _ (List.getElem_mem hlt))
      obtain ⟨⟨⟨A0, l0, c0⟩, s0, y0⟩, ho⟩ : ∃ o, L0[k] = o := ⟨_, rfl⟩
      rw [ho] at d0 d1 d2 hrow
      simp only [rowV] at d0 d1 d2
      obtain ⟨hrow, hok⟩ := hrow
      have hl5 : l0.length ≤ 500 := hok.1
      have Hok := Lib.hid hok
      clear ho hok
      have hs := hb.size
      have hR : RI (wr.alloc (.cells #[.slice A0 l0.length c0, .string s0, .int .i64 y0] 27)) (wr.alloc (.cells #[.slice A0 l0.length c0, .string s0, .int .i64 y0] 27)).heap.size A0 l0 := ((Reads.of_own hrow).alloc (Nat.le_refl _) _).more (by simp)
      have P1 := P.below ((Below.refl wr.heap.size wr).alloc (Nat.le_refl _) (.cells #[.slice A0 l0.length c0, .string s0, .int .i64 y0] 27))
      have b1 := hb.alloc hs (.cells #[.slice A0 l0.length c0, .string s0, .int .i64 y0] 27)
      have hs1 := b1.size
      have HP := Lib.hid (And.intro P1 b1)
      clear P1 b1 hrow
      go_wp2_with (first | (go_at_call 38; refine (ownOutcome_any A0 c0 l0 s0 y0 _ hR (by omega)).mono ?_; rintro e w3 ⟨A5, c5, rfl, ho5, hb3⟩; have P3 := HP.out.1.below hb3; have b3 := HP.out.2.trans (hb3.mono hs1); have hs3 := b3.size; have P4 := P3.below ((Below.refl w3.heap.size w3).alloc (Nat.le_refl _) (.cells #[.slice A5 l0.length c5, .string s0, .int .i64 y0] 27)); have b4 := b3.alloc hs3 (.cells #[.slice A5 l0.length c5, .string s0, .int .i64 y0] 27); have hs4 := b4.size; have ho6 := (own_mono ho5 hs1).alloc (.cells #[.slice A5 l0.length c5, .string s0, .int .i64 y0] 27); have hrd := lit_reads w3 27 ([((A5, l0, c5), s0, y0)].flatMap encO) 3 1 rfl; have oP4 := P4.1; have HP4 := Lib.hid (And.intro P4 (And.intro b4 ho6)); clear P3 b3 P4 b4 ho6 ho5 hb3) | (at_builtin; refine wpList_append_any _ rfl _ _ 51 rfl w.heap.size 27 j0 (.agg #[.slice none 0 0, .string ⟨#[]⟩, .int .i64 0]) 3 48 Tryd.underlying51 HJ.out.1 HJ.out.2.1 HJ.out.2.2.1 HJ.out.2.2.2 rfl (by decide) u3 _ _ rfl oP4 _ (some ⟨w3.heap.size, 0, none⟩) 1 1 ([((A5, l0, c5), s0, y0)].flatMap encO) rfl hrd (encO_oneCell _) ?_ ?_ ?_ ?_; (have := HL.out; unfold maxLen; omega); (have := HL.out; omega); exact hs4; intro v' w5 hown' hgrow hloc; have hok5 : ocOk ((A5, l0, c5), s0, y0) := Hok.out; have P5 := ocAppend (A5 := A5) (c5 := c5) (l0 := l0) (s0 := s0) (y0 := y0) HP4.out.1 hown' hgrow HP4.out.2.2 hok5; have b5 := HP4.out.2.1.grown hgrow hs4 (fun q hq => (oP4.lt q hq).1)))
      go_roundw
      case rel => exact ⟨k + 1, L ++ [((A5, l0, c5), s0, y0)], by congr 1, by omega, by rw [List.length_append, HL.out]; rfl, P5, b5⟩
      case measure => simp [intOf]; omega
    · obtain rfl : k = L0.length := by omega
      have hlt' : ¬ (L0.length : Int) < (L0.length : Int) := by omega
      obtain ⟨A', c', rfl⟩ := own_form P.1
      go_wp2_with fail
      go_ret
      exact ⟨L, A', c', rfl, HL.out, P, hb⟩
end Go.Proofs.YthdnhaaojicmbaaDoor
/-
  l3Outcomes.
-/
namespace Go.Proofs.YthdnhaaojicmbaaDoor
open Go.RowKit
set_option linter.unusedSimpArgs false
set_option linter.unusedVariables false

def endOk (s : ByteArray) : Prop := s.size ≤ 5 ∧ (32 : UInt8) ∉ s.data.toList
theorem endOk_fin {s : ByteArray} (h : s = ⟨#[]⟩ ∨ s = ⟨#[102, 97, 117, 108, 116]⟩) : endOk s := by
  rcases h with rfl | rfl
  · exact ⟨by decide, by decide⟩
  · exact ⟨by decide, by decide⟩
theorem endOk_done : endOk (⟨#[100, 111, 110, 101]⟩ : ByteArray) := ⟨by decide, by decide⟩
theorem endOk_stuck : endOk (⟨#[115, 116, 117, 99, 107]⟩ : ByteArray) := ⟨by decide, by decide⟩
set_option maxHeartbeats 16000000 in
theorem l3Outcomes_any (base gL gO gV gP cL cO cV cP nl : Nat) (ls : List Ln) (os : List Int) (vs : List Value) (ps : List Pt) (w : World) (h : BD w base gL gO gV gP cL cO cV cP ls os vs ps) (ok : BOk nl ls os vs ps) :
    Calls Tryd.prog 36 #[.agg #[.slice (some ⟨gL, 0, none⟩) ls.length cL, .slice (some ⟨gO, 0, none⟩) os.length cO, .slice (some ⟨gV, 0, none⟩) vs.length cV, .slice (some ⟨gP, 0, none⟩) ps.length cP]] w fun e w' => ∃ (L : List Oc) (A' : Option Addr) (c' : Nat), e = .returned (.slice A' L.length c') ∧ L.length ≤ 4 ∧ OutsAt w' base (.slice A' L.length c') L ∧ Below w.heap.size w w' := by
  obtain ⟨j0, hj0, jz0, jz1, jz2⟩ := info_parts outc_info
  have HJ := Lib.hid (And.intro hj0 (And.intro jz0 (And.intro jz1 jz2)))
  clear hj0 jz0 jz1 jz2
  have hp4 := ok.hp
  have hbw : base ≤ w.heap.size := by have := h.pts.lt gP rfl; omega
  have B1 := ((Below.refl w.heap.size w).alloc (Nat.le_refl _) (.cells #[.slice (some ⟨gL, 0, none⟩) ls.length cL, .slice (some ⟨gO, 0, none⟩) os.length cO, .slice (some ⟨gV, 0, none⟩) vs.length cV, .slice (some ⟨gP, 0, none⟩) ps.length cP] 79)).alloc (by simp) (.cells #[] 27)
  have k1 := (Blk.new w 79 #[.slice (some ⟨gL, 0, none⟩) ls.length cL, .slice (some ⟨gO, 0, none⟩) os.length cO, .slice (some ⟨gV, 0, none⟩) vs.length cV, .slice (some ⟨gP, 0, none⟩) ps.length cP]).alloc (.cells #[] 27)
  have o1 := (OutsAt.empty (w.alloc (.cells #[.slice (some ⟨gL, 0, none⟩) ls.length cL, .slice (some ⟨gO, 0, none⟩) os.length cO, .slice (some ⟨gV, 0, none⟩) vs.length cV, .slice (some ⟨gP, 0, none⟩) ps.length cP] 79))).mono (base' := base) (by simp; omega)
  have hz1 : (w.alloc (.cells #[.slice (some ⟨gL, 0, none⟩) ls.length cL, .slice (some ⟨gO, 0, none⟩) os.length cO, .slice (some ⟨gV, 0, none⟩) vs.length cV, .slice (some ⟨gP, 0, none⟩) ps.length cP] 79)).heap.size = w.heap.size + 1 := World.size_alloc w _
  rw [hz1] at o1
  have HH := Lib.hid h
  have Hok := Lib.hid ok
  clear h ok hz1
  go_enter Tryd.func36, Tryd.ntmps36
  go_wp2_with fail
  go_loopw [4, 3] (fun i v wr => ∃ (k : Nat) (L : List Oc), i = .int .i64 k ∧ k ≤ ps.length ∧ L.length = k ∧ OutsAt wr base v L ∧ Below w.heap.size w wr ∧ Blk wr w.heap.size 79 #[.slice (some ⟨gL, 0, none⟩) ls.length cL, .slice (some ⟨gO, 0, none⟩) os.length cO, .slice (some ⟨gV, 0, none⟩) vs.length cV, .slice (some ⟨gP, 0, none⟩) ps.length cP] ∧ ∀ g, v.ownBlock = some g → w.heap.size ≤ g) (fun i _ _ => ps.length - (intOf i).toNat)
  case atStart => exact ⟨0, [], rfl, Nat.zero_le _, rfl, o1, B1, k1, fun g hg => by simp [Value.ownBlock] at hg; omega⟩
  case round =>
    clear o1 B1 k1
    obtain ⟨k, L, rfl, hk, hL, P, hb, kB, hgv⟩ := hrel
    have HL := Lib.hid hL
    have GV := Lib.hid hgv
    clear hL hgv
    have hs := hb.size
    have z3 : wr.cell? ⟨w.heap.size, 3, none⟩ = some (.slice (some ⟨gP, 0, none⟩) ps.length cP) := kB.cell 3
    by_cases hlt : k < ps.length
    · have hlt' : (k : Int) < (ps.length : Int) := by omega
      have hpt := Hok.out.pt _ (List.getElem_mem hlt)
      have hszq := Hok.out.sz _ (List.getElem_mem hlt)
      have hOr := (HH.out.keep hb).heard _ (List.getElem_mem hlt)
      have Hc : ∀ W, Below w.heap.size w W → _ := fun W hbW => (HH.out.keep (w' := W) hbW).party hlt
      obtain ⟨q, hq⟩ : ∃ q, ps[k] = q := ⟨_, rfl⟩
      simp only [hq] at hpt hszq hOr Hc
      obtain ⟨⟨Ap, lp, cp⟩, at_, ⟨Ah, hl, ch⟩, fin, last, ear⟩ := q
      simp only [rowV] at hpt hszq hOr Hc
      obtain ⟨a1, a2, a3, a4, a5, a6, a7⟩ := hpt
      simp only at a1 a2 a4 a7
      obtain ⟨p0, p1, p2, p3, p4, p5⟩ := Hc _ hb
      have HO := Lib.hid hOr
      have HC := Lib.hid Hc
      have hok : ∀ s, endOk s → ocOk ((Ah, hl, ch), s, (at_ : Int)) := fun s hs => ⟨by show hl.length ≤ 500; omega, a7, hs, by show (-1 : Int) ≤ (at_ : Int); omega, by show (at_ : Int) ≤ 12; omega⟩
      have HOK := Lib.hid hok
      have HEF := Lib.hid (endOk_fin a4)
      have hat12 : at_ ≤ 12 := by omega
      clear hOr Hc hok hq a3 a4 a5 a6 a7 hszq p4 p5
      cases hf : fin.toList.isEmpty
      · clear p0
        go_upto_region 10 with fail
        go_wp2_with fail
        refine wp_region_noPanic ?_
        refine wp_region_late (C := (fun w' => w'.cell? ⟨w.heap.size, 3, none⟩ = some (.slice (some ⟨gP, 0, none⟩) ps.length cP) ∧ w'.cell? ⟨gP, k * 6 + 2, none⟩ = some (.slice Ah hl.length ch) ∧ w'.cell? ⟨gP, k * 6 + 1, none⟩ = some (.int .i64 at_))) (t := 17) (by kernel_rfl) (⟨z3, p2, p1⟩) (fun hHeld => ?_)
        refine' Late.take (i := 0) (oi := _) (v := _) rfl (by kernel_rfl) (by kernel_rfl) (by kernel_rfl) (by kernel_rfl) (fun _ _ _ h => h) (Or.inl ⟨by rfl, ?hy0a⟩) hHeld ?rest0a
        case hy0a => (intro w' hSw; (try dsimp only at hSw); go_simp; try with_reducible rfl)
        case' rest0a => try simp only [Act.put, List.setIfInBounds_toArray, List.set_cons_zero, List.set_cons_succ, List.getElem_toArray, List.getElem_cons_succ, List.getElem_cons_zero]
        refine' Late.take (i := 1) (oi := _) (v := _) rfl (by kernel_rfl) (by kernel_rfl) (by kernel_rfl) (by kernel_rfl) (fun _ _ _ h => h) (Or.inl ⟨by rfl, ?hy1a⟩) hHeld ?rest1a
        case hy1a => (intro w' hSw; (try dsimp only at hSw); go_simp; try with_reducible rfl)
        case' rest1a => try simp only [Act.put, List.setIfInBounds_toArray, List.set_cons_zero, List.set_cons_succ, List.getElem_toArray, List.getElem_cons_succ, List.getElem_cons_zero]
        refine' Late.take (i := 2) (oi := _) (v := _) rfl (by kernel_rfl) (by kernel_rfl) (by kernel_rfl) (by kernel_rfl) (fun _ _ _ h => h) (Or.inl ⟨by rfl, ?hy2a⟩) hHeld ?rest2a
        case hy2a => (intro w' hSw; (try dsimp only at hSw); go_simp; try with_reducible rfl)
        case' rest2a => try simp only [Act.put, List.setIfInBounds_toArray, List.set_cons_zero, List.set_cons_succ, List.getElem_toArray, List.getElem_cons_succ, List.getElem_cons_zero]
        refine' Late.take (i := 3) (oi := _) (v := _) rfl (by kernel_rfl) (by kernel_rfl) (by kernel_rfl) (by kernel_rfl) (fun _ _ _ h => h) (Or.inl ⟨by rfl, ?hy3a⟩) hHeld ?rest3a
        case hy3a => (intro w' hSw; (try dsimp only at hSw); go_simp; try with_reducible rfl)
        case' rest3a => try simp only [Act.put, List.setIfInBounds_toArray, List.set_cons_zero, List.set_cons_succ, List.getElem_toArray, List.getElem_cons_succ, List.getElem_cons_zero]
        refine' Late.take (i := 4) (oi := _) (v := _) rfl (by kernel_rfl) (by kernel_rfl) (by kernel_rfl) (by kernel_rfl) (fun _ _ _ h => h) (Or.inl ⟨by rfl, ?hy4a⟩) hHeld ?rest4a
        case hy4a => (intro w' hSw; (try dsimp only at hSw); go_simp; try with_reducible rfl)
        case' rest4a => try simp only [Act.put, List.setIfInBounds_toArray, List.set_cons_zero, List.set_cons_succ, List.getElem_toArray, List.getElem_cons_succ, List.getElem_cons_zero]
        refine' Late.take (i := 5) (oi := _) (v := _) rfl (by kernel_rfl) (by kernel_rfl) (by kernel_rfl) (by kernel_rfl) (fun _ _ _ h => h) (Or.inl ⟨by rfl, ?hy5a⟩) hHeld ?rest5a
        case hy5a => (intro w' hSw; (try dsimp only at hSw); go_simp; try with_reducible rfl)
        case' rest5a => try simp only [Act.put, List.setIfInBounds_toArray, List.set_cons_zero, List.set_cons_succ, List.getElem_toArray, List.getElem_cons_succ, List.getElem_cons_zero]
        refine' Late.take (i := 6) (oi := _) (v := _) rfl (by kernel_rfl) (by kernel_rfl) (by kernel_rfl) (by kernel_rfl) (fun _ _ _ h => h) (Or.inl ⟨by rfl, ?hy6a⟩) hHeld ?rest6a
        case hy6a => (intro w' hSw; (try dsimp only at hSw); go_simp; try with_reducible rfl)
        case' rest6a => try simp only [Act.put, List.setIfInBounds_toArray, List.set_cons_zero, List.set_cons_succ, List.getElem_toArray, List.getElem_cons_succ, List.getElem_cons_zero]
        refine' Late.take (i := 7) (oi := _) (v := _) rfl (by kernel_rfl) (by kernel_rfl) (by kernel_rfl) (by kernel_rfl) (fun _ _ _ h => h) (Or.inl ⟨by rfl, ?hy7a⟩) hHeld ?rest7a
        case hy7a => (intro w' hSw; (try dsimp only at hSw); go_simp; try with_reducible rfl)
        case' rest7a => try simp only [Act.put, List.setIfInBounds_toArray, List.set_cons_zero, List.set_cons_succ, List.getElem_toArray, List.getElem_cons_succ, List.getElem_cons_zero]
        refine' Late.take (i := 8) (oi := _) (v := _) rfl (by kernel_rfl) (by kernel_rfl) (by kernel_rfl) (by kernel_rfl) (fun _ _ _ h => h) (Or.inl ⟨by rfl, ?hy8a⟩) hHeld ?rest8a
        case hy8a => (intro w' hSw; (try dsimp only at hSw); go_simp; try with_reducible rfl)
        case' rest8a => try simp only [Act.put, List.setIfInBounds_toArray, List.set_cons_zero, List.set_cons_succ, List.getElem_toArray, List.getElem_cons_succ, List.getElem_cons_zero]
        refine' Late.take (i := 9) (oi := _) (v := _) rfl (by kernel_rfl) (by kernel_rfl) (by kernel_rfl) (by kernel_rfl) (fun _ _ _ h => h) (Or.inl ⟨by rfl, ?hy9a⟩) hHeld ?rest9a
        case hy9a => (intro w' hSw; (try dsimp only at hSw); go_simp; try with_reducible rfl)
        case' rest9a => try simp only [Act.put, List.setIfInBounds_toArray, List.set_cons_zero, List.set_cons_succ, List.getElem_toArray, List.getElem_cons_succ, List.getElem_cons_zero]
        refine' Late.take (i := 10) (oi := _) (v := _) rfl (by kernel_rfl) (by kernel_rfl) (by kernel_rfl) (by kernel_rfl) (fun _ _ _ h => h) (Or.inl ⟨by rfl, ?hy10a⟩) hHeld ?rest10a
        case hy10a => (intro w' hSw; (try dsimp only at hSw); go_simp; try with_reducible rfl)
        case' rest10a => try simp only [Act.put, List.setIfInBounds_toArray, List.set_cons_zero, List.set_cons_succ, List.getElem_toArray, List.getElem_cons_succ, List.getElem_cons_zero]
        refine' Late.take (i := 11) (oi := _) (v := _) rfl (by kernel_rfl) (by kernel_rfl) (by kernel_rfl) (by kernel_rfl) (fun _ _ _ h => h) (Or.inl ⟨by rfl, ?hy11a⟩) hHeld ?rest11a
        case hy11a => (intro w' hSw; (try dsimp only at hSw); go_simp; try with_reducible rfl)
        case' rest11a => try simp only [Act.put, List.setIfInBounds_toArray, List.set_cons_zero, List.set_cons_succ, List.getElem_toArray, List.getElem_cons_succ, List.getElem_cons_zero]
        refine' Late.take (i := 12) (oi := _) (v := _) rfl (by kernel_rfl) (by kernel_rfl) (by kernel_rfl) (by kernel_rfl) (fun _ _ _ h => h) (Or.inl ⟨by rfl, ?hy12a⟩) hHeld ?rest12a
        case hy12a => (intro w' hSw; (try dsimp only at hSw); go_simp; try with_reducible rfl)
        case' rest12a => try simp only [Act.put, List.setIfInBounds_toArray, List.set_cons_zero, List.set_cons_succ, List.getElem_toArray, List.getElem_cons_succ, List.getElem_cons_zero]
        refine' Late.take (i := 13) (oi := _) (v := _) rfl (by kernel_rfl) (by kernel_rfl) (by kernel_rfl) (by kernel_rfl) (fun _ _ _ h => h) (Or.inl ⟨by rfl, ?hy13a⟩) hHeld ?rest13a
        case hy13a => (intro w' hSw; (try dsimp only at hSw); go_simp; try with_reducible rfl)
        case' rest13a => try simp only [Act.put, List.setIfInBounds_toArray, List.set_cons_zero, List.set_cons_succ, List.getElem_toArray, List.getElem_cons_succ, List.getElem_cons_zero]
        refine' Late.take (i := 14) (oi := _) (v := _) rfl (by kernel_rfl) (by kernel_rfl) (by kernel_rfl) (by kernel_rfl) (fun _ _ _ h => h) (Or.inl ⟨by rfl, ?hy14a⟩) hHeld ?rest14a
        case hy14a => (intro w' hSw; (try dsimp only at hSw); go_simp; try with_reducible rfl)
        case' rest14a => try simp only [Act.put, List.setIfInBounds_toArray, List.set_cons_zero, List.set_cons_succ, List.getElem_toArray, List.getElem_cons_succ, List.getElem_cons_zero]
        refine Late.ready (rs := [15]) (by kernel_rfl) (by simp) ?_
        refine LateAll.cons (o := _) rfl (fun K hK => ?_) LateAll.nil
        go_simp
        have BA : Below wr.heap.size wr (wr.drew.alloc (.cells #[.slice Ah hl.length ch, .string fin, .int .i64 at_] 27)) := ((Below.refl wr.heap.size wr).drew).alloc (Nat.le_refl _) _
        try go_wp2_with fail
        refine hK.out _ _ (⟨keepC BA z3, keepC BA p2, keepC BA p1⟩) (fun hHeld => ?_)
        clear hK K
        try simp only [Act.put, List.setIfInBounds_toArray, List.set_cons_zero, List.set_cons_succ, List.getElem_toArray, List.getElem_cons_succ, List.getElem_cons_zero]
        refine Late.ready (rs := [16]) (by kernel_rfl) (by simp) ?_
        refine LateAll.cons (o := _) rfl (fun K hK => ?_) LateAll.nil
        refine step_append_any rfl _ _ 51 rfl base 27 j0 (.agg #[.slice none 0 0, .string ⟨#[]⟩, .int .i64 0]) 3 48 Tryd.underlying51 HJ.out.1 HJ.out.2.1 HJ.out.2.2.1 HJ.out.2.2.2 rfl (by decide) u3 L.length (L.flatMap encO) (by simp [Act.eval, Act.put]) (P.below BA).1 _ (some ⟨wr.heap.size, 0, none⟩) 1 1 ([((Ah, hl, ch), fin, (at_ : Int))].flatMap encO) (by simp [Act.eval, Act.put]) (lit_reads wr.drew 27 ([((Ah, hl, ch), fin, (at_ : Int))].flatMap encO) 3 1 rfl) (encO_oneCell _) (by have := HL.out; unfold maxLen; omega) (by have := HL.out; omega) (by have := BA.size; show base ≤ (wr.drew.alloc (.cells #[.slice Ah hl.length ch, .string fin, .int .i64 at_] 27)).heap.size; omega) ?_
        intro v' w4 hown' hgrow hloc
        have P5 := ocAppend (P.below BA) hown' hgrow (own_below HO.out BA) (HOK.out _ HEF.out)
        have bw : Below w.heap.size w (wr.drew.alloc (.cells #[.slice Ah hl.length ch, .string fin, .int .i64 at_] 27)) := hb.trans (BA.mono hs)
        have b5 := bw.grown hgrow bw.size (fun q hq => GV.out q hq)
        have GV5 := Lib.hid (lo_of hloc GV.out bw.size)
        have kB5 := (kB.below BA kB.lt).grown hgrow (fun e => own_blk_ne (P.below BA).1 (kB.below BA kB.lt) (by decide) e.symm)
        have z3b : w4.cell? ⟨w.heap.size, 3, none⟩ = some (.slice (some ⟨gP, 0, none⟩) ps.length cP) := kB5.cell 3
        obtain ⟨-, p1b, p2b, -, -, -⟩ := HC.out _ b5
        refine hK.out _ _ (⟨z3b, p2b, p1b⟩) (fun hHeld => ?_)
        clear hK K
        try simp only [Act.put, List.setIfInBounds_toArray, List.set_cons_zero, List.set_cons_succ, List.getElem_toArray, List.getElem_cons_succ, List.getElem_cons_zero]
        refine Late.ready (rs := [17]) (by kernel_rfl) (by simp) ?_
        refine LateAll.last (o := _) rfl (fun K hK => ?_)
        go_simp
        try go_wp2_with fail
        refine hK.out _ _ ?_
        clear hK K
        try simp only [Act.put, List.setIfInBounds_toArray, List.set_cons_zero, List.set_cons_succ, List.getElem_toArray, List.getElem_cons_succ, List.getElem_cons_zero]
        refine Late.done (by kernel_rfl) ?_ _
        refine NoPanic.normal ?_
        have HF := Lib.hid (And.intro P5 (And.intro b5 kB5))
        clear P5 b5 kB5 z3b p1b p2b BA bw hown' hgrow hloc hHeld z3 p1 p2
        go_wp2_with fail
        go_roundw
        case rel => exact ⟨k + 1, L ++ [((Ah, hl, ch), fin, (at_ : Int))], by congr 1, by omega, by rw [List.length_append, HL.out]; rfl, HF.out.1, HF.out.2.1, HF.out.2.2, GV5.out⟩
        case measure => simp [intOf]; omega
      · by_cases hge : lp.length ≤ at_
        · have hge1 : decide ((lp.length : Int) ≤ (at_ : Int)) = true := by simp; omega
          have hge2 : (lp.length : Int) ≤ (at_ : Int) := by omega
          go_upto_region 8 with fail
          go_wp2_with fail
          refine wp_region_noPanic ?_
          refine wp_region_held_drew (S := (fun w' => w'.cell? ⟨w.heap.size, 3, none⟩ = some (.slice (some ⟨gP, 0, none⟩) ps.length cP) ∧ w'.cell? ⟨gP, k * 6, none⟩ = some (.slice Ap lp.length cp) ∧ w'.cell? ⟨gP, k * 6 + 1, none⟩ = some (.int .i64 at_))) (by kernel_rfl) (⟨z3, p0, p1⟩) (fun hHeld => ?_)
          refine' wpAnyH_take (i := 0) (oi := _) (v := _) rfl (by kernel_rfl) (by kernel_rfl) (by kernel_rfl) (fun _ _ _ h => h) (Or.inl ⟨by rfl, ?hy0b8⟩) hHeld ?rest0b8
          case hy0b8 => (intro w' hSw; (try dsimp only at hSw); go_simp; try with_reducible rfl)
          case' rest0b8 => try simp only [Act.put, List.setIfInBounds_toArray, List.set_cons_zero, List.set_cons_succ, List.getElem_toArray, List.getElem_cons_succ, List.getElem_cons_zero]
          refine' wpAnyH_take (i := 1) (oi := _) (v := _) rfl (by kernel_rfl) (by kernel_rfl) (by kernel_rfl) (fun _ _ _ h => h) (Or.inl ⟨by rfl, ?hy1b8⟩) hHeld ?rest1b8
          case hy1b8 => (intro w' hSw; (try dsimp only at hSw); go_simp; try with_reducible rfl)
          case' rest1b8 => try simp only [Act.put, List.setIfInBounds_toArray, List.set_cons_zero, List.set_cons_succ, List.getElem_toArray, List.getElem_cons_succ, List.getElem_cons_zero]
          refine' wpAnyH_take (i := 2) (oi := _) (v := _) rfl (by kernel_rfl) (by kernel_rfl) (by kernel_rfl) (fun _ _ _ h => h) (Or.inl ⟨by rfl, ?hy2b8⟩) hHeld ?rest2b8
          case hy2b8 => (intro w' hSw; (try dsimp only at hSw); go_simp; try with_reducible rfl)
          case' rest2b8 => try simp only [Act.put, List.setIfInBounds_toArray, List.set_cons_zero, List.set_cons_succ, List.getElem_toArray, List.getElem_cons_succ, List.getElem_cons_zero]
          refine' wpAnyH_take (i := 3) (oi := _) (v := _) rfl (by kernel_rfl) (by kernel_rfl) (by kernel_rfl) (fun _ _ _ h => h) (Or.inl ⟨by rfl, ?hy3b8⟩) hHeld ?rest3b8
          case hy3b8 => (intro w' hSw; (try dsimp only at hSw); go_simp; try with_reducible rfl)
          case' rest3b8 => try simp only [Act.put, List.setIfInBounds_toArray, List.set_cons_zero, List.set_cons_succ, List.getElem_toArray, List.getElem_cons_succ, List.getElem_cons_zero]
          refine' wpAnyH_take (i := 4) (oi := _) (v := _) rfl (by kernel_rfl) (by kernel_rfl) (by kernel_rfl) (fun _ _ _ h => h) (Or.inl ⟨by rfl, ?hy4b8⟩) hHeld ?rest4b8
          case hy4b8 => (intro w' hSw; (try dsimp only at hSw); go_simp; try with_reducible rfl)
          case' rest4b8 => try simp only [Act.put, List.setIfInBounds_toArray, List.set_cons_zero, List.set_cons_succ, List.getElem_toArray, List.getElem_cons_succ, List.getElem_cons_zero]
          refine' wpAnyH_take (i := 5) (oi := _) (v := _) rfl (by kernel_rfl) (by kernel_rfl) (by kernel_rfl) (fun _ _ _ h => h) (Or.inl ⟨by rfl, ?hy5b8⟩) hHeld ?rest5b8
          case hy5b8 => (intro w' hSw; (try dsimp only at hSw); go_simp; try with_reducible rfl)
          case' rest5b8 => try simp only [Act.put, List.setIfInBounds_toArray, List.set_cons_zero, List.set_cons_succ, List.getElem_toArray, List.getElem_cons_succ, List.getElem_cons_zero]
          refine' wpAnyH_take (i := 6) (oi := _) (v := _) rfl (by kernel_rfl) (by kernel_rfl) (by kernel_rfl) (fun _ _ _ h => h) (Or.inl ⟨by rfl, ?hy6b8⟩) hHeld ?rest6b8
          case hy6b8 => (intro w' hSw; (try dsimp only at hSw); go_simp; try with_reducible rfl)
          case' rest6b8 => try simp only [Act.put, List.setIfInBounds_toArray, List.set_cons_zero, List.set_cons_succ, List.getElem_toArray, List.getElem_cons_succ, List.getElem_cons_zero]
          refine' wpAnyH_take (i := 7) (oi := _) (v := _) rfl (by kernel_rfl) (by kernel_rfl) (by kernel_rfl) (fun _ _ _ h => h) (Or.inl ⟨by rfl, ?hy7b8⟩) hHeld ?rest7b8
          case hy7b8 => (intro w' hSw; (try dsimp only at hSw); go_simp; try with_reducible rfl)
          case' rest7b8 => try simp only [Act.put, List.setIfInBounds_toArray, List.set_cons_zero, List.set_cons_succ, List.getElem_toArray, List.getElem_cons_succ, List.getElem_cons_zero]
          refine' wpAnyH_take (i := 8) (oi := _) (v := _) rfl (by kernel_rfl) (by kernel_rfl) (by kernel_rfl) (fun _ _ _ h => h) (Or.inl ⟨by rfl, ?hy8b8⟩) hHeld ?rest8b8
          case hy8b8 => (intro w' hSw; (try dsimp only at hSw); go_simp; try with_reducible rfl)
          case' rest8b8 => try simp only [Act.put, List.setIfInBounds_toArray, List.set_cons_zero, List.set_cons_succ, List.getElem_toArray, List.getElem_cons_succ, List.getElem_cons_zero]
          refine' wpAnyH_take (i := 9) (oi := _) (v := _) rfl (by kernel_rfl) (by kernel_rfl) (by kernel_rfl) (fun _ _ _ h => h) (Or.inl ⟨by rfl, ?hy9b8⟩) hHeld ?rest9b8
          case hy9b8 => (intro w' hSw; (try dsimp only at hSw); go_simp; try with_reducible rfl)
          case' rest9b8 => try simp only [Act.put, List.setIfInBounds_toArray, List.set_cons_zero, List.set_cons_succ, List.getElem_toArray, List.getElem_cons_succ, List.getElem_cons_zero]
          refine' wpAnyH_take (i := 10) (oi := _) (v := _) rfl (by kernel_rfl) (by kernel_rfl) (by kernel_rfl) (fun _ _ _ h => h) (Or.inl ⟨by rfl, ?hy10b8⟩) hHeld ?rest10b8
          case hy10b8 => (intro w' hSw; (try dsimp only at hSw); go_simp; try with_reducible rfl)
          case' rest10b8 => try simp only [Act.put, List.setIfInBounds_toArray, List.set_cons_zero, List.set_cons_succ, List.getElem_toArray, List.getElem_cons_succ, List.getElem_cons_zero]
          refine' wpAnyH_take (i := 11) (oi := _) (v := _) rfl (by kernel_rfl) (by kernel_rfl) (by kernel_rfl) (fun _ _ _ h => h) (Or.inl ⟨by rfl, ?hy11b8⟩) hHeld ?rest11b8
          case hy11b8 => (intro w' hSw; (try dsimp only at hSw); go_simp; try with_reducible rfl)
          case' rest11b8 => try simp only [Act.put, List.setIfInBounds_toArray, List.set_cons_zero, List.set_cons_succ, List.getElem_toArray, List.getElem_cons_succ, List.getElem_cons_zero]
          refine' wpAnyH_take (i := 12) (oi := _) (v := _) rfl (by kernel_rfl) (by kernel_rfl) (by kernel_rfl) (fun _ _ _ h => h) (Or.inl ⟨by rfl, ?hy12b8⟩) hHeld ?rest12b8
          case hy12b8 => (intro w' hSw; (try dsimp only at hSw); go_simp; try with_reducible rfl)
          case' rest12b8 => try simp only [Act.put, List.setIfInBounds_toArray, List.set_cons_zero, List.set_cons_succ, List.getElem_toArray, List.getElem_cons_succ, List.getElem_cons_zero]
          refine' wpAnyH_take (i := 13) (oi := _) (v := _) rfl (by kernel_rfl) (by kernel_rfl) (by kernel_rfl) (fun _ _ _ h => h) (Or.inl ⟨by rfl, ?hy13b8⟩) hHeld ?rest13b8
          case hy13b8 => (intro w' hSw; (try dsimp only at hSw); go_simp; try with_reducible rfl)
          case' rest13b8 => try simp only [Act.put, List.setIfInBounds_toArray, List.set_cons_zero, List.set_cons_succ, List.getElem_toArray, List.getElem_cons_succ, List.getElem_cons_zero]
          refine wpAnyH_done (by kernel_rfl) ?_ _
          refine NoPanic.normal ?_
          clear hHeld p0 p3
          go_upto_region 10 with fail
          go_wp2_with fail
          refine wp_region_noPanic ?_
          refine wp_region_late (C := (fun w' => w'.cell? ⟨w.heap.size, 3, none⟩ = some (.slice (some ⟨gP, 0, none⟩) ps.length cP) ∧ w'.cell? ⟨gP, k * 6 + 2, none⟩ = some (.slice Ah hl.length ch) ∧ w'.cell? ⟨gP, k * 6 + 1, none⟩ = some (.int .i64 at_))) (t := 17) (by kernel_rfl) (⟨z3, p2, p1⟩) (fun hHeld => ?_)
          refine' Late.take (i := 0) (oi := _) (v := _) rfl (by kernel_rfl) (by kernel_rfl) (by kernel_rfl) (by kernel_rfl) (fun _ _ _ h => h) (Or.inl ⟨by rfl, ?hy0b⟩) hHeld ?rest0b
          case hy0b => (intro w' hSw; (try dsimp only at hSw); go_simp; try with_reducible rfl)
          case' rest0b => try simp only [Act.put, List.setIfInBounds_toArray, List.set_cons_zero, List.set_cons_succ, List.getElem_toArray, List.getElem_cons_succ, List.getElem_cons_zero]
          refine' Late.take (i := 1) (oi := _) (v := _) rfl (by kernel_rfl) (by kernel_rfl) (by kernel_rfl) (by kernel_rfl) (fun _ _ _ h => h) (Or.inl ⟨by rfl, ?hy1b⟩) hHeld ?rest1b
          case hy1b => (intro w' hSw; (try dsimp only at hSw); go_simp; try with_reducible rfl)
          case' rest1b => try simp only [Act.put, List.setIfInBounds_toArray, List.set_cons_zero, List.set_cons_succ, List.getElem_toArray, List.getElem_cons_succ, List.getElem_cons_zero]
          refine' Late.take (i := 2) (oi := _) (v := _) rfl (by kernel_rfl) (by kernel_rfl) (by kernel_rfl) (by kernel_rfl) (fun _ _ _ h => h) (Or.inl ⟨by rfl, ?hy2b⟩) hHeld ?rest2b
          case hy2b => (intro w' hSw; (try dsimp only at hSw); go_simp; try with_reducible rfl)
          case' rest2b => try simp only [Act.put, List.setIfInBounds_toArray, List.set_cons_zero, List.set_cons_succ, List.getElem_toArray, List.getElem_cons_succ, List.getElem_cons_zero]
          refine' Late.take (i := 3) (oi := _) (v := _) rfl (by kernel_rfl) (by kernel_rfl) (by kernel_rfl) (by kernel_rfl) (fun _ _ _ h => h) (Or.inl ⟨by rfl, ?hy3b⟩) hHeld ?rest3b
          case hy3b => (intro w' hSw; (try dsimp only at hSw); go_simp; try with_reducible rfl)
          case' rest3b => try simp only [Act.put, List.setIfInBounds_toArray, List.set_cons_zero, List.set_cons_succ, List.getElem_toArray, List.getElem_cons_succ, List.getElem_cons_zero]
          refine' Late.take (i := 4) (oi := _) (v := _) rfl (by kernel_rfl) (by kernel_rfl) (by kernel_rfl) (by kernel_rfl) (fun _ _ _ h => h) (Or.inl ⟨by rfl, ?hy4b⟩) hHeld ?rest4b
          case hy4b => (intro w' hSw; (try dsimp only at hSw); go_simp; try with_reducible rfl)
          case' rest4b => try simp only [Act.put, List.setIfInBounds_toArray, List.set_cons_zero, List.set_cons_succ, List.getElem_toArray, List.getElem_cons_succ, List.getElem_cons_zero]
          refine' Late.take (i := 5) (oi := _) (v := _) rfl (by kernel_rfl) (by kernel_rfl) (by kernel_rfl) (by kernel_rfl) (fun _ _ _ h => h) (Or.inl ⟨by rfl, ?hy5b⟩) hHeld ?rest5b
          case hy5b => (intro w' hSw; (try dsimp only at hSw); go_simp; try with_reducible rfl)
          case' rest5b => try simp only [Act.put, List.setIfInBounds_toArray, List.set_cons_zero, List.set_cons_succ, List.getElem_toArray, List.getElem_cons_succ, List.getElem_cons_zero]
          refine' Late.take (i := 6) (oi := _) (v := _) rfl (by kernel_rfl) (by kernel_rfl) (by kernel_rfl) (by kernel_rfl) (fun _ _ _ h => h) (Or.inl ⟨by rfl, ?hy6b⟩) hHeld ?rest6b
          case hy6b => (intro w' hSw; (try dsimp only at hSw); go_simp; try with_reducible rfl)
          case' rest6b => try simp only [Act.put, List.setIfInBounds_toArray, List.set_cons_zero, List.set_cons_succ, List.getElem_toArray, List.getElem_cons_succ, List.getElem_cons_zero]
          refine' Late.take (i := 7) (oi := _) (v := _) rfl (by kernel_rfl) (by kernel_rfl) (by kernel_rfl) (by kernel_rfl) (fun _ _ _ h => h) (Or.inl ⟨by rfl, ?hy7b⟩) hHeld ?rest7b
          case hy7b => (intro w' hSw; (try dsimp only at hSw); go_simp; try with_reducible rfl)
          case' rest7b => try simp only [Act.put, List.setIfInBounds_toArray, List.set_cons_zero, List.set_cons_succ, List.getElem_toArray, List.getElem_cons_succ, List.getElem_cons_zero]
          refine' Late.take (i := 8) (oi := _) (v := _) rfl (by kernel_rfl) (by kernel_rfl) (by kernel_rfl) (by kernel_rfl) (fun _ _ _ h => h) (Or.inl ⟨by rfl, ?hy8b⟩) hHeld ?rest8b
          case hy8b => (intro w' hSw; (try dsimp only at hSw); go_simp; try with_reducible rfl)
          case' rest8b => try simp only [Act.put, List.setIfInBounds_toArray, List.set_cons_zero, List.set_cons_succ, List.getElem_toArray, List.getElem_cons_succ, List.getElem_cons_zero]
          refine' Late.take (i := 9) (oi := _) (v := _) rfl (by kernel_rfl) (by kernel_rfl) (by kernel_rfl) (by kernel_rfl) (fun _ _ _ h => h) (Or.inl ⟨by rfl, ?hy9b⟩) hHeld ?rest9b
          case hy9b => (intro w' hSw; (try dsimp only at hSw); go_simp; try with_reducible rfl)
          case' rest9b => try simp only [Act.put, List.setIfInBounds_toArray, List.set_cons_zero, List.set_cons_succ, List.getElem_toArray, List.getElem_cons_succ, List.getElem_cons_zero]
          refine' Late.take (i := 10) (oi := _) (v := _) rfl (by kernel_rfl) (by kernel_rfl) (by kernel_rfl) (by kernel_rfl) (fun _ _ _ h => h) (Or.inl ⟨by rfl, ?hy10b⟩) hHeld ?rest10b
          case hy10b => (intro w' hSw; (try dsimp only at hSw); go_simp; try with_reducible rfl)
          case' rest10b => try simp only [Act.put, List.setIfInBounds_toArray, List.set_cons_zero, List.set_cons_succ, List.getElem_toArray, List.getElem_cons_succ, List.getElem_cons_zero]
          refine' Late.take (i := 11) (oi := _) (v := _) rfl (by kernel_rfl) (by kernel_rfl) (by kernel_rfl) (by kernel_rfl) (fun _ _ _ h => h) (Or.inl ⟨by rfl, ?hy11b⟩) hHeld ?rest11b
          case hy11b => (intro w' hSw; (try dsimp only at hSw); go_simp; try with_reducible rfl)
          case' rest11b => try simp only [Act.put, List.setIfInBounds_toArray, List.set_cons_zero, List.set_cons_succ, List.getElem_toArray, List.getElem_cons_succ, List.getElem_cons_zero]
          refine' Late.take (i := 12) (oi := _) (v := _) rfl (by kernel_rfl) (by kernel_rfl) (by kernel_rfl) (by kernel_rfl) (fun _ _ _ h => h) (Or.inl ⟨by rfl, ?hy12b⟩) hHeld ?rest12b
          case hy12b => (intro w' hSw; (try dsimp only at hSw); go_simp; try with_reducible rfl)
          case' rest12b => try simp only [Act.put, List.setIfInBounds_toArray, List.set_cons_zero, List.set_cons_succ, List.getElem_toArray, List.getElem_cons_succ, List.getElem_cons_zero]
          refine' Late.take (i := 13) (oi := _) (v := _) rfl (by kernel_rfl) (by kernel_rfl) (by kernel_rfl) (by kernel_rfl) (fun _ _ _ h => h) (Or.inl ⟨by rfl, ?hy13b⟩) hHeld ?rest13b
          case hy13b => (intro w' hSw; (try dsimp only at hSw); go_simp; try with_reducible rfl)
          case' rest13b => try simp only [Act.put, List.setIfInBounds_toArray, List.set_cons_zero, List.set_cons_succ, List.getElem_toArray, List.getElem_cons_succ, List.getElem_cons_zero]
          refine' Late.take (i := 14) (oi := _) (v := _) rfl (by kernel_rfl) (by kernel_rfl) (by kernel_rfl) (by kernel_rfl) (fun _ _ _ h => h) (Or.inl ⟨by rfl, ?hy14b⟩) hHeld ?rest14b
          case hy14b => (intro w' hSw; (try dsimp only at hSw); go_simp; try with_reducible rfl)
          case' rest14b => try simp only [Act.put, List.setIfInBounds_toArray, List.set_cons_zero, List.set_cons_succ, List.getElem_toArray, List.getElem_cons_succ, List.getElem_cons_zero]
          refine Late.ready (rs := [15]) (by kernel_rfl) (by simp) ?_
          refine LateAll.cons (o := _) rfl (fun K hK => ?_) LateAll.nil
          go_simp
          have BA : Below wr.heap.size wr (wr.drew.drew.alloc (.cells #[.slice Ah hl.length ch, .string (⟨#[100, 111, 110, 101]⟩ : ByteArray), .int .i64 at_] 27)) := ((Below.refl wr.heap.size wr).drew.drew).alloc (Nat.le_refl _) _
          try go_wp2_with fail
          refine hK.out _ _ (⟨keepC BA z3, keepC BA p2, keepC BA p1⟩) (fun hHeld => ?_)
          clear hK K
          try simp only [Act.put, List.setIfInBounds_toArray, List.set_cons_zero, List.set_cons_succ, List.getElem_toArray, List.getElem_cons_succ, List.getElem_cons_zero]
          refine Late.ready (rs := [16]) (by kernel_rfl) (by simp) ?_
          refine LateAll.cons (o := _) rfl (fun K hK => ?_) LateAll.nil
          refine step_append_any rfl _ _ 51 rfl base 27 j0 (.agg #[.slice none 0 0, .string ⟨#[]⟩, .int .i64 0]) 3 48 Tryd.underlying51 HJ.out.1 HJ.out.2.1 HJ.out.2.2.1 HJ.out.2.2.2 rfl (by decide) u3 L.length (L.flatMap encO) (by simp [Act.eval, Act.put]) (P.below BA).1 _ (some ⟨wr.heap.size, 0, none⟩) 1 1 ([((Ah, hl, ch), (⟨#[100, 111, 110, 101]⟩ : ByteArray), (at_ : Int))].flatMap encO) (by simp [Act.eval, Act.put]) (lit_reads wr.drew.drew 27 ([((Ah, hl, ch), (⟨#[100, 111, 110, 101]⟩ : ByteArray), (at_ : Int))].flatMap encO) 3 1 rfl) (encO_oneCell _) (by have := HL.out; unfold maxLen; omega) (by have := HL.out; omega) (by have := BA.size; show base ≤ (wr.drew.drew.alloc (.cells #[.slice Ah hl.length ch, .string (⟨#[100, 111, 110, 101]⟩ : ByteArray), .int .i64 at_] 27)).heap.size; omega) ?_
          intro v' w4 hown' hgrow hloc
          have P5 := ocAppend (P.below BA) hown' hgrow (own_below HO.out BA) (HOK.out _ endOk_done)
          have bw : Below w.heap.size w (wr.drew.drew.alloc (.cells #[.slice Ah hl.length ch, .string (⟨#[100, 111, 110, 101]⟩ : ByteArray), .int .i64 at_] 27)) := hb.trans (BA.mono hs)
          have b5 := bw.grown hgrow bw.size (fun q hq => GV.out q hq)
          have GV5 := Lib.hid (lo_of hloc GV.out bw.size)
          have kB5 := (kB.below BA kB.lt).grown hgrow (fun e => own_blk_ne (P.below BA).1 (kB.below BA kB.lt) (by decide) e.symm)
          have z3b : w4.cell? ⟨w.heap.size, 3, none⟩ = some (.slice (some ⟨gP, 0, none⟩) ps.length cP) := kB5.cell 3
          obtain ⟨-, p1b, p2b, -, -, -⟩ := HC.out _ b5
          refine hK.out _ _ (⟨z3b, p2b, p1b⟩) (fun hHeld => ?_)
          clear hK K
          try simp only [Act.put, List.setIfInBounds_toArray, List.set_cons_zero, List.set_cons_succ, List.getElem_toArray, List.getElem_cons_succ, List.getElem_cons_zero]
          refine Late.ready (rs := [17]) (by kernel_rfl) (by simp) ?_
          refine LateAll.last (o := _) rfl (fun K hK => ?_)
          go_simp
          try go_wp2_with fail
          refine hK.out _ _ ?_
          clear hK K
          try simp only [Act.put, List.setIfInBounds_toArray, List.set_cons_zero, List.set_cons_succ, List.getElem_toArray, List.getElem_cons_succ, List.getElem_cons_zero]
          refine Late.done (by kernel_rfl) ?_ _
          refine NoPanic.normal ?_
          have HF := Lib.hid (And.intro P5 (And.intro b5 kB5))
          clear P5 b5 kB5 z3b p1b p2b BA bw hown' hgrow hloc hHeld z3 p1 p2
          go_wp2_with fail
          go_roundw
          case rel => exact ⟨k + 1, L ++ [((Ah, hl, ch), (⟨#[100, 111, 110, 101]⟩ : ByteArray), (at_ : Int))], by congr 1, by omega, by rw [List.length_append, HL.out]; rfl, HF.out.1, HF.out.2.1, HF.out.2.2, GV5.out⟩
          case measure => simp [intOf]; omega
        · have hge1 : decide ((lp.length : Int) ≤ (at_ : Int)) = false := by simp; omega
          have hge2 : ¬ (lp.length : Int) ≤ (at_ : Int) := by omega
          go_upto_region 8 with fail
          go_wp2_with fail
          refine wp_region_noPanic ?_
          refine wp_region_held_drew (S := (fun w' => w'.cell? ⟨w.heap.size, 3, none⟩ = some (.slice (some ⟨gP, 0, none⟩) ps.length cP) ∧ w'.cell? ⟨gP, k * 6, none⟩ = some (.slice Ap lp.length cp) ∧ w'.cell? ⟨gP, k * 6 + 1, none⟩ = some (.int .i64 at_))) (by kernel_rfl) (⟨z3, p0, p1⟩) (fun hHeld => ?_)
          refine' wpAnyH_take (i := 0) (oi := _) (v := _) rfl (by kernel_rfl) (by kernel_rfl) (by kernel_rfl) (fun _ _ _ h => h) (Or.inl ⟨by rfl, ?hy0c8⟩) hHeld ?rest0c8
          case hy0c8 => (intro w' hSw; (try dsimp only at hSw); go_simp; try with_reducible rfl)
          case' rest0c8 => try simp only [Act.put, List.setIfInBounds_toArray, List.set_cons_zero, List.set_cons_succ, List.getElem_toArray, List.getElem_cons_succ, List.getElem_cons_zero]
          refine' wpAnyH_take (i := 1) (oi := _) (v := _) rfl (by kernel_rfl) (by kernel_rfl) (by kernel_rfl) (fun _ _ _ h => h) (Or.inl ⟨by rfl, ?hy1c8⟩) hHeld ?rest1c8
          case hy1c8 => (intro w' hSw; (try dsimp only at hSw); go_simp; try with_reducible rfl)
          case' rest1c8 => try simp only [Act.put, List.setIfInBounds_toArray, List.set_cons_zero, List.set_cons_succ, List.getElem_toArray, List.getElem_cons_succ, List.getElem_cons_zero]
          refine' wpAnyH_take (i := 2) (oi := _) (v := _) rfl (by kernel_rfl) (by kernel_rfl) (by kernel_rfl) (fun _ _ _ h => h) (Or.inl ⟨by rfl, ?hy2c8⟩) hHeld ?rest2c8
          case hy2c8 => (intro w' hSw; (try dsimp only at hSw); go_simp; try with_reducible rfl)
          case' rest2c8 => try simp only [Act.put, List.setIfInBounds_toArray, List.set_cons_zero, List.set_cons_succ, List.getElem_toArray, List.getElem_cons_succ, List.getElem_cons_zero]
          refine' wpAnyH_take (i := 3) (oi := _) (v := _) rfl (by kernel_rfl) (by kernel_rfl) (by kernel_rfl) (fun _ _ _ h => h) (Or.inl ⟨by rfl, ?hy3c8⟩) hHeld ?rest3c8
          case hy3c8 => (intro w' hSw; (try dsimp only at hSw); go_simp; try with_reducible rfl)
          case' rest3c8 => try simp only [Act.put, List.setIfInBounds_toArray, List.set_cons_zero, List.set_cons_succ, List.getElem_toArray, List.getElem_cons_succ, List.getElem_cons_zero]
          refine' wpAnyH_take (i := 4) (oi := _) (v := _) rfl (by kernel_rfl) (by kernel_rfl) (by kernel_rfl) (fun _ _ _ h => h) (Or.inl ⟨by rfl, ?hy4c8⟩) hHeld ?rest4c8
          case hy4c8 => (intro w' hSw; (try dsimp only at hSw); go_simp; try with_reducible rfl)
          case' rest4c8 => try simp only [Act.put, List.setIfInBounds_toArray, List.set_cons_zero, List.set_cons_succ, List.getElem_toArray, List.getElem_cons_succ, List.getElem_cons_zero]
          refine' wpAnyH_take (i := 5) (oi := _) (v := _) rfl (by kernel_rfl) (by kernel_rfl) (by kernel_rfl) (fun _ _ _ h => h) (Or.inl ⟨by rfl, ?hy5c8⟩) hHeld ?rest5c8
          case hy5c8 => (intro w' hSw; (try dsimp only at hSw); go_simp; try with_reducible rfl)
          case' rest5c8 => try simp only [Act.put, List.setIfInBounds_toArray, List.set_cons_zero, List.set_cons_succ, List.getElem_toArray, List.getElem_cons_succ, List.getElem_cons_zero]
          refine' wpAnyH_take (i := 6) (oi := _) (v := _) rfl (by kernel_rfl) (by kernel_rfl) (by kernel_rfl) (fun _ _ _ h => h) (Or.inl ⟨by rfl, ?hy6c8⟩) hHeld ?rest6c8
          case hy6c8 => (intro w' hSw; (try dsimp only at hSw); go_simp; try with_reducible rfl)
          case' rest6c8 => try simp only [Act.put, List.setIfInBounds_toArray, List.set_cons_zero, List.set_cons_succ, List.getElem_toArray, List.getElem_cons_succ, List.getElem_cons_zero]
          refine' wpAnyH_take (i := 7) (oi := _) (v := _) rfl (by kernel_rfl) (by kernel_rfl) (by kernel_rfl) (fun _ _ _ h => h) (Or.inl ⟨by rfl, ?hy7c8⟩) hHeld ?rest7c8
          case hy7c8 => (intro w' hSw; (try dsimp only at hSw); go_simp; try with_reducible rfl)
          case' rest7c8 => try simp only [Act.put, List.setIfInBounds_toArray, List.set_cons_zero, List.set_cons_succ, List.getElem_toArray, List.getElem_cons_succ, List.getElem_cons_zero]
          refine' wpAnyH_take (i := 8) (oi := _) (v := _) rfl (by kernel_rfl) (by kernel_rfl) (by kernel_rfl) (fun _ _ _ h => h) (Or.inl ⟨by rfl, ?hy8c8⟩) hHeld ?rest8c8
          case hy8c8 => (intro w' hSw; (try dsimp only at hSw); go_simp; try with_reducible rfl)
          case' rest8c8 => try simp only [Act.put, List.setIfInBounds_toArray, List.set_cons_zero, List.set_cons_succ, List.getElem_toArray, List.getElem_cons_succ, List.getElem_cons_zero]
          refine' wpAnyH_take (i := 9) (oi := _) (v := _) rfl (by kernel_rfl) (by kernel_rfl) (by kernel_rfl) (fun _ _ _ h => h) (Or.inl ⟨by rfl, ?hy9c8⟩) hHeld ?rest9c8
          case hy9c8 => (intro w' hSw; (try dsimp only at hSw); go_simp; try with_reducible rfl)
          case' rest9c8 => try simp only [Act.put, List.setIfInBounds_toArray, List.set_cons_zero, List.set_cons_succ, List.getElem_toArray, List.getElem_cons_succ, List.getElem_cons_zero]
          refine' wpAnyH_take (i := 10) (oi := _) (v := _) rfl (by kernel_rfl) (by kernel_rfl) (by kernel_rfl) (fun _ _ _ h => h) (Or.inl ⟨by rfl, ?hy10c8⟩) hHeld ?rest10c8
          case hy10c8 => (intro w' hSw; (try dsimp only at hSw); go_simp; try with_reducible rfl)
          case' rest10c8 => try simp only [Act.put, List.setIfInBounds_toArray, List.set_cons_zero, List.set_cons_succ, List.getElem_toArray, List.getElem_cons_succ, List.getElem_cons_zero]
          refine' wpAnyH_take (i := 11) (oi := _) (v := _) rfl (by kernel_rfl) (by kernel_rfl) (by kernel_rfl) (fun _ _ _ h => h) (Or.inl ⟨by rfl, ?hy11c8⟩) hHeld ?rest11c8
          case hy11c8 => (intro w' hSw; (try dsimp only at hSw); go_simp; try with_reducible rfl)
          case' rest11c8 => try simp only [Act.put, List.setIfInBounds_toArray, List.set_cons_zero, List.set_cons_succ, List.getElem_toArray, List.getElem_cons_succ, List.getElem_cons_zero]
          refine' wpAnyH_take (i := 12) (oi := _) (v := _) rfl (by kernel_rfl) (by kernel_rfl) (by kernel_rfl) (fun _ _ _ h => h) (Or.inl ⟨by rfl, ?hy12c8⟩) hHeld ?rest12c8
          case hy12c8 => (intro w' hSw; (try dsimp only at hSw); go_simp; try with_reducible rfl)
          case' rest12c8 => try simp only [Act.put, List.setIfInBounds_toArray, List.set_cons_zero, List.set_cons_succ, List.getElem_toArray, List.getElem_cons_succ, List.getElem_cons_zero]
          refine' wpAnyH_take (i := 13) (oi := _) (v := _) rfl (by kernel_rfl) (by kernel_rfl) (by kernel_rfl) (fun _ _ _ h => h) (Or.inl ⟨by rfl, ?hy13c8⟩) hHeld ?rest13c8
          case hy13c8 => (intro w' hSw; (try dsimp only at hSw); go_simp; try with_reducible rfl)
          case' rest13c8 => try simp only [Act.put, List.setIfInBounds_toArray, List.set_cons_zero, List.set_cons_succ, List.getElem_toArray, List.getElem_cons_succ, List.getElem_cons_zero]
          refine wpAnyH_done (by kernel_rfl) ?_ _
          refine NoPanic.normal ?_
          clear hHeld p0 p3
          go_upto_region 10 with fail
          go_wp2_with fail
          refine wp_region_noPanic ?_
          refine wp_region_late (C := (fun w' => w'.cell? ⟨w.heap.size, 3, none⟩ = some (.slice (some ⟨gP, 0, none⟩) ps.length cP) ∧ w'.cell? ⟨gP, k * 6 + 2, none⟩ = some (.slice Ah hl.length ch) ∧ w'.cell? ⟨gP, k * 6 + 1, none⟩ = some (.int .i64 at_))) (t := 17) (by kernel_rfl) (⟨z3, p2, p1⟩) (fun hHeld => ?_)
          refine' Late.take (i := 0) (oi := _) (v := _) rfl (by kernel_rfl) (by kernel_rfl) (by kernel_rfl) (by kernel_rfl) (fun _ _ _ h => h) (Or.inl ⟨by rfl, ?hy0c⟩) hHeld ?rest0c
          case hy0c => (intro w' hSw; (try dsimp only at hSw); go_simp; try with_reducible rfl)
          case' rest0c => try simp only [Act.put, List.setIfInBounds_toArray, List.set_cons_zero, List.set_cons_succ, List.getElem_toArray, List.getElem_cons_succ, List.getElem_cons_zero]
          refine' Late.take (i := 1) (oi := _) (v := _) rfl (by kernel_rfl) (by kernel_rfl) (by kernel_rfl) (by kernel_rfl) (fun _ _ _ h => h) (Or.inl ⟨by rfl, ?hy1c⟩) hHeld ?rest1c
          case hy1c => (intro w' hSw; (try dsimp only at hSw); go_simp; try with_reducible rfl)
          case' rest1c => try simp only [Act.put, List.setIfInBounds_toArray, List.set_cons_zero, List.set_cons_succ, List.getElem_toArray, List.getElem_cons_succ, List.getElem_cons_zero]
          refine' Late.take (i := 2) (oi := _) (v := _) rfl (by kernel_rfl) (by kernel_rfl) (by kernel_rfl) (by kernel_rfl) (fun _ _ _ h => h) (Or.inl ⟨by rfl, ?hy2c⟩) hHeld ?rest2c
          case hy2c => (intro w' hSw; (try dsimp only at hSw); go_simp; try with_reducible rfl)
          case' rest2c => try simp only [Act.put, List.setIfInBounds_toArray, List.set_cons_zero, List.set_cons_succ, List.getElem_toArray, List.getElem_cons_succ, List.getElem_cons_zero]
          refine' Late.take (i := 3) (oi := _) (v := _) rfl (by kernel_rfl) (by kernel_rfl) (by kernel_rfl) (by kernel_rfl) (fun _ _ _ h => h) (Or.inl ⟨by rfl, ?hy3c⟩) hHeld ?rest3c
          case hy3c => (intro w' hSw; (try dsimp only at hSw); go_simp; try with_reducible rfl)
          case' rest3c => try simp only [Act.put, List.setIfInBounds_toArray, List.set_cons_zero, List.set_cons_succ, List.getElem_toArray, List.getElem_cons_succ, List.getElem_cons_zero]
          refine' Late.take (i := 4) (oi := _) (v := _) rfl (by kernel_rfl) (by kernel_rfl) (by kernel_rfl) (by kernel_rfl) (fun _ _ _ h => h) (Or.inl ⟨by rfl, ?hy4c⟩) hHeld ?rest4c
          case hy4c => (intro w' hSw; (try dsimp only at hSw); go_simp; try with_reducible rfl)
          case' rest4c => try simp only [Act.put, List.setIfInBounds_toArray, List.set_cons_zero, List.set_cons_succ, List.getElem_toArray, List.getElem_cons_succ, List.getElem_cons_zero]
          refine' Late.take (i := 5) (oi := _) (v := _) rfl (by kernel_rfl) (by kernel_rfl) (by kernel_rfl) (by kernel_rfl) (fun _ _ _ h => h) (Or.inl ⟨by rfl, ?hy5c⟩) hHeld ?rest5c
          case hy5c => (intro w' hSw; (try dsimp only at hSw); go_simp; try with_reducible rfl)
          case' rest5c => try simp only [Act.put, List.setIfInBounds_toArray, List.set_cons_zero, List.set_cons_succ, List.getElem_toArray, List.getElem_cons_succ, List.getElem_cons_zero]
          refine' Late.take (i := 6) (oi := _) (v := _) rfl (by kernel_rfl) (by kernel_rfl) (by kernel_rfl) (by kernel_rfl) (fun _ _ _ h => h) (Or.inl ⟨by rfl, ?hy6c⟩) hHeld ?rest6c
          case hy6c => (intro w' hSw; (try dsimp only at hSw); go_simp; try with_reducible rfl)
          case' rest6c => try simp only [Act.put, List.setIfInBounds_toArray, List.set_cons_zero, List.set_cons_succ, List.getElem_toArray, List.getElem_cons_succ, List.getElem_cons_zero]
          refine' Late.take (i := 7) (oi := _) (v := _) rfl (by kernel_rfl) (by kernel_rfl) (by kernel_rfl) (by kernel_rfl) (fun _ _ _ h => h) (Or.inl ⟨by rfl, ?hy7c⟩) hHeld ?rest7c
          case hy7c => (intro w' hSw; (try dsimp only at hSw); go_simp; try with_reducible rfl)
          case' rest7c => try simp only [Act.put, List.setIfInBounds_toArray, List.set_cons_zero, List.set_cons_succ, List.getElem_toArray, List.getElem_cons_succ, List.getElem_cons_zero]
          refine' Late.take (i := 8) (oi := _) (v := _) rfl (by kernel_rfl) (by kernel_rfl) (by kernel_rfl) (by kernel_rfl) (fun _ _ _ h => h) (Or.inl ⟨by rfl, ?hy8c⟩) hHeld ?rest8c
          case hy8c => (intro w' hSw; (try dsimp only at hSw); go_simp; try with_reducible rfl)
          case' rest8c => try simp only [Act.put, List.setIfInBounds_toArray, List.set_cons_zero, List.set_cons_succ, List.getElem_toArray, List.getElem_cons_succ, List.getElem_cons_zero]
          refine' Late.take (i := 9) (oi := _) (v := _) rfl (by kernel_rfl) (by kernel_rfl) (by kernel_rfl) (by kernel_rfl) (fun _ _ _ h => h) (Or.inl ⟨by rfl, ?hy9c⟩) hHeld ?rest9c
          case hy9c => (intro w' hSw; (try dsimp only at hSw); go_simp; try with_reducible rfl)
          case' rest9c => try simp only [Act.put, List.setIfInBounds_toArray, List.set_cons_zero, List.set_cons_succ, List.getElem_toArray, List.getElem_cons_succ, List.getElem_cons_zero]
          refine' Late.take (i := 10) (oi := _) (v := _) rfl (by kernel_rfl) (by kernel_rfl) (by kernel_rfl) (by kernel_rfl) (fun _ _ _ h => h) (Or.inl ⟨by rfl, ?hy10c⟩) hHeld ?rest10c
          case hy10c => (intro w' hSw; (try dsimp only at hSw); go_simp; try with_reducible rfl)
          case' rest10c => try simp only [Act.put, List.setIfInBounds_toArray, List.set_cons_zero, List.set_cons_succ, List.getElem_toArray, List.getElem_cons_succ, List.getElem_cons_zero]
          refine' Late.take (i := 11) (oi := _) (v := _) rfl (by kernel_rfl) (by kernel_rfl) (by kernel_rfl) (by kernel_rfl) (fun _ _ _ h => h) (Or.inl ⟨by rfl, ?hy11c⟩) hHeld ?rest11c
          case hy11c => (intro w' hSw; (try dsimp only at hSw); go_simp; try with_reducible rfl)
          case' rest11c => try simp only [Act.put, List.setIfInBounds_toArray, List.set_cons_zero, List.set_cons_succ, List.getElem_toArray, List.getElem_cons_succ, List.getElem_cons_zero]
          refine' Late.take (i := 12) (oi := _) (v := _) rfl (by kernel_rfl) (by kernel_rfl) (by kernel_rfl) (by kernel_rfl) (fun _ _ _ h => h) (Or.inl ⟨by rfl, ?hy12c⟩) hHeld ?rest12c
          case hy12c => (intro w' hSw; (try dsimp only at hSw); go_simp; try with_reducible rfl)
          case' rest12c => try simp only [Act.put, List.setIfInBounds_toArray, List.set_cons_zero, List.set_cons_succ, List.getElem_toArray, List.getElem_cons_succ, List.getElem_cons_zero]
          refine' Late.take (i := 13) (oi := _) (v := _) rfl (by kernel_rfl) (by kernel_rfl) (by kernel_rfl) (by kernel_rfl) (fun _ _ _ h => h) (Or.inl ⟨by rfl, ?hy13c⟩) hHeld ?rest13c
          case hy13c => (intro w' hSw; (try dsimp only at hSw); go_simp; try with_reducible rfl)
          case' rest13c => try simp only [Act.put, List.setIfInBounds_toArray, List.set_cons_zero, List.set_cons_succ, List.getElem_toArray, List.getElem_cons_succ, List.getElem_cons_zero]
          refine' Late.take (i := 14) (oi := _) (v := _) rfl (by kernel_rfl) (by kernel_rfl) (by kernel_rfl) (by kernel_rfl) (fun _ _ _ h => h) (Or.inl ⟨by rfl, ?hy14c⟩) hHeld ?rest14c
          case hy14c => (intro w' hSw; (try dsimp only at hSw); go_simp; try with_reducible rfl)
          case' rest14c => try simp only [Act.put, List.setIfInBounds_toArray, List.set_cons_zero, List.set_cons_succ, List.getElem_toArray, List.getElem_cons_succ, List.getElem_cons_zero]
          refine Late.ready (rs := [15]) (by kernel_rfl) (by simp) ?_
          refine LateAll.cons (o := _) rfl (fun K hK => ?_) LateAll.nil
          go_simp
          have BA : Below wr.heap.size wr (wr.drew.drew.alloc (.cells #[.slice Ah hl.length ch, .string (⟨#[115, 116, 117, 99, 107]⟩ : ByteArray), .int .i64 at_] 27)) := ((Below.refl wr.heap.size wr).drew.drew).alloc (Nat.le_refl _) _
          try go_wp2_with fail
          refine hK.out _ _ (⟨keepC BA z3, keepC BA p2, keepC BA p1⟩) (fun hHeld => ?_)
          clear hK K
          try simp only [Act.put, List.setIfInBounds_toArray, List.set_cons_zero, List.set_cons_succ, List.getElem_toArray, List.getElem_cons_succ, List.getElem_cons_zero]
          refine Late.ready (rs := [16]) (by kernel_rfl) (by simp) ?_
          refine LateAll.cons (o := _) rfl (fun K hK => ?_) LateAll.nil
          refine step_append_any rfl _ _ 51 rfl base 27 j0 (.agg #[.slice none 0 0, .string ⟨#[]⟩, .int .i64 0]) 3 48 Tryd.underlying51 HJ.out.1 HJ.out.2.1 HJ.out.2.2.1 HJ.out.2.2.2 rfl (by decide) u3 L.length (L.flatMap encO) (by simp [Act.eval, Act.put]) (P.below BA).1 _ (some ⟨wr.heap.size, 0, none⟩) 1 1 ([((Ah, hl, ch), (⟨#[115, 116, 117, 99, 107]⟩ : ByteArray), (at_ : Int))].flatMap encO) (by simp [Act.eval, Act.put]) (lit_reads wr.drew.drew 27 ([((Ah, hl, ch), (⟨#[115, 116, 117, 99, 107]⟩ : ByteArray), (at_ : Int))].flatMap encO) 3 1 rfl) (encO_oneCell _) (by have := HL.out; unfold maxLen; omega) (by have := HL.out; omega) (by have := BA.size; show base ≤ (wr.drew.drew.alloc (.cells #[.slice Ah hl.length ch, .string (⟨#[115, 116, 117, 99, 107]⟩ : ByteArray), .int .i64 at_] 27)).heap.size; omega) ?_
          intro v' w4 hown' hgrow hloc
          have P5 := ocAppend (P.below BA) hown' hgrow (own_below HO.out BA) (HOK.out _ endOk_stuck)
          have bw : Below w.heap.size w (wr.drew.drew.alloc (.cells #[.slice Ah hl.length ch, .string (⟨#[115, 116, 117, 99, 107]⟩ : ByteArray), .int .i64 at_] 27)) := hb.trans (BA.mono hs)
          have b5 := bw.grown hgrow bw.size (fun q hq => GV.out q hq)
          have GV5 := Lib.hid (lo_of hloc GV.out bw.size)
          have kB5 := (kB.below BA kB.lt).grown hgrow (fun e => own_blk_ne (P.below BA).1 (kB.below BA kB.lt) (by decide) e.symm)
          have z3b : w4.cell? ⟨w.heap.size, 3, none⟩ = some (.slice (some ⟨gP, 0, none⟩) ps.length cP) := kB5.cell 3
          obtain ⟨-, p1b, p2b, -, -, -⟩ := HC.out _ b5
          refine hK.out _ _ (⟨z3b, p2b, p1b⟩) (fun hHeld => ?_)
          clear hK K
          try simp only [Act.put, List.setIfInBounds_toArray, List.set_cons_zero, List.set_cons_succ, List.getElem_toArray, List.getElem_cons_succ, List.getElem_cons_zero]
          refine Late.ready (rs := [17]) (by kernel_rfl) (by simp) ?_
          refine LateAll.last (o := _) rfl (fun K hK => ?_)
          go_simp
          try go_wp2_with fail
          refine hK.out _ _ ?_
          clear hK K
          try simp only [Act.put, List.setIfInBounds_toArray, List.set_cons_zero, List.set_cons_succ, List.getElem_toArray, List.getElem_cons_succ, List.getElem_cons_zero]
          refine Late.done (by kernel_rfl) ?_ _
          refine NoPanic.normal ?_
          have HF := Lib.hid (And.intro P5 (And.intro b5 kB5))
          clear P5 b5 kB5 z3b p1b p2b BA bw hown' hgrow hloc hHeld z3 p1 p2
          go_wp2_with fail
          go_roundw
          case rel => exact ⟨k + 1, L ++ [((Ah, hl, ch), (⟨#[115, 116, 117, 99, 107]⟩ : ByteArray), (at_ : Int))], by congr 1, by omega, by rw [List.length_append, HL.out]; rfl, HF.out.1, HF.out.2.1, HF.out.2.2, GV5.out⟩
          case measure => simp [intOf]; omega
    · obtain rfl : k = ps.length := by omega
      have hlt' : ¬ (ps.length : Int) < (ps.length : Int) := by omega
      obtain ⟨A', c', rfl⟩ := own_form P.1
      go_wp2_with fail
      go_ret
      exact ⟨L, A', c', rfl, by rw [HL.out]; exact hp4, P, hb⟩
end Go.Proofs.YthdnhaaojicmbaaDoor
/-
  l3Ready, l3RawRunParties, RunParties: parties are run.
-/
namespace Go.Proofs.YthdnhaaojicmbaaDoor
open Go.RowKit
set_option linter.unusedSimpArgs false
set_option linter.unusedVariables false

theorem PlansAt.below {w w' : World} {base : Nat} {v : Value} {Rr : List DRow} (h : PlansAt w base v Rr) (hb : Below w.heap.size w w') : PlansAt w' base v Rr := ⟨own_below h.1 hb, fun r hr => ⟨own_below (h.2 r hr).1 hb, (h.2 r hr).2⟩⟩
theorem parties_parts {l : List Int} {R : List DRow} (h : partiesB l R = true) : (1 ≤ l.length ∧ l.length ≤ 6) ∧ (1 ≤ R.length ∧ R.length ≤ 4) ∧ ∀ r ∈ R, r.2.1.length ≤ 12 ∧ ∀ d ∈ r.2.1, deedOk l.length d := by
  unfold partiesB at h
  simp only [Bool.and_eq_true] at h
  obtain ⟨⟨⟨⟨h1, h2⟩, h3⟩, _⟩, _⟩ := h
  refine ⟨roomsB_len h1, by have := inB_true.1 h2; omega, fun r hr => ?_⟩
  have h4 := List.all_eq_true.1 h3 r hr
  unfold planB at h4
  simp only [Bool.and_eq_true, decide_eq_true_eq] at h4
  refine ⟨by omega, fun d hd => ?_⟩
  have h5 := List.all_eq_true.1 h4.1.1 d hd
  unfold planP planDB at h5
  simp only [Bool.and_eq_true] at h5
  have h6 := inB_true.1 h5.1.1.2
  have h7 := inB_true.1 h5.1.2
  exact ⟨h5.1.1.1, h6.1, h6.2, h7.1, h7.2⟩
/-- a board after all that its parties can do -/
def ReadyBd (base nl : Nat) (w : World) (e : Ending) (w' : World) : Prop :=
  ∃ (gL gO gV gP cL cO cV cP : Nat) (ls : List Ln) (os : List Int) (vs : List Value) (ps : List Pt), e = .returned (.agg #[.slice (some ⟨gL, 0, none⟩) ls.length cL, .slice (some ⟨gO, 0, none⟩) os.length cO, .slice (some ⟨gV, 0, none⟩) vs.length cV, .slice (some ⟨gP, 0, none⟩) ps.length cP]) ∧ BD w' base gL gO gV gP cL cO cV cP ls os vs ps ∧ BOk nl ls os vs ps ∧ Below base w w'
set_option maxHeartbeats 4000000 in
theorem l3Ready_any (base : Nat) (A : Option Addr) (c : Nat) (l : List Int) (A2 : Option Addr) (c2 : Nat) (R : List DRow) (Ao : Option Addr) (co : Nat) (w : World) (h : RI w w.heap.size A l) (P : PlansAt w base (.slice A2 R.length c2) R) (hbase : base ≤ w.heap.size) (hl6 : l.length ≤ 6) (hR1 : 1 ≤ R.length) (hR4 : R.length ≤ 4) (hd : ∀ r ∈ R, r.2.1.length ≤ 12 ∧ ∀ d ∈ r.2.1, deedOk l.length d) :
    Calls Tryd.prog 37 #[.slice A l.length c, .slice A2 R.length c2, .slice Ao 0 co] w (ReadyBd base l.length w) := by
  have B1 := (Below.refl w.heap.size w).alloc (Nat.le_refl _) (.cells #[.slice none 0 0, .slice none 0 0, .slice none 0 0, .slice none 0 0] 79)
  have kR1 := Blk.new w 79 #[.slice none 0 0, .slice none 0 0, .slice none 0 0, .slice none 0 0]
  have h1 : RI (w.alloc (.cells #[.slice none 0 0, .slice none 0 0, .slice none 0 0, .slice none 0 0] 79)) (w.alloc (.cells #[.slice none 0 0, .slice none 0 0, .slice none 0 0, .slice none 0 0] 79)).heap.size A l := (h.below B1).more B1.size
  have P1 := P.below B1
  have hs1 := B1.size
  have HD := Lib.hid hd
  have hd13 : ∀ r ∈ R, r.2.1.length ≤ 13 := fun r hr => by have := (hd r hr).1; omega
  clear h P hd
  go_enter Tryd.func37, Tryd.ntmps37
  go_upto_region 1 with fail
  generalize w.alloc (.cells #[.slice none 0 0, .slice none 0 0, .slice none 0 0, .slice none 0 0] 79) = w1 at B1 kR1 h1 P1 hs1 ⊢
  go_wp2_with fail
  refine (l3Owners_any A c l A2 c2 R w1 h1 P1.RLD_ (by omega) (by omega) hd13).mono ?_
  rintro e w2 ⟨L3, A3, c3, rfl, hL3, ho3, hb2⟩
  have h2 := (h1.below hb2).more hb2.size
  have P2 := P1.below hb2
  have B2 := B1.trans (hb2.mono hs1)
  have kR2 := kR1.below hb2 kR1.lt
  have hs2 := B2.size
  have hO := l3Open_any base A c l A2 c2 R A3 c3 L3 w2 h2 P2 (RI.of_own ho3) (by omega) hl6 hL3 hR1 hR4 HD.out
  clear ho3 h2 P2 h1 P1 hL3
  go_wp2_with fail
  refine hO.mono ?_
  rintro e w3 ⟨gL, gO, gV, gP, cL, cO, cV, cP, ls, os, vs, ps, rfl, hps, hBD, hok, hmu, hb3⟩
  have B3 := B2.trans (hb3.mono hs2)
  have kR3 := kR2.below hb3 kR2.lt
  have hRn := l3Run_any base gL gO gV gP cL cO cV cP l.length ls os vs ps Ao co w3 hBD hok hl6 hmu
  clear hO hBD hok hmu hps B2 kR2 hb3 hs2
  go_wp2_with fail
  refine hRn.mono ?_
  rintro e w4 ⟨ls2, vs2, ps2, rfl, m1, m2, m3, hBD, hok, hb4, X4⟩
  have kR4 := X4 _ _ kR3
  have BZ := (B3.mono hbase).trans hb4
  have XZ : Boxes w w4 := (Boxes.below B3).trans X4
  have v0 := kR4.cell 0
  have v1 := kR4.cell 1
  have v2 := kR4.cell 2
  have v3 := kR4.cell 3
  simp at v0 v1 v2 v3
  have y0 := kR4.frozen 0
  have y1 := kR4.frozen 1
  have y2 := kR4.frozen 2
  have y3 := kR4.frozen 3
  have HM := Lib.hid (And.intro m1 (And.intro m2 m3))
  clear m1 m2 m3 hRn hb4 X4 B3 kR3 hb2 kR1 B1 hs1
  go_wp2_with fail
  obtain ⟨f1, f2, f3, f4⟩ := hBD.res kR4 hbase BZ XZ (Nat.le_refl _) (.slice (some ⟨gL, 0, none⟩) ls.length cL) (.slice (some ⟨gO, 0, none⟩) os.length cO) (.slice (some ⟨gV, 0, none⟩) vs.length cV) (.slice (some ⟨gP, 0, none⟩) ps.length cP)
  clear v0 v1 v2 v3 y0 y1 y2 y3 hBD kR4 BZ XZ
  generalize ((((w4.setCell ⟨w.heap.size, 0, none⟩ (.slice (some ⟨gL, 0, none⟩) ls.length cL)).setCell ⟨w.heap.size, 1, none⟩ (.slice (some ⟨gO, 0, none⟩) os.length cO)).setCell ⟨w.heap.size, 2, none⟩ (.slice (some ⟨gV, 0, none⟩) vs.length cV)).setCell ⟨w.heap.size, 3, none⟩ (.slice (some ⟨gP, 0, none⟩) ps.length cP)) = W7 at f1 f2 f3 f4 ⊢
  have r0 := f4.cell 0
  have r1 := f4.cell 1
  have r2 := f4.cell 2
  have r3 := f4.cell 3
  simp at r0 r1 r2 r3
  exact bodyPost_ret (v := .agg #[.slice (some ⟨gL, 0, none⟩) ls.length cL, .slice (some ⟨gO, 0, none⟩) os.length cO, .slice (some ⟨gV, 0, none⟩) vs.length cV, .slice (some ⟨gP, 0, none⟩) ps.length cP]) (by simp [results, Tryd.results37, go_sem, r0, r1, r2, r3]) rfl ⟨gL, gO, gV, gP, cL, cO, cV, cP, ls2, os, vs2, ps2, by rw [HM.out.1, HM.out.2.1, HM.out.2.2], f1, hok, f2⟩
/-- outcomes, and whether the parties are valid -/
def RanPs (w : World) (e : Ending) (w' : World) : Prop :=
  ∃ (L : List Oc) (A' : Option Addr) (c' : Nat) (b : Bool), e = .returned (.tuple #[.slice A' L.length c', .bool b]) ∧ L.length ≤ 4 ∧ OutsAt w' w.heap.size (.slice A' L.length c') L ∧ Below w.heap.size w w'
set_option maxHeartbeats 4000000 in
theorem rawRunParties_any (A : Option Addr) (c : Nat) (l : List Int) (A2 : Option Addr) (c2 : Nat) (R0 : List DRow) (w : World) (h : RI w w.heap.size A l) (h2 : RLD w w.heap.size A2 R0) (hl : l.length ≤ 9) (hn : R0.length ≤ 5) (h13 : ∀ r ∈ R0, r.2.1.length ≤ 13 ∧ ∀ d ∈ r.2.1, d.1.size ≤ 10) :
    Calls Tryd.prog 27 #[.slice A l.length c, .slice A2 R0.length c2] w (RanPs w) := by
  go_enter Tryd.func27, Tryd.ntmps27
  go_wp2_with fail
  refine (ownPlans_any A2 c2 R0 w h2 hn h13).mono ?_
  rintro e w1 ⟨Rs, A3, c3, rfl, hRs, P1, hb1⟩
  have hlen : Rs.length ≤ 5 := by have := congrArg List.length hRs; simp at this; omega
  have hr1 : ∀ r ∈ Rs, r.2.1.length ≤ 1048576 := fun r hr => by have := (P1.2 r hr).2.1; omega
  have i1 := (h.below hb1).more hb1.size
  have hs1 := hb1.size
  clear h h2 h13 hRs
  cases hv : partiesB l Rs
  · have HV := sPartiesValid_any A c l A3 c3 Rs w1 i1 P1.RLD_ (by omega) (by omega) hr1
    rw [hv] at HV
    go_wp2_with fail
    refine HV.mono ?_
    rintro e w2 ⟨rfl, hb2⟩
    have b2 := hb1.trans (hb2.mono hs1)
    have o2 := (OutsAt.empty w2).mono (base' := w.heap.size) b2.size
    have b3 := b2.alloc b2.size (.cells #[] 27)
    clear HV
    go_wp2_with fail
    go_ret2
    exact ⟨[], _, _, false, rfl, by decide, o2, b3⟩
  · have HV := sPartiesValid_any A c l A3 c3 Rs w1 i1 P1.RLD_ (by omega) (by omega) hr1
    rw [hv] at HV
    obtain ⟨q1, q2, q3⟩ := parties_parts hv
    go_wp2_with fail
    refine HV.mono ?_
    rintro e w2 ⟨rfl, hb2⟩
    have b2 := hb1.trans (hb2.mono hs1)
    have P3 := (P1.below hb2).below ((Below.refl w2.heap.size w2).alloc (Nat.le_refl _) (.cells #[] 3))
    have b3 := b2.alloc b2.size (.cells #[] 3)
    have i3 : RI (w2.alloc (.cells #[] 3)) (w2.alloc (.cells #[] 3)).heap.size A l := (((i1.below hb2).more hb2.size).below ((Below.refl w2.heap.size w2).alloc (Nat.le_refl _) (.cells #[] 3))).more (by simp)
    have HRd := l3Ready_any w.heap.size A c l A3 c3 Rs (some ⟨w2.heap.size, 0, none⟩) 0 _ i3 P3 b3.size q1.2 q2.1 q2.2 q3
    clear HV P1 P3 i1 i3 q3 hr1
    go_wp2_with fail
    refine HRd.mono ?_
    rintro e w4 ⟨gL, gO, gV, gP, cL, cO, cV, cP, ls, os, vs, ps, rfl, hBD, hok, hb4⟩
    have b4 := b3.trans hb4
    have HO := l3Outcomes_any w.heap.size gL gO gV gP cL cO cV cP l.length ls os vs ps w4 hBD hok
    clear HRd hBD hok b3 b2 hb4
    go_wp2_with fail
    refine HO.mono ?_
    rintro e w5 ⟨L, A5, c5, rfl, hL, o5, hb5⟩
    clear HO
    go_wp2_with fail
    go_ret2
    exact ⟨L, A5, c5, true, rfl, hL, o5, b4.trans (hb5.mono b4.size)⟩
set_option maxHeartbeats 4000000 in
theorem runParties_any (A : Option Addr) (c : Nat) (l : List Int) (A2 : Option Addr) (c2 : Nat) (R0 : List DRow) (w : World) (h : RI w w.heap.size A l) (h2 : RLD w w.heap.size A2 R0) (hl : l.length ≤ 9) (hn : R0.length ≤ 5) (h13 : ∀ r ∈ R0, r.2.1.length ≤ 13 ∧ ∀ d ∈ r.2.1, d.1.size ≤ 10) :
    Calls Tryd.prog 20 #[.slice A l.length c, .slice A2 R0.length c2] w (RanPs w) := by
  go_enter Tryd.func20, Tryd.ntmps20
  go_wp2_with fail
  refine (rawRunParties_any A c l A2 c2 R0 w h h2 hl hn h13).mono ?_
  rintro e w1 ⟨L, A1, c1, b, rfl, hL, o1, hb1⟩
  clear h h2 h13
  have HO := ownListOutcome_any A1 c1 w.heap.size L w1 o1 hL
  go_wp2_with fail
  refine HO.mono ?_
  rintro e w2 ⟨L2, A2, c2, rfl, hL2, o2, hb2⟩
  have HL2 := Lib.hid hL2
  clear HO o1 hL2
  go_wp2_with fail
  go_ret2
  exact ⟨L2, A2, c2, b, rfl, by rw [HL2.out]; exact hL, o2.mono hb1.size, hb1.trans (hb2.mono hb1.size)⟩
end Go.Proofs.YthdnhaaojicmbaaDoor
/-
  DrawFormatOutcome.
-/
namespace Go.Proofs.YthdnhaaojicmbaaDoor
open Go.RowKit
set_option linter.unusedSimpArgs false
set_option linter.unusedVariables false

/-- an outcome that is drawn -/
def DrawnOc (w : World) (e : Ending) (w' : World) : Prop :=
  ∃ (A' : Option Addr) (hl : List Int) (c' : Nat) (s : ByteArray) (y : Int), e = .returned (.agg #[.slice A' hl.length c', .string s, .int .i64 y]) ∧ ocOk ((A', hl, c'), s, y) ∧ ((hl.length ≤ c' ∧ c' ≤ maxLen) ∧ (0 < hl.length → ∃ g, A' = some ⟨g, 0, none⟩)) ∧ RI w' w'.heap.size A' hl ∧ Below w.heap.size w w'
theorem OutsAt.picked {w w' : World} {R base : Nat} {v : Value} {L : List Oc} (h : OutsAt w base v L) (hg : w.grownBy w' (some R)) (hR : R < base) : OutsAt w' base v L :=
  ⟨own_mark h.1 hg fun k e1 e2 => by injection e2 with e2; have := (h.1.lt k e1).1; omega, fun o ho => ⟨own_mark (h.2 o ho).1 hg fun k e1 e2 => by injection e2 with e2; have := ((h.2 o ho).1.lt k e1).1; omega, (h.2 o ho).2⟩⟩
set_option maxHeartbeats 4000000 in
theorem drawOutcome_any (A : Option Addr) (c : Nat) (l : List Int) (w : World) (h : RB w w.heap.size A l) (hc : l.length ≤ c) (hm : c ≤ maxLen) (hn : l.length ≤ 1048576) :
    Calls Tryd.prog 10 #[.slice A l.length c] w (DrawnOc w) := by
  have B1 := (Below.refl w.heap.size w).alloc (Nat.le_refl _) (.cells #[.slice none 0 0, .string ⟨#[]⟩, .int .i64 0] 27)
  have kR1 := Blk.new w 27 #[.slice none 0 0, .string ⟨#[]⟩, .int .i64 0]
  have h1 : RB (w.alloc (.cells #[.slice none 0 0, .string ⟨#[]⟩, .int .i64 0] 27)) (w.alloc (.cells #[.slice none 0 0, .string ⟨#[]⟩, .int .i64 0] 27)).heap.size A l := ⟨(Reads.below h.1 B1).more B1.size, h.2⟩
  have hs1 := B1.size
  have hs1' : w.heap.size < (w.alloc (.cells #[.slice none 0 0, .string ⟨#[]⟩, .int .i64 0] 27)).heap.size := by simp
  clear h
  go_enter Tryd.func10, Tryd.ntmps10
  go_upto_region 1 with fail
  generalize w.alloc (.cells #[.slice none 0 0, .string ⟨#[]⟩, .int .i64 0] 27) = w1 at B1 kR1 h1 hs1 hs1' ⊢
  go_wp2_with fail
  refine (l11Open_any A c l w1 h1 hc hm hn).mono ?_
  rintro e w2 ⟨R, A2, c2, l2, rfl, hr2, hb2⟩
  have B2 := B1.trans (hb2.mono hs1)
  have kR2 := kR1.below hb2 kR1.lt
  have hRlo : w1.heap.size ≤ R := hr2.hB
  have hBth := l3Both_any R w1.heap.size c2 A2 l2 0 w2 hr2 (by omega)
  clear h1 hb2 hr2 kR1 B1
  go_wp2_with fail
  refine hBth.mono ?_
  rintro e w3 ⟨L, A3, c3, Rr, A4, c4, p3, rfl, hL, hRr, h13, i3, r3, hr3, hp3, hg3⟩
  have B3 := B2.grown hg3 B2.size (fun k hk => by injection hk with hk; omega)
  have kR3 := kR2.grown hg3 (fun e => by injection e with e; omega)
  have hR3 := hr3.blk.lt
  have hRun := runParties_any A3 c3 L A4 c4 Rr w3 i3 r3 hL hRr h13
  clear hBth B2 kR2 hg3 i3 r3 h13
  go_wp2_with fail
  refine hRun.mono ?_
  rintro e w4 ⟨L4, A5, c5, b, rfl, hL4, o4, hb4⟩
  have B4 := B3.trans (hb4.mono B3.size)
  have kR := kR3.below hb4 kR3.lt
  have hr4 := hr3.below hb4
  clear hRun hr3 hb4 kR3
  by_cases hz : L4.length = 0
  · have v0 : w4.cell? ⟨w.heap.size, 0, none⟩ = some (.slice none 0 0) := kR.cell 0
    have v1 : w4.cell? ⟨w.heap.size, 1, none⟩ = some (.string ⟨#[]⟩) := kR.cell 1
    have v2 : w4.cell? ⟨w.heap.size, 2, none⟩ = some (.int .i64 0) := kR.cell 2
    have y0 := kR.frozen 0
    have y1 := kR.frozen 1
    have y2 := kR.frozen 2
    clear o4 hr4
    go_wp2_with fail
    have f2 := ((kR.set_ 0 (.slice none 0 0)).set_ 1 (.string ⟨#[120]⟩)).set_ 2 (.int .i64 (-1))
    have f3 := ((B4.setCell (p := ⟨w.heap.size, 0, none⟩) (Nat.le_refl _) (.slice none 0 0)).setCell (p := ⟨w.heap.size, 1, none⟩) (Nat.le_refl _) (.string ⟨#[120]⟩)).setCell (p := ⟨w.heap.size, 2, none⟩) (Nat.le_refl _) (.int .i64 (-1))
    clear v0 v1 v2 y0 y1 y2 kR B4
    generalize ((w4.setCell ⟨w.heap.size, 0, none⟩ (.slice none 0 0)).setCell ⟨w.heap.size, 1, none⟩ (.string ⟨#[120]⟩)).setCell ⟨w.heap.size, 2, none⟩ (.int .i64 (-1)) = W7 at f2 f3 ⊢
    have r0 : W7.cell? ⟨w.heap.size, 0, none⟩ = some (.slice none 0 0) := f2.cell 0
    have r1 : W7.cell? ⟨w.heap.size, 1, none⟩ = some (.string ⟨#[120]⟩) := f2.cell 1
    have r2 : W7.cell? ⟨w.heap.size, 2, none⟩ = some (.int .i64 (-1)) := f2.cell 2
    exact bodyPost_ret (v := .agg #[.slice none 0 0, .string ⟨#[120]⟩, .int .i64 (-1)]) (by simp [results, Tryd.results10, go_sem, r0, r1, r2]) rfl ⟨none, [], 0, ⟨#[120]⟩, -1, rfl, ⟨by decide, (fun x hx => by cases hx), ⟨by decide, by decide⟩, by decide, by decide⟩, ⟨⟨Nat.le_refl _, Nat.zero_le _⟩, fun e => absurd e (by decide)⟩, RI.nil_, f3⟩
  · have hz' : 0 < L4.length := by omega
    have hz2 : ((L4.length : Int) == 0) = false := by rw [beq_eq_false_iff_ne]; omega
    have hP := pick_any R w1.heap.size c2 A2 l2 p3 L4.length w4 hr4 (by omega) (by omega) (by omega)
    obtain ⟨g, cg, hA, -, -⟩ := own_some o4.1 hz'
    injection hA with hA _ hcg
    subst hA hcg
    have HO4 := Lib.hid (And.intro o4 (And.intro kR B4))
    clear o4 kR B4 hr4 B3
    go_wp2_with fail
    refine hP.mono ?_
    rintro e w5 ⟨x, x0, x1, rfl, hr5, hg5⟩
    obtain ⟨o4, kR, B4⟩ := HO4.out
    have o5 := o4.picked hg5 hR3
    have kR5 := kR.grown hg5 (fun e => by injection e with e; omega)
    have B5 := B4.grown hg5 B4.size (fun k hk => by injection hk with hk; omega)
    obtain ⟨n, rfl⟩ := Int.eq_ofNat_of_zero_le x0
    have hnl : n < L4.length := by omega
    obtain ⟨d0, d1, d2⟩ := o5.cell hnl
    have hrow := o5.2 _ (List.getElem_mem hnl)
    obtain ⟨⟨⟨A0, l0, c0⟩, s0, y0⟩, ho⟩ : ∃ o, L4[n] = o := ⟨_, rfl⟩
    rw [ho] at d0 d1 d2 hrow
    simp only [rowV] at d0 d1 d2 hrow
    have v0 : w5.cell? ⟨w.heap.size, 0, none⟩ = some (.slice none 0 0) := kR5.cell 0
    have v1 : w5.cell? ⟨w.heap.size, 1, none⟩ = some (.string ⟨#[]⟩) := kR5.cell 1
    have v2 : w5.cell? ⟨w.heap.size, 2, none⟩ = some (.int .i64 0) := kR5.cell 2
    have y0' := kR5.frozen 0
    have y1' := kR5.frozen 1
    have y2' := kR5.frozen 2
    have HF := Lib.hid (And.intro hrow (And.intro kR5 B5))
    have x1' : (n : Int) < (L4.length : Int) := by omega
    clear o4 o5 kR B4 HO4 hg5 hr5 hP ho hrow kR5 B5
    go_wp2_with fail
    obtain ⟨⟨hrow, hok⟩, kR5, B5⟩ := HF.out
    have ne := own_blk_ne hrow kR5 (by decide)
    have f1 := ownsRow_setCell_other (ownsRow_setCell_other (ownsRow_setCell_other hrow (a := ⟨w.heap.size, 0, none⟩) ne (.slice A0 l0.length c0)) (a := ⟨w.heap.size, 1, none⟩) ne (.string s0)) (a := ⟨w.heap.size, 2, none⟩) ne (.int .i64 y0)
    have f2 := ((kR5.set_ 0 (.slice A0 l0.length c0)).set_ 1 (.string s0)).set_ 2 (.int .i64 y0)
    have f3 := ((B5.setCell (p := ⟨w.heap.size, 0, none⟩) (Nat.le_refl _) (.slice A0 l0.length c0)).setCell (p := ⟨w.heap.size, 1, none⟩) (Nat.le_refl _) (.string s0)).setCell (p := ⟨w.heap.size, 2, none⟩) (Nat.le_refl _) (.int .i64 y0)
    clear v0 v1 v2 y0' y1' y2' d0 d1 d2 kR5 B5 hrow
    generalize ((w5.setCell ⟨w.heap.size, 0, none⟩ (.slice A0 l0.length c0)).setCell ⟨w.heap.size, 1, none⟩ (.string s0)).setCell ⟨w.heap.size, 2, none⟩ (.int .i64 y0) = W7 at f1 f2 f3 ⊢
    have r0 : W7.cell? ⟨w.heap.size, 0, none⟩ = some (.slice A0 l0.length c0) := f2.cell 0
    have r1 : W7.cell? ⟨w.heap.size, 1, none⟩ = some (.string s0) := f2.cell 1
    have r2 : W7.cell? ⟨w.heap.size, 2, none⟩ = some (.int .i64 y0) := f2.cell 2
    exact bodyPost_ret (v := .agg #[.slice A0 l0.length c0, .string s0, .int .i64 y0]) (by simp [results, Tryd.results10, go_sem, r0, r1, r2]) rfl ⟨A0, l0, c0, s0, y0, rfl, hok, ⟨own_caps f1, fun e => by obtain ⟨g, c, hg, -, -⟩ := own_some f1 e; injection hg with hg; exact ⟨g, hg⟩⟩, RI.of_own f1, f3⟩
end Go.Proofs.YthdnhaaojicmbaaDoor
/-
  Plain: an outcome's text has one space more than there are numbers, and ends with that of all but the first one.
-/
namespace Go.Proofs.YthdnhaaojicmbaaDoor
set_option linter.unusedSimpArgs false
set_option linter.unusedVariables false

/-- how many spaces -/
def spL (l : List UInt8) : Nat := l.countP (· == 32)
def spN (b : ByteArray) : Nat := spL b.data.toList
theorem spL_append (a b : List UInt8) : spL (a ++ b) = spL a + spL b := List.countP_append ..
theorem spN_append (a b : ByteArray) : spN (a ++ b) = spN a + spN b := by
  unfold spN
  rw [ByteArray.data_append, Array.toList_append, spL_append]
theorem spL_none {l : List UInt8} (h : (32 : UInt8) ∉ l) : spL l = 0 := by
  unfold spL
  rw [List.countP_eq_zero]
  intro a ha
  simp only [beq_iff_eq]
  intro e
  exact h (e ▸ ha)
theorem dd_range (n : Nat) : ∀ b ∈ Lib.decDigits n, 48 ≤ b.toNat := by
  induction n using Nat.strongRecOn with
  | ind n ih =>
    intro b hb
    rw [Lib.decDigits] at hb
    split at hb
    · rename_i h
      obtain rfl := List.mem_singleton.1 hb
      rw [UInt8.toNat_ofNat']
      omega
    · rename_i h
      rcases List.mem_append.1 hb with hb | hb
      · exact ih (n / 10) (by omega) b hb
      · obtain rfl := List.mem_singleton.1 hb
        rw [UInt8.toNat_ofNat']
        omega
theorem dd_nosp (n : Nat) : (32 : UInt8) ∉ Lib.decDigits n := fun h => by
  have := dd_range n 32 h
  revert this
  decide
theorem spN_itoS (x : Int) : spN (itoS x) = 0 := by
  unfold spN itoS
  apply spL_none
  show (32 : UInt8) ∉ Lib.itoa x
  unfold Lib.itoa
  split
  · intro h
    rcases List.mem_cons.1 h with h | h
    · revert h; decide
    · exact dd_nosp _ h
  · exact dd_nosp _
theorem spN_space : spN ⟨#[32]⟩ = 1 := by decide
theorem notes_from (l : List Int) : ∀ a : ByteArray, l.foldl (fun o n => o ++ itoS n ++ ⟨#[32]⟩) a = a ++ notesT l := by
  unfold notesT
  induction l with
  | nil => intro a; exact (ByteArray.append_empty (b := a)).symm
  | cons x l ih =>
    intro a
    rw [List.foldl_cons, List.foldl_cons, ih, ih (⟨#[]⟩ ++ itoS x ++ ⟨#[32]⟩)]
    have e : (⟨#[]⟩ : ByteArray) ++ itoS x = itoS x := ByteArray.empty_append
    rw [e]
    simp only [ByteArray.append_assoc]
theorem notes_cons (x : Int) (l : List Int) : notesT (x :: l) = itoS x ++ ⟨#[32]⟩ ++ notesT l := by
  have e : (⟨#[]⟩ : ByteArray) ++ itoS x = itoS x := ByteArray.empty_append
  show (x :: l).foldl _ _ = _
  rw [List.foldl_cons, notes_from, e]
theorem spN_notes (l : List Int) : spN (notesT l) = l.length := by
  induction l with
  | nil => rfl
  | cons x l ih =>
    rw [notes_cons, spN_append, spN_append, spN_itoS, spN_space, ih, List.length_cons]
    omega
theorem spN_out (l : List Int) (s : ByteArray) (y : Int) (hs : (32 : UInt8) ∉ s.data.toList) : spN (outT l s y) = l.length + 1 := by
  unfold outT
  rw [spN_append, spN_append, spN_append, spN_notes, spN_itoS, spN_space, show spN s = 0 from spL_none hs]
theorem out_cons (x : Int) (l : List Int) (s : ByteArray) (y : Int) : outT (x :: l) s y = itoS x ++ ⟨#[32]⟩ ++ outT l s y := by
  unfold outT
  rw [notes_cons]
  simp only [ByteArray.append_assoc]
theorem extract_tail (a b : ByteArray) : (a ++ b).extract ((a ++ b).size - b.size) (a ++ b).size = b := by
  rw [ByteArray.size_append, Nat.add_sub_cancel]
  exact ByteArray.extract_append_eq_right rfl rfl
theorem spN_take_succ {b : ByteArray} {k : Nat} (h : k < b.size) : spL (b.data.toList.take (k + 1)) = spL (b.data.toList.take k) + (if b[k] == 32 then 1 else 0) := by
  have hk : k < b.data.toList.length := by simpa using h
  rw [take_snoc _ k hk, spL_append]
  congr 1
  show List.countP (· == 32) [b.data.toList[k]] = _
  have e : b.data.toList[k] = b[k] := by simp [ByteArray.getElem_eq_getElem_data]
  rw [e]
  simp [List.countP_cons]
theorem spL_take_le (l : List UInt8) (k : Nat) : spL (l.take k) ≤ k := by
  have := List.countP_le_length (p := (· == (32 : UInt8))) (l := l.take k)
  unfold spL
  have h2 : (l.take k).length ≤ k := by rw [List.length_take]; omega
  omega
end Go.Proofs.YthdnhaaojicmbaaDoor
/-
  The law FnOutcomeText, walked.
-/
namespace Go.Proofs.YthdnhaaojicmbaaDoor
open Go.RowKit
set_option linter.unusedSimpArgs false
set_option linter.unusedVariables false

theorem wf_u8 {x : Int} (h : (Lit.int .u8 x).wf = true) : 0 ≤ x ∧ x ≤ 255 := by simpa [Lit.wf, IntKind.min, IntKind.max, IntKind.signed, IntKind.bits] using h
set_option maxHeartbeats 8000000 in
theorem FnOutcomeText_walk (A0 : Option Addr) (l0 : List Int) (c0 : Nat) (w : World) (ht : Tab w) (h0 : Reads w w.heap.size 1 A0 l0.length (l0.map (Value.int .u8))) (hc0 : l0.length ≤ c0) (hm0 : c0 ≤ maxLen) (hw0 : ∀ x ∈ l0, (Lit.int .u8 x).wf = true) :
    Calls Tryd.prog 4 #[.slice A0 l0.length c0] w fun e w' => e = .returned (.bool true) ∧ Below w.heap.size w w' := by
  by_cases hn0 : l0.length ≤ 1048576
  case neg =>
    have h' : (1048576 : Int) < l0.length := by omega
    clear h0 hn0 hw0 hc0 hm0 ht
    go_enter Tryd.func4, Tryd.ntmps4
    go_wp2
    go_ret
    exact ⟨rfl, Below.refl _ _⟩
  have f0 : ¬ (1048576 : Int) < l0.length := by omega
  have hRB : RB w w.heap.size A0 l0 := ⟨h0, fun x hx => wf_u8 (hw0 x hx)⟩
  have HD := Lib.hid (drawOutcome_any A0 c0 l0 w hRB hc0 hm0 hn0)
  clear hRB h0 hw0 hc0 hm0
  go_enter Tryd.func4, Tryd.ntmps4
  go_wp2_with fail
  refine HD.out.mono ?_
  rintro e w1 ⟨A1, hl, c1, s, y, rfl, hok, hcap, hR1, hb1⟩
  obtain ⟨k1, k2, ⟨k3, k4⟩, k5, k6⟩ := hok
  simp only at k1 k2 k3 k4 k5 k6
  have TT : Hid (∀ W, Below w1.heap.size w1 W → Tab W) := Lib.hid fun W hbW => ht.below (hb1.trans (hbW.mono hb1.size))
  have RR : Hid (∀ W, Below w1.heap.size w1 W → RI W W.heap.size A1 hl) := Lib.hid fun W hbW => (hR1.below hbW).more hbW.size
  have hv : ∀ x ∈ hl, -9223372036854775808 ≤ x ∧ x ≤ 9223372036854775807 := fun x hx => by have := k2 x hx; omega
  have hv2 : ∀ x ∈ hl.drop 1, -9223372036854775808 ≤ x ∧ x ≤ 9223372036854775807 := fun x hx => hv x (List.drop_subset 1 hl hx)
  have S := Lib.hid (fun A' c' W h => sFormatOutcome_any A' c' hl s y W h (by omega) hv (by omega) (by omega) (by omega))
  have I := Lib.hid (fun A' c' W ht h => iFormatOutcome_any A' c' hl s y W ht h (by omega) hv (by omega) (by omega) (by omega))
  have I2 := Lib.hid (fun A' c' W ht h => iFormatOutcome_any A' c' (hl.drop 1) s y W ht h (by rw [List.length_drop]; omega) hv2 (by omega) (by omega) (by omega))
  have hOs : (outT hl s y).size ≤ 20000 := by
    have n1 := notesT_size hv hl.length (Nat.le_refl _)
    rw [List.take_length] at n1
    have n2 := itoS_size (n := y) (by omega) (by omega)
    have e1 : (⟨#[32]⟩ : ByteArray).size = 1 := rfl
    unfold outT
    rw [ByteArray.size_append, ByteArray.size_append, ByteArray.size_append, e1]
    omega
  have hsp := spN_out hl s y k4
  have HCONS := Lib.hid (fun (x : Int) (l : List Int) (e : hl = x :: l) => show outT hl s y = itoS x ++ ⟨#[32]⟩ ++ outT (hl.drop 1) s y by rw [e]; exact out_cons x l s y)
  obtain ⟨O, hO⟩ : ∃ O, outT hl s y = O := ⟨_, rfl⟩
  obtain ⟨Q, hQ⟩ : ∃ Q, outT (hl.drop 1) s y = Q := ⟨_, rfl⟩
  rw [hO] at S I hOs hsp HCONS
  rw [hQ] at I2 HCONS
  have HSP := Lib.hid hsp
  clear hO hQ hsp hv hv2 k2 k3 k4 ht HD hR1
  have kb := Blk.new w1 27 #[.slice A1 hl.length c1, .string s, .int .i64 y]
  have Bb := (Below.refl w1.heap.size w1).alloc (Nat.le_refl _) (.cells #[.slice A1 hl.length c1, .string s, .int .i64 y] 27)
  go_upto_region 4 with fail
  generalize w1.alloc (.cells #[.slice A1 hl.length c1, .string s, .int .i64 y] 27) = w2 at kb Bb ⊢
  have a0 : w2.cell? ⟨w1.heap.size, 0, none⟩ = some (.slice A1 hl.length c1) := kb.cell 0
  have a1 : w2.cell? ⟨w1.heap.size, 1, none⟩ = some (.string s) := kb.cell 1
  have a2 : w2.cell? ⟨w1.heap.size, 2, none⟩ = some (.int .i64 y) := kb.cell 2
  have t2 := TT.out _ Bb
  have r2 := RR.out _ Bb
  go_upto_region 5 with (first | (go_at_call 8; refine (I.out A1 c1 _ t2 r2).mono ?_; rintro e w3 ⟨rfl, hb3⟩))
  have B3 := Bb.trans (hb3.mono Bb.size)
  have kb3 := kb.below hb3 kb.lt
  clear a0 a1 a2 t2 r2 hb3 kb Bb
  have a0 : w3.cell? ⟨w1.heap.size, 0, none⟩ = some (.slice A1 hl.length c1) := kb3.cell 0
  have a1 : w3.cell? ⟨w1.heap.size, 1, none⟩ = some (.string s) := kb3.cell 1
  have a2 : w3.cell? ⟨w1.heap.size, 2, none⟩ = some (.int .i64 y) := kb3.cell 2
  have r3 := RR.out _ B3
  go_upto_region 7 with (first | (go_at_call 6; refine (S.out A1 c1 _ r3).mono ?_; rintro e w4 ⟨rfl, hb4⟩))
  have B4 := B3.trans (hb4.mono B3.size)
  have kb4 := kb3.below hb4 kb3.lt
  clear a0 a1 a2 r3 hb4 kb3 B3
  have a0 : w4.cell? ⟨w1.heap.size, 0, none⟩ = some (.slice A1 hl.length c1) := kb4.cell 0
  have a1 : w4.cell? ⟨w1.heap.size, 1, none⟩ = some (.string s) := kb4.cell 1
  have a2 : w4.cell? ⟨w1.heap.size, 2, none⟩ = some (.int .i64 y) := kb4.cell 2
  go_wp2_with fail
  go_loopw [5, 6] (fun v i wr => ∃ k : Nat, v = .int .i64 (spL (O.data.toList.take k) : Nat) ∧ i = .int .i64 k ∧ k ≤ O.size ∧ wr = w4) (fun v i _ => O.size - (intOf i).toNat)
  case atStart => exact ⟨0, rfl, rfl, Nat.zero_le _, rfl⟩
  case round =>
    obtain ⟨k, rfl, rfl, hk, rfl⟩ := hrel
    by_cases hlt : k < O.size
    · have hlt' : (k : Int) < (O.size : Int) := by omega
      have hle := spL_take_le O.data.toList k
      have hsucc := Lib.hid (spN_take_succ (b := O) hlt)
      by_cases hb : O[k] = 32
      · have hb2 : ((O[k].toNat : Int) == 32) = true := by rw [hb]; rfl
        have hsum : Hid (spL (O.data.toList.take (k + 1)) = spL (O.data.toList.take k) + 1) := Lib.hid (by rw [hsucc.out, hb]; rfl)
        clear hb
        go_wp2_with fail
        go_roundw
        case rel => exact ⟨k + 1, by rw [hsum.out]; go_num, by go_num, by omega, trivial⟩
        case measure => simp [intOf]; omega
      · have hb2 : ((O[k].toNat : Int) == 32) = false := by
          rw [beq_eq_false_iff_ne]
          intro h
          exact hb (UInt8.toNat_inj.1 (by show O[k].toNat = 32; omega))
        have hsum : Hid (spL (O.data.toList.take (k + 1)) = spL (O.data.toList.take k)) := Lib.hid (by
          rw [hsucc.out]
          have : (O[k] == 32) = false := by rw [beq_eq_false_iff_ne]; exact hb
          rw [this]
          simp)
        clear hb
        go_wp2_with fail
        go_roundw
        case rel => exact ⟨k + 1, by rw [hsum.out], by go_num, by omega, trivial⟩
        case measure => simp [intOf]; omega
    · obtain rfl : k = O.size := by omega
      have hlt' : ¬ (O.size : Int) < (O.size : Int) := by omega
      have hcount : spL (O.data.toList.take O.size) = hl.length + 1 := by
        have h1 : O.data.toList.take O.size = O.data.toList := by
          rw [List.take_of_length_le]
          simp
        rw [h1]
        exact HSP.out
      rw [hcount]
      clear hcount
      cases hl with
      | nil =>
        clear HCONS S I I2 RR
        go_wp2_with fail
        go_ret
        exact ⟨rfl, hb1.trans (B4.mono hb1.size)⟩
      | cons x l =>
        have hO := HCONS.out x l rfl
        have hq1 : Q.size < O.size := by
          rw [hO, ByteArray.size_append, ByteArray.size_append]
          have e1 : (⟨#[32]⟩ : ByteArray).size = 1 := rfl
          omega
        have hq2 : O.extract (O.size - Q.size) O.size = Q := by rw [hO]; exact extract_tail _ Q
        obtain ⟨hl, hhl⟩ : ∃ hl, x :: l = hl := ⟨_, rfl⟩
        have hpos : 0 < hl.length := by rw [← hhl]; simp
        rw [hhl] at I2 RR k1 hcap a0
        simp only [hhl]
        clear HCONS S I hO HSP hhl
        obtain ⟨⟨hc1, hc2⟩, hcg⟩ := hcap
        obtain ⟨g, rfl⟩ := hcg hpos
        obtain ⟨hy, hhy⟩ : ∃ hy, hl.drop 1 = hy := ⟨_, rfl⟩
        have hyl : hl.length - 1 = hy.length := by rw [← hhy, List.length_drop]
        rw [hhy] at I2
        have hR4 := RR.out _ B4
        obtain ⟨A9, hA9⟩ : ∃ A9 : Option Addr, (if c1 = 1 then some (⟨g, 0, none⟩ : Addr) else some ⟨g, 1, none⟩) = A9 := ⟨_, rfl⟩
        have hR9 : RI wr wr.heap.size A9 hy := by
          have := Reads.cut hR4 (k := 1) (cap := c1) (by omega) hc1
          unfold RI
          rw [← hA9, ← hyl, ← hhy]
          have e : (⟨g, 0, none⟩ : Addr).add (1 * 1) = ⟨g, 1, none⟩ := rfl
          simpa [ints, e, List.map_drop] using this
        have HA9 := Lib.hid hA9
        have HR9 := Lib.hid hR9
        have HYL := Lib.hid hyl
        have HQ2 := Lib.hid hq2
        have hc1' : (hl.length : Int) ≤ (c1 : Int) := by omega
        have hp1 : (1 : Int) ≤ (hl.length : Int) := by omega
        have hz2 : ((hl.length : Int) == 0) = false := by rw [beq_eq_false_iff_ne]; omega
        clear hhy hR4 hA9 hR9 hyl RR hq2
        go_upto_region 15 with fail
        go_wp2_with fail
        refine wp_region_noPanic ?_
        refine wp_region_late (C := (fun w' => w'.cell? ⟨w1.heap.size, 0, none⟩ = some (.slice (some ⟨g, 0, none⟩) hl.length c1) ∧ w'.cell? ⟨w1.heap.size, 1, none⟩ = some (.string s) ∧ w'.cell? ⟨w1.heap.size, 2, none⟩ = some (.int .i64 y))) (t := 9) (by kernel_rfl) (⟨a0, a1, a2⟩) (fun hHeld => ?_)
        refine' Late.take (i := 0) (oi := _) (v := _) rfl (by kernel_rfl) (by kernel_rfl) (by kernel_rfl) (by kernel_rfl) (fun _ _ _ h => h) (Or.inl ⟨by rfl, ?hy0r15⟩) hHeld ?rest0r15
        case hy0r15 => (intro w' hSw; (try dsimp only at hSw); go_simp; try with_reducible rfl)
        case' rest0r15 => try simp only [Act.put, List.setIfInBounds_toArray, List.set_cons_zero, List.set_cons_succ, List.getElem_toArray, List.getElem_cons_succ, List.getElem_cons_zero]
        refine' Late.take (i := 1) (oi := _) (v := _) rfl (by kernel_rfl) (by kernel_rfl) (by kernel_rfl) (by kernel_rfl) (fun _ _ _ h => h) (Or.inl ⟨by rfl, ?hy1r15⟩) hHeld ?rest1r15
        case hy1r15 => (intro w' hSw; (try dsimp only at hSw); go_simp; try with_reducible rfl)
        case' rest1r15 => try simp only [Act.put, List.setIfInBounds_toArray, List.set_cons_zero, List.set_cons_succ, List.getElem_toArray, List.getElem_cons_succ, List.getElem_cons_zero]
        refine' Late.take (i := 2) (oi := _) (v := .slice A9 hy.length (c1 - 1)) rfl (by kernel_rfl) (by kernel_rfl) (by kernel_rfl) (by kernel_rfl) (fun _ _ _ h => h) (Or.inl ⟨by rfl, ?hy2r15⟩) hHeld ?rest2r15
        case hy2r15 =>
          intro w' hSw
          rw [← HYL.out]
          by_cases hc : c1 = 1
          · rw [show A9 = some ⟨g, 0, none⟩ by rw [← HA9.out, if_pos hc]]
            subst hc
            go_simp
            try with_reducible rfl
          · rw [show A9 = some ⟨g, 1, none⟩ by rw [← HA9.out, if_neg hc]]
            go_simp
            try with_reducible rfl
        case' rest2r15 => try simp only [Act.put, List.setIfInBounds_toArray, List.set_cons_zero, List.set_cons_succ, List.getElem_toArray, List.getElem_cons_succ, List.getElem_cons_zero]
        refine' Late.take (i := 3) (oi := _) (v := _) rfl (by kernel_rfl) (by kernel_rfl) (by kernel_rfl) (by kernel_rfl) (fun _ _ _ h => h) (Or.inl ⟨by rfl, ?hy3r15⟩) hHeld ?rest3r15
        case hy3r15 => (intro w' hSw; (try dsimp only at hSw); go_simp; try with_reducible rfl)
        case' rest3r15 => try simp only [Act.put, List.setIfInBounds_toArray, List.set_cons_zero, List.set_cons_succ, List.getElem_toArray, List.getElem_cons_succ, List.getElem_cons_zero]
        refine' Late.take (i := 4) (oi := _) (v := _) rfl (by kernel_rfl) (by kernel_rfl) (by kernel_rfl) (by kernel_rfl) (fun _ _ _ h => h) (Or.inl ⟨by rfl, ?hy4r15⟩) hHeld ?rest4r15
        case hy4r15 => (intro w' hSw; (try dsimp only at hSw); go_simp; try with_reducible rfl)
        case' rest4r15 => try simp only [Act.put, List.setIfInBounds_toArray, List.set_cons_zero, List.set_cons_succ, List.getElem_toArray, List.getElem_cons_succ, List.getElem_cons_zero]
        refine' Late.take (i := 5) (oi := _) (v := _) rfl (by kernel_rfl) (by kernel_rfl) (by kernel_rfl) (by kernel_rfl) (fun _ _ _ h => h) (Or.inl ⟨by rfl, ?hy5r15⟩) hHeld ?rest5r15
        case hy5r15 => (intro w' hSw; (try dsimp only at hSw); go_simp; try with_reducible rfl)
        case' rest5r15 => try simp only [Act.put, List.setIfInBounds_toArray, List.set_cons_zero, List.set_cons_succ, List.getElem_toArray, List.getElem_cons_succ, List.getElem_cons_zero]
        refine' Late.take (i := 6) (oi := _) (v := _) rfl (by kernel_rfl) (by kernel_rfl) (by kernel_rfl) (by kernel_rfl) (fun _ _ _ h => h) (Or.inl ⟨by rfl, ?hy6r15⟩) hHeld ?rest6r15
        case hy6r15 => (intro w' hSw; (try dsimp only at hSw); go_simp; try with_reducible rfl)
        case' rest6r15 => try simp only [Act.put, List.setIfInBounds_toArray, List.set_cons_zero, List.set_cons_succ, List.getElem_toArray, List.getElem_cons_succ, List.getElem_cons_zero]
        refine' Late.take (i := 7) (oi := _) (v := _) rfl (by kernel_rfl) (by kernel_rfl) (by kernel_rfl) (by kernel_rfl) (fun _ _ _ h => h) (Or.inl ⟨by rfl, ?hy7r15⟩) hHeld ?rest7r15
        case hy7r15 => (intro w' hSw; (try dsimp only at hSw); go_simp; try with_reducible rfl)
        case' rest7r15 => try simp only [Act.put, List.setIfInBounds_toArray, List.set_cons_zero, List.set_cons_succ, List.getElem_toArray, List.getElem_cons_succ, List.getElem_cons_zero]
        refine Late.ready (rs := [8]) (by kernel_rfl) (by simp) ?_
        refine LateAll.cons (o := _) rfl (fun K hK => ?_) LateAll.nil
        go_simp
        refine (I2.out A9 (c1 - 1) _ (TT.out _ B4.drew) HR9.out).mono ?_
        rintro e w5 ⟨rfl, hb5⟩
        try go_wp2_with fail
        refine hK.out _ _ (⟨keepC hb5 a0, keepC hb5 a1, keepC hb5 a2⟩) (fun hHeld => ?_)
        clear hK K
        try simp only [Act.put, List.setIfInBounds_toArray, List.set_cons_zero, List.set_cons_succ, List.getElem_toArray, List.getElem_cons_succ, List.getElem_cons_zero]
        refine Late.ready (rs := [9]) (by kernel_rfl) (by simp) ?_
        refine LateAll.last (o := _) rfl (fun K hK => ?_)
        go_simp
        try go_wp2_with fail
        refine hK.out _ _ ?_
        clear hK K
        try simp only [Act.put, List.setIfInBounds_toArray, List.set_cons_zero, List.set_cons_succ, List.getElem_toArray, List.getElem_cons_succ, List.getElem_cons_zero]
        refine Late.done (by kernel_rfl) ?_ _
        refine NoPanic.normal ?_
        have B5 := B4.drew.trans (hb5.mono B4.size)
        have hq2 := HQ2.out
        have e1 : (((hl.length + 1 : Nat) : Int) == (hl.length : Int) + 1) = true := by simp
        have e2 : (Q.size : Int) < (O.size : Int) := by omega
        have e3 : decide ((Q.size : Int) < (O.size : Int)) = true := by simp; omega
        have a0 := hHeld.1
        clear hHeld
        go_wp2_with fail
        go_ret
        exact ⟨rfl, hb1.trans (B5.mono hb1.size)⟩
end Go.Proofs.YthdnhaaojicmbaaDoor
