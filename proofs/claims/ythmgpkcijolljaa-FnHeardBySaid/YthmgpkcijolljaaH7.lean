/-
  A worker walks, and says its word to the group.
-/
import Derived.Test.YthmgpkcijolljaaH6
namespace Go.Proofs.Ythmgpkcijolljaa
open Go.Conc
open Go.ConcN (upd upd_same upd_ne WgLive sumTo)
open Go.ConcR (KK WgAt stA smA rd wr DC0)
set_option linter.unusedSimpArgs false
set_option linter.unusedVariables false
section
variable {P : Program} {ty : TypeId} {Wg : Nat} {st : Bool} {Base : BsP} {Post : Value → World → Prop} {Shun : Loc → Prop} {p : Nat} {s : Sit}
theorem sumTo_cong {f g : Nat → Nat} : ∀ {n : Nat}, (∀ k, k < n → f k = g k) → sumTo n f = sumTo n g
 | 0, _ => rfl
 | n + 1, h => by
  have h1 := h n (Nat.lt_succ_self n)
  have h2 := sumTo_cong (f := f) (g := g) (n := n) fun k hk => h k (Nat.lt_succ_of_lt hk)
  simp only [sumTo, h1, h2]
/-- One term turns. -/
theorem sumTo_turn {f g : Nat → Nat} : ∀ {n k : Nat}, k < n → (∀ i, i < n → i ≠ k → f i = g i) → sumTo n f + g k = sumTo n g + f k
 | n + 1, k, hk, h => by
  by_cases e : k = n
  ·subst e
   have h2 := sumTo_cong (f := f) (g := g) (n := k) fun i hi => h i (Nat.lt_succ_of_lt hi) (by omega)
   simp only [sumTo, h2]; omega
  ·have h2 := sumTo_turn (f := f) (g := g) (n := n) (k := k) (by omega) fun i hi hne => h i (Nat.lt_succ_of_lt hi) hne
   have h3 := h n (Nat.lt_succ_self n) (fun e' => e e'.symm)
   simp only [sumTo, h3]; omega
/-- The machine takes goroutine i's step, and stands in s'. -/
def Moves (P : Program) (s : Sit) (i : Nat) (s' : Sit) : Prop := ∃ ops, (∀ sl, ∃ sl', runT P (crowd s.gs s.w sl) i = (.next (crowd s'.gs s'.w sl'), ops)) ∧ s'.t = s.t ++ ops
/-- The measure where worker k has stepped. -/
theorem falls_worker {k : Nat} (hk : k < s.γ.j) {x' : WS} {ms' : MS} {gs' : Array Goroutine} {w' : World} {t' : Trace} {V' : Nat → World} {cl' : Nat → Bool} (hl : ms'.left = s.ms.left)
  (h : x'.stage < (s.S k).stage ∨ (x'.stage = (s.S k).stage ∧ Lvl.lt x'.lvl (s.S k).lvl)) (hJ : 0 < s.γ.J) :
  Falls ({ s with gs := gs', w := w', t := t', V := V', S := upd s.S k x', ms := ms', cl := cl' } : Sit).mea s.mea := by
 have e : ∀ i, i < s.γ.j → i ≠ k → (fun k' => (upd s.S k x' k').stage) i = (fun k' => (s.S k').stage) i := fun i _ hne => by simp only [upd_ne _ _ hne]
 have hsum := sumTo_turn (f := fun k' => (upd s.S k x' k').stage) (g := fun k' => (s.S k').stage) hk e
 simp only [upd_same] at hsum
 refine .inr ⟨hl, ?_⟩
 rcases h with h | ⟨h1, h2⟩
 ·left
  show sumTo s.γ.j (fun k' => (upd s.S k x' k').stage) < sumTo s.γ.j (fun k' => (s.S k').stage)
  omega
 ·refine .inr ⟨?_, rfl, .inl ⟨s.γ.J + k, ?_, ?_, fun i hi hne => ?_⟩⟩
  ·show sumTo s.γ.j (fun k' => (upd s.S k x' k').stage) = sumTo s.γ.j (fun k' => (s.S k').stage)
   omega
  ·show s.γ.J + k < s.γ.J + s.γ.j
   omega
  ·show Lvl.lt (Sit.lvl _ (s.γ.J + k)) (Sit.lvl s (s.γ.J + k))
   simp only [Sit.lvl]
   rw [if_neg (by omega), if_neg (by omega), if_pos (by omega), if_neg (by omega), if_neg (by omega), if_pos (by omega), show s.γ.J + k - s.γ.J = k by omega, upd_same]
   exact h2
  ·show Sit.lvl _ i = Sit.lvl s i
   simp only [Sit.lvl]
   by_cases h0 : i = 0
   ·rw [if_pos h0, if_pos h0]
   ·rw [if_neg h0, if_neg h0]
    by_cases h1 : i < s.γ.J
    ·rw [if_pos h1, if_pos h1]
    ·rw [if_neg h1, if_neg h1]
     by_cases h3 : i < s.γ.J + s.γ.j
     ·rw [if_pos h3, if_pos h3, upd_ne _ _ (by omega)]
     ·rw [if_neg h3, if_neg h3]
def WS.errand : WS → Bool
 | .ld _ | .sto _ | .sem _ => true
 | _ => false
theorem noErrand_iff : s.noErrand ↔ ∀ k, k < s.γ.j → (s.S k).errand = false := by
 refine ⟨fun h k hk => ?_, fun h k hk => ?_⟩
 ·obtain ⟨h1, h2, h3⟩ := h k hk
  cases e : s.S k with
  | ld m => exact absurd e (h1 m)
  | sto m => exact absurd e (h2 m)
  | sem m => exact absurd e (h3 m)
  | _ => rfl
 ·have := h k hk
  refine ⟨fun m e => ?_, fun m e => ?_, fun m e => ?_⟩ <;> (rw [e] at this; cases this)
theorem onlyErrand_iff {k : Nat} : s.onlyErrand k ↔ ∀ k', k' < s.γ.j → k' ≠ k → (s.S k').errand = false := by
 refine ⟨fun h k' hk hne => ?_, fun h k' hk hne => ?_⟩
 ·obtain ⟨h1, h2, h3⟩ := h k' hk hne
  cases e : s.S k' with
  | ld m => exact absurd e (h1 m)
  | sto m => exact absurd e (h2 m)
  | sem m => exact absurd e (h3 m)
  | _ => rfl
 ·have := h k' hk hne
  refine ⟨fun m e => ?_, fun m e => ?_, fun m e => ?_⟩ <;> (rw [e] at this; cases this)
/-- A worker's step that leaves the books as they are. -/
theorem books_worker (h : Books ty Wg s) {k : Nat} (hk : k < s.γ.j) {x' : WS} {ms' : MS} (hms' : ms' = s.ms ∨ (s.ms = .wblk ∧ ms' = .wsem 0)) {gs' : Array Goroutine} {w' : World} {t' : Trace} {V' : Nat → World} {cl' : Nat → Bool}
  (hc : x'.counted = (s.S k).counted) (h1 : x'.errand = false) (h2 : (s.S k).errand = false) (hw : w'.heap[Wg]? = s.w.heap[Wg]?) :
  Books ty Wg { s with gs := gs', w := w', t := t', V := V', S := upd s.S k x', ms := ms', cl := cl' } ∧ ({ s with gs := gs', w := w', t := t', V := V', S := upd s.S k x', ms := ms', cl := cl' } : Sit).cnt = s.cnt := by
 obtain ⟨r1, r2, r3, r4, r5, r6, r7⟩ := regd_wake hms'
 have ec : ({ s with gs := gs', w := w', t := t', V := V', S := upd s.S k x', ms := ms', cl := cl' } : Sit).cnt = s.cnt := by
  unfold Sit.cnt
  simp only [r2]
  congr 1
  have ei : ∀ i, (upd s.S k x' i).counted = (s.S i).counted := by
   intro i
   by_cases hik : i = k
   ·subst hik; rw [upd_same, hc]
   ·rw [upd_ne _ _ hik]
  refine sumTo_cong fun i hi => ?_
  show (if (upd s.S k x' i).counted = true then 1 else 0) = _
  simp only [ei i]
 have er : ∀ i, (upd s.S k x' i).errand = (s.S i).errand := by
  intro i
  by_cases hik : i = k
  ·subst hik; rw [upd_same, h1, h2]
  ·rw [upd_ne _ _ hik]
 have wat : ∀ {a b : Int}, WgAt ty Wg s.w a b → WgAt ty Wg w' a b := fun x => hw.trans x
 have ne : s.noErrand → ({ s with gs := gs', w := w', t := t', V := V', S := upd s.S k x', ms := ms', cl := cl' } : Sit).noErrand := fun e => noErrand_iff.2 fun i hi => (er i).trans (noErrand_iff.1 e i hi)
 have oe : ∀ {i}, s.onlyErrand i → ({ s with gs := gs', w := w', t := t', V := V', S := upd s.S k x', ms := ms', cl := cl' } : Sit).onlyErrand i := fun e => onlyErrand_iff.2 fun i hi hne => (er i).trans (onlyErrand_iff.1 e i hi hne)
 refine ⟨?_, ec⟩
 cases h with
 | idle r e x => exact .idle (r1.trans r) (ne e) (by rw [ec]; exact wat x)
 | reg r e c x => exact .reg (r1.trans r) (ne e) (by rw [ec]; exact c) (by rw [ec]; exact wat x)
 | ld i r hi e o c x =>
  have hik : i ≠ k := by
   rintro rfl
   rcases e with ⟨m, e⟩ | ⟨m, e⟩ <;> (rw [e] at h2; cases h2)
  exact .ld i (r1.trans r) hi (by show (∃ m, upd s.S k x' i = _) ∨ ∃ m, upd s.S k x' i = _; rw [upd_ne _ _ hik]; exact e) (oe o) (by rw [ec]; exact c) (wat x)
 | sem i r hi e o c x =>
  have hik : i ≠ k := by
   rintro rfl
   obtain ⟨m, e⟩ := e
   rw [e] at h2; cases h2
  exact .sem i (r1.trans r) hi (by show ∃ m, upd s.S k x' i = _; rw [upd_ne _ _ hik]; exact e) (oe o) (by rw [ec]; exact c) (wat x)
 | post r b e c x =>
  refine .post (r1.trans r) ?_ (ne e) (by rw [ec]; exact c) (wat x)
  rcases hms' with rfl | ⟨h3, _⟩
  ·exact b
  ·exact absurd h3 b
theorem relOf_same {k : Nat} {x' : WS} (hr : x'.released ↔ (s.S k).released) {ms' : MS} {gs' : Array Goroutine} {w' : World} {t' : Trace} {V' : Nat → World} {cl' : Nat → Bool} :
  ({ s with gs := gs', w := w', t := t', V := V', S := upd s.S k x', ms := ms', cl := cl' } : Sit).relOf = s.relOf := by
 funext i
 apply propext
 show (∃ k', k' < s.γ.j ∧ i = s.γ.J + k' ∧ (upd s.S k x' k').released) ↔ ∃ k', k' < s.γ.j ∧ i = s.γ.J + k' ∧ (s.S k').released
 refine exists_congr fun k' => and_congr Iff.rfl (and_congr Iff.rfl ?_)
 by_cases e : k' = k
 ·subst e; rw [upd_same]; exact hr
 ·rw [upd_ne _ _ e]
/-- What is needed of the channels that goroutine 0 or a worker is parked at. -/
theorem MI.mopen (h : MI P ty Wg st Base Post Shun p s) {w' : World} (hch : ∀ k', k' < s.γ.j → w'.heap[s.γ.c k']? = s.w.heap[s.γ.c k']?) {g0 : Goroutine} (h0 : MSt P ty Wg st Base Post s.γ (Deaf s.t 0) g0 (s.V 0) s.ms) : ∀ n k, s.ms = .park n k → ∃ a b tm, w'.heap[s.γ.c k]? = some (.chan 0 #[] false a b tm) := by
 intro n k e
 obtain ⟨hc, _⟩ := h.meet n k e
 rw [e] at h0
 obtain ⟨a, b, tm, h1⟩ := h.chan k h0.2.1
 rw [hc] at h1
 exact ⟨a, b, tm, by rw [hch k h0.2.1]; exact h1⟩
/-- ████ A worker walks. ████ -/
theorem MI.walkW (h : MI P ty Wg st Base Post Shun p s) {k : Nat} (hk : k < s.γ.j) {g : Goroutine} (hg : s.gs[s.γ.J + k]? = some g) {l : List Say} {f : World → Rk} (e : s.S k = .talk l (.sup f)) :
  ∃ s', MI P ty Wg st Base Post Shun p s' ∧ Falls s'.mea s.mea ∧ Moves P s (s.γ.J + k) s' := by
 have hl := h.books.live
 have hJ := h.cr.gJ
 obtain ⟨g₁, h1, h2⟩ := h.wrk k hk
 rw [hg] at h1
 obtain rfl := Option.some.inj h1
 rw [e] at h2
 obtain ⟨hd0, hrun, hstep⟩ := h2
 have hact : Act' s.γ.J s.γ.j (s.γ.J + k) := .inr ⟨by omega, by omega⟩
 obtain ⟨g', v', w', es, hgo, hf, hev, hst, hnext⟩ := hstep s.w (h.cr.veil _ hact) (fun x => by cases x) trivial
 have hVi := h.cr.veil _ hact
 have hup : ((s.V (s.γ.J + k)).upto s.w.heap.size).heap.size = s.w.heap.size := by rw [upto_size]; have := hVi.size; omega
 have hch0 : ∀ b, b < s.w.heap.size → Blind (s.V (s.γ.J + k)) b → w'.heap[b]? = s.w.heap[b]? := fun b hb hB => (hf.shut b (.inl (show ((s.V (s.γ.J + k)).upto s.w.heap.size).heap[b]? = some hid from hB.hidUp hb))).2
 have hch : ∀ k', k' < s.γ.j → w'.heap[s.γ.c k']? = s.w.heap[s.γ.c k']? := fun k' hk' => hch0 _ (h.cr.hidc k' hk').1 ((h.cr.hidc k' hk').2 _ hact)
 have hwg : w'.heap[Wg]? = s.w.heap[Wg]? := hch0 _ h.cr.wlow (h.cr.hidw _ hact)
 have hH : w'.heap[Base.X.H]? = s.w.heap[Base.X.H]? := hch0 _ h.cr.pay.blk.lt (h.cr.pay.hid _ hact)
 obtain ⟨g0, hg0, hm0⟩ := h.zero
 obtain ⟨ms', hms, hms'⟩ := woken_mst (g := g) (g' := g') (w' := w') hl hm0 (h.mopen hch hm0)
 obtain ⟨r1, r2, r3, r4, r5, r6, r7⟩ := regd_wake hms'
 have hmi := h.worker hk hg (g' := g') (es := es) (w' := w') (v' := v') (x' := .talk l (f s.w)) (fn := g.frame.fn) (pos := g.frame.place) (ms' := ms') (fun g1 hg1 => by rw [hg0] at hg1; obtain rfl := Option.some.inj hg1; exact hms) hms' ?_ ?_ hch (fun k' hk' _ => pcell_blk hH k') ⟨fun _ => by rw [e]; rfl, fun _ => ⟨0, by rw [e]; rfl⟩⟩ (fun y l' x => by cases x) (fun n _ => ⟨l, f s.w, rfl⟩)
 ·refine ⟨_, hmi, falls_worker hk r4 (.inr ⟨by rw [e]; rfl, by rw [e]; exact .right _ ⟨f, s.w, rfl, rfl⟩⟩) hJ, _, fun sl => ⟨sl, runT_crowd_go hg ?_⟩, rfl⟩
  have : (s.γ.J + k == 0) = false := by simp; omega
  rw [this]; exact hgo
 ·rintro s' rfl
  obtain ⟨hb, hc⟩ := books_worker (x' := .talk l (f s.w)) h.books hk hms' (by rw [e]; rfl) rfl (by rw [e]; rfl) hwg (gs' := (s.gs.map (woken P g g' w')).setIfInBounds (s.γ.J + k) g') (t' := s.t ++ MemOp.ofEvents (s.γ.J + k) g.frame.fn g.frame.place es) (V' := upd s.V (s.γ.J + k) v') (cl' := s.cl)
  refine ⟨?_, hb, Nat.le_of_eq hc, fun m hm => ?_⟩
  ·have := h.cr.walk hact hg (g' := g') hf hev (fun hst' _ => hst hst') h.cwg (fun _ ⟨k', hk', e1, hr⟩ => by
    have : k' = k := by omega
    subst this
    rw [e] at hr
    exact hr) (fn := g.frame.fn) (pos := g.frame.place)
   rw [relOf_same (by rw [e]; rfl)]
   exact this
  ·exfalso
   have hc0 := h.late ⟨m, .inr (.inr (.inr hm))⟩
   have : 1 ≤ sumTo s.γ.j (fun k' => if (s.S k').counted then 1 else 0) := by
    have := Go.ConcN.le_sumTo (f := fun k' => if (s.S k').counted then 1 else 0) hk
    rw [e] at this
    exact this
   unfold Sit.cnt at hc0
   omega
 ·rw [deafBehind_still (fun x hx => ⟨(evOk_mark (hev x hx)).1, (evOk_mark (hev x hx)).2.1⟩)]
  rw [pcell_blk hH k]
  exact ⟨hd0, hnext⟩
end
end Go.Proofs.Ythmgpkcijolljaa
/-
  A worker's steps on the group.
-/
namespace Go.Proofs.Ythmgpkcijolljaa
open Go.Conc
open Go.ConcN (upd upd_same upd_ne WgLive sumTo)
open Go.ConcR (KK WgAt stA smA rd wr DC0)
set_option linter.unusedSimpArgs false
set_option linter.unusedVariables false
section
variable {P : Program} {ty : TypeId} {Wg : Nat} {st : Bool} {Base : BsP} {Post : Value → World → Prop} {Shun : Loc → Prop} {p : Nat} {s : Sit}
/-- A worker's step in the library: its seen world stands. -/
theorem MI.libW (h : MI P ty Wg st Base Post Shun p s) {k : Nat} (hk : k < s.γ.j) {g g' : Goroutine} (hg : s.gs[s.γ.J + k]? = some g) {es : Array Event} {w' : World} {x' : WS}
  (hgo : stepG P false g s.w = .go g' w' es)
  (cr : Cr P Wg st Base Shun p s.γ.J s.γ.j s.γ.c (fun i => ∃ k', k' < s.γ.j ∧ i = s.γ.J + k' ∧ (upd s.S k x' k').released) ((s.gs.map (woken P g g' w')).setIfInBounds (s.γ.J + k) g') w' (s.t ++ MemOp.ofEvents (s.γ.J + k) g.frame.fn g.frame.place es) s.q s.V)
  (ho : ∀ b, b ≠ Wg → w'.heap[b]? = s.w.heap[b]?)
  (bk : ∀ s' : Sit, s'.γ = s.γ → s'.w = w' → s'.S = upd s.S k x' → (s'.ms = s.ms ∨ (s.ms = .wblk ∧ s'.ms = .wsem 0)) → (s'.ms = .wblk → mayWake P g = true → g'.status = .running → False) → Books ty Wg s' ∧ s'.cnt ≤ s.cnt)
  (fin : ∀ m, s.ms = .wfin m → Past (fun l => Shun l ∨ OfB Wg l) w'.heap.size (s.t ++ MemOp.ofEvents (s.γ.J + k) g.frame.fn g.frame.place es))
  (own : WSt P ty Wg st (axOf Base.X s.γ k) (s.γ.c k) (s.γ.dn k (pcell Base.X s.w k)) (deafBehind (Deaf s.t (s.γ.J + k)) es) g' (s.V (s.γ.J + k)) x')
  (says : x'.says = []) (says' : (s.S k).says = []) (npk : ∀ y l, x' ≠ .park y l) (ntk : ∀ l r, s.S k ≠ .talk l r)
  (low : x'.stage < (s.S k).stage ∨ (x'.stage = (s.S k).stage ∧ Lvl.lt x'.lvl (s.S k).lvl)) :
  ∃ s', MI P ty Wg st Base Post Shun p s' ∧ Falls s'.mea s.mea ∧ Moves P s (s.γ.J + k) s' := by
 have hl := h.books.live
 have hJ := h.cr.gJ
 have hch : ∀ k', k' < s.γ.j → w'.heap[s.γ.c k']? = s.w.heap[s.γ.c k']? := fun k' hk' => ho _ (h.cwg k' hk')
 obtain ⟨g0, hg0, hm0⟩ := h.zero
 obtain ⟨ms', hms, hms', hwk⟩ : ∃ ms', MSt P ty Wg st Base Post s.γ (Deaf s.t 0) (woken P g g' w' g0) (s.V 0) ms' ∧ (ms' = s.ms ∨ (s.ms = .wblk ∧ ms' = .wsem 0)) ∧ (ms' = .wblk → mayWake P g = true → g'.status = .running → False) := by
  obtain ⟨ms', a, b⟩ := woken_mst (g := g) (g' := g') (w' := w') hl hm0 (h.mopen hch hm0)
  by_cases hb : ms' = .wblk ∧ mayWake P g = true ∧ g'.status = .running
  ·obtain ⟨rfl, h1, h2⟩ := hb
   have hb' : s.ms = .wblk := by rcases b with b | ⟨_, b⟩; exact b.symm; cases b
   rw [hb'] at hm0
   obtain ⟨hd, g₀, hS, rfl⟩ := hm0
   have hg := hS s.w hl
   have ew : woken P g g' w' { g₀ with status := .blocked } = g₀ := by
    have : (mayWake P g && g'.status != .blocked && g'.status != .waiting) = true := by rw [h1, h2]; rfl
    simp only [woken, this, if_true]
    rcases again_free hg.2.1 w' with e | e
    ·rw [e, ← hg.1]
    ·exfalso
     simp [Goroutine.again, hg.2.1] at e
   exact ⟨.wsem 0, ⟨hd, fun w₁ w₂ hw₂ => by rw [ew]; exact hS w₂ hw₂⟩, .inr ⟨hb', rfl⟩, fun e => by cases e⟩
  ·exact ⟨ms', a, b, fun x y z => hb ⟨x, y, z⟩⟩
 obtain ⟨r1, r2, r3, r4, r5, r6, r7⟩ := regd_wake hms'
 have hmi := h.worker hk hg (g' := g') (es := es) (w' := w') (v' := s.V (s.γ.J + k)) (x' := x') (fn := g.frame.fn) (pos := g.frame.place) (ms' := ms') (fun g1 hg1 => by rw [hg0] at hg1; obtain rfl := Option.some.inj hg1; exact hms) hms' ?_ (by rw [pcell_blk (ho _ h.cr.pay.hwg)]; exact own) hch (fun k' _ _ => pcell_blk (ho _ h.cr.pay.hwg) k') ⟨fun _ => says.trans says'.symm, fun _ => ⟨0, says.trans says'.symm⟩⟩ (fun y l' e => absurd e (npk y l')) (fun n hn => by
   obtain ⟨_, l, r, e⟩ := h.meet n k hn
   exact absurd e (ntk l r))
 ·refine ⟨_, hmi, falls_worker hk r4 low hJ, _, fun sl => ⟨sl, runT_crowd_go hg ?_⟩, rfl⟩
  have : (s.γ.J + k == 0) = false := by simp; omega
  rw [this]; exact hgo
 ·rintro s' rfl
  obtain ⟨hb, hc⟩ := bk { s with gs := (s.gs.map (woken P g g' w')).setIfInBounds (s.γ.J + k) g', w := w', t := s.t ++ MemOp.ofEvents (s.γ.J + k) g.frame.fn g.frame.place es, V := upd s.V (s.γ.J + k) (s.V (s.γ.J + k)), S := upd s.S k x', ms := ms' } rfl rfl rfl hms' hwk
  refine ⟨?_, hb, hc, fin⟩
  show Cr P Wg st Base Shun p s.γ.J s.γ.j s.γ.c _ _ w' _ s.q (upd s.V (s.γ.J + k) (s.V (s.γ.J + k)))
  rw [upd_self]; exact cr
end
end Go.Proofs.Ythmgpkcijolljaa
/-
  A worker's word to the group, stage by stage.
-/
namespace Go.Proofs.Ythmgpkcijolljaa
open Go.Conc
open Go.ConcN (upd upd_same upd_ne WgLive sumTo)
open Go.ConcR (KK WgAt stA smA rd wr DC0)
set_option linter.unusedSimpArgs false
set_option linter.unusedVariables false
section
variable {P : Program} {ty : TypeId} {Wg : Nat} {st : Bool} {Base : BsP} {Post : Value → World → Prop} {Shun : Loc → Prop} {p : Nat} {s : Sit}
theorem counted_pos {k : Nat} (hk : k < s.γ.j) (h : (s.S k).counted = true) : 0 < s.cnt := by
 have := Go.ConcN.le_sumTo (f := fun k' => if (s.S k').counted then 1 else 0) hk
 simp only [h, if_true] at this
 unfold Sit.cnt
 omega
theorem MI.no_fin (h : MI P ty Wg st Base Post Shun p s) {k : Nat} (hk : k < s.γ.j) (hc : (s.S k).counted = true) (m : Nat) : s.ms ≠ .wfin m := by
 intro e
 have h1 := h.late ⟨m, .inr (.inr (.inr e))⟩
 have := counted_pos hk hc
 omega
/-- An idle step of a worker that is counted. -/
theorem MI.idleW (h : MI P ty Wg st Base Post Shun p s) {k : Nat} (hk : k < s.γ.j) {g g' : Goroutine} (hg : s.gs[s.γ.J + k]? = some g) {x' : WS} (hgo : stepG P false g s.w = .go g' s.w #[])
  (hc : x'.counted = (s.S k).counted) (hr : x'.released ↔ (s.S k).released) (he : x'.errand = false) (he' : (s.S k).errand = false) (hcc : (s.S k).counted = true)
  (own : WSt P ty Wg st (axOf Base.X s.γ k) (s.γ.c k) (s.γ.dn k (pcell Base.X s.w k)) (Deaf s.t (s.γ.J + k)) g' (s.V (s.γ.J + k)) x')
  (says : x'.says = []) (says' : (s.S k).says = []) (npk : ∀ y l, x' ≠ .park y l) (ntk : ∀ l r, s.S k ≠ .talk l r)
  (low : x'.stage = (s.S k).stage ∧ Lvl.lt x'.lvl (s.S k).lvl) :
  ∃ s', MI P ty Wg st Base Post Shun p s' ∧ Falls s'.mea s.mea ∧ Moves P s (s.γ.J + k) s' := by
 have hJ := h.cr.gJ
 refine h.libW hk hg hgo ?_ (fun _ _ => rfl) (fun s' e1 e2 e3 e4 _ => ?_) (fun m e => absurd e (h.no_fin hk hcc m)) (by rw [deafBehind_nil]; exact own) says says' npk ntk (.inr low)
 ·have := h.cr.idle (g' := g') (.inr ⟨by omega, by omega⟩) hg (fn := g.frame.fn) (pos := g.frame.place)
  have hrel := relOf_same (s := s) (k := k) hr (ms' := s.ms) (gs' := s.gs) (w' := s.w) (t' := s.t) (V' := s.V) (cl' := s.cl)
  have hrel' : (fun i => ∃ k', k' < s.γ.j ∧ i = s.γ.J + k' ∧ (upd s.S k x' k').released) = s.relOf := hrel
  rw [hrel']; exact this
 ·obtain ⟨γ, gs, w, t, q, V, S, ms, cl⟩ := s'
  have e1' : γ = s.γ := e1
  have e2' : w = s.w := e2
  have e3' : S = upd s.S k x' := e3
  subst e1' e2' e3'
  obtain ⟨a, b⟩ := books_worker (x' := x') (ms' := ms) h.books hk e4 hc he he' (w' := s.w) rfl (gs' := gs) (t' := t) (V' := V) (cl' := cl)
  obtain ⟨_⟩ := s
  have a' : Books ty Wg _ := a
  refine ⟨?_, ?_⟩
  ·cases a' with
   | idle r e x => exact .idle r e x
   | reg r e c x => exact .reg r e c x
   | ld i r hi e o c x => exact .ld i r hi e o c x
   | sem i r hi e o c x => exact .sem i r hi e o c x
   | post r b e c x => exact .post r b e c x
  ·exact Nat.le_of_eq b
theorem Books.move {s s' : Sit} (h : Books ty Wg s) (e1 : s'.γ = s.γ) (e2 : s'.w = s.w) (e3 : s'.S = s.S) (e4 : s'.ms = s.ms) : Books ty Wg s' := by
 obtain ⟨γ, gs, w, t, q, V, S, ms, cl⟩ := s'
 obtain ⟨γ₁, gs₁, w₁, t₁, q₁, V₁, S₁, ms₁, cl₁⟩ := s
 have e1' : γ = γ₁ := e1
 have e2' : w = w₁ := e2
 have e3' : S = S₁ := e3
 have e4' : ms = ms₁ := e4
 subst e1' e2' e3' e4'
 cases h with
 | idle r e x => exact .idle r e x
 | reg r e c x => exact .reg r e c x
 | ld i r hi e o c x => exact .ld i r hi e o c x
 | sem i r hi e o c x => exact .sem i r hi e o c x
 | post r b e c x => exact .post r b e c x
/-- The books where a worker's step leaves them as they are. -/
theorem MI.booksW (h : MI P ty Wg st Base Post Shun p s) {k : Nat} (hk : k < s.γ.j) {x' : WS} (hc : x'.counted = (s.S k).counted) (he : x'.errand = false) (he' : (s.S k).errand = false) {w' : World} (hw : w'.heap[Wg]? = s.w.heap[Wg]?)
  (s' : Sit) (e1 : s'.γ = s.γ) (e2 : s'.w = w') (e3 : s'.S = upd s.S k x') (e4 : s'.ms = s.ms ∨ (s.ms = .wblk ∧ s'.ms = .wsem 0)) : Books ty Wg s' ∧ s'.cnt ≤ s.cnt := by
 obtain ⟨a, b⟩ := books_worker (x' := x') (ms' := s'.ms) h.books hk e4 hc he he' hw (gs' := s.gs) (t' := s.t) (V' := s.V) (cl' := s.cl)
 refine ⟨a.move e1 e2 e3 rfl, Nat.le_of_eq (Eq.trans ?_ b)⟩
 unfold Sit.cnt
 rw [e1, e3]
/-- A worker on its way to its release, or saying it. -/
theorem MI.relW (h : MI P ty Wg st Base Post Shun p s) {k : Nat} (hk : k < s.γ.j) {g : Goroutine} (hg : s.gs[s.γ.J + k]? = some g) {m : Nat} (e : s.S k = .rel m) :
  ∃ s', MI P ty Wg st Base Post Shun p s' ∧ Falls s'.mea s.mea ∧ Moves P s (s.γ.J + k) s' := by
 have hl := h.books.live
 have hJ := h.cr.gJ
 obtain ⟨g₁, h1, h2⟩ := h.wrk k hk
 rw [hg] at h1
 obtain rfl := Option.some.inj h1
 rw [e] at h2
 obtain ⟨hd, hdn, hm⟩ := h2
 rcases hm.step hl with ⟨hr, g', hgo, m', hm'⟩ | ⟨m', g', rfl, hr, hgo, hm'⟩
 ·refine h.libW hk hg hgo (x' := .dis m') ?_ (fun _ _ => rfl) (fun s' e1 e2 e3 e4 _ => h.booksW hk (by rw [e]; rfl) rfl (by rw [e]; rfl) rfl s' e1 e2 e3 e4) (fun m e' => absurd e' (h.no_fin hk (by rw [e]; rfl) m))
   ⟨by rw [hd]; rfl, hdn, hm'⟩ rfl (by rw [e]; rfl) (fun y l x => by cases x) (fun l r x => by rw [e] at x; cases x) (.inl (by rw [e]; exact Nat.lt_succ_self 8))
  have := h.cr.release (g' := g') (i := s.γ.J + k) (by omega) (by omega) (by
   rintro ⟨k', hk', e1, hr'⟩
   have : k' = k := by omega
   subst this
   rw [e] at hr'
   exact hr') hd hg (fn := g.frame.fn) (pos := g.frame.place)
  have hrel : (fun i => ∃ k', k' < s.γ.j ∧ i = s.γ.J + k' ∧ (upd s.S k (.dis m') k').released) = fun i => s.relOf i ∨ i = s.γ.J + k := by
   funext i
   apply propext
   constructor
   ·rintro ⟨k', hk', e1, hr'⟩
    by_cases hkk : k' = k
    ·subst hkk; exact .inr e1
    ·rw [upd_ne _ _ hkk] at hr'; exact .inl ⟨k', hk', e1, hr'⟩
   ·rintro (⟨k', hk', e1, hr'⟩ | e1)
    ·refine ⟨k', hk', e1, ?_⟩
     by_cases hkk : k' = k
     ·subst hkk; rw [upd_same]; trivial
     ·rw [upd_ne _ _ hkk]; exact hr'
    ·exact ⟨k, hk, e1, by rw [upd_same]; trivial⟩
  rw [hrel]; exact this
 ·exact h.idleW hk hg (x' := .rel m') hgo (by rw [e]; rfl) (by rw [e]; rfl) rfl (by rw [e]; rfl) (by rw [e]; rfl) ⟨hd, hdn, hm'⟩ rfl (by rw [e]; rfl) (fun y l x => by cases x) (fun l r x => by rw [e] at x; cases x) ⟨by rw [e]; rfl, by rw [e]; exact .left _ _ (Nat.lt_succ_self m')⟩
/-- .. to its 'disable', or saying it. -/
theorem MI.disW (h : MI P ty Wg st Base Post Shun p s) {k : Nat} (hk : k < s.γ.j) {g : Goroutine} (hg : s.gs[s.γ.J + k]? = some g) {m : Nat} (e : s.S k = .dis m) :
  ∃ s', MI P ty Wg st Base Post Shun p s' ∧ Falls s'.mea s.mea ∧ Moves P s (s.γ.J + k) s' := by
 have hl := h.books.live
 have hJ := h.cr.gJ
 obtain ⟨g₁, h1, h2⟩ := h.wrk k hk
 rw [hg] at h1
 obtain rfl := Option.some.inj h1
 rw [e] at h2
 obtain ⟨hd, hdn, hm⟩ := h2
 rcases hm.step hl with ⟨hr, g', hgo, m', hm'⟩ | ⟨m', g', rfl, hr, hgo, hm'⟩
 ·refine h.libW hk hg hgo (x' := .sub m') ?_ (fun _ _ => rfl) (fun s' e1 e2 e3 e4 _ => h.booksW hk (by rw [e]; rfl) rfl (by rw [e]; rfl) rfl s' e1 e2 e3 e4) (fun m e' => absurd e' (h.no_fin hk (by rw [e]; rfl) m))
   ⟨by rw [hd]; rfl, hdn, hm'⟩ rfl (by rw [e]; rfl) (fun y l x => by cases x) (fun l r x => by rw [e] at x; cases x) (.inl (by rw [e]; exact Nat.lt_succ_self 7))
  have := h.cr.grpW (g' := g') (i := s.γ.J + k) (by omega) (by omega) hg (es := #[Go.ConcR.mk .disable]) (fn := g.frame.fn) (pos := g.frame.place) (w' := s.w) (fun x hx => by simp at hx; subst hx; exact .inr (.inl rfl)) (.inl fun x hx => by simp at hx; exact .inl hx) rfl (fun _ _ => rfl)
  have hrel := relOf_same (s := s) (k := k) (x' := .sub m') (by rw [e]; rfl) (ms' := s.ms) (gs' := s.gs) (w' := s.w) (t' := s.t) (V' := s.V) (cl' := s.cl)
  have hrel' : (fun i => ∃ k', k' < s.γ.j ∧ i = s.γ.J + k' ∧ (upd s.S k (.sub m') k').released) = s.relOf := hrel
  rw [hrel']; exact this
 ·exact h.idleW hk hg (x' := .dis m') hgo (by rw [e]; rfl) (by rw [e]; rfl) rfl (by rw [e]; rfl) (by rw [e]; rfl) ⟨hd, hdn, hm'⟩ rfl (by rw [e]; rfl) (fun y l x => by cases x) (fun l r x => by rw [e] at x; cases x) ⟨by rw [e]; rfl, by rw [e]; exact .left _ _ (Nat.lt_succ_self m')⟩
end
end Go.Proofs.Ythmgpkcijolljaa
/-
  A worker takes itself off the count.
-/
namespace Go.Proofs.Ythmgpkcijolljaa
open Go.Conc
open Go.ConcN (upd upd_same upd_ne WgLive sumTo)
open Go.ConcR (KK WgAt stA smA rd wr DC0)
set_option linter.unusedSimpArgs false
set_option linter.unusedVariables false
section
variable {P : Program} {ty : TypeId} {Wg : Nat} {st : Bool} {Base : BsP} {Post : Value → World → Prop} {Shun : Loc → Prop} {p : Nat} {s : Sit}
/-- Worker k is counted no more. -/
theorem cnt_drop {k : Nat} (hk : k < s.γ.j) (hc : (s.S k).counted = true) {x' : WS} (hx : x'.counted = false) {s' : Sit} (e1 : s'.γ = s.γ) (e3 : s'.S = upd s.S k x') (e4 : s'.ms = s.ms ∨ (s.ms = .wblk ∧ s'.ms = .wsem 0)) : s'.cnt + 1 = s.cnt := by
 obtain ⟨_, r2, _⟩ := regd_wake e4
 have h := sumTo_turn (f := fun k' => if (upd s.S k x' k').counted then 1 else 0) (g := fun k' => if (s.S k').counted then 1 else 0) hk (fun i _ hne => by simp only [upd_ne _ _ hne])
 simp only [upd_same, hx, hc, if_true] at h
 unfold Sit.cnt
 rw [e1, e3, r2]
 simp only [Bool.false_eq_true, if_false] at h
 omega
theorem errand_upd {k : Nat} {x' : WS} (hx : x'.errand = false) {i : Nat} (h : i ≠ k → (s.S i).errand = false) : (upd s.S k x' i).errand = false := by
 by_cases e : i = k
 ·subst e; rw [upd_same]; exact hx
 ·rw [upd_ne _ _ e]; exact h e
theorem MI.subW (h : MI P ty Wg st Base Post Shun p s) {k : Nat} (hk : k < s.γ.j) {g : Goroutine} (hg : s.gs[s.γ.J + k]? = some g) {m : Nat} (e : s.S k = .sub m) :
  ∃ s', MI P ty Wg st Base Post Shun p s' ∧ Falls s'.mea s.mea ∧ Moves P s (s.γ.J + k) s' := by
 have hl := h.books.live
 have hJ := h.cr.gJ
 obtain ⟨g₁, h1, h2⟩ := h.wrk k hk
 rw [hg] at h1
 obtain rfl := Option.some.inj h1
 rw [e] at h2
 obtain ⟨hd, hdn, hm⟩ := h2
 have hcc : (s.S k).counted = true := by rw [e]; rfl
 have hpos := counted_pos hk hcc
 rcases hm.step hl with ⟨hr, hS⟩ | ⟨m', g', rfl, hr, hgo, hm'⟩
 ·have hsmall : s.cnt ≤ s.γ.j + s.γ.owed + 1 := by
   have : sumTo s.γ.j (fun k' => if (s.S k').counted then 1 else 0) ≤ s.γ.j := by
    have key : ∀ n, sumTo n (fun k' => if (s.S k').counted then 1 else 0) ≤ n := by
     intro n
     induction n with
     | zero => exact Nat.le_refl _
     | succ n ih => simp only [sumTo]; split <;> omega
    exact key _
   unfold Sit.cnt
   split <;> omega
  have hsm := h.small
  -- the shape of the books
  obtain ⟨wt, hwt, hW, hreg, hne⟩ : ∃ wt : Nat, wt ≤ 1 ∧ WgAt ty Wg s.w (s.cnt * KK + wt) 0 ∧ s.ms.regd = decide (wt = 1) ∧ s.noErrand := by
   cases h.books with
   | idle r e x => exact ⟨0, by omega, by simpa using x, by rw [r]; rfl, e⟩
   | reg r e c x => exact ⟨1, by omega, by simpa using x, by rw [r]; rfl, e⟩
   | ld i r hi e o c x => omega
   | sem i r hi e o c x => omega
   | post r b e c x => omega
  have hne' := noErrand_iff.1 hne
  obtain ⟨v, hv⟩ : ∃ v, s.cnt = v + 1 := ⟨s.cnt - 1, by omega⟩
  have hW' : WgAt ty Wg s.w (((v : Nat) + 1) * KK + wt) 0 := by rw [hv] at hW; simpa using hW
  obtain ⟨g', hgo, hA, hB⟩ := hS v wt hwt (by omega) hW'
  have hset : WgAt ty Wg (s.w.setCell (stA Wg) (.int .u64 (v * KK + wt))) (v * KK + wt) 0 := hW'.setSt _
  have fin : ∀ (x' : WS) (own : WSt P ty Wg st (axOf Base.X s.γ k) (s.γ.c k) (s.γ.dn k (pcell Base.X s.w k)) 1 g' (s.V (s.γ.J + k)) x') (hx : x'.counted = false) (says : x'.says = []) (npk : ∀ y l, x' ≠ .park y l) (hrel : x'.released) (low : x'.stage < 7)
    (bk : ∀ s' : Sit, s'.γ = s.γ → s'.w = s.w.setCell (stA Wg) (.int .u64 (v * KK + wt)) → s'.S = upd s.S k x' → s'.cnt = v → s'.ms.regd = s.ms.regd → (s'.ms = .wblk → s.ms = .wblk) → Books ty Wg s'),
    ∃ s', MI P ty Wg st Base Post Shun p s' ∧ Falls s'.mea s.mea ∧ Moves P s (s.γ.J + k) s' := by
   intro x' own hx says npk hrel low bk
   refine h.libW hk hg hgo (x' := x') ?_ (fun b hb => Go.RowKit.Below.heap_setCell _ _ _ _ hb) (fun s' e1 e2 e3 e4 _ => ?_) (fun m e' => absurd e' (h.no_fin hk hcc m)) ?_ says (by rw [e]; rfl) npk (fun l r x => by rw [e] at x; cases x) (.inl (by rw [e]; exact low))
   ·have := h.cr.grpW (g' := g') (i := s.γ.J + k) (by omega) (by omega) hg (es := #[rd (stA Wg), wr (stA Wg)]) (fn := g.frame.fn) (pos := g.frame.place) (w' := s.w.setCell (stA Wg) (.int .u64 (v * KK + wt))) (fun x hx => by
     simp only [List.mem_toArray, List.mem_cons, List.not_mem_nil, or_false] at hx
     rcases hx with rfl | rfl
     ·exact .inl ⟨_, rfl, .inl rfl⟩
     ·exact .inl ⟨_, rfl, .inr rfl⟩) (.inr fun n hn => by
      rw [hd, deafBehind_still (fun x hx => ?_)]
      ·decide
      ·have hx' : x ∈ #[rd (stA Wg), wr (stA Wg)] := by
        have := Array.mem_extract_iff_getElem.1 hx
        obtain ⟨q, _, hq⟩ := this
        rw [← hq]; exact Array.getElem_mem _
       simp only [List.mem_toArray, List.mem_cons, List.not_mem_nil, or_false] at hx'
       rcases hx' with rfl | rfl <;> exact ⟨by simp [rd, wr], by simp [rd, wr]⟩) setCell_size (fun b hb => Go.RowKit.Below.heap_setCell _ _ _ _ hb)
    have hr' := relOf_same (s := s) (k := k) (x' := x') (by rw [e]; exact ⟨fun _ => trivial, fun _ => hrel⟩) (ms' := s.ms) (gs' := s.gs) (w' := s.w) (t' := s.t) (V' := s.V) (cl' := s.cl)
    have hrel' : (fun i => ∃ k', k' < s.γ.j ∧ i = s.γ.J + k' ∧ (upd s.S k x' k').released) = s.relOf := hr'
    rw [hrel']; exact this
   ·have hc := cnt_drop hk hcc hx e1 e3 e4
    obtain ⟨r1, _, _, _, _, _, _⟩ := regd_wake e4
    exact ⟨bk s' e1 e2 e3 (by omega) r1 (fun hb => by rcases e4 with e4 | ⟨_, e4⟩; rw [← e4]; exact hb; rw [e4] at hb; cases hb), by omega⟩
   ·rw [hd, deafBehind_still (fun x hx => ?_)]
    ·exact own
    ·simp only [List.mem_toArray, List.mem_cons, List.not_mem_nil, or_false] at hx
     rcases hx with rfl | rfl <;> exact ⟨by simp [rd, wr], by simp [rd, wr]⟩
  by_cases hlast : v = 0 ∧ wt = 1
  ·obtain ⟨m', hm'⟩ := hA hlast
   obtain ⟨rfl, rfl⟩ := hlast
   refine fin (.ld m') ⟨rfl, hdn, hm'⟩ rfl rfl (fun y l x => by cases x) trivial (by simp [WS.stage]) fun s' e1 e2 e3 e4 e5 e6 => ?_
   refine .ld k (by rw [e5, hreg]; rfl) (by rw [e1]; exact hk) (.inl ⟨m', by rw [e3, upd_same]⟩) (onlyErrand_iff.2 fun k' hk' hne => by rw [e3, upd_ne _ _ hne]; exact hne' k' (by rw [← e1]; exact hk')) e4 ?_
   rw [e2]; simpa using hset
  ·obtain ⟨q, hq⟩ := hB hlast
   refine fin (.gone q) ⟨hdn, hq⟩ rfl rfl (fun y l x => by cases x) trivial (by simp [WS.stage]) fun s' e1 e2 e3 e4 e5 e6 => ?_
   have hno : s'.noErrand := noErrand_iff.2 fun i hi => by rw [e3]; exact errand_upd rfl fun _ => hne' i (by rw [← e1]; exact hi)
   rcases (show wt = 0 ∨ wt = 1 by omega) with rfl | rfl
   ·refine .idle (by rw [e5, hreg]; rfl) hno ?_
    rw [e2, e4]; simpa using hset
   ·refine .reg (by rw [e5, hreg]; rfl) hno (by omega) ?_
    rw [e2, e4]; simpa using hset
 ·exact h.idleW hk hg (x' := .sub m') hgo (by rw [e]; rfl) (by rw [e]; rfl) rfl (by rw [e]; rfl) (by rw [e]; rfl) ⟨hd, hdn, hm'⟩ rfl (by rw [e]; rfl) (fun y l x => by cases x) (fun l r x => by rw [e] at x; cases x) ⟨by rw [e]; rfl, by rw [e]; exact .left _ _ (Nat.lt_succ_self m')⟩
end
end Go.Proofs.Ythmgpkcijolljaa
/-
  The last worker's errand; the leaving.
-/
namespace Go.Proofs.Ythmgpkcijolljaa
open Go.Conc
open Go.ConcN (upd upd_same upd_ne WgLive sumTo)
open Go.ConcR (KK WgAt stA smA rd wr DC0)
set_option linter.unusedSimpArgs false
set_option linter.unusedVariables false
section
variable {P : Program} {ty : TypeId} {Wg : Nat} {st : Bool} {Base : BsP} {Post : Value → World → Prop} {Shun : Loc → Prop} {p : Nat} {s : Sit}
theorem no_fin_regd (h : s.ms.regd = true) (m : Nat) : s.ms ≠ .wfin m := by
 intro e; rw [e] at h; cases h
/-- Where worker k is at the errand the books say so. -/
theorem books_errand (h : Books ty Wg s) {k : Nat} (hk : k < s.γ.j) (he : (s.S k).errand = true) : s.ms.regd = true ∧ s.onlyErrand k ∧ s.cnt = 0 ∧
  ((((∃ m, s.S k = .ld m) ∨ ∃ m, s.S k = .sto m) ∧ WgAt ty Wg s.w 1 0) ∨ ((∃ m, s.S k = .sem m) ∧ WgAt ty Wg s.w 0 0)) := by
 cases h with
 | idle r e x => rw [noErrand_iff.1 e k hk] at he; cases he
 | reg r e c x => rw [noErrand_iff.1 e k hk] at he; cases he
 | post r b e c x => rw [noErrand_iff.1 e k hk] at he; cases he
 | ld i r hi e o c x =>
  by_cases hik : k = i
  ·subst hik; exact ⟨r, o, c, .inl ⟨e, x⟩⟩
  ·rw [onlyErrand_iff.1 o k hk hik] at he; cases he
 | sem i r hi e o c x =>
  by_cases hik : k = i
  ·subst hik; exact ⟨r, o, c, .inr ⟨e, x⟩⟩
  ·rw [onlyErrand_iff.1 o k hk hik] at he; cases he
theorem cnt_keep {k : Nat} (hk : k < s.γ.j) {x' : WS} (hx : x'.counted = (s.S k).counted) {s' : Sit} (e1 : s'.γ = s.γ) (e3 : s'.S = upd s.S k x') (e4 : s'.ms = s.ms ∨ (s.ms = .wblk ∧ s'.ms = .wsem 0)) : s'.cnt = s.cnt := by
 obtain ⟨_, r2, _⟩ := regd_wake e4
 unfold Sit.cnt
 rw [e1, e3, r2]
 congr 1
 have ei : ∀ i, (upd s.S k x' i).counted = (s.S i).counted := by
  intro i
  by_cases hik : i = k
  ·subst hik; rw [upd_same, hx]
  ·rw [upd_ne _ _ hik]
 exact sumTo_cong fun i hi => by simp only [ei i]
/-- A step of the worker at the errand: on the group's cells, deaf. -/
theorem MI.errW (h : MI P ty Wg st Base Post Shun p s) {k : Nat} (hk : k < s.γ.j) {g g' : Goroutine} (hg : s.gs[s.γ.J + k]? = some g) {es : Array Event} {w' : World} {x' : WS} (hgo : stepG P false g s.w = .go g' w' es)
  (he : (s.S k).errand = true) (hd : Deaf s.t (s.γ.J + k) = 1) (hes : ∀ e ∈ es, LibE Wg e) (hq : ∀ m, m < es.size → deafBehind 1 (es.extract 0 m) ≠ 0) (hsz : w'.heap.size = s.w.heap.size) (ho : ∀ b, b ≠ Wg → w'.heap[b]? = s.w.heap[b]?)
  (hx : x'.counted = false) (hxr : x'.released) (says : x'.says = []) (npk : ∀ y l, x' ≠ .park y l)
  (low : x'.stage < (s.S k).stage ∨ (x'.stage = (s.S k).stage ∧ Lvl.lt x'.lvl (s.S k).lvl))
  (bk : ∀ s' : Sit, s'.γ = s.γ → s'.w = w' → s'.S = upd s.S k x' → s'.cnt = 0 → s'.ms.regd = true → (s'.ms = .wblk → mayWake P g = true → g'.status = .running → False) → Books ty Wg s')
  (own : WSt P ty Wg st (axOf Base.X s.γ k) (s.γ.c k) (s.γ.dn k (pcell Base.X s.w k)) (deafBehind 1 es) g' (s.V (s.γ.J + k)) x') (hos : w'.os = s.w.os ∧ w'.output = s.w.output := by exact ⟨rfl, rfl⟩) :
  ∃ s', MI P ty Wg st Base Post Shun p s' ∧ Falls s'.mea s.mea ∧ Moves P s (s.γ.J + k) s' := by
 have hJ := h.cr.gJ
 obtain ⟨hreg, honly, hc0, _⟩ := books_errand h.books hk he
 have hkc : (s.S k).counted = false ∧ (s.S k).says = [] ∧ (s.S k).released ∧ ∀ l r, s.S k ≠ .talk l r := by
  cases e : s.S k <;> rw [e] at he <;> first | (cases he; done) | exact ⟨rfl, rfl, trivial, fun l r x => by cases x⟩
 refine h.libW hk hg hgo (x' := x') ?_ ho (fun s' e1 e2 e3 e4 hb => ?_) (fun m e => absurd e (no_fin_regd hreg m)) (by rw [hd]; exact own) says hkc.2.1 npk hkc.2.2.2 low
 ·have := h.cr.grpW (g' := g') (i := s.γ.J + k) (by omega) (by omega) hg (es := es) (fn := g.frame.fn) (pos := g.frame.place) (w' := w') hes (.inr fun m hm => by rw [hd]; exact hq m hm) hsz ho hos
  have hr' := relOf_same (s := s) (k := k) (x' := x') ⟨fun _ => hkc.2.2.1, fun _ => hxr⟩ (ms' := s.ms) (gs' := s.gs) (w' := s.w) (t' := s.t) (V' := s.V) (cl' := s.cl)
  have hrel' : (fun i => ∃ k', k' < s.γ.j ∧ i = s.γ.J + k' ∧ (upd s.S k x' k').released) = s.relOf := hr'
  rw [hrel']; exact this
 ·have hc := cnt_keep hk (by rw [hx, hkc.1]) e1 e3 e4
  obtain ⟨r1, _⟩ := regd_wake e4
  exact ⟨bk s' e1 e2 e3 (by omega) (r1.trans hreg) hb, by omega⟩
theorem one_word {e : Event} (d : Nat) (hd : d ≠ 0) : ∀ m, m < (#[e] : Array Event).size → deafBehind d ((#[e] : Array Event).extract 0 m) ≠ 0 := by
 intro m hm
 have : m = 0 := by simpa using hm
 subst this
 simpa [deafBehind] using hd
theorem MI.ldW (h : MI P ty Wg st Base Post Shun p s) {k : Nat} (hk : k < s.γ.j) {g : Goroutine} (hg : s.gs[s.γ.J + k]? = some g) {m : Nat} (e : s.S k = .ld m) :
  ∃ s', MI P ty Wg st Base Post Shun p s' ∧ Falls s'.mea s.mea ∧ Moves P s (s.γ.J + k) s' := by
 have hl := h.books.live
 have he : (s.S k).errand = true := by rw [e]; rfl
 obtain ⟨g₁, h1, h2⟩ := h.wrk k hk
 rw [hg] at h1
 obtain rfl := Option.some.inj h1
 rw [e] at h2
 obtain ⟨hd, hdn, hm⟩ := h2
 obtain ⟨hreg, honly, hc0, hb⟩ := books_errand h.books hk he
 have hW : WgAt ty Wg s.w 1 0 := by
  rcases hb with ⟨_, x⟩ | ⟨⟨m, x⟩, _⟩
  ·exact x
  ·rw [e] at x; cases x
 have oe : ∀ (x' : WS) (s' : Sit), s'.γ = s.γ → s'.S = upd s.S k x' → s'.onlyErrand k := fun x' s' e1 e3 => onlyErrand_iff.2 fun k' hk' hne => by rw [e3, upd_ne _ _ hne]; exact onlyErrand_iff.1 honly k' (by rw [← e1]; exact hk') hne
 rcases hm.step hl with ⟨hr, hS⟩ | ⟨m', g', rfl, hr, hgo, hm'⟩
 ·obtain ⟨g', hgo, m', hm'⟩ := hS hW
  exact h.errW hk hg hgo he hd (x' := .sto m') (fun x hx => by simp at hx; subst hx; exact .inl ⟨_, rfl, .inl rfl⟩) (one_word 1 (by decide)) rfl (fun _ _ => rfl) rfl trivial rfl (fun y l x => by cases x) (.inl (by rw [e]; exact Nat.lt_succ_self 5))
   (fun s' e1 e2 e3 e4 e5 _ => .ld k e5 (by rw [e1]; exact hk) (.inr ⟨m', by rw [e3, upd_same]⟩) (oe _ s' e1 e3) e4 (by rw [e2]; exact hW)) ⟨rfl, hdn, hm'⟩
 ·exact h.errW hk hg hgo he hd (x' := .ld m') (fun x hx => by simp at hx) (fun n hn => by simp at hn) rfl (fun _ _ => rfl) rfl trivial rfl (fun y l x => by cases x) (.inr ⟨by rw [e]; rfl, by rw [e]; exact .left _ _ (Nat.lt_succ_self m')⟩)
   (fun s' e1 e2 e3 e4 e5 _ => .ld k e5 (by rw [e1]; exact hk) (.inl ⟨m', by rw [e3, upd_same]⟩) (oe _ s' e1 e3) e4 (by rw [e2]; exact hW)) ⟨rfl, hdn, hm'⟩
theorem MI.stoW (h : MI P ty Wg st Base Post Shun p s) {k : Nat} (hk : k < s.γ.j) {g : Goroutine} (hg : s.gs[s.γ.J + k]? = some g) {m : Nat} (e : s.S k = .sto m) :
  ∃ s', MI P ty Wg st Base Post Shun p s' ∧ Falls s'.mea s.mea ∧ Moves P s (s.γ.J + k) s' := by
 have hl := h.books.live
 have he : (s.S k).errand = true := by rw [e]; rfl
 obtain ⟨g₁, h1, h2⟩ := h.wrk k hk
 rw [hg] at h1
 obtain rfl := Option.some.inj h1
 rw [e] at h2
 obtain ⟨hd, hdn, hm⟩ := h2
 obtain ⟨hreg, honly, hc0, hb⟩ := books_errand h.books hk he
 have hW : WgAt ty Wg s.w 1 0 := by
  rcases hb with ⟨_, x⟩ | ⟨⟨m, x⟩, _⟩
  ·exact x
  ·rw [e] at x; cases x
 have oe : ∀ (x' : WS) (s' : Sit), s'.γ = s.γ → s'.S = upd s.S k x' → s'.onlyErrand k := fun x' s' e1 e3 => onlyErrand_iff.2 fun k' hk' hne => by rw [e3, upd_ne _ _ hne]; exact onlyErrand_iff.1 honly k' (by rw [← e1]; exact hk') hne
 rcases hm.step hl with ⟨hr, hS⟩ | ⟨m', g', rfl, hr, hgo, hm'⟩
 ·obtain ⟨g', hgo, m', hm'⟩ := hS hW
  exact h.errW hk hg hgo he hd (x' := .sem m') (fun x hx => by simp at hx; subst hx; exact .inl ⟨_, rfl, .inr rfl⟩) (one_word 1 (by decide)) setCell_size (fun b hb => Go.RowKit.Below.heap_setCell _ _ _ _ hb) rfl trivial rfl (fun y l x => by cases x) (.inl (by rw [e]; exact Nat.lt_succ_self 4))
   (fun s' e1 e2 e3 e4 e5 _ => .sem k e5 (by rw [e1]; exact hk) ⟨m', by rw [e3, upd_same]⟩ (oe _ s' e1 e3) e4 (by rw [e2]; exact hW.setSt 0)) ⟨rfl, hdn, hm'⟩
 ·exact h.errW hk hg hgo he hd (x' := .sto m') (fun x hx => by simp at hx) (fun n hn => by simp at hn) rfl (fun _ _ => rfl) rfl trivial rfl (fun y l x => by cases x) (.inr ⟨by rw [e]; rfl, by rw [e]; exact .left _ _ (Nat.lt_succ_self m')⟩)
   (fun s' e1 e2 e3 e4 e5 _ => .ld k e5 (by rw [e1]; exact hk) (.inr ⟨m', by rw [e3, upd_same]⟩) (oe _ s' e1 e3) e4 (by rw [e2]; exact hW)) ⟨rfl, hdn, hm'⟩
theorem quits1_run {q : Nat} {g : Goroutine} (h : QuitsD P q 1 g) : g.status = .running := by
 cases q with
 | zero => exact absurd h.2 (by simp)
 | succ q =>
  rcases h with ⟨_, h0⟩ | ⟨h1, _⟩
  ·exact absurd h0 (by simp)
  ·exact h1
theorem MI.semW (h : MI P ty Wg st Base Post Shun p s) {k : Nat} (hk : k < s.γ.j) {g : Goroutine} (hg : s.gs[s.γ.J + k]? = some g) {m : Nat} (e : s.S k = .sem m) :
  ∃ s', MI P ty Wg st Base Post Shun p s' ∧ Falls s'.mea s.mea ∧ Moves P s (s.γ.J + k) s' := by
 have hl := h.books.live
 have he : (s.S k).errand = true := by rw [e]; rfl
 obtain ⟨g₁, h1, h2⟩ := h.wrk k hk
 rw [hg] at h1
 obtain rfl := Option.some.inj h1
 rw [e] at h2
 obtain ⟨hd, hdn, hm⟩ := h2
 obtain ⟨hreg, honly, hc0, hb⟩ := books_errand h.books hk he
 have hW : WgAt ty Wg s.w 0 0 := by
  rcases hb with ⟨⟨m, x⟩ | ⟨m, x⟩, _⟩ | ⟨_, x⟩
  ·rw [e] at x; cases x
  ·rw [e] at x; cases x
  ·exact x
 have oe : ∀ (x' : WS) (s' : Sit), s'.γ = s.γ → s'.S = upd s.S k x' → s'.onlyErrand k := fun x' s' e1 e3 => onlyErrand_iff.2 fun k' hk' hne => by rw [e3, upd_ne _ _ hne]; exact onlyErrand_iff.1 honly k' (by rw [← e1]; exact hk') hne
 rcases hm.step hl with ⟨hr, hmw, hS⟩ | ⟨m', g', rfl, hr, hgo, hm'⟩
 ·obtain ⟨g', hgo, q, hq⟩ := hS hW
  refine h.errW hk hg hgo he hd (x' := .gone q) (fun x hx => ?_) (fun n hn => ?_) setCell_size (fun b hb => Go.RowKit.Below.heap_setCell _ _ _ _ hb) rfl trivial rfl (fun y l x => by cases x) (.inl (by rw [e]; simp [WS.stage]))
   (fun s' e1 e2 e3 e4 e5 e6 => .post e5 (fun hb => e6 hb hmw (quits1_run hq)) (noErrand_iff.2 fun i hi => ?_) e4 (by rw [e2]; exact hW.setSm 1)) ⟨hdn, hq⟩
  ·simp only [semEvents, List.mem_toArray, List.mem_cons, List.not_mem_nil, or_false] at hx
   rcases hx with rfl | rfl | rfl | rfl
   ·exact .inr (.inl rfl)
   ·exact .inl ⟨_, rfl, .inl rfl⟩
   ·exact .inl ⟨_, rfl, .inr rfl⟩
   ·exact .inr (.inr rfl)
  ·have hn4 : n < 4 := hn
   rcases (show n = 0 ∨ n = 1 ∨ n = 2 ∨ n = 3 by omega) with rfl | rfl | rfl | rfl <;> simp [semEvents, deafBehind]
  ·rw [e3]
   exact errand_upd rfl fun hne => onlyErrand_iff.1 honly i (by rw [← e1]; exact hi) hne
 ·exact h.errW hk hg hgo he hd (x' := .sem m') (fun x hx => by simp at hx) (fun n hn => by simp at hn) rfl (fun _ _ => rfl) rfl trivial rfl (fun y l x => by cases x) (.inr ⟨by rw [e]; rfl, by rw [e]; exact .left _ _ (Nat.lt_succ_self m')⟩)
   (fun s' e1 e2 e3 e4 e5 _ => .sem k e5 (by rw [e1]; exact hk) ⟨m', by rw [e3, upd_same]⟩ (oe _ s' e1 e3) e4 (by rw [e2]; exact hW)) ⟨rfl, hdn, hm'⟩
end
end Go.Proofs.Ythmgpkcijolljaa
/-
  A worker that only leaves; an old leaver.
-/
namespace Go.Proofs.Ythmgpkcijolljaa
open Go.Conc
open Go.ConcN (upd upd_same upd_ne WgLive sumTo)
open Go.ConcR (KK WgAt stA smA rd wr DC0)
set_option linter.unusedSimpArgs false
set_option linter.unusedVariables false
section
variable {P : Program} {ty : TypeId} {Wg : Nat} {st : Bool} {Base : BsP} {Post : Value → World → Prop} {Shun : Loc → Prop} {p : Nat} {s : Sit}
theorem mute_rel {e : Event} (h : e.mute = true) (a : Addr) : MemAct.ofEvent e ≠ .mark (.release a) := by
 intro hx
 obtain ⟨loc, b1, b2⟩ := e
 cases loc with
 | mark m => cases m <;> cases b1 <;> cases b2 <;> first | (cases hx; done) | (simp [Event.mute] at h; done) | (cases hx; simp [Event.mute] at h)
 | _ => cases b1 <;> cases b2 <;> cases hx
theorem MI.goneW (h : MI P ty Wg st Base Post Shun p s) {k : Nat} (hk : k < s.γ.j) {g : Goroutine} (hg : s.gs[s.γ.J + k]? = some g) (hrun : g.status = .running) {m : Nat} (e : s.S k = .gone m) :
  ∃ s', MI P ty Wg st Base Post Shun p s' ∧ Falls s'.mea s.mea ∧ Moves P s (s.γ.J + k) s' := by
 have hJ := h.cr.gJ
 obtain ⟨g₁, h1, h2⟩ := h.wrk k hk
 rw [hg] at h1
 obtain rfl := Option.some.inj h1
 rw [e] at h2
 obtain ⟨hdn, hq⟩ := h2
 cases m with
 | zero => rw [hq.1] at hrun; cases hrun
 | succ m =>
  rcases hq with ⟨hf, _⟩ | ⟨_, g', es, hm, hstp, hq'⟩
  ·rw [hf] at hrun; cases hrun
  have hnt : ∀ op ∈ MemOp.ofEvents (s.γ.J + k) g.frame.fn g.frame.place es, op.act.touch? = none := fun op hop => by obtain ⟨x, hx, rfl⟩ := Go.Conc.mem_ofEvents hop; exact touch_mute (hm x hx)
  refine h.libW hk hg (hstp s.w) (x' := .gone m) ?_ (fun _ _ => rfl) (fun s' e1 e2 e3 e4 _ => h.booksW hk (by rw [e]; rfl) rfl (by rw [e]; rfl) rfl s' e1 e2 e3 e4) (fun n hn => (h.fin n hn).mute (by omega) hm) ⟨hdn, hq'⟩ rfl (by rw [e]; rfl) (fun y l x => by cases x) (fun l r x => by rw [e] at x; cases x)
   (.inr ⟨by rw [e]; rfl, by rw [e]; exact .left _ _ (Nat.lt_succ_self m)⟩)
  have hd := h.cr.hd.app (u := MemOp.ofEvents (s.γ.J + k) g.frame.fn g.frame.place es) (Nat.le_refl _) (.inr (.inl hnt)) (fun op hop => by obtain ⟨x, hx, rfl⟩ := Go.Conc.mem_ofEvents hop; exact mute_rel (hm x hx) _) (fun op hop => by obtain ⟨x, hx, rfl⟩ := Go.Conc.mem_ofEvents hop; exact low_mute (hm x hx) _)
  have := h.cr.turn (hbn := fun x hx => (h.cr.bsn x hx).1) (hos := ⟨rfl, rfl⟩) (i := s.γ.J + k) (.inr ⟨by omega, by omega⟩) hg (g' := g') (es := es) (fn := g.frame.fn) (pos := g.frame.place) (b := Wg) (w' := s.w) h.cr.hidw rfl (fun _ _ => rfl) (fun x hx y hy _ => by rw [touch_mute (hm x hx)] at hy; cases hy) hd
  have hr' := relOf_same (s := s) (k := k) (x' := .gone m) (by rw [e]; rfl) (ms' := s.ms) (gs' := s.gs) (w' := s.w) (t' := s.t) (V' := s.V) (cl' := s.cl)
  have hrel' : (fun i => ∃ k', k' < s.γ.j ∧ i = s.γ.J + k' ∧ (upd s.S k (.gone m) k').released) = s.relOf := hr'
  rw [hrel']; exact this ⟨fun e => h.cr.pay.hwg e.symm, fun e => h.cr.pay.lwg e.symm⟩
end
end Go.Proofs.Ythmgpkcijolljaa
/-
  A worker turns to the group; an old leaver slips.
-/
namespace Go.Proofs.Ythmgpkcijolljaa
open Go.Conc
open Go.ConcN (upd upd_same upd_ne WgLive sumTo)
open Go.ConcR (KK WgAt stA smA rd wr DC0)
set_option linter.unusedSimpArgs false
set_option linter.unusedVariables false
section
variable {P : Program} {ty : TypeId} {Wg : Nat} {st : Bool} {Base : BsP} {Post : Value → World → Prop} {Shun : Loc → Prop} {p : Nat} {s : Sit}
/-- Its lines are done: the same machine, another name. -/
theorem MI.turnW (h : MI P ty Wg st Base Post Shun p s) {k : Nat} (hk : k < s.γ.j) (e : s.S k = .talk [] .nil) (hnp : ∀ n, s.ms ≠ .park n k) :
  ∃ s', MI P ty Wg st Base Post Shun p s' ∧ Falls s'.mea s.mea ∧ s'.gs = s.gs ∧ s'.w = s.w ∧ s'.t = s.t := by
 have hJ := h.cr.gJ
 obtain ⟨g, h1, h2⟩ := h.wrk k hk
 rw [e] at h2
 obtain ⟨hd, hdn, m, hm⟩ := h2
 obtain ⟨hb, hc⟩ := books_worker (x' := .rel m) (ms' := s.ms) h.books hk (.inl rfl) (by rw [e]; rfl) rfl (by rw [e]; rfl) (w' := s.w) rfl (gs' := s.gs) (t' := s.t) (V' := s.V) (cl' := s.cl)
 have up : ∀ k', k' ≠ k → upd s.S k (.rel m) k' = s.S k' := fun k' hne => upd_ne _ _ hne
 refine ⟨{ s with gs := s.gs, w := s.w, t := s.t, V := s.V, S := upd s.S k (.rel m), ms := s.ms, cl := s.cl }, ⟨?_, fun k' hk' => ?_, h.dn, h.form, h.zero, h.chan, h.cinj, h.cwg, fun k' hk' hcl => ?_, fun k' hk' hcl => ?_, fun k' hk' hcl y l => ?_, fun n k' en => ?_, h.waits, h.small, hb, fun en => by rw [hc]; exact h.late en, h.fin⟩,
  falls_worker hk rfl (.inl (by rw [e]; exact Nat.lt_succ_self 9)) hJ, rfl, rfl, rfl⟩
 ·have hr' := relOf_same (s := s) (k := k) (x' := .rel m) (by rw [e]; rfl) (ms' := s.ms) (gs' := s.gs) (w' := s.w) (t' := s.t) (V' := s.V) (cl' := s.cl)
  rw [hr']; exact h.cr
 ·show ∃ g, _ ∧ WSt P ty Wg st _ _ _ _ g _ (upd s.S k (.rel m) k')
  by_cases hkk : k' = k
  ·subst hkk; rw [upd_same]; exact ⟨g, h1, hd, hdn, hm⟩
  ·rw [up k' hkk]; exact h.wrk k' hk'
 ·show _ ∧ (upd s.S k (.rel m) k').says = _
  by_cases hkk : k' = k
  ·subst hkk; rw [upd_same]; have := h.open_ k' hk' hcl; rw [e] at this; exact this
  ·rw [up k' hkk]; exact h.open_ k' hk' hcl
 ·show (_ ∧ (upd s.S k (.rel m) k').says = []) ∨ (∃ tl, s.γ.σ k' = .eof :: tl ∧ s.γ.shut k' = true ∧ ∃ m', (upd s.S k (.rel m) k').says = (Say.eof :: tl).drop m')
  by_cases hkk : k' = k
  ·subst hkk; rw [upd_same]; have := h.closed k' hk' hcl; rw [e] at this; exact this
  ·rw [up k' hkk]; exact h.closed k' hk' hcl
 ·show upd s.S k (.rel m) k' ≠ _
  by_cases hkk : k' = k
  ·subst hkk; rw [upd_same]; intro x; cases x
  ·rw [up k' hkk]; exact h.nopark k' hk' hcl y l
 ·obtain ⟨a, b⟩ := h.meet n k' en
  refine ⟨a, ?_⟩
  show ∃ l r, upd s.S k (.rel m) k' = _
  by_cases hkk : k' = k
  ·subst hkk; exact absurd en (hnp n)
  ·rw [up k' hkk]; exact b
end
end Go.Proofs.Ythmgpkcijolljaa
/-
  An old leaver slips.
-/
namespace Go.Proofs.Ythmgpkcijolljaa
open Go.Conc
open Go.ConcN (upd upd_same upd_ne WgLive sumTo)
open Go.ConcR (KK WgAt stA smA rd wr DC0)
set_option linter.unusedSimpArgs false
set_option linter.unusedVariables false
section
variable {P : Program} {ty : TypeId} {Wg : Nat} {st : Bool} {Base : BsP} {Post : Value → World → Prop} {Shun : Loc → Prop} {p : Nat} {s : Sit}
theorem MI.slip (h : MI P ty Wg st Base Post Shun p s) {i : Nat} (h0 : 0 < i) (hi : i < s.γ.J) {g : Goroutine} (hg : s.gs[i]? = some g) (hrun : g.status = .running) :
  ∃ s', MI P ty Wg st Base Post Shun p s' ∧ Falls s'.mea s.mea ∧ Moves P s i s' := by
 have hl := h.books.live
 have hlt : i < s.gs.size := (Array.getElem?_eq_some_iff.1 hg).1
 have hq := h.cr.old i g h0 hi hg
 cases hqi : s.q i with
 | zero => rw [hqi] at hq; rw [hq.1] at hrun; cases hrun
 | succ m =>
  rw [hqi] at hq
  rcases hq with ⟨hf, _⟩ | ⟨_, g', es, hm, hstp, hq'⟩
  ·rw [hf] at hrun; cases hrun
  obtain ⟨g0, hg0, hm0⟩ := h.zero
  obtain ⟨ms', hms, hms'⟩ := woken_mst (g := g) (g' := g') (w' := s.w) hl hm0 (h.mopen (fun _ _ => rfl) hm0)
  obtain ⟨r1, r2, r3, r4, r5, r6, r7⟩ := regd_wake hms'
  have hD : ∀ k, k ≠ i → Deaf (s.t ++ MemOp.ofEvents i g.frame.fn g.frame.place es) k = Deaf s.t k := fun k hk => Deaf_other s.t (fun e => hk e.symm) _ ofEvents_g
  have hcnt : ({ s with gs := (s.gs.map (woken P g g' s.w)).setIfInBounds i g', t := s.t ++ MemOp.ofEvents i g.frame.fn g.frame.place es, q := upd s.q i m, ms := ms' } : Sit).cnt = s.cnt := by unfold Sit.cnt; simp only [r2]
  refine ⟨{ s with gs := (s.gs.map (woken P g g' s.w)).setIfInBounds i g', t := s.t ++ MemOp.ofEvents i g.frame.fn g.frame.place es, q := upd s.q i m, ms := ms' },
   ⟨h.cr.slip h0 hi hg hm hq', fun k hk => ?_, h.dn, h.form, ⟨woken P g g' s.w g0, ?_, ?_⟩, h.chan, h.cinj, h.cwg, h.open_, h.closed, h.nopark, fun n k e => h.meet n k (r7 n k e), fun e => h.waits (by rw [← r3]; exact e), h.small, ?_, fun e => by rw [hcnt]; exact h.late (r6 e), fun n e => (h.fin n (r5 n e)).mute (by omega) hm⟩, ?_, _, fun sl => ⟨sl, runT_crowd_go hg ?_⟩, rfl⟩
  ·obtain ⟨gk, h1, h2⟩ := h.wrk k hk
   refine ⟨gk, ?_, ?_⟩
   ·show ((s.gs.map (woken P g g' s.w)).setIfInBounds i g')[s.γ.J + k]? = some gk
    rw [Array.getElem?_setIfInBounds_ne (by omega), Array.getElem?_map, h1, Option.map_some, woken_wst hl h2 fun y l e => ?_]
    obtain ⟨a, b, tm, h3⟩ := h.chan k hk
    rw [park_open h hk e] at h3
    exact ⟨a, b, tm, h3⟩
   ·show WSt P ty Wg st _ _ _ (Deaf (s.t ++ _) (s.γ.J + k)) gk _ _
    rw [hD _ (by omega)]; exact h2
  ·show ((s.gs.map (woken P g g' s.w)).setIfInBounds i g')[0]? = _
   rw [Array.getElem?_setIfInBounds_ne (by omega), Array.getElem?_map, hg0]; rfl
  ·show MSt P ty Wg st Base Post s.γ (Deaf (s.t ++ _) 0) _ _ ms'
   rw [hD 0 (by omega)]; exact hms
  ·cases h.books with
   | idle r e x => exact .idle (r1.trans r) e (by rw [hcnt]; exact x)
   | reg r e c x => exact .reg (r1.trans r) e (by rw [hcnt]; exact c) (by rw [hcnt]; exact x)
   | ld k r hk e o c x => exact .ld k (r1.trans r) hk e o (by rw [hcnt]; exact c) x
   | sem k r hk e o c x => exact .sem k (r1.trans r) hk e o (by rw [hcnt]; exact c) x
   | post r b e c x =>
    refine .post (r1.trans r) ?_ e (by rw [hcnt]; exact c) x
    rcases hms' with rfl | ⟨h3, _⟩
    ·exact b
    ·exact absurd h3 b
  ·refine .inr ⟨r4, .inr ⟨rfl, rfl, .inl ⟨i, ?_, ?_, fun k hk hne => ?_⟩⟩⟩
   ·show i < s.γ.J + s.γ.j; omega
   ·show Lvl.lt (Sit.lvl _ i) (Sit.lvl s i)
    simp only [Sit.lvl]
    rw [if_neg (by omega), if_pos hi, if_neg (by omega), if_pos hi, upd_same, hqi]
    exact .left _ _ (Nat.lt_succ_self m)
   ·show Sit.lvl _ k = Sit.lvl s k
    simp only [Sit.lvl]
    rw [upd_ne _ _ hne]
  ·have : (i == 0) = false := by simp; omega
   rw [this]; exact hstp s.w
end
end Go.Proofs.Ythmgpkcijolljaa
/-
  A worker closes its channel.
-/
namespace Go.Proofs.Ythmgpkcijolljaa
open Go.Conc
open Go.ConcN (upd upd_same upd_ne WgLive sumTo)
open Go.ConcR (KK WgAt stA smA rd wr DC0)
set_option linter.unusedSimpArgs false
set_option linter.unusedVariables false
section
variable {P : Program} {ty : TypeId} {Wg : Nat} {st : Bool} {Base : BsP} {Post : Value → World → Prop} {Shun : Loc → Prop} {p : Nat} {s : Sit}
theorem shutOn_size {w : World} {c a b : Nat} {tm : Bool} : (shutOn w c a b tm).heap.size = w.heap.size := by simp [shutOn, World.setChan]
theorem shutOn_at {w : World} {c a b : Nat} {tm : Bool} (h : c < w.heap.size) : (shutOn w c a b tm).heap[c]? = some (.chan 0 #[] true a b tm) := by simp [shutOn, World.setChan, h]
theorem shutOn_other {w : World} {c a b c' : Nat} {tm : Bool} (h : c' ≠ c) : (shutOn w c a b tm).heap[c']? = w.heap[c']? := by simp [shutOn, World.setChan, Array.getElem?_setIfInBounds_ne (fun e => h e.symm)]
theorem shutEv_mem {c : Nat} {x : Event} (h : x ∈ shutEv c) : x = ⟨.obj c, false, true⟩ ∨ x = ⟨.obj c, true, true⟩ := by simpa [shutEv] using h
/-- One that is parked at a channel that has been closed is let try again. -/
theorem woken_closed {x : Say} {c : Nat} {z : Value} {sh : CommShape} {g g' g₂ : Goroutine} {w' : World} (hm : mayWake P g = true) (hg' : g'.status = .running) (h : ∃ a b tm, w'.heap[c]? = some (.chan 0 #[] true a b tm)) :
  woken P g g' w' (parked g₂ #[x.case c z] sh) = { parked g₂ #[x.case c z] sh with status := .running } := by
 obtain ⟨a, b, tm, h⟩ := h
 have : (mayWake P g && g'.status != .blocked && g'.status != .waiting) = true := by rw [hm, hg']; rfl
 simp only [woken, this, if_true]
 cases x <;> simp [Goroutine.again, parked, Say.case, rcase, scase, h]
theorem comm_again {main : Bool} {g₂ : Goroutine} {cs : Array CommCase} {sh : CommShape} (h : Comm P main g₂ g₂ cs sh) : Comm P main { parked g₂ cs sh with status := .running } g₂ cs sh := by
 refine ⟨rfl, h.run, fun w => ?_, h.step⟩
 rw [stepG_tries, show ({ g₂ with status := .running } : Goroutine) = g₂ by rw [← h.run]]
 exact h.step w
/-- ████ A worker closes its channel. ████ -/
theorem MI.closeW (h : MI P ty Wg st Base Post Shun p s) {k : Nat} (hk : k < s.γ.j) {g : Goroutine} (hg : s.gs[s.γ.J + k]? = some g) {l : List Say} (e : s.S k = .talk (.close :: l) .nil) :
  ∃ s', MI P ty Wg st Base Post Shun p s' ∧ Falls s'.mea s.mea ∧ Moves P s (s.γ.J + k) s' := by
 have hl := h.books.live
 have hJ := h.cr.gJ
 obtain ⟨g₁, h1, h2⟩ := h.wrk k hk
 rw [hg] at h1
 obtain rfl := Option.some.inj h1
 rw [e] at h2
 obtain ⟨hd, rfl, g', hC, r, hr⟩ := h2
 have hact : Act' s.γ.J s.γ.j (s.γ.J + k) := .inr ⟨by omega, by omega⟩
 have hcl : s.cl k = false := by
  cases hc : s.cl k with
  | false => rfl
  | true =>
   have := h.closed k hk hc
   rw [e] at this
   rcases this with ⟨_, x⟩ | ⟨tl, x1, _, m, x⟩
   ·simp [WS.says] at x
   ·have hf := h.form k hk
    rw [x1] at hf
    rcases drop_said hf.eof x with y | y
    ·cases y
    ·exact y.elim
 obtain ⟨hsh, hsay⟩ := h.open_ k hk hcl
 rw [e] at hsay
 obtain ⟨a, b, tm, hchan⟩ := h.chan k hk
 rw [hcl] at hchan
 have hcs := (h.cr.hidc k hk).1
 have hgo := hC.2.2.2 s.w a b tm hchan
 obtain ⟨w', hw'⟩ : ∃ w', w' = shutOn s.w (s.γ.c k) a b tm := ⟨_, rfl⟩
 rw [← hw'] at hgo
 have hsz : w'.heap.size = s.w.heap.size := by rw [hw']; exact shutOn_size
 have hwos : w'.os = s.w.os ∧ w'.output = s.w.output := by rw [hw']; exact ⟨rfl, rfl⟩
 have hother : ∀ c', c' ≠ s.γ.c k → w'.heap[c']? = s.w.heap[c']? := fun c' hc' => by rw [hw']; exact shutOn_other hc'
 have hat : w'.heap[s.γ.c k]? = some (.chan 0 #[] true a b tm) := by rw [hw']; exact shutOn_at hcs
 have hchk : ∀ k', k' < s.γ.j → k' ≠ k → w'.heap[s.γ.c k']? = s.w.heap[s.γ.c k']? := fun k' hk' hne => hother _ fun x => hne (h.cinj k' k hk' hk x)
 have hD : ∀ i, Deaf (s.t ++ MemOp.ofEvents (s.γ.J + k) g.frame.fn g.frame.place (shutEv (s.γ.c k))) i = Deaf s.t i := by
  intro i
  by_cases hi : i = s.γ.J + k
  ·subst hi
   rw [Deaf_own, deafBehind_still fun x hx => by rcases shutEv_mem hx with rfl | rfl <;> exact ⟨by simp, by simp⟩]
  ·exact Deaf_other s.t (fun x => hi x.symm) _ ofEvents_g
 -- goroutine 0
 obtain ⟨g0, hg0, hm0⟩ := h.zero
 obtain ⟨ms', hms, hreg, hadd, hwt, hlft, hwf, hlate, hpk, hnb⟩ : ∃ ms', MSt P ty Wg st Base Post s.γ (Deaf s.t 0) (woken P g g' w' g0) (s.V 0) ms' ∧ ms'.regd = s.ms.regd ∧ ms'.added = s.ms.added ∧ ms'.waits = s.ms.waits ∧ ms'.left = s.ms.left ∧
   (∀ m, ms' = .wfin m → s.ms = .wfin m) ∧ ((∃ m, ms' = .wld m ∨ ms' = .wen m ∨ ms' = .wacq m ∨ ms' = .wfin m) → ∃ m, s.ms = .wld m ∨ s.ms = .wen m ∨ s.ms = .wacq m ∨ s.ms = .wfin m) ∧ (∀ n k', ms' = .park n k' → s.ms = .park n k' ∧ k' ≠ k) ∧ (ms' = .wblk → s.ms = .wblk) := by
  by_cases hpark : ∃ n, s.ms = .park n k
  ·obtain ⟨n, hn⟩ := hpark
   rw [hn] at hm0
   obtain ⟨hd0, hkj, x, l', z, sh, g₂, hσ, hx, hcm, rfl, hnx⟩ := hm0
   refine ⟨.walk n .nil, ⟨hd0, ?_⟩, by rw [hn]; rfl, by rw [hn]; rfl, by rw [hn]; rfl, by rw [hn]; rfl, (fun m e => by cases e), ?_, (fun n k' e => by cases e), (fun e => by cases e)⟩
   ·rw [woken_closed hC.2.2.1 hC.2.1 ⟨a, b, tm, hat⟩]
    exact .inl ⟨k, x, l', z, sh, g₂, hkj, hσ, hx, comm_again hcm, hnx⟩
   ·rintro ⟨m, e | e | e | e⟩ <;> cases e
  ·obtain ⟨ms', a1, b1⟩ := woken_mst (g := g) (g' := g') (w' := w') hl hm0 (fun n k' en => by
    obtain ⟨hc, _⟩ := h.meet n k' en
    have hm0' := hm0
    rw [en] at hm0'
    obtain ⟨a', b', tm', h3⟩ := h.chan k' hm0'.2.1
    rw [hc] at h3
    exact ⟨a', b', tm', by rw [hchk k' hm0'.2.1 (by rintro rfl; exact hpark ⟨n, en⟩)]; exact h3⟩)
   obtain ⟨r1, r2, r3, r4, r5, r6, r7⟩ := regd_wake b1
   exact ⟨ms', a1, r1, r2, r3, r4, r5, r6, fun n k' en => ⟨r7 n k' en, by rintro rfl; exact hpark ⟨n, r7 n k' en⟩⟩, fun en => by rcases b1 with b1 | ⟨_, b1⟩; rw [← b1]; exact en; rw [b1] at en; cases en⟩
 have up : ∀ k', k' ≠ k → upd s.S k (.talk [] r) k' = s.S k' := fun k' hne => upd_ne _ _ hne
 have hpc : ∀ k', pcell Base.X w' k' = pcell Base.X s.w k' := fun k' => pcell_blk (hother _ (h.cr.pay.hch k hk)) k'
 have ucl : ∀ k', k' ≠ k → upd s.cl k true k' = s.cl k' := fun k' hne => upd_ne _ _ hne
 have hwg : w'.heap[Wg]? = s.w.heap[Wg]? := hother _ fun x => h.cwg k hk x.symm
 have hcnt : ({ s with gs := (s.gs.map (woken P g g' w')).setIfInBounds (s.γ.J + k) g', w := w', t := s.t ++ MemOp.ofEvents (s.γ.J + k) g.frame.fn g.frame.place (shutEv (s.γ.c k)), S := upd s.S k (.talk [] r), ms := ms', cl := upd s.cl k true } : Sit).cnt = s.cnt := by
  unfold Sit.cnt
  simp only [hadd]
  congr 1
  have ei : ∀ i, (upd s.S k (.talk [] r) i).counted = (s.S i).counted := by
   intro i
   by_cases hik : i = k
   ·subst hik; rw [upd_same, e]; rfl
   ·rw [up i hik]
  exact sumTo_cong fun i _ => by simp only [ei i]
 have er : ∀ i, (upd s.S k (.talk [] r) i).errand = (s.S i).errand := by
  intro i
  by_cases hik : i = k
  ·subst hik; rw [upd_same, e]; rfl
  ·rw [up i hik]
 refine ⟨{ s with gs := (s.gs.map (woken P g g' w')).setIfInBounds (s.γ.J + k) g', w := w', t := s.t ++ MemOp.ofEvents (s.γ.J + k) g.frame.fn g.frame.place (shutEv (s.γ.c k)), S := upd s.S k (.talk [] r), ms := ms', cl := upd s.cl k true },
  ⟨?_, fun k' hk' => ?_, h.dn, h.form, ⟨woken P g g' w' g0, ?_, ?_⟩, fun k' hk' => ?_, h.cinj, h.cwg, fun k' hk' hc => ?_, fun k' hk' hc => ?_, fun k' hk' hc y l => ?_, fun n k' en => ?_, fun en => h.waits (by rw [← hwt]; exact en), h.small, ?_, fun en => by rw [hcnt]; exact h.late (hlate en), fun m en => ?_⟩, ?_, _, fun sl => ⟨sl, runT_crowd_go hg ?_⟩, rfl⟩
 ·have hd' := h.cr.hd.app (u := MemOp.ofEvents (s.γ.J + k) g.frame.fn g.frame.place (shutEv (s.γ.c k))) (Nat.le_refl _) (.inr (.inr (.inl ⟨s.γ.J + k, Nat.le_add_right _ _, fun ⟨k', _, ek, hrl⟩ => by
   have : k' = k := by omega
   subst this; rw [e] at hrl; exact hrl, ofEvents_g⟩))) (fun op hop => by obtain ⟨x, hx, rfl⟩ := Go.Conc.mem_ofEvents hop; rcases shutEv_mem hx with rfl | rfl <;> (intro y; cases y)) (fun op hop => by obtain ⟨x, hx, rfl⟩ := Go.Conc.mem_ofEvents hop; rcases shutEv_mem hx with rfl | rfl <;> exact hcs)
  have := h.cr.turnc (hbn := fun x hx => (h.cr.bsn x hx).2 k hk) (hbX := ⟨fun e => h.cr.pay.hch k hk e.symm, fun e => h.cr.pay.lch k hk e.symm⟩) (hos := hwos) hact hg (g' := g') (es := shutEv (s.γ.c k)) (fn := g.frame.fn) (pos := g.frame.place) (b := s.γ.c k) (w' := w') (h.cr.hidc k hk).2 hsz hother (fun x hx y hy _ => by
   rcases shutEv_mem hx with rfl | rfl
   ·have hy' : y = ⟨.obj (s.γ.c k), false, .atomic⟩ := (Option.some.inj hy).symm
    exact .inr ⟨_, ⟨k, hk, rfl, .inr rfl⟩, hy'⟩
   ·cases hy) (by rw [hsz]; exact hd')
  have hr' := relOf_same (s := s) (k := k) (x' := .talk [] r) (by rw [e]; rfl) (ms' := s.ms) (gs' := s.gs) (w' := s.w) (t' := s.t) (V' := s.V) (cl' := s.cl)
  have hrel' : (fun i => ∃ k', k' < s.γ.j ∧ i = s.γ.J + k' ∧ (upd s.S k (.talk [] r) k').released) = s.relOf := hr'
  show Cr P Wg st Base Shun p s.γ.J s.γ.j s.γ.c (fun i => ∃ k', k' < s.γ.j ∧ i = s.γ.J + k' ∧ (upd s.S k (.talk [] r) k').released) _ _ _ _ _
  rw [hrel']; exact this
 ·show ∃ g1, ((s.gs.map (woken P g g' w')).setIfInBounds (s.γ.J + k) g')[s.γ.J + k']? = some g1 ∧ WSt P ty Wg st _ _ (s.γ.dn k' (pcell Base.X w' k')) (Deaf (s.t ++ _) _) g1 _ (upd s.S k (.talk [] r) k')
  rw [hD, hpc]
  by_cases hkk : k' = k
  ·subst hkk
   have hlt : s.γ.J + k' < s.gs.size := (Array.getElem?_eq_some_iff.1 hg).1
   rw [upd_same]
   exact ⟨g', by simp [hlt], hd, hr⟩
  ·obtain ⟨gk, h3, h4⟩ := h.wrk k' hk'
   rw [up k' hkk]
   refine ⟨gk, ?_, h4⟩
   rw [Array.getElem?_setIfInBounds_ne (by omega), Array.getElem?_map, h3, Option.map_some, woken_wst hl h4 fun y l ey => ?_]
   obtain ⟨a', b', tm', h5⟩ := h.chan k' hk'
   rw [park_open h hk' ey] at h5
   exact ⟨a', b', tm', by rw [hchk k' hk' hkk]; exact h5⟩
 ·show ((s.gs.map (woken P g g' w')).setIfInBounds (s.γ.J + k) g')[0]? = _
  rw [Array.getElem?_setIfInBounds_ne (by omega), Array.getElem?_map, hg0]; rfl
 ·show MSt P ty Wg st Base Post s.γ (Deaf (s.t ++ _) 0) _ _ ms'
  rw [hD]; exact hms
 ·show ∃ a b tm, w'.heap[s.γ.c k']? = some (.chan 0 #[] (upd s.cl k true k') a b tm)
  by_cases hkk : k' = k
  ·subst hkk; rw [upd_same]; exact ⟨a, b, tm, hat⟩
  ·rw [ucl k' hkk, hchk k' hk' hkk]; exact h.chan k' hk'
 ·have hc' : upd s.cl k true k' = false := hc
  show s.γ.shut k' = false ∧ (upd s.S k (.talk [] r) k').says = s.γ.σ k'
  by_cases hkk : k' = k
  ·subst hkk; rw [upd_same] at hc'; cases hc'
  ·rw [ucl k' hkk] at hc'; rw [up k' hkk]; exact h.open_ k' hk' hc'
 ·have hc' : upd s.cl k true k' = true := hc
  show (s.γ.σ k' = [.close] ∧ (upd s.S k (.talk [] r) k').says = []) ∨ (∃ tl, s.γ.σ k' = .eof :: tl ∧ s.γ.shut k' = true ∧ ∃ m', (upd s.S k (.talk [] r) k').says = (Say.eof :: tl).drop m')
  by_cases hkk : k' = k
  ·subst hkk; rw [upd_same]; exact .inl ⟨hsay.symm, rfl⟩
  ·rw [ucl k' hkk] at hc'; rw [up k' hkk]; exact h.closed k' hk' hc'
 ·have hc' : upd s.cl k true k' = true := hc
  show upd s.S k (.talk [] r) k' ≠ _
  by_cases hkk : k' = k
  ·subst hkk; rw [upd_same]; intro x; cases x
  ·rw [ucl k' hkk] at hc'; rw [up k' hkk]; exact h.nopark k' hk' hc' y l
 ·obtain ⟨e1, hne⟩ := hpk n k' en
  obtain ⟨x1, x2⟩ := h.meet n k' e1
  show upd s.cl k true k' = false ∧ ∃ l r', upd s.S k (.talk [] r) k' = _
  rw [ucl k' hne, up k' hne]; exact ⟨x1, x2⟩
 ·have wat : ∀ {a b : Int}, WgAt ty Wg s.w a b → WgAt ty Wg w' a b := fun x => hwg.trans x
  have ne : s.noErrand → ({ s with gs := (s.gs.map (woken P g g' w')).setIfInBounds (s.γ.J + k) g', w := w', t := s.t ++ MemOp.ofEvents (s.γ.J + k) g.frame.fn g.frame.place (shutEv (s.γ.c k)), S := upd s.S k (.talk [] r), ms := ms', cl := upd s.cl k true } : Sit).noErrand := fun e => noErrand_iff.2 fun i hi => (er i).trans (noErrand_iff.1 e i hi)
  have oe : ∀ {i}, s.onlyErrand i → ({ s with gs := (s.gs.map (woken P g g' w')).setIfInBounds (s.γ.J + k) g', w := w', t := s.t ++ MemOp.ofEvents (s.γ.J + k) g.frame.fn g.frame.place (shutEv (s.γ.c k)), S := upd s.S k (.talk [] r), ms := ms', cl := upd s.cl k true } : Sit).onlyErrand i := fun e => onlyErrand_iff.2 fun i hi hne => (er i).trans (onlyErrand_iff.1 e i hi hne)
  cases h.books with
  | idle q e' x => exact .idle (hreg.trans q) (ne e') (by rw [hcnt]; exact wat x)
  | reg q e' c x => exact .reg (hreg.trans q) (ne e') (by rw [hcnt]; exact c) (by rw [hcnt]; exact wat x)
  | ld i q hi e' o c x =>
   have hik : i ≠ k := by rintro rfl; rcases e' with ⟨m, e'⟩ | ⟨m, e'⟩ <;> (rw [e] at e'; cases e')
   exact .ld i (hreg.trans q) hi (by show (∃ m, upd s.S k _ i = _) ∨ ∃ m, upd s.S k _ i = _; rw [up i hik]; exact e') (oe o) (by rw [hcnt]; exact c) (wat x)
  | sem i q hi e' o c x =>
   have hik : i ≠ k := by rintro rfl; obtain ⟨m, e'⟩ := e'; rw [e] at e'; cases e'
   exact .sem i (hreg.trans q) hi (by show ∃ m, upd s.S k _ i = _; rw [up i hik]; exact e') (oe o) (by rw [hcnt]; exact c) (wat x)
  | post q b e' c x => exact .post (hreg.trans q) (fun en => b (hnb en)) (ne e') (by rw [hcnt]; exact c) (wat x)
 ·exact absurd (hwf m en) (h.no_fin hk (by rw [e]; rfl) m)
 ·exact falls_worker hk hlft (.inl (by rw [e]; show 10 < 10 + 1; omega)) hJ
 ·have : (s.γ.J + k == 0) = false := by simp; omega
  rw [this]; exact hgo
end
end Go.Proofs.Ythmgpkcijolljaa
