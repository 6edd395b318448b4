/-
  A worker's lines: who else offers at its channel.
-/
import Derived.Test.YthmgpkcijolljaaH7
namespace Go.Proofs.Ythmgpkcijolljaa
open Go.Conc
open Go.ConcN (upd upd_same upd_ne WgLive sumTo)
open Go.ConcR (KK WgAt stA smA rd wr DC0)
set_option linter.unusedSimpArgs false
set_option linter.unusedVariables false
section
variable {P : Program} {ty : TypeId} {Wg : Nat} {st : Bool} {Base : BsP} {Post : Value → World → Prop} {Shun : Loc → Prop} {p : Nat} {s : Sit}
theorem offers_say {x : Say} {c r : Nat} {z : Value} {sh : CommShape} {g : Goroutine} (h : c ≠ r) (b : Bool) : offersAt (parked g #[x.case c z] sh) r b = [] := by
 cases x <;> cases b <;> simp [offersAt, parked, Say.case, rcase, scase, h]
/-- At worker k's channel nobody offers but worker k, and goroutine 0 if it is parked there. -/
theorem MI.offers (h : MI P ty Wg st Base Post Shun p s) {k : Nat} (hk : k < s.γ.j) {i : Nat} {x : Goroutine} (hi : s.gs[i]? = some x) (hne : i ≠ s.γ.J + k) (h0 : i = 0 → ∀ n, s.ms ≠ .park n k) (b : Bool) : offersAt x (s.γ.c k) b = [] := by
 have hl := h.books.live
 rcases h.idx hi with rfl | ⟨h1, hJ⟩ | ⟨k', hk', rfl⟩
 ·obtain ⟨g', h1, h2⟩ := h.zero
  rw [hi] at h1
  obtain rfl := Option.some.inj h1
  rcases mst_status hl h2 with h3 | ⟨_, ⟨n, k', e⟩ | e⟩
  ·exact offersAt_of_not_blocked (by rw [h3]; simp) _ _
  ·rw [e] at h2
   obtain ⟨_, hk', s', l, z, sh, g₂, _, _, _, rfl, _⟩ := h2
   exact offers_say (fun x => h0 rfl n (by rw [e, h.cinj k' k hk' hk x])) b
  ·rw [e] at h2
   obtain ⟨_, g₀, hS, rfl⟩ := h2
   have := (hS s.w hl).2.1
   simp [offersAt, this]
 ·refine offersAt_of_not_blocked ?_ _ _
  rcases (h.cr.old i x h1 hJ hi).status with h3 | h3 <;> (rw [h3]; simp)
 ·obtain ⟨g', h1, h2⟩ := h.wrk k' hk'
  rw [hi] at h1
  obtain rfl := Option.some.inj h1
  rcases wst_status hl h2 with h3 | ⟨_, y, l, e⟩ | ⟨h3, _⟩
  ·exact offersAt_of_not_blocked (by rw [h3]; simp) _ _
  ·rw [e] at h2
   obtain ⟨_, _, _, g₂, z, sh, _, rfl, _⟩ := h2
   exact offers_say (fun x => hne (by rw [h.cinj k' k hk' hk x])) b
  ·exact offersAt_of_not_blocked (by rw [h3]; simp) _ _
end
end Go.Proofs.Ythmgpkcijolljaa
/-
  A worker parks at its channel; or finds it closed.
-/
namespace Go.Proofs.Ythmgpkcijolljaa
open Go.Conc
open Go.ConcN (upd upd_same upd_ne WgLive sumTo)
open Go.ConcR (KK WgAt stA smA rd wr DC0)
set_option linter.unusedSimpArgs false
set_option linter.unusedVariables false
section
variable {P : Program} {ty : TypeId} {Wg : Nat} {st : Bool} {Base : BsP} {Post : Value → World → Prop} {Shun : Loc → Prop} {p : Nat} {s : Sit}
/-- Worker k alone turns, by words that touch nothing; its channel's block may turn, and no other. -/
theorem MI.wordW (h : MI P ty Wg st Base Post Shun p s) {k : Nat} (hk : k < s.γ.j) {g' : Goroutine} {w' : World} {u : Trace} {x' : WS}
  (hsz : w'.heap.size = s.w.heap.size) (ho : ∀ b, b ≠ s.γ.c k → w'.heap[b]? = s.w.heap[b]?) (hat : ∃ a b tm, w'.heap[s.γ.c k]? = some (.chan 0 #[] (s.cl k) a b tm))
  (hn : ∀ op ∈ u, op.act.touch? = none) (hg' : ∀ op ∈ u, op.g < s.gs.size) (hdf : ∀ op ∈ u, ∀ m, op.act ≠ .mark m) (hl' : ∀ op ∈ u, op.act.low s.w.heap.size)
  (hc : x'.counted = (s.S k).counted) (hcc : (s.S k).counted = true) (hr : x'.released ↔ (s.S k).released) (he : x'.errand = false) (he' : (s.S k).errand = false)
  (own : WSt P ty Wg st (axOf Base.X s.γ k) (s.γ.c k) (s.γ.dn k (pcell Base.X s.w k)) (Deaf s.t (s.γ.J + k)) g' (s.V (s.γ.J + k)) x')
  (hopen : s.cl k = false → x'.says = (s.S k).says) (hclosed : s.cl k = true → ∃ n, x'.says = (s.S k).says.drop n) (npk : ∀ y l, x' = .park y l → s.cl k = false) (tk : ∀ n, s.ms ≠ .park n k)
  (low : x'.stage < (s.S k).stage ∨ (x'.stage = (s.S k).stage ∧ Lvl.lt x'.lvl (s.S k).lvl)) (hos : w'.os = s.w.os ∧ w'.output = s.w.output := by exact ⟨rfl, rfl⟩) :
  ∃ s', MI P ty Wg st Base Post Shun p s' ∧ Falls s'.mea s.mea ∧ s'.gs = s.gs.setIfInBounds (s.γ.J + k) g' ∧ s'.w = w' ∧ s'.t = s.t ++ u := by
 have hJ := h.cr.gJ
 have hact : Act' s.γ.J s.γ.j (s.γ.J + k) := .inr ⟨by omega, by omega⟩
 have hD : ∀ i, Deaf (s.t ++ u) i = Deaf s.t i := fun i => Go.ConcN.Deaf_still s.t i u fun op hop => ⟨hdf op hop _, hdf op hop _⟩
 have hchk : ∀ k', k' < s.γ.j → k' ≠ k → w'.heap[s.γ.c k']? = s.w.heap[s.γ.c k']? := fun k' hk' hne => ho _ fun x => hne (h.cinj k' k hk' hk x)
 have hwg : w'.heap[Wg]? = s.w.heap[Wg]? := ho _ fun x => h.cwg k hk x.symm
 have up : ∀ k', k' ≠ k → upd s.S k x' k' = s.S k' := fun k' hne => upd_ne _ _ hne
 have hpc : ∀ k', pcell Base.X w' k' = pcell Base.X s.w k' := fun k' => pcell_blk (ho _ (h.cr.pay.hch k hk)) k'
 obtain ⟨g1, h1, h2⟩ := h.wrk k hk
 have hlt : s.γ.J + k < s.gs.size := (Array.getElem?_eq_some_iff.1 h1).1
 obtain ⟨g0, hg0, hm0⟩ := h.zero
 obtain ⟨hb, hcnt⟩ := books_worker (x' := x') (ms' := s.ms) h.books hk (.inl rfl) hc he he' hwg (gs' := s.gs.setIfInBounds (s.γ.J + k) g') (t' := s.t ++ u) (V' := s.V) (cl' := s.cl)
 refine ⟨{ s with gs := s.gs.setIfInBounds (s.γ.J + k) g', w := w', t := s.t ++ u, V := s.V, S := upd s.S k x', ms := s.ms, cl := s.cl },
  ⟨?_, fun k' hk' => ?_, h.dn, h.form, ⟨g0, ?_, ?_⟩, fun k' hk' => ?_, h.cinj, h.cwg, fun k' hk' hcl => ?_, fun k' hk' hcl => ?_, fun k' hk' hcl y l => ?_, fun n k' en => ?_, h.waits, h.small, hb, fun en => by rw [hcnt]; exact h.late en, fun m en => absurd en (h.no_fin hk hcc m)⟩,
  falls_worker hk rfl low hJ, rfl, rfl, rfl⟩
 ·have hr' := relOf_same (s := s) (k := k) (x' := x') hr (ms' := s.ms) (gs' := s.gs.setIfInBounds (s.γ.J + k) g') (w' := w') (t' := s.t ++ u) (V' := s.V) (cl' := s.cl)
  rw [hr']
  exact (h.cr.words (h.cr.hidc k hk).2 hsz ho hn hg' hdf hl' (fun x hx => (h.cr.bsn x hx).2 k hk) ⟨fun e => h.cr.pay.hch k hk e.symm, fun e => h.cr.pay.lch k hk e.symm⟩ hos).set hact g'
 ·show ∃ g1, (s.gs.setIfInBounds (s.γ.J + k) g')[s.γ.J + k']? = some g1 ∧ WSt P ty Wg st _ _ (s.γ.dn k' (pcell Base.X w' k')) (Deaf (s.t ++ u) _) g1 _ (upd s.S k x' k')
  rw [hD, hpc]
  by_cases hkk : k' = k
  ·subst hkk; rw [upd_same]; exact ⟨g', by simp [hlt], own⟩
  ·obtain ⟨gk, h3, h4⟩ := h.wrk k' hk'
   rw [up k' hkk]
   exact ⟨gk, by rw [Array.getElem?_setIfInBounds_ne (by omega)]; exact h3, h4⟩
 ·show (s.gs.setIfInBounds (s.γ.J + k) g')[0]? = _
  rw [Array.getElem?_setIfInBounds_ne (by omega)]; exact hg0
 ·show MSt P ty Wg st Base Post s.γ (Deaf (s.t ++ u) 0) _ _ _
  rw [hD]; exact hm0
 ·show ∃ a b tm, w'.heap[s.γ.c k']? = _
  by_cases hkk : k' = k
  ·subst hkk; exact hat
  ·rw [hchk k' hk' hkk]; exact h.chan k' hk'
 ·show _ ∧ (upd s.S k x' k').says = _
  by_cases hkk : k' = k
  ·subst hkk; rw [upd_same, hopen hcl]; exact h.open_ k' hk' hcl
  ·rw [up k' hkk]; exact h.open_ k' hk' hcl
 ·show (_ ∧ (upd s.S k x' k').says = []) ∨ (∃ tl, s.γ.σ k' = .eof :: tl ∧ s.γ.shut k' = true ∧ ∃ m', (upd s.S k x' k').says = (Say.eof :: tl).drop m')
  by_cases hkk : k' = k
  ·subst hkk
   rw [upd_same]
   obtain ⟨n, e⟩ := hclosed hcl
   rw [e]
   rcases h.closed k' hk' hcl with ⟨a, b⟩ | ⟨tl, a, b, m, c⟩
   ·exact .inl ⟨a, by rw [b]; simp⟩
   ·exact .inr ⟨tl, a, b, m + n, by rw [c, List.drop_drop]⟩
  ·rw [up k' hkk]; exact h.closed k' hk' hcl
 ·show upd s.S k x' k' ≠ _
  by_cases hkk : k' = k
  ·subst hkk
   rw [upd_same]
   intro e
   have := npk y l e
   rw [show s.cl k' = true from hcl] at this
   cases this
  ·rw [up k' hkk]; exact h.nopark k' hk' hcl y l
 ·obtain ⟨a, b⟩ := h.meet n k' en
  refine ⟨a, ?_⟩
  show ∃ l r, upd s.S k x' k' = _
  by_cases hkk : k' = k
  ·subst hkk; exact absurd en (tk n)
  ·rw [up k' hkk]; exact b
theorem case_made {x : Say} {c : Nat} {z : Value} {w : World} (h : ∃ a b tm, w.heap[c]? = some (.chan 0 #[] false a b tm)) {gs : Array Goroutine} (hp : ∀ b, partners gs c b = []) : NoWays w gs (x.case c z) := by
 obtain ⟨a, b, tm, h⟩ := h
 cases x with
 | send y => exact ways_send_none h (Nat.zero_le _) (hp false)
 | close => exact ways_recv_none h (hp true)
 | recv y => exact ways_recv_none h (hp true)
 | eof => exact ways_recv_none h (hp true)
 | look => exact ways_recv_none h (hp true)
 | put => exact ways_recv_none h (hp true)
/-- ████ A worker at a word that nobody is there for: it parks. ████ -/
theorem MI.parkW (h : MI P ty Wg st Base Post Shun p s) {k : Nat} (hk : k < s.γ.j) {g : Goroutine} (hg : s.gs[s.γ.J + k]? = some g) {x : Say} {l : List Say} (e : s.S k = .talk (x :: l) .nil) (hx : x.talks) (hcl : s.cl k = false) (hnp : ∀ n, s.ms ≠ .park n k) :
  ∃ s', MI P ty Wg st Base Post Shun p s' ∧ Falls s'.mea s.mea ∧ Moves P s (s.γ.J + k) s' := by
 have hJ := h.cr.gJ
 obtain ⟨g₁, h1, h2⟩ := h.wrk k hk
 rw [hg] at h1
 obtain rfl := Option.some.inj h1
 rw [e] at h2
 obtain ⟨hd, hA⟩ := h2
 obtain ⟨hxe, g₂, z, sh, hC, hT⟩ := hA.talk hx
 have hch := h.chan k hk
 rw [hcl] at hch
 have hpart : ∀ b, partners (s.gs.setIfInBounds (s.γ.J + k) ph) (s.γ.c k) b = [] := fun b => partners_nil fun i y hy => by
  rcases getElem?_stand s.gs (s.γ.J + k) i y hy with ⟨_, rfl⟩ | ⟨hne, hy'⟩
  ·exact offersAt_ph _ _
  ·exact h.offers hk hy' hne (fun _ => hnp) b
 obtain ⟨s', a1, a2, a3, a4, a5⟩ := h.wordW hk (g' := parked g₂ #[x.case (s.γ.c k) z] sh) (w' := s.w) (u := #[]) (x' := .park x l) rfl (fun _ _ => rfl) (h.chan k hk) (fun op hop => by simp at hop) (fun op hop => by simp at hop) (fun op hop => by simp at hop) (fun op hop => by simp at hop)
  (by rw [e]; rfl) (by rw [e]; rfl) (by rw [e]; rfl) rfl (by rw [e]; rfl) ⟨hd, hx, hxe, g₂, z, sh, ⟨hC.run₂, hC.run₂, hC.step₂, hC.step₂⟩, rfl, hT⟩ (fun _ => by rw [e]; rfl) (fun x => by rw [hcl] at x; cases x) (fun _ _ _ => hcl) hnp
  (.inr ⟨by rw [e]; simp [WS.stage]; omega, by rw [e]; exact .left _ _ Nat.zero_lt_one⟩)
 refine ⟨s', a1, a2, _, fun sl => ⟨sl, ?_⟩, a5⟩
 rw [a3, a4]
 have hz : (s.γ.J + k == 0) = false := by simp; omega
 exact crowd_waits hg (by rw [hz]; exact hC.step s.w) fun cc hcc => by
  simp only [List.mem_toArray, List.mem_singleton] at hcc
  subst hcc
  exact case_made hch hpart
/-- ████ A worker finds its channel closed. ████ -/
theorem MI.eofW (h : MI P ty Wg st Base Post Shun p s) {k : Nat} (hk : k < s.γ.j) {g : Goroutine} (hg : s.gs[s.γ.J + k]? = some g) {x : Say} {l : List Say} (e : s.S k = .talk (x :: l) .nil) (hx : x.talks) (hcl : s.cl k = true) :
  ∃ s', MI P ty Wg st Base Post Shun p s' ∧ Falls s'.mea s.mea ∧ Moves P s (s.γ.J + k) s' := by
 have hJ := h.cr.gJ
 obtain ⟨g₁, h1, h2⟩ := h.wrk k hk
 rw [hg] at h1
 obtain rfl := Option.some.inj h1
 rw [e] at h2
 obtain ⟨hd, hA⟩ := h2
 obtain ⟨hxe, g₂, z, sh, hC, r, hT⟩ := hA.talk hx
 have hsay := h.closed k hk hcl
 rw [e] at hsay
 obtain rfl : x = .eof := by
  rcases hsay with ⟨_, y⟩ | ⟨tl, y1, _, m, y⟩
  ·simp [WS.says] at y
  ·have hf := h.form k hk
   rw [y1] at hf
   rcases drop_said hf.eof y with z | z
   ·exact z
   ·exact absurd hx z.noTalk.1
 have hnp : ∀ n, s.ms ≠ .park n k := fun n en => by
  have := (h.meet n k en).1
  rw [hcl] at this; cases this
 obtain ⟨a, b, tm, hch⟩ := h.chan k hk
 rw [hcl] at hch
 have hcs := (h.cr.hidc k hk).1
 have hlt : s.γ.J + k < s.gs.size := (Array.getElem?_eq_some_iff.1 hg).1
 have hpart : ∀ b, partners (s.gs.setIfInBounds (s.γ.J + k) ph) (s.γ.c k) b = [] := fun b => partners_nil fun i y hy => by
  rcases getElem?_stand s.gs (s.γ.J + k) i y hy with ⟨_, rfl⟩ | ⟨hne, hy'⟩
  ·exact offersAt_ph _ _
  ·exact h.offers hk hy' hne (fun _ => hnp) b
 obtain ⟨s', a1, a2, a3, a4, a5⟩ := h.wordW hk (g' := after P g₂ .eof (s.γ.c k) z sh) (w' := s.w) (u := #[{ g := s.γ.J + k, fn := g₂.frame.fn, pos := g₂.frame.place, act := .recvClosed (s.γ.c k) }]) (x' := .talk l r) rfl (fun _ _ => rfl) (h.chan k hk)
  (fun op hop => by simp at hop; subst hop; rfl) (fun op hop => by simp at hop; subst hop; exact hlt) (fun op hop m => by simp at hop; subst hop; simp) (fun op hop => by simp at hop; subst hop; exact hcs)
  (by rw [e]; rfl) (by rw [e]; rfl) (by rw [e]; rfl) rfl (by rw [e]; rfl) ⟨hd, hT⟩ (fun y => by rw [hcl] at y; cases y) (fun _ => ⟨1, by rw [e]; rfl⟩) (fun y l' w => by cases w) hnp (.inl (by rw [e]; simp [WS.stage]))
 refine ⟨s', a1, a2, _, fun sl => ⟨sl, ?_⟩, a5⟩
 rw [a3, a4]
 have hz : (s.γ.J + k == 0) = false := by simp; omega
 have := crowd_recv_closed (P := P) (sl := sl) hg (by rw [hz]; exact hC.step s.w) hch (hpart true)
 rw [this]
 simp [MemOp.ofEvents, after, Say.case, Say.val, Say.ok]
end
end Go.Proofs.Ythmgpkcijolljaa
/-
  A worker and goroutine 0 meet.
-/
namespace Go.Proofs.Ythmgpkcijolljaa
open Go.Conc
open Go.ConcN (upd upd_same upd_ne WgLive sumTo)
open Go.ConcR (KK WgAt stA smA rd wr DC0)
set_option linter.unusedSimpArgs false
set_option linter.unusedVariables false
section
variable {P : Program} {ty : TypeId} {Wg : Nat} {st : Bool} {Base : BsP} {Post : Value → World → Prop} {Shun : Loc → Prop} {p : Nat} {s s' : Sit}
/-- The books, where nobody's errand turns. -/
theorem books_like (h : Books ty Wg s) (hj : s'.γ.j = s.γ.j) (hc : s'.cnt = s.cnt) (hr : s'.ms.regd = s.ms.regd) (hb : s'.ms = .wblk → s.ms = .wblk)
  (hS : ∀ k, k < s.γ.j → s'.S k = s.S k ∨ ((s'.S k).errand = false ∧ (s.S k).errand = false)) (hw : s'.w.heap[Wg]? = s.w.heap[Wg]?) : Books ty Wg s' := by
 have wat : ∀ {a b : Int}, WgAt ty Wg s.w a b → WgAt ty Wg s'.w a b := fun x => hw.trans x
 have er : ∀ k, k < s.γ.j → (s'.S k).errand = (s.S k).errand := fun k hk => by
  rcases hS k hk with e | ⟨a, b⟩
  ·rw [e]
  ·rw [a, b]
 have ne : s.noErrand → s'.noErrand := fun e => noErrand_iff.2 fun i hi => (er i (hj ▸ hi)).trans (noErrand_iff.1 e i (hj ▸ hi))
 have oe : ∀ {i}, s.onlyErrand i → s'.onlyErrand i := fun e => onlyErrand_iff.2 fun i hi hne => (er i (hj ▸ hi)).trans (onlyErrand_iff.1 e i (hj ▸ hi) hne)
 have same : ∀ {i}, i < s.γ.j → (s.S i).errand = true → s'.S i = s.S i := fun {i} hi e => by
  rcases hS i hi with x | ⟨_, x⟩
  ·exact x
  ·rw [e] at x; cases x
 cases h with
 | idle r e x => exact .idle (hr.trans r) (ne e) (by rw [hc]; exact wat x)
 | reg r e c x => exact .reg (hr.trans r) (ne e) (by rw [hc]; exact c) (by rw [hc]; exact wat x)
 | ld i r hi e o c x =>
  have ei := same hi (by rcases e with ⟨m, e⟩ | ⟨m, e⟩ <;> (rw [e]; rfl))
  exact .ld i (hr.trans r) (by rw [hj]; exact hi) (by rw [ei]; exact e) (oe o) (by rw [hc]; exact c) (wat x)
 | sem i r hi e o c x =>
  have ei := same hi (by obtain ⟨m, e⟩ := e; rw [e]; rfl)
  exact .sem i (hr.trans r) (by rw [hj]; exact hi) (by rw [ei]; exact e) (oe o) (by rw [hc]; exact c) (wat x)
 | post r b e c x => exact .post (hr.trans r) (fun y => b (hb y)) (ne e) (by rw [hc]; exact c) (wat x)
/-- A word passes between worker k and goroutine 0. -/
theorem MI.passes (h : MI P ty Wg st Base Post Shun p s) {k : Nat} (hk : k < s.γ.j) {x : Say} {l : List Say} {gW gM : Goroutine} {w' : World} {u : Trace} {r rm : Rk} {n : Nat} {gs' : Array Goroutine}
  (hgs : gs' = (s.gs.setIfInBounds 0 gM).setIfInBounds (s.γ.J + k) gW)
  (hsz : w'.heap.size = s.w.heap.size) (ho : ∀ b, b ≠ s.γ.c k → w'.heap[b]? = s.w.heap[b]?) (hat : ∃ a b tm, w'.heap[s.γ.c k]? = some (.chan 0 #[] (s.cl k) a b tm))
  (hn : ∀ op ∈ u, op.act.touch? = none) (hg' : ∀ op ∈ u, op.g < s.gs.size) (hdf : ∀ op ∈ u, ∀ m, op.act ≠ .mark m) (hl' : ∀ op ∈ u, op.act.low s.w.heap.size)
  (hx : x.talks) (hxm : x.mine) (hsay : (s.S k).says = x :: l) (hcl : s.cl k = false)
  (hleft : n + 1 < s.ms.left) (hadd : s.ms.added = false) (hreg : s.ms.regd = false)
  (ownW : WSt P ty Wg st (axOf Base.X s.γ k) (s.γ.c k) (s.γ.dn k (pcell Base.X s.w k)) (Deaf s.t (s.γ.J + k)) gW (s.V (s.γ.J + k)) (.talk l r))
  (ownM : MSt P ty Wg st Base Post (s.γ.past x k l) (Deaf s.t 0) gM (s.V 0) (.walk n rm)) (hos : w'.os = s.w.os ∧ w'.output = s.w.output := by exact ⟨rfl, rfl⟩) :
  ∃ s', MI P ty Wg st Base Post Shun p s' ∧ Falls s'.mea s.mea ∧ s'.gs = gs' ∧ s'.w = w' ∧ s'.t = s.t ++ u := by
 have hJ := h.cr.gJ
 have hact : Act' s.γ.J s.γ.j (s.γ.J + k) := .inr ⟨by omega, by omega⟩
 have hD : ∀ i, Deaf (s.t ++ u) i = Deaf s.t i := fun i => Go.ConcN.Deaf_still s.t i u fun op hop => ⟨hdf op hop _, hdf op hop _⟩
 have hchk : ∀ k', k' < s.γ.j → k' ≠ k → w'.heap[s.γ.c k']? = s.w.heap[s.γ.c k']? := fun k' hk' hne => ho _ fun x => hne (h.cinj k' k hk' hk x)
 have hwg : w'.heap[Wg]? = s.w.heap[Wg]? := ho _ fun x => h.cwg k hk x.symm
 have hγ : s.γ.past x k l = { s.γ with σ := upd s.γ.σ k l } := by cases x <;> first | rfl | exact hx.elim
 rw [hγ] at ownM
 have up : ∀ k', k' ≠ k → upd s.S k (.talk l r) k' = s.S k' := fun k' hne => upd_ne _ _ hne
 have hpc : ∀ k', pcell Base.X w' k' = pcell Base.X s.w k' := fun k' => pcell_blk (ho _ (h.cr.pay.hch k hk)) k'
 have hfl : Formed l := by
  have h1 := h.form k hk
  rw [← (h.open_ k hk hcl).2, hsay] at h1
  exact h1.tail (by rintro rfl; exact hxm)
 obtain ⟨hc1, hr1, he1⟩ : (s.S k).counted = true ∧ ¬ (s.S k).released ∧ (s.S k).errand = false := by
  cases e : s.S k with
  | talk l' r' => exact ⟨rfl, id, rfl⟩
  | park y l' => exact ⟨rfl, id, rfl⟩
  | _ => rw [e] at hsay; simp [WS.says] at hsay
 obtain ⟨g1, h1, h2⟩ := h.wrk k hk
 have hlt : s.γ.J + k < s.gs.size := (Array.getElem?_eq_some_iff.1 h1).1
 obtain ⟨g0, hg0, hm0⟩ := h.zero
 have hlt0 : 0 < s.gs.size := (Array.getElem?_eq_some_iff.1 hg0).1
 have hcnt : ({ s with γ := { s.γ with σ := upd s.γ.σ k l }, gs := gs', w := w', t := s.t ++ u, S := upd s.S k (.talk l r), ms := .walk n rm } : Sit).cnt = s.cnt := by
  unfold Sit.cnt
  simp only [hadd]
  show s.γ.owed + _ + _ = _
  have ei : ∀ i, (upd s.S k (.talk l r) i).counted = (s.S i).counted := by
   intro i
   by_cases hik : i = k
   ·subst hik; rw [upd_same, hc1]; rfl
   ·rw [up i hik]
  have : sumTo s.γ.j (fun k' => if (upd s.S k (.talk l r) k').counted = true then 1 else 0) = sumTo s.γ.j (fun k' => if (s.S k').counted = true then 1 else 0) := sumTo_cong fun i _ => by simp only [ei i]
  show s.γ.owed + 0 + sumTo s.γ.j (fun k' => if (upd s.S k (.talk l r) k').counted = true then 1 else 0) = _
  rw [this]; rfl
 have hrel : ∀ i, (∃ k', k' < s.γ.j ∧ i = s.γ.J + k' ∧ (upd s.S k (.talk l r) k').released) ↔ s.relOf i := by
  intro i
  refine exists_congr fun k' => and_congr Iff.rfl (and_congr Iff.rfl ?_)
  by_cases hkk : k' = k
  ·subst hkk; rw [upd_same]; exact ⟨fun y => y.elim, fun y => absurd y hr1⟩
  ·rw [up k' hkk]
 refine ⟨{ s with γ := { s.γ with σ := upd s.γ.σ k l }, gs := gs', w := w', t := s.t ++ u, S := upd s.S k (.talk l r), ms := .walk n rm },
  ⟨?_, fun k' hk' => ?_, h.dn, fun k' hk' => ?_, ⟨gM, ?_, ?_⟩, fun k' hk' => ?_, h.cinj, h.cwg, fun k' hk' hc => ?_, fun k' hk' hc => ?_, fun k' hk' hc y l' => ?_, fun n k' en => (by cases en), fun en => (by cases en), h.small, ?_, ?_, fun m en => (by cases en)⟩,
  .inl hleft, rfl, rfl, rfl⟩
 ·have hr' : (fun i => ∃ k', k' < s.γ.j ∧ i = s.γ.J + k' ∧ (upd s.S k (.talk l r) k').released) = s.relOf := funext fun i => propext (hrel i)
  show Cr P Wg st Base Shun p s.γ.J s.γ.j s.γ.c (fun i => ∃ k', k' < s.γ.j ∧ i = s.γ.J + k' ∧ (upd s.S k (.talk l r) k').released) gs' w' (s.t ++ u) s.q s.V
  rw [hr', hgs]
  exact ((h.cr.words (h.cr.hidc k hk).2 hsz ho hn hg' hdf hl' (fun x hx => (h.cr.bsn x hx).2 k hk) ⟨fun e => h.cr.pay.hch k hk e.symm, fun e => h.cr.pay.lch k hk e.symm⟩ hos).set (.inl rfl) gM).set hact gW
 ·show ∃ g1, gs'[s.γ.J + k']? = some g1 ∧ WSt P ty Wg st (axOf Base.X s.γ k') _ (s.γ.dn k' (pcell Base.X w' k')) (Deaf (s.t ++ u) _) g1 _ (upd s.S k (.talk l r) k')
  rw [hD, hgs, hpc]
  by_cases hkk : k' = k
  ·subst hkk; rw [upd_same]; exact ⟨gW, by simp [hlt], ownW⟩
  ·obtain ⟨gk, h3, h4⟩ := h.wrk k' hk'
   rw [up k' hkk]
   exact ⟨gk, by rw [Array.getElem?_setIfInBounds_ne (by omega), Array.getElem?_setIfInBounds_ne (by omega)]; exact h3, h4⟩
 ·show Formed (upd s.γ.σ k l k')
  by_cases hkk : k' = k
  ·subst hkk; rw [upd_same]; exact hfl
  ·rw [upd_ne _ _ hkk]; exact h.form k' hk'
 ·show gs'[0]? = _
  rw [hgs, Array.getElem?_setIfInBounds_ne (by omega)]; simp [hlt0]
 ·show MSt P ty Wg st Base Post _ (Deaf (s.t ++ u) 0) _ _ _
  rw [hD]; exact ownM
 ·show ∃ a b tm, w'.heap[s.γ.c k']? = _
  by_cases hkk : k' = k
  ·subst hkk; exact hat
  ·rw [hchk k' hk' hkk]; exact h.chan k' hk'
 ·show _ ∧ (upd s.S k (.talk l r) k').says = upd s.γ.σ k l k'
  by_cases hkk : k' = k
  ·subst hkk; rw [upd_same, upd_same]; exact ⟨(h.open_ k' hk' hc).1, rfl⟩
  ·rw [up k' hkk, upd_ne _ _ hkk]; exact h.open_ k' hk' hc
 ·have hkk : k' ≠ k := by rintro rfl; rw [show s.cl k' = true from hc] at hcl; cases hcl
  show (upd s.γ.σ k l k' = _ ∧ (upd s.S k (.talk l r) k').says = []) ∨ (∃ tl, upd s.γ.σ k l k' = .eof :: tl ∧ s.γ.shut k' = true ∧ ∃ m', (upd s.S k (.talk l r) k').says = (Say.eof :: tl).drop m')
  rw [up k' hkk, upd_ne _ _ hkk]; exact h.closed k' hk' hc
 ·have hkk : k' ≠ k := by rintro rfl; rw [show s.cl k' = true from hc] at hcl; cases hcl
  show upd s.S k (.talk l r) k' ≠ _
  rw [up k' hkk]; exact h.nopark k' hk' hc y l'
 ·refine books_like h.books rfl hcnt ?_ (fun e => by cases e) (fun i hi => ?_) hwg
  ·rw [hreg]; rfl
  ·show upd s.S k (.talk l r) i = _ ∨ ((upd s.S k (.talk l r) i).errand = _ ∧ _)
   by_cases hik : i = k
   ·subst hik; rw [upd_same]; exact .inr ⟨rfl, he1⟩
   ·rw [up i hik]; exact .inl rfl
 ·rintro ⟨m, e | e | e | e⟩ <;> cases e
/-- The four entries of a meeting. -/
theorem meet_ops {a b c n m cap : Nat} {N B : Nat} (ha : a < N) (hb : b < N) (hc : c < B) (f f' : FuncId) (p p' : String) :
  ∀ op ∈ (#[{ g := a, fn := f, pos := p, act := .send c n }, { g := b, fn := f', pos := p', act := .recv c m cap }, { g := a, fn := f, pos := p, act := .sendDone c n }, { g := b, fn := f', pos := p', act := .recvDone c m }] : Trace), op.act.touch? = none ∧ op.g < N ∧ (∀ m, op.act ≠ .mark m) ∧ op.act.low B := by
 intro op hop
 simp only [List.mem_toArray, List.mem_cons, List.not_mem_nil, or_false] at hop
 rcases hop with rfl | rfl | rfl | rfl
 ·exact ⟨rfl, ha, by simp, hc⟩
 ·exact ⟨rfl, hb, by simp, hc⟩
 ·exact ⟨rfl, ha, by simp, hc⟩
 ·exact ⟨rfl, hb, by simp, hc⟩
theorem setChan_size {w : World} {c cap a b : Nat} {buf : Array Value} {sh tm : Bool} : (w.setChan c cap buf sh a b tm).heap.size = w.heap.size := by simp [World.setChan]
theorem setChan_at {w : World} {c cap a b : Nat} {buf : Array Value} {sh tm : Bool} (h : c < w.heap.size) : (w.setChan c cap buf sh a b tm).heap[c]? = some (.chan cap buf sh a b tm) := by simp [World.setChan, h]
theorem setChan_other {w : World} {c cap a b c' : Nat} {buf : Array Value} {sh tm : Bool} (h : c' ≠ c) : (w.setChan c cap buf sh a b tm).heap[c']? = w.heap[c']? := by simp [World.setChan, Array.getElem?_setIfInBounds_ne (fun e => h e.symm)]
/-- ████ A worker comes to where goroutine 0 is parked. ████ -/
theorem MI.meetW (h : MI P ty Wg st Base Post Shun p s) {k : Nat} (hk : k < s.γ.j) {g : Goroutine} (hg : s.gs[s.γ.J + k]? = some g) {x : Say} {l : List Say} (e : s.S k = .talk (x :: l) .nil) (hx : x.talks) {n : Nat} (hpk : s.ms = .park n k) :
  ∃ s', MI P ty Wg st Base Post Shun p s' ∧ Falls s'.mea s.mea ∧ Moves P s (s.γ.J + k) s' := by
 have hJ := h.cr.gJ
 obtain ⟨g₁, h1, h2⟩ := h.wrk k hk
 rw [hg] at h1
 obtain rfl := Option.some.inj h1
 rw [e] at h2
 obtain ⟨hd, hA⟩ := h2
 obtain ⟨hxe, g₂, z, sh, hC, r, hT⟩ := hA.talk hx
 have hcl := (h.meet n k hpk).1
 have hsay := (h.open_ k hk hcl).2
 obtain ⟨g0, hg0, hm0⟩ := h.zero
 rw [hpk] at hm0
 obtain ⟨hd0, _, x', l', zm, shm, gm, hσ, hxne, hCm, rfl, hN⟩ := hm0
 have e2 : x = x' ∧ l = l' := by rw [e, hσ] at hsay; simpa [WS.says] using hsay
 obtain ⟨rfl, rfl⟩ := e2
 obtain ⟨a, b, tm, hch⟩ := h.chan k hk
 rw [hcl] at hch
 have hcs := (h.cr.hidc k hk).1
 have hlt : s.γ.J + k < s.gs.size := (Array.getElem?_eq_some_iff.1 hg).1
 have hlt0 : 0 < s.gs.size := (Array.getElem?_eq_some_iff.1 hg0).1
 have hne0 : (0 : Nat) ≠ s.γ.J + k := by omega
 have hz : (s.γ.J + k == 0) = false := by simp; omega
 have hg0' : (s.gs.setIfInBounds (s.γ.J + k) ph)[0]? = some (parked gm #[x.mate.case (s.γ.c k) zm] shm) := stand_get hne0 hg0
 have hpart : ∀ bb, partners (s.gs.setIfInBounds (s.γ.J + k) ph) (s.γ.c k) bb = (offersAt (parked gm #[x.mate.case (s.γ.c k) zm] shm) (s.γ.c k) bb).map fun m => (0, m) := fun bb => partners_one hg0' fun i y hne hy => by
  rcases getElem?_stand s.gs (s.γ.J + k) i y hy with ⟨_, rfl⟩ | ⟨hne', hy'⟩
  ·exact offersAt_ph _ _
  ·exact h.offers hk hy' hne' (fun e => absurd e hne) bb
 cases n with
 | zero => exact hN.elim
 | succ n =>
 obtain ⟨rm, hN⟩ := hN
 obtain ⟨w', hw'⟩ : ∃ w', w' = s.w.setChan (s.γ.c k) 0 #[] false (a + 1) (b + 1) tm := ⟨_, rfl⟩
 have sz : w'.heap.size = s.w.heap.size := by rw [hw']; exact setChan_size
 have wos : w'.os = s.w.os ∧ w'.output = s.w.output := by rw [hw']; exact ⟨rfl, rfl⟩
 have oth : ∀ c', c' ≠ s.γ.c k → w'.heap[c']? = s.w.heap[c']? := fun c' hc' => by rw [hw']; exact setChan_other hc'
 have att : w'.heap[s.γ.c k]? = some (.chan 0 #[] (s.cl k) (a + 1) (b + 1) tm) := by rw [hw', hcl]; exact setChan_at hcs
 have pass := fun u (hu : ∀ op ∈ (u : Trace), op.act.touch? = none ∧ op.g < s.gs.size ∧ (∀ m, op.act ≠ .mark m) ∧ op.act.low s.w.heap.size) =>
  h.passes hk (hos := wos) (x := x) (l := l) (gW := after P g₂ x (s.γ.c k) z sh) (gM := after P gm x.mate (s.γ.c k) zm shm) (w' := w') (u := u) (r := r) (rm := rm) (n := n) rfl sz oth ⟨_, _, _, att⟩ (fun op hop => (hu op hop).1) (fun op hop => (hu op hop).2.1) (fun op hop => (hu op hop).2.2.1) (fun op hop => (hu op hop).2.2.2)
   hx hxne (by rw [e]; rfl) hcl (by rw [hpk]; exact Nat.lt_succ_self _) (by rw [hpk]; rfl) (by rw [hpk]; rfl) ⟨hd, hT⟩ ⟨hd0, hN⟩
 cases x with
 | close => exact hx.elim
 | look => exact hx.elim
 | put => exact hx.elim
 | eof => exact hxne.elim
 | send y =>
  have run := fun sl => crowd_send_meets (P := P) (sl := sl) hg (by rw [hz]; exact hC.step s.w) hch hne0 hg0 (by rw [hpart false]; simp [Say.mate, Say.case, offersAt_parked_recv])
  obtain ⟨s', a1, a2, a3, a4, a5⟩ := pass _ (meet_ops (n := a) (m := b) (cap := 0) hlt hlt0 hcs g₂.frame.fn gm.frame.fn g₂.frame.place gm.frame.place)
  refine ⟨s', a1, a2, _, fun sl => ⟨sl, ?_⟩, a5⟩
  rw [a3, a4, run sl, hw']
  simp [MemOp.ofEvents, after, Say.case, Say.val, Say.ok, Say.mate]
 | recv y =>
  have run := fun sl => crowd_recv_meets (P := P) (sl := sl) hg (by rw [hz]; exact hC.step s.w) hch hne0 hg0 (by rw [hpart true]; simp [Say.mate, Say.case, offersAt_parked_send])
  obtain ⟨s', a1, a2, a3, a4, a5⟩ := pass _ (meet_ops (n := a) (m := b) (cap := 0) hlt0 hlt hcs gm.frame.fn g₂.frame.fn gm.frame.place g₂.frame.place)
  refine ⟨s', a1, a2, _, fun sl => ⟨sl, ?_⟩, a5⟩
  rw [a3, a4, run sl, hw']
  simp [MemOp.ofEvents, after, Say.case, Say.val, Say.ok, Say.mate]
/-- ████ Goroutine 0 comes to where worker k is parked. ████ -/
theorem MI.meetM (h : MI P ty Wg st Base Post Shun p s) {k : Nat} (hk : k < s.γ.j) {g : Goroutine} (hg : s.gs[0]? = some g) {x : Say} {l : List Say} (e : s.S k = .park x l) {n : Nat} {rk : Rk} (hpk : s.ms = .walk n rk) {gm : Goroutine} {zm : Value} {shm : CommShape}
  (hx : x.mine) (hd0 : Deaf s.t 0 = 0) (hCm : Comm P true g gm #[x.mate.case (s.γ.c k) zm] shm) (hN : MNext P ty Wg st Base Post n (s.γ.past x k l) (after P gm x.mate (s.γ.c k) zm shm) (s.V 0)) :
  ∃ s', MI P ty Wg st Base Post Shun p s' ∧ Falls s'.mea s.mea ∧ Moves P s 0 s' := by
 have hJ := h.cr.gJ
 have hcl := park_open h hk e
 obtain ⟨g₁, h1, h2⟩ := h.wrk k hk
 rw [e] at h2
 obtain ⟨hd, hxc, hxe, g₂, z, sh, hC, rfl, r, hT⟩ := h2
 have hsay := (h.open_ k hk hcl).2
 obtain ⟨a, b, tm, hch⟩ := h.chan k hk
 rw [hcl] at hch
 have hcs := (h.cr.hidc k hk).1
 have hlt : s.γ.J + k < s.gs.size := (Array.getElem?_eq_some_iff.1 h1).1
 have hlt0 : 0 < s.gs.size := (Array.getElem?_eq_some_iff.1 hg).1
 have hne0 : s.γ.J + k ≠ 0 := by omega
 have hz : (0 == 0) = true := rfl
 have h1' : (s.gs.setIfInBounds 0 ph)[s.γ.J + k]? = some (parked g₂ #[x.case (s.γ.c k) z] sh) := stand_get hne0 h1
 have hpart : ∀ bb, partners (s.gs.setIfInBounds 0 ph) (s.γ.c k) bb = (offersAt (parked g₂ #[x.case (s.γ.c k) z] sh) (s.γ.c k) bb).map fun m => (s.γ.J + k, m) := fun bb => partners_one h1' fun i y hne hy => by
  rcases getElem?_stand s.gs 0 i y hy with ⟨_, rfl⟩ | ⟨hne', hy'⟩
  ·exact offersAt_ph _ _
  ·exact h.offers hk hy' hne (fun e => absurd e hne') bb
 cases n with
 | zero => exact hN.elim
 | succ n =>
 obtain ⟨rm, hN⟩ := hN
 obtain ⟨w', hw'⟩ : ∃ w', w' = s.w.setChan (s.γ.c k) 0 #[] false (a + 1) (b + 1) tm := ⟨_, rfl⟩
 have sz : w'.heap.size = s.w.heap.size := by rw [hw']; exact setChan_size
 have wos : w'.os = s.w.os ∧ w'.output = s.w.output := by rw [hw']; exact ⟨rfl, rfl⟩
 have oth : ∀ c', c' ≠ s.γ.c k → w'.heap[c']? = s.w.heap[c']? := fun c' hc' => by rw [hw']; exact setChan_other hc'
 have att : w'.heap[s.γ.c k]? = some (.chan 0 #[] (s.cl k) (a + 1) (b + 1) tm) := by rw [hw', hcl]; exact setChan_at hcs
 have pass := fun u (hu : ∀ op ∈ (u : Trace), op.act.touch? = none ∧ op.g < s.gs.size ∧ (∀ m, op.act ≠ .mark m) ∧ op.act.low s.w.heap.size) =>
  h.passes hk (hos := wos) (x := x) (l := l) (gW := after P g₂ x (s.γ.c k) z sh) (gM := after P gm x.mate (s.γ.c k) zm shm) (w' := w') (u := u) (r := r) (rm := rm) (n := n) (gs' := (s.gs.setIfInBounds (s.γ.J + k) (after P g₂ x (s.γ.c k) z sh)).setIfInBounds 0 (after P gm x.mate (s.γ.c k) zm shm)) (Array.setIfInBounds_comm _ _ hne0) sz oth ⟨_, _, _, att⟩ (fun op hop => (hu op hop).1) (fun op hop => (hu op hop).2.1) (fun op hop => (hu op hop).2.2.1) (fun op hop => (hu op hop).2.2.2)
   hxc hx (by rw [e]; rfl) hcl (by rw [hpk]; exact Nat.lt_succ_self _) (by rw [hpk]; rfl) (by rw [hpk]; rfl) ⟨hd, hT⟩ ⟨hd0, hN⟩
 cases x with
 | close => exact hxc.elim
 | look => exact hxc.elim
 | put => exact hxc.elim
 | eof => exact hx.elim
 | recv y =>
  have run := fun sl => crowd_send_meets (P := P) (sl := sl) hg (by rw [hz]; exact hCm.step s.w) hch hne0 h1 (by rw [hpart false]; simp [Say.mate, Say.case, offersAt_parked_recv])
  obtain ⟨s', a1, a2, a3, a4, a5⟩ := pass _ (meet_ops (n := a) (m := b) (cap := 0) hlt0 hlt hcs gm.frame.fn g₂.frame.fn gm.frame.place g₂.frame.place)
  refine ⟨s', a1, a2, _, fun sl => ⟨sl, ?_⟩, a5⟩
  rw [a3, a4, run sl, hw']
  simp [MemOp.ofEvents, after, Say.case, Say.val, Say.ok, Say.mate]
 | send y =>
  have run := fun sl => crowd_recv_meets (P := P) (sl := sl) hg (by rw [hz]; exact hCm.step s.w) hch hne0 h1 (by rw [hpart true]; simp [Say.mate, Say.case, offersAt_parked_send])
  obtain ⟨s', a1, a2, a3, a4, a5⟩ := pass _ (meet_ops (n := a) (m := b) (cap := 0) hlt hlt0 hcs g₂.frame.fn gm.frame.fn g₂.frame.place gm.frame.place)
  refine ⟨s', a1, a2, _, fun sl => ⟨sl, ?_⟩, a5⟩
  rw [a3, a4, run sl, hw']
  simp [MemOp.ofEvents, after, Say.case, Say.val, Say.ok, Say.mate]
end
end Go.Proofs.Ythmgpkcijolljaa
/-
  Goroutine 0's own step: the invariant behind it.
-/
namespace Go.Proofs.Ythmgpkcijolljaa
open Go.Conc
open Go.ConcN (upd upd_same upd_ne WgLive sumTo)
open Go.ConcR (KK WgAt stA smA rd wr DC0)
set_option linter.unusedSimpArgs false
set_option linter.unusedVariables false
section
variable {P : Program} {ty : TypeId} {Wg : Nat} {st : Bool} {Base : BsP} {Post : Value → World → Prop} {Shun : Loc → Prop} {p : Nat} {s s' : Sit}
/-- What stands in the way of a late stage. -/
def MS.late (x : MS) : Prop := ∃ m, x = .wld m ∨ x = .wen m ∨ x = .wacq m ∨ x = .wfin m
def Low (x y : MS) (c c' : Nat) : Prop := x.left < y.left ∨ (x.left = y.left ∧ Prod.Lex (· < ·) Lvl.lt (x.rank c') (y.rank c))
theorem Low.of {x y : MS} {c c' : Nat} (hl : x.left = y.left) (h : (x.rank c').1 < (y.rank c).1) : Low x y c c' := .inr ⟨hl, by
 revert h
 cases x.rank c' with
 | mk a b => cases y.rank c with
  | mk a' b' => exact fun h => .left _ _ h⟩
theorem Low.inner {x y : MS} {c c' n m m' : Nat} (hl : x.left = y.left) (e1 : x.rank c' = (n, m, .nil)) (e2 : y.rank c = (n, m', .nil)) (h : m < m') : Low x y c c' := .inr ⟨hl, by rw [e1, e2]; exact .right _ (.left _ _ h)⟩
theorem falls_main (e1 : s'.γ.J = s.γ.J) (e2 : s'.γ.j = s.γ.j) (e3 : s'.S = s.S) (e4 : s'.q = s.q) (h : Low s'.ms s.ms s.cnt s'.cnt) : Falls s'.mea s.mea := by
 rcases h with h | ⟨h1, h2⟩
 ·exact .inl h
 ·refine .inr ⟨h1, .inr ⟨?_, ?_, .inr ⟨?_, h2⟩⟩⟩
  ·show sumTo s'.γ.j (fun k => (s'.S k).stage) = sumTo s.γ.j (fun k => (s.S k).stage)
   rw [e2, e3]
  ·show s'.γ.J + s'.γ.j = s.γ.J + s.γ.j
   rw [e1, e2]
  ·show s'.lvl = s.lvl
   funext i
   simp only [Sit.lvl, e1, e2, e3, e4]
theorem cnt_ms (e1 : s'.γ.j = s.γ.j) (e3 : s'.S = s.S) : s'.cnt + (s.γ.owed + if s.ms.added then 1 else 0) = s.cnt + (s'.γ.owed + if s'.ms.added then 1 else 0) := by
 unfold Sit.cnt
 rw [e1, e3]
 omega
/-- ████ Goroutine 0's own step. ████ -/
theorem MI.main (h : MI P ty Wg st Base Post Shun p s) {g g' : Goroutine} (hg : s.gs[0]? = some g) {es : Array Event} {w' v' : World} {ms' : MS} (hgo : stepG P true g s.w = .go g' w' es)
  (cr : Cr P Wg st Base Shun p s.γ.J s.γ.j s.γ.c s.relOf ((s.gs.map (woken P g g' w')).setIfInBounds 0 g') w' (s.t ++ MemOp.ofEvents 0 g.frame.fn g.frame.place es) s.q (upd s.V 0 v'))
  (own : MSt P ty Wg st Base Post s.γ (deafBehind (Deaf s.t 0) es) g' v' ms')
  (hch : ∀ k', k' < s.γ.j → w'.heap[s.γ.c k']? = s.w.heap[s.γ.c k']?) (hH : w'.heap[Base.X.H]? = s.w.heap[Base.X.H]?)
  (npk : ∀ n k, ms' ≠ .park n k) (hwt : ms'.waits = true → s.ms.waits = true)
  (bk : ∀ s' : Sit, s'.γ = s.γ → s'.S = s.S → s'.ms = ms' → s'.w = w' → Books ty Wg s' ∧ (ms'.late → s'.cnt = 0))
  (fin : ∀ m, ms' = .wfin m → Past (fun l => Shun l ∨ OfB Wg l) w'.heap.size (s.t ++ MemOp.ofEvents 0 g.frame.fn g.frame.place es))
  (low : ∀ c', c' + (if s.ms.added then 1 else 0) = s.cnt + (if ms'.added then 1 else 0) → Low ms' s.ms s.cnt c') :
  ∃ s', MI P ty Wg st Base Post Shun p s' ∧ Falls s'.mea s.mea ∧ Moves P s 0 s' := by
 have hl := h.books.live
 have hJ := h.cr.gJ
 have hlt : 0 < s.gs.size := (Array.getElem?_eq_some_iff.1 hg).1
 have hD : ∀ i, i ≠ 0 → Deaf (s.t ++ MemOp.ofEvents 0 g.frame.fn g.frame.place es) i = Deaf s.t i := fun i hi => Deaf_other s.t (fun e => hi e.symm) _ ofEvents_g
 obtain ⟨hb, hlate⟩ := bk { s with gs := (s.gs.map (woken P g g' w')).setIfInBounds 0 g', w := w', t := s.t ++ MemOp.ofEvents 0 g.frame.fn g.frame.place es, V := upd s.V 0 v', ms := ms' } rfl rfl rfl rfl
 refine ⟨{ s with gs := (s.gs.map (woken P g g' w')).setIfInBounds 0 g', w := w', t := s.t ++ MemOp.ofEvents 0 g.frame.fn g.frame.place es, V := upd s.V 0 v', ms := ms' },
  ⟨cr, fun k hk => ?_, h.dn, h.form, ⟨g', by simp [hlt], ?_⟩, fun k hk => ?_, h.cinj, h.cwg, h.open_, h.closed, h.nopark, fun n k e => absurd e (npk n k), fun e => h.waits (hwt e), h.small, hb, hlate, fin⟩, falls_main rfl rfl rfl rfl (low _ ?_), _, fun sl => ⟨sl, runT_crowd_go hg hgo⟩, rfl⟩
 ·obtain ⟨gk, h1, h2⟩ := h.wrk k hk
  refine ⟨gk, ?_, ?_⟩
  ·show ((s.gs.map (woken P g g' w')).setIfInBounds 0 g')[s.γ.J + k]? = some gk
   rw [Array.getElem?_setIfInBounds_ne (by omega), Array.getElem?_map, h1, Option.map_some]
   rw [woken_wst hl h2 fun y l e => ?_]
   obtain ⟨a, b, tm, h3⟩ := h.chan k hk
   rw [park_open h hk e] at h3
   exact ⟨a, b, tm, by rw [hch k hk]; exact h3⟩
  ·show WSt P ty Wg st _ _ (s.γ.dn k (pcell Base.X w' k)) (Deaf (s.t ++ _) (s.γ.J + k)) gk (upd s.V 0 v' (s.γ.J + k)) (s.S k)
   rw [pcell_blk hH k, hD _ (by omega), upd_ne _ _ (by omega)]
   exact h2
 ·show MSt P ty Wg st Base Post s.γ (Deaf (s.t ++ _) 0) g' (upd s.V 0 v' 0) ms'
  rw [Deaf_own, upd_same]; exact own
 ·show ∃ a b tm, w'.heap[s.γ.c k]? = _
  rw [hch k hk]; exact h.chan k hk
 ·have := cnt_ms (s := s) (s' := { s with gs := (s.gs.map (woken P g g' w')).setIfInBounds 0 g', w := w', t := s.t ++ MemOp.ofEvents 0 g.frame.fn g.frame.place es, V := upd s.V 0 v', ms := ms' }) rfl rfl
  have e1 : (if ms'.added = true then 1 else 0) = if ({ s with gs := (s.gs.map (woken P g g' w')).setIfInBounds 0 g', w := w', t := s.t ++ MemOp.ofEvents 0 g.frame.fn g.frame.place es, V := upd s.V 0 v', ms := ms' } : Sit).ms.added = true then 1 else 0 := rfl
  rw [e1]
  simp only at this ⊢
  omega
/-- ████ Goroutine 0 turns by words that touch nothing; or bears another name. ████ -/
theorem MI.wordM (h : MI P ty Wg st Base Post Shun p s) {gM : Goroutine} {u : Trace} {ms' : MS} {o' : Nat}
  (hn : ∀ op ∈ u, op.act.touch? = none) (hg' : ∀ op ∈ u, op.g < s.gs.size) (hdf : ∀ op ∈ u, ∀ m, op.act ≠ .mark m) (hl' : ∀ op ∈ u, op.act.low s.w.heap.size)
  (own : MSt P ty Wg st Base Post { s.γ with owed := o' } (Deaf s.t 0) gM (s.V 0) ms')
  (hc : (o' + if ms'.added then 1 else 0) = s.γ.owed + if s.ms.added then 1 else 0) (hr : ms'.regd = s.ms.regd) (hb : ms' ≠ .wblk)
  (hwt : ms'.waits = true → o' = 0 ∧ ∀ k, k < s.γ.j → Settled s.γ k) (hsm : s.γ.j + o' + 1 < 2147483647)
  (mt : ∀ n k, ms' = .park n k → s.cl k = false ∧ ∃ l r, s.S k = .talk l r) (hlate : ¬ ms'.late)
  (low : Low ms' s.ms s.cnt s.cnt) :
  ∃ s', MI P ty Wg st Base Post Shun p s' ∧ Falls s'.mea s.mea ∧ s'.gs = s.gs.setIfInBounds 0 gM ∧ s'.w = s.w ∧ s'.t = s.t ++ u := by
 have hJ := h.cr.gJ
 have hD : ∀ i, Deaf (s.t ++ u) i = Deaf s.t i := fun i => Go.ConcN.Deaf_still s.t i u fun op hop => ⟨hdf op hop _, hdf op hop _⟩
 obtain ⟨g0, hg0, hm0⟩ := h.zero
 have hlt : 0 < s.gs.size := (Array.getElem?_eq_some_iff.1 hg0).1
 have hcnt : ({ s with γ := { s.γ with owed := o' }, gs := s.gs.setIfInBounds 0 gM, t := s.t ++ u, ms := ms' } : Sit).cnt = s.cnt := by
  have := cnt_ms (s := s) (s' := { s with γ := { s.γ with owed := o' }, gs := s.gs.setIfInBounds 0 gM, t := s.t ++ u, ms := ms' }) rfl rfl
  have e1 : (({ s with γ := { s.γ with owed := o' }, gs := s.gs.setIfInBounds 0 gM, t := s.t ++ u, ms := ms' } : Sit).γ.owed + if ({ s with γ := { s.γ with owed := o' }, gs := s.gs.setIfInBounds 0 gM, t := s.t ++ u, ms := ms' } : Sit).ms.added = true then 1 else 0) = o' + if ms'.added = true then 1 else 0 := rfl
  rw [e1, hc] at this
  omega
 refine ⟨{ s with γ := { s.γ with owed := o' }, gs := s.gs.setIfInBounds 0 gM, t := s.t ++ u, ms := ms' },
  ⟨?_, fun k hk => ?_, h.dn, h.form, ⟨gM, by simp [hlt], ?_⟩, h.chan, h.cinj, h.cwg, h.open_, h.closed, h.nopark, mt, hwt, hsm, ?_, fun e => absurd e hlate, fun m e => absurd ⟨m, .inr (.inr (.inr e))⟩ hlate⟩, falls_main rfl rfl rfl rfl ?_, rfl, rfl, rfl⟩
 ·exact (h.cr.words (w' := s.w) (b := Wg) h.cr.hidw rfl (fun _ _ => rfl) hn hg' hdf hl' (fun x hx => (h.cr.bsn x hx).1) ⟨fun e => h.cr.pay.hwg e.symm, fun e => h.cr.pay.lwg e.symm⟩ ⟨rfl, rfl⟩).set (.inl rfl) gM
 ·obtain ⟨gk, h1, h2⟩ := h.wrk k hk
  refine ⟨gk, ?_, ?_⟩
  ·show (s.gs.setIfInBounds 0 gM)[s.γ.J + k]? = some gk
   rw [Array.getElem?_setIfInBounds_ne (by omega)]; exact h1
  ·show WSt P ty Wg st _ _ _ (Deaf (s.t ++ u) (s.γ.J + k)) gk _ (s.S k)
   rw [hD]; exact h2
 ·show MSt P ty Wg st Base Post _ (Deaf (s.t ++ u) 0) gM _ ms'
  rw [hD]; exact own
 ·exact books_like h.books rfl hcnt hr (fun e => absurd e hb) (fun k _ => .inl rfl) rfl
 ·rw [hcnt]; exact low
theorem set_self {gs : Array Goroutine} {i : Nat} {g : Goroutine} (h : gs[i]? = some g) : gs.setIfInBounds i g = gs := by
 apply Array.ext_getElem?
 intro k
 by_cases e : i = k
 ·subst e
  rw [h, Array.getElem?_setIfInBounds_self_of_lt (Array.getElem?_eq_some_iff.1 h).1]
 ·rw [Array.getElem?_setIfInBounds_ne e]
/-- .. another name. -/
theorem MI.named (h : MI P ty Wg st Base Post Shun p s) {g : Goroutine} (hg : s.gs[0]? = some g) {ms' : MS} {o' : Nat}
  (own : MSt P ty Wg st Base Post { s.γ with owed := o' } (Deaf s.t 0) g (s.V 0) ms')
  (hc : (o' + if ms'.added then 1 else 0) = s.γ.owed + if s.ms.added then 1 else 0) (hr : ms'.regd = s.ms.regd) (hb : ms' ≠ .wblk)
  (hwt : ms'.waits = true → o' = 0 ∧ ∀ k, k < s.γ.j → Settled s.γ k) (hsm : s.γ.j + o' + 1 < 2147483647)
  (mt : ∀ n k, ms' ≠ .park n k) (hlate : ¬ ms'.late) (low : Low ms' s.ms s.cnt s.cnt) :
  ∃ s', MI P ty Wg st Base Post Shun p s' ∧ Falls s'.mea s.mea ∧ s'.gs = s.gs ∧ s'.w = s.w ∧ s'.t = s.t := by
 obtain ⟨s', a1, a2, a3, a4, a5⟩ := h.wordM (u := #[]) (fun op hop => by simp at hop) (fun op hop => by simp at hop) (fun op hop => by simp at hop) (fun op hop => by simp at hop) own hc hr hb hwt hsm (fun n k e => absurd e (mt n k)) hlate low
 exact ⟨s', a1, a2, by rw [a3, set_self hg], a4, by rw [a5]; simp⟩
/-- ████ Goroutine 0 walks. ████ -/
theorem MI.walkM (h : MI P ty Wg st Base Post Shun p s) {g : Goroutine} (hg : s.gs[0]? = some g) {n : Nat} {f : World → Rk} (e : s.ms = .walk n (.sup f)) :
  ∃ s', MI P ty Wg st Base Post Shun p s' ∧ Falls s'.mea s.mea ∧ Moves P s 0 s' := by
 have hJ := h.cr.gJ
 obtain ⟨g₁, h1, h2⟩ := h.zero
 rw [hg] at h1
 obtain rfl := Option.some.inj h1
 rw [e] at h2
 obtain ⟨hd0, hrun, hstep⟩ := h2
 have hact : Act' s.γ.J s.γ.j 0 := .inl rfl
 have hVi := h.cr.veil _ hact
 obtain ⟨g', v', w', es, hgo, hf, hev, hst, hnext⟩ := hstep s.w hVi (fun x => h.cr.same (by simpa using x)) trivial
 have hch0 : ∀ b, b < s.w.heap.size → Blind (s.V 0) b → w'.heap[b]? = s.w.heap[b]? := fun b hb hB => (hf.shut b (.inl (show ((s.V 0).upto s.w.heap.size).heap[b]? = some hid from hB.hidUp hb))).2
 have hch : ∀ k', k' < s.γ.j → w'.heap[s.γ.c k']? = s.w.heap[s.γ.c k']? := fun k' hk' => hch0 _ (h.cr.hidc k' hk').1 ((h.cr.hidc k' hk').2 _ hact)
 have hwg : w'.heap[Wg]? = s.w.heap[Wg]? := hch0 _ h.cr.wlow (h.cr.hidw _ hact)
 refine h.main hg hgo (v' := v') (ms' := .walk n (f s.w)) ?_ ?_ hch (hch0 _ h.cr.pay.blk.lt (h.cr.pay.hid _ hact)) (fun n k x => by cases x) (fun x => by cases x) (fun s' e1 e2 e3 e4 => ⟨?_, fun ⟨m, x⟩ => by rcases x with x | x | x | x <;> cases x⟩) (fun m x => by cases x) (fun c' hc' => .inr ⟨by rw [e]; rfl, by rw [e]; exact .right _ (.right _ ⟨f, s.w, rfl, rfl⟩)⟩)
 ·exact h.cr.walk hact hg (g' := g') hf hev (fun _ x => absurd rfl x) h.cwg (fun x => by omega)
 ·rw [deafBehind_still (fun x hx => ⟨(evOk_mark (hev x hx)).1, (evOk_mark (hev x hx)).2.1⟩)]
  exact ⟨hd0, hnext⟩
 ·refine books_like h.books (by rw [e1]) ?_ (by rw [e3, e]; rfl) (fun x => by rw [e3] at x; cases x) (fun k _ => .inl (by rw [e2])) (by rw [e4]; exact hwg)
  have := cnt_ms (s := s) (s' := s') (by rw [e1]) e2
  rw [e1, e3, e] at this
  simp only [MS.added, Bool.false_eq_true, if_false] at this
  omega
/-- Its own step in the library. -/
theorem MI.libM (h : MI P ty Wg st Base Post Shun p s) {g g' : Goroutine} (hg : s.gs[0]? = some g) {ms' : MS} (hgo : stepG P true g s.w = .go g' s.w #[])
  (own : MSt P ty Wg st Base Post s.γ (Deaf s.t 0) g' (s.V 0) ms') (ha : ms'.added = s.ms.added) (hr : ms'.regd = s.ms.regd) (hb : ms' = .wblk → s.ms = .wblk ∨ ∃ x, WgAt ty Wg s.w x 0) (npk : ∀ n k, ms' ≠ .park n k) (hwt : ms'.waits = true → s.ms.waits = true) (hlate : ms'.late → s.ms.late ∨ s.cnt = 0) (hfin : ∀ m, ms' = .wfin m → ∃ m, s.ms = .wfin m)
  (low : Low ms' s.ms s.cnt s.cnt) :
  ∃ s', MI P ty Wg st Base Post Shun p s' ∧ Falls s'.mea s.mea ∧ Moves P s 0 s' := by
 have eu : ∀ f pos, MemOp.ofEvents 0 f pos #[] = #[] := fun f pos => by simp [MemOp.ofEvents]
 have hcs : ∀ s' : Sit, s'.γ = s.γ → s'.S = s.S → s'.ms = ms' → s'.cnt = s.cnt := fun s' e1 e2 e3 => by
  have := cnt_ms (s := s) (s' := s') (by rw [e1]) e2
  rw [e1, e3, ha] at this
  omega
 refine h.main hg hgo (v' := s.V 0) (ms' := ms') ?_ (by simpa [deafBehind] using own) (fun _ _ => rfl) rfl npk hwt (fun s' e1 e2 e3 e4 => ⟨?_, fun x => ?_⟩) (fun m x => ?_) (fun c' hc' => ?_)
 ·rw [upd_self]; exact h.cr.idle (.inl rfl) hg
 ·by_cases hbk : ms' = .wblk
  ·rcases hb hbk with hb | ⟨x, hb⟩
   ·exact books_like h.books (by rw [e1]) (hcs s' e1 e2 e3) (by rw [e3]; exact hr) (fun _ => hb) (fun k _ => .inl (by rw [e2])) (by rw [e4])
   ·by_cases hbk' : s.ms = .wblk
    ·exact books_like h.books (by rw [e1]) (hcs s' e1 e2 e3) (by rw [e3]; exact hr) (fun _ => hbk') (fun k _ => .inl (by rw [e2])) (by rw [e4])
    ·-- the books are not 'post': the semaphore stands at 0
     have npost : ∀ y, ¬ WgAt ty Wg s.w y 1 := fun y hy => by
      have := hb.cellSm.symm.trans hy.cellSm
      simp at this
     have er : ∀ i, (s'.S i).errand = (s.S i).errand := fun i => by rw [e2]
     have ne : s.noErrand → s'.noErrand := fun e => noErrand_iff.2 fun i hi => (er i).trans (noErrand_iff.1 e i (by rw [← e1]; exact hi))
     have oe : ∀ {i}, s.onlyErrand i → s'.onlyErrand i := fun e => onlyErrand_iff.2 fun i hi hne => (er i).trans (onlyErrand_iff.1 e i (by rw [← e1]; exact hi) hne)
     have hc := hcs s' e1 e2 e3
     cases h.books with
     | idle r e x => exact .idle (by rw [e3]; exact hr.trans r) (ne e) (by rw [hc, e4]; exact x)
     | reg r e c x => exact .reg (by rw [e3]; exact hr.trans r) (ne e) (by rw [hc]; exact c) (by rw [hc, e4]; exact x)
     | ld i r hi e o c x => exact .ld i (by rw [e3]; exact hr.trans r) (by rw [e1]; exact hi) (by rw [e2]; exact e) (oe o) (by rw [hc]; exact c) (by rw [e4]; exact x)
     | sem i r hi e o c x => exact .sem i (by rw [e3]; exact hr.trans r) (by rw [e1]; exact hi) (by rw [e2]; exact e) (oe o) (by rw [hc]; exact c) (by rw [e4]; exact x)
     | post r b e c x => exact absurd x (npost _)
  ·exact books_like h.books (by rw [e1]) (hcs s' e1 e2 e3) (by rw [e3]; exact hr) (fun x => absurd (by rw [← e3]; exact x) hbk) (fun k _ => .inl (by rw [e2])) (by rw [e4])
 ·rw [hcs s' e1 e2 e3]
  rcases hlate x with x | x
  ·exact h.late x
  ·exact x
 ·obtain ⟨m', x'⟩ := hfin m x
  rw [eu]; simpa using h.fin m' x'
 ·have : c' = s.cnt := by rw [ha] at hc'; omega
  rw [this]; exact low
end
end Go.Proofs.Ythmgpkcijolljaa
/-
  Goroutine 0's words: it talks, closes, adds.
-/
namespace Go.Proofs.Ythmgpkcijolljaa
open Go.Conc
open Go.ConcN (upd upd_same upd_ne WgLive sumTo)
open Go.ConcR (KK WgAt stA smA rd wr DC0)
set_option linter.unusedSimpArgs false
set_option linter.unusedVariables false
section
variable {P : Program} {ty : TypeId} {Wg : Nat} {st : Bool} {Base : BsP} {Post : Value → World → Prop} {Shun : Loc → Prop} {p : Nat} {s s' : Sit}
/-- Nobody offers at channel k while worker k is not parked and goroutine 0 is not. -/
theorem MI.offers_none (h : MI P ty Wg st Base Post Shun p s) {k : Nat} (hk : k < s.γ.j) (hp : ∀ x l, s.S k ≠ .park x l) {i : Nat} {x : Goroutine} (hi : s.gs[i]? = some x) (h0 : i = 0 → ∀ n, s.ms ≠ .park n k) (b : Bool) : offersAt x (s.γ.c k) b = [] := by
 by_cases hne : i = s.γ.J + k
 ·subst hne
  obtain ⟨g', h1, h2⟩ := h.wrk k hk
  rw [hi] at h1
  obtain rfl := Option.some.inj h1
  rcases wst_status h.books.live h2 with h3 | ⟨_, y, l, e⟩ | ⟨h3, _⟩
  ·exact offersAt_of_not_blocked (by rw [h3]; simp) _ _
  ·exact absurd e (hp y l)
  ·exact offersAt_of_not_blocked (by rw [h3]; simp) _ _
 ·exact h.offers hk hi hne h0 b
theorem MI.talkM (h : MI P ty Wg st Base Post Shun p s) {g : Goroutine} (hg : s.gs[0]? = some g) {n : Nat} (e : s.ms = .walk n .nil) {k : Nat} (hk : k < s.γ.j) {x : Say} {l : List Say} {gm : Goroutine} {zm : Value} {shm : CommShape}
  (hσ : s.γ.σ k = x :: l) (hx : x.mine) (hCm : Comm P true g gm #[x.mate.case (s.γ.c k) zm] shm) (hN : MNext P ty Wg st Base Post n (s.γ.past x k l) (after P gm x.mate (s.γ.c k) zm shm) (s.V 0)) :
  ∃ s', MI P ty Wg st Base Post Shun p s' ∧ Falls s'.mea s.mea ∧ Moves P s 0 s' := by
 have hJ := h.cr.gJ
 obtain ⟨g₁, h1, h2⟩ := h.zero
 rw [hg] at h1
 obtain rfl := Option.some.inj h1
 rw [e] at h2
 have hd0 := h2.1
 have hlt : 0 < s.gs.size := (Array.getElem?_eq_some_iff.1 hg).1
 have hcs := (h.cr.hidc k hk).1
 have hnp : ∀ n, s.ms ≠ .park n k := fun n y => by rw [e] at y; cases y
 have hpart : (∀ x l, s.S k ≠ .park x l) → ∀ b, partners (s.gs.setIfInBounds 0 ph) (s.γ.c k) b = [] := fun hp b => partners_nil fun i y hy => by
  rcases getElem?_stand s.gs 0 i y hy with ⟨_, rfl⟩ | ⟨hne, hy'⟩
  ·exact offersAt_ph _ _
  ·exact h.offers_none hk hp hy' (fun _ => hnp) b
 obtain ⟨a, b, tm, hch⟩ := h.chan k hk
 cases hcl : s.cl k with
 | true =>
  rw [hcl] at hch
  obtain ⟨rfl, rfl⟩ : x = .close ∧ l = [] := by
   rcases h.closed k hk hcl with ⟨y, _⟩ | ⟨tl, y, _⟩
   ·rw [hσ] at y; simpa using y
   ·rw [hσ] at y
    have := (List.cons.inj y).1
    subst this
    exact hx.elim
  cases n with
  | zero => exact hN.elim
  | succ n =>
  obtain ⟨rm, hN⟩ := hN
  obtain ⟨s', a1, a2, a3, a4, a5⟩ := h.wordM (gM := after P gm .eof (s.γ.c k) zm shm) (u := #[{ g := 0, fn := gm.frame.fn, pos := gm.frame.place, act := .recvClosed (s.γ.c k) }]) (ms' := .walk n rm) (o' := s.γ.owed)
   (fun op hop => by simp at hop; subst hop; rfl) (fun op hop => by simp at hop; subst hop; exact hlt) (fun op hop m => by simp at hop; subst hop; simp) (fun op hop => by simp at hop; subst hop; exact hcs)
   ⟨hd0, hN⟩ (by rw [e]; rfl) (by rw [e]; rfl) (fun y => by cases y) (fun y => by cases y) h.small (fun n k y => by cases y) (fun ⟨m, y⟩ => by rcases y with y | y | y | y <;> cases y) (.inl (by rw [e]; exact Nat.lt_succ_self _))
  refine ⟨s', a1, a2, _, fun sl => ⟨sl, ?_⟩, a5⟩
  rw [a3, a4]
  have := crowd_recv_closed (P := P) (sl := sl) hg (by exact hCm.step s.w) hch (hpart (h.nopark k hk hcl) true)
  rw [this]
  simp [MemOp.ofEvents, after, Say.case, Say.val, Say.ok]
 | false =>
  have hsay := (h.open_ k hk hcl).2
  rw [hσ] at hsay
  cases hS : s.S k with
  | park y l' =>
   rw [hS] at hsay
   have : y = x ∧ l' = l := by simpa [WS.says] using hsay
   obtain ⟨rfl, rfl⟩ := this
   exact h.meetM hk hg hS e hx hd0 hCm hN
  | talk l' r =>
   rw [hcl] at hch
   obtain ⟨s', a1, a2, a3, a4, a5⟩ := h.wordM (gM := parked gm #[x.mate.case (s.γ.c k) zm] shm) (u := #[]) (ms' := .park n k) (o' := s.γ.owed)
    (fun op hop => by simp at hop) (fun op hop => by simp at hop) (fun op hop => by simp at hop) (fun op hop => by simp at hop)
    ⟨hd0, hk, x, l, zm, shm, gm, hσ, hx, ⟨hCm.run₂, hCm.run₂, hCm.step₂, hCm.step₂⟩, rfl, hN⟩ (by rw [e]; rfl) (by rw [e]; rfl) (fun y => by cases y) (fun y => by cases y) h.small (fun n' k' y => by cases y; exact ⟨hcl, l', r, hS⟩) (fun ⟨m, y⟩ => by rcases y with y | y | y | y <;> cases y)
    (.of (by rw [e]; rfl) (by rw [e]; exact Nat.lt_succ_self 20))
   refine ⟨s', a1, a2, _, fun sl => ⟨sl, ?_⟩, a5⟩
   rw [a3, a4]
   exact crowd_waits hg (by exact hCm.step s.w) fun cc hcc => by
    simp only [List.mem_toArray, List.mem_singleton] at hcc
    subst hcc
    exact case_made ⟨a, b, tm, hch⟩ (hpart fun x l y => by rw [hS] at y; cases y)
  | _ => rw [hS] at hsay; simp [WS.says] at hsay
/-- It closes the channel of a worker that has nothing left but to find it closed. -/
theorem MI.shutM (h : MI P ty Wg st Base Post Shun p s) {g g' : Goroutine} (hg : s.gs[0]? = some g) {n : Nat} (e : s.ms = .walk n .nil) {k : Nat} (hk : k < s.γ.j)
  {tl : List Say} (hσ : s.γ.σ k = .eof :: tl) (hsh : s.γ.shut k = false) (hC : Closes P true (s.γ.c k) g g') (hN : MNext P ty Wg st Base Post n { s.γ with shut := upd s.γ.shut k true } g' (s.V 0)) :
  ∃ s', MI P ty Wg st Base Post Shun p s' ∧ Falls s'.mea s.mea ∧ Moves P s 0 s' := by
 have hl := h.books.live
 have hJ := h.cr.gJ
 obtain ⟨g₁, h1, h2⟩ := h.zero
 rw [hg] at h1
 obtain rfl := Option.some.inj h1
 rw [e] at h2
 have hd0 := h2.1
 have hlt : 0 < s.gs.size := (Array.getElem?_eq_some_iff.1 hg).1
 have hcs := (h.cr.hidc k hk).1
 have hcl : s.cl k = false := by
  cases hc : s.cl k with
  | false => rfl
  | true =>
   rcases h.closed k hk hc with ⟨y, _⟩ | ⟨_, _, y, _⟩
   ·rw [hσ] at y; simp at y
   ·rw [hsh] at y; cases y
 have hsay := (h.open_ k hk hcl).2
 rw [hσ] at hsay
 obtain ⟨a, b, tm, hchan⟩ := h.chan k hk
 rw [hcl] at hchan
 have hgo := hC.2.2.2 s.w a b tm hchan
 obtain ⟨w', hw'⟩ : ∃ w', w' = shutOn s.w (s.γ.c k) a b tm := ⟨_, rfl⟩
 rw [← hw'] at hgo
 have hsz : w'.heap.size = s.w.heap.size := by rw [hw']; exact shutOn_size
 have hwos : w'.os = s.w.os ∧ w'.output = s.w.output := by rw [hw']; exact ⟨rfl, rfl⟩
 have hother : ∀ c', c' ≠ s.γ.c k → w'.heap[c']? = s.w.heap[c']? := fun c' hc' => by rw [hw']; exact shutOn_other hc'
 have hat : w'.heap[s.γ.c k]? = some (.chan 0 #[] true a b tm) := by rw [hw']; exact shutOn_at hcs
 have hchk : ∀ k', k' < s.γ.j → k' ≠ k → w'.heap[s.γ.c k']? = s.w.heap[s.γ.c k']? := fun k' hk' hne => hother _ fun x => hne (h.cinj k' k hk' hk x)
 have hD : ∀ i, Deaf (s.t ++ MemOp.ofEvents 0 g.frame.fn g.frame.place (shutEv (s.γ.c k))) i = Deaf s.t i := by
  intro i
  by_cases hi : i = 0
  ·subst hi
   rw [Deaf_own, deafBehind_still fun x hx => by rcases shutEv_mem hx with rfl | rfl <;> exact ⟨by simp, by simp⟩]
  ·exact Deaf_other s.t (fun x => hi x.symm) _ ofEvents_g
 cases n with
 | zero => exact hN.elim
 | succ n =>
 obtain ⟨rm, hN⟩ := hN
 -- worker k
 obtain ⟨gk, hgk, hWk⟩ := h.wrk k hk
 obtain ⟨xk, hown, hsays, hcnt1, hrel1, herr1, hcnt2, hrel2, herr2, hnpk⟩ : ∃ xk, WSt P ty Wg st (axOf Base.X s.γ k) (s.γ.c k) (s.γ.dn k (pcell Base.X s.w k)) (Deaf s.t (s.γ.J + k)) (woken P g g' w' gk) (s.V (s.γ.J + k)) xk ∧ xk.says = .eof :: tl ∧ xk.counted = true ∧ ¬ xk.released ∧ xk.errand = false ∧ (s.S k).counted = true ∧ ¬ (s.S k).released ∧ (s.S k).errand = false ∧ ∀ y l, xk ≠ .park y l := by
  cases hS : s.S k with
  | talk l r =>
   rw [hS] at hsay hWk
   refine ⟨.talk l r, ?_, hsay, rfl, id, rfl, rfl, id, rfl, fun y l x => by cases x⟩
   rw [woken_wst hl hWk fun y l x => by cases x]
   exact hWk
  | park y l =>
   rw [hS] at hsay hWk
   obtain ⟨hd, hy, hyl, g₂, z, sh, hcm, rfl, hT⟩ := hWk
   obtain ⟨rfl, rfl⟩ : y = .eof ∧ l = tl := by simpa [WS.says] using hsay
   refine ⟨.talk (.eof :: l) .nil, ?_, rfl, rfl, id, rfl, rfl, id, rfl, fun y l x => by cases x⟩
   rw [woken_closed hC.2.2.1 hC.2.1 ⟨a, b, tm, hat⟩]
   exact ⟨hd, trivial, g₂, z, sh, comm_again hcm, hT⟩
  | _ => rw [hS] at hsay; simp [WS.says] at hsay
 have up : ∀ k', k' ≠ k → upd s.S k xk k' = s.S k' := fun k' hne => upd_ne _ _ hne
 have hpc : ∀ k', pcell Base.X w' k' = pcell Base.X s.w k' := fun k' => pcell_blk (hother _ (h.cr.pay.hch k hk)) k'
 have ucl : ∀ k', k' ≠ k → upd s.cl k true k' = s.cl k' := fun k' hne => upd_ne _ _ hne
 have hwg : w'.heap[Wg]? = s.w.heap[Wg]? := hother _ fun x => h.cwg k hk x.symm
 have hcnt : ({ s with γ := { s.γ with shut := upd s.γ.shut k true }, gs := (s.gs.map (woken P g g' w')).setIfInBounds 0 g', w := w', t := s.t ++ MemOp.ofEvents 0 g.frame.fn g.frame.place (shutEv (s.γ.c k)), S := upd s.S k xk, ms := .walk n rm, cl := upd s.cl k true } : Sit).cnt = s.cnt := by
  unfold Sit.cnt
  rw [e]
  show s.γ.owed + _ + _ = _
  congr 1
  have ei : ∀ i, (upd s.S k xk i).counted = (s.S i).counted := by
   intro i
   by_cases hik : i = k
   ·subst hik; rw [upd_same, hcnt1, hcnt2]
   ·rw [up i hik]
  exact sumTo_cong fun i _ => by simp only [ei i]
 have hrel : ∀ i, (∃ k', k' < s.γ.j ∧ i = s.γ.J + k' ∧ (upd s.S k xk k').released) ↔ s.relOf i := by
  intro i
  refine exists_congr fun k' => and_congr Iff.rfl (and_congr Iff.rfl ?_)
  by_cases hkk : k' = k
  ·subst hkk; rw [upd_same]; exact ⟨fun y => absurd y hrel1, fun y => absurd y hrel2⟩
  ·rw [up k' hkk]
 refine ⟨{ s with γ := { s.γ with shut := upd s.γ.shut k true }, gs := (s.gs.map (woken P g g' w')).setIfInBounds 0 g', w := w', t := s.t ++ MemOp.ofEvents 0 g.frame.fn g.frame.place (shutEv (s.γ.c k)), S := upd s.S k xk, ms := .walk n rm, cl := upd s.cl k true },
  ⟨?_, fun k' hk' => ?_, h.dn, h.form, ⟨g', by simp [hlt], ?_⟩, fun k' hk' => ?_, h.cinj, h.cwg, fun k' hk' hc => ?_, fun k' hk' hc => ?_, fun k' hk' hc y l => ?_, fun n k' en => (by cases en), fun en => (by cases en), h.small, ?_, ?_, fun m en => (by cases en)⟩, .inl ?_, _, fun sl => ⟨sl, runT_crowd_go hg hgo⟩, rfl⟩
 ·have hd' := h.cr.hd.app (u := MemOp.ofEvents 0 g.frame.fn g.frame.place (shutEv (s.γ.c k))) (Nat.le_refl _) (.inl ofEvents_g) (fun op hop => by obtain ⟨x, hx, rfl⟩ := Go.Conc.mem_ofEvents hop; rcases shutEv_mem hx with rfl | rfl <;> (intro y; cases y)) (fun op hop => by obtain ⟨x, hx, rfl⟩ := Go.Conc.mem_ofEvents hop; rcases shutEv_mem hx with rfl | rfl <;> exact hcs)
  have := h.cr.turnc (hbn := fun x hx => (h.cr.bsn x hx).2 k hk) (hbX := ⟨fun e => h.cr.pay.hch k hk e.symm, fun e => h.cr.pay.lch k hk e.symm⟩) (hos := hwos) (.inl rfl) hg (g' := g') (es := shutEv (s.γ.c k)) (fn := g.frame.fn) (pos := g.frame.place) (b := s.γ.c k) (w' := w') (h.cr.hidc k hk).2 hsz hother (fun x hx y hy _ => by
   rcases shutEv_mem hx with rfl | rfl
   ·have hy' : y = ⟨.obj (s.γ.c k), false, .atomic⟩ := (Option.some.inj hy).symm
    exact .inr ⟨_, ⟨k, hk, rfl, .inl rfl⟩, hy'⟩
   ·cases hy) (by rw [hsz]; exact hd')
  have hr' : (fun i => ∃ k', k' < s.γ.j ∧ i = s.γ.J + k' ∧ (upd s.S k xk k').released) = s.relOf := funext fun i => propext (hrel i)
  show Cr P Wg st Base Shun p s.γ.J s.γ.j s.γ.c (fun i => ∃ k', k' < s.γ.j ∧ i = s.γ.J + k' ∧ (upd s.S k xk k').released) _ _ _ _ _
  rw [hr']; exact this
 ·show ∃ g1, ((s.gs.map (woken P g g' w')).setIfInBounds 0 g')[s.γ.J + k']? = some g1 ∧ WSt P ty Wg st (axOf Base.X s.γ k') _ (s.γ.dn k' (pcell Base.X w' k')) (Deaf (s.t ++ _) _) g1 _ (upd s.S k xk k')
  rw [hD, hpc, Array.getElem?_setIfInBounds_ne (by omega), Array.getElem?_map]
  by_cases hkk : k' = k
  ·subst hkk
   rw [upd_same, hgk]
   exact ⟨_, rfl, hown⟩
  ·obtain ⟨gk', h3, h4⟩ := h.wrk k' hk'
   rw [up k' hkk, h3]
   refine ⟨gk', ?_, h4⟩
   rw [Option.map_some, woken_wst hl h4 fun y l ey => ?_]
   obtain ⟨a', b', tm', h5⟩ := h.chan k' hk'
   rw [park_open h hk' ey] at h5
   exact ⟨a', b', tm', by rw [hchk k' hk' hkk]; exact h5⟩
 ·show MSt P ty Wg st Base Post _ (Deaf (s.t ++ _) 0) _ _ _
  rw [hD]; exact ⟨hd0, hN⟩
 ·show ∃ a b tm, w'.heap[s.γ.c k']? = some (.chan 0 #[] (upd s.cl k true k') a b tm)
  by_cases hkk : k' = k
  ·subst hkk; rw [upd_same]; exact ⟨a, b, tm, hat⟩
  ·rw [ucl k' hkk, hchk k' hk' hkk]; exact h.chan k' hk'
 ·have hc' : upd s.cl k true k' = false := hc
  show upd s.γ.shut k true k' = false ∧ (upd s.S k xk k').says = s.γ.σ k'
  by_cases hkk : k' = k
  ·subst hkk; rw [upd_same] at hc'; cases hc'
  ·rw [ucl k' hkk] at hc'; rw [up k' hkk, upd_ne _ _ hkk]; exact h.open_ k' hk' hc'
 ·have hc' : upd s.cl k true k' = true := hc
  show (s.γ.σ k' = [.close] ∧ (upd s.S k xk k').says = []) ∨ (∃ tl', s.γ.σ k' = .eof :: tl' ∧ upd s.γ.shut k true k' = true ∧ ∃ m', (upd s.S k xk k').says = (Say.eof :: tl').drop m')
  by_cases hkk : k' = k
  ·subst hkk; rw [upd_same, upd_same]; exact .inr ⟨tl, hσ, rfl, 0, hsays⟩
  ·rw [ucl k' hkk] at hc'; rw [up k' hkk, upd_ne _ _ hkk]; exact h.closed k' hk' hc'
 ·have hc' : upd s.cl k true k' = true := hc
  show upd s.S k xk k' ≠ _
  by_cases hkk : k' = k
  ·subst hkk; rw [upd_same]; exact hnpk y l
  ·rw [ucl k' hkk] at hc'; rw [up k' hkk]; exact h.nopark k' hk' hc' y l
 ·refine books_like h.books rfl hcnt (by rw [e]; rfl) (fun x => by cases x) (fun i hi => ?_) hwg
  show upd s.S k xk i = _ ∨ ((upd s.S k xk i).errand = _ ∧ _)
  by_cases hik : i = k
  ·subst hik; rw [upd_same]; exact .inr ⟨herr1, herr2⟩
  ·rw [up i hik]; exact .inl rfl
 ·rintro ⟨m, x | x | x | x⟩ <;> cases x
 ·show n + 1 < s.ms.left
  rw [e]; exact Nat.lt_succ_self _
end
end Go.Proofs.Ythmgpkcijolljaa
/-
  Goroutine 0 adds to the group.
-/
namespace Go.Proofs.Ythmgpkcijolljaa
open Go.Conc
open Go.ConcN (upd upd_same upd_ne WgLive sumTo)
open Go.ConcR (KK WgAt stA smA rd wr DC0)
set_option linter.unusedSimpArgs false
set_option linter.unusedVariables false
section
variable {P : Program} {ty : TypeId} {Wg : Nat} {st : Bool} {Base : BsP} {Post : Value → World → Prop} {Shun : Loc → Prop} {p : Nat} {s s' : Sit}
theorem cnt_le : s.cnt ≤ s.γ.j + s.γ.owed + 1 := by
 have : sumTo s.γ.j (fun k' => if (s.S k').counted then 1 else 0) ≤ s.γ.j := by
  have key : ∀ n, sumTo n (fun k' => if (s.S k').counted then 1 else 0) ≤ n := by
   intro n
   induction n with
   | zero => exact Nat.le_refl _
   | succ n ih => simp only [sumTo]; split <;> omega
  exact key _
 unfold Sit.cnt
 split <;> omega
theorem books_idle (h : Books ty Wg s) (r : s.ms.regd = false) : s.noErrand ∧ WgAt ty Wg s.w (s.cnt * KK) 0 := by
 cases h with
 | idle _ e x => exact ⟨e, x⟩
 | reg r' => rw [r] at r'; cases r'
 | ld k r' => rw [r] at r'; cases r'
 | sem k r' => rw [r] at r'; cases r'
 | post r' => rw [r] at r'; cases r'
theorem noErrand_eq (e1 : s'.γ = s.γ) (e2 : s'.S = s.S) (h : s.noErrand) : s'.noErrand := by
 unfold Sit.noErrand at h ⊢
 rw [e1, e2]; exact h
/-- Its step on the group's cells. -/
theorem MI.grpM (h : MI P ty Wg st Base Post Shun p s) {g g' : Goroutine} (hg : s.gs[0]? = some g) {es : Array Event} {w' : World} {ms' : MS} (hgo : stepG P true g s.w = .go g' w' es)
  (he : ∀ e ∈ es, LibE Wg e) (hsz : w'.heap.size = s.w.heap.size) (ho : ∀ b', b' ≠ Wg → w'.heap[b']? = s.w.heap[b']?)
  (own : MSt P ty Wg st Base Post s.γ (deafBehind (Deaf s.t 0) es) g' (s.V 0) ms')
  (npk : ∀ n k, ms' ≠ .park n k) (hwt : ms'.waits = true → s.ms.waits = true)
  (bk : ∀ s' : Sit, s'.γ = s.γ → s'.S = s.S → s'.ms = ms' → s'.w = w' → s'.cnt + (if s.ms.added then 1 else 0) = s.cnt + (if ms'.added then 1 else 0) → Books ty Wg s' ∧ (ms'.late → s'.cnt = 0))
  (fin : ∀ m, ms' ≠ .wfin m)
  (low : ∀ c', c' + (if s.ms.added then 1 else 0) = s.cnt + (if ms'.added then 1 else 0) → Low ms' s.ms s.cnt c') (hos : w'.os = s.w.os ∧ w'.output = s.w.output := by exact ⟨rfl, rfl⟩) :
  ∃ s', MI P ty Wg st Base Post Shun p s' ∧ Falls s'.mea s.mea ∧ Moves P s 0 s' := by
 refine h.main hg hgo (v' := s.V 0) (ms' := ms') ?_ own (fun k hk => ho _ (h.cwg k hk)) (ho _ h.cr.pay.hwg) npk hwt (fun s' e1 e2 e3 e4 => bk s' e1 e2 e3 e4 ?_) (fun m x => absurd x (fin m)) low
 ·rw [upd_self]; exact h.cr.grp0 hg he hsz ho hos
 ·have := cnt_ms (s := s) (s' := s') (by rw [e1]) e2
  rw [e1, e3] at this
  omega
/-- Its word on the group's semaphore. -/
theorem MI.saidM (h : MI P ty Wg st Base Post Shun p s) {g g' : Goroutine} (hg : s.gs[0]? = some g) {m : Mark} {ms' : MS} (hm : m = .read (smA Wg) ∨ m = .write (smA Wg)) (hgo : stepG P true g s.w = .go g' s.w #[Go.ConcR.mk m])
  (own : MSt P ty Wg st Base Post s.γ (Deaf s.t 0) g' (s.V 0) ms')
  (ha : ms'.added = s.ms.added) (hr : ms'.regd = s.ms.regd) (hb : ms' ≠ .wblk)
  (npk : ∀ n k, ms' ≠ .park n k) (hwt : ms'.waits = true → s.ms.waits = true) (hlate : ¬ ms'.late)
  (low : Low ms' s.ms s.cnt s.cnt) :
  ∃ s', MI P ty Wg st Base Post Shun p s' ∧ Falls s'.mea s.mea ∧ Moves P s 0 s' := by
 have hcs : ∀ s' : Sit, s'.γ = s.γ → s'.S = s.S → s'.ms = ms' → s'.cnt = s.cnt := fun s' e1 e2 e3 => by
  have := cnt_ms (s := s) (s' := s') (by rw [e1]) e2
  rw [e1, e3, ha] at this
  omega
 refine h.main hg hgo (v' := s.V 0) (ms' := ms') ?_ ?_ (fun _ _ => rfl) rfl npk hwt (fun s' e1 e2 e3 e4 => ⟨?_, fun x => absurd x hlate⟩) (fun m x => absurd ⟨m, .inr (.inr (.inr x))⟩ hlate) (fun c' hc' => ?_)
 ·rw [upd_self]; exact h.cr.said0 hg hm
 ·rw [deafBehind_still (fun x hx => by
   simp only [List.mem_toArray, List.mem_singleton] at hx
   subst hx
   rcases hm with rfl | rfl <;> exact ⟨by simp [Go.ConcR.mk], by simp [Go.ConcR.mk]⟩)]
  exact own
 ·exact books_like h.books (by rw [e1]) (hcs s' e1 e2 e3) (by rw [e3]; exact hr) (fun x => absurd (by rw [← e3]; exact x) hb) (fun k _ => .inl (by rw [e2])) (by rw [e4])
 ·have : c' = s.cnt := by rw [ha] at hc'; omega
  rw [this]; exact low
/-- It turns to Add. -/
theorem MI.addM (h : MI P ty Wg st Base Post Shun p s) {g : Goroutine} (hg : s.gs[0]? = some g) {n : Nat} (e : s.ms = .walk n .nil) (ho : s.γ.owed = 0) (hj : s.γ.j + 2 < 2147483647)
  (hW : WG P ty Wg true (ADis P ty Wg (fun g' => g'.status = .running ∧ MNext P ty Wg st Base Post n { s.γ with owed := 1 } g' (s.V 0))) g) :
  ∃ s', MI P ty Wg st Base Post Shun p s' ∧ Falls s'.mea s.mea ∧ s'.gs = s.gs ∧ s'.w = s.w ∧ s'.t = s.t := by
 obtain ⟨g₁, h1, h2⟩ := h.zero
 rw [e] at h2
 obtain ⟨m, hm⟩ := hW
 exact h.named hg (ms' := .adis n m) (o' := s.γ.owed) ⟨h2.1, ho, hj, hm⟩ (by rw [e]; rfl) (by rw [e]; rfl) (fun x => by cases x) (fun x => by cases x) h.small (fun n k x => by cases x) (fun ⟨m, x⟩ => by rcases x with x | x | x | x <;> cases x) (.of (by rw [e]; rfl) (by rw [e]; show 19 < 21; omega))
theorem MI.adisM (h : MI P ty Wg st Base Post Shun p s) {g : Goroutine} (hg : s.gs[0]? = some g) {n m : Nat} (e : s.ms = .adis n m) :
  ∃ s', MI P ty Wg st Base Post Shun p s' ∧ Falls s'.mea s.mea ∧ Moves P s 0 s' := by
 obtain ⟨g₁, h1, h2⟩ := h.zero
 rw [hg] at h1
 obtain rfl := Option.some.inj h1
 rw [e] at h2
 obtain ⟨hd, ho, hj, hm⟩ := h2
 have nl : ∀ m, ¬ (MS.aadd n m).late := fun m => fun ⟨m, x⟩ => by rcases x with x | x | x | x <;> cases x
 rcases hm.step h.books.live with ⟨hr, g', hgo, m', hm'⟩ | ⟨m', g', rfl, hr, hgo, hm'⟩
 ·refine h.grpM hg hgo (ms' := .aadd n m') (fun x hx => by simp at hx; exact .inr (.inl hx)) rfl (fun _ _ => rfl) ⟨by rw [hd]; rfl, ho, hj, hm'⟩ (fun n k x => by cases x) (fun x => by cases x) (fun s' e1 e2 e3 e4 e5 => ⟨?_, fun x => absurd x (nl m')⟩) (fun m x => by cases x) (fun c' _ => .of (by rw [e]; rfl) (by rw [e]; show 18 < 19; omega))
  rw [e] at e5
  exact books_like h.books (by rw [e1]) e5 (by rw [e3, e]; rfl) (fun x => by rw [e3] at x; cases x) (fun k _ => .inl (by rw [e2])) (by rw [e4])
 ·exact h.libM hg (ms' := .adis n m') hgo ⟨hd, ho, hj, hm'⟩ (by rw [e]; rfl) (by rw [e]; rfl) (fun x => by cases x) (fun n k x => by cases x) (fun x => by cases x) (fun ⟨m, x⟩ => by rcases x with x | x | x | x <;> cases x) (fun m x => by cases x) (.inner (n := 19) (by rw [e]; rfl) rfl (by rw [e]; rfl) (Nat.lt_succ_self m'))
theorem MI.aaddM (h : MI P ty Wg st Base Post Shun p s) {g : Goroutine} (hg : s.gs[0]? = some g) {n m : Nat} (e : s.ms = .aadd n m) :
  ∃ s', MI P ty Wg st Base Post Shun p s' ∧ Falls s'.mea s.mea ∧ Moves P s 0 s' := by
 obtain ⟨g₁, h1, h2⟩ := h.zero
 rw [hg] at h1
 obtain rfl := Option.some.inj h1
 rw [e] at h2
 obtain ⟨hd, ho, hj, hm⟩ := h2
 rcases hm.step h.books.live with ⟨hr, hS⟩ | ⟨m', g', rfl, hr, hgo, hm'⟩
 ·obtain ⟨hne, hW⟩ := books_idle h.books (by rw [e]; rfl)
  have hcl := cnt_le (s := s)
  rw [ho] at hcl
  obtain ⟨g', hgo, hA, hB⟩ := hS s.cnt (by omega) hW
  have hset : WgAt ty Wg (s.w.setCell (stA Wg) (.int .u64 (((s.cnt : Nat) + 1) * KK))) ((s.cnt + 1) * KK) 0 := hW.setSt _
  have hd1 : deafBehind (Deaf s.t 0) #[rd (stA Wg), wr (stA Wg)] = 1 := by
   rw [deafBehind_still (fun x hx => ?_)]
   ·exact hd
   ·simp only [List.mem_toArray, List.mem_cons, List.not_mem_nil, or_false] at hx
    rcases hx with rfl | rfl <;> exact ⟨by simp [rd, wr], by simp [rd, wr]⟩
  have go : ∀ ms' : MS, MSt P ty Wg st Base Post s.γ 1 g' (s.V 0) ms' → ms'.added = true → ms'.regd = false → (∀ n k, ms' ≠ .park n k) → ms'.waits = false → ¬ ms'.late → (∀ c', Low ms' s.ms s.cnt c') →
    ∃ s', MI P ty Wg st Base Post Shun p s' ∧ Falls s'.mea s.mea ∧ Moves P s 0 s' := by
   intro ms' own ha hrg npk hwt nl low
   refine h.grpM hg hgo (ms' := ms') (fun x hx => ?_) setCell_size (fun b hb => Go.RowKit.Below.heap_setCell _ _ _ _ hb) (by rw [hd1]; exact own) npk (fun x => by rw [hwt] at x; cases x) (fun s' e1 e2 e3 e4 e5 => ⟨?_, fun x => absurd x nl⟩) (fun m x => absurd ⟨m, .inr (.inr (.inr x))⟩ nl) (fun c' _ => low c')
   ·simp only [List.mem_toArray, List.mem_cons, List.not_mem_nil, or_false] at hx
    rcases hx with rfl | rfl
    ·exact .inl ⟨_, rfl, .inl rfl⟩
    ·exact .inl ⟨_, rfl, .inr rfl⟩
   ·rw [e, ha] at e5
    have e6 : s'.cnt = s.cnt + 1 := e5
    refine .idle (by rw [e3]; exact hrg) (noErrand_eq e1 e2 hne) ?_
    rw [e6, e4]
    simpa using hset
  by_cases h0 : s.cnt = 0
  ·obtain ⟨m', hm'⟩ := hA h0
   exact go (.amk n m') ⟨rfl, ho, hj, hm'⟩ rfl rfl (fun n k x => by cases x) rfl (fun ⟨m, x⟩ => by rcases x with x | x | x | x <;> cases x) (fun c' => .of (by rw [e]; rfl) (by rw [e]; show 17 < 18; omega))
  ·obtain ⟨m', hm'⟩ := hB h0
   exact go (.aen n m') ⟨rfl, ho, hj, hm'⟩ rfl rfl (fun n k x => by cases x) rfl (fun ⟨m, x⟩ => by rcases x with x | x | x | x <;> cases x) (fun c' => .of (by rw [e]; rfl) (by rw [e]; show 16 < 18; omega))
 ·exact h.libM hg (ms' := .aadd n m') hgo ⟨hd, ho, hj, hm'⟩ (by rw [e]; rfl) (by rw [e]; rfl) (fun x => by cases x) (fun n k x => by cases x) (fun x => by cases x) (fun ⟨m, x⟩ => by rcases x with x | x | x | x <;> cases x) (fun m x => by cases x) (.inner (n := 18) (by rw [e]; rfl) rfl (by rw [e]; rfl) (Nat.lt_succ_self m'))
theorem MI.amkM (h : MI P ty Wg st Base Post Shun p s) {g : Goroutine} (hg : s.gs[0]? = some g) {n m : Nat} (e : s.ms = .amk n m) :
  ∃ s', MI P ty Wg st Base Post Shun p s' ∧ Falls s'.mea s.mea ∧ Moves P s 0 s' := by
 obtain ⟨g₁, h1, h2⟩ := h.zero
 rw [hg] at h1
 obtain rfl := Option.some.inj h1
 rw [e] at h2
 obtain ⟨hd, ho, hj, hm⟩ := h2
 rcases hm.step h.books.live with ⟨hr, g', hgo, m', hm'⟩ | ⟨m', g', rfl, hr, hgo, hm'⟩
 ·exact h.saidM hg (ms' := .aen n m') (.inl rfl) hgo ⟨hd, ho, hj, hm'⟩ (by rw [e]; rfl) (by rw [e]; rfl) (fun x => by cases x) (fun n k x => by cases x) (fun x => by cases x) (fun ⟨m, x⟩ => by rcases x with x | x | x | x <;> cases x) (.of (by rw [e]; rfl) (by rw [e]; show 16 < 17; omega))
 ·exact h.libM hg (ms' := .amk n m') hgo ⟨hd, ho, hj, hm'⟩ (by rw [e]; rfl) (by rw [e]; rfl) (fun x => by cases x) (fun n k x => by cases x) (fun x => by cases x) (fun ⟨m, x⟩ => by rcases x with x | x | x | x <;> cases x) (fun m x => by cases x) (.inner (n := 17) (by rw [e]; rfl) rfl (by rw [e]; rfl) (Nat.lt_succ_self m'))
theorem MI.aenM (h : MI P ty Wg st Base Post Shun p s) {g : Goroutine} (hg : s.gs[0]? = some g) {n m : Nat} (e : s.ms = .aen n m) :
  ∃ s', MI P ty Wg st Base Post Shun p s' ∧ Falls s'.mea s.mea ∧ Moves P s 0 s' := by
 obtain ⟨g₁, h1, h2⟩ := h.zero
 rw [hg] at h1
 obtain rfl := Option.some.inj h1
 rw [e] at h2
 obtain ⟨hd, ho, hj, hm⟩ := h2
 rcases hm.step h.books.live with ⟨hr, g', hgo, m', hm'⟩ | ⟨m', g', rfl, hr, hgo, hm'⟩
 ·refine h.grpM hg hgo (ms' := .afin n m') (fun x hx => by simp at hx; exact .inr (.inr hx)) rfl (fun _ _ => rfl) ⟨by rw [hd]; rfl, ho, hj, hm'⟩ (fun n k x => by cases x) (fun x => by cases x) (fun s' e1 e2 e3 e4 e5 => ⟨?_, fun ⟨m, x⟩ => by rcases x with x | x | x | x <;> cases x⟩) (fun m x => by cases x) (fun c' _ => .of (by rw [e]; rfl) (by rw [e]; show 15 < 16; omega))
  have e6 : s'.cnt = s.cnt := by rw [e] at e5; simp only [MS.added] at e5; omega
  exact books_like h.books (by rw [e1]) e6 (by rw [e3, e]; rfl) (fun x => by rw [e3] at x; cases x) (fun k _ => .inl (by rw [e2])) (by rw [e4])
 ·exact h.libM hg (ms' := .aen n m') hgo ⟨hd, ho, hj, hm'⟩ (by rw [e]; rfl) (by rw [e]; rfl) (fun x => by cases x) (fun n k x => by cases x) (fun x => by cases x) (fun ⟨m, x⟩ => by rcases x with x | x | x | x <;> cases x) (fun m x => by cases x) (.inner (n := 16) (by rw [e]; rfl) rfl (by rw [e]; rfl) (Nat.lt_succ_self m'))
/-- Behind Add: another name; or a step. -/
theorem MI.afinN (h : MI P ty Wg st Base Post Shun p s) {g : Goroutine} (hg : s.gs[0]? = some g) {n m : Nat} (e : s.ms = .afin n m) (hF : FinA P ty Wg st Base Post n s.γ (s.V 0) g) :
  ∃ s', MI P ty Wg st Base Post Shun p s' ∧ Falls s'.mea s.mea ∧ s'.gs = s.gs ∧ s'.w = s.w ∧ s'.t = s.t := by
 obtain ⟨g₁, h1, h2⟩ := h.zero
 rw [hg] at h1
 obtain rfl := Option.some.inj h1
 rw [e] at h2
 obtain ⟨hd, ho, hj, hm⟩ := h2
 obtain ⟨hr, hN⟩ := hF
 cases n with
 | zero => exact hN.elim
 | succ n =>
 obtain ⟨rm, hN⟩ := hN
 exact h.named hg (ms' := .walk n rm) (o' := 1) ⟨hd, hN⟩ (by rw [e, ho]; rfl) (by rw [e]; rfl) (fun x => by cases x) (fun x => by cases x) (by omega) (fun n k x => by cases x) (fun ⟨m, x⟩ => by rcases x with x | x | x | x <;> cases x) (.inl (by rw [e]; exact Nat.lt_succ_self _))
theorem MI.afinS (h : MI P ty Wg st Base Post Shun p s) {g : Goroutine} (hg : s.gs[0]? = some g) {n m : Nat} (e : s.ms = .afin n m) (hF : ¬ FinA P ty Wg st Base Post n s.γ (s.V 0) g) :
  ∃ s', MI P ty Wg st Base Post Shun p s' ∧ Falls s'.mea s.mea ∧ Moves P s 0 s' := by
 obtain ⟨g₁, h1, h2⟩ := h.zero
 rw [hg] at h1
 obtain rfl := Option.some.inj h1
 rw [e] at h2
 obtain ⟨hd, ho, hj, hm⟩ := h2
 rcases WGm.step hm h.books.live with hN | ⟨m', g', rfl, hr, hgo, hm'⟩
 ·exact absurd hN hF
 ·exact h.libM hg (ms' := .afin n m') hgo ⟨hd, ho, hj, hm'⟩ (by rw [e]; rfl) (by rw [e]; rfl) (fun x => by cases x) (fun n k x => by cases x) (fun x => by cases x) (fun ⟨m, x⟩ => by rcases x with x | x | x | x <;> cases x) (fun m x => by cases x) (.inner (n := 15) (by rw [e]; rfl) rfl (by rw [e]; rfl) (Nat.lt_succ_self m'))
end
end Go.Proofs.Ythmgpkcijolljaa
/-
  Goroutine 0 waits for the group.
-/
namespace Go.Proofs.Ythmgpkcijolljaa
open Go.Conc
open Go.ConcN (upd upd_same upd_ne WgLive sumTo)
open Go.ConcR (KK WgAt stA smA rd wr DC0)
set_option linter.unusedSimpArgs false
set_option linter.unusedVariables false
section
variable {P : Program} {ty : TypeId} {Wg : Nat} {st : Bool} {Base : BsP} {Post : Value → World → Prop} {Shun : Loc → Prop} {p : Nat} {s s' : Sit}
theorem still_rd (d : Nat) (a : Addr) : deafBehind d #[rd a] = d := deafBehind_still (fun x hx => by
 simp only [List.mem_toArray, List.mem_singleton] at hx
 subst hx
 exact ⟨by simp [rd], by simp [rd]⟩) d
theorem still_rw (d : Nat) (a : Addr) : deafBehind d #[rd a, wr a] = d := deafBehind_still (fun x hx => by
 simp only [List.mem_toArray, List.mem_cons, List.not_mem_nil, or_false] at hx
 rcases hx with rfl | rfl <;> exact ⟨by simp [rd, wr], by simp [rd, wr]⟩) d
theorem libE_rd {Wg : Nat} {a : Addr} (h : a.block = Wg) : ∀ e ∈ #[rd a], LibE Wg e := fun x hx => by
 simp only [List.mem_toArray, List.mem_singleton] at hx
 subst hx
 exact .inl ⟨a, h, .inl rfl⟩
theorem libE_rw {Wg : Nat} {a : Addr} (h : a.block = Wg) : ∀ e ∈ #[rd a, wr a], LibE Wg e := fun x hx => by
 simp only [List.mem_toArray, List.mem_cons, List.not_mem_nil, or_false] at hx
 rcases hx with rfl | rfl
 ·exact .inl ⟨a, h, .inl rfl⟩
 ·exact .inl ⟨a, h, .inr rfl⟩
theorem MI.waitM (h : MI P ty Wg st Base Post Shun p s) {g : Goroutine} (hg : s.gs[0]? = some g) {n : Nat} (e : s.ms = .walk n .nil) (ho : s.γ.owed = 0) (hs : ∀ k, k < s.γ.j → Settled s.γ k)
  {Anch : Goroutine → Prop} (hW : WG P ty Wg true (PDis P ty Wg Anch) g) (hL : Loop P ty Wg Base Post s.γ (s.V 0) Anch) :
  ∃ s', MI P ty Wg st Base Post Shun p s' ∧ Falls s'.mea s.mea ∧ s'.gs = s.gs ∧ s'.w = s.w ∧ s'.t = s.t := by
 obtain ⟨g₁, h1, h2⟩ := h.zero
 rw [e] at h2
 obtain ⟨m, hm⟩ := hW
 exact h.named hg (ms' := .wdis m) (o' := s.γ.owed) ⟨h2.1, Anch, hL, hm⟩ (by rw [e]; rfl) (by rw [e]; rfl) (fun x => by cases x) (fun _ => ⟨ho, hs⟩) h.small (fun n k x => by cases x) (fun ⟨m, x⟩ => by rcases x with x | x | x | x <;> cases x) (.inl (by rw [e]; exact Nat.succ_pos _))
theorem MI.wdisM (h : MI P ty Wg st Base Post Shun p s) {g : Goroutine} (hg : s.gs[0]? = some g) {m : Nat} (e : s.ms = .wdis m) :
  ∃ s', MI P ty Wg st Base Post Shun p s' ∧ Falls s'.mea s.mea ∧ Moves P s 0 s' := by
 obtain ⟨g₁, h1, h2⟩ := h.zero
 rw [hg] at h1
 obtain rfl := Option.some.inj h1
 rw [e] at h2
 obtain ⟨hd, A, hL, hm⟩ := h2
 rcases WGm.step hm h.books.live with ⟨hr, g', hgo, m', hm'⟩ | ⟨m', g', rfl, hr, hgo, hm'⟩
 ·refine h.grpM hg hgo (ms' := .wanch m') (fun x hx => by simp at hx; exact .inr (.inl hx)) rfl (fun _ _ => rfl) ⟨by rw [hd]; rfl, A, hL, hm'⟩ (fun n k x => by cases x) (fun _ => by rw [e]; rfl) (fun s' e1 e2 e3 e4 e5 => ⟨?_, fun ⟨m, x⟩ => by rcases x with x | x | x | x <;> cases x⟩) (fun m x => by cases x) (fun c' _ => .of (by rw [e]; rfl) (by rw [e]; show 11 < 14; omega))
  rw [e] at e5
  exact books_like h.books (by rw [e1]) e5 (by rw [e3, e]; rfl) (fun x => by rw [e3] at x; cases x) (fun k _ => .inl (by rw [e2])) (by rw [e4])
 ·exact h.libM hg (ms' := .wdis m') hgo ⟨hd, A, hL, hm'⟩ (by rw [e]; rfl) (by rw [e]; rfl) (fun x => by cases x) (fun n k x => by cases x) (fun _ => by rw [e]; rfl) (fun ⟨m, x⟩ => by rcases x with x | x | x | x <;> cases x) (fun m x => by cases x) (.inner (n := 14) (by rw [e]; rfl) rfl (by rw [e]; rfl) (Nat.lt_succ_self m'))
/-- At the loop's head: another name; or a step before it. -/
theorem MI.wanchN (h : MI P ty Wg st Base Post Shun p s) {g : Goroutine} (hg : s.gs[0]? = some g) {m : Nat} (e : s.ms = .wanch m) {A : Goroutine → Prop} (hL : Loop P ty Wg Base Post s.γ (s.V 0) A) (hA : A g) :
  ∃ s', MI P ty Wg st Base Post Shun p s' ∧ Falls s'.mea s.mea ∧ s'.gs = s.gs ∧ s'.w = s.w ∧ s'.t = s.t := by
 obtain ⟨g₁, h1, h2⟩ := h.zero
 rw [hg] at h1
 obtain rfl := Option.some.inj h1
 rw [e] at h2
 have hwt := h.waits (by rw [e]; rfl)
 obtain ⟨m', hm'⟩ := hL g hA
 exact h.named hg (ms' := .wload m') (o' := s.γ.owed) ⟨h2.1, A, hL, hm'⟩ (by rw [e]; rfl) (by rw [e]; rfl) (fun x => by cases x) (fun _ => hwt) h.small (fun n k x => by cases x) (fun ⟨m, x⟩ => by rcases x with x | x | x | x <;> cases x) (.of (by rw [e]; rfl) (by rw [e]; show 10 < 11; omega))
theorem MI.wanchS (h : MI P ty Wg st Base Post Shun p s) {g : Goroutine} (hg : s.gs[0]? = some g) {m : Nat} (e : s.ms = .wanch m) {A : Goroutine → Prop} (hL : Loop P ty Wg Base Post s.γ (s.V 0) A) (hm : WGm P ty Wg true (fun g _ => A g) m g) (hA : ¬ A g) :
  ∃ s', MI P ty Wg st Base Post Shun p s' ∧ Falls s'.mea s.mea ∧ Moves P s 0 s' := by
 obtain ⟨g₁, h1, h2⟩ := h.zero
 rw [hg] at h1
 obtain rfl := Option.some.inj h1
 rw [e] at h2
 rcases WGm.step hm h.books.live with hN | ⟨m', g', rfl, hr, hgo, hm'⟩
 ·exact absurd hN hA
 ·exact h.libM hg (ms' := .wanch m') hgo ⟨h2.1, A, hL, hm'⟩ (by rw [e]; rfl) (by rw [e]; rfl) (fun x => by cases x) (fun n k x => by cases x) (fun _ => by rw [e]; rfl) (fun ⟨m, x⟩ => by rcases x with x | x | x | x <;> cases x) (fun m x => by cases x) (.inner (n := 11) (by rw [e]; rfl) rfl (by rw [e]; rfl) (Nat.lt_succ_self m'))
theorem MI.wloadM (h : MI P ty Wg st Base Post Shun p s) {g : Goroutine} (hg : s.gs[0]? = some g) {m : Nat} (e : s.ms = .wload m) :
  ∃ s', MI P ty Wg st Base Post Shun p s' ∧ Falls s'.mea s.mea ∧ Moves P s 0 s' := by
 obtain ⟨g₁, h1, h2⟩ := h.zero
 rw [hg] at h1
 obtain rfl := Option.some.inj h1
 rw [e] at h2
 obtain ⟨hd, A, hL, hm⟩ := h2
 rcases WGm.step hm h.books.live with ⟨hr, hS⟩ | ⟨m', g', rfl, hr, hgo, hm'⟩
 ·obtain ⟨hne, hW⟩ := books_idle h.books (by rw [e]; rfl)
  have hcl := cnt_le (s := s)
  have hsm := h.small
  obtain ⟨g', hgo, hA, hB⟩ := hS s.cnt (by omega) hW
  have go : ∀ ms' : MS, MSt P ty Wg st Base Post s.γ 1 g' (s.V 0) ms' → ms'.added = false → ms'.regd = false → (∀ n k, ms' ≠ .park n k) → (∀ m, ms' ≠ .wfin m) → (ms'.late → s.cnt = 0) → Low ms' s.ms s.cnt s.cnt →
    ∃ s', MI P ty Wg st Base Post Shun p s' ∧ Falls s'.mea s.mea ∧ Moves P s 0 s' := by
   intro ms' own ha hrg npk nf nl low
   have hb : ms' ≠ .wblk := fun x => by rw [x] at hrg; cases hrg
   have hcc : ∀ c', (c' + if s.ms.added = true then 1 else 0) = s.cnt + (if ms'.added = true then 1 else 0) → c' = s.cnt := fun c' hc => by
    rw [e, ha] at hc; exact hc
   refine h.grpM hg hgo (ms' := ms') (libE_rd rfl) rfl (fun _ _ => rfl) (by rw [still_rd, hd]; exact own) npk (fun _ => by rw [e]; rfl) (fun s' e1 e2 e3 e4 e5 => ⟨?_, fun x => ?_⟩) nf (fun c' hc => by rw [hcc c' hc]; exact low)
   ·exact books_like h.books (by rw [e1]) (hcc _ e5) (by rw [e3, hrg, e]; rfl) (fun x => absurd (by rw [← e3]; exact x) hb) (fun k _ => .inl (by rw [e2])) (by rw [e4])
   ·rw [hcc _ e5]; exact nl x
  by_cases h0 : s.cnt = 0
  ·obtain ⟨m', hm'⟩ := hA h0
   exact go (.wen m') ⟨rfl, hm'⟩ rfl rfl (fun n k x => by cases x) (fun m x => by cases x) (fun _ => h0) (.of (by rw [e]; rfl) (by rw [e]; show 4 < 10; omega))
  ·obtain ⟨m', hm'⟩ := hB h0
   exact go (.wcas s.cnt m') ⟨rfl, by omega, A, hL, hm'⟩ rfl rfl (fun n k x => by cases x) (fun m x => by cases x) (fun ⟨m, x⟩ => by rcases x with x | x | x | x <;> cases x) (.of (by rw [e]; rfl) (by rw [e]; simp [MS.rank]))
 ·exact h.libM hg (ms' := .wload m') hgo ⟨hd, A, hL, hm'⟩ (by rw [e]; rfl) (by rw [e]; rfl) (fun x => by cases x) (fun n k x => by cases x) (fun _ => by rw [e]; rfl) (fun ⟨m, x⟩ => by rcases x with x | x | x | x <;> cases x) (fun m x => by cases x) (.inner (n := 10) (by rw [e]; rfl) rfl (by rw [e]; rfl) (Nat.lt_succ_self m'))
theorem MI.wcasM (h : MI P ty Wg st Base Post Shun p s) {g : Goroutine} (hg : s.gs[0]? = some g) {vs m : Nat} (e : s.ms = .wcas vs m) :
  ∃ s', MI P ty Wg st Base Post Shun p s' ∧ Falls s'.mea s.mea ∧ Moves P s 0 s' := by
 obtain ⟨g₁, h1, h2⟩ := h.zero
 rw [hg] at h1
 obtain rfl := Option.some.inj h1
 rw [e] at h2
 obtain ⟨hd, hvs, A, hL, hm⟩ := h2
 rcases WGm.step hm h.books.live with ⟨hr, hS⟩ | ⟨m', g', rfl, hr, hgo, hm'⟩
 ·obtain ⟨hne, hW⟩ := books_idle h.books (by rw [e]; rfl)
  have hcl := cnt_le (s := s)
  have hsm := h.small
  obtain ⟨hA, hB⟩ := hS s.cnt (by omega) hW
  by_cases h0 : s.cnt = vs
  ·obtain ⟨g', hgo, m', hm'⟩ := hA h0
   have hset : WgAt ty Wg (s.w.setCell (stA Wg) (.int .u64 ((s.cnt : Nat) * KK + 1))) (s.cnt * KK + 1) 0 := hW.setSt _
   refine h.grpM hg hgo (ms' := .wmk m') (libE_rw rfl) setCell_size (fun b hb => Go.RowKit.Below.heap_setCell _ _ _ _ hb) (by rw [still_rw, hd]; exact ⟨rfl, hm'⟩) (fun n k x => by cases x) (fun _ => by rw [e]; rfl) (fun s' e1 e2 e3 e4 e5 => ⟨?_, fun ⟨m, x⟩ => by rcases x with x | x | x | x <;> cases x⟩) (fun m x => by cases x) (fun c' _ => .of (by rw [e]; rfl) ?_)
   ·rw [e] at e5
    have e6 : s'.cnt = s.cnt := e5
    exact .reg (by rw [e3]; rfl) (noErrand_eq e1 e2 hne) (by rw [e6, h0]; exact hvs) (by rw [e6, e4]; exact hset)
   ·rw [e]
    show 8 < (if vs = s.cnt then 9 else 13)
    split <;> omega
  ·obtain ⟨g', hgo, m', hm'⟩ := hB h0
   refine h.grpM hg hgo (ms' := .wanch m') (libE_rd rfl) rfl (fun _ _ => rfl) (by rw [still_rd, hd]; exact ⟨rfl, A, hL, hm'⟩) (fun n k x => by cases x) (fun _ => by rw [e]; rfl) (fun s' e1 e2 e3 e4 e5 => ⟨?_, fun ⟨m, x⟩ => by rcases x with x | x | x | x <;> cases x⟩) (fun m x => by cases x) (fun c' _ => .of (by rw [e]; rfl) ?_)
   ·rw [e] at e5
    exact books_like h.books (by rw [e1]) e5 (by rw [e3, e]; rfl) (fun x => by rw [e3] at x; cases x) (fun k _ => .inl (by rw [e2])) (by rw [e4])
   ·rw [e]
    show 11 < (if vs = s.cnt then 9 else 13)
    rw [if_neg (fun x => h0 x.symm)]; omega
 ·exact h.libM hg (ms' := .wcas vs m') hgo ⟨hd, hvs, A, hL, hm'⟩ (by rw [e]; rfl) (by rw [e]; rfl) (fun x => by cases x) (fun n k x => by cases x) (fun _ => by rw [e]; rfl) (fun ⟨m, x⟩ => by rcases x with x | x | x | x <;> cases x) (fun m x => by cases x) (.inner (n := if vs = s.cnt then 9 else 13) (by rw [e]; rfl) rfl (by rw [e]; rfl) (Nat.lt_succ_self m'))
theorem MI.wmkM (h : MI P ty Wg st Base Post Shun p s) {g : Goroutine} (hg : s.gs[0]? = some g) {m : Nat} (e : s.ms = .wmk m) :
  ∃ s', MI P ty Wg st Base Post Shun p s' ∧ Falls s'.mea s.mea ∧ Moves P s 0 s' := by
 obtain ⟨g₁, h1, h2⟩ := h.zero
 rw [hg] at h1
 obtain rfl := Option.some.inj h1
 rw [e] at h2
 obtain ⟨hd, hm⟩ := h2
 rcases WGm.step hm h.books.live with ⟨hr, g', hgo, m', hm'⟩ | ⟨m', g', rfl, hr, hgo, hm'⟩
 ·exact h.saidM hg (ms' := .wsem m') (.inr rfl) hgo ⟨hd, hm'⟩ (by rw [e]; rfl) (by rw [e]; rfl) (fun x => by cases x) (fun n k x => by cases x) (fun _ => by rw [e]; rfl) (fun ⟨m, x⟩ => by rcases x with x | x | x | x <;> cases x) (.of (by rw [e]; rfl) (by rw [e]; show 7 < 8; omega))
 ·exact h.libM hg (ms' := .wmk m') hgo ⟨hd, hm'⟩ (by rw [e]; rfl) (by rw [e]; rfl) (fun x => by cases x) (fun n k x => by cases x) (fun _ => by rw [e]; rfl) (fun ⟨m, x⟩ => by rcases x with x | x | x | x <;> cases x) (fun m x => by cases x) (.inner (n := 8) (by rw [e]; rfl) rfl (by rw [e]; rfl) (Nat.lt_succ_self m'))
theorem MI.wsemM (h : MI P ty Wg st Base Post Shun p s) {g : Goroutine} (hg : s.gs[0]? = some g) {m : Nat} (e : s.ms = .wsem m) :
  ∃ s', MI P ty Wg st Base Post Shun p s' ∧ Falls s'.mea s.mea ∧ Moves P s 0 s' := by
 have hl := h.books.live
 obtain ⟨g₁, h1, h2⟩ := h.zero
 rw [hg] at h1
 obtain rfl := Option.some.inj h1
 rw [e] at h2
 obtain ⟨hd, hm⟩ := h2
 rcases WGm.step hm hl with ⟨hr, hof, hS0, hS1⟩ | ⟨m', g', rfl, hr, hgo, hm'⟩
 ·-- it waits while the semaphore stands at 0
  have block : ∀ x, WgAt ty Wg s.w x 0 → ∃ s', MI P ty Wg st Base Post Shun p s' ∧ Falls s'.mea s.mea ∧ Moves P s 0 s' := by
   intro x hx
   refine h.libM hg (ms' := .wblk) (hS0 ⟨x, hx⟩) ⟨hd, g, fun w hw => ?_, rfl⟩ (by rw [e]; rfl) (by rw [e]; rfl) (fun _ => .inr ⟨x, hx⟩) (fun n k y => by cases y) (fun _ => by rw [e]; rfl) (fun ⟨m, y⟩ => by rcases y with y | y | y | y <;> cases y) (fun m y => by cases y) (.of (by rw [e]; rfl) (by rw [e]; show 6 < 7; omega))
   cases m with
   | zero => exact hm w w hw
   | succ m =>
    rcases hm s.w with y | ⟨_, y⟩
    ·exact y w hw
    ·exfalso
     have h3 := y s.w hl
     rw [hS0 ⟨x, hx⟩, goes_go] at h3
     have h4 := WGm.run (P := P) (ty := ty) (Wg := Wg) (main := true) (m := m) (g := { g with status := .blocked }) (fun w' => goes_any h3.2) hl fun g w z => z.1
     cases h4
  cases h.books with
  | idle r' => rw [e] at r'; cases r'
  | reg r' ne c x => exact block _ x
  | ld k r' hk e' o c x => exact block _ x
  | sem k r' hk e' o c x => exact block _ x
  | post r' b ne c x =>
   obtain ⟨g', hgo, m', hm'⟩ := hS1 x
   refine h.grpM hg hgo (ms' := .wld m') (fun y hy => ?_) setCell_size (fun b hb => Go.RowKit.Below.heap_setCell _ _ _ _ hb) (by rw [hd]; exact ⟨rfl, hm'⟩) (fun n k y => by cases y) (fun _ => by rw [e]; rfl) (fun s' e1 e2 e3 e4 e5 => ?_) (fun m y => by cases y) (fun c' _ => .of (by rw [e]; rfl) (by rw [e]; show 5 < 7; omega))
   ·simp only [semEvents, List.mem_toArray, List.mem_cons, List.not_mem_nil, or_false] at hy
    rcases hy with rfl | rfl | rfl | rfl
    ·exact .inr (.inl rfl)
    ·exact .inl ⟨_, rfl, .inl rfl⟩
    ·exact .inl ⟨_, rfl, .inr rfl⟩
    ·exact .inr (.inr rfl)
   ·rw [e] at e5
    have e6 : s'.cnt = 0 := by rw [show s'.cnt = s.cnt from e5]; exact c
    exact ⟨.idle (by rw [e3]; rfl) (noErrand_eq e1 e2 ne) (by rw [e6, e4]; simpa using x.setSm 0), fun _ => e6⟩
 ·exact h.libM hg (ms' := .wsem m') hgo ⟨hd, hm'⟩ (by rw [e]; rfl) (by rw [e]; rfl) (fun x => by cases x) (fun n k x => by cases x) (fun _ => by rw [e]; rfl) (fun ⟨m, x⟩ => by rcases x with x | x | x | x <;> cases x) (fun m x => by cases x) (.inner (n := 7) (by rw [e]; rfl) rfl (by rw [e]; rfl) (Nat.lt_succ_self m'))
theorem MI.wldM (h : MI P ty Wg st Base Post Shun p s) {g : Goroutine} (hg : s.gs[0]? = some g) {m : Nat} (e : s.ms = .wld m) :
  ∃ s', MI P ty Wg st Base Post Shun p s' ∧ Falls s'.mea s.mea ∧ Moves P s 0 s' := by
 obtain ⟨g₁, h1, h2⟩ := h.zero
 rw [hg] at h1
 obtain rfl := Option.some.inj h1
 rw [e] at h2
 obtain ⟨hd, hm⟩ := h2
 have hc0 := h.late ⟨m, .inl e⟩
 rcases WGm.step hm h.books.live with ⟨hr, hS⟩ | ⟨m', g', rfl, hr, hgo, hm'⟩
 ·obtain ⟨hne, hW⟩ := books_idle h.books (by rw [e]; rfl)
  obtain ⟨g', hgo, m', hm'⟩ := hS (by rw [hc0] at hW; simpa using hW)
  refine h.grpM hg hgo (ms' := .wen m') (libE_rd rfl) rfl (fun _ _ => rfl) (by rw [still_rd, hd]; exact ⟨rfl, hm'⟩) (fun n k x => by cases x) (fun _ => by rw [e]; rfl) (fun s' e1 e2 e3 e4 e5 => ?_) (fun m x => by cases x) (fun c' _ => .of (by rw [e]; rfl) (by rw [e]; show 4 < 5; omega))
  rw [e] at e5
  have e6 : s'.cnt = s.cnt := e5
  exact ⟨books_like h.books (by rw [e1]) e6 (by rw [e3, e]; rfl) (fun x => by rw [e3] at x; cases x) (fun k _ => .inl (by rw [e2])) (by rw [e4]), fun _ => by rw [e6]; exact hc0⟩
 ·exact h.libM hg (ms' := .wld m') hgo ⟨hd, hm'⟩ (by rw [e]; rfl) (by rw [e]; rfl) (fun x => by cases x) (fun n k x => by cases x) (fun _ => by rw [e]; rfl) (fun _ => .inr hc0) (fun m x => by cases x) (.inner (n := 5) (by rw [e]; rfl) rfl (by rw [e]; rfl) (Nat.lt_succ_self m'))
theorem MI.wenM (h : MI P ty Wg st Base Post Shun p s) {g : Goroutine} (hg : s.gs[0]? = some g) {m : Nat} (e : s.ms = .wen m) :
  ∃ s', MI P ty Wg st Base Post Shun p s' ∧ Falls s'.mea s.mea ∧ Moves P s 0 s' := by
 obtain ⟨g₁, h1, h2⟩ := h.zero
 rw [hg] at h1
 obtain rfl := Option.some.inj h1
 rw [e] at h2
 obtain ⟨hd, hm⟩ := h2
 have hc0 := h.late ⟨m, .inr (.inl e)⟩
 rcases WGm.step hm h.books.live with ⟨hr, g', hgo, m', hm'⟩ | ⟨m', g', rfl, hr, hgo, hm'⟩
 ·refine h.grpM hg hgo (ms' := .wacq m') (fun x hx => by simp at hx; exact .inr (.inr hx)) rfl (fun _ _ => rfl) ⟨by rw [hd]; rfl, hm'⟩ (fun n k x => by cases x) (fun _ => by rw [e]; rfl) (fun s' e1 e2 e3 e4 e5 => ?_) (fun m x => by cases x) (fun c' _ => .of (by rw [e]; rfl) (by rw [e]; show 3 < 4; omega))
  rw [e] at e5
  have e6 : s'.cnt = s.cnt := e5
  exact ⟨books_like h.books (by rw [e1]) e6 (by rw [e3, e]; rfl) (fun x => by rw [e3] at x; cases x) (fun k _ => .inl (by rw [e2])) (by rw [e4]), fun _ => by rw [e6]; exact hc0⟩
 ·exact h.libM hg (ms' := .wen m') hgo ⟨hd, hm'⟩ (by rw [e]; rfl) (by rw [e]; rfl) (fun x => by cases x) (fun n k x => by cases x) (fun _ => by rw [e]; rfl) (fun _ => .inr hc0) (fun m x => by cases x) (.inner (n := 4) (by rw [e]; rfl) rfl (by rw [e]; rfl) (Nat.lt_succ_self m'))
/-- Where nobody is counted and nobody is at the last errand, every worker is gone. -/
theorem all_gone (hb : Books ty Wg s) (hr : s.ms.regd = false) (hc : s.cnt = 0) {k : Nat} (hk : k < s.γ.j) : ∃ q, s.S k = .gone q := by
 obtain ⟨hne, _⟩ := books_idle hb hr
 have h1 := noErrand_iff.1 hne k hk
 have h2 : (s.S k).counted = false := by
  cases hcc : (s.S k).counted with
  | false => rfl
  | true => exact absurd (counted_pos hk hcc) (by omega)
 cases e : s.S k with
 | gone q => exact ⟨q, rfl⟩
 | talk l r => rw [e] at h2; cases h2
 | park x l => rw [e] at h2; cases h2
 | rel m => rw [e] at h2; cases h2
 | dis m => rw [e] at h2; cases h2
 | sub m => rw [e] at h2; cases h2
 | ld m => rw [e] at h1; cases h1
 | sto m => rw [e] at h1; cases h1
 | sem m => rw [e] at h1; cases h1
theorem MI.wacqM (h : MI P ty Wg st Base Post Shun p s) {g : Goroutine} (hg : s.gs[0]? = some g) {m : Nat} (e : s.ms = .wacq m) :
  ∃ s', MI P ty Wg st Base Post Shun p s' ∧ Falls s'.mea s.mea ∧ Moves P s 0 s' := by
 obtain ⟨g₁, h1, h2⟩ := h.zero
 rw [hg] at h1
 obtain rfl := Option.some.inj h1
 rw [e] at h2
 obtain ⟨hd, hm⟩ := h2
 have hc0 := h.late ⟨m, .inr (.inr (.inl e))⟩
 rcases WGm.step hm h.books.live with ⟨hr, g', hgo, m', hm'⟩ | ⟨m', g', rfl, hr, hgo, hm'⟩
 ·have eu : MemOp.ofEvents 0 g.frame.fn g.frame.place #[Go.ConcR.mk (.acquire (stA Wg))] = #[{ g := 0, fn := g.frame.fn, pos := g.frame.place, act := .mark (.acquire (stA Wg)) }] := by rw [ofEvents_eq]; simp [Go.ConcR.mk, MemAct.ofEvent]
  have hcs : ∀ s' : Sit, s'.γ = s.γ → s'.S = s.S → s'.ms = .wfin m' → s'.cnt = s.cnt := fun s' e1 e2 e3 => by
   have := cnt_ms (s := s) (s' := s') (by rw [e1]) e2
   rw [e1, e3, e] at this
   simp only [MS.added, Bool.false_eq_true, if_false] at this
   omega
  have cr : Cr P Wg st Base Shun p s.γ.J s.γ.j s.γ.c s.relOf ((s.gs.map (woken P g g' s.w)).setIfInBounds 0 g') s.w (s.t ++ MemOp.ofEvents 0 g.frame.fn g.frame.place #[Go.ConcR.mk (.acquire (stA Wg))]) s.q s.V := by
   refine h.cr.turn (hbn := fun x hx => (h.cr.bsn x hx).1) (hbX := ⟨fun e => h.cr.pay.hwg e.symm, fun e => h.cr.pay.lwg e.symm⟩) (hos := ⟨rfl, rfl⟩) (.inl rfl) hg (b := Wg) h.cr.hidw rfl (fun _ _ => rfl) (fun x hx y hy _ => ?_) ?_
   ·simp only [List.mem_toArray, List.mem_singleton] at hx
    subst hx
    cases hy
   ·rw [eu]
    exact h.cr.hd.app (Nat.le_refl _) (.inl fun op hop => by simp at hop; rw [hop]) (fun op hop => by simp at hop; rw [hop]; simp) (fun op hop => by simp at hop; rw [hop]; exact h.cr.wlow)
  refine h.main hg hgo (v' := s.V 0) (ms' := .wfin m') (by rw [upd_self]; exact cr) ?_ (fun _ _ => rfl) rfl (fun n k x => by cases x) (fun _ => by rw [e]; rfl) (fun s' e1 e2 e3 e4 => ⟨?_, fun _ => by rw [hcs s' e1 e2 e3]; exact hc0⟩) (fun m x => ?_) (fun c' _ => .of (by rw [e]; rfl) (by rw [e]; show 2 < 3; omega))
  ·rw [deafBehind_still (fun x hx => by simp only [List.mem_toArray, List.mem_singleton] at hx; subst hx; exact ⟨by simp [Go.ConcR.mk], by simp [Go.ConcR.mk]⟩), hd]
   exact ⟨rfl, hm'⟩
  ·exact books_like h.books (by rw [e1]) (hcs s' e1 e2 e3) (by rw [e3, e]; rfl) (fun x => by rw [e3] at x; cases x) (fun k _ => .inl (by rw [e2])) (by rw [e4])
  ·rw [eu]
   refine h.cr.hd.done (fun said => by rw [← eu]; exact cr.tr.clean said) ⟨rfl, rfl⟩ hd h.cr.wlow fun n k hp hJ hgk => ?_
   obtain ⟨op, hop, hgo'⟩ := Option.map_eq_some_iff.1 hgk
   have hlt := h.cr.gsop n op hp hop
   rw [h.cr.size] at hlt
   have hk : k - s.γ.J < s.γ.j := by omega
   obtain ⟨q, hq⟩ := all_gone h.books (by rw [e]; rfl) hc0 hk
   exact ⟨k - s.γ.J, hk, by omega, by rw [hq]; trivial⟩
 ·exact h.libM hg (ms' := .wacq m') hgo ⟨hd, hm'⟩ (by rw [e]; rfl) (by rw [e]; rfl) (fun x => by cases x) (fun n k x => by cases x) (fun _ => by rw [e]; rfl) (fun _ => .inr hc0) (fun m x => by cases x) (.inner (n := 3) (by rw [e]; rfl) rfl (by rw [e]; rfl) (Nat.lt_succ_self m'))
end
end Go.Proofs.Ythmgpkcijolljaa
/-
  Goroutine 0 starts a worker; the join's end.
-/
namespace Go.Proofs.Ythmgpkcijolljaa
open Go.Conc
open Go.ConcN (upd upd_same upd_ne WgLive sumTo)
open Go.ConcR (KK WgAt stA smA rd wr DC0)
set_option linter.unusedSimpArgs false
set_option linter.unusedVariables false
section
variable {P : Program} {ty : TypeId} {Wg : Nat} {st : Bool} {Base : BsP} {Post : Value → World → Prop} {Shun : Loc → Prop} {p : Nat} {s s' : Sit}
theorem MI.goM (h : MI P ty Wg st Base Post Shun p s) {g g' child : Goroutine} (hg : s.gs[0]? = some g) {n : Nat} (e : s.ms = .walk n .nil) (ho : s.γ.owed = 1) {v0 vc : World} {c : Nat} {tm : Bool} {says : List Say} {dn : Value → World → Prop} (hform : Formed says) (hroom : s.γ.j + 1 < Base.X.cs.size)
  (hgo : ∀ w, stepG P true g w = .spawn g' child w #[]) (hS : Split P (s.V 0) v0 vc) (hc : (s.V 0).heap[c]? = some (.chan 0 #[] false 0 0 tm)) (h0c : v0.heap[c]? = some hid) (hcc : vc.heap[c]? = some hid) (hcw : c ≠ Wg)
  (hT : Th P false true st (fun _ => True) (AtSay P ty Wg st ⟨⟨Base.X.H, s.γ.j + 1, none⟩, Base.X.lk, Base.X.hv, dn⟩ c (dn ((Base.X.cs[s.γ.j + 1]?).getD undef)) says) child vc) (hd1 : ∀ y v t d, dn y (v.re t d) → dn y v) (hd2 : ∀ y v n, Flat P v → dn y v → dn y (v.upto n))
  (hN : MNext P ty Wg st Base Post n { s.γ with j := s.γ.j + 1, c := upd s.γ.c s.γ.j c, σ := upd s.γ.σ s.γ.j says, shut := upd s.γ.shut s.γ.j false, dn := upd s.γ.dn s.γ.j dn, owed := 0 } g' v0) :
  ∃ s', MI P ty Wg st Base Post Shun p s' ∧ Falls s'.mea s.mea ∧ Moves P s 0 s' := by
 have hJ := h.cr.gJ
 obtain ⟨g₁, h1, h2⟩ := h.zero
 rw [hg] at h1
 obtain rfl := Option.some.inj h1
 rw [e] at h2
 have hd0 := h2.1
 have hsz := h.cr.size
 have hlt : 0 < s.gs.size := (Array.getElem?_eq_some_iff.1 hg).1
 cases n with
 | zero => exact hN.elim
 | succ n =>
 obtain ⟨rm, hN⟩ := hN
 obtain ⟨r, hT⟩ := hT
 have hV0 := h.cr.veil 0 (.inl rfl)
 have hwc : s.w.heap[c]? = some (.chan 0 #[] false 0 0 tm) := by
  obtain ⟨o, h3, h4⟩ := hV0.blk _ _ hc
  cases h4
  exact h3
 have hcne : ∀ k, k < s.γ.j → s.γ.c k ≠ c := by
  rintro k hk rfl
  have := (h.cr.hidc k hk).2 0 (.inl rfl) _ hc
  cases this
 obtain ⟨x, hx⟩ : ∃ x : MemOp, x = { g := 0, fn := g.frame.fn, pos := g.frame.place, act := .go s.gs.size } := ⟨_, rfl⟩
 obtain ⟨y, hy⟩ : ∃ y : MemOp, y = { g := s.gs.size, fn := child.frame.fn, pos := g.frame.place, act := .start } := ⟨_, rfl⟩
 have cr := h.cr.fork (g' := g') (child := child) hS hc h0c hcc hd0 (x := x) (y := y) (by rw [hx]; exact ⟨rfl, rfl⟩) (by rw [hy]; exact ⟨rfl, rfl⟩) hroom
 have hpj : pcell Base.X s.w s.γ.j = (Base.X.cs[s.γ.j + 1]?).getD undef := by
  obtain ⟨cs', q1, q2, q3⟩ := h.cr.pay.blk
  unfold pcell
  rw [← q3 (s.γ.j + 1) (.inr (Nat.lt_succ_self _))]
  congr 1
  unfold World.cell?
  rw [q1]
  rfl
 have hD : ∀ i, Deaf (s.t ++ #[x, y]) i = Deaf s.t i := fun i => Go.ConcN.Deaf_still s.t i _ fun op hop => by
  simp only [List.mem_toArray, List.mem_cons, List.not_mem_nil, or_false] at hop
  rcases hop with rfl | rfl
  ·rw [hx]; exact ⟨by simp, by simp⟩
  ·rw [hy]; exact ⟨by simp, by simp⟩
 have get : ∀ i, i < s.gs.size → i ≠ 0 → ((s.gs.setIfInBounds 0 g').push child)[i]? = s.gs[i]? := fun i hi h0 => by
  rw [Array.getElem?_push, if_neg (by simp; omega), Array.getElem?_setIfInBounds_ne (fun z => h0 z.symm)]
 have hne : ∀ {k}, k < s.γ.j → k ≠ s.γ.j := fun hk => Nat.ne_of_lt hk
 have cases_j : ∀ {k}, k < s.γ.j + 1 → k < s.γ.j ∨ k = s.γ.j := fun hk => by omega
 have hcnt : sumTo s.γ.j (fun k => if (upd s.S s.γ.j (.talk says r) k).counted then 1 else 0) = sumTo s.γ.j (fun k => if (s.S k).counted then 1 else 0) := sumTo_cong fun k hk => by rw [upd_ne _ _ (hne hk)]
 have hcs : ∀ z : Nat, z = 0 + 0 + sumTo (s.γ.j + 1) (fun k => if (upd s.S s.γ.j (.talk says r) k).counted then 1 else 0) → z = s.cnt := by
  intro z hz
  simp only [sumTo, hcnt, upd_same] at hz
  have : s.cnt = s.γ.owed + (if s.ms.added then 1 else 0) + sumTo s.γ.j (fun k => if (s.S k).counted then 1 else 0) := rfl
  rw [ho, e] at this
  simp only [MS.added, WS.counted, Bool.false_eq_true, if_false, if_true] at this hz
  omega
 obtain ⟨hne1, hW⟩ := books_idle h.books (by rw [e]; rfl)
 refine ⟨{ s with γ := { s.γ with j := s.γ.j + 1, c := upd s.γ.c s.γ.j c, σ := upd s.γ.σ s.γ.j says, shut := upd s.γ.shut s.γ.j false, dn := upd s.γ.dn s.γ.j dn, owed := 0 }, gs := (s.gs.setIfInBounds 0 g').push child, t := s.t ++ #[x, y], V := upd (upd s.V 0 v0) (s.γ.J + s.γ.j) vc, S := upd s.S s.γ.j (.talk says r), ms := .walk n rm, cl := upd s.cl s.γ.j false },
  ⟨?_, fun k hk => ?_, fun k hk => ?_, fun k hk => ?_, ⟨g', ?_, ?_⟩, fun k hk => ?_, fun k k' hk hk' => ?_, fun k hk => ?_, fun k hk => ?_, fun k hk => ?_, fun k hk => ?_, fun n k x => (by cases x), fun x => (by cases x), ?_, ?_, fun ⟨m, x⟩ => (by rcases x with x | x | x | x <;> cases x), fun m x => (by cases x)⟩, .inl ?_, _, fun sl => ⟨sl, ?_⟩, rfl⟩
 ·have hr : (fun i => ∃ k, k < s.γ.j + 1 ∧ i = s.γ.J + k ∧ (upd s.S s.γ.j (.talk says r) k).released) = s.relOf := by
   funext i
   apply propext
   constructor
   ·rintro ⟨k, hk, hi, hr⟩
    rcases cases_j hk with hk | rfl
    ·rw [upd_ne _ _ (hne hk)] at hr; exact ⟨k, hk, hi, hr⟩
    ·rw [upd_same] at hr; exact hr.elim
   ·rintro ⟨k, hk, hi, hr⟩
    exact ⟨k, by omega, hi, by rw [upd_ne _ _ (hne hk)]; exact hr⟩
  show Cr P Wg st Base Shun p s.γ.J (s.γ.j + 1) (upd s.γ.c s.γ.j c) (fun i => ∃ k, k < s.γ.j + 1 ∧ i = s.γ.J + k ∧ (upd s.S s.γ.j (.talk says r) k).released) _ s.w _ s.q _
  rw [hr]; exact cr
 ·show ∃ g1, ((s.gs.setIfInBounds 0 g').push child)[s.γ.J + k]? = some g1 ∧ WSt P ty Wg st ⟨⟨Base.X.H, k + 1, none⟩, Base.X.lk, Base.X.hv, upd s.γ.dn s.γ.j dn k⟩ (upd s.γ.c s.γ.j c k) (upd s.γ.dn s.γ.j dn k (pcell Base.X s.w k)) (Deaf (s.t ++ #[x, y]) (s.γ.J + k)) g1 (upd (upd s.V 0 v0) (s.γ.J + s.γ.j) vc (s.γ.J + k)) (upd s.S s.γ.j (.talk says r) k)
  rw [hD]
  rcases cases_j hk with hk | rfl
  ·obtain ⟨gk, h3, h4⟩ := h.wrk k hk
   rw [upd_ne _ _ (hne hk), upd_ne _ _ (hne hk), upd_ne _ _ (hne hk), upd_ne (upd s.V 0 v0) _ (by omega), upd_ne _ _ (by omega), get _ (by omega) (by omega)]
   exact ⟨gk, h3, h4⟩
  ·rw [upd_same, upd_same, upd_same, upd_same, hpj]
   refine ⟨child, ?_, h.cr.above _ (by omega), hT⟩
   rw [← hsz, Array.getElem?_push, if_pos (by simp)]
 ·show (∀ y v t d, upd s.γ.dn s.γ.j dn k y (v.re t d) → upd s.γ.dn s.γ.j dn k y v) ∧ ∀ y v n, Flat P v → upd s.γ.dn s.γ.j dn k y v → upd s.γ.dn s.γ.j dn k y (v.upto n)
  rcases cases_j hk with hk | rfl
  ·rw [upd_ne _ _ (hne hk)]; exact h.dn k hk
  ·rw [upd_same]; exact ⟨hd1, hd2⟩
 ·show Formed (upd s.γ.σ s.γ.j says k)
  rcases cases_j hk with hk | rfl
  ·rw [upd_ne _ _ (hne hk)]; exact h.form k hk
  ·rw [upd_same]; exact hform
 ·show ((s.gs.setIfInBounds 0 g').push child)[0]? = some g'
  rw [Array.getElem?_push, if_neg (by simp; omega)]
  simp [hlt]
 ·show MSt P ty Wg st Base Post _ (Deaf (s.t ++ #[x, y]) 0) g' (upd (upd s.V 0 v0) (s.γ.J + s.γ.j) vc 0) _
  rw [hD, upd_ne _ _ (by omega), upd_same]
  exact ⟨hd0, hN⟩
 ·show ∃ a b tm, s.w.heap[upd s.γ.c s.γ.j c k]? = some (.chan 0 #[] (upd s.cl s.γ.j false k) a b tm)
  rcases cases_j hk with hk | rfl
  ·rw [upd_ne _ _ (hne hk), upd_ne _ _ (hne hk)]; exact h.chan k hk
  ·rw [upd_same, upd_same]; exact ⟨0, 0, tm, hwc⟩
 ·show upd s.γ.c s.γ.j c k = upd s.γ.c s.γ.j c k' → k = k'
  rcases cases_j hk with hk | rfl <;> rcases cases_j hk' with hk' | rfl
  ·rw [upd_ne _ _ (hne hk), upd_ne _ _ (hne hk')]; exact h.cinj k k' hk hk'
  ·rw [upd_ne _ _ (hne hk), upd_same]; exact fun z => absurd z (hcne k hk)
  ·rw [upd_ne _ _ (hne hk'), upd_same]; exact fun z => absurd z.symm (hcne k' hk')
  ·exact fun _ => rfl
 ·show upd s.γ.c s.γ.j c k ≠ Wg
  rcases cases_j hk with hk | rfl
  ·rw [upd_ne _ _ (hne hk)]; exact h.cwg k hk
  ·rw [upd_same]; exact hcw
 ·show upd s.cl s.γ.j false k = false → upd s.γ.shut s.γ.j false k = false ∧ (upd s.S s.γ.j (.talk says r) k).says = upd s.γ.σ s.γ.j says k
  rcases cases_j hk with hk | rfl
  ·rw [upd_ne _ _ (hne hk), upd_ne _ _ (hne hk), upd_ne _ _ (hne hk), upd_ne _ _ (hne hk)]; exact h.open_ k hk
  ·rw [upd_same, upd_same, upd_same, upd_same]; exact fun _ => ⟨rfl, rfl⟩
 ·show upd s.cl s.γ.j false k = true → (upd s.γ.σ s.γ.j says k = [.close] ∧ (upd s.S s.γ.j (.talk says r) k).says = []) ∨ (∃ tl, upd s.γ.σ s.γ.j says k = .eof :: tl ∧ upd s.γ.shut s.γ.j false k = true ∧ ∃ m', (upd s.S s.γ.j (.talk says r) k).says = (Say.eof :: tl).drop m')
  rcases cases_j hk with hk | rfl
  ·rw [upd_ne _ _ (hne hk), upd_ne _ _ (hne hk), upd_ne _ _ (hne hk), upd_ne _ _ (hne hk)]; exact h.closed k hk
  ·rw [upd_same]; exact fun z => by cases z
 ·show upd s.cl s.γ.j false k = true → ∀ x l, upd s.S s.γ.j (.talk says r) k ≠ .park x l
  rcases cases_j hk with hk | rfl
  ·rw [upd_ne _ _ (hne hk), upd_ne _ _ (hne hk)]; exact h.nopark k hk
  ·rw [upd_same]; exact fun z => by cases z
 ·have := h.small
  show s.γ.j + 1 + 0 + 1 < 2147483647
  omega
 ·refine .idle rfl (noErrand_iff.2 fun k hk => ?_) ?_
  ·show (upd s.S s.γ.j (.talk says r) k).errand = false
   rcases cases_j hk with hk | rfl
   ·rw [upd_ne _ _ (hne hk)]; exact noErrand_iff.1 hne1 k hk
   ·rw [upd_same]; rfl
  ·have hx : ∀ z : Nat, z = s.cnt → WgAt ty Wg s.w (z * KK) 0 := fun z hz => by rw [hz]; exact hW
   exact hx _ (hcs _ rfl)
 ·show n + 1 < s.ms.left
  rw [e]; exact Nat.lt_succ_self _
 ·have := runT_crowd_spawn (P := P) (sl := sl) hg (show stepG P (0 == 0) g s.w = _ from hgo s.w)
  rw [this, hx, hy]
  simp [MemOp.ofEvents]
/-- A last step in the library. -/
theorem MI.wfinS (h : MI P ty Wg st Base Post Shun p s) {g : Goroutine} (hg : s.gs[0]? = some g) {m : Nat} (e : s.ms = .wfin m) (hF : ¬ FinW P Wg Base Post s.γ (s.V 0) g) :
  ∃ s', MI P ty Wg st Base Post Shun p s' ∧ Falls s'.mea s.mea ∧ Moves P s 0 s' := by
 obtain ⟨g₁, h1, h2⟩ := h.zero
 rw [hg] at h1
 obtain rfl := Option.some.inj h1
 rw [e] at h2
 obtain ⟨hd, hm⟩ := h2
 rcases WGm.step hm h.books.live with hN | ⟨m', g', rfl, hr, hgo, hm'⟩
 ·exact absurd hN hF
 ·exact h.libM hg (ms' := .wfin m') hgo ⟨hd, hm'⟩ (by rw [e]; rfl) (by rw [e]; rfl) (fun x => by cases x) (fun n k x => by cases x) (fun _ => by rw [e]; rfl) (fun _ => .inl ⟨_, .inr (.inr (.inr e))⟩) (fun m x => ⟨_, e⟩) (.inner (n := 2) (by rw [e]; rfl) rfl (by rw [e]; rfl) (Nat.lt_succ_self m'))
/-- ████ BEHIND THE JOIN goroutine 0 is beside leavers again. ████ -/
theorem MI.ends (h : MI P ty Wg st Base Post Shun p s) {g : Goroutine} (hg : s.gs[0]? = some g) {m : Nat} (e : s.ms = .wfin m) (hF : FinW P Wg Base Post s.γ (s.V 0) g) (sl : Option (Nat × Nat)) : Ends P (Base.post Post) (crowd s.gs s.w sl) s.t := by
 have hc0 := h.late ⟨m, .inr (.inr (.inr e))⟩
 have gone : ∀ k, k < s.γ.j → ∃ q, s.S k = .gone q := fun k hk => all_gone h.books (by rw [e]; rfl) hc0 hk
 obtain ⟨hr, hJn⟩ := hF
 obtain ⟨vf, f1, f2, f3, f4, f6, f5⟩ := hJn s.w (h.cr.veil 0 (.inl rfl)) h.cr.pay.blk fun k hk => by
  obtain ⟨q, hq⟩ := gone k hk
  obtain ⟨gk, h3, h4⟩ := h.wrk k hk
  rw [hq] at h4
  exact ⟨_, h.cr.veil _ (.inr ⟨by omega, by omega⟩), h4.1⟩
 obtain ⟨q', hq'⟩ : ∃ q' : Nat → Nat, (∀ i, i < s.γ.J → q' i = s.q i) ∧ ∀ k q, s.S k = .gone q → q' (s.γ.J + k) = q :=
  ⟨fun i => if i < s.γ.J then s.q i else match s.S (i - s.γ.J) with | .gone q => q | _ => 0, fun i hi => if_pos hi, fun k q hk => by
   show (if s.γ.J + k < s.γ.J then _ else _) = q
   rw [if_neg (by omega), show s.γ.J + k - s.γ.J = k by omega, hk]⟩
 have hst : ∀ w', Stay vf s.w w' → Base.ok w' := fun w' k => ⟨k.1.trans h.cr.ok.1, k.2.1.trans h.cr.ok.2.1, fun b hb => (k.2.2 b (f6 b hb)).trans (h.cr.ok.2.2 b hb)⟩
 refine Ends.mono (f5 s.gs s.w sl s.t q' (fun l => Shun l ∨ OfB Wg l) ?_) fun x w' k => ⟨k.1, hst w' k.2⟩
 refine ⟨hg, ⟨fun i x hi hx => ?_, h.cr.above⟩, h.fin m e, f1, f2.symm, fun l hl hm => ?_⟩
 ·rcases h.idx hx with h0 | ⟨_, hJ⟩ | ⟨k, hk, rfl⟩
  ·omega
  ·rw [hq'.1 i hJ]; exact h.cr.old i x hi hJ hx
  ·obtain ⟨q, hq⟩ := gone k hk
   obtain ⟨gk, h3, h4⟩ := h.wrk k hk
   rw [hx] at h3
   obtain rfl := Option.some.inj h3
   rw [hq] at h4
   rw [hq'.2 k q hq]; exact h4.2
 ·rcases hl with hl | hl
  ·obtain ⟨b1, b2⟩ := h.cr.base l hl hm
   exact f3 _ b1 b2
  ·rw [hl.2]; exact f4
end
end Go.Proofs.Ythmgpkcijolljaa
/-
  A worker looks at the common cell, and lays down what it has.
-/
namespace Go.Proofs.Ythmgpkcijolljaa
open Go.Conc
open Go.ConcN (upd upd_same upd_ne WgLive sumTo)
open Go.ConcR (KK WgAt stA smA rd wr DC0)
set_option linter.unusedSimpArgs false
set_option linter.unusedVariables false
section
variable {t u : Trace} {act : Nat → Prop} {V : Nat → World} {Wg i : Nat} {Ch : Nat → Nat → Prop}
/-- One plain access to a cell that it knows and that none sees. -/
theorem Tr.pay (h : Tr t act V Wg Ch) {x : MemOp} (hx : x.g = i) {b : Touch} (hb : x.act.touch? = some b) {a : Addr} (hl : b.loc = .cell a) (hw : a.block ≠ Wg)
  (hk : ∀ n c, touchAt t n = some c → c.loc = .cell a → (c.write = true ∨ b.write = true) → Knows t i n)
  (hs : ∀ k, act k → ¬ Wr (V k) (.cell a)) (hs2 : b.write = true → ∀ k, act k → ¬ Rd (V k) (.cell a)) : Tr (t ++ #[x]) act V Wg Ch := by
 have only : ∀ op ∈ (#[x] : Trace), ∀ b', op.act.touch? = some b' → op.g = i ∧ b' = b := fun op hop b' hb' => by
  have : op = x := by simpa using hop
  subst this
  rw [hb] at hb'
  exact ⟨hx, (Option.some.inj hb').symm⟩
 refine ⟨fun said => ?_, fun k hk' l hm hW => ?_, fun k hk' l hm hR => ?_, fun n c hc hof => ?_, fun c k hck n d hd hdl => ?_⟩
 ·refine noRace_append (g := i) (h.clean said) (fun op hop => by simp at hop; rw [hop]; exact hx) fun n c hc op hop b' hb' hcf => ?_
  obtain ⟨hloc, hmem, hww, hkk⟩ := hcf
  obtain ⟨_, rfl⟩ := only op hop b' hb'
  exact hk n c hc (hloc.trans hl) hww
 ·refine (h.own k hk' l hm hW).app fun op hop b' hb' hl' => ?_
  exfalso
  obtain ⟨_, rfl⟩ := only op hop b' hb'
  rw [← hl', hl] at hW
  exact hs k hk' hW
 ·refine (h.rd k hk' l hm hR).app fun op hop b' hb' hl' hwr => ?_
  exfalso
  obtain ⟨_, rfl⟩ := only op hop b' hb'
  rw [← hl', hl] at hR
  exact hs2 hwr k hk' hR
 ·rcases touch_app hc with h1 | ⟨op, hop, _, hx'⟩
  ·rcases h.wg n c h1 hof with h2 | ⟨h2, h3⟩ | h2
   ·exact .inl h2
   ·exact .inr (.inl ⟨h2, g?_app_old h3⟩)
   ·exact .inr (.inr fun k hk => (h2 k hk).app _)
  ·obtain ⟨_, rfl⟩ := only op hop c hx'
   have := hof.2
   rw [hl] at this
   exact absurd this hw
 ·rcases touch_app hd with h1 | ⟨op, hop, _, hx'⟩
  ·exact (h.ch c k hck n d h1 hdl).imp id fun h2 => h2.app _
  ·obtain ⟨_, rfl⟩ := only op hop d hx'
   rw [hl] at hdl; cases hdl
end
section
variable {P : Program} {Wg : Nat} {st : Bool} {Base : BsP} {Shun : Loc → Prop} {p J j : Nat} {c : Nat → Nat} {rel : Nat → Prop} {gs : Array Goroutine} {w w' : World} {t : Trace} {q : Nat → Nat} {V : Nat → World}
theorem Cr.extra (h : Cr P Wg st Base Shun p J j c rel gs w t q V) {i : Nat} (hi : Act' J j i) {g g' : Goroutine} (hg : gs[i]? = some g) {es : Array Event} {fn : FuncId} {pos : String}
  (hv : ∀ k, Act' J j k → Veil P (V k) w') (hsz : w'.heap.size = w.heap.size) (hok : Base.ok w') (htr : Tr (t ++ MemOp.ofEvents i fn pos es) (Act' J j) V Wg (ChOf J j c))
  (hd : Hd (t ++ MemOp.ofEvents i fn pos es) Shun (stA Wg) Wg w'.heap.size p J rel) (hp : Pay Base.X Wg J j c w' (t ++ MemOp.ofEvents i fn pos es) V) :
  Cr P Wg st Base Shun p J j c rel ((gs.map (woken P g g' w')).setIfInBounds i g') w' (t ++ MemOp.ofEvents i fn pos es) q V := by
 have hlt : i < gs.size := (Array.getElem?_eq_some_iff.1 hg).1
 have hJ := h.gJ
 have hother : ∀ k, k ≠ i → Deaf (t ++ MemOp.ofEvents i fn pos es) k = Deaf t k := fun k hk => Deaf_other t (fun e => hk e.symm) _ ofEvents_g
 refine ⟨by simp [h.size], fun k x hk0 hkJ hx => ?_, fun k hk => ?_, hv, fun hst => by rw [hsz]; exact h.same hst, h.apt, h.hidw, fun k hk => ⟨by rw [hsz]; exact (h.hidc k hk).1, (h.hidc k hk).2⟩, htr, hd, ?_, fun l hs hm => ⟨(h.base l hs hm).1, by rw [hsz]; exact (h.base l hs hm).2⟩, by rw [hsz]; exact h.wlow, hok, h.hb, h.bsn, h.bsh, hp⟩
 ·have hne : i ≠ k := by
   rcases hi with rfl | ⟨h1, _⟩ <;> omega
  rw [Array.getElem?_setIfInBounds_ne hne, Array.getElem?_map] at hx
  obtain ⟨y, hy, rfl⟩ := Option.map_eq_some_iff.1 hx
  have hq := h.old k y hk0 hkJ hy
  rw [woken_quitsD hq, hother k (fun e => hne e.symm)]
  exact hq
 ·have hk' : gs.size ≤ k := by simpa using hk
  rw [hother k (by omega)]
  exact h.above k hk'
 ·refine gsop_app (fun n op hn ho => by simpa using h.gsop n op hn ho) fun op hop => ?_
  rw [ofEvents_g op hop]
  simpa using hlt
/-- A worker looks. -/
theorem Cr.look (h : Cr P Wg st Base Shun p J j c rel gs w t q V) {k : Nat} (hk : k < j) (hr : ¬ rel (J + k)) {g g' : Goroutine} (hg : gs[J + k]? = some g) {fn : FuncId} {pos : String} :
  Cr P Wg st Base Shun p J j c rel ((gs.map (woken P g g' w)).setIfInBounds (J + k) g') w (t ++ MemOp.ofEvents (J + k) fn pos #[⟨.cell Base.X.lk, false, false⟩]) q V := by
 have e : MemOp.ofEvents (J + k) fn pos #[⟨.cell Base.X.lk, false, false⟩] = #[{ g := J + k, fn := fn, pos := pos, act := .access ⟨.cell Base.X.lk, false, false⟩ }] := by rw [ofEvents_eq]; simp [MemAct.ofEvent]
 have hp := h.pay
 have only : ∀ op ∈ MemOp.ofEvents (J + k) fn pos #[⟨.cell Base.X.lk, false, false⟩], ∀ b, op.act.touch? = some b → b.loc = .cell Base.X.lk ∧ b.write = false := fun op hop b hb => by
  rw [e] at hop
  have : op = { g := J + k, fn := fn, pos := pos, act := .access ⟨.cell Base.X.lk, false, false⟩ } := by simpa using hop
  subst this
  have hb' : b = ⟨.cell Base.X.lk, false, .plain⟩ := (Option.some.inj hb).symm
  subst hb'
  exact ⟨rfl, rfl⟩
 refine h.extra (.inr ⟨by omega, by omega⟩) hg h.veil rfl h.ok ?_ ?_ (hp.app (fun op hop b hb i hbl => ?_) (fun op hop b hb hw _ => ?_) rfl rfl)
 ·rw [e]
  exact h.tr.pay (i := J + k) rfl (b := ⟨.cell Base.X.lk, false, .plain⟩) rfl rfl hp.lwg (fun n c hc hcl hw => hp.lk k hk n c hc hcl (hw.elim id fun x => by cases x)) hp.lkw (fun x => by cases x)
 ·refine h.hd.app (Nat.le_refl _) (.inr (.inr (.inl ⟨J + k, by omega, hr, ofEvents_g⟩))) (fun op hop => ?_) (fun op hop => ?_)
  ·rw [e] at hop
   have : op = { g := J + k, fn := fn, pos := pos, act := .access ⟨.cell Base.X.lk, false, false⟩ } := by simpa using hop
   rw [this]; simp
  ·rw [e] at hop
   have : op = { g := J + k, fn := fn, pos := pos, act := .access ⟨.cell Base.X.lk, false, false⟩ } := by simpa using hop
   rw [this]; exact hp.lne
 ·have := (only op hop b hb).1.symm.trans hbl
  rw [Loc.cell.injEq] at this
  exact hp.lH (by rw [this])
 ·rw [(only op hop b hb).2] at hw; cases hw
theorem setPay {X : Pl} {j k : Nat} (hk : k < j) (hr : j < X.cs.size) {y : Value} (h : PayBlk X j w) : PayBlk X j (w.setCell ⟨X.H, k + 1, none⟩ y) ∧ (∀ b, b ≠ X.H → (w.setCell ⟨X.H, k + 1, none⟩ y).heap[b]? = w.heap[b]?) ∧ pcell X (w.setCell ⟨X.H, k + 1, none⟩ y) k = y ∧
  (∀ k', k' ≠ k → pcell X (w.setCell ⟨X.H, k + 1, none⟩ y) k' = pcell X w k') ∧ w.cell? ⟨X.H, k + 1, none⟩ ≠ none ∧ w.frozen? ⟨X.H, k + 1, none⟩ = false := by
 obtain ⟨cs', h1, h2, h3⟩ := h
 have e1 : (w.setCell ⟨X.H, k + 1, none⟩ y).heap[X.H]? = some (.cells (cs'.setIfInBounds (k + 1) y) X.e (0, 0)) := by
  rw [setCell_get, if_pos rfl]
  simp only [h1]
  rfl
 have hlt : k + 1 < cs'.size := by omega
 refine ⟨⟨_, e1, by simpa using h2, fun i hi => ?_⟩, fun b hb => ?_, ?_, fun k' hk' => ?_, ?_, ?_⟩
 ·rw [Array.getElem?_setIfInBounds_ne (by omega)]; exact h3 i hi
 ·rw [setCell_get, if_neg hb]
 ·unfold pcell World.cell?
  rw [e1]
  simp [hlt]
 ·unfold pcell World.cell?
  rw [e1, h1]
  simp [Array.getElem?_setIfInBounds_ne (show k + 1 ≠ k' + 1 by omega)]
 ·unfold World.cell?
  rw [h1]
  simp [hlt]
 ·simp [World.frozen?, h1]
/-- A worker lays down what it has. -/
theorem Cr.put (h : Cr P Wg st Base Shun p J j c rel gs w t q V) {k : Nat} (hk : k < j) (hr : ¬ rel (J + k)) {g g' : Goroutine} (hg : gs[J + k]? = some g) {fn : FuncId} {pos : String} {y : Value} (hw : w' = w.setCell ⟨Base.X.H, k + 1, none⟩ y) :
  Cr P Wg st Base Shun p J j c rel ((gs.map (woken P g g' w')).setIfInBounds (J + k) g') w' (t ++ MemOp.ofEvents (J + k) fn pos #[⟨.cell ⟨Base.X.H, k + 1, none⟩, true, false⟩]) q V := by
 have e : MemOp.ofEvents (J + k) fn pos #[⟨.cell ⟨Base.X.H, k + 1, none⟩, true, false⟩] = #[{ g := J + k, fn := fn, pos := pos, act := .access ⟨.cell ⟨Base.X.H, k + 1, none⟩, true, false⟩ }] := by rw [ofEvents_eq]; simp [MemAct.ofEvent]
 have hp := h.pay
 obtain ⟨p1, p2, p3, p4, p5, p6⟩ := setPay (y := y) hk hp.room hp.blk
 rw [← hw] at p1 p2 p3 p4
 have hsz : w'.heap.size = w.heap.size := by rw [hw]; exact setCell_size
 have one : ∀ op ∈ MemOp.ofEvents (J + k) fn pos #[⟨.cell ⟨Base.X.H, k + 1, none⟩, true, false⟩], op.g = J + k ∧ (∀ b, op.act.touch? = some b → b.loc = .cell ⟨Base.X.H, k + 1, none⟩) ∧ (∀ a, op.act ≠ .mark (.release a)) ∧ op.act.low w.heap.size := fun op hop => by
  rw [e] at hop
  have : op = { g := J + k, fn := fn, pos := pos, act := .access ⟨.cell ⟨Base.X.H, k + 1, none⟩, true, false⟩ } := by simpa using hop
  subst this
  refine ⟨rfl, fun b hb => ?_, fun a => by simp, hp.blk.lt⟩
  have hb' : b = ⟨.cell ⟨Base.X.H, k + 1, none⟩, true, .plain⟩ := (Option.some.inj hb).symm
  subst hb'
  rfl
 have hne : ∀ {i : Nat}, i ≠ k + 1 → ∀ op ∈ MemOp.ofEvents (J + k) fn pos #[⟨.cell ⟨Base.X.H, k + 1, none⟩, true, false⟩], ∀ b, op.act.touch? = some b → b.loc ≠ .cell ⟨Base.X.H, i, none⟩ := fun {i} hi op hop b hb hbl => by
  have := ((one op hop).2.1 b hb).symm.trans hbl
  rw [Loc.cell.injEq, Addr.mk.injEq] at this
  exact hi this.2.1.symm
 have hnl : ∀ op ∈ MemOp.ofEvents (J + k) fn pos #[⟨.cell ⟨Base.X.H, k + 1, none⟩, true, false⟩], ∀ b, op.act.touch? = some b → b.loc ≠ .cell Base.X.lk := fun op hop b hb hbl => by
  have := ((one op hop).2.1 b hb).symm.trans hbl
  rw [Loc.cell.injEq] at this
  exact hp.lH (by rw [← this])
 refine h.extra (.inr ⟨by omega, by omega⟩) hg (fun k' hk' => (h.veil k' hk').turn (hp.hid k' hk') (by omega) fun b hb _ => p2 b hb) hsz ⟨?_, ?_, fun b hb => (p2 b (h.bsh b hb)).trans (h.ok.2.2 b hb)⟩ ?_ ?_ ?_
 ·rw [hw]; exact h.ok.1
 ·rw [hw]; exact h.ok.2.1
 ·rw [e]
  refine h.tr.pay (i := J + k) rfl (b := ⟨.cell ⟨Base.X.H, k + 1, none⟩, true, .plain⟩) rfl rfl hp.hwg (fun n c hc hcl _ => hp.kk k hk n c hc hcl) (fun k' hk' hW => ?_) (fun _ k' hk' hR => ?_)
  ·exact (hp.hid k' hk').rd (l := .cell ⟨Base.X.H, k + 1, none⟩) ⟨rfl, rfl⟩ (wr_rd hW)
  ·exact (hp.hid k' hk').rd (l := .cell ⟨Base.X.H, k + 1, none⟩) ⟨rfl, rfl⟩ hR
 ·rw [hsz]
  exact h.hd.app (Nat.le_refl _) (.inr (.inr (.inl ⟨J + k, by omega, hr, ofEvents_g⟩))) (fun op hop => (one op hop).2.2.1 _) (fun op hop => (one op hop).2.2.2)
 ·refine ⟨hp.hid, p1, hp.room, hp.hwg, hp.hch, (cell_blk (p2 _ hp.lH)).trans hp.lkv, hp.lkw, hp.lwg, hp.lH, hp.lch,
   fun i hi => (hp.k0 i hi).app fun op hop b hb hbl => absurd hbl (hne (by omega) op hop b hb), fun k' hk' => ?_,
   hp.l0.app fun op hop b hb hbl _ => absurd hbl (hnl op hop b hb), fun k' hk' => (hp.lk k' hk').app fun op hop b hb hbl _ => absurd hbl (hnl op hop b hb)⟩
  by_cases ek : k' = k
  ·subst ek; exact (hp.kk k' hk').app fun op hop b hb _ => (one op hop).1
  ·exact (hp.kk k' hk').app fun op hop b hb hbl => absurd hbl (hne (by omega) op hop b hb)
end
section
variable {P : Program} {ty : TypeId} {Wg : Nat} {st : Bool} {Base : BsP} {Post : Value → World → Prop} {Shun : Loc → Prop} {p : Nat} {s : Sit}
theorem MI.quiet_closed (h : MI P ty Wg st Base Post Shun p s) {k : Nat} (hk : k < s.γ.j) {x : Say} {l : List Say} (e : (s.S k).says = x :: l) (hx : x.quiet) : s.cl k = true := by
 cases hc : s.cl k with
 | true => rfl
 | false =>
  have h1 := (h.open_ k hk hc).2
  have h2 := h.form k hk
  rw [← h1, e] at h2
  exact absurd hx h2.head
/-- A worker's step that looks or lays down. -/
theorem MI.payW (h : MI P ty Wg st Base Post Shun p s) {k : Nat} (hk : k < s.γ.j) {g g' : Goroutine} (hg : s.gs[s.γ.J + k]? = some g) {x : Say} {l : List Say} (e : s.S k = .talk (x :: l) .nil) (hx : x.quiet) {ev : Event} {w' : World} {r : Rk}
  (hgo : stepG P false g s.w = .go g' w' #[ev])
  (hcr : Cr P Wg st Base Shun p s.γ.J s.γ.j s.γ.c s.relOf ((s.gs.map (woken P g g' w')).setIfInBounds (s.γ.J + k) g') w' (s.t ++ MemOp.ofEvents (s.γ.J + k) g.frame.fn g.frame.place #[ev]) s.q s.V)
  (ho : ∀ b, b ≠ Base.X.H → w'.heap[b]? = s.w.heap[b]?) (hpc : ∀ k', k' < s.γ.j → k' ≠ k → pcell Base.X w' k' = pcell Base.X s.w k') (hev : ∃ a b, ev = ⟨.cell a, b, false⟩)
  (own : WSt P ty Wg st (axOf Base.X s.γ k) (s.γ.c k) (s.γ.dn k (pcell Base.X w' k)) 0 g' (s.V (s.γ.J + k)) (.talk l r)) :
  ∃ s', MI P ty Wg st Base Post Shun p s' ∧ Falls s'.mea s.mea ∧ Moves P s (s.γ.J + k) s' := by
 have hl := h.books.live
 have hJ := h.cr.gJ
 have hcl := h.quiet_closed hk (by rw [e]; rfl) hx
 have hch : ∀ k', k' < s.γ.j → w'.heap[s.γ.c k']? = s.w.heap[s.γ.c k']? := fun k' hk' => ho _ fun z => h.cr.pay.hch k' hk' z.symm
 have hwg : w'.heap[Wg]? = s.w.heap[Wg]? := ho _ fun z => h.cr.pay.hwg z.symm
 obtain ⟨g₁, h1, h2⟩ := h.wrk k hk
 rw [hg] at h1
 obtain rfl := Option.some.inj h1
 rw [e] at h2
 have hd0 := h2.1
 obtain ⟨g0, hg0, hm0⟩ := h.zero
 obtain ⟨ms', hms, hms'⟩ := woken_mst (g := g) (g' := g') (w' := w') hl hm0 (h.mopen hch hm0)
 obtain ⟨r1, r2, r3, r4, r5, r6, r7⟩ := regd_wake hms'
 have hdf : deafBehind (Deaf s.t (s.γ.J + k)) #[ev] = 0 := by
  obtain ⟨a, b, rfl⟩ := hev
  rw [deafBehind_still fun x hx => by
   simp only [List.mem_toArray, List.mem_singleton] at hx
   subst hx
   exact ⟨by simp, by simp⟩]
  exact hd0
 have hmi := h.worker hk hg (g' := g') (es := #[ev]) (w' := w') (v' := s.V (s.γ.J + k)) (x' := .talk l r) (fn := g.frame.fn) (pos := g.frame.place) (ms' := ms') (fun g1 hg1 => by rw [hg0] at hg1; obtain rfl := Option.some.inj hg1; exact hms) hms' ?_ ?_ hch hpc
  ⟨fun hc => (by rw [hcl] at hc; cases hc), fun _ => ⟨1, by rw [e]; rfl⟩⟩ (fun y l' x => by cases x) (fun n _ => ⟨l, r, rfl⟩)
 ·refine ⟨_, hmi, falls_worker hk r4 (.inl (by rw [e]; simp [WS.stage])) hJ, _, fun sl => ⟨sl, runT_crowd_go hg ?_⟩, rfl⟩
  have : (s.γ.J + k == 0) = false := by simp; omega
  rw [this]; exact hgo
 ·rintro s' rfl
  obtain ⟨hb, hc⟩ := books_worker (x' := .talk l r) h.books hk hms' (by rw [e]; rfl) rfl (by rw [e]; rfl) hwg (gs' := (s.gs.map (woken P g g' w')).setIfInBounds (s.γ.J + k) g') (t' := s.t ++ MemOp.ofEvents (s.γ.J + k) g.frame.fn g.frame.place #[ev]) (V' := upd s.V (s.γ.J + k) (s.V (s.γ.J + k))) (cl' := s.cl)
  refine ⟨?_, hb, Nat.le_of_eq hc, fun m hm => ?_⟩
  ·rw [relOf_same (by rw [e]; rfl)]
   show Cr P Wg st Base Shun p s.γ.J s.γ.j s.γ.c s.relOf _ w' _ s.q (upd s.V (s.γ.J + k) (s.V (s.γ.J + k)))
   rw [upd_self]
   exact hcr
  ·exact absurd hm (h.no_fin hk (by rw [e]; rfl) m)
 ·rw [hdf]; exact own
theorem MI.norel (h : MI P ty Wg st Base Post Shun p s) {k : Nat} {l : List Say} {r : Rk} (e : s.S k = .talk l r) : ¬ s.relOf (s.γ.J + k) := fun ⟨k', _, ek, hr⟩ => by
 have : k' = k := by omega
 subst this
 rw [e] at hr
 exact hr
/-- ████ A worker looks. ████ -/
theorem MI.lookW (h : MI P ty Wg st Base Post Shun p s) {k : Nat} (hk : k < s.γ.j) {g : Goroutine} (hg : s.gs[s.γ.J + k]? = some g) {l : List Say} (e : s.S k = .talk (.look :: l) .nil) :
  ∃ s', MI P ty Wg st Base Post Shun p s' ∧ Falls s'.mea s.mea ∧ Moves P s (s.γ.J + k) s' := by
 obtain ⟨g₁, h1, h2⟩ := h.wrk k hk
 rw [hg] at h1
 obtain rfl := Option.some.inj h1
 rw [e] at h2
 obtain ⟨hd, g', hC, r, hr⟩ := h2
 exact h.payW hk hg e trivial (hC.2.2 s.w h.cr.pay.lkv) (h.cr.look hk (h.norel e) hg) (fun _ _ => rfl) (fun _ _ _ => rfl) ⟨_, _, rfl⟩ ⟨rfl, hr⟩
/-- ████ A worker lays down. ████ -/
theorem MI.putW (h : MI P ty Wg st Base Post Shun p s) {k : Nat} (hk : k < s.γ.j) {g : Goroutine} (hg : s.gs[s.γ.J + k]? = some g) {l : List Say} (e : s.S k = .talk (.put :: l) .nil) :
  ∃ s', MI P ty Wg st Base Post Shun p s' ∧ Falls s'.mea s.mea ∧ Moves P s (s.γ.J + k) s' := by
 obtain ⟨g₁, h1, h2⟩ := h.wrk k hk
 rw [hg] at h1
 obtain rfl := Option.some.inj h1
 rw [e] at h2
 obtain ⟨hd, g', y, hC, r, hr⟩ := h2
 obtain ⟨p1, p2, p3, p4, p5, p6⟩ := setPay (y := y) hk h.cr.pay.room h.cr.pay.blk
 have own : WSt P ty Wg st (axOf Base.X s.γ k) (s.γ.c k) (s.γ.dn k (pcell Base.X (s.w.setCell ⟨Base.X.H, k + 1, none⟩ y) k)) 0 g' (s.V (s.γ.J + k)) (.talk l r) := by
  rw [p3]
  exact ⟨rfl, hr⟩
 exact h.payW hk hg e trivial (hC.2.2 s.w p5 p6) (h.cr.put hk (h.norel e) hg rfl) p2 (fun k' _ hne => p4 k' hne) ⟨_, _, rfl⟩ own
end
end Go.Proofs.Ythmgpkcijolljaa
/-
  Each step of the machine of talkers leads on: it ends.
-/
namespace Go.Proofs.Ythmgpkcijolljaa
open Go.Conc
open Go.ConcN (upd upd_same upd_ne WgLive sumTo)
open Go.ConcR (KK WgAt stA smA rd wr DC0)
set_option linter.unusedSimpArgs false
set_option linter.unusedVariables false
section
variable {P : Program} {ty : TypeId} {Wg : Nat} {st : Bool} {Base : BsP} {Post : Value → World → Prop} {Shun : Loc → Prop} {p : Nat} {s : Sit}
theorem says_of (h : MI P ty Wg st Base Post Shun p s) {n k : Nat} (hpk : s.ms = .park n k) : ∃ x l, (s.S k).says = x :: l ∧ x.mine := by
 obtain ⟨g0, _, hM⟩ := h.zero
 rw [hpk] at hM
 obtain ⟨_, hk, x, l, z, sh, g₂, h1, h2, _⟩ := hM
 obtain ⟨hc, _⟩ := h.meet n k hpk
 exact ⟨x, l, by rw [(h.open_ k hk hc).2, h1], h2⟩
theorem MI.ahead (h : MI P ty Wg st Base Post Shun p s) (sl : Option (Nat × Nat)) : Ahead P ty Wg st Base Post Shun p s sl := by
 obtain ⟨i, g, d, sl', hi, hrun, hst⟩ := crowd_pick (P := P) (w := s.w) (sl := sl) h.awake h.somebody
 have mv : (∃ s', MI P ty Wg st Base Post Shun p s' ∧ Falls s'.mea s.mea ∧ Moves P { s with w := s.w.at d } i s') → Ahead P ty Wg st Base Post Shun p s sl := by
  rintro ⟨s', h1, h2, ops, h3, h4⟩
  obtain ⟨sl2, h5⟩ := h3 sl'
  refine .inr ⟨s', sl2, h1, h2, fun he => Ends.step (hst.trans h5) ?_⟩
  rw [h4] at he
  exact he
 have rl : (∃ s', MI P ty Wg st Base Post Shun p s' ∧ Falls s'.mea s.mea ∧ s'.gs = s.gs ∧ s'.w = s.w ∧ s'.t = s.t) → Ahead P ty Wg st Base Post Shun p s sl := by
  rintro ⟨s', h1, h2, h3, h4, h5⟩
  exact .inr ⟨s', sl, h1, h2, fun he => by rw [h3, h4, h5] at he; exact he⟩
 have hs := h.stir d
 have hl := h.books.live
 rcases h.idx hi with rfl | ⟨h0, hJ⟩ | ⟨k, hk, rfl⟩
 ·obtain ⟨g0, e0, hM⟩ := h.zero
  rw [hi] at e0
  obtain rfl := Option.some.inj e0
  cases hm : s.ms with
  | walk n r =>
   cases r with
   | sup f => exact mv (hs.walkM hi hm)
   | nil =>
    rw [hm] at hM
    obtain ⟨_, hS⟩ := hM
    rcases hS with ⟨k, x, l, z, sh, g₂, a1, a2, a3, a4, a5⟩ | ⟨k, g', tl, a1, a2, a3, a4, a5⟩ | ⟨a1, a2, a3⟩ | ⟨a1, g', child, v0, vc, c, tm, says, dn, b1, b2, b3, b4, b5, b6, b7, b8, b9, b10, b11, b12, b13, b14⟩ | ⟨a1, a2, A, a3, a4⟩
    ·exact mv (hs.talkM hi hm a1 a2 a3 a4 a5)
    ·exact mv (hs.shutM hi hm a1 a2 a3 a4 a5)
    ·exact rl (h.addM hi hm a1 a2 a3)
    ·exact mv (hs.goM hi hm a1 b10.2.1 b10.2.2 b4 b5 b6 b7 b8 b9 b11 b12 b13 b14)
    ·exact rl (h.waitM hi hm a1 a2 a3 a4)
  | park n k =>
   rw [hm] at hM
   obtain ⟨_, _, x, l, z, sh, g₂, _, _, _, rfl, _⟩ := hM
   cases hrun
  | adis n m => exact mv (hs.adisM hi hm)
  | aadd n m => exact mv (hs.aaddM hi hm)
  | amk n m => exact mv (hs.amkM hi hm)
  | aen n m => exact mv (hs.aenM hi hm)
  | afin n m =>
   by_cases hF : FinA P ty Wg st Base Post n s.γ (s.V 0) g
   ·exact rl (h.afinN hi hm hF)
   ·exact mv (hs.afinS hi hm hF)
  | wdis m => exact mv (hs.wdisM hi hm)
  | wanch m =>
   rw [hm] at hM
   obtain ⟨_, A, hL, hW⟩ := hM
   by_cases hA : A g
   ·exact rl (h.wanchN hi hm hL hA)
   ·exact mv (hs.wanchS hi hm hL hW hA)
  | wload m => exact mv (hs.wloadM hi hm)
  | wcas vs m => exact mv (hs.wcasM hi hm)
  | wmk m => exact mv (hs.wmkM hi hm)
  | wsem m => exact mv (hs.wsemM hi hm)
  | wblk =>
   rw [hm] at hM
   obtain ⟨_, g₀, _, rfl⟩ := hM
   cases hrun
  | wld m => exact mv (hs.wldM hi hm)
  | wen m => exact mv (hs.wenM hi hm)
  | wacq m => exact mv (hs.wacqM hi hm)
  | wfin m =>
   by_cases hF : FinW P Wg Base Post s.γ (s.V 0) g
   ·exact .inl (h.ends hi hm hF sl)
   ·exact mv (hs.wfinS hi hm hF)
 ·exact mv (hs.slip h0 hJ hi hrun)
 ·obtain ⟨g0, e0, hW⟩ := h.wrk k hk
  rw [hi] at e0
  obtain rfl := Option.some.inj e0
  cases hx : s.S k with
  | talk l r =>
   cases r with
   | sup f => exact mv (hs.walkW hk hi hx)
   | nil =>
    by_cases hp : ∃ n, s.ms = .park n k
    ·obtain ⟨n, hp⟩ := hp
     obtain ⟨x, l', h1, h2⟩ := says_of h hp
     rw [hx] at h1
     have h1' : l = x :: l' := h1
     subst h1'
     by_cases hxc : x = .close
     ·subst hxc
      exact mv (hs.closeW hk hi hx)
     ·exact mv (hs.meetW hk hi hx (by cases x <;> first | exact trivial | exact h2.elim | exact absurd rfl hxc) hp)
    ·have hnp : ∀ n, s.ms ≠ .park n k := fun n e => hp ⟨n, e⟩
     cases l with
     | nil => exact rl (h.turnW hk hx hnp)
     | cons x l =>
      by_cases hxc : x = .close
      ·subst hxc
       exact mv (hs.closeW hk hi hx)
      ·by_cases hxl : x = .look
       ·subst hxl
        exact mv (hs.lookW hk hi hx)
       ·by_cases hxp : x = .put
        ·subst hxp
         exact mv (hs.putW hk hi hx)
        ·have hxt : x.talks := by cases x <;> first | exact trivial | exact absurd rfl hxc | exact absurd rfl hxl | exact absurd rfl hxp
         cases hcl : s.cl k with
         | true => exact mv (hs.eofW hk hi hx hxt hcl)
         | false => exact mv (hs.parkW hk hi hx hxt hcl hnp)
  | park x l =>
   rw [hx] at hW
   obtain ⟨_, _, _, g₂, z, sh, _, rfl, _⟩ := hW
   cases hrun
  | rel m => exact mv (hs.relW hk hi hx)
  | dis m => exact mv (hs.disW hk hi hx)
  | sub m => exact mv (hs.subW hk hi hx)
  | ld m => exact mv (hs.ldW hk hi hx)
  | sto m => exact mv (hs.stoW hk hi hx)
  | sem m => exact mv (hs.semW hk hi hx)
  | gone q => exact mv (hs.goneW hk hi hrun hx)
/-- ████ THE MACHINE OF TALKERS ENDS. ████ -/
theorem MI.wins (h : MI P ty Wg st Base Post Shun p s) (sl : Option (Nat × Nat)) : Ends P (Base.post Post) (crowd s.gs s.w sl) s.t :=
 ends_of_ahead (fun s sl h => MI.ahead h sl) s sl h
end
end Go.Proofs.Ythmgpkcijolljaa
/-
  The talk begins beside leavers, and ends there: the theorem of the machine of talkers.
-/
namespace Go.Proofs.Ythmgpkcijolljaa
open Go.Conc
open Go.ConcN (upd upd_same upd_ne WgLive sumTo)
open Go.ConcR (KK WgAt stA smA rd wr DC0)
set_option linter.unusedSimpArgs false
set_option linter.unusedVariables false
def view0 (J : Nat) : View := ⟨J, 0, fun _ => 0, fun _ => [], fun _ => false, fun _ _ _ => True, 0⟩
def _root_.Go.World.hide (v : World) (b : Nat) : World := { v with heap := v.heap.setIfInBounds b hid }
theorem hide_same {v : World} {b : Nat} (h : b < v.heap.size) : (v.hide b).heap[b]? = some hid := by simp [World.hide, h]
theorem hide_ne {v : World} {b c : Nat} (h : c ≠ b) : (v.hide b).heap[c]? = v.heap[c]? := by simp [World.hide, Array.getElem?_setIfInBounds_ne (fun e => h e.symm)]
theorem hide_size {v : World} {b : Nat} : (v.hide b).heap.size = v.heap.size := by simp [World.hide]
theorem hide_get {v : World} {b c : Nat} {o : Obj} (h : (v.hide b).heap[c]? = some o) : (c = b ∧ o = hid) ∨ (c ≠ b ∧ v.heap[c]? = some o) := by
 by_cases e : c = b
 ·subst e
  have hlt : c < v.heap.size := by have := (Array.getElem?_eq_some_iff.1 h).1; rwa [hide_size] at this
  rw [hide_same hlt] at h
  exact .inl ⟨rfl, (Option.some.inj h).symm⟩
 ·rw [hide_ne e] at h; exact .inr ⟨e, h⟩
theorem Veil.hide {P : Program} {v w : World} (h : Veil P v w) {b : Nat} (hb : P.globals.size ≤ b) : Veil P (v.hide b) w := by
 refine ⟨by rw [hide_size]; exact h.size, fun c o e => ?_, ⟨by rw [hide_size]; exact h.flat.room, fun c o e => ?_, fun c e => ?_⟩⟩
 ·rcases hide_get e with ⟨rfl, rfl⟩ | ⟨_, e'⟩
  ·have hlt : c < v.heap.size := by have := (Array.getElem?_eq_some_iff.1 e).1; rwa [hide_size] at this
   have hlt' : c < w.heap.size := Nat.lt_of_lt_of_le hlt h.size
   exact ⟨_, Array.getElem?_eq_getElem hlt', .hid _⟩
  ·exact h.blk c o e'
 ·rcases hide_get e with ⟨rfl, rfl⟩ | ⟨_, e'⟩
  ·exact ⟨rfl, rfl⟩
  ·exact h.flat.obj c o e'
 ·rcases hide_get e with ⟨rfl, _⟩ | ⟨_, e'⟩
  ·exact hb
  ·exact h.flat.low c e'
section
variable {P : Program} {ty : TypeId} {Wg : Nat} {st : Bool} {Post : Value → World → Prop}
theorem WgAt.true_ {v w : World} (h : WgAt ty Wg v 0 0) (hV : Veil P v w) : WgAt ty Wg w 0 0 := by
 obtain ⟨o', h1, h2⟩ := hV.blk _ _ h
 unfold Go.ConcR.WgAt Go.ConcR.wgBlock at *
 cases h2 with
 | cells _ _ _ f' hf => rw [h1, hf.2 rfl]
/-- What the common block and cell are at first. -/
structure PayAt (X : Pl) (Wg : Nat) (v v1 : World) : Prop where
 blk : v.heap[X.H]? = some (.cells X.cs X.e (0, 0))
 room : 0 < X.cs.size
 hwg : X.H ≠ Wg
 hid : v1.heap[X.H]? = some Ythmgpkcijolljaa.hid
 lkv : v.cell? X.lk = some X.hv
 lkw : ¬ Wr v1 (.cell X.lk)
 lwg : X.lk.block ≠ Wg
 lH : X.lk.block ≠ X.H
/-- ████ WHO TALKS ITS WAY TO THE JOIN WINS. ████ v1: what it sees from now on. -/
theorem wins_of_talk {n : Nat} {a : Goroutine} {v v1 : World} {X : Pl} (hWg : WgAt ty Wg v 0 0) (hV1 : Veil P v1 v) (hs1 : v1.heap.size = v.heap.size) (hW1 : v1.heap[Wg]? = some hid) (hX : PayAt X Wg v v1)
  (hN : ∀ J W, MNext P ty Wg st ⟨⟨fun b => v.heap[b]? = some hid, Shut v, W⟩, X⟩ Post n (view0 J) a v1) : Wins P Post a v := by
 intro gs w sl t q Shun hF
 have hJ : 0 < gs.size := (Array.getElem?_eq_some_iff.1 hF.h0).1
 have hWlt : Wg < v.heap.size := (Array.getElem?_eq_some_iff.1 hWg).1
 have hN0 := hN gs.size w
 cases n with
 | zero => exact hN0.elim
 | succ m =>
 obtain ⟨r, hr⟩ := hN0
 have hWw : WgAt ty Wg w 0 0 := WgAt.true_ hWg hF.veil
 have hact : Act' gs.size 0 = fun i => i = 0 := by
  funext i
  apply propext
  exact ⟨fun h => h.elim id fun x => by omega, .inl⟩
 have hB : Blind v1 Wg := .of_hid hW1
 have hHid : Hides v1 Shun := fun l hl hm => by
  have h1 := hF.hide l hl hm
  have hlt : l.blockOf < v1.heap.size := by rw [hs1]; exact (Array.getElem?_eq_some_iff.1 h1).1
  have e := Array.getElem?_eq_getElem hlt
  obtain ⟨o', h2, h3⟩ := hV1.blk _ _ e
  rw [h1] at h2
  obtain rfl := Option.some.inj h2
  rw [e, blk_of_hid h3]
 have hns : ∀ l, OfB Wg l → ¬ Shun l := fun l hb hs => by
  have := hF.hide l hs hb.1
  rw [hb.2] at this
  unfold Go.ConcR.WgAt Go.ConcR.wgBlock at hWg
  rw [hWg] at this
  cases this
 have hrel : (⟨view0 gs.size, gs, w, t, q, fun _ => v1, fun _ => .gone 0, .walk m r, fun _ => false⟩ : Sit).relOf = fun _ => False := by
  funext i
  apply propext
  exact ⟨fun ⟨k, hk, _⟩ => absurd hk (Nat.not_lt_zero k), False.elim⟩
 have hne : ∀ b : Nat, Shut v b → b ≠ Wg := fun b hb e => by
  rw [e] at hb
  unfold Go.ConcR.WgAt Go.ConcR.wgBlock at hWg
  rcases hb with h1 | ⟨c, t, f, h1, h2⟩
  ·rw [hWg] at h1; cases h1
  ·rw [hWg] at h1
   simp only [Option.some.injEq, Obj.cells.injEq] at h1
   obtain ⟨rfl, rfl, rfl⟩ := h1
   have := (h2 0 (by simp)).2
   simp at this
 have hneH : ∀ b : Nat, Shut v b → b ≠ X.H := fun b hb e => by
  rw [e] at hb
  rcases hb with h1 | ⟨c, t, f, h1, h2⟩
  ·rw [hX.blk] at h1; cases h1
  ·rw [hX.blk] at h1
   simp only [Option.some.injEq, Obj.cells.injEq] at h1
   obtain ⟨rfl, rfl, rfl⟩ := h1
   have := (h2 0 hX.room).2
   simp at this
 have no : ∀ {k : Nat} {Q : Prop}, k < 0 → Q := fun h => absurd h (Nat.not_lt_zero _)
 have known : ∀ l : Loc, l.isMemory = true → v.heap[l.blockOf]? ≠ some hid → Perm t 0 l := fun l hm hb n a ha hl => by
  rcases hF.past.known n a ha (by rw [hl]; exact hm) with h1 | ⟨h1, _⟩
  ·exact h1
  ·exact absurd (hF.hide l (by rw [← hl]; exact h1) hm) hb
 have hbw : w.heap[X.H]? = some (.cells X.cs X.e (0, 0)) := by
  obtain ⟨o', h1, h2⟩ := hF.veil.blk _ _ hX.blk
  cases h2 with
  | cells _ _ _ f' hf => rw [h1, hf.2 rfl]
 refine MI.wins (P := P) (ty := ty) (Wg := Wg) (st := st) (Base := ⟨⟨fun b => v.heap[b]? = some hid, Shut v, w⟩, X⟩) (Post := Post) (Shun := Shun) (p := t.size)
  (s := ⟨view0 gs.size, gs, w, t, q, fun _ => v1, fun _ => .gone 0, .walk m r, fun _ => false⟩) ⟨?_, fun k hk => no hk, fun k hk => no hk, fun k hk => no hk, ⟨a, hF.h0, hF.past.hears, hr⟩, fun k hk => no hk, fun k k' hk => no hk, fun k hk => no hk, fun k hk => no hk, fun k hk => no hk, fun k hk => no hk, (fun n k e => by cases e), (fun e => by cases e), ?_, ?_, ?_, (fun m e => by cases e)⟩ sl
 ·rw [hrel]
  show Cr P Wg st _ Shun t.size gs.size 0 (fun _ => 0) (fun _ => False) gs w t q (fun _ => v1)
  refine ⟨rfl, fun i g h0 _ hi => hF.leavers.old i g h0 hi, fun i hi => hF.leavers.above i hi, fun i _ => hV1.trans hF.veil, fun _ => by rw [hs1]; exact hF.size, ?_, fun i _ => hB, fun k hk => no hk, ?_, Hd.start hF.past hJ, fun n op hn ho => ?_, fun l hs hm => ⟨hF.hide l hs hm, ?_⟩, ?_, ⟨rfl, rfl, fun _ _ => rfl⟩, fun i hi b hb => ?_, fun b hb => ⟨hne b hb, fun k hk => no hk⟩, hneH, ?_⟩
  ·rw [hact]
   intro i hi
   subst hi
   exact ⟨fun k hk hne => absurd hk hne, fun k hk hne => absurd hk hne, fun l hl => hB.rd hl⟩
  ·have hch : ChOf gs.size 0 (fun _ => 0) = fun _ _ => False := by
    funext b i
    exact propext ⟨fun ⟨k, hk, _⟩ => absurd hk (Nat.not_lt_zero k), False.elim⟩
   rw [hact, hch]; exact Tr.start hF.past hHid hns
  ·have := lt_size_of_getElem? ho; omega
  ·have := (Array.getElem?_eq_some_iff.1 (hF.hide l hs hm)).1
   rw [hF.size]; exact this
  ·rw [hF.size]; exact hWlt
  ·exact Shut.less hb hV1 (by rw [hs1]; exact hb.lt)
  ·refine ⟨fun i _ => .of_hid hX.hid, ⟨X.cs, hbw, rfl, fun _ _ => rfl⟩, hX.room, hX.hwg, fun k hk => no hk, hF.veil.cell hX.lkv, fun i _ => hX.lkw, hX.lwg, hX.lH, fun k hk => no hk, fun i _ => known _ rfl (by show v.heap[X.H]? ≠ _; rw [hX.blk]; simp [hid]), fun k hk => no hk, fun n a ha hl _ => known (.cell X.lk) rfl (by
    obtain ⟨c, e, f, h1, _⟩ := cell?_some hX.lkv
    show v.heap[X.lk.block]? ≠ _
    rw [h1]; simp [hid]) n a ha hl, fun k hk => no hk⟩
 ·show 0 + 0 + 1 < 2147483647
  omega
 ·refine .idle rfl (fun k hk => no hk) ?_
  have : (⟨view0 gs.size, gs, w, t, q, fun _ => v1, fun _ => .gone 0, .walk m r, fun _ => false⟩ : Sit).cnt = 0 := rfl
  rw [this]
  simpa using hWw
 ·rintro ⟨m, e | e | e | e⟩ <;> cases e
end
end Go.Proofs.Ythmgpkcijolljaa
