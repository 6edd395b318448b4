/-
  sync.WaitGroup's Add(1), Done and Wait, stop by stop, for company that does anything but touch the group otherwise.
  (printed by gen_wg.py)
-/
import Derived.Test.YthmgpkcijolljaaHKWins
import Derived.Conc.WgGenN3
namespace Go.Proofs.Ythmgpkcijolljaa
open Go.Conc Go.ConcN Go.RowKit Go.Conc.Lib Go.ConcR.Gen Go.ConcN.Gen
open Go.ConcR (KK WgAt stA smA rd wr mk DC0)
set_option linter.unusedSimpArgs false
set_option linter.unusedVariables false
/-- Own steps inside the library: the world stands, nothing is listed. -/
def WG (P : Program) (ty : TypeId) (Wg : Nat) (main : Bool) (Stop : Goroutine → World → Prop) (g : Goroutine) : Prop := ∃ m, ∀ w, Goes P main (fun _ w₁ => WgLive ty Wg w₁) DC0 Stop m g w
def AtMk (P : Program) (main : Bool) (e : Event) (K : Goroutine → Prop) (g : Goroutine) (w : World) : Prop := g.status = .running ∧ ∃ g', stepG P main g w = .go g' w #[e] ∧ K g'
section
variable (P : Program) (ty : TypeId) (Wg : Nat)
/-! ### Done, from its end backwards -/
def DSem (g : Goroutine) (w : World) : Prop :=
 g.status = .running ∧ mayWake P g = true ∧ (WgAt ty Wg w 0 0 → ∃ g', stepG P false g w = .go g' (w.setCell (smA Wg) (.int .u32 1)) (semEvents (smA Wg)) ∧ ∃ q, QuitsD P q 1 g')
def DSto (g : Goroutine) (w : World) : Prop :=
 g.status = .running ∧ (WgAt ty Wg w 1 0 → ∃ g', stepG P false g w = .go g' (w.setCell (stA Wg) (.int .u64 0)) #[wr (stA Wg)] ∧ WG P ty Wg false (DSem P ty Wg) g')
def DLd (g : Goroutine) (w : World) : Prop :=
 g.status = .running ∧ (WgAt ty Wg w 1 0 → ∃ g', stepG P false g w = .go g' w #[rd (stA Wg)] ∧ WG P ty Wg false (DSto P ty Wg) g')
def DSub (g : Goroutine) (w : World) : Prop :=
 g.status = .running ∧ ∀ v wt : Nat, wt ≤ 1 → v < 2147483647 → WgAt ty Wg w ((v + 1) * KK + wt) 0 →
  ∃ g', stepG P false g w = .go g' (w.setCell (stA Wg) (.int .u64 (v * KK + wt))) #[rd (stA Wg), wr (stA Wg)] ∧
   ((v = 0 ∧ wt = 1) → WG P ty Wg false (DLd P ty Wg) g') ∧ (¬ (v = 0 ∧ wt = 1) → ∃ q, QuitsD P q 1 g')
def DRel : Goroutine → World → Prop := AtMk P false (mk (.releaseMerge (stA Wg))) (WG P ty Wg false (AtMk P false (mk .disable) (WG P ty Wg false (DSub P ty Wg))))
/-! ### Add(1) -/
section
variable (Fin : Goroutine → Prop)
def AEn : Goroutine → World → Prop := AtMk P true (mk .enable) (WG P ty Wg true (fun g _ => Fin g))
def AAdd (g : Goroutine) (w : World) : Prop :=
 g.status = .running ∧ ∀ v : Nat, v < 2147483647 → WgAt ty Wg w (v * KK) 0 →
  ∃ g', stepG P true g w = .go g' (w.setCell (stA Wg) (.int .u64 ((v + 1) * KK))) #[rd (stA Wg), wr (stA Wg)] ∧
   (v = 0 → WG P ty Wg true (AtMk P true (mk (.read (smA Wg))) (WG P ty Wg true (AEn P ty Wg Fin))) g') ∧ (v ≠ 0 → WG P ty Wg true (AEn P ty Wg Fin) g')
def ADis : Goroutine → World → Prop := AtMk P true (mk .disable) (WG P ty Wg true (AAdd P ty Wg Fin))
/-! ### Wait -/
def PAcq : Goroutine → World → Prop := AtMk P true (mk (.acquire (stA Wg))) (WG P ty Wg true (fun g _ => Fin g))
def PEn : Goroutine → World → Prop := AtMk P true (mk .enable) (WG P ty Wg true (PAcq P ty Wg Fin))
def PLd (g : Goroutine) (w : World) : Prop :=
 g.status = .running ∧ (WgAt ty Wg w 0 0 → ∃ g', stepG P true g w = .go g' w #[rd (stA Wg)] ∧ WG P ty Wg true (PEn P ty Wg Fin) g')
def PSem (g : Goroutine) (w : World) : Prop :=
 g.status = .running ∧ g.offers = none ∧
  ((∃ st, WgAt ty Wg w st 0) → stepG P true g w = .go { g with status := .blocked } w #[]) ∧
  (WgAt ty Wg w 0 1 → ∃ g', stepG P true g w = .go g' (w.setCell (smA Wg) (.int .u32 0)) (semEvents (smA Wg)) ∧ WG P ty Wg true (PLd P ty Wg Fin) g')
variable (Anch : Goroutine → Prop)
def PCas (vs : Nat) (g : Goroutine) (w : World) : Prop :=
 g.status = .running ∧ ∀ v : Nat, v < 2147483648 → WgAt ty Wg w (v * KK) 0 →
  (v = vs → ∃ g', stepG P true g w = .go g' (w.setCell (stA Wg) (.int .u64 (v * KK + 1))) #[rd (stA Wg), wr (stA Wg)] ∧ WG P ty Wg true (AtMk P true (mk (.write (smA Wg))) (WG P ty Wg true (PSem P ty Wg Fin))) g') ∧
  (v ≠ vs → ∃ g', stepG P true g w = .go g' w #[rd (stA Wg)] ∧ WG P ty Wg true (fun g _ => Anch g) g')
def PLoad (g : Goroutine) (w : World) : Prop :=
 g.status = .running ∧ ∀ v : Nat, v < 2147483648 → WgAt ty Wg w (v * KK) 0 → ∃ g', stepG P true g w = .go g' w #[rd (stA Wg)] ∧
  (v = 0 → WG P ty Wg true (PEn P ty Wg Fin) g') ∧ (v ≠ 0 → WG P ty Wg true (PCas P ty Wg Fin Anch v) g')
def PDis : Goroutine → World → Prop := AtMk P true (mk .disable) (WG P ty Wg true (fun g _ => Anch g))
end
end
end Go.Proofs.Ythmgpkcijolljaa
/-
  A walk of sync.WaitGroup (printed by gen_wg.py)
-/
namespace Go.Proofs.Ythmgpkcijolljaa
open Go.Conc Go.ConcN Go.RowKit Go.Conc.Lib Go.ConcR.Gen Go.ConcN.Gen
open Go.ConcR (KK WgAt stA smA rd wr mk DC0)
set_option linter.unusedSimpArgs false
set_option linter.unusedVariables false
section
variable {L : WgLink} {Wg : Nat} {P : Program}
set_option maxRecDepth 100000 in
set_option maxHeartbeats 8000000 in
theorem wg_add (H : WgLib P L) {Fin : Goroutine → Prop} {b₀ : Frame} {a₀ : Act} {ops₀ : Array Oper} {i₀ : Nat} {rest₀ : List Nat} {k₀ : List Item} {cs : List Frame}
  (hT : Fin (G (b₀.at (a₀.put ((ops₀[i₀]?).bind (·.dst)) (.tuple #[])) (.inRegion ops₀ rest₀ :: k₀)) cs)) :
  WG P L.tWg Wg true (ADis P L.tWg Wg Fin) (G ((base L.add).at ⟨#[.pointer (some ⟨Wg, 0, none⟩), .int .i64 1, undef, undef, undef, undef, undef, undef, undef, undef, undef, undef, undef, undef, undef, undef, undef, undef, undef, undef, undef, undef, undef, undef, undef, undef, undef, undef, undef, undef, undef, undef, undef, undef, undef, undef, undef, undef, undef, undef, undef, undef, undef, undef, undef, undef, undef, undef, undef, undef, undef, undef, undef, undef, undef, undef, undef, undef, undef, undef, undef, undef, undef, undef, undef, undef, undef, undef, undef, undef, undef, undef, undef, undef, undef, undef, undef, undef, undef, undef, undef, undef, undef, undef, undef, undef, undef, undef, undef, undef, undef, undef, undef, undef, undef, undef, undef, undef, undef, undef, undef, undef, undef, undef, undef, undef, undef, undef, undef, undef, undef, undef, undef, undef, undef, undef, undef], []⟩ [.code (body_add L)]) (b₀.at a₀ (.inRegion ops₀ (i₀ :: rest₀) :: k₀) :: cs)) := by
 lib_facts
 simp only [body_add, addFn, Option.getD_some]
 refine ⟨200, fun w => ?_⟩
 have hK : True := trivial
 u_c stepG_seq (fun _ r => r) hK
 u_cond true (fun _ r => r) hK
 u_c stepG_seq (fun _ r => r) hK
 u_c stepG_seq (fun _ r => r) hK
 u_reg (fun _ r => r) hK
 u_op (fun _ r => r) hK
 u_op (fun _ r => r) hK
 u_c stepG_region_end (fun _ r => r) hK
 u_cond false (fun _ r => r) hK
 u_c stepG_skip (fun _ r => r) hK
 u_c stepG_seq (fun _ r => r) hK
 u_reg (fun _ r => r) hK
 refine Goes.stop (fun w1 h1 => ?_)
 replace hK : WgLive L.tWg Wg w1 := h1
 clear h1
 refine ⟨rfl, _, stepG_mark0 .disable (by simp) rfl rfl (by k_ne) rfl H.f_disable (x_disable_n L) (x_disable_b L) (x_disable_x L) (x_disable_f L), ?_⟩
 clear hK
 refine ⟨200, fun w => ?_⟩
 have hK : True := trivial
 walk_nrm
 u_c stepG_region_end (fun _ r => r) hK
 u_reg (fun _ r => r) hK
 u_defer (fun _ r => r) hK
 u_c stepG_region_end (fun _ r => r) hK
 u_c stepG_seq (fun _ r => r) hK
 u_reg (fun _ r => r) hK
 u_op (fun _ r => r) hK
 u_c stepG_region_end (fun _ r => r) hK
 u_c stepG_seq (fun _ r => r) hK
 u_c stepG_seq (fun _ r => r) hK
 u_reg (fun _ r => r) hK
 u_bub (fun _ r => r) hK
 u_c stepG_region_end (fun _ r => r) hK
 u_cond false (fun _ r => r) hK
 u_c stepG_skip (fun _ r => r) hK
 u_c stepG_seq (fun _ r => r) hK
 u_reg (fun _ r => r) hK
 u_op (fun _ r => r) hK
 u_op (fun _ r => r) hK
 u_op (fun _ r => r) hK
 u_op (fun _ r => r) hK
 u_op (fun _ r => r) hK
 u_op (fun _ r => r) hK
 u_call H.f_uAdd (nm_uAdd L) uAddFn (fun _ r => r) hK
 u_c stepG_seq (fun _ r => r) hK
 u_reg (fun _ r => r) hK
 u_op (fun _ r => r) hK
 u_c stepG_region_end (fun _ r => r) hK
 u_c stepG_seq (fun _ r => r) hK
 u_reg (fun _ r => r) hK
 u_op (fun _ r => r) hK
 u_op (fun _ r => r) hK
 u_op (fun _ r => r) hK
 u_op (fun _ r => r) hK
 refine Goes.stop (fun w2 h2 => ?_)
 replace hK : WgLive L.tWg Wg w2 := h2
 clear h2
 refine ⟨rfl, fun v hv hw => ?_⟩
 rcases Nat.eq_zero_or_pos v with rfl | hvp
 ·replace hw : WgAt L.tWg Wg w2 0 0 := by simpa using hw
  have z : (((0 : Nat) : Int) + 1) * KK = KK := by simp
  rw [z]
  have e0 : IntKind.u64.wrap (0 + 4294967296) = KK := by decide
  refine ⟨_, (stepG_add_atomic rfl rfl (by k_ne) rfl H.f_addU64 (x_addU64_n L) (x_addU64_b L) (x_addU64_x L) .u64 (x_addU64_f L) rfl rfl hw.cellSt (hw.thaw 0)).trans (by rw [e0]; rfl), fun _ => ?_, fun h => absurd rfl h⟩
  clear hw hK
  simp only [KK]
  refine ⟨200, fun w => ?_⟩
  have hK : True := trivial
  walk_nrm
  u_conv H.underlying_tPU32 H.room_tU32 (WgLive.cell1 hK).choose_spec (fun _ r => r) hK
  u_c stepG_region_end (fun _ r => r) hK
  u_c stepG_ret' (fun _ r => r) hK
  u_leave1 H.f_uAdd (fun _ r => r) hK
  u_conv H.underlying_tPU32 H.room_tU32 (WgLive.cell1 hK).choose_spec (fun _ r => r) hK
  u_c stepG_region_end (fun _ r => r) hK
  u_c stepG_seq (fun _ r => r) hK
  u_c stepG_seq (fun _ r => r) hK
  u_reg (fun _ r => r) hK
  u_conv H.underlying_tPU32 H.room_tU32 (WgLive.cell1 hK).choose_spec (fun _ r => r) hK
  u_conv H.underlying_tPU32 H.room_tU32 (WgLive.cell1 hK).choose_spec (fun _ r => r) hK
  u_conv H.underlying_tPU32 H.room_tU32 (WgLive.cell1 hK).choose_spec (fun _ r => r) hK
  u_conv H.underlying_tPU32 H.room_tU32 (WgLive.cell1 hK).choose_spec (fun _ r => r) hK
  u_skip (fun _ r => r) hK
  u_skip (fun _ r => r) hK
  u_conv H.underlying_tPU32 H.room_tU32 (WgLive.cell1 hK).choose_spec (fun _ r => r) hK
  u_c stepG_region_end (fun _ r => r) hK
  u_cond false (fun _ r => r) hK
  u_c stepG_skip (fun _ r => r) hK
  u_c stepG_seq (fun _ r => r) hK
  u_reg (fun _ r => r) hK
  u_conv H.underlying_tPU32 H.room_tU32 (WgLive.cell1 hK).choose_spec (fun _ r => r) hK
  u_conv H.underlying_tPU32 H.room_tU32 (WgLive.cell1 hK).choose_spec (fun _ r => r) hK
  u_op (fun _ r => r) hK
  u_conv H.underlying_tPU32 H.room_tU32 (WgLive.cell1 hK).choose_spec (fun _ r => r) hK
  u_c stepG_region_end (fun _ r => r) hK
  u_c stepG_seq (fun _ r => r) hK
  u_reg (fun _ r => r) hK
  u_conv H.underlying_tPU32 H.room_tU32 (WgLive.cell1 hK).choose_spec (fun _ r => r) hK
  u_conv H.underlying_tPU32 H.room_tU32 (WgLive.cell1 hK).choose_spec (fun _ r => r) hK
  u_op (fun _ r => r) hK
  u_conv H.underlying_tPU32 H.room_tU32 (WgLive.cell1 hK).choose_spec (fun _ r => r) hK
  u_c stepG_region_end (fun _ r => r) hK
  u_c stepG_seq (fun _ r => r) hK
  u_c stepG_seq (fun _ r => r) hK
  u_reg (fun _ r => r) hK
  u_conv H.underlying_tPU32 H.room_tU32 (WgLive.cell1 hK).choose_spec (fun _ r => r) hK
  u_conv H.underlying_tPU32 H.room_tU32 (WgLive.cell1 hK).choose_spec (fun _ r => r) hK
  u_conv H.underlying_tPU32 H.room_tU32 (WgLive.cell1 hK).choose_spec (fun _ r => r) hK
  u_conv H.underlying_tPU32 H.room_tU32 (WgLive.cell1 hK).choose_spec (fun _ r => r) hK
  u_conv H.underlying_tPU32 H.room_tU32 (WgLive.cell1 hK).choose_spec (fun _ r => r) hK
  u_conv H.underlying_tPU32 H.room_tU32 (WgLive.cell1 hK).choose_spec (fun _ r => r) hK
  u_conv H.underlying_tPU32 H.room_tU32 (WgLive.cell1 hK).choose_spec (fun _ r => r) hK
  u_op (fun _ r => r) hK
  u_conv H.underlying_tPU32 H.room_tU32 (WgLive.cell1 hK).choose_spec (fun _ r => r) hK
  u_conv H.underlying_tPU32 H.room_tU32 (WgLive.cell1 hK).choose_spec (fun _ r => r) hK
  u_c stepG_region_end (fun _ r => r) hK
  u_cond true (fun _ r => r) hK
  u_reg (fun _ r => r) hK
  u_conv H.underlying_tPU32 H.room_tU32 (WgLive.cell1 hK).choose_spec (fun _ r => r) hK
  u_conv H.underlying_tPU32 H.room_tU32 (WgLive.cell1 hK).choose_spec (fun _ r => r) hK
  u_op (fun _ r => r) hK
  u_conv H.underlying_tPU32 H.room_tU32 (WgLive.cell1 hK).choose_spec (fun _ r => r) hK
  refine Goes.stop (fun w3 h3 => ?_)
  replace hK : WgLive L.tWg Wg w3 := h3
  clear h3
  refine ⟨rfl, _, stepG_markAt .read (by simp) rfl rfl (by k_ne) rfl H.f_raceRead (x_raceRead_n L) (x_raceRead_b L) (x_raceRead_x L) (x_raceRead_f L) (ad := ⟨Wg, 1, none⟩) (by simp [Act.eval]), ?_⟩
  clear hK
  refine ⟨200, fun w => ?_⟩
  have hK : True := trivial
  walk_nrm
  u_c stepG_region_end (fun _ r => r) hK
  u_c stepG_seq (fun _ r => r) hK
  u_c stepG_seq (fun _ r => r) hK
  u_reg (fun _ r => r) hK
  u_op (fun _ r => r) hK
  u_op (fun _ r => r) hK
  u_c stepG_region_end (fun _ r => r) hK
  u_cond false (fun _ r => r) hK
  u_c stepG_skip (fun _ r => r) hK
  u_c stepG_seq (fun _ r => r) hK
  u_c stepG_seq (fun _ r => r) hK
  u_reg (fun _ r => r) hK
  u_op (fun _ r => r) hK
  u_op (fun _ r => r) hK
  u_op (fun _ r => r) hK
  u_skip (fun _ r => r) hK
  u_skip (fun _ r => r) hK
  u_op (fun _ r => r) hK
  u_op (fun _ r => r) hK
  u_skip (fun _ r => r) hK
  u_skip (fun _ r => r) hK
  u_skip (fun _ r => r) hK
  u_skip (fun _ r => r) hK
  u_op (fun _ r => r) hK
  u_c stepG_region_end (fun _ r => r) hK
  u_cond false (fun _ r => r) hK
  u_c stepG_skip (fun _ r => r) hK
  u_c stepG_seq (fun _ r => r) hK
  u_c stepG_seq (fun _ r => r) hK
  u_reg (fun _ r => r) hK
  u_op (fun _ r => r) hK
  u_op (fun _ r => r) hK
  u_op (fun _ r => r) hK
  u_skip (fun _ r => r) hK
  u_skip (fun _ r => r) hK
  u_op (fun _ r => r) hK
  u_c stepG_region_end (fun _ r => r) hK
  u_cond true (fun _ r => r) hK
  u_c stepG_ret' (fun _ r => r) hK
  refine Goes.stop (fun w4 h4 => ?_)
  replace hK : WgLive L.tWg Wg w4 := h4
  clear h4
  refine ⟨rfl, _, stepG_unwind_entry (v := .tuple #[]) (evs := #[mk .enable]) rfl H.f_enable (x_enable_n L) (x_enable_b L) (x_enable_x L) (x_enable_f L) (by simp [Extern.Race.none_]) (by simp [mk]) (by simp [mk]), ?_⟩
  clear hK
  refine ⟨200, fun w => ?_⟩
  have hK : True := trivial
  u_leave0 H.f_add (fun _ r => r) hK
  exact Goes.stop (fun _ _ => hT)
 ·obtain ⟨V, hV⟩ : ∃ V : Int, V = (v : Int) + 1 := ⟨_, rfl⟩
  obtain ⟨S, hS⟩ : ∃ S : Int, S = V * KK := ⟨_, rfl⟩
  have eS : IntKind.u64.wrap ((v : Int) * KK + 4294967296) = S := by rw [IntKind.wrap_u64, hS, hV]; simp only [KK]; omega
  rw [← hV, ← hS]
  have a1 : S / 4294967296 = V := by rw [hS]; simp only [KK]; omega
  have b1 : bits .and .u64 S 2147483648 = 0 := by rw [hS, hV]; have := st_flag (v + 1) 0 (by omega) (by omega); simpa [KK] using this
  have b2 : bits .and .u64 S 2147483647 = 0 := by rw [hS, hV]; have := st_waiters (v + 1) 0 (by omega) (by omega); simpa [KK] using this
  have c1 : IntKind.i32.wrap V = V := by rw [IntKind.wrap_i32]; omega
  have q1 : (V == 1) = false := by simp; omega
  have q1' : decide (V = 1) = false := decide_eq_false (by omega)
  have q2 : decide (V < 0) = false := decide_eq_false (by omega)
  have q3 : decide (0 < V) = true := decide_eq_true (by omega)
  have q4 : (V == 0) = false := by simp; omega
  have q4' : decide (V = 0) = false := decide_eq_false (by omega)
  have a2 : 0 ≤ S ∧ S < 18446744073709551616 := by rw [hS]; simp only [KK]; omega
  refine ⟨_, (stepG_add_atomic rfl rfl (by k_ne) rfl H.f_addU64 (x_addU64_n L) (x_addU64_b L) (x_addU64_x L) .u64 (x_addU64_f L) rfl rfl hw.cellSt (hw.thaw 0)).trans (by rw [eS]; rfl), fun h => absurd h (by omega), fun _ => ?_⟩
  have hV2 : 1 < V := by omega
  have hV3 : V < 2147483648 := by omega
  clear hw hK eS hS hV
  refine ⟨200, fun w => ?_⟩
  have hK : True := trivial
  walk_nrm
  u_op (fun _ r => r) hK
  u_c stepG_region_end (fun _ r => r) hK
  u_c stepG_ret' (fun _ r => r) hK
  u_leave1 H.f_uAdd (fun _ r => r) hK
  u_op (fun _ r => r) hK
  u_c stepG_region_end (fun _ r => r) hK
  u_c stepG_seq (fun _ r => r) hK
  u_c stepG_seq (fun _ r => r) hK
  u_reg (fun _ r => r) hK
  u_op (fun _ r => r) hK
  u_op (fun _ r => r) hK
  u_op (fun _ r => r) hK
  u_op (fun _ r => r) hK
  u_skip (fun _ r => r) hK
  u_skip (fun _ r => r) hK
  u_op (fun _ r => r) hK
  u_c stepG_region_end (fun _ r => r) hK
  u_cnd false (fun _ r => r) hK
  u_c stepG_skip (fun _ r => r) hK
  u_c stepG_seq (fun _ r => r) hK
  u_reg (fun _ r => r) hK
  u_op (fun _ r => r) hK
  u_op (fun _ r => r) hK
  u_op (fun _ r => r) hK
  u_op (fun _ r => r) hK
  u_c stepG_region_end (fun _ r => r) hK
  u_c stepG_seq (fun _ r => r) hK
  u_reg (fun _ r => r) hK
  u_op (fun _ r => r) hK
  u_op (fun _ r => r) hK
  u_op (fun _ r => r) hK
  u_op (fun _ r => r) hK
  u_c stepG_region_end (fun _ r => r) hK
  u_c stepG_seq (fun _ r => r) hK
  u_c stepG_seq (fun _ r => r) hK
  u_reg (fun _ r => r) hK
  u_op (fun _ r => r) hK
  u_op (fun _ r => r) hK
  u_op (fun _ r => r) hK
  u_op (fun _ r => r) hK
  u_op (fun _ r => r) hK
  u_op (fun _ r => r) hK
  u_op (fun _ r => r) hK
  u_op (fun _ r => r) hK
  u_op (fun _ r => r) hK
  u_op (fun _ r => r) hK
  u_c stepG_region_end (fun _ r => r) hK
  u_cnd false (fun _ r => r) hK
  u_c stepG_skip (fun _ r => r) hK
  u_c stepG_seq (fun _ r => r) hK
  u_c stepG_seq (fun _ r => r) hK
  u_reg (fun _ r => r) hK
  u_op (fun _ r => r) hK
  u_op (fun _ r => r) hK
  u_c stepG_region_end (fun _ r => r) hK
  u_cnd false (fun _ r => r) hK
  u_c stepG_skip (fun _ r => r) hK
  u_c stepG_seq (fun _ r => r) hK
  u_c stepG_seq (fun _ r => r) hK
  u_reg (fun _ r => r) hK
  u_op (fun _ r => r) hK
  u_op (fun _ r => r) hK
  u_op (fun _ r => r) hK
  u_skip (fun _ r => r) hK
  u_skip (fun _ r => r) hK
  u_op (fun _ r => r) hK
  u_op (fun _ r => r) hK
  u_skip (fun _ r => r) hK
  u_skip (fun _ r => r) hK
  u_skip (fun _ r => r) hK
  u_skip (fun _ r => r) hK
  u_op (fun _ r => r) hK
  u_c stepG_region_end (fun _ r => r) hK
  u_cnd false (fun _ r => r) hK
  u_c stepG_skip (fun _ r => r) hK
  u_c stepG_seq (fun _ r => r) hK
  u_c stepG_seq (fun _ r => r) hK
  u_reg (fun _ r => r) hK
  u_op (fun _ r => r) hK
  u_op (fun _ r => r) hK
  u_op (fun _ r => r) hK
  u_skip (fun _ r => r) hK
  u_skip (fun _ r => r) hK
  u_op (fun _ r => r) hK
  u_c stepG_region_end (fun _ r => r) hK
  u_cnd true (fun _ r => r) hK
  u_c stepG_ret' (fun _ r => r) hK
  refine Goes.stop (fun w4 h4 => ?_)
  replace hK : WgLive L.tWg Wg w4 := h4
  clear h4
  refine ⟨rfl, _, stepG_unwind_entry (v := .tuple #[]) (evs := #[mk .enable]) rfl H.f_enable (x_enable_n L) (x_enable_b L) (x_enable_x L) (x_enable_f L) (by simp [Extern.Race.none_]) (by simp [mk]) (by simp [mk]), ?_⟩
  clear hK
  refine ⟨200, fun w => ?_⟩
  have hK : True := trivial
  u_leave0 H.f_add (fun _ r => r) hK
  exact Goes.stop (fun _ _ => hT)
end
end Go.Proofs.Ythmgpkcijolljaa
/-
  A walk of sync.WaitGroup (printed by gen_wg.py)
-/
namespace Go.Proofs.Ythmgpkcijolljaa
open Go.Conc Go.ConcN Go.RowKit Go.Conc.Lib Go.ConcR.Gen Go.ConcN.Gen
open Go.ConcR (KK WgAt stA smA rd wr mk DC0)
set_option linter.unusedSimpArgs false
set_option linter.unusedVariables false
section
variable {L : WgLink} {Wg : Nat} {P : Program}
/-- The loop's head. -/
def WAnch (L : WgLink) (Wg : Nat) (c : Frame) (cs : List Frame) (g : Goroutine) : Prop :=
 ∃ T : Array Value, g = G ((base L.wait).at ⟨T, []⟩ [.code (L7 L), .inLoop (L7 L), .inBlock 0]) (c :: cs) ∧ T.size = 84 ∧ T[0]? = some (.pointer (some ⟨Wg, 0, none⟩))
set_option maxRecDepth 100000 in
theorem wg_wait (H : WgLib P L) {b₀ : Frame} {a₀ : Act} {ops₀ : Array Oper} {i₀ : Nat} {rest₀ : List Nat} {k₀ : List Item} {cs : List Frame} :
  WG P L.tWg Wg true (PDis P L.tWg Wg (WAnch L Wg (b₀.at a₀ (.inRegion ops₀ (i₀ :: rest₀) :: k₀)) cs)) (G ((base L.wait).at ⟨#[.pointer (some ⟨Wg, 0, none⟩), undef, undef, undef, undef, undef, undef, undef, undef, undef, undef, undef, undef, undef, undef, undef, undef, undef, undef, undef, undef, undef, undef, undef, undef, undef, undef, undef, undef, undef, undef, undef, undef, undef, undef, undef, undef, undef, undef, undef, undef, undef, undef, undef, undef, undef, undef, undef, undef, undef, undef, undef, undef, undef, undef, undef, undef, undef, undef, undef, undef, undef, undef, undef, undef, undef, undef, undef, undef, undef, undef, undef, undef, undef, undef, undef, undef, undef, undef, undef, undef, undef, undef, undef], []⟩ [.code (body_wait L)]) (b₀.at a₀ (.inRegion ops₀ (i₀ :: rest₀) :: k₀) :: cs)) := by
 lib_facts
 simp only [body_wait, waitFn, Option.getD_some]
 refine ⟨20, fun w => ?_⟩
 have hK : True := trivial
 u_c stepG_seq (fun _ r => r) hK
 u_cond true (fun _ r => r) hK
 u_reg (fun _ r => r) hK
 refine Goes.stop (fun w1 h1 => ?_)
 replace hK : WgLive L.tWg Wg w1 := h1
 clear h1
 refine ⟨rfl, _, stepG_mark0 .disable (by simp) rfl rfl (by k_ne) rfl H.f_disable (x_disable_n L) (x_disable_b L) (x_disable_x L) (x_disable_f L), ?_⟩
 refine ⟨20, fun w => ?_⟩
 walk_nrm
 u_c stepG_region_end (fun _ r => r) hK
 u_c stepG_block (fun _ r => r) hK
 u_c stepG_loop (fun _ r => r) hK
 exact Goes.stop (fun _ _ => ⟨_, rfl, by simp, by simp⟩)
set_option maxRecDepth 100000 in
set_option maxHeartbeats 8000000 in
theorem wg_round (H : WgLib P L) {Fin : Goroutine → Prop} {b₀ : Frame} {a₀ : Act} {ops₀ : Array Oper} {i₀ : Nat} {rest₀ : List Nat} {k₀ : List Item} {cs : List Frame}
  (hT : Fin (G (b₀.at (a₀.put ((ops₀[i₀]?).bind (·.dst)) (.tuple #[])) (.inRegion ops₀ rest₀ :: k₀)) cs))
  (g : Goroutine) (hg : WAnch L Wg (b₀.at a₀ (.inRegion ops₀ (i₀ :: rest₀) :: k₀)) cs g) :
  WG P L.tWg Wg true (PLoad P L.tWg Wg Fin (WAnch L Wg (b₀.at a₀ (.inRegion ops₀ (i₀ :: rest₀) :: k₀)) cs)) g := by
 lib_facts
 obtain ⟨T, rfl, hT84, t0⟩ := hg
 obtain ⟨v0, v1, v2, v3, v4, v5, v6, v7, v8, v9, v10, v11, v12, v13, v14, v15, v16, v17, v18, v19, v20, v21, v22, v23, v24, v25, v26, v27, v28, v29, v30, v31, v32, v33, v34, v35, v36, v37, v38, v39, v40, v41, v42, v43, v44, v45, v46, v47, v48, v49, v50, v51, v52, v53, v54, v55, v56, v57, v58, v59, v60, v61, v62, v63, v64, v65, v66, v67, v68, v69, v70, v71, v72, v73, v74, v75, v76, v77, v78, v79, v80, v81, v82, v83, rfl⟩ := array84 T hT84
 simp only [List.getElem?_toArray, List.getElem?_cons_zero, Option.some.injEq] at t0
 subst t0
 simp only [L7, body_wait, waitFn, Option.getD_some]
 refine ⟨200, fun w => ?_⟩
 have hK : True := trivial
 u_c stepG_block (fun _ r => r) hK
 u_c stepG_seq (fun _ r => r) hK
 u_reg (fun _ r => r) hK
 u_op (fun _ r => r) hK
 u_op (fun _ r => r) hK
 u_op (fun _ r => r) hK
 u_call H.f_uLoad (nm_uLoad L) uLoadFn (fun _ r => r) hK
 u_c stepG_seq (fun _ r => r) hK
 u_reg (fun _ r => r) hK
 u_op (fun _ r => r) hK
 u_c stepG_region_end (fun _ r => r) hK
 u_c stepG_seq (fun _ r => r) hK
 u_reg (fun _ r => r) hK
 u_op (fun _ r => r) hK
 u_op (fun _ r => r) hK
 u_op (fun _ r => r) hK
 refine Goes.stop (fun w1 h1 => ?_)
 replace hK : WgLive L.tWg Wg w1 := h1
 clear h1
 refine ⟨rfl, fun v hv hw => ?_⟩
 clear hK
 rcases Nat.eq_zero_or_pos v with rfl | hvp
 ·replace hw : WgAt L.tWg Wg w1 0 0 := by simpa using hw
  refine ⟨_, stepG_load_atomic (v := 0) rfl rfl (by k_ne) rfl H.f_loadU64 (x_loadU64_n L) (x_loadU64_b L) (x_loadU64_x L) .u64 (x_loadU64_f L) rfl hw.cellSt, fun _ => ?_, fun h => absurd rfl h⟩
  clear hw
  refine ⟨200, fun w => ?_⟩
  have hK : True := trivial
  walk_nrm
  u_op (fun _ r => r) hK
  u_c stepG_region_end (fun _ r => r) hK
  u_c stepG_ret' (fun _ r => r) hK
  u_leave1 H.f_uLoad (fun _ r => r) hK
  u_op (fun _ r => r) hK
  u_c stepG_region_end (fun _ r => r) hK
  u_c stepG_seq (fun _ r => r) hK
  u_reg (fun _ r => r) hK
  u_op (fun _ r => r) hK
  u_op (fun _ r => r) hK
  u_op (fun _ r => r) hK
  u_op (fun _ r => r) hK
  u_c stepG_region_end (fun _ r => r) hK
  u_c stepG_seq (fun _ r => r) hK
  u_reg (fun _ r => r) hK
  u_op (fun _ r => r) hK
  u_op (fun _ r => r) hK
  u_op (fun _ r => r) hK
  u_op (fun _ r => r) hK
  u_c stepG_region_end (fun _ r => r) hK
  u_c stepG_seq (fun _ r => r) hK
  u_c stepG_seq (fun _ r => r) hK
  u_reg (fun _ r => r) hK
  u_op (fun _ r => r) hK
  u_op (fun _ r => r) hK
  u_c stepG_region_end (fun _ r => r) hK
  u_cond true (fun _ r => r) hK
  u_c stepG_seq (fun _ r => r) hK
  u_cond true (fun _ r => r) hK
  u_c stepG_seq (fun _ r => r) hK
  u_reg (fun _ r => r) hK
  refine Goes.stop (fun w2 h2 => ?_)
  replace hK : WgLive L.tWg Wg w2 := h2
  clear h2
  refine ⟨rfl, _, stepG_mark0 .enable (by simp) rfl rfl (by k_ne) rfl H.f_enable (x_enable_n L) (x_enable_b L) (x_enable_x L) (x_enable_f L), ?_⟩
  clear hK
  refine ⟨200, fun w => ?_⟩
  have hK : True := trivial
  walk_nrm
  u_c stepG_region_end (fun _ r => r) hK
  u_reg (fun _ r => r) hK
  u_conv H.underlying_tWgP H.room_tWg (WgLive.cell0 hK).choose_spec (fun _ r => r) hK
  u_conv H.underlying_tWgP H.room_tWg (WgLive.cell0 hK).choose_spec (fun _ r => r) hK
  refine Goes.stop (fun w3 h3 => ?_)
  replace hK : WgLive L.tWg Wg w3 := h3
  clear h3
  refine ⟨rfl, _, stepG_markAt .acquire (by simp) rfl rfl (by k_ne) rfl H.f_acquire (x_acquire_n L) (x_acquire_b L) (x_acquire_x L) (x_acquire_f L) (by simp [Act.eval, stA]), ?_⟩
  clear hK
  refine ⟨200, fun w => ?_⟩
  have hK : True := trivial
  walk_nrm
  u_c stepG_region_end (fun _ r => r) hK
  u_c stepG_seq (fun _ r => r) hK
  u_c stepG_seq (fun _ r => r) hK
  u_reg (fun _ r => r) hK
  u_op (fun _ r => r) hK
  u_op (fun _ r => r) hK
  u_op (fun _ r => r) hK
  u_op (fun _ r => r) hK
  u_op (fun _ r => r) hK
  u_op (fun _ r => r) hK
  u_op (fun _ r => r) hK
  u_op (fun _ r => r) hK
  u_skip (fun _ r => r) hK
  u_skip (fun _ r => r) hK
  u_op (fun _ r => r) hK
  u_c stepG_region_end (fun _ r => r) hK
  u_cond false (fun _ r => r) hK
  u_c stepG_skip (fun _ r => r) hK
  u_c stepG_ret' (fun _ r => r) hK
  u_leave0 H.f_wait (fun _ r => r) hK
  exact Goes.stop (fun _ _ => hT)
 ·obtain ⟨S, hS⟩ : ∃ S : Int, (v : Int) * KK = S := ⟨_, rfl⟩
  have a1 : S / 4294967296 = (v : Int) := by rw [← hS]; simp only [KK]; omega
  have b1 : bits .and .u64 S 2147483648 = 0 := by rw [← hS]; have := st_flag v 0 (by omega) (by omega); simpa [KK] using this
  have b2 : bits .and .u64 S 2147483647 = 0 := by rw [← hS]; have := st_waiters v 0 (by omega) (by omega); simpa [KK] using this
  have c1 : IntKind.i32.wrap (v : Int) = (v : Int) := by rw [IntKind.wrap_i32]; omega
  have w1' : IntKind.u64.wrap (S + 1) = S + 1 := by rw [IntKind.wrap_u64, ← hS]; simp only [KK]; omega
  have q3 : decide ((v : Int) < 0) = false := decide_eq_false (by omega)
  have q4 : decide (0 < (v : Int)) = true := decide_eq_true (by omega)
  have q5 : ((v : Int) == 0) = false := by simp; omega
  have q6 : decide ((v : Int) = 0) = false := decide_eq_false (by omega)
  rw [hS] at hw
  refine ⟨_, stepG_load_atomic (v := S) rfl rfl (by k_ne) rfl H.f_loadU64 (x_loadU64_n L) (x_loadU64_b L) (x_loadU64_x L) .u64 (x_loadU64_f L) rfl hw.cellSt, fun h => absurd h (by omega), fun _ => ?_⟩
  clear hw
  refine ⟨200, fun w => ?_⟩
  have hK : True := trivial
  walk_nrm
  u_op (fun _ r => r) hK
  u_c stepG_region_end (fun _ r => r) hK
  u_c stepG_ret' (fun _ r => r) hK
  u_leave1 H.f_uLoad (fun _ r => r) hK
  u_op (fun _ r => r) hK
  u_c stepG_region_end (fun _ r => r) hK
  u_c stepG_seq (fun _ r => r) hK
  u_reg (fun _ r => r) hK
  u_op (fun _ r => r) hK
  u_op (fun _ r => r) hK
  u_op (fun _ r => r) hK
  u_op (fun _ r => r) hK
  u_c stepG_region_end (fun _ r => r) hK
  u_c stepG_seq (fun _ r => r) hK
  u_reg (fun _ r => r) hK
  u_op (fun _ r => r) hK
  u_op (fun _ r => r) hK
  u_op (fun _ r => r) hK
  u_op (fun _ r => r) hK
  u_c stepG_region_end (fun _ r => r) hK
  u_c stepG_seq (fun _ r => r) hK
  u_c stepG_seq (fun _ r => r) hK
  u_reg (fun _ r => r) hK
  u_op (fun _ r => r) hK
  u_op (fun _ r => r) hK
  u_c stepG_region_end (fun _ r => r) hK
  u_cnd false (fun _ r => r) hK
  u_c stepG_skip (fun _ r => r) hK
  u_c stepG_seq (fun _ r => r) hK
  u_reg (fun _ r => r) hK
  u_op (fun _ r => r) hK
  u_op (fun _ r => r) hK
  u_op (fun _ r => r) hK
  u_op (fun _ r => r) hK
  u_op (fun _ r => r) hK
  u_op (fun _ r => r) hK
  u_call H.f_uCas (nm_uCas L) uCasFn (fun _ r => r) hK
  u_c stepG_seq (fun _ r => r) hK
  u_reg (fun _ r => r) hK
  u_op (fun _ r => r) hK
  u_c stepG_region_end (fun _ r => r) hK
  u_c stepG_seq (fun _ r => r) hK
  u_reg (fun _ r => r) hK
  u_op (fun _ r => r) hK
  u_op (fun _ r => r) hK
  u_op (fun _ r => r) hK
  u_op (fun _ r => r) hK
  u_op (fun _ r => r) hK
  refine Goes.stop (fun w2 h2 => ?_)
  replace hK : WgLive L.tWg Wg w2 := h2
  clear h2
  refine ⟨rfl, fun v' hv' hw => ⟨fun e => ?_, fun e => ?_⟩⟩
  ·subst e
   rw [hS] at hw ⊢
   refine ⟨_, (stepG_cas_hit (v := S) (n := S + 1) rfl rfl (by k_ne) rfl H.f_casU64 (x_casU64_n L) (x_casU64_b L) (x_casU64_x L) .u64 (x_casU64_f L) rfl rfl rfl hw.cellSt (hw.thaw 0)).trans (by rfl), ?_⟩
   clear hw hK
   refine ⟨200, fun w => ?_⟩
   have hK : True := trivial
   walk_nrm
   u_conv H.underlying_tPU32 H.room_tU32 (WgLive.cell1 hK).choose_spec (fun _ r => r) hK
   u_c stepG_region_end (fun _ r => r) hK
   u_c stepG_ret' (fun _ r => r) hK
   u_leave1 H.f_uCas (fun _ r => r) hK
   u_c stepG_region_end (fun _ r => r) hK
   u_cond true (fun _ r => r) hK
   u_c stepG_seq (fun _ r => r) hK
   u_c stepG_seq (fun _ r => r) hK
   u_reg (fun _ r => r) hK
   u_conv H.underlying_tPU32 H.room_tU32 (WgLive.cell1 hK).choose_spec (fun _ r => r) hK
   u_conv H.underlying_tPU32 H.room_tU32 (WgLive.cell1 hK).choose_spec (fun _ r => r) hK
   u_conv H.underlying_tPU32 H.room_tU32 (WgLive.cell1 hK).choose_spec (fun _ r => r) hK
   u_conv H.underlying_tPU32 H.room_tU32 (WgLive.cell1 hK).choose_spec (fun _ r => r) hK
   u_c stepG_region_end (fun _ r => r) hK
   u_cond true (fun _ r => r) hK
   u_reg (fun _ r => r) hK
   u_conv H.underlying_tPU32 H.room_tU32 (WgLive.cell1 hK).choose_spec (fun _ r => r) hK
   u_conv H.underlying_tPU32 H.room_tU32 (WgLive.cell1 hK).choose_spec (fun _ r => r) hK
   u_op (fun _ r => r) hK
   u_conv H.underlying_tPU32 H.room_tU32 (WgLive.cell1 hK).choose_spec (fun _ r => r) hK
   refine Goes.stop (fun w3 h3 => ?_)
   replace hK : WgLive L.tWg Wg w3 := h3
   clear h3
   refine ⟨rfl, _, stepG_markAt .write (by simp) rfl rfl (by k_ne) rfl H.f_raceWrite (x_raceWrite_n L) (x_raceWrite_b L) (x_raceWrite_x L) (x_raceWrite_f L) (ad := ⟨_, 1, none⟩) (by simp [Act.eval] <;> rfl), ?_⟩
   clear hK
   refine ⟨200, fun w => ?_⟩
   have hK : True := trivial
   walk_nrm
   u_c stepG_region_end (fun _ r => r) hK
   u_c stepG_seq (fun _ r => r) hK
   u_reg (fun _ r => r) hK
   u_op (fun _ r => r) hK
   u_c stepG_region_end (fun _ r => r) hK
   u_c stepG_seq (fun _ r => r) hK
   u_c stepG_seq (fun _ r => r) hK
   u_reg (fun _ r => r) hK
   u_op (fun _ r => r) hK
   u_op (fun _ r => r) hK
   u_op (fun _ r => r) hK
   u_op (fun _ r => r) hK
   u_skip (fun _ r => r) hK
   u_op (fun _ r => r) hK
   u_c stepG_region_end (fun _ r => r) hK
   u_cond false (fun _ r => r) hK
   u_c stepG_skip (fun _ r => r) hK
   u_c stepG_seq (fun _ r => r) hK
   u_reg (fun _ r => r) hK
   u_op (fun _ r => r) hK
   u_op (fun _ r => r) hK
   u_op (fun _ r => r) hK
   u_op (fun _ r => r) hK
   refine Goes.stop (fun w4 h4 => ?_)
   replace hK : WgLive L.tWg Wg w4 := h4
   clear h4
   refine ⟨rfl, rfl, fun ⟨st, hw⟩ => stepG_semacquire_wait rfl rfl rfl H.f_semacquire (x_semacquire_n L) (x_semacquire_b L) (x_semacquire_x L) (x_semacquire_f L) (by simp [Act.eval, smA]) hw.cellSm, fun hf => ?_⟩
   refine ⟨_, (stepG_semacquire (n := 1) rfl rfl (by k_ne) rfl H.f_semacquire (x_semacquire_n L) (x_semacquire_b L) (x_semacquire_x L) (x_semacquire_f L) (by simp [Act.eval, smA]) hf.cellSm (by k_ne) (hf.thaw 1)).trans (by rfl), ?_⟩
   clear hf hK
   refine ⟨200, fun w => ?_⟩
   have hK : True := trivial
   walk_nrm
   u_c stepG_region_end (fun _ r => r) hK
   u_c stepG_seq (fun _ r => r) hK
   u_reg (fun _ r => r) hK
   u_op (fun _ r => r) hK
   u_op (fun _ r => r) hK
   u_op (fun _ r => r) hK
   u_call H.f_uLoad (nm_uLoad L) uLoadFn (fun _ r => r) hK
   u_c stepG_seq (fun _ r => r) hK
   u_reg (fun _ r => r) hK
   u_op (fun _ r => r) hK
   u_c stepG_region_end (fun _ r => r) hK
   u_c stepG_seq (fun _ r => r) hK
   u_reg (fun _ r => r) hK
   u_op (fun _ r => r) hK
   u_op (fun _ r => r) hK
   u_op (fun _ r => r) hK
   refine Goes.stop (fun w5 h5 => ?_)
   replace hK : WgLive L.tWg Wg w5 := h5
   clear h5
   refine ⟨rfl, fun hw => ⟨_, stepG_load_atomic (v := 0) rfl rfl (by k_ne) rfl H.f_loadU64 (x_loadU64_n L) (x_loadU64_b L) (x_loadU64_x L) .u64 (x_loadU64_f L) rfl hw.cellSt, ?_⟩⟩
   clear hw hK
   refine ⟨200, fun w => ?_⟩
   have hK : True := trivial
   walk_nrm
   u_op (fun _ r => r) hK
   u_c stepG_region_end (fun _ r => r) hK
   u_c stepG_ret' (fun _ r => r) hK
   u_leave1 H.f_uLoad (fun _ r => r) hK
   u_op (fun _ r => r) hK
   u_op (fun _ r => r) hK
   u_c stepG_region_end (fun _ r => r) hK
   u_c stepG_seq (fun _ r => r) hK
   u_cond true (fun _ r => r) hK
   u_c stepG_seq (fun _ r => r) hK
   u_reg (fun _ r => r) hK
   refine Goes.stop (fun w6 h6 => ?_)
   replace hK : WgLive L.tWg Wg w6 := h6
   clear h6
   refine ⟨rfl, _, stepG_mark0 .enable (by simp) rfl rfl (by k_ne) rfl H.f_enable (x_enable_n L) (x_enable_b L) (x_enable_x L) (x_enable_f L), ?_⟩
   clear hK
   refine ⟨200, fun w => ?_⟩
   have hK : True := trivial
   walk_nrm
   u_c stepG_region_end (fun _ r => r) hK
   u_reg (fun _ r => r) hK
   u_conv H.underlying_tWgP H.room_tWg (WgLive.cell0 hK).choose_spec (fun _ r => r) hK
   u_conv H.underlying_tWgP H.room_tWg (WgLive.cell0 hK).choose_spec (fun _ r => r) hK
   refine Goes.stop (fun w7 h7 => ?_)
   replace hK : WgLive L.tWg Wg w7 := h7
   clear h7
   refine ⟨rfl, _, stepG_markAt .acquire (by simp) rfl rfl (by k_ne) rfl H.f_acquire (x_acquire_n L) (x_acquire_b L) (x_acquire_x L) (x_acquire_f L) (by simp [Act.eval, stA]), ?_⟩
   clear hK
   refine ⟨200, fun w => ?_⟩
   have hK : True := trivial
   walk_nrm
   u_c stepG_region_end (fun _ r => r) hK
   u_c stepG_seq (fun _ r => r) hK
   u_c stepG_seq (fun _ r => r) hK
   u_reg (fun _ r => r) hK
   u_op (fun _ r => r) hK
   u_c stepG_region_end (fun _ r => r) hK
   u_cond false (fun _ r => r) hK
   u_c stepG_skip (fun _ r => r) hK
   u_c stepG_ret' (fun _ r => r) hK
   u_leave0 H.f_wait (fun _ r => r) hK
   exact Goes.stop (fun _ _ => hT)
  ·refine ⟨_, stepG_cas_miss (v := (v' : Int) * KK) (old := S) (n := S + 1) rfl rfl (by k_ne) rfl H.f_casU64 (x_casU64_n L) (x_casU64_b L) (x_casU64_x L) .u64 (x_casU64_f L) rfl rfl rfl hw.cellSt (hw.thaw 0) (by rw [← hS]; simp only [KK]; omega), ?_⟩
   clear hw hK
   refine ⟨200, fun w => ?_⟩
   have hK : True := trivial
   walk_nrm
   u_op (fun _ r => r) hK
   u_c stepG_region_end (fun _ r => r) hK
   u_c stepG_ret' (fun _ r => r) hK
   u_leave1 H.f_uCas (fun _ r => r) hK
   u_c stepG_region_end (fun _ r => r) hK
   u_cond false (fun _ r => r) hK
   u_c stepG_skip (fun _ r => r) hK
   u_c stepG_inBlock (fun _ r => r) hK
   u_c stepG_inLoop (fun _ r => r) hK
   exact Goes.stop (fun _ _ => ⟨_, rfl, by simp, by simp⟩)
end
end Go.Proofs.Ythmgpkcijolljaa
