/-
  The methods of the patchboard, and what the functions over fields return.
-/
import Derived.Test.YtbihnjfckaeioaaFieldA
import Derived.Test.YtbihnjfckaeioaaPlain
import Derived.Test.YtbihnjfckaeioaaOwn
import Derived.Maps.AppendAt
namespace Go.Proofs.Ytbihnjfckaeioaa
open Go.RowKit
set_option linter.unusedSimpArgs false
set_option linter.unusedVariables false

theorem zero_ints (w : World) : (zeroValue 23).run Try.prog w = .ok (.slice none 0 0) w := by kernel_rfl
/-- what a map of slices holds at a channel, the nil slice where there is none -/
def mgetD (w : World) (b : Nat) (r : Option Nat) : Value := (mget w b r).getD (.slice none 0 0)
@[go_sem] theorem look_grp {w : World} {b : Nat} (h : mcm w b = true) (r : Option Nat) : (Instr.lookup 54 (.map (some b)) (.chan r) false).run Try.prog w = .ok (mgetD w b r) w := by
  rw [run_lookup_ch Try.underlying54 Try.underlying51 (zero_ints w) h r false]
  unfold mgetD
  cases mget w b r <;> rfl
@[go_sem] theorem upd_grp {w : World} {b : Nat} (h : mcm w b = true) (r : Option Nat) (v : Value) : (Instr.mapUpdate 54 (.map (some b)) (.chan r) v).run Try.prog w = .ok () (mput w b r v) :=
  run_mapUpdate_ch Try.underlying54 Try.underlying51 h r v

/-- the map b holds, at each channel r, a slice of its own with the numbers g r, and nothing where there are none -/
structure Groups (w : World) (base b : Nat) (g : Option Nat → List Int) : Prop where
  hcm : mcm w b = true
  none_ : ∀ r, g r = [] → mget w b r = none
  some_ : ∀ r, g r ≠ [] → ∃ v, mget w b r = some v ∧ w.ownsRow base 3 1 v (g r).length (ints (g r))
  apart : ∀ r r' v v', r ≠ r' → mget w b r = some v → mget w b r' = some v' → v.ownBlock ≠ v'.ownBlock

section
variable {w w' : World} {base b : Nat} {g : Option Nat → List Int}
theorem Groups.at_ (h : Groups w base b g) (r : Option Nat) : w.ownsRow base 3 1 (mgetD w b r) (g r).length (ints (g r)) := by
  unfold mgetD
  by_cases he : g r = []
  · rw [h.none_ r he, he]
    exact World.ownsRow_nil w base _ 1
  · obtain ⟨v, hv, ho⟩ := h.some_ r he
    rw [hv]
    exact ho
theorem Groups.ne_map (h : Groups w base b g) {r : Option Nat} {v : Value} (hv : mget w b r = some v) : v.ownBlock ≠ some b := by
  intro e
  by_cases he : g r = []
  · rw [h.none_ r he] at hv
    cases hv
  · obtain ⟨v', hv', ho⟩ := h.some_ r he
    rw [hv] at hv'
    injection hv' with hv'
    subst hv'
    rcases ho.2 with ⟨rfl, _⟩ | ⟨g', cap, cur, rfl, _, hh, _⟩
    · simp [Value.ownBlock] at e
    · have : g' = b := by simpa [Value.ownBlock] using e
      subst this
      have hc := h.hcm
      unfold mcm at hc
      have hh' : w.heap[g']? = some (Obj.cells cur 3 (0, 0)) := hh
      rw [hh'] at hc
      cases hc
theorem Groups.step (h : Groups w base b g) (r : Option Nat) (x : Int) (o : Obj) (hb : base ≤ w.heap.size) {v' : Value} {w2 : World}
    (hown : w2.ownsRow base 3 1 v' ((g r).length + 1) (ints (g r) ++ [Value.int .i64 x])) (hg : (w.alloc o).grownBy w2 (mgetD w b r).ownBlock)
    (hloc : v'.ownBlock = (mgetD w b r).ownBlock ∨ v'.ownBlock = some (w.alloc o).heap.size) :
    Groups (mput w2 b r v') base b (fun r' => if r' = r then g r' ++ [x] else g r') := by
  have hbl := mcm_lt h.hcm
  have hnb : (mgetD w b r).ownBlock ≠ some b := by
    unfold mgetD
    cases hm : mget w b r with
    | none => simp [Value.ownBlock]
    | some v => exact h.ne_map hm
  have e1 : w2.heap[b]? = w.heap[b]? := (hg.block b (by simp; omega) (fun e => hnb e.symm)).trans (Below.heap_alloc w o b hbl)
  have hcm2 : mcm w2 b = true := (mcm_of_block e1).trans h.hcm
  have hget2 : ∀ r', mget w2 b r' = mget w b r' := fun r' => mget_of_block e1
  refine ⟨mcm_mput hcm2, fun r' he => ?_, fun r' he => ?_, fun r1 r2 v1 v2 hne h1 h2 => ?_⟩
  · rw [mget_mput hcm2]
    by_cases hr : r' = r
    · rw [if_pos hr] at he
      simp at he
    · rw [if_neg hr] at he ⊢
      rw [hget2]
      exact h.none_ r' he
  · rw [mget_mput hcm2]
    by_cases hr : r' = r
    · subst hr
      simp only [if_pos]
      refine ⟨v', rfl, ?_⟩
      have : ints (g r' ++ [x]) = ints (g r') ++ [Value.int .i64 x] := by simp [ints]
      rw [this, List.length_append, List.length_singleton]
      refine hown.kept mput_grown (.inr ?_)
      rcases hloc with e | e
      · rw [e]; exact hnb
      · rw [e]
        simp
        omega
    · simp only [if_neg hr] at he ⊢
      rw [hget2]
      obtain ⟨v, hv, ho⟩ := h.some_ r' he
      refine ⟨v, hv, ?_⟩
      have ho1 := ho.alloc o
      have hne' : v.ownBlock ≠ (mgetD w b r).ownBlock := by
        unfold mgetD
        cases hm : mget w b r with
        | none =>
          obtain ⟨q, c, rfl, _, _⟩ := own_some ho (by cases hq : g r' with | nil => exact absurd hq he | cons _ _ => simp)
          simp [Value.ownBlock]
        | some v2 => exact h.apart r' r v v2 hr hv hm
      exact (ho1.kept hg (.inr hne')).kept mput_grown (.inr (h.ne_map hv))
  · rw [mget_mput hcm2] at h1 h2
    by_cases hr1 : r1 = r
    · by_cases hr2 : r2 = r
      · exact absurd (hr1.trans hr2.symm) hne
      · rw [if_pos hr1] at h1
        rw [if_neg hr2, hget2] at h2
        injection h1 with h1
        subst h1
        have he : g r2 ≠ [] := fun e => by rw [h.none_ r2 e] at h2; cases h2
        obtain ⟨u, hu, ho⟩ := h.some_ r2 he
        rw [h2] at hu
        injection hu with hu
        subst hu
        obtain ⟨q, c, rfl, _, hq⟩ := own_some ho (by cases hq : g r2 with | nil => exact absurd hq he | cons _ _ => simp)
        rcases hloc with e | e
        · rw [e]
          unfold mgetD
          cases hm : mget w b r with
          | none => simp [Value.ownBlock]
          | some v3 => exact fun e2 => h.apart r2 r _ v3 hr2 h2 hm e2.symm
        · rw [e]
          simp [Value.ownBlock]
          omega
    · by_cases hr2 : r2 = r
      · rw [if_neg hr1, hget2] at h1
        rw [if_pos hr2] at h2
        injection h2 with h2
        subst h2
        have he : g r1 ≠ [] := fun e => by rw [h.none_ r1 e] at h1; cases h1
        obtain ⟨u, hu, ho⟩ := h.some_ r1 he
        rw [h1] at hu
        injection hu with hu
        subst hu
        obtain ⟨q, c, rfl, _, hq⟩ := own_some ho (by cases hq : g r1 with | nil => exact absurd hq he | cons _ _ => simp)
        rcases hloc with e | e
        · rw [e]
          unfold mgetD
          cases hm : mget w b r with
          | none => simp [Value.ownBlock]
          | some v3 => exact fun e2 => h.apart r1 r _ v3 hr1 h1 hm e2
        · rw [e]
          simp [Value.ownBlock]
          omega
      · rw [if_neg hr1, hget2] at h1
        rw [if_neg hr2, hget2] at h2
        exact h.apart r1 r2 v1 v2 hne h1 h2
theorem Groups.cm_after (h : Groups w base b g) {r : Option Nat} {o : Obj} {w2 : World} (hg : (w.alloc o).grownBy w2 (mgetD w b r).ownBlock) : mcm w2 b = true := by
  have hbl := mcm_lt h.hcm
  have hnb : (mgetD w b r).ownBlock ≠ some b := by
    unfold mgetD
    cases hm : mget w b r with
    | none => simp [Value.ownBlock]
    | some v => exact h.ne_map hm
  exact (mcm_of_block ((hg.block b (by simp; omega) (fun e => hnb e.symm)).trans (Below.heap_alloc w o b hbl))).trans h.hcm
theorem Groups.congr {g' : Option Nat → List Int} (h : Groups w base b g) (e : g = g') : Groups w base b g' := e ▸ h
end

/-- what the method groups leaves: for each channel the plugs that hold it -/
def NewGroups (w : World) (ch : Int → Option Nat) (p : List Int) (e : Ending) (w' : World) : Prop :=
  ∃ b, e = .returned (.map (some b)) ∧ w.heap.size ≤ b ∧ Groups w' w.heap.size b (fun r => posOf (p.map ch) r) ∧ Below w.heap.size w w'
theorem groups_any (S L M G : Nat) (ch : Int → Option Nat) (p : List Int) (w : World) (hb : Board w S L M G ch p) (hn : p.length ≤ 20) :
    Calls Try.prog 37 #[.pointer (some ⟨S, 0, none⟩)] w (NewGroups w ch p) := by
  obtain ⟨i0, hi, hz0, hz1, hz2⟩ := info_parts int_info
  have hmm := @run_makeMap Try.prog
  have c2 := hb.s2
  have sl := hb.hS.lt
  go_enter Try.func37, Try.ntmps37
  go_wp2
  go_loopw [12, 4, 5] (fun i _ _ wr => ∃ k : Nat, k ≤ p.length ∧ i = .int .i64 k ∧ Groups wr w.heap.size w.heap.size (fun r => posOf ((p.take k).map ch) r) ∧ Below w.heap.size w wr) (fun i _ _ _ => p.length - (intOf i).toNat)
  case atStart =>
    refine ⟨0, Nat.zero_le _, rfl, ⟨mcm_new w 0, fun r _ => mget_new w 0 r, fun r h => absurd rfl h, fun r r' v v' _ h => ?_⟩, (Below.refl _ _).alloc (Nat.le_refl _) _⟩
    rw [mget_new] at h
    cases h
  case round =>
    obtain ⟨k, hk, rfl, hgr, hbel⟩ := hrel
    by_cases hlt : k < p.length
    · have hbd := hb.keep hbel
      have cg := hbd.cell hlt
      have cm := hgr.hcm
      have hoi := hgr.at_ (ch p[k])
      have hle : (posOf ((p.take k).map ch) (ch p[k])).length ≤ 20 := Nat.le_trans (posOf_length_le _ _) (by simp; omega)
      have hbs := hbel.size
      have Hgr := Lib.hid hgr
      clear hgr hbd c2
      obtain ⟨v0, hv0⟩ : ∃ v0, mgetD wr w.heap.size (ch p[k]) = v0 := ⟨_, rfl⟩
      rw [hv0] at hoi
      go_wp2_with (at_builtin; refine wpList_append_own_at _ rfl _ _ 23 rfl w.heap.size 3 i0 (.int .i64 0) 1 8 Try.underlying23 hi hz0 hz1 hz2 rfl (by decide) v0 _ _ rfl (hoi.alloc _) ⟨wr.heap.size, 0, none⟩ 1 1 [.int .i64 k] rfl rfl (cell_one_new _ _ _) (ints_oneCell .i64 [(k : Int)]) ?_ ?_ ?_ ?_; (unfold maxLen; omega); omega; (simp; omega); intro v' w1 hown' hgrow hnil hloc; have cm1 := Hgr.out.cm_after (r := ch p[k]) (by rw [hv0]; exact hgrow))
      have hst := Hgr.out.step (ch p[k]) (k : Int) _ hbs hown' (by rw [hv0]; exact hgrow) (by rw [hv0]; exact hloc)
      have hv : ∀ q, v0.ownBlock = some q → w.heap.size ≤ q := fun q hq => (hoi.lt q hq).1
      have Hst := Lib.hid hst
      clear hst
      go_roundw
      case rel =>
        refine ⟨k + 1, by omega, by go_num, Hst.out.congr ?_, mput_below (below_of_grown hbel hgrow hbs hv) (Nat.le_refl _)⟩
        funext r
        have e1 : (p.take (k + 1)).map ch = (p.map ch).take (k + 1) := by rw [List.map_take]
        have e2 : (p.take k).map ch = (p.map ch).take k := by rw [List.map_take]
        rw [e1, e2, posOf_take_succ _ k (by simpa using hlt), List.getElem_map]
        by_cases hr : r = ch p[k]
        · rw [if_pos hr, if_pos hr.symm]
        · rw [if_neg hr, if_neg (fun e => hr e.symm), List.append_nil]
      case measure => simp [intOf]; omega
    · obtain rfl : k = p.length := by omega
      rw [List.take_length] at hgr
      have Hgr := Lib.hid hgr
      clear hgr
      go_wp2
      go_ret
      exact ⟨_, rfl, Nat.le_refl _, Hgr.out, hbel⟩
end Go.Proofs.Ytbihnjfckaeioaa
