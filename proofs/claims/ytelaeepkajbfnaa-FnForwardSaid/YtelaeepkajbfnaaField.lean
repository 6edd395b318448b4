/-
  The methods of the patchboard, and what the functions over fields return.
-/
import Derived.Test.YtelaeepkajbfnaaFieldA
import Derived.Test.YtelaeepkajbfnaaPlain
import Derived.Test.YtelaeepkajbfnaaOwn
import Derived.Maps.AppendAt
namespace Go.Proofs.Ytelaeepkajbfnaa
open Go.RowKit
set_option linter.unusedSimpArgs false
set_option linter.unusedVariables false

theorem zero_ints (w : World) : (zeroValue 32).run Try.prog w = .ok (.slice none 0 0) w := by kernel_rfl
/-- what a map of slices holds at a channel, the nil slice where there is none -/
def mgetD (w : World) (b : Nat) (r : Option Nat) : Value := (mget w b r).getD (.slice none 0 0)

/-- the map b holds, at each channel r, a slice of its own with the numbers g r, and nothing where there are none -/
structure Groups (w : World) (base b : Nat) (g : Option Nat → List Int) : Prop where
  hcm : mcm w b = true
  none_ : ∀ r, g r = [] → mget w b r = none
  some_ : ∀ r, g r ≠ [] → ∃ v, mget w b r = some v ∧ w.ownsRow base 3 1 v (g r).length (ints (g r))
  apart : ∀ r r' v v', r ≠ r' → mget w b r = some v → mget w b r' = some v' → v.ownBlock ≠ v'.ownBlock

section
variable {w w' : World} {base b : Nat} {g : Option Nat → List Int}
theorem Groups.at_ (h : Groups w base b g) (r : Option Nat) : w.ownsRow base 3 1 (mgetD w b r) (g r).length (ints (g r)) := by
  unfold mgetD
  by_cases he : g r = []
  · rw [h.none_ r he, he]
    exact World.ownsRow_nil w base _ 1
  · obtain ⟨v, hv, ho⟩ := h.some_ r he
    rw [hv]
    exact ho
theorem Groups.ne_map (h : Groups w base b g) {r : Option Nat} {v : Value} (hv : mget w b r = some v) : v.ownBlock ≠ some b := by
  intro e
  by_cases he : g r = []
  · rw [h.none_ r he] at hv
    cases hv
  · obtain ⟨v', hv', ho⟩ := h.some_ r he
    rw [hv] at hv'
    injection hv' with hv'
    subst hv'
    rcases ho.2 with ⟨rfl, _⟩ | ⟨g', cap, cur, rfl, _, hh, _⟩
    · simp [Value.ownBlock] at e
    · have : g' = b := by simpa [Value.ownBlock] using e
      subst this
      have hc := h.hcm
      unfold mcm at hc
      have hh' : w.heap[g']? = some (Obj.cells cur 3 (0, 0)) := hh
      rw [hh'] at hc
      cases hc
theorem Groups.step (h : Groups w base b g) (r : Option Nat) (x : Int) (o : Obj) (hb : base ≤ w.heap.size) {v' : Value} {w2 : World}
    (hown : w2.ownsRow base 3 1 v' ((g r).length + 1) (ints (g r) ++ [Value.int .i64 x])) (hg : (w.alloc o).grownBy w2 (mgetD w b r).ownBlock)
    (hloc : v'.ownBlock = (mgetD w b r).ownBlock ∨ v'.ownBlock = some (w.alloc o).heap.size) :
    Groups (mput w2 b r v') base b (fun r' => if r' = r then g r' ++ [x] else g r') := by
  have hbl := mcm_lt h.hcm
  have hnb : (mgetD w b r).ownBlock ≠ some b := by
    unfold mgetD
    cases hm : mget w b r with
    | none => simp [Value.ownBlock]
    | some v => exact h.ne_map hm
  have e1 : w2.heap[b]? = w.heap[b]? := (hg.block b (by simp; omega) (fun e => hnb e.symm)).trans (Below.heap_alloc w o b hbl)
  have hcm2 : mcm w2 b = true := (mcm_of_block e1).trans h.hcm
  have hget2 : ∀ r', mget w2 b r' = mget w b r' := fun r' => mget_of_block e1
  refine ⟨mcm_mput hcm2, fun r' he => ?_, fun r' he => ?_, fun r1 r2 v1 v2 hne h1 h2 => ?_⟩
  · rw [mget_mput hcm2]
    by_cases hr : r' = r
    · rw [if_pos hr] at he
      simp at he
    · rw [if_neg hr] at he ⊢
      rw [hget2]
      exact h.none_ r' he
  · rw [mget_mput hcm2]
    by_cases hr : r' = r
    · subst hr
      simp only [if_pos]
      refine ⟨v', rfl, ?_⟩
      have : ints (g r' ++ [x]) = ints (g r') ++ [Value.int .i64 x] := by simp [ints]
      rw [this, List.length_append, List.length_singleton]
      refine hown.kept mput_grown (.inr ?_)
      rcases hloc with e | e
      · rw [e]; exact hnb
      · rw [e]
        simp
        omega
    · simp only [if_neg hr] at he ⊢
      rw [hget2]
      obtain ⟨v, hv, ho⟩ := h.some_ r' he
      refine ⟨v, hv, ?_⟩
      have ho1 := ho.alloc o
      have hne' : v.ownBlock ≠ (mgetD w b r).ownBlock := by
        unfold mgetD
        cases hm : mget w b r with
        | none =>
          obtain ⟨q, c, rfl, _, _⟩ := own_some ho (by cases hq : g r' with | nil => exact absurd hq he | cons _ _ => simp)
          simp [Value.ownBlock]
        | some v2 => exact h.apart r' r v v2 hr hv hm
      exact (ho1.kept hg (.inr hne')).kept mput_grown (.inr (h.ne_map hv))
  · rw [mget_mput hcm2] at h1 h2
    by_cases hr1 : r1 = r
    · by_cases hr2 : r2 = r
      · exact absurd (hr1.trans hr2.symm) hne
      · rw [if_pos hr1] at h1
        rw [if_neg hr2, hget2] at h2
        injection h1 with h1
        subst h1
        have he : g r2 ≠ [] := fun e => by rw [h.none_ r2 e] at h2; cases h2
        obtain ⟨u, hu, ho⟩ := h.some_ r2 he
        rw [h2] at hu
        injection hu with hu
        subst hu
        obtain ⟨q, c, rfl, _, hq⟩ := own_some ho (by cases hq : g r2 with | nil => exact absurd hq he | cons _ _ => simp)
        rcases hloc with e | e
        · rw [e]
          unfold mgetD
          cases hm : mget w b r with
          | none => simp [Value.ownBlock]
          | some v3 => exact fun e2 => h.apart r2 r _ v3 hr2 h2 hm e2.symm
        · rw [e]
          simp [Value.ownBlock]
          omega
    · by_cases hr2 : r2 = r
      · rw [if_neg hr1, hget2] at h1
        rw [if_pos hr2] at h2
        injection h2 with h2
        subst h2
        have he : g r1 ≠ [] := fun e => by rw [h.none_ r1 e] at h1; cases h1
        obtain ⟨u, hu, ho⟩ := h.some_ r1 he
        rw [h1] at hu
        injection hu with hu
        subst hu
        obtain ⟨q, c, rfl, _, hq⟩ := own_some ho (by cases hq : g r1 with | nil => exact absurd hq he | cons _ _ => simp)
        rcases hloc with e | e
        · rw [e]
          unfold mgetD
          cases hm : mget w b r with
          | none => simp [Value.ownBlock]
          | some v3 => exact fun e2 => h.apart r1 r _ v3 hr1 h1 hm e2
        · rw [e]
          simp [Value.ownBlock]
          omega
      · rw [if_neg hr1, hget2] at h1
        rw [if_neg hr2, hget2] at h2
        exact h.apart r1 r2 v1 v2 hne h1 h2
theorem Groups.cm_after (h : Groups w base b g) {r : Option Nat} {o : Obj} {w2 : World} (hg : (w.alloc o).grownBy w2 (mgetD w b r).ownBlock) : mcm w2 b = true := by
  have hbl := mcm_lt h.hcm
  have hnb : (mgetD w b r).ownBlock ≠ some b := by
    unfold mgetD
    cases hm : mget w b r with
    | none => simp [Value.ownBlock]
    | some v => exact h.ne_map hm
  exact (mcm_of_block ((hg.block b (by simp; omega) (fun e => hnb e.symm)).trans (Below.heap_alloc w o b hbl))).trans h.hcm
theorem Groups.congr {g' : Option Nat → List Int} (h : Groups w base b g) (e : g = g') : Groups w base b g' := e ▸ h
end

/-- what the method groups leaves: for each channel the plugs that hold it -/
def NewGroups (w : World) (ch : Int → Option Nat) (p : List Int) (e : Ending) (w' : World) : Prop :=
  ∃ b, e = .returned (.map (some b)) ∧ w.heap.size ≤ b ∧ Groups w' w.heap.size b (fun r => posOf (p.map ch) r) ∧ Below w.heap.size w w'
end Go.Proofs.Ytelaeepkajbfnaa
