/-
  What the functions over fields of the program and of the reference return.
-/
import Derived.Test.YtbihnjfckaeioaaField
namespace Go.Proofs.Ytbihnjfckaeioaa
open Go.RowKit
set_option linter.unusedSimpArgs false
set_option linter.unusedVariables false

theorem l2Plugs_any (A : Option Addr) (c : Nat) (l : List Int) (x : Int) (w : World) (h : RI w w.heap.size A l) (hn : l.length ≤ 1048576) :
    Calls Try.prog 44 #[.slice A l.length c, .int .i64 x] w (OwnInts w (posOf l x)) := by
  obtain ⟨i0, hi, hz0, hz1, hz2⟩ := info_parts int_info
  go_enter Try.func44, Try.ntmps44
  go_wp2
  go_loopw [5, 6] (fun v i wr => ∃ k : Nat, k ≤ l.length ∧ i = .int .i64 k ∧ wr.ownsRow w.heap.size 3 1 v (posOf (l.take k) x).length (ints (posOf (l.take k) x)) ∧ Below w.heap.size w wr) (fun _ i _ => l.length - (intOf i).toNat)
  case atStart => exact ⟨0, Nat.zero_le _, rfl, ⟨by simp [posOf_nil], .inr ⟨_, 0, #[], rfl, Nat.le_refl _, heap_alloc_new w _, Nat.le_refl _, by unfold maxLen; omega, rfl, rfl⟩⟩, (Below.refl _ _).alloc (Nat.le_refl _) _⟩
  case round =>
    obtain ⟨k, hk, rfl, hoi, hbel⟩ := hrel
    by_cases hlt : k < l.length
    · obtain ⟨ad, rfl, hba, hc⟩ := (h.below hbel).at_ hlt
      have hle : (posOf (l.take k) x).length ≤ 1048576 := Nat.le_trans (posOf_length_le _ _) (by simp; omega)
      have hbs := hbel.size
      have Hs := Lib.hid (posOf_take_succ l k hlt x)
      by_cases he : l[k] = x
      · have hb1 : (l[k] == x) = true := by simp [he]
        have He := Lib.hid he
        clear he
        have hv : ∀ q, u5.ownBlock = some q → w.heap.size ≤ q := fun q hq => (hoi.lt q hq).1
        go_wp2_with (at_builtin; refine wpList_append_own_at _ rfl _ _ 23 rfl w.heap.size 3 i0 (.int .i64 0) 1 8 Try.underlying23 hi hz0 hz1 hz2 rfl (by decide) u5 _ _ rfl (hoi.alloc _) ⟨wr.heap.size, 0, none⟩ 1 1 [.int .i64 k] rfl rfl (cell_one_new _ _ _) (ints_oneCell .i64 [(k : Int)]) ?_ ?_ ?_ ?_; (unfold maxLen; omega); omega; (simp; omega); intro v' w1 hown' hgrow hnil hloc)
        go_roundw
        case rel => exact ⟨k + 1, by omega, by go_num, by rw [Hs.out, if_pos He.out]; simpa [ints] using hown', below_of_grown hbel hgrow hbs hv⟩
        case measure => simp [intOf]; omega
      · have hb1 : (l[k] == x) = false := by simp [he]
        have He := Lib.hid he
        clear he
        go_wp2
        go_roundw
        case rel => exact ⟨k + 1, by omega, by go_num, by rw [Hs.out, if_neg He.out, List.append_nil]; exact hoi, hbel⟩
        case measure => simp [intOf]; omega
    · obtain rfl : k = l.length := by omega
      rw [List.take_length] at hoi
      go_wp2
      go_ret
      exact OwnInts.mk_ hoi hbel

/-- the plugs of a line -/
def plugsL (l : List Int) (x : Int) : List Int := if fieldB l = true then posOf l x else []
theorem plugsL_len {l : List Int} {x : Int} (h : l.length ≤ 1048576) : (plugsL l x).length ≤ 1048576 := by
  unfold plugsL
  split
  · exact Nat.le_trans (posOf_length_le _ _) h
  · simp
theorem posOf_out {l : List Int} {x : Int} (h : ∀ y ∈ l, 0 ≤ y ∧ y ≤ 6) (hx : inB x 0 6 = false) : posOf l x = [] := by
  rw [List.eq_nil_iff_forall_not_mem]
  intro i hi
  obtain ⟨k, _, hk⟩ := mem_posOf.1 hi
  exact inB_false.1 hx (h x (List.mem_of_getElem? hk))
theorem iPlugsOf_any (A : Option Addr) (c : Nat) (l : List Int) (x : Int) (w : World) (h : RI w w.heap.size A l) (hn : l.length ≤ 1048576) :
    Calls Try.prog 12 #[.slice A l.length c, .int .i64 x] w (OwnInts w (plugsL l x)) := by
  unfold plugsL
  cases hf : fieldB l
  · go_enter Try.func12, Try.ntmps12
    go_wp2_with (go_at_call 22; refine (iFieldValid_any _ _ l _ _ h hn).mono ?_; rintro e w' ⟨rfl, rfl⟩)
    go_ret
    exact OwnInts.mk_ (l := []) (World.ownsRow_nil _ _ _ _) (Below.refl _ _)
  · cases hx : inB x 0 6
    · have E1 := Lib.hid (posOf_out (fieldB_true hf).2 hx)
      simp only [E1.out, if_true]
      go_enter Try.func12, Try.ntmps12
      go_wp2_with (first | (go_at_call 22; refine (iFieldValid_any _ _ l _ _ h hn).mono ?_; rintro e w' ⟨rfl, rfl⟩) | (go_at_call 31; refine (isLine_any _ _).mono ?_; rintro e w' ⟨rfl, rfl⟩))
      go_ret
      exact OwnInts.mk_ (l := []) (World.ownsRow_nil _ _ _ _) (Below.refl _ _)
    · obtain ⟨hn20, hval⟩ := fieldB_true hf
      obtain ⟨x0, x6⟩ := inB_true.1 hx
      have x7 : x < 7 := by omega
      go_enter Try.func12, Try.ntmps12
      go_wp2_with fail
      refine (iFieldValid_any _ _ l _ _ h hn).mono ?_
      rintro e w' ⟨rfl, rfl⟩
      go_wp2_with fail
      refine (isLine_any _ _).mono ?_
      rintro e w' ⟨rfl, rfl⟩
      go_wp2_with fail
      refine (newPatchboard_any A c l w h hn20 hval).mono ?_
      rintro e w1 ⟨S, L, M, G, ch, rfl, hbd, g1, g2, g3, g4, hbel⟩
      have c0 := hbd.s0
      have cl := hbd.line x0 x6
      have hlt := hbd.lts
      have e0 : posOf (l.map ch) (ch x) = posOf l x := posOf_map ch l x fun y hy => hbd.eq_iff (hval y hy) ⟨x0, x6⟩
      have E0 := Lib.hid e0
      clear e0
      go_wp2_with fail
      go_region_held3 (fun w' => w'.cell? ⟨S, 0, none⟩ = some (.slice (some ⟨L, 0, none⟩) 7 7) ∧ w'.cell? ⟨L, x.toNat, none⟩ = some (.chan (ch x))) (go_keep) (first | (go_at_call 37; refine (groups_any S L M G ch l _ hbd.drew hn20).mono ?_; rintro e w2 ⟨b, rfl, hb2, hgr, hbel2⟩; have k0 := (hbel2.cell (p := ⟨S, 0, none⟩) hlt.1).trans c0; have k1 := (hbel2.cell (p := ⟨L, x.toNat, none⟩) hlt.2.1).trans cl; have cm := hgr.hcm))
      all_goals
        go_wp2
        go_ret
        have ho := own_mono (hgr.at_ (ch x)) hbel.size
        simp only [E0.out] at ho
        exact OwnInts.mk_ ho (hbel.drew.trans (hbel2.mono hbel.size))
end Go.Proofs.Ytbihnjfckaeioaa
