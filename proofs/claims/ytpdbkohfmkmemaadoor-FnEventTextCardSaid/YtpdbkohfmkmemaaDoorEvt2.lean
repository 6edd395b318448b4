/-
  FormatEvent, by the program.
-/
import Derived.Test.YtpdbkohfmkmemaaDoorEvt
import Derived.Test.YtpdbkohfmkmemaaDoorOwn
namespace Go.Proofs.YtpdbkohfmkmemaaDoor
open Go.RowKit
set_option linter.unusedSimpArgs false
set_option linter.unusedVariables false

theorem jn2 (a b : List UInt8) : Lib.join [a, b] [32] = a ++ 32 :: b := by
  have h : Lib.join [a, b] [32] = a ++ ([32] ++ (b ++ [])) := rfl
  rw [h, List.append_nil]
  rfl
theorem jn3 (a b c : List UInt8) : Lib.join [a, b, c] [32] = a ++ 32 :: (b ++ 32 :: c) := by
  have h : Lib.join [a, b, c] [32] = a ++ ([32] ++ (b ++ ([32] ++ (c ++ [])))) := rfl
  rw [h, List.append_nil]
  rfl
theorem own_cap {w : World} {base g n c sz : Nat} {e : TypeId} {xs : List Value} (h : w.ownsRow base e sz (.slice (some ⟨g, 0, none⟩) n c) n xs) : n ≤ c := by
  rcases h.2 with ⟨h1, _⟩ | ⟨g', cap, cur, e1, _, _, hnc, _⟩
  · cases h1
  · injection e1 with _ _ e2
    rw [e2]
    exact hnc
theorem list_size (s : ByteArray) : s.data.toList.length = s.size := by
  rw [Array.length_toList]
  rfl
theorem own_two (w : World) (a b : ByteArray) : (w.alloc (.cells #[.string a, .string b] 9)).ownsRow w.heap.size 9 1 (.slice (some ⟨w.heap.size, 0, none⟩) 2 2) 2 ([a, b].map Value.string) :=
  ⟨rfl, .inr ⟨_, 2, #[.string a, .string b], rfl, Nat.le_refl _, heap_alloc_new w _, Nat.le_refl _, by unfold maxLen; omega, rfl, rfl⟩⟩
theorem join_any (base g c : Nat) (xs : List ByteArray) (w : World) (h : w.ownsRow base 9 1 (.slice (some ⟨g, 0, none⟩) xs.length c) xs.length (xs.map Value.string)) (hc : xs.length ≤ c) (hn : 0 < xs.length) (hl : xs.length ≤ 10) (hlen : (Lib.join (xs.map (·.data.toList)) [32]).length ≤ 140737488355328) :
    Calls Tryd.prog 23 #[.slice (some ⟨g, 0, none⟩) xs.length c, .string ⟨#[32]⟩] w fun e w' => e = .returned (.string ⟨(Lib.join (xs.map (·.data.toList)) [32]).toArray⟩) ∧ Below w.heap.size w w' := by
  obtain ⟨ad, e, hb, hcl⟩ := (Reads.of_own h).2 hn
  obtain rfl : (⟨g, 0, none⟩ : Addr) = ad := by injection e
  refine Tryd.strings_Join g 0 c xs ⟨#[32]⟩ w (fun j x hx => ?_) hb (by omega) hc hlen
  have := hcl j (.string x) (by rw [List.getElem?_map, hx]; rfl)
  rw [Nat.zero_add]
  have e2 : (⟨g, 0, none⟩ : Addr).add j = ⟨g, j, none⟩ := by
    unfold Addr.add
    split
    · rename_i h0; simp_all
    · simp
  rw [e2] at this
  exact this
set_option maxHeartbeats 2000000 in
theorem iFormatEvent_any (s : ByteArray) (x y : Int) (w : World) (ht : Tab w) (ha : s.size ≤ 1048576) :
    Calls Tryd.prog 12 #[.agg #[.string s, .int .i64 x, .int .i64 y]] w fun e w' => e = .returned (.string (fmtE s x y)) ∧ Below w.heap.size w w' := by
  have B1 := (Below.refl w.heap.size w).alloc (Nat.le_refl _) (.cells #[.string s, .int .i64 x, .int .i64 y] 23)
  have hle := B1.size
  have hd := fun W => iEventValid_any s x y 4 W
  simp only [eventB_rest (show (1 : Int) ≤ 4 ∧ (4 : Int) ≤ 4 by omega)] at hd
  cases hv : eventIn s.toList x y 4
  · have E := Lib.hid (fmtE_no hv)
    rw [hv] at hd
    clear hv
    go_enter Tryd.func12, Tryd.ntmps12
    go_wp2_with fail
    refine (hd _).mono ?_
    rintro e w2 ⟨rfl, hb2⟩
    go_wp2_with fail
    go_ret
    exact ⟨ret_str (by rw [E.out]; rfl), B1.trans (hb2.mono hle)⟩
  · rw [hv] at hd
    obtain ⟨⟨x0, x6⟩, ⟨y0, y6⟩⟩ := event_parts hv
    obtain ⟨X, rfl⟩ := Int.eq_ofNat_of_zero_le x0
    obtain ⟨Y, rfl⟩ := Int.eq_ofNat_of_zero_le y0
    have E := Lib.hid (fmtE_yes hv)
    have h1 := decS_size (n := X) (by omega)
    have h2 := decS_size (n := Y) (by omega)
    obtain ⟨i0, hi, hz0, hz1, hz2⟩ := info_parts str_info
    clear hv
    go_enter Tryd.func12, Tryd.ntmps12
    go_wp2_with fail
    refine (hd _).mono ?_
    rintro e w2 ⟨rfl, hb2⟩
    have hbx := ((box_newE w s X Y).below hb2 (by simp))
    have hT2 := ht.below (B1.trans (hb2.mono hle))
    have hlt : w.heap.size < w2.heap.size := by have := hb2.size; simp at this; omega
    have B2 := B1.trans (hb2.mono hle)
    go_wp2_with fail
    obtain ⟨b, hb⟩ : ∃ b, w.heap.size = b := ⟨_, rfl⟩
    rw [hb] at hbx hlt ⊢
    have HB := Lib.hid hb
    clear hb
    obtain ⟨c0, c1, c2⟩ := hbx
    have d0 : w2.drew.cell? ⟨b, 0, none⟩ = some (.string s) := c0
    have d1 : w2.drew.cell? ⟨b, 1, none⟩ = some (.int .i64 X) := c1
    clear B1 hb2 hle hd
    go_region_held3 (fun w' => w'.cell? ⟨b, 0, none⟩ = some (.string s) ∧ w'.cell? ⟨b, 1, none⟩ = some (.int .i64 X)) (first | exact ⟨d0, d1⟩ | exact ⟨k0, k1⟩ | exact ⟨m0 _, m1 _⟩) (first | (go_at_call 22; refine (itoa_any X w2.drew hT2 (by omega)).mono ?_; rintro e w3 ⟨rfl, hb3⟩; have k0 := (hb3.cell (p := ⟨b, 0, none⟩) hlt).trans c0; have k1 := (hb3.cell (p := ⟨b, 1, none⟩) hlt).trans c1; have m0 : ∀ o, (w3.alloc o).cell? ⟨b, 0, none⟩ = some (.string s) := fun o => (((Below.refl w3.heap.size w3).alloc (Nat.le_refl _) o).cell (p := ⟨b, 0, none⟩) (Nat.lt_of_lt_of_le hlt hb3.size)).trans k0; have m1 : ∀ o, (w3.alloc o).cell? ⟨b, 1, none⟩ = some (.int .i64 X) := fun o => (((Below.refl w3.heap.size w3).alloc (Nat.le_refl _) o).cell (p := ⟨b, 1, none⟩) (Nat.lt_of_lt_of_le hlt hb3.size)).trans k1))
    have bel4 := (Below.refl w3.heap.size w3).alloc (Nat.le_refl _) (.cells #[.string s, .string (decS X)] 9)
    have own4 := own_two w3 s (decS X)
    have B3 := B2.trans ((below_drew_ hb3).mono (B2.size))
    have B4 := B3.trans (bel4.mono B3.size)
    have hgw : w.heap.size ≤ w3.heap.size := B3.size
    have hT4 := (hT2.below (below_drew_ hb3)).below bel4
    have m2 : (w3.alloc (.cells #[.string s, .string (decS X)] 9)).cell? ⟨b, 2, none⟩ = some (.int .i64 Y) := (bel4.cell (p := ⟨b, 2, none⟩) (Nat.lt_of_lt_of_le hlt hb3.size)).trans ((hb3.cell (p := ⟨b, 2, none⟩) hlt).trans c2)
    have f0 := m0 (.cells #[.string s, .string (decS X)] 9)
    have hw3 : w3.heap.size ≤ (w3.alloc (.cells #[.string s, .string (decS X)] 9)).heap.size := bel4.size
    obtain ⟨g, hg⟩ : ∃ g, w3.heap.size = g := ⟨_, rfl⟩
    rw [hg] at own4 hw3 hgw ⊢
    generalize w3.alloc (.cells #[.string s, .string (decS X)] 9) = w4 at own4 B4 hT4 m2 f0 hw3 ⊢
    clear hg c0 c1 c2 d0 d1 k0 k1 m0 m1 hb3 bel4 B2 B3 hT2
    cases hp : s.toList == ringL
    · have Hp := Lib.hid hp
      have hp' : (s.toList == [114, 105, 110, 103]) = false := hp
      clear hp
      go_wp2_with fail
      refine (join_any g g 2 [s, decS X] w4 own4 (by simp) (by simp) (by simp) (by simp only [List.map_cons, List.map_nil, jn2]; simp only [List.length_append, List.length_cons, list_size]; omega)).mono ?_
      rintro e w5 ⟨rfl, hb5⟩
      go_wp2_with fail
      go_ret
      exact ⟨ret_str (by rw [E.out, tailE_no Hp.out]; apply bytes_ext; simp [jn2, ByteArray.data_append]), B4.trans (hb5.mono B4.size)⟩
    · have Hp := Lib.hid hp
      have hp' : (s.toList == [114, 105, 110, 103]) = true := hp
      clear hp
      go_wp2_with fail
      refine (itoa_any Y w4 hT4 (by omega)).mono ?_
      rintro e w5 ⟨rfl, hb5⟩
      have own5 := own_below own4 hb5
      have hs5 := hb5.size
      have B5 := B4.trans (hb5.mono B4.size)
      go_wp2_with (at_builtin; refine wpList_append_own_at _ rfl _ _ 48 rfl g 9 i0 (.string ⟨#[]⟩) 1 16 Tryd.underlying48 hi hz0 hz1 hz2 rfl (by decide) (.slice (some ⟨g, 0, none⟩) 2 2) _ _ rfl (own5.alloc _) ⟨w5.heap.size, 0, none⟩ 1 1 [.string (decS Y)] rfl rfl (cell_one_new _ _ _) (by intro u hu; obtain rfl := List.mem_singleton.1 hu; rfl) ?_ ?_ ?_ ?_; (unfold maxLen; omega); omega; (simp; omega); intro v' w6 hown' hgrow hnil hloc; obtain ⟨g6, c6, hv6, hbg6, hlt6⟩ := own_some hown' (by omega); rw [hv6] at hown'; rw [hv6])
      have B6 := (B5.alloc B5.size (.cells #[.string (decS Y)] 9)).grown hgrow (by have := B5.size; simp; omega) (fun k hk => by simp [Value.ownBlock] at hk; omega)
      refine (join_any g g6 c6 [s, decS X, decS Y] w6 hown' (own_cap hown') (by simp) (by simp) (by simp only [List.map_cons, List.map_nil, jn3]; simp only [List.length_append, List.length_cons, list_size]; omega)).mono ?_
      rintro e w7 ⟨rfl, hb7⟩
      go_wp2_with fail
      go_ret
      exact ⟨ret_str (by rw [E.out, tailE_ring Hp.out]; apply bytes_ext; simp [jn3, ByteArray.data_append]), B6.trans (hb7.mono B6.size)⟩
end Go.Proofs.YtpdbkohfmkmemaaDoor
