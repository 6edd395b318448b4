/-
  DeedsServed, by the reference and by the program; the law.
-/
import Derived.Test.YtpblpdoalfphpaaServed2
namespace Go.Proofs.Ytpblpdoalfphpaa
open Go.RowKit
set_option linter.unusedSimpArgs false
set_option linter.unusedVariables false

def svP (n : Nat) (s : Sv) : Bool := inB s.1 0 ((n : Int) - 1)
def dsB (T : List Dd) (L : List Sv) : Bool := L.all (svP T.length)
def dsF (T : List Dd) (s : Sv) : Dd := T.getD s.1.toNat zD
def dsL (T : List Dd) (L : List Sv) : List Dd := if dsB T L = true then L.map (dsF T) else []
theorem dsL_len {T : List Dd} {L : List Sv} (h : L.length ≤ 1048576) : (dsL T L).length ≤ 1048576 := by
  unfold dsL
  split
  · simpa using h
  · simp
theorem dsB_no {T : List Dd} {L : List Sv} {k : Nat} (hk : k < L.length) (h : svP T.length L[k] = false) : dsB T L = false := by
  unfold dsB
  rw [List.all_eq_false]
  exact ⟨L[k], List.getElem_mem hk, by simp [h]⟩
theorem dsB_succ {T : List Dd} {L : List Sv} {k : Nat} (hk : k < L.length) (h1 : dsB T (L.take k) = true) (h : svP T.length L[k] = true) : dsB T (L.take (k + 1)) = true := by
  unfold dsB at *
  rw [take_snoc L k hk, List.all_append, h1]
  simp [h]
/-- a slice of the call's own that holds the deeds l, and a bool -/
def OwnDeeds2 (w : World) (l : List Dd) (b : Bool) (e : Ending) (w' : World) : Prop :=
  ∃ A c, e = .returned (.tuple #[.slice A l.length c, .bool b]) ∧ w'.ownsRow w.heap.size 54 3 (.slice A l.length c) l.length (cells3 l) ∧ Below w.heap.size w w'
theorem OwnDeeds2.mk_ {w w' : World} {l : List Dd} {b : Bool} {v : Value} (h : w'.ownsRow w.heap.size 54 3 v l.length (cells3 l)) (hb : Below w.heap.size w w') : OwnDeeds2 w l b (.returned (.tuple #[v, .bool b])) w' := by
  obtain ⟨A, c, rfl⟩ := own_form h
  exact ⟨A, c, rfl, h, hb⟩
theorem ownsRow_empty3 (w : World) (base : Nat) (hb : base ≤ w.heap.size) : (w.alloc (.cells #[] 54)).ownsRow base 54 3 (.slice (some ⟨w.heap.size, 0, none⟩) 0 0) ([] : List Dd).length (cells3 []) := ⟨rfl, .inr ⟨_, 0, #[], rfl, hb, heap_alloc_new w _, Nat.le_refl _, by unfold maxLen; omega, rfl, rfl⟩⟩
theorem cells3_one (d : Dd) : ∀ u ∈ cells3 [d], u.oneCell' = true := by
  intro u hu
  simp [cells3, encD] at hu
  rcases hu with rfl | rfl | rfl <;> rfl
theorem new_deed (w : World) (d : Dd) : Reads (w.alloc (.cells #[.string d.1, .int .i64 d.2.1, .int .i64 d.2.2] 54)) (w.alloc (.cells #[.string d.1, .int .i64 d.2.1, .int .i64 d.2.2] 54)).heap.size 3 (some ⟨w.heap.size, 0, none⟩) 1 (cells3 [d]) :=
  Blk.RD_ (l := [d]) (Blk.new w 54 _)
set_option maxHeartbeats 4000000 in
theorem sDeedsServed_any (A : Option Addr) (c : Nat) (T : List Dd) (A' : Option Addr) (c' : Nat) (L : List Sv) (w : World) (h : RD w w.heap.size A T) (h' : RS w w.heap.size A' L) (hn : T.length ≤ 1048576) (hn' : L.length ≤ 1048576) :
    Calls Try.prog 16 #[.slice A T.length c, .slice A' L.length c'] w (OwnDeeds2 w (dsL T L) (dsB T L)) := by
  obtain ⟨i0, hi, hz0, hz1, hz2⟩ := info_parts deed_info
  go_enter Try.func16, Try.ntmps16
  go_wp2_with fail
  go_loopw [7, 6] (fun i v wr => ∃ k : Nat, k ≤ L.length ∧ i = .int .i64 k ∧ dsB T (L.take k) = true ∧ wr.ownsRow w.heap.size 54 3 v k (cells3 ((L.take k).map (dsF T))) ∧ Below w.heap.size w wr) (fun i _ _ => L.length - (intOf i).toNat)
  case atStart => exact ⟨0, Nat.zero_le _, rfl, by simp [dsB], by simpa using ownsRow_empty3 w w.heap.size (Nat.le_refl _), (Below.refl _ _).alloc (Nat.le_refl _) _⟩
  case round =>
    obtain ⟨k, hk, rfl, hb0, ho, hbel⟩ := hrel
    have hs := hbel.size
    by_cases hlt : k < L.length
    · obtain ⟨ad, rfl, hb, c1, c2⟩ := (h'.below hbel).at_ hlt
      have Hs := Lib.hid (dsB_succ hlt hb0)
      have Hf := Lib.hid (dsB_no (T := T) hlt)
      have Hmap : Hid ((L.take (k + 1)).map (dsF T) = (L.take k).map (dsF T) ++ [dsF T L[k]]) := Lib.hid (by rw [take_snoc L k hlt, List.map_append]; rfl)
      obtain ⟨d, hd⟩ : ∃ d, L[k] = d := ⟨_, rfl⟩
      rw [hd] at c1 c2 Hs Hf Hmap
      obtain ⟨x, s⟩ := d
      simp only at c1 c2
      clear hd hb0 h'
      cases hp : inB x 0 ((T.length : Int) - 1)
      · have E1 : Hid (dsB T L = false) := Lib.hid (Hf.out hp)
        have E2 : Hid (dsL T L = []) := Lib.hid (by simp [dsL, E1.out])
        go_wp2_with (go_at_call 34; refine (l1In_any _ _ _ _).mono ?_; rintro e w' ⟨rfl, rfl⟩)
        go_ret2
        rw [E1.out, E2.out]
        exact OwnDeeds2.mk_ (l := []) (ownsRow_empty3 wr w.heap.size hs) (hbel.alloc hs _)
      · have hx := inB_true.1 hp
        have Hs2 := Lib.hid (Hs.out hp)
        obtain ⟨j, rfl⟩ : ∃ j : Nat, x = (j : Int) := ⟨x.toNat, by omega⟩
        have hj : j < T.length := by omega
        obtain ⟨adT, rfl, hbT, t1, t2, t3⟩ := (h.below hbel).at_ hj
        have Hd : Hid (dsF T ((j : Int), s) = T[j]) := Lib.hid (by
          unfold dsF
          rw [List.getD_eq_getElem?_getD, Int.toNat_natCast, List.getElem?_eq_getElem hj]
          rfl)
        obtain ⟨d, hd⟩ : ∃ d, T[j] = d := ⟨_, rfl⟩
        rw [hd] at t1 t2 t3 Hd
        obtain ⟨ds, da, db⟩ := d
        simp only at t1 t2 t3
        have Ho := Lib.hid ho
        have hown := ho
        clear hd hx h ho
        go_wp2_with (first | (go_at_call 34; refine (l1In_any _ _ _ _).mono ?_; rintro e w' ⟨rfl, rfl⟩) | (at_builtin; refine wpList_append_any _ rfl _ _ 25 rfl w.heap.size 54 i0 (.agg #[.string ByteArray.empty, .int .i64 0, .int .i64 0]) 3 32 Try.underlying25 hi hz0 hz1 hz2 rfl (by decide) u6 k _ rfl (hown.alloc _) _ (some ⟨wr.heap.size, 0, none⟩) 1 1 (cells3 [(ds, da, db)]) rfl (new_deed wr (ds, da, db)) (cells3_one (ds, da, db)) ?_ ?_ ?_ ?_; (unfold maxLen; omega); omega; (simp; omega); intro v' w3 hown' hgrow hloc))
        have hbel3 : Below w.heap.size w w3 := below_of_grown hbel hgrow hs (fun q hq => (Ho.out.lt q hq).1)
        refine ⟨⟨k + 1, by omega, by go_num, Hs2.out, ?_, hbel3⟩, by simp [intOf]; omega⟩
        rw [Hmap.out, Hd.out]
        unfold cells3 at hown' ⊢
        rw [List.flatMap_append]
        exact hown'
    · obtain rfl : k = L.length := by omega
      rw [List.take_length] at hb0 ho
      have E2 : Hid (dsL T L = L.map (dsF T)) := Lib.hid (by simp [dsL, hb0])
      have E1 := Lib.hid hb0
      obtain ⟨A2, c2, rfl⟩ := own_form ho
      have hlen : (L.map (dsF T)).length = L.length := List.length_map ..
      have Hlen := Lib.hid hlen
      clear hb0 h h' hlen
      go_wp2_with fail
      go_ret2
      rw [E1.out, E2.out]
      exact ⟨A2, c2, by rw [Hlen.out]; rfl, by rw [Hlen.out]; exact ho, hbel⟩
set_option maxHeartbeats 4000000 in
theorem iDeedsServed_any (A : Option Addr) (c : Nat) (T : List Dd) (A' : Option Addr) (c' : Nat) (L : List Sv) (w : World) (h : RD w w.heap.size A T) (h' : RS w w.heap.size A' L) (hn : T.length ≤ 1048576) (hn' : L.length ≤ 1048576) :
    Calls Try.prog 18 #[.slice A T.length c, .slice A' L.length c'] w (OwnDeeds2 w (dsL T L) (dsB T L)) := by
  obtain ⟨i0, hi, hz0, hz1, hz2⟩ := info_parts deed_info
  have hmk : ∀ W : World, ∃ cur : Array Value, cur.size = L.length * 3 ∧ (Instr.makeSlice 25 (.int .i64 0) (.int .i64 (L.length : Int))).run Try.prog W = .ok (.slice (some ⟨W.heap.size, 0, none⟩) 0 L.length) (W.alloc (.cells cur 54)) := fun W => by
    have hr := run_make (P := Try.prog) W 25 54 i0 _ Try.underlying25 hi hz0 .i64 .i64 0 L.length (by omega) (by omega) (by rw [hz2]; omega) (by omega)
    simp only [Int.toNat_natCast] at hr
    exact ⟨_, by rw [size_madeCells, hz1], hr⟩
  obtain ⟨cur, hcur, hmk⟩ := hmk w
  have Hcur := Lib.hid hcur
  clear hcur
  go_enter Try.func18, Try.ntmps18
  go_wp2_with fail
  go_loopw [14, 8, 6] (fun i _ v wr => ∃ k : Nat, k ≤ L.length ∧ i = .int .i64 k ∧ dsB T (L.take k) = true ∧ wr.ownsRow w.heap.size 54 3 v k (cells3 ((L.take k).map (dsF T))) ∧ Below w.heap.size w wr) (fun i _ _ _ => L.length - (intOf i).toNat)
  case atStart => exact ⟨0, Nat.zero_le _, rfl, by simp [dsB], by simpa [cells3] using World.ownsRow_made w cur L.length (Nat.le_refl _) (by unfold maxLen; omega) Hcur.out, (Below.refl _ _).alloc (Nat.le_refl _) _⟩
  case round =>
    obtain ⟨k, hk, rfl, hb0, ho, hbel⟩ := hrel
    have hs := hbel.size
    by_cases hlt : k < L.length
    · obtain ⟨ad, rfl, hb, c1, c2⟩ := (h'.below hbel).at_ hlt
      have Hs := Lib.hid (dsB_succ hlt hb0)
      have Hf := Lib.hid (dsB_no (T := T) hlt)
      have Hmap : Hid ((L.take (k + 1)).map (dsF T) = (L.take k).map (dsF T) ++ [dsF T L[k]]) := Lib.hid (by rw [take_snoc L k hlt, List.map_append]; rfl)
      obtain ⟨d, hd⟩ : ∃ d, L[k] = d := ⟨_, rfl⟩
      rw [hd] at c1 c2 Hs Hf Hmap
      obtain ⟨x, s⟩ := d
      simp only at c1 c2
      clear hd hb0 h' hmk
      have hbs := hbel.alloc hs (.cells #[.int .i64 x, .string s] 63)
      by_cases hx : 0 ≤ x ∧ x < T.length
      case neg =>
        have hp : inB x 0 ((T.length : Int) - 1) = false := inB_false.2 (by omega)
        have E1 : Hid (dsB T L = false) := Lib.hid (Hf.out hp)
        have E2 : Hid (dsL T L = []) := Lib.hid (by simp [dsL, E1.out])
        clear hp
        by_cases hx0 : x < 0
        · clear hx
          go_wp2_with fail
          go_ret2
          rw [E1.out, E2.out]
          exact OwnDeeds2.mk_ (l := []) (World.ownsRow_nil _ _ _ _) hbs
        · have hx1 : (T.length : Int) ≤ x := by omega
          clear hx
          go_wp2_with fail
          go_ret2
          rw [E1.out, E2.out]
          exact OwnDeeds2.mk_ (l := []) (World.ownsRow_nil _ _ _ _) hbs
      have Hs2 := Lib.hid (Hs.out (inB_true.2 (by omega)))
      obtain ⟨j, rfl⟩ : ∃ j : Nat, x = (j : Int) := ⟨x.toNat, by omega⟩
      have hj : j < T.length := by omega
      obtain ⟨adT, rfl, hbT, t1, t2, t3⟩ := (h.below hbel).at_ hj
      have Hd : Hid (dsF T ((j : Int), s) = T[j]) := Lib.hid (by
        unfold dsF
        rw [List.getD_eq_getElem?_getD, Int.toNat_natCast, List.getElem?_eq_getElem hj]
        rfl)
      obtain ⟨d, hd⟩ : ∃ d, T[j] = d := ⟨_, rfl⟩
      rw [hd] at t1 t2 t3 Hd
      obtain ⟨ds, da, db⟩ := d
      simp only at t1 t2 t3
      have Ho := Lib.hid ho
      have hown := ho.alloc (.cells #[.int .i64 (j : Int), .string s] 63)
      have hT0 : (adT.add (j * 3)).block < wr.heap.size := by rw [block_of_add]; omega
      have hnd := new_deed (wr.alloc (.cells #[.int .i64 (j : Int), .string s] 63)) (ds, da, db)
      rw [World.size_alloc wr (.cells #[.int .i64 (j : Int), .string s] 63)] at hnd
      clear hd hx h ho
      go_wp2_with (at_builtin; refine wpList_append_any _ rfl _ _ 25 rfl w.heap.size 54 i0 (.agg #[.string ByteArray.empty, .int .i64 0, .int .i64 0]) 3 32 Try.underlying25 hi hz0 hz1 hz2 rfl (by decide) u6 k _ rfl (hown.alloc _) _ (some ⟨wr.heap.size + 1, 0, none⟩) 1 1 (cells3 [(ds, da, db)]) rfl hnd (cells3_one (ds, da, db)) ?_ ?_ ?_ ?_; (unfold maxLen; omega); omega; (simp; omega); intro v' w3 hown' hgrow hloc)
      have hbel3 : Below w.heap.size w w3 := below_of_grown hbs hgrow (by simp; omega) (fun q hq => (Ho.out.lt q hq).1)
      refine ⟨⟨k + 1, by omega, by go_num, Hs2.out, ?_, hbel3⟩, by simp [intOf]; omega⟩
      rw [Hmap.out, Hd.out]
      unfold cells3 at hown' ⊢
      rw [List.flatMap_append]
      exact hown'
    · obtain rfl : k = L.length := by omega
      rw [List.take_length] at hb0 ho
      have E2 : Hid (dsL T L = L.map (dsF T)) := Lib.hid (by simp [dsL, hb0])
      have E1 := Lib.hid hb0
      obtain ⟨A2, c2, rfl⟩ := own_form ho
      have hlen : (L.map (dsF T)).length = L.length := List.length_map ..
      have Hlen := Lib.hid hlen
      clear hb0 h h' hlen hmk
      go_wp2_with fail
      go_ret2
      rw [E1.out, E2.out]
      exact ⟨A2, c2, by rw [Hlen.out]; rfl, by rw [Hlen.out]; exact ho, hbel⟩
end Go.Proofs.Ytpblpdoalfphpaa
