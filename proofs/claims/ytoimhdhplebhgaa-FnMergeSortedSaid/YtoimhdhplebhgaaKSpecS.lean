/-
  The reference's MergeSorted.
-/
import Derived.Test.YtoimhdhplebhgaaKSpecA
import Derived.Test.YtoimhdhplebhgaaKSortC
namespace Go.Proofs.Ytoimhdhplebhgaa
open Go.RowKit
open Go.ConcN (upd upd_same upd_ne)
set_option linter.unusedSimpArgs false
set_option linter.unusedVariables false

/-- what is left of each list -/
def tl (M : List (List Int)) (P : List Nat) (i : Nat) : List Int := (M.getD i []).drop (P.getD i 0)
def lenOf : Value → Nat | .slice _ n _ => n | _ => 0
theorem step_append_any {P : Program} {ops : Array Oper} {o : Oper} {a : Act} {w : World} {K : Act → World → Prop} {Q : Exit → Act → World → Prop} {E : Prop} (hg : o.guard = none) (s x : Operand) (t : TypeId)
    (ho : o.op = .call { callee := .builtin .append, args := #[s, x], argTypes := #[t, t] })
    (base : Nat) (e : TypeId) (i : TypeInfo) (z : Value) (size bytes : Nat) (ht : P.underlying t = some (.slice e)) (hi : P.info? e = some i) (hz : i.zero = some z)
    (hsize : i.size = size) (hby : i.bytes = bytes) (hzs : z.cells.size = size) (hsz : 0 < size)
    (v : Value) (n : Nat) (xs : List Value) (hs : a.eval s = v) (hown : w.ownsRow base e size v n xs)
    (B : Nat) (A : Option Addr) (m c : Nat) (news : List Value) (hx : a.eval x = .slice A m c) (hr : Reads w B size A m news) (h1 : ∀ u ∈ news, u.oneCell' = true)
    (h63 : n + m ≤ maxLen) (hbytes : (n + m) * bytes ≤ 140737488355328) (hbase : base ≤ w.heap.size)
    (h : ∀ v' w', w'.ownsRow base e size v' (n + m) (xs ++ news) → w.grownBy w' v.ownBlock → (v'.ownBlock = v.ownBlock ∨ v'.ownBlock = some w.heap.size) → K (a.put o.dst v') w') : if Region.wanted o (yielded ops a.tmps) = true then o.wp P a w K Q else E := by
  have hw : Region.wanted o (yielded ops a.tmps) = true := by simp [Region.wanted, hg]
  rw [if_pos hw]
  exact wp_append_any w s x t ho base e i z size bytes ht hi hz hsize hby hzs hsz v n xs hs hown B A m c news hx hr h1 h63 hbytes hbase h
theorem tl_cons {M : List (List Int)} {P : List Nat} {j p : Nat} (hj : j < M.length) (hP : P[j]? = some p) (hp : p < M[j].length) : tl M P j = M[j][p] :: M[j].drop (p + 1) := by
  unfold tl
  rw [List.getD_eq_getElem?_getD, List.getD_eq_getElem?_getD, hP, List.getElem?_eq_getElem hj]
  exact List.drop_eq_getElem_cons hp
theorem tl_nil {M : List (List Int)} {P : List Nat} {j p : Nat} (hj : j < M.length) (hP : P[j]? = some p) (hp : M[j].length ≤ p) : tl M P j = [] := by
  unfold tl
  rw [List.getD_eq_getElem?_getD, List.getD_eq_getElem?_getD, hP, List.getElem?_eq_getElem hj]
  exact List.drop_eq_nil_of_le hp
theorem tl_set {M : List (List Int)} {P : List Nat} {b p : Nat} (hb : b < M.length) (hP : P[b]? = some p) : ∀ i, tl M (P.set b (p + 1)) i = upd (tl M P) b (M[b].drop (p + 1)) i := fun i => by
  have hbl : b < P.length := (List.getElem?_eq_some_iff.1 hP).1
  by_cases e : i = b
  · subst e
    rw [upd_same]
    unfold tl
    rw [List.getD_eq_getElem?_getD, List.getD_eq_getElem?_getD, List.getElem?_set_self hbl, List.getElem?_eq_getElem hb]
    rfl
  · rw [upd_ne _ _ e]
    unfold tl
    rw [List.getD_eq_getElem?_getD (l := P.set _ _), List.getElem?_set_ne (fun h => e h.symm), ← List.getD_eq_getElem?_getD]
/-- the least head so far -/
def Best (M : List (List Int)) (P : List Nat) (j : Nat) (b : Int) : Prop :=
  (b = -1 ∧ ∀ i, i < j → tl M P i = []) ∨ ∃ (b0 : Nat) (x : Int) (r : List Int), b = (b0 : Int) ∧ b0 < j ∧ tl M P b0 = x :: r ∧ ∀ i y s, i < j → tl M P i = y :: s → x ≤ y
theorem Best.none {M : List (List Int)} {P : List Nat} {j : Nat} {b : Int} (h : Best M P j b) (hn : tl M P j = []) : Best M P (j + 1) b := by
  rcases h with ⟨rfl, h⟩ | ⟨b0, x, r, rfl, hb, ht, hm⟩
  · exact .inl ⟨rfl, fun i hi => by
      by_cases e : i = j
      · rw [e]; exact hn
      · exact h i (by omega)⟩
  · exact .inr ⟨b0, x, r, rfl, by omega, ht, fun i y s hi hy => by
      by_cases e : i = j
      · rw [e, hn] at hy; cases hy
      · exact hm i y s (by omega) hy⟩
theorem Best.first {M : List (List Int)} {P : List Nat} {j : Nat} {y : Int} {r : List Int} (h : ∀ i, i < j → tl M P i = []) (hn : tl M P j = y :: r) : Best M P (j + 1) (j : Int) :=
  .inr ⟨j, y, r, rfl, by omega, hn, fun i z s hi hz => by
    by_cases e : i = j
    · rw [e, hn] at hz; injection hz with h1 _; omega
    · rw [h i (by omega)] at hz; cases hz⟩
theorem Best.less {M : List (List Int)} {P : List Nat} {j : Nat} {x y : Int} {r : List Int} (hm : ∀ i y s, i < j → tl M P i = y :: s → x ≤ y) (hn : tl M P j = y :: r) (hlt : y < x) : Best M P (j + 1) (j : Int) :=
  .inr ⟨j, y, r, rfl, by omega, hn, fun i z s hi hz => by
    by_cases e : i = j
    · rw [e, hn] at hz; injection hz with h1 _; omega
    · have := hm i z s (by omega) hz; omega⟩
theorem Best.more {M : List (List Int)} {P : List Nat} {j b0 : Nat} {x y : Int} {r r' : List Int} (hb : b0 < j) (ht : tl M P b0 = x :: r) (hm : ∀ i y s, i < j → tl M P i = y :: s → x ≤ y) (hn : tl M P j = y :: r') (hge : ¬ y < x) : Best M P (j + 1) (b0 : Int) :=
  .inr ⟨b0, x, r, rfl, by omega, ht, fun i z s hi hz => by
    by_cases e : i = j
    · rw [e, hn] at hz; injection hz with h1 _; omega
    · exact hm i z s (by omega) hz⟩
def nats (P : List Nat) : List Int := P.map fun (p : Nat) => (p : Int)
theorem nats_get {P : List Nat} {j p : Nat} (h : P[j]? = some p) : (ints (nats P))[j]? = some (.int .i64 (p : Int)) := by
  simp [ints, nats, h]
theorem nats_set (P : List Nat) (b p : Nat) : (ints (nats P)).set b (.int .i64 ((p : Int) + 1)) = ints (nats (P.set b (p + 1))) := by
  simp [ints, nats, List.map_set]
theorem len_own {w : World} {base n sz : Nat} {e : TypeId} {v : Value} {xs : List Value} (h : w.ownsRow base e sz v n xs) : lenOf v = n := by
  obtain ⟨A, c, rfl⟩ := own_form h
  rfl
theorem mem_take_snoc' {α : Type} {M : List α} {j : Nat} {x : α} (hj : j < M.length) (h : x ∈ M.take (j + 1)) : x ∈ M.take j ∨ x = M[j] := by
  rw [take_snoc M j hj] at h
  rcases List.mem_append.1 h with h1 | h1
  · exact .inl h1
  · exact .inr (List.mem_singleton.1 h1)
set_option maxRecDepth 100000 in
set_option maxHeartbeats 8000000 in
theorem sMergeSorted_any (A : Option Addr) (c : Nat) (M : List (List Int)) (V : List Value) (base : Nat) (w : World) (h : OII w base (.slice A M.length c) V M) (hn : M.length ≤ 1048576) (hn2 : ∀ l ∈ M, l.length ≤ 1048576) :
    Calls Try.prog 20 #[.slice A M.length c] w (OwnInts2 w (sL M) (sB M)) := by
  have hb1 : Below w.heap.size w (w.alloc (.cells #[] 3)) := (Below.refl _ _).alloc (Nat.le_refl _) _
  have hO := h.below hb1
  have hw1 := ownsRow_empty' w
  have hs1 : (w.alloc (.cells #[] 3)).heap.size = w.heap.size + 1 := alloc_size w _
  obtain ⟨i0, hi, hz0, hz1, hz2⟩ := info_parts int_info
  go_enter Try.func20, Try.ntmps20
  go_wp2_with fail
  generalize hW1 : w.alloc (.cells #[] 3) = w1 at hb1 hO hw1 hs1 ⊢
  clear hW1
  go_loopw [5] (fun i wr => ∃ k : Nat, k ≤ M.length ∧ i = .int .i64 k ∧ (∀ l ∈ M.take k, ascB l = true) ∧ ∃ q, wr = w1.drewN q) (fun i _ => M.length - (intOf i).toNat)
  case atStart => exact ⟨0, Nat.zero_le _, rfl, by simp, 0, rfl⟩
  case round =>
    obtain ⟨k, hk, rfl, hall, q, rfl⟩ := hrel
    by_cases hlt : k < M.length
    · obtain ⟨ad, A1, c1, rfl, hb, hc1, _, hr1⟩ := hO.at_ hlt
      have R1 := RI.drewN (RI.of_own hr1) q
      have hlen := hn2 M[k] (List.getElem_mem _)
      have hsort := l5Sorted_any A1 c1 M[k] _ _ R1 hlen
      have HA := Lib.hid (fun x (hx : x ∈ M.take (k + 1)) => mem_take_snoc' hlt hx)
      have Hall := Lib.hid hall
      clear hall R1 hr1
      cases hs : ascB M[k] with
      | false =>
        have HB := Lib.hid (sB_row (List.getElem_mem hlt) hs)
        rw [hs] at hsort
        obtain ⟨n, hnl⟩ : ∃ n, M[k].length = n := ⟨_, rfl⟩
        rw [hnl] at hc1 hsort hlen
        clear hs hnl hO hn2
        go_wp2_with fail
        refine hsort.mono ?_
        rintro e w' ⟨rfl, q2, rfl⟩
        clear hsort
        go_wp2_with fail
        go_ret2
        rw [show sL M = [] by simp [sL, HB.out], HB.out]
        exact OwnInts2.mk_ hw1 (below_drewN hb1 _)
      | true =>
        have HS := Lib.hid hs
        rw [hs] at hsort
        obtain ⟨n, hnl⟩ : ∃ n, M[k].length = n := ⟨_, rfl⟩
        rw [hnl] at hc1 hsort hlen
        clear hs hnl hO hn2
        go_wp2_with fail
        refine hsort.mono ?_
        rintro e w' ⟨rfl, q2, rfl⟩
        clear hsort
        go_wp2_with fail
        go_roundw
        case rel =>
          refine ⟨k + 1, by omega, by go_num, fun x hx => ?_, _, rfl⟩
          rcases HA.out x hx with h1 | h1
          · exact Hall.out x h1
          · rw [h1]; exact HS.out
        case measure => simp [intOf]; omega
    · obtain rfl : k = M.length := by omega
      rw [List.take_length] at hall
      have hlv := l5Lists_any A c M V base (w1.drewN q) (hO.drewN q) hn hn2
      have hbq := below_drewN hb1 q
      have hOq := hO.drewN q
      have hwq := own_drewN hw1 q
      have hsq : w.heap.size < (w1.drewN q).heap.size := by have e : (w1.drewN q).heap.size = w1.heap.size := rfl; omega
      generalize w1.drewN q = w2 at hlv hbq hOq hwq hsq ⊢
      clear hO hw1 hs1 hb1
      cases hv : listsB M
      · have HB := Lib.hid (sB_lists hv)
        rw [hv] at hlv
        clear hv hn2 hOq hall
        go_wp2_with fail
        refine hlv.mono ?_
        rintro e w' ⟨rfl, rfl⟩
        clear hlv
        go_wp2_with fail
        go_ret2
        rw [show sL M = [] by simp [sL, HB.out], HB.out]
        exact OwnInts2.mk_ hwq hbq
      · have HB := Lib.hid (sB_mk hv hall)
        obtain ⟨h6, h40⟩ := listsB_true hv
        have hmr := Lib.hid (Mrg.start hall)
        rw [hv] at hlv
        clear hv
        have hmk := fun W => run_makeN (P := Try.prog) 25 3 i0 _ Try.underlying25 hi hz0 hz1 rfl (by omega) M.length M.length (Nat.le_refl _) (by omega) W
        go_wp2_with fail
        refine hlv.mono ?_
        rintro e w' ⟨rfl, rfl⟩
        clear hlv hall
        go_wp2_with fail
        have hb3 := hbq.alloc hbq.size (Obj.cells (Array.replicate M.length (Value.int .i64 0)) 3)
        have hv3 : (w2.alloc (Obj.cells (Array.replicate M.length (Value.int .i64 0)) 3)).ownsRow w.heap.size 3 1 (.slice (some ⟨w.heap.size, 0, none⟩) 0 0) ([] : List Int).length (ints []) := World.ownsRow.alloc hwq _
        have hat : (w2.alloc (Obj.cells (Array.replicate M.length (Value.int .i64 0)) 3)).ownsRow w.heap.size 3 1 (.slice (some ⟨w2.heap.size, 0, none⟩) M.length M.length) M.length (ints (nats (List.replicate M.length 0))) := by
          have hrep : (ints (List.replicate M.length 0)).toArray = Array.replicate M.length (Value.int .i64 0) := by simp [ints]
          have h1 := ownsRow_blk (base := w.heap.size) (l := List.replicate M.length 0) (by rw [hrep]; exact Blk.new w2 3 _) hbq.size (by simp; omega)
          simpa [nats] using h1
        have hs3 : (w2.alloc (Obj.cells (Array.replicate M.length (Value.int .i64 0)) 3)).heap.size = w2.heap.size + 1 := alloc_size _ _
        generalize w2.alloc (Obj.cells (Array.replicate M.length (Value.int .i64 0)) 3) = w3 at hb3 hv3 hat hs3 ⊢
        obtain ⟨g, hg⟩ : ∃ g, w2.heap.size = g := ⟨_, rfl⟩
        rw [hg] at hat hs3 hsq ⊢
        have hgw : w.heap.size < g := by omega
        have hgs : g < w3.heap.size := by omega
        have hfl : M.flatten.length ≤ 240 := by
          have h1 := flatten_len_le h40
          have h2 : 40 * M.length ≤ 40 * 6 := Nat.mul_le_mul_left _ h6
          omega
        clear hg hsq hs3 hwq hOq hbq hmk hn2
        go_loopw [4] (fun v wr => ∃ (P : List Nat) (out : List Int), P.length = M.length ∧ wr.ownsRow w.heap.size 3 1 v out.length (ints out) ∧ wr.ownsRow w.heap.size 3 1 (.slice (some ⟨g, 0, none⟩) M.length M.length) M.length (ints (nats P)) ∧ (∀ b, v.ownBlock = some b → b ≠ g) ∧ Mrg M (tl M P) out ∧ Below w.heap.size w wr ∧ g < wr.heap.size) (fun v _ => 1000 - lenOf v)
        case atStart =>
          exact ⟨List.replicate M.length 0, [], by simp, hv3, hat, fun b hb => by simp [Value.ownBlock] at hb; omega, hmr.out.congr fun i hi => by simp [tl, List.getD_eq_getElem?_getD, hi], hb3, hgs⟩
        case round =>
          obtain ⟨P, out, hPl, hv, hat', hvg, hm, hbel, hsz⟩ := hrel
          clear hv3 hat hb3 hgs hmr
          have hOr := h.below hbel
          have hol := hm.len
          go_wp2_with fail
          go_loopw [7, 8] (fun bv iv wx => ∃ (j q : Nat) (b : Int), j ≤ M.length ∧ iv = .int .i64 j ∧ bv = .int .i64 b ∧ Best M P j b ∧ wx = wr.drewN q) (fun _ iv _ => M.length - (intOf iv).toNat)
          case atStart => exact ⟨0, 0, -1, Nat.zero_le _, rfl, rfl, .inl ⟨rfl, fun i hi => by omega⟩, rfl⟩
          case round =>
            obtain ⟨j, q, b, hj, rfl, rfl, hB, rfl⟩ := hrel
            by_cases hlt : j < M.length
            · obtain ⟨ad, A1, c1, rfl, hb, hc1, _, hr1⟩ := hOr.at_ hlt
              obtain ⟨p, hp⟩ : ∃ p, P[j]? = some p := ⟨P[j]'(by omega), List.getElem?_eq_getElem (by omega)⟩
              have hcj := (hat'.cellAt j (by omega)).trans (nats_get hp)
              have hji : (j : Int) < (M.length : Int) := by omega
              have hn40 := h40 M[j] (List.getElem_mem _)
              by_cases hpl : p < M[j].length
              · have htl := tl_cons hlt hp hpl
                obtain ⟨ar, rfl, hbr, hcr⟩ := (RI.of_own hr1).at_ hpl
                obtain ⟨y, hy⟩ : ∃ y, M[j][p] = y := ⟨_, rfl⟩
                rw [hy] at hcr htl
                obtain ⟨n, hnl⟩ : ∃ n, M[j].length = n := ⟨_, rfl⟩
                rw [hnl] at hc1 hpl hn40
                have hpn : (p : Int) < (n : Int) := by omega
                have hd1 : decide ((p : Int) < (n : Int)) = true := decide_eq_true hpn
                rcases hB with ⟨rfl, hall⟩ | ⟨b0, x, r, rfl, hb0, htb, hmin⟩
                · have HX := Lib.hid (Best.first hall htl)
                  clear hall htl hy hnl hr1 hp h40 hOr h hat' hv hvg hm
                  go_wp2
                  go_quiet (fail)
                  go_wp2
                  go_roundw
                  case rel => exact ⟨j + 1, _, (j : Int), by omega, by go_num, rfl, HX.out, rfl⟩
                  case measure => simp [intOf]; omega
                · have HT := Lib.hid htl
                  have HY := Lib.hid hy
                  have HN := Lib.hid hnl
                  clear htl hy hnl
                  have hb0l : b0 < M.length := by omega
                  obtain ⟨_, A2, c2, e2, _, hc2, _, hr2⟩ := hOr.at_ hb0l
                  injection e2 with e2; subst e2
                  obtain ⟨pb, hpb⟩ : ∃ pb, P[b0]? = some pb := ⟨P[b0]'(by omega), List.getElem?_eq_getElem (by omega)⟩
                  have hcb := (hat'.cellAt b0 (by omega)).trans (nats_get hpb)
                  have hpbl : pb < M[b0].length := Nat.lt_of_not_le fun hle => by rw [tl_nil hb0l hpb hle] at htb; cases htb
                  have htb' := tl_cons hb0l hpb hpbl
                  have hxe : M[b0][pb] = x := by rw [htb'] at htb; injection htb
                  have hre : M[b0].drop (pb + 1) = r := by rw [htb'] at htb; injection htb
                  obtain ⟨ar2, rfl, hbr2, hcr2⟩ := (RI.of_own hr2).at_ hpbl
                  rw [hxe] at hcr2
                  have hn240 := h40 M[b0] (List.getElem_mem _)
                  obtain ⟨n2, hnl2⟩ : ∃ n, M[b0].length = n := ⟨_, rfl⟩
                  rw [hnl2] at hc2 hpbl hn240
                  have hpbi : (pb : Int) < (n2 : Int) := by omega
                  have hb0i : (b0 : Int) < (M.length : Int) := by omega
                  have hd2 : decide ((b0 : Int) < 0) = false := decide_eq_false (by omega)
                  by_cases hyx : y < x
                  · have hd3 : decide (y < x) = true := decide_eq_true hyx
                    have HX := Lib.hid (Best.less hmin HT.out hyx)
                    clear hmin htb htb' hxe hre hnl2 hr1 hr2 hp hpb h40 hOr h hat' hv hvg hm
                    go_wp2
                    go_quiet (fail)
                    go_wp2
                    go_roundw
                    case rel => exact ⟨j + 1, _, (j : Int), by omega, by go_num, rfl, HX.out, rfl⟩
                    case measure => simp [intOf]; omega
                  · have hd3 : decide (y < x) = false := decide_eq_false hyx
                    have HX := Lib.hid (Best.more hb0 htb hmin HT.out hyx)
                    clear hmin htb htb' hxe hre hnl2 hr1 hr2 hp hpb h40 hOr h hat' hv hvg hm
                    go_wp2
                    go_quiet (fail)
                    go_wp2
                    go_roundw
                    case rel => exact ⟨j + 1, _, (b0 : Int), by omega, by go_num, rfl, HX.out, rfl⟩
                    case measure => simp [intOf]; omega
              · have htl := tl_nil hlt hp (by omega)
                have HX := Lib.hid (Best.none hB htl)
                obtain ⟨n, hnl⟩ : ∃ n, M[j].length = n := ⟨_, rfl⟩
                rw [hnl] at hc1 hpl hn40
                have hd1 : decide ((p : Int) < (n : Int)) = false := decide_eq_false (by omega)
                clear htl hB hnl hr1 hp h40 hOr h hat' hv hvg hm
                go_wp2
                go_quiet (fail)
                go_wp2
                go_roundw
                case rel => exact ⟨j + 1, _, b, by omega, by go_num, rfl, HX.out, rfl⟩
                case measure => simp [intOf]; omega
            · obtain rfl : j = M.length := by omega
              rcases hB with ⟨rfl, hall⟩ | ⟨b0, x, r, rfl, hb0, htb, hmin⟩
              · have HE : Hid (sL M = out) := Lib.hid (by simp [sL, HB.out, hm.done hall])
                clear hall hm hat' hOr h h40
                go_wp2
                go_ret2
                rw [HE.out, HB.out]
                exact OwnInts2.mk_ (own_drewN hv q) (below_drewN hbel q)
              · have HMin := Lib.hid hmin
                clear hmin
                have hb0l : b0 < M.length := by omega
                obtain ⟨ad2, A2, c2, rfl, _, hc2, _, hr2⟩ := hOr.at_ hb0l
                obtain ⟨pb, hpb⟩ : ∃ pb, P[b0]? = some pb := ⟨P[b0]'(by omega), List.getElem?_eq_getElem (by omega)⟩
                have hcb := (hat'.cellAt b0 (by omega)).trans (nats_get hpb)
                have hpbl : pb < M[b0].length := Nat.lt_of_not_le fun hle => by rw [tl_nil hb0l hpb hle] at htb; cases htb
                have htb' := tl_cons hb0l hpb hpbl
                have hxe : M[b0][pb] = x := by rw [htb'] at htb; injection htb
                have hre : M[b0].drop (pb + 1) = r := by rw [htb'] at htb; injection htb
                obtain ⟨ar2, rfl, hbr2, hcr2⟩ := (RI.of_own hr2).at_ hpbl
                rw [hxe] at hcr2
                have hn240 := h40 M[b0] (List.getElem_mem _)
                obtain ⟨n2, hnl2⟩ : ∃ n, M[b0].length = n := ⟨_, rfl⟩
                rw [hnl2] at hc2 hpbl hn240
                have hpbi : (pb : Int) < (n2 : Int) := by omega
                have hb0i : (b0 : Int) < (M.length : Int) := by omega
                have hd2 : decide ((b0 : Int) < 0) = false := decide_eq_false (by omega)
                have HH := Lib.hid htb
                have HR := Lib.hid hre
                have HP := Lib.hid hpb
                clear htb htb' hxe hre hnl2 hr2 hpb
                go_wp2_with fail
                go_region_law ((refine step_append_any rfl _ _ 25 rfl w.heap.size 3 i0 (.int .i64 0) 1 8 Try.underlying25 hi hz0 hz1 hz2 rfl (by decide) u4 out.length (ints out) (by simp [Act.eval, Act.put]) (World.ownsRow.alloc (show World.ownsRow _ _ _ _ _ _ _ from hv) _) _ (some ⟨wr.heap.size, 0, none⟩) 1 1 [.int .i64 x] (by simp [Act.eval, Act.put]) (Blk.reads (Blk.new _ _ _) rfl) (by intro u hu; obtain rfl := List.mem_singleton.1 hu; rfl) (by unfold maxLen; omega) (by omega) (by rw [alloc_size]; exact Nat.le_succ_of_le hbel.size) ?_; intro v' w4 hown' hgrow hloc))
                all_goals
                  have hat4 := own_mark (World.ownsRow.alloc (own_drewN hat' (q + 1)) _) hgrow (fun k hk e => hvg k e (by simp [Value.ownBlock] at hk; exact hk.symm))
                  have hc4 := (hat4.cellAt b0 (by omega)).trans (nats_get HP.out)
                  have hf4 := hat4.frozenAt b0
                  have hst := (hat4.stored b0 (.int .i64 ((pb : Int) + 1))).1
                  rw [nats_set] at hst
                  have hset : w4.grownBy (w4.setCell ⟨g, b0, none⟩ (.int .i64 ((pb : Int) + 1))) (some g) := only_setCell_ (World.grownBy.refl w4 (some g)) _ _
                  have hgsz : wr.heap.size + 1 ≤ w4.heap.size := by have := hgrow.size; rw [alloc_size] at this; exact this
                  have hvg' : ∀ b, v'.ownBlock = some b → b ≠ g := fun b hb => by
                    rcases hloc with e | e
                    · exact hvg b (e ▸ hb)
                    · have e2 : b = wr.heap.size + 1 := by
                        have h1 := Option.some.inj (hb.symm.trans e)
                        rw [alloc_size] at h1
                        exact h1
                      omega
                  have hown5 := own_mark hown' hset (fun k hk e => hvg' k hk (by injection e with e; exact e.symm))
                  have hb4 : Below w.heap.size w w4 := below_of_grown (below_drewN hbel _) hgrow hbel.size (fun k hk => (hv.lt k hk).1)
                  have hb5 := below_mark hb4 hset hb4.size (fun k hk => by injection hk with hk; omega)
                  have hm5 := (hm.step hb0l HH.out (fun i y s hi hy => HMin.out i y s hi hy)).congr (R' := tl M (P.set b0 (pb + 1))) (fun i _ => by rw [tl_set hb0l HP.out, HR.out])
                  have hl1 := len_own hv
                  have hl2 := len_own hown'
                  have Hst := Lib.hid hst
                  have Hpl := Lib.hid (And.intro hPl (And.intro hl1 hl2))
                  have H5 := Lib.hid (And.intro hown5 (And.intro hb5 (And.intro hm5 (And.intro hvg' (And.intro hset hol)))))
                  clear hst hset hvg' hown5 hb4 hb5 hm5 hl1 hl2 hPl hloc hgrow hown' hat' hat4 hv hvg hm hOr h h40 hc2 hcr2 hcb hol
                  go_wp2
                  go_roundw
                  case rel =>
                    obtain ⟨a1, a2, a3, a4, a5, a6⟩ := H5.out
                    exact ⟨P.set b0 (pb + 1), out ++ [x], by simp [Hpl.out.1], by simpa [ints] using a1, Hst.out, a4, a3, a2, Nat.lt_of_lt_of_le (by omega) a5.size⟩
                  case measure =>
                    obtain ⟨a1, a2, a3, a4, a5, a6⟩ := H5.out
                    obtain ⟨b1, b2, b3⟩ := Hpl.out
                    simp [b2, b3]
                    omega
end Go.Proofs.Ytoimhdhplebhgaa
