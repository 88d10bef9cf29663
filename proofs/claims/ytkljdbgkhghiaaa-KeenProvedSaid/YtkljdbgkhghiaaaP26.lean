/- The words of the laws: ranges, tests, links, the books of the examples, equal lists. The values of the examples. -/
import Derived.Test.YtkljdbgkhghiaaaP25
import Derived.Test.YtkljdbgkhghiaaaP14
import Derived.Deep.QuietTactic
import Derived.BigQuiet
set_option linter.all false
set_option linter.unnecessarySimpa false
set_option linter.unusedSimpArgs false
set_option linter.unusedVariables false
set_option linter.unusedSectionVars false

set_option linter.all false
namespace Go.Proofs.Ytkljdbgkhghiaaa
open Go.RowKit Kp

theorem rg_any (lo hi : Int) (w : World) :
    Calls Try.prog 51 #[.int .i64 lo, .int .i64 hi] w fun e w' => e = .returned (.agg #[.int .i64 lo, .int .i64 hi]) ∧ Below w.heap.size w w' := by
  have hb : Below w.heap.size w (w.alloc (.cells #[.int .i64 lo, .int .i64 hi] 36)) := Below.alloc (Below.refl _ _) (Nat.le_refl _) _
  go_enter Try.func51, Try.ntmps51
  go_wp2_with fail
  exact bodyPost_ret (v := .agg #[.int .i64 lo, .int .i64 hi]) (by simp [results, Try.results51, go_sem]) rfl ⟨rfl, hb⟩
theorem link_any (a b c : Int) (w : World) :
    Calls Try.prog 48 #[.int .i64 a, .int .i64 b, .int .i64 c] w fun e w' => e = .returned (klV ⟨a, b, c⟩) ∧ Below w.heap.size w w' := by
  have hb : Below w.heap.size w (w.alloc (.cells #[.int .i64 a, .int .i64 b, .int .i64 c] 44)) := Below.alloc (Below.refl _ _) (Nat.le_refl _) _
  go_enter Try.func48, Try.ntmps48
  go_wp2_with fail
  exact bodyPost_ret (v := .agg #[.int .i64 a, .int .i64 b, .int .i64 c]) (by simp [results, Try.results48, go_sem]) rfl ⟨rfl, hb⟩
theorem test_any (one two lo hi : Int) (w : World) :
    Calls Try.prog 49 #[.int .i64 one, .int .i64 two, .int .i64 lo, .int .i64 hi] w fun e w' => e = .returned (tV ⟨one, two, lo, hi⟩) ∧ Below w.heap.size w w' := by
  obtain ⟨n0, hn0⟩ : ∃ n, w.heap.size = n := ⟨_, rfl⟩
  have b0 : BK (w.alloc (.cells #[.int .i64 0, .int .i64 0, .int .i64 0, .int .i64 0] 56)) n0 #[.int .i64 0, .int .i64 0, .int .i64 0, .int .i64 0] 56 := BK.new' _ _ _ n0 hn0
  have hb : Below w.heap.size w (w.alloc (.cells #[.int .i64 0, .int .i64 0, .int .i64 0, .int .i64 0] 56)) := Below.alloc (Below.refl _ _) (Nat.le_refl _) _
  go_enter Try.func49, Try.ntmps49
  go_wp2_with fail
  generalize w.alloc (.cells #[.int .i64 0, .int .i64 0, .int .i64 0, .int .i64 0] 56) = W0 at *
  refine (rg_any lo hi _).mono ?_
  rintro e w1 ⟨rfl, hb1⟩
  have b1 := b0.below hb1 b0.lt
  have hb2 : Below w.heap.size w w1 := hb.trans (hb1.mono hb.size)
  have l0 := b1.lt
  have y0 := b1.cell 0
  have y1 := b1.cell 1
  have y2 := b1.cell 2
  have y3 := b1.cell 3
  simp at y0 y1 y2 y3
  have f0 := b1.frozen 0
  have f1 := b1.frozen 1
  have f2 := b1.frozen 2
  have f3 := b1.frozen 3
  have b2 := (((b1.set 0 (.int .i64 one)).set 1 (.int .i64 two)).set 2 (.int .i64 lo)).set 3 (.int .i64 hi)
  simp at b2
  have hb3 : Below w.heap.size w ((((w1.setCell ⟨n0, 0, none⟩ (.int .i64 one)).setCell ⟨n0, 1, none⟩ (.int .i64 two)).setCell ⟨n0, 2, none⟩ (.int .i64 lo)).setCell ⟨n0, 3, none⟩ (.int .i64 hi)) :=
    Below.setCell (Below.setCell (Below.setCell (Below.setCell hb2 (Nat.le_of_eq hn0) _) (Nat.le_of_eq hn0) _) (Nat.le_of_eq hn0) _) (Nat.le_of_eq hn0) _
  clear hb hb1 b0 b1 hb2
  go_wp2_with fail
  clear y0 y1 y2 y3
  have y0 := b2.cell 0
  have y1 := b2.cell 1
  have y2 := b2.cell 2
  have y3 := b2.cell 3
  simp at y0 y1 y2 y3
  exact bodyPost_ret (v := .agg #[.int .i64 one, .int .i64 two, .int .i64 lo, .int .i64 hi]) (by simp [results, Try.results49, go_sem, y0, y1, y2, y3]) rfl ⟨rfl, by first | exact hb3 | (rw [hn0] at hb3; exact hb3)⟩
theorem eq_of_nthI {a b : List Int} (h : a.length = b.length) (h2 : ∀ k, k < a.length → nthI a k = nthI b k) : a = b := by
  refine List.ext_getElem h fun i h3 h4 => ?_
  have := h2 i h3
  simpa [nthI, h3, h4] using this

set_option maxHeartbeats 2000000 in
theorem ints_any (a b : List Int) (va vb : Value) (w : World) (hl : a.length ≤ 1000) (hl2 : b.length ≤ 1000) (h : RI w w.heap.size va a) (h' : RI w w.heap.size vb b) :
    Calls Try.prog 38 #[va, vb] w fun e w' => e = .returned (.bool (decide (a = b))) ∧ Below w.heap.size w w' := by
  obtain ⟨A, cap, bb, off, rfl, hA, hc⟩ := h.cells
  obtain ⟨A', cap', bb', off', rfl, hA', hc'⟩ := h'.cells
  have HC := Lib.hid hc; have HC' := Lib.hid hc'; have HA := Lib.hid hA; have HA' := Lib.hid hA'
  clear hc hc' hA hA' h h'
  by_cases hlen : a.length = b.length
  · have hb0 : b.length = a.length := hlen.symm
    rw [hb0] at HC' HA' hl2 ⊢
    have HLEN := Lib.hid hlen
    clear hlen hb0
    have hne : ((a.length : Int) != (a.length : Int)) = false := by simp
    go_enter Try.func38, Try.ntmps38
    go_wp2_with fail
    go_loopw [5] (fun i wr => ∃ k : Nat, k ≤ a.length ∧ i = .int .i64 k ∧ Below w.heap.size w wr ∧ ∀ j, j < k → nthI a j = nthI b j) (fun i _ => a.length - (intOf i).toNat)
    case atStart => exact ⟨0, Nat.zero_le _, rfl, by exact bel_of, fun j hj => absurd hj (by omega)⟩
    case round =>
      obtain ⟨k, hk, rfl, hbw, hall⟩ := hrel
      have HALL := Lib.hid hall; clear hall
      have hsz := hbw.size
      by_cases hlt : k < a.length
      · obtain ⟨rfl, hb⟩ := HA.out (by omega)
        obtain ⟨rfl, hb'⟩ := HA'.out (by omega)
        have c0 := HC.out k hlt
        have c1 := HC'.out k (by omega)
        rw [← hbw.cell (by exact hb)] at c0
        rw [← hbw.cell (by exact hb')] at c1
        have hbr : bb < wr.heap.size := by omega
        have hbr' : bb' < wr.heap.size := by omega
        by_cases he : nthI a k = nthI b k
        · have d1 : (nthI a k != nthI b k) = false := by simpa using he
          have HE := Lib.hid he; clear he
          go_wp2_with fail
          go_quiet (fail)
          go_wp2_with fail
          go_roundw
          case rel => exact ⟨k + 1, by omega, by go_num, by exact bel_of, fun j hj => by
            rcases Nat.lt_succ_iff_lt_or_eq.1 hj with h | rfl
            · exact HALL.out j h
            · exact HE.out⟩
          case measure => simp [intOf]; omega
        · have d1 : (nthI a k != nthI b k) = true := by simpa using he
          have HE := Lib.hid (show a ≠ b by rintro rfl; exact he rfl); clear he
          go_wp2_with fail
          go_quiet (fail)
          go_wp2_with fail
          go_ret
          exact ⟨by rw [decide_eq_false HE.out]; rfl, by exact bel_of⟩
      · have HE := Lib.hid (eq_of_nthI HLEN.out fun j hj => HALL.out j (by omega))
        clear HALL
        go_wp2_with fail
        go_ret
        exact ⟨by rw [decide_eq_true HE.out]; rfl, by exact bel_of⟩
  · have hne : ((a.length : Int) != (b.length : Int)) = true := by simp; omega
    have HE := Lib.hid (show a ≠ b by rintro rfl; exact hlen rfl)
    go_enter Try.func38, Try.ntmps38
    go_wp2_with fail
    go_ret
    exact ⟨by rw [decide_eq_false HE.out]; rfl, by exact bel_of⟩

set_option maxHeartbeats 2000000 in
theorem longs_any (a b : List Int) (va vb : Value) (w : World) (hl : a.length ≤ 1000) (hl2 : b.length ≤ 1000) (h : RI w w.heap.size va a) (h' : RI w w.heap.size vb b) :
    Calls Try.prog 33 #[va, vb] w fun e w' => e = .returned (.bool (decide (a = b))) ∧ Below w.heap.size w w' := by
  obtain ⟨A, cap, bb, off, rfl, hA, hc⟩ := h.cells
  obtain ⟨A', cap', bb', off', rfl, hA', hc'⟩ := h'.cells
  have HC := Lib.hid hc; have HC' := Lib.hid hc'; have HA := Lib.hid hA; have HA' := Lib.hid hA'
  clear hc hc' hA hA' h h'
  by_cases hlen : a.length = b.length
  · have hb0 : b.length = a.length := hlen.symm
    rw [hb0] at HC' HA' hl2 ⊢
    have HLEN := Lib.hid hlen
    clear hlen hb0
    have hne : ((a.length : Int) != (a.length : Int)) = false := by simp
    go_enter Try.func33, Try.ntmps33
    go_wp2_with fail
    go_loopw [5] (fun i wr => ∃ k : Nat, k ≤ a.length ∧ i = .int .i64 k ∧ Below w.heap.size w wr ∧ ∀ j, j < k → nthI a j = nthI b j) (fun i _ => a.length - (intOf i).toNat)
    case atStart => exact ⟨0, Nat.zero_le _, rfl, by exact bel_of, fun j hj => absurd hj (by omega)⟩
    case round =>
      obtain ⟨k, hk, rfl, hbw, hall⟩ := hrel
      have HALL := Lib.hid hall; clear hall
      have hsz := hbw.size
      by_cases hlt : k < a.length
      · obtain ⟨rfl, hb⟩ := HA.out (by omega)
        obtain ⟨rfl, hb'⟩ := HA'.out (by omega)
        have c0 := HC.out k hlt
        have c1 := HC'.out k (by omega)
        rw [← hbw.cell (by exact hb)] at c0
        rw [← hbw.cell (by exact hb')] at c1
        have hbr : bb < wr.heap.size := by omega
        have hbr' : bb' < wr.heap.size := by omega
        by_cases he : nthI a k = nthI b k
        · have d1 : (nthI a k != nthI b k) = false := by simpa using he
          have HE := Lib.hid he; clear he
          go_wp2_with fail
          go_quiet (fail)
          go_wp2_with fail
          go_roundw
          case rel => exact ⟨k + 1, by omega, by go_num, by exact bel_of, fun j hj => by
            rcases Nat.lt_succ_iff_lt_or_eq.1 hj with h | rfl
            · exact HALL.out j h
            · exact HE.out⟩
          case measure => simp [intOf]; omega
        · have d1 : (nthI a k != nthI b k) = true := by simpa using he
          have HE := Lib.hid (show a ≠ b by rintro rfl; exact he rfl); clear he
          go_wp2_with fail
          go_quiet (fail)
          go_wp2_with fail
          go_ret
          exact ⟨by rw [decide_eq_false HE.out]; rfl, by exact bel_of⟩
      · have HE := Lib.hid (eq_of_nthI HLEN.out fun j hj => HALL.out j (by omega))
        clear HALL
        go_wp2_with fail
        go_ret
        exact ⟨by rw [decide_eq_true HE.out]; rfl, by exact bel_of⟩
  · have hne : ((a.length : Int) != (b.length : Int)) = true := by simp; omega
    have HE := Lib.hid (show a ≠ b by rintro rfl; exact hlen rfl)
    go_enter Try.func33, Try.ntmps33
    go_wp2_with fail
    go_ret
    exact ⟨by rw [decide_eq_false HE.out]; rfl, by exact bel_of⟩

def bookT : List Kt := [⟨0, 1, 10, 30⟩, ⟨1, 2, -5, 5⟩, ⟨0, 2, 20, 60⟩, ⟨3, 0, -20, -10⟩]
def wrongT : List Kt := bookT ++ [⟨2, 0, 5, 9⟩]
/-- A book of four edges. -/
def BookPost (l : List Kt) (w : World) (e : Ending) (w' : World) : Prop := ∃ v, e = .returned (.agg #[.int .i64 4, v]) ∧ OwnT w' w.heap.size v l ∧ Below w.heap.size w w'

set_option maxHeartbeats 8000000 in
set_option maxRecDepth 100000 in
theorem book_any (w : World) : Calls Try.prog 47 #[] w (BookPost bookT w) := by
  obtain ⟨n0, hn0⟩ : ∃ n, w.heap.size = n := ⟨_, rfl⟩
  have hC : Below n0 w w := Below.refl _ _
  go_enter Try.func47, Try.ntmps47
  go_wp2_with fail
  have hqrs : n0 ≤ n0 := by have := hC.size; omega
  have rs : BK (w.alloc (.cells #[.int .i64 0, .slice none 0 0] 24)) (n0) #[.int .i64 0, .slice none 0 0] 24 := BK.new' _ _ _ (n0) hn0
  have hsrs : (w.alloc (.cells #[.int .i64 0, .slice none 0 0] 24)).heap.size = n0 + 1 := by simp [hn0]
  replace hC : Below n0 w (w.alloc (.cells #[.int .i64 0, .slice none 0 0] 24)) := Below.alloc hC (by have := hC.size; omega) _
  generalize (w.alloc (.cells #[.int .i64 0, .slice none 0 0] 24)) = Wrs at *
  clear hsrs
  refine (test_any 0 1 10 30 _).mono ?_
  rintro e w1 ⟨rfl, hb⟩
  replace hC : Below n0 w w1 := hC.trans (hb.mono (by have := hC.size; omega))
  replace rs := rs.below hb rs.lt
  clear hb
  unfold tV
  go_wp2_with fail
  refine (test_any 1 2 (-5) 5 _).mono ?_
  rintro e w2 ⟨rfl, hb⟩
  replace hC : Below n0 w w2 := hC.trans (hb.mono (by have := hC.size; omega))
  replace rs := rs.below hb rs.lt
  clear hb
  unfold tV
  go_wp2_with fail
  refine (test_any 0 2 20 60 _).mono ?_
  rintro e w3 ⟨rfl, hb⟩
  replace hC : Below n0 w w3 := hC.trans (hb.mono (by have := hC.size; omega))
  replace rs := rs.below hb rs.lt
  clear hb
  unfold tV
  go_wp2_with fail
  refine (test_any 3 0 (-20) (-10) _).mono ?_
  rintro e w4 ⟨rfl, hb⟩
  replace hC : Below n0 w w4 := hC.trans (hb.mono (by have := hC.size; omega))
  replace rs := rs.below hb rs.lt
  clear hb
  unfold tV
  have lrs := rs.lt
  have rsc0 := rs.cell 0
  have rsc1 := rs.cell 1
  simp at rsc0 rsc1
  have rsf0 := rs.frozen 0
  have rsf1 := rs.frozen 1
  go_wp2_with fail
  obtain ⟨gt, hgt⟩ : ∃ n, w4.heap.size = n := ⟨_, rfl⟩
  rw [hgt]
  clear rsc0 rsc1 rsf0 rsf1
  have hq : n0 ≤ gt := by have := hC.size; omega
  have rs2 := (rs.set 0 (.int .i64 4)).set 1 (.slice (some ⟨gt, 0, none⟩) 4 4)
  simp at rs2
  have rs3 := rs2.alloc (.cells #[.int .i64 0, .int .i64 1, .int .i64 10, .int .i64 30, .int .i64 1, .int .i64 2, .int .i64 (-5), .int .i64 5, .int .i64 0, .int .i64 2, .int .i64 20, .int .i64 60, .int .i64 3, .int .i64 0, .int .i64 (-20), .int .i64 (-10)] 56)
  have hC2 : Below n0 w ((w4.setCell ⟨n0, 0, none⟩ (.int .i64 4)).setCell ⟨n0, 1, none⟩ (.slice (some ⟨gt, 0, none⟩) 4 4)) := Below.setCell (Below.setCell hC (Nat.le_refl _) _) (Nat.le_refl _) _
  have hz : ((w4.setCell ⟨n0, 0, none⟩ (.int .i64 4)).setCell ⟨n0, 1, none⟩ (.slice (some ⟨gt, 0, none⟩) 4 4)).heap.size = gt := by rw [setCell_size, setCell_size, hgt]
  generalize (w4.setCell ⟨n0, 0, none⟩ (.int .i64 4)).setCell ⟨n0, 1, none⟩ (.slice (some ⟨gt, 0, none⟩) 4 4) = W5 at *
  have hC3 : Below n0 w (W5.alloc (.cells #[.int .i64 0, .int .i64 1, .int .i64 10, .int .i64 30, .int .i64 1, .int .i64 2, .int .i64 (-5), .int .i64 5, .int .i64 0, .int .i64 2, .int .i64 20, .int .i64 60, .int .i64 3, .int .i64 0, .int .i64 (-20), .int .i64 (-10)] 56)) := Below.alloc hC2 (by omega) _
  have bT : BK (W5.alloc (.cells #[.int .i64 0, .int .i64 1, .int .i64 10, .int .i64 30, .int .i64 1, .int .i64 2, .int .i64 (-5), .int .i64 5, .int .i64 0, .int .i64 2, .int .i64 20, .int .i64 60, .int .i64 3, .int .i64 0, .int .i64 (-20), .int .i64 (-10)] 56)) gt #[.int .i64 0, .int .i64 1, .int .i64 10, .int .i64 30, .int .i64 1, .int .i64 2, .int .i64 (-5), .int .i64 5, .int .i64 0, .int .i64 2, .int .i64 20, .int .i64 60, .int .i64 3, .int .i64 0, .int .i64 (-20), .int .i64 (-10)] 56 := BK.new' _ _ _ gt hz
  have hT : OwnT (W5.alloc (.cells #[.int .i64 0, .int .i64 1, .int .i64 10, .int .i64 30, .int .i64 1, .int .i64 2, .int .i64 (-5), .int .i64 5, .int .i64 0, .int .i64 2, .int .i64 20, .int .i64 60, .int .i64 3, .int .i64 0, .int .i64 (-20), .int .i64 (-10)] 56)) n0 (.slice (some ⟨gt, 0, none⟩) 4 4) bookT := ⟨rfl, .inr ⟨gt, 4, _, rfl, hq, bT, by decide, by decide, rfl, rfl⟩⟩
  have z0 := rs3.cell 0
  have z1 := rs3.cell 1
  simp at z0 z1
  exact bodyPost_ret (v := .agg #[.int .i64 4, .slice (some ⟨gt, 0, none⟩) 4 4]) (by simp [results, Try.results47, go_sem, z0, z1]) rfl ⟨_, rfl, by first | exact hT | (rw [hn0]; exact hT), by first | exact hC3 | (rw [hn0]; exact hC3)⟩

set_option maxHeartbeats 8000000 in
set_option maxRecDepth 100000 in
theorem wrong_any (w : World) : Calls Try.prog 50 #[] w (BookPost wrongT w) := by
  obtain ⟨n0, hn0⟩ : ∃ n, w.heap.size = n := ⟨_, rfl⟩
  have hC : Below n0 w w := Below.refl _ _
  go_enter Try.func50, Try.ntmps50
  go_wp2_with fail
  have hqrs : n0 ≤ n0 := by have := hC.size; omega
  have rs : BK (w.alloc (.cells #[.int .i64 0, .slice none 0 0] 24)) (n0) #[.int .i64 0, .slice none 0 0] 24 := BK.new' _ _ _ (n0) hn0
  have hsrs : (w.alloc (.cells #[.int .i64 0, .slice none 0 0] 24)).heap.size = n0 + 1 := by simp [hn0]
  replace hC : Below n0 w (w.alloc (.cells #[.int .i64 0, .slice none 0 0] 24)) := Below.alloc hC (by have := hC.size; omega) _
  generalize (w.alloc (.cells #[.int .i64 0, .slice none 0 0] 24)) = Wrs at *
  have HZR := Lib.hid hsrs
  clear hsrs
  refine (book_any _).mono ?_
  rintro e w1 ⟨v, rfl, hT, hb⟩
  replace hC : Below n0 w w1 := hC.trans (hb.mono (by have := hC.size; omega))
  replace rs := rs.below hb rs.lt
  clear hb
  obtain ⟨A1, c1, rfl⟩ := own_slice hT
  have hl4 : bookT.length = 4 := rfl
  rw [hl4] at hT ⊢
  clear hl4
  go_upto_region 2 with fail
  obtain ⟨g1, hg1⟩ : ∃ n, w1.heap.size = n := ⟨_, rfl⟩
  have hq1 : n0 < g1 := by have := rs.lt; omega
  have bb : BK (w1.alloc (.cells #[.int .i64 4, .slice A1 4 c1] 24)) g1 #[.int .i64 4, .slice A1 4 c1] 24 := BK.new' _ _ _ g1 hg1
  have hbb : Below w1.heap.size w1 (w1.alloc (.cells #[.int .i64 4, .slice A1 4 c1] 24)) := Below.alloc (Below.refl _ _) (Nat.le_refl _) _
  replace rs := rs.below hbb rs.lt
  replace hT := OwnT.below hT hbb
  replace hC : Below n0 w _ := hC.trans (hbb.mono (by omega))
  have hzW := hbb.size
  try rw [hg1]
  generalize w1.alloc (.cells #[.int .i64 4, .slice A1 4 c1] 24) = W2 at *
  have hWr : Wrs.heap.size ≤ W2.heap.size := by have := rs.lt; have := HZR.out; omega
  clear hbb hzW hg1
  have lb := bb.lt
  have y0 := bb.cell 0
  have y1 := bb.cell 1
  simp at y0 y1
  refine wp_region_noPanic (plain_any [0, 1] (Below W2.heap.size W2) mixed ?_)
  (refine any_take 0 ?_ (by rfl) (by kernel_rfl) (fun _ _ _ _ _ hx => hx.elim) (.inl ⟨by rfl, ?_⟩) (by exact bel_of) ?_; rotate_left; (intro X hX; obtain ⟨r1, r2⟩ := Below.rules hX; clear hX; go_simp; rfl); simp only [List.getElem_toArray, List.getElem_cons_succ, List.getElem_cons_zero, Act.put, List.setIfInBounds_toArray, List.set_cons_succ, List.set_cons_zero])
  (refine any_take 1 ?_ (by rfl) (by kernel_rfl) (fun _ _ _ _ _ hx => hx.elim) (.inl ⟨by rfl, ?_⟩) (by exact bel_of) ?_; rotate_left; (intro X hX; obtain ⟨r1, r2⟩ := Below.rules hX; clear hX; go_simp; rfl); simp only [List.getElem_toArray, List.getElem_cons_succ, List.getElem_cons_zero, Act.put, List.setIfInBounds_toArray, List.set_cons_succ, List.set_cons_zero])
  have hd0 : Below W2.heap.size W2 W2.drew := Below.drew (Below.refl _ _)
  refine any_run1 (i := 2) (by kernel_rfl) (by rfl) (by kernel_rfl) ?_
  intro K3 hK3
  go_wp2_with fail
  refine (test_any 2 0 5 9 _).mono ?_
  rintro e V1 ⟨rfl, hb1⟩
  unfold tV
  have hb01 : Below W2.heap.size W2 V1 := hd0.trans hb1
  refine hK3 _ _ (fun _ => hb01) ?_
  clear hK3 K3 hb1
  refine any_run1 (i := 3) (by kernel_rfl) (by rfl) (by kernel_rfl) ?_
  intro K3 hK3
  go_wp2_with fail
  obtain ⟨gv, hgv⟩ : ∃ n, V1.heap.size = n := ⟨_, rfl⟩
  have bX : BK (V1.alloc (.cells #[.int .i64 2, .int .i64 0, .int .i64 5, .int .i64 9] 56)) gv #[.int .i64 2, .int .i64 0, .int .i64 5, .int .i64 9] 56 := BK.new' _ _ _ gv hgv
  have hbX : Below V1.heap.size V1 (V1.alloc (.cells #[.int .i64 2, .int .i64 0, .int .i64 5, .int .i64 9] 56)) := Below.alloc (Below.refl _ _) (Nat.le_refl _) _
  have hb0X := hb01.trans (hbX.mono hb01.size)
  refine hK3 _ _ (fun _ => hb0X) ?_
  clear hK3 K3
  try rw [hgv]
  obtain ⟨v', w9, hrun, hown', hbel, hs9, hkeep⟩ := app_b_kt (x := ⟨2, 0, 5, 9⟩) ((OwnT.below hT hb01).below hbX) bX (by decide) (by have := hb0X.size; omega)
  have bb9 := hkeep _ _ _ (bb.below hb0X bb.lt) (by decide)
  have rs9 := hkeep _ _ _ (rs.below hb0X rs.lt) (by decide)
  have hC9 : Below n0 w w9 := by
    have h1 : Below Wrs.heap.size W2 w9 := hbel W2 (hb0X.mono hWr)
    exact hC.trans (h1.mono (by have := HZR.out; omega))
  obtain ⟨A9, c9, rfl⟩ := own_slice hown'
  have hl5 : (bookT ++ [(⟨2, 0, 5, 9⟩ : Kt)]).length = 5 := rfl
  rw [hl5] at hrun hown'
  have HRUN := Lib.hid hrun
  have HO9 := Lib.hid hown'
  clear hgv hrun hown' hbel hkeep bX hb0X hbX hb01 hd0 y0 y1 lb hl5
  generalize V1.alloc (.cells #[.int .i64 2, .int .i64 0, .int .i64 5, .int .i64 9] 56) = VX at *
  refine any_run1 (i := 4) (by kernel_rfl) (by rfl) (by kernel_rfl) ?_
  intro K3 hK3
  refine wp_append_run (.tmp 4) (.tmp 6) 22 _ rfl HRUN.out ?_
  refine hK3 _ _ (fun hx => (Bool.false_ne_true (hx.symm.trans (by kernel_rfl))).elim) ?_
  clear hK3 K3
  simp only [List.getElem_toArray, List.getElem_cons_succ, List.getElem_cons_zero, Act.put, List.setIfInBounds_toArray, List.set_cons_succ, List.set_cons_zero]
  have lb := bb9.lt
  have y0 := bb9.cell 0
  have y1 := bb9.cell 1
  have f1 := bb9.frozen 1
  simp at y0 y1
  refine any_run1 (i := 5) (by kernel_rfl) (by rfl) (by kernel_rfl) ?_
  intro K3 hK3
  go_wp2_with fail
  refine hK3 _ _ (fun hx => (Bool.false_ne_true (hx.symm.trans (by kernel_rfl))).elim) ?_
  clear hK3 K3
  refine any_run1 (i := 6) (by kernel_rfl) (by rfl) (by kernel_rfl) ?_
  intro K3 hK3
  go_wp2_with fail
  refine hK3 _ _ (fun hx => (Bool.false_ne_true (hx.symm.trans (by kernel_rfl))).elim) ?_
  clear hK3 K3
  refine any_done (by kernel_rfl) (NoPanic.normal ?_)
  clear y0 y1 f1 lb
  have bA : BK (w9.setCell ⟨g1, 1, none⟩ (.slice A9 5 c9)) g1 #[.int .i64 4, .slice A9 5 c9] 24 := by simpa using bb9.set 1 (.slice A9 5 c9)
  have rA : BK (w9.setCell ⟨g1, 1, none⟩ (.slice A9 5 c9)) n0 #[.int .i64 0, .slice none 0 0] 24 := rs9.far (by show n0 ≠ g1; omega) _
  have hne : ∀ (g : Nat) (cs : Array Value), BK w9 g cs 24 → (Value.slice A9 5 c9).ownBlock ≠ some g := fun g cs hg hq => by
    obtain ⟨c, hc⟩ := own_block HO9.out hq
    unfold BK at hg
    rw [hg] at hc
    injection hc with hc
    injection hc with _ hc
    exact absurd hc (by decide)
  have oA : OwnT (w9.setCell ⟨g1, 1, none⟩ (.slice A9 5 c9)) Wrs.heap.size (.slice A9 5 c9) wrongT := own_far HO9.out (p := ⟨g1, 1, none⟩) (hne g1 _ bb9) _
  have oB : OwnT (((w9.setCell ⟨g1, 1, none⟩ (.slice A9 5 c9)).setCell ⟨n0, 0, none⟩ (.int .i64 4)).setCell ⟨n0, 1, none⟩ (.slice A9 5 c9)) n0 (.slice A9 5 c9) wrongT := own_more (own_far (own_far oA (p := ⟨n0, 0, none⟩) (hne n0 _ rs9) _) (p := ⟨n0, 1, none⟩) (hne n0 _ rs9) _) (by have := HZR.out; omega)
  have HOB := Lib.hid oB
  have hCA : Below n0 w (((w9.setCell ⟨g1, 1, none⟩ (.slice A9 5 c9)).setCell ⟨n0, 0, none⟩ (.int .i64 4)).setCell ⟨n0, 1, none⟩ (.slice A9 5 c9)) := Below.setCell (Below.setCell (Below.setCell hC9 (Nat.le_of_lt hq1) _) (Nat.le_refl _) _) (Nat.le_refl _) _
  clear oA oB hne
  generalize w9.setCell ⟨g1, 1, none⟩ (.slice A9 5 c9) = WA at *
  have rB := (rA.set 0 (.int .i64 4)).set 1 (.slice A9 5 c9)
  simp at rB
  have lb := bA.lt
  have y0 := bA.cell 0
  have y1 := bA.cell 1
  simp at y0 y1
  have lr := rA.lt
  have x0 := rA.cell 0
  have x1 := rA.cell 1
  simp at x0 x1
  have f0 := rA.frozen 0
  have f1 := rA.frozen 1
  go_wp2_with fail
  clear x0 x1 y0 y1
  have z0 := rB.cell 0
  have z1 := rB.cell 1
  simp at z0 z1
  exact bodyPost_ret (v := .agg #[.int .i64 4, .slice A9 5 c9]) (by simp [results, Try.results50, go_sem, z0, z1]) rfl ⟨_, rfl, by first | exact HOB.out | (rw [hn0]; exact HOB.out), by first | exact hCA | (rw [hn0]; exact hCA)⟩

end Go.Proofs.Ytkljdbgkhghiaaa

set_option linter.all false
namespace Go.Proofs.Ytkljdbgkhghiaaa
open Go.RowKit Kp
set_option maxRecDepth 100000
theorem ex_open0 : openE 4 bookT 0 = 0 := by kernel_rfl
theorem ex_span : spanE 4 bookT (0 : Int).toNat (1 : Int).toNat (openE 4 bookT (twoE 4 0 1)) = .tuple #[.agg #[.int .i64 15, .int .i64 30], .int .i64 0] := by kernel_rfl
theorem ex_least : listE leastP 4 bookT (openE 4 bookT 0) = [20, 0, 0, 0] := by kernel_rfl
theorem ex_sharp : spanE 4 bookT (3 : Int).toNat (4 : Int).toNat (openE 4 bookT (oneE 4 3)) = .tuple #[.agg #[.int .i64 0, .int .i64 990], .int .i64 0] := by kernel_rfl
theorem ex_chain1 : chainR 4 bookT [⟨2, 1, 1⟩, ⟨1, 0, 0⟩] = (35, 0) := by kernel_rfl
theorem ex_chain2 : chainR 4 bookT [⟨2, 1, 1⟩, ⟨0, 1, 0⟩] = (0, 16) := by kernel_rfl
theorem ex_may : listE mayP 4 bookT (openE 4 bookT 0) = [0] := by kernel_rfl
theorem ex_sure : listE sureP 4 bookT (openE 4 bookT 0) = [0] := by kernel_rfl
theorem ex_widest : widV 4 bookT (openE 4 bookT (oneEdge 4)) = .tuple #[.int .i64 1, .int .i64 3, .int .i64 0] := by kernel_rfl
theorem ex_tells : tellsV 4 bookT ⟨3, 2, 26, 30⟩ (openE 4 bookT (testE 4 ⟨3, 2, 26, 30⟩)) = .tuple #[.int .i64 2, .int .i64 0] := by kernel_rfl
theorem ex_circle : circleE 4 bookT = 5 := by kernel_rfl
theorem ex_circle2 : circleE 4 wrongT = 0 := by kernel_rfl
theorem ex_span2 : spanE 4 wrongT (0 : Int).toNat (1 : Int).toNat (openE 4 wrongT (twoE 4 0 1)) = .tuple #[.agg #[.int .i64 0, .int .i64 0], .int .i64 21] := by kernel_rfl
theorem ex_two : openE 4 bookT (twoE 4 0 2) = 0 := by kernel_rfl
theorem ex_D : D 4 bookT 2 0 = 35 := by kernel_rfl
theorem ex_reach : reachL 4 bookT 2 = [35, 5, 0, 25] := by kernel_rfl
theorem ex_truth : truthE 4 bookT [35, 5, 0, 25] = 0 := by kernel_rfl
theorem ex_book : bookE 4 wrongT = 0 := by kernel_rfl
/-- A circle is one for the reference. -/
theorem circ_circB {N : Nat} {ts : List Kt} {c : List Kl} (hb : bookE (N : Int) ts = 0) (h : Circ N ts c) (h0 : 0 ≤ (nthL c 0).src) : circB (N : Int) ts c = true := by
  obtain ⟨hne, hle, a, w, hw, ha, hc, hh, hl⟩ := h
  have hn0 : c.length ≠ 0 := fun h => hne (List.eq_nil_of_length_eq_zero h)
  have h1 : (nthL c 0).src = a := by rw [nthL_head ⟨0, 0, 0⟩ hne]; exact hh _
  have h2 : (nthL c (c.length - 1)).dst = a := by rw [nthL_last ⟨0, 0, 0⟩ hne]; exact hl _
  have hr : chainR (N : Int) ts c = (w, 0) := chainR_some hb (by omega) (by rw [h1]; exact hc)
  unfold circB
  rw [hr]
  exact decide_eq_true ⟨rfl, hw, h0, by rw [h1, h2]⟩
/-- Lists in a new block. -/
theorem rl_new {W : World} {g t : Nat} {cs : Array Value} (h : BK W g cs t) {l : List Kl} (hc : cs = (ofG encL l).toArray) (n : Nat) (hn : n = l.length) : RL W W.heap.size (.slice (some ⟨g, 0, none⟩) n n) l := by
  subst hc; subst hn
  exact ⟨_, _, g, 0, rfl, ⟨by rw [ofG_length encL_len], Nat.le_refl _⟩, fun _ => ⟨rfl, h.lt⟩, fun j hj => by rw [Nat.zero_add, h.cell, List.getElem?_toArray]⟩
theorem ri_new {W : World} {g t : Nat} {cs : Array Value} (h : BK W g cs t) {l : List Int} (hc : cs = (ofI l).toArray) (n : Nat) (hn : n = l.length) : RI W W.heap.size (.slice (some ⟨g, 0, none⟩) n n) l := by
  subst hc; subst hn
  exact ⟨_, _, g, 0, rfl, ⟨by rw [ofI_len]; omega, Nat.le_refl _⟩, fun _ => ⟨rfl, h.lt⟩, fun j hj => by rw [Nat.zero_add, h.cell, List.getElem?_toArray]⟩
end Go.Proofs.Ytkljdbgkhghiaaa
