/- The words of the laws: ranges, kinks, ways, steps, recipes; equal lists. Equal lists of lists. Which ways of each step can have made a blade. The least question; what a question has to pass. Plain: there are few recipes, and each is short. -/
import Derived.Test.YtkibdciomheekaaP13
import Derived.Deep.QuietTactic
import Derived.BigQuiet
import Derived.Test.YtkibdciomheekaaP5
import Derived.Test.YtkibdciomheekaaP23
import Derived.Lib.SliceRun
import Derived.Test.YtkibdciomheekaaP21
set_option linter.all false
set_option linter.unnecessarySimpa false
set_option linter.unusedSimpArgs false
set_option linter.unusedVariables false
set_option linter.unusedSectionVars false

set_option linter.all false
namespace Go.Proofs.Ytkibdciomheekaa
open Go.RowKit Hp

theorem rg_any (lo hi : Int) (w : World) :
    Calls Try.prog 48 #[.int .i64 lo, .int .i64 hi] w fun e w' => e = .returned (.agg #[.int .i64 lo, .int .i64 hi]) ∧ Below w.heap.size w w' := by
  have hb : Below w.heap.size w (w.alloc (.cells #[.int .i64 lo, .int .i64 hi] 33)) := Below.alloc (Below.refl _ _) (Nat.le_refl _) _
  go_enter Try.func48, Try.ntmps48
  go_wp2_with fail
  exact bodyPost_ret (v := .agg #[.int .i64 lo, .int .i64 hi]) (by simp [results, Try.results48, go_sem]) rfl ⟨rfl, hb⟩
theorem long_any (n : Nat) (A : Option Addr) (c : Nat) (w : World) :
    Calls Try.prog 15 #[.agg #[.slice A n c]] w fun e w' => e = .returned (.bool (decide (20 < n))) ∧ Below w.heap.size w w' := by
  obtain ⟨n0, hn0⟩ : ∃ n, w.heap.size = n := ⟨_, rfl⟩
  have b0 : BK (w.alloc (.cells #[.slice A n c] 28)) n0 #[.slice A n c] 28 := BK.new' _ _ _ n0 hn0
  have hb : Below w.heap.size w (w.alloc (.cells #[.slice A n c] 28)) := Below.alloc (Below.refl _ _) (Nat.le_refl _) _
  go_enter Try.func15, Try.ntmps15
  go_upto_region 1 with fail
  generalize w.alloc (.cells #[.slice A n c] 28) = W0 at *
  have y0 := b0.cell 0
  simp at y0
  have l0 := b0.lt
  have q : decide ((20 : Int) < (n : Int)) = decide (20 < n) := decide_eq_decide.2 (by omega)
  have Q := Lib.hid q
  clear q
  go_wp2_with fail
  go_ret
  exact ⟨ret_bool Q.out, hb⟩
theorem kink_any (a b c : Int) (w : World) :
    Calls Try.prog 80 #[.int .i64 a, .int .i64 b, .int .i64 c] w fun e w' => e = .returned (.agg #[.int .i64 a, .int .i64 b, .int .i64 c]) ∧ Below w.heap.size w w' := by
  obtain ⟨n0, hn0⟩ : ∃ n, w.heap.size = n := ⟨_, rfl⟩
  have b0 : BK (w.alloc (.cells #[.int .i64 0, .int .i64 0, .int .i64 0] 92)) n0 #[.int .i64 0, .int .i64 0, .int .i64 0] 92 := BK.new' _ _ _ n0 hn0
  have hb : Below w.heap.size w (w.alloc (.cells #[.int .i64 0, .int .i64 0, .int .i64 0] 92)) := Below.alloc (Below.refl _ _) (Nat.le_refl _) _
  go_enter Try.func80, Try.ntmps80
  go_wp2_with fail
  generalize w.alloc (.cells #[.int .i64 0, .int .i64 0, .int .i64 0] 92) = W0 at *
  refine (rg_any b c _).mono ?_
  rintro e w1 ⟨rfl, hb1⟩
  have b1 := b0.below hb1 b0.lt
  have hb2 : Below w.heap.size w w1 := hb.trans (hb1.mono hb.size)
  have l0 := b1.lt
  have y0 := b1.cell 0
  have y1 := b1.cell 1
  have y2 := b1.cell 2
  simp at y0 y1 y2
  have f0 := b1.frozen 0
  have f1 := b1.frozen 1
  have f2 := b1.frozen 2
  have b2 := (((b1.set 0 (.int .i64 a)).set 1 (.int .i64 b)).set 2 (.int .i64 c))
  simp at b2
  have hb3 : Below w.heap.size w (((w1.setCell ⟨n0, 0, none⟩ (.int .i64 a)).setCell ⟨n0, 1, none⟩ (.int .i64 b)).setCell ⟨n0, 2, none⟩ (.int .i64 c)) := (Below.setCell (Below.setCell (Below.setCell hb2 (Nat.le_of_eq hn0) _) (Nat.le_of_eq hn0) _) (Nat.le_of_eq hn0) _)
  clear hb b0 hb1 b1 hb2
  go_wp2_with fail
  clear y0 y1 y2
  have y0 := b2.cell 0
  have y1 := b2.cell 1
  have y2 := b2.cell 2
  simp at y0 y1 y2
  exact bodyPost_ret (v := .agg #[.int .i64 a, .int .i64 b, .int .i64 c]) (by simp [results, Try.results80, go_sem, y0, y1, y2]) rfl ⟨rfl, by first | exact hb3 | (rw [hn0] at hb3; exact hb3)⟩
theorem way_any (A : Option Addr) (n c : Nat) (w : World) :
    Calls Try.prog 79 #[.slice A n c] w fun e w' => e = .returned (.agg #[.slice A n c]) ∧ Below w.heap.size w w' := by
  obtain ⟨n0, hn0⟩ : ∃ n, w.heap.size = n := ⟨_, rfl⟩
  have b0 : BK (w.alloc (.cells #[.slice none 0 0] 28)) n0 #[.slice none 0 0] 28 := BK.new' _ _ _ n0 hn0
  have hb : Below w.heap.size w (w.alloc (.cells #[.slice none 0 0] 28)) := Below.alloc (Below.refl _ _) (Nat.le_refl _) _
  go_enter Try.func79, Try.ntmps79
  go_upto_region 1 with fail
  generalize w.alloc (.cells #[.slice none 0 0] 28) = W0 at *
  have l0 := b0.lt
  have y0 := b0.cell 0
  simp at y0
  have f0 := b0.frozen 0
  have b2 := (b0.set 0 (.slice A n c))
  simp at b2
  have hb3 : Below w.heap.size w (W0.setCell ⟨n0, 0, none⟩ (.slice A n c)) := (Below.setCell hb (Nat.le_of_eq hn0) _)
  clear hb b0 
  go_wp2_with fail
  clear y0
  have y0 := b2.cell 0
  simp at y0
  exact bodyPost_ret (v := .agg #[.slice A n c]) (by simp [results, Try.results79, go_sem, y0]) rfl ⟨rfl, by first | exact hb3 | (rw [hn0] at hb3; exact hb3)⟩
theorem step_any (A : Option Addr) (n c : Nat) (w : World) :
    Calls Try.prog 78 #[.slice A n c] w fun e w' => e = .returned (.agg #[.slice A n c]) ∧ Below w.heap.size w w' := by
  obtain ⟨n0, hn0⟩ : ∃ n, w.heap.size = n := ⟨_, rfl⟩
  have b0 : BK (w.alloc (.cells #[.slice none 0 0] 88)) n0 #[.slice none 0 0] 88 := BK.new' _ _ _ n0 hn0
  have hb : Below w.heap.size w (w.alloc (.cells #[.slice none 0 0] 88)) := Below.alloc (Below.refl _ _) (Nat.le_refl _) _
  go_enter Try.func78, Try.ntmps78
  go_upto_region 1 with fail
  generalize w.alloc (.cells #[.slice none 0 0] 88) = W0 at *
  have l0 := b0.lt
  have y0 := b0.cell 0
  simp at y0
  have f0 := b0.frozen 0
  have b2 := (b0.set 0 (.slice A n c))
  simp at b2
  have hb3 : Below w.heap.size w (W0.setCell ⟨n0, 0, none⟩ (.slice A n c)) := (Below.setCell hb (Nat.le_of_eq hn0) _)
  clear hb b0 
  go_wp2_with fail
  clear y0
  have y0 := b2.cell 0
  simp at y0
  exact bodyPost_ret (v := .agg #[.slice A n c]) (by simp [results, Try.results78, go_sem, y0]) rfl ⟨rfl, by first | exact hb3 | (rw [hn0] at hb3; exact hb3)⟩
theorem recipe_any (b : Int) (A : Option Addr) (n c : Nat) (w : World) :
    Calls Try.prog 51 #[.int .i64 b, .slice A n c] w fun e w' => e = .returned (.agg #[.int .i64 b, .slice A n c]) ∧ Below w.heap.size w w' := by
  obtain ⟨n0, hn0⟩ : ∃ n, w.heap.size = n := ⟨_, rfl⟩
  have b0 : BK (w.alloc (.cells #[.int .i64 0, .slice none 0 0] 42)) n0 #[.int .i64 0, .slice none 0 0] 42 := BK.new' _ _ _ n0 hn0
  have hb : Below w.heap.size w (w.alloc (.cells #[.int .i64 0, .slice none 0 0] 42)) := Below.alloc (Below.refl _ _) (Nat.le_refl _) _
  go_enter Try.func51, Try.ntmps51
  go_upto_region 1 with fail
  generalize w.alloc (.cells #[.int .i64 0, .slice none 0 0] 42) = W0 at *
  have l0 := b0.lt
  have y0 := b0.cell 0
  have y1 := b0.cell 1
  simp at y0 y1
  have f0 := b0.frozen 0
  have f1 := b0.frozen 1
  have b2 := ((b0.set 0 (.int .i64 b)).set 1 (.slice A n c))
  simp at b2
  have hb3 : Below w.heap.size w ((W0.setCell ⟨n0, 0, none⟩ (.int .i64 b)).setCell ⟨n0, 1, none⟩ (.slice A n c)) := (Below.setCell (Below.setCell hb (Nat.le_of_eq hn0) _) (Nat.le_of_eq hn0) _)
  clear hb b0 
  go_wp2_with fail
  clear y0 y1
  have y0 := b2.cell 0
  have y1 := b2.cell 1
  simp at y0 y1
  exact bodyPost_ret (v := .agg #[.int .i64 b, .slice A n c]) (by simp [results, Try.results51, go_sem, y0, y1]) rfl ⟨rfl, by first | exact hb3 | (rw [hn0] at hb3; exact hb3)⟩
theorem eq_of_nthI {a b : List Int} (h : a.length = b.length) (h2 : ∀ k, k < a.length → nthI a k = nthI b k) : a = b := by
  refine List.ext_getElem h fun i h3 h4 => ?_
  have := h2 i h3
  simpa [nthI, h3, h4] using this

set_option maxHeartbeats 2000000 in
theorem ints_any (a b : List Int) (va vb : Value) (w : World) (hl : a.length ≤ 1000) (hl2 : b.length ≤ 1000) (h : RI w w.heap.size va a) (h' : RI w w.heap.size vb b) :
    Calls Try.prog 39 #[va, vb] w fun e w' => e = .returned (.bool (decide (a = b))) ∧ Below w.heap.size w w' := by
  obtain ⟨A, cap, bb, off, rfl, hA, hc⟩ := h.cells
  obtain ⟨A', cap', bb', off', rfl, hA', hc'⟩ := h'.cells
  have HC := Lib.hid hc; have HC' := Lib.hid hc'; have HA := Lib.hid hA; have HA' := Lib.hid hA'
  clear hc hc' hA hA' h h'
  by_cases hlen : a.length = b.length
  · have hb0 : b.length = a.length := hlen.symm
    rw [hb0] at HC' HA' hl2 ⊢
    have HLEN := Lib.hid hlen
    clear hlen hb0
    have hne : ((a.length : Int) != (a.length : Int)) = false := by simp
    go_enter Try.func39, Try.ntmps39
    go_wp2_with fail
    go_loopw [5] (fun i wr => ∃ k : Nat, k ≤ a.length ∧ i = .int .i64 k ∧ Below w.heap.size w wr ∧ ∀ j, j < k → nthI a j = nthI b j) (fun i _ => a.length - (intOf i).toNat)
    case atStart => exact ⟨0, Nat.zero_le _, rfl, by exact bel_of, fun j hj => absurd hj (by omega)⟩
    case round =>
      obtain ⟨k, hk, rfl, hbw, hall⟩ := hrel
      have HALL := Lib.hid hall; clear hall
      have hsz := hbw.size
      by_cases hlt : k < a.length
      · obtain ⟨rfl, hb⟩ := HA.out (by omega)
        obtain ⟨rfl, hb'⟩ := HA'.out (by omega)
        have c0 := HC.out k hlt
        have c1 := HC'.out k (by omega)
        rw [← hbw.cell (by exact hb)] at c0
        rw [← hbw.cell (by exact hb')] at c1
        have hbr : bb < wr.heap.size := by omega
        have hbr' : bb' < wr.heap.size := by omega
        by_cases he : nthI a k = nthI b k
        · have d1 : (nthI a k != nthI b k) = false := by simpa using he
          have HE := Lib.hid he; clear he
          go_wp2_with fail
          go_quiet (fail)
          go_wp2_with fail
          go_roundw
          case rel => exact ⟨k + 1, by omega, by go_num, by exact bel_of, fun j hj => by
            rcases Nat.lt_succ_iff_lt_or_eq.1 hj with h | rfl
            · exact HALL.out j h
            · exact HE.out⟩
          case measure => simp [intOf]; omega
        · have d1 : (nthI a k != nthI b k) = true := by simpa using he
          have HE := Lib.hid (show a ≠ b by rintro rfl; exact he rfl); clear he
          go_wp2_with fail
          go_quiet (fail)
          go_wp2_with fail
          go_ret
          exact ⟨by rw [decide_eq_false HE.out]; rfl, by exact bel_of⟩
      · have HE := Lib.hid (eq_of_nthI HLEN.out fun j hj => HALL.out j (by omega))
        clear HALL
        go_wp2_with fail
        go_ret
        exact ⟨by rw [decide_eq_true HE.out]; rfl, by exact bel_of⟩
  · have hne : ((a.length : Int) != (b.length : Int)) = true := by simp; omega
    have HE := Lib.hid (show a ≠ b by rintro rfl; exact hlen rfl)
    go_enter Try.func39, Try.ntmps39
    go_wp2_with fail
    go_ret
    exact ⟨by rw [decide_eq_false HE.out]; rfl, by exact bel_of⟩

set_option maxHeartbeats 2000000 in
theorem mem_any (l : List Int) (x : Int) (v : Value) (w : World) (hl : l.length ≤ 1000) (h : RI w w.heap.size v l) :
    Calls Try.prog 49 #[v, .int .i64 x] w fun e w' => e = .returned (.bool (decide (x ∈ l))) ∧ Below w.heap.size w w' := by
  obtain ⟨A, cap, bb, off, rfl, hA, hc⟩ := h.cells
  have HC := Lib.hid hc; have HA := Lib.hid hA
  clear hc hA h
  go_enter Try.func49, Try.ntmps49
  go_wp2_with fail
  go_loopw [5] (fun i wr => ∃ k : Nat, k ≤ l.length ∧ i = .int .i64 k ∧ Below w.heap.size w wr ∧ ∀ j, j < k → nthI l j ≠ x) (fun i _ => l.length - (intOf i).toNat)
  case atStart => exact ⟨0, Nat.zero_le _, rfl, Below.refl _ _, fun j hj => absurd hj (by omega)⟩
  case round =>
    obtain ⟨k, hk, rfl, hbw, hall⟩ := hrel
    have HALL := Lib.hid hall; clear hall
    by_cases hlt : k < l.length
    · obtain ⟨rfl, hb⟩ := HA.out (by omega)
      have c0 := HC.out k hlt
      rw [← hbw.cell (by exact hb)] at c0
      have hbr : bb < wr.heap.size := Nat.lt_of_lt_of_le hb hbw.size
      by_cases he : nthI l k = x
      · have d1 : (nthI l k == x) = true := by simpa using he
        have HE := Lib.hid (show decide (x ∈ l) = true from decide_eq_true (by
          rw [← he]; unfold nthI; rw [List.getD_eq_getElem?_getD, List.getElem?_eq_getElem hlt]; exact List.getElem_mem _))
        clear he
        go_wp2_with fail
        exact bodyPost_ret (v := .bool true) (by simp [results, Try.results49, go_sem]) rfl ⟨by rw [HE.out], by first | exact hbw | exact bel_of⟩
      · have d1 : (nthI l k == x) = false := by simpa using he
        have HE := Lib.hid he; clear he
        go_wp2_with fail
        go_roundw
        case rel => exact ⟨k + 1, by omega, by go_num, by first | exact hbw | exact bel_of, fun j hj => by
          rcases Nat.lt_succ_iff_lt_or_eq.1 hj with h | rfl
          · exact HALL.out j h
          · exact HE.out⟩
        case measure => simp [intOf]; omega
    · have HE := Lib.hid (show decide (x ∈ l) = false from decide_eq_false fun hm => by
        obtain ⟨j, hj, hjx⟩ := List.mem_iff_getElem.1 hm
        exact HALL.out j (by omega) (by unfold nthI; rw [List.getD_eq_getElem?_getD, List.getElem?_eq_getElem hj]; exact hjx))
      go_wp2_with fail
      exact bodyPost_ret (v := .bool false) (by simp [results, Try.results49, go_sem]) rfl ⟨by rw [HE.out], by first | exact hbw | exact bel_of⟩

end Go.Proofs.Ytkibdciomheekaa

set_option linter.all false
namespace Go.Proofs.Ytkibdciomheekaa
open Go.RowKit Hp

/-- A list of lists of numbers. -/
def RLi (w : World) (B : Nat) (v : Value) (l : List (List Int)) : Prop := RN RI w B v l
def nthLi (l : List (List Int)) (i : Nat) : List Int := l.getD i []
theorem nthLi_eq {l : List (List Int)} {i : Nat} (h : i < l.length) : nthLi l i = l[i] := by simp [nthLi, h]
theorem mem_nthLi {l : List (List Int)} {i : Nat} (h : i < l.length) : nthLi l i ∈ l := by rw [nthLi_eq h]; exact List.getElem_mem _
theorem RLi.cells {w : World} {B : Nat} {v : Value} {l : List (List Int)} (h : RLi w B v l) : ∃ A cap b off, v = .slice A l.length cap ∧ (l.length ≠ 0 → A = some ⟨b, off, none⟩ ∧ b < B) ∧ ∀ k, k < l.length → ∃ u, w.cell? ⟨b, off + k, none⟩ = some u ∧ RI w B u (nthLi l k) := by
  obtain ⟨A, cap, b, off, hv, hl, hA, hc⟩ := h
  exact ⟨A, cap, b, off, hv, hA, fun k hk => hc k (nthLi l k) (by rw [nthLi_eq hk, List.getElem?_eq_getElem hk])⟩
theorem eq_of_nthLi {a b : List (List Int)} (h : a.length = b.length) (h2 : ∀ k, k < a.length → nthLi a k = nthLi b k) : a = b := by
  refine List.ext_getElem h fun i h3 h4 => ?_
  have := h2 i h3
  simpa [nthLi, h3, h4] using this

set_option maxHeartbeats 2000000 in
theorem lists_any (a b : List (List Int)) (va vb : Value) (w : World) (hl : a.length ≤ 1000) (hl2 : b.length ≤ 1000) (hla : ∀ x ∈ a, x.length ≤ 1000) (hlb : ∀ x ∈ b, x.length ≤ 1000) (h : RLi w w.heap.size va a) (h' : RLi w w.heap.size vb b) :
    Calls Try.prog 40 #[va, vb] w fun e w' => e = .returned (.bool (decide (a = b))) ∧ Below w.heap.size w w' := by
  obtain ⟨A, cap, bb, off, rfl, hA, hc⟩ := h.cells
  obtain ⟨A', cap', bb', off', rfl, hA', hc'⟩ := h'.cells
  have HC := Lib.hid hc; have HC' := Lib.hid hc'; have HA := Lib.hid hA; have HA' := Lib.hid hA'
  clear hc hc' hA hA' h h'
  by_cases hlen : a.length = b.length
  · have hb0 : b.length = a.length := hlen.symm
    rw [hb0] at HC' HA' hl2 ⊢
    have HLEN := Lib.hid hlen
    clear hlen hb0
    have hne : ((a.length : Int) != (a.length : Int)) = false := by simp
    go_enter Try.func40, Try.ntmps40
    go_wp2_with fail
    go_loopw [5] (fun i wr => ∃ k : Nat, k ≤ a.length ∧ i = .int .i64 k ∧ Below w.heap.size w wr ∧ ∀ j, j < k → nthLi a j = nthLi b j) (fun i _ => a.length - (intOf i).toNat)
    case atStart => exact ⟨0, Nat.zero_le _, rfl, by exact bel_of, fun j hj => absurd hj (by omega)⟩
    case round =>
      obtain ⟨k, hk, rfl, hbw, hall⟩ := hrel
      have HALL := Lib.hid hall; clear hall
      have hsz := hbw.size
      by_cases hlt : k < a.length
      · obtain ⟨rfl, hb⟩ := HA.out (by omega)
        obtain ⟨rfl, hb'⟩ := HA'.out (by omega)
        obtain ⟨u, c0, hu⟩ := HC.out k hlt
        obtain ⟨u', c1, hu'⟩ := HC'.out k (by omega)
        rw [← hbw.cell (by exact hb)] at c0
        rw [← hbw.cell (by exact hb')] at c1
        replace hu := (RS.below hu hbw).more hbw.size
        replace hu' := (RS.below hu' hbw).more hbw.size
        have hbr : bb < wr.heap.size := by omega
        have hbr' : bb' < wr.heap.size := by omega
        have hx1 : (nthLi a k).length ≤ 1000 := hla _ (mem_nthLi hlt)
        have hx2 : (nthLi b k).length ≤ 1000 := hlb _ (mem_nthLi (by have := HLEN.out; omega))
        have HXN := Lib.hid (fun (h : a = b) => show nthLi a k = nthLi b k by rw [h])
        have HXE := Lib.hid (fun (h : nthLi a k = nthLi b k) => show ∀ j, j < k + 1 → nthLi a j = nthLi b j from fun j hj => by
          rcases Nat.lt_succ_iff_lt_or_eq.1 hj with h1 | rfl
          · exact HALL.out j h1
          · exact h)
        obtain ⟨x, hx⟩ : ∃ x, nthLi a k = x := ⟨_, rfl⟩
        obtain ⟨y, hy⟩ : ∃ x, nthLi b k = x := ⟨_, rfl⟩
        rw [hx] at hu hx1 HXN HXE
        rw [hy] at hu' hx2 HXN HXE
        clear hx hy
        have HU := Lib.hid hu
        have HU' := Lib.hid hu'
        have HX1 := Lib.hid hx1
        have HX2 := Lib.hid hx2
        obtain ⟨Au, cu, rfl⟩ : ∃ A c, u = .slice A x.length c := by
          obtain ⟨A, c, b, o, hv, _⟩ := hu
          exact ⟨A, c, hv⟩
        obtain ⟨Aw, cw, rfl⟩ : ∃ A c, u' = .slice A y.length c := by
          obtain ⟨A, c, b, o, hv, _⟩ := hu'
          exact ⟨A, c, hv⟩
        clear hu hu' hx1 hx2
        go_wp2_with fail
        refine wp_region_noPanic (plain_any [0, 1, 2, 3, 4, 5, 6, 7, 9] (Below wr.heap.size wr) mixed ?_)
        refine any_tk 0 ?_
        refine any_tk 1 ?_
        refine any_tk 2 ?_
        refine any_tk 3 ?_
        refine any_tk 4 ?_
        refine any_tk 5 ?_
        refine any_tk 6 ?_
        refine any_tk 7 ?_
        have hd0 : Below wr.heap.size wr wr.drew := Below.drew (Below.refl _ _)
        refine any_run1 (i := 8) (by kernel_rfl) (by rfl) (by kernel_rfl) ?_
        intro K3 hK3
        go_wp2_with fail
        refine (ints_any x y _ _ _ HX1.out HX2.out ((RS.below HU.out hd0).more hd0.size) ((RS.below HU'.out hd0).more hd0.size)).mono ?_
        rintro e V1 ⟨rfl, hb1⟩
        have hb01 : Below wr.heap.size wr V1 := hd0.trans hb1
        refine hK3 _ _ (fun _ => hb01) ?_
        clear hK3 K3 hb1
        refine any_tk 9 ?_
        refine any_done (by kernel_rfl) (NoPanic.normal ?_)
        have hbw2 := hbw.trans (hb01.mono hbw.size)
        clear c0 c1 hb01 hd0 hbr hbr'
        obtain ⟨q, hq⟩ : ∃ q, decide (x = y) = q := ⟨_, rfl⟩
        rw [hq]
        cases q
        case true =>
          have HE := Lib.hid (HXE.out (of_decide_eq_true hq))
          clear hq
          go_wp2_with fail
          go_roundw
          case rel => exact ⟨k + 1, by omega, by go_num, hbw2, HE.out⟩
          case measure => simp [intOf]; omega
        case false =>
          have HE := Lib.hid (show a ≠ b from fun h => (of_decide_eq_false hq) (HXN.out h))
          clear hq
          go_wp2_with fail
          go_ret
          exact ⟨by rw [decide_eq_false HE.out]; rfl, hbw2⟩
      · have HE := Lib.hid (eq_of_nthLi HLEN.out fun j hj => HALL.out j (by omega))
        clear HALL
        go_wp2_with fail
        go_ret
        exact ⟨by rw [decide_eq_true HE.out]; rfl, by exact bel_of⟩
  · have hne : ((a.length : Int) != (b.length : Int)) = true := by simp; omega
    have HE := Lib.hid (show a ≠ b by rintro rfl; exact hlen rfl)
    go_enter Try.func40, Try.ntmps40
    go_wp2_with fail
    go_ret
    exact ⟨by rw [decide_eq_false HE.out]; rfl, by exact bel_of⟩

end Go.Proofs.Ytkibdciomheekaa

set_option linter.all false
namespace Go.Proofs.Ytkibdciomheekaa
open Go.RowKit Hp

theorem li_info : (Try.prog.info? 40).map (fun i => (i.zero, i.size, i.bytes)) = some (some (.slice none 0 0), 1, 24) := by kernel_rfl
theorem li_slice : Try.prog.underlying 56 = some (.slice 40) := by kernel_rfl
/-- A list of lists that grows: each of them grew or was made behind the base. -/
def OwnLi (W : World) (base : Nat) (v : Value) (l : List (List Int)) : Prop := ∃ us : List Value, us.length = l.length ∧ W.ownsRow base 40 1 v l.length us ∧ ∀ (k : Nat) (x : List Int), l[k]? = some x → ∃ u, us[k]? = some u ∧ OwnI 3 W base u x
theorem OwnLi.nil (W : World) (base : Nat) : OwnLi W base (.slice none 0 0) [] := ⟨[], rfl, ⟨by simp, .inl ⟨rfl, rfl⟩⟩, fun k x hx => by simp at hx⟩
theorem OwnLi.below {W W' : World} {base : Nat} {v : Value} {l : List (List Int)} (h : OwnLi W base v l) (hb : Below W.heap.size W W') : OwnLi W' base v l := by
  obtain ⟨us, h1, h2, h3⟩ := h
  refine ⟨us, h1, own_below h2 hb, fun k x hx => ?_⟩
  obtain ⟨u, h4, h5⟩ := h3 k x hx
  exact ⟨u, h4, OwnI.below h5 hb⟩
theorem OwnLi.rli {W : World} {base : Nat} {v : Value} {l : List (List Int)} (h : OwnLi W base v l) : RLi W W.heap.size v l := by
  obtain ⟨us, h1, h2, h3⟩ := h
  obtain ⟨A, cap, b, off, hv, hl, hA, hc⟩ := RS.of_own h2
  refine ⟨A, cap, b, off, hv, hl.2, hA, fun k x hx => ?_⟩
  obtain ⟨u, h4, h5⟩ := h3 k x hx
  exact ⟨u, by rw [hc k (by rw [h1]; exact (List.getElem?_eq_some_iff.1 hx).1)]; exact h4, OwnI.ri h5⟩
theorem OwnLi.slice {W : World} {base : Nat} {v : Value} {l : List (List Int)} (h : OwnLi W base v l) : ∃ A c, v = .slice A l.length c := by
  obtain ⟨us, h1, h2, h3⟩ := h
  exact own_slice h2
theorem app_li {base : Nat} {w0 w1 : World} {l : List (List Int)} {v u : Value} {x : List Int} (hown : OwnLi w1 base v l) (hu : OwnI 3 w1 base u x) (hn : l.length ≤ 100000) (hbase : base ≤ w1.heap.size) (hbw : Below base w0 w1) (B : Nat) (hB : w1.heap.size = B) :
    ∃ v' w2, (Builtin.append_ #[56, 56] 56 #[v, .slice (some ⟨B, 0, none⟩) 1 1]).run Try.prog (w1.alloc (.cells #[u] 40)) = .ok v' w2 ∧
      OwnLi w2 base v' (l ++ [x]) ∧ Below base w0 w2 ∧ w1.heap.size ≤ w2.heap.size := by
  obtain ⟨us, e1, e2, e3⟩ := hown
  have ho : u.oneCell' = true := by
    obtain ⟨A, c, rfl⟩ := own_slice hu
    rfl
  obtain ⟨g', cap', w2, h1, h2, h3, h4, h5⟩ := app_t li_info li_slice rfl (by decide) (by decide) e2 (news := [u]) rfl (by simp [ho]) hn hbase hbw 56 40 B hB
  have hk : ∀ {y : List Int} {u' : Value}, OwnI 3 w1 base u' y → OwnI 3 w2 base u' y := fun h => own_keep h h5 (by decide)
  refine ⟨_, w2, h1, ⟨us ++ [u], by simp [e1], by rw [List.length_append]; exact h2, fun k y hy => ?_⟩, h3, h4⟩
  rcases Nat.lt_trichotomy k l.length with q | q | q
  · rw [List.getElem?_append_left q] at hy
    obtain ⟨u', q1, q2⟩ := e3 k y hy
    exact ⟨u', by rw [List.getElem?_append_left (by omega)]; exact q1, hk q2⟩
  · subst q
    simp at hy
    subst hy
    exact ⟨u, by rw [← e1]; simp, hk hu⟩
  · rw [List.getElem?_eq_none (by simp; omega)] at hy
    cases hy
theorem addr_add (b off j : Nat) : (⟨b, off, none⟩ : Addr).add j = ⟨b, off + j, none⟩ := by unfold Addr.add; split <;> simp_all
/-- A row of numbers that is made, and filled by a copy. -/
theorem make_int (n : Nat) (hn : n ≤ 2000) (W : World) :
    (Instr.makeSlice 40 (.int .i64 (n : Int)) (.int .i64 (n : Int))).run Try.prog W = .ok (.slice (some ⟨W.heap.size, 0, none⟩) n n) (W.alloc (.cells (madeCells #[.int .i64 0] n) 3)) := by
  obtain ⟨i, hi, hz, hs, hb⟩ := info_parts int_info
  have hr := run_make (P := Try.prog) W 40 3 i _ int_slice hi hz .i64 .i64 n n (by omega) (Int.le_refl _) (by rw [hb]; omega) (by omega)
  simp only [Int.toNat_natCast, hs, Nat.mul_one] at hr
  exact hr
theorem copy_int {W : World} {g n c c' : Nat} {A : Option Addr} {cur : Array Value} {l : List Int} (ty : TypeId) (hg : BK W g cur 3) (hc : cur.size = n) (hl : l.length = n)
    (hr : RI W W.heap.size (.slice A n c') l) :
    ∃ w', (Builtin.copy_ #[40, 40] ty #[.slice (some ⟨g, 0, none⟩) n c, .slice A n c']).run Try.prog W = .ok (goInt n) w' ∧ BK w' g (ofI l).toArray 3 ∧ W.heap.size ≤ w'.heap.size ∧ ∀ B w, B ≤ g → Below B w W → Below B w w' := by
  obtain ⟨i, hi, hz, hs, hb⟩ := info_parts int_info
  obtain ⟨A', cap, b, off, hv, hl2, hA, hcl⟩ := hr
  injection hv with q1 q2 q3
  subst q1 q3
  rcases Nat.eq_zero_or_pos n with h0 | h0
  · subst h0
    have hn : l = [] := List.eq_nil_of_length_eq_zero hl
    subst hn
    refine ⟨W, ?_, ?_, Nat.le_refl _, fun _ _ _ h => h⟩
    · cases A <;> simp [Builtin.copy_, run_underlying int_slice, Builtin.lenOf, Builtin.firstCells, sizeOf, typeInfo, hi, hs, loadCells, loadCellsFrom, storeCells, goInt]
    · have : cur = #[] := by simpa using hc
      subst this
      exact hg
  · obtain ⟨rfl, hbb⟩ := hA (by omega)
    have hlen : (ofI l).length = n := by rw [ofI_length, hl]
    have hld := run_loadCells_list (P := Try.prog) W ⟨b, off, none⟩ (ofI l) (fun j u hj => by
      have hjl : j < (ofI l).length := (List.getElem?_eq_some_iff.1 hj).1
      rw [addr_add, hcl j hjl, hj])
    have hst := run_storeCells_at Try.prog g 0 3 (ofI l) 0 cur W hg (by omega) (by
      intro u hu
      obtain ⟨x, _, rfl⟩ := List.mem_map.1 hu
      rfl)
    have hrow : (cur.toList.take (0 + 0) ++ ofI l ++ cur.toList.drop (0 + 0 + (ofI l).length)).toArray = (ofI l).toArray := by
      rw [List.drop_of_length_le (by simp; omega)]; simp
    rw [hrow] at hst
    refine ⟨W.setRow g (ofI l).toArray, ?_, ?_, by simp [World.setRow], ?_⟩
    · simp [Builtin.copy_, run_underlying int_slice, Builtin.lenOf, Builtin.firstCells, sizeOf, typeInfo, hi, hs, ← hlen, hld, hst]
    · unfold BK at hg ⊢
      simp [World.setRow, Array.getElem?_modify, hg]
    · intro B w hB hbw
      refine hbw.trans ⟨rfl, rfl, rfl, by simp [World.setRow], fun k hk => ?_⟩
      simp only [World.setRow, Array.getElem?_modify]
      rw [if_neg (by omega)]
theorem OwnI.of_bk {W : World} {base g : Nat} {l : List Int} (hg : BK W g (ofI l).toArray 3) (hb : base ≤ g) (hl : l.length ≤ 2000) : OwnI 3 W base (.slice (some ⟨g, 0, none⟩) l.length l.length) l :=
  ⟨by simp [ofI], .inr ⟨g, l.length, _, rfl, hb, hg, Nat.le_refl _, by unfold maxLen; omega, by simp [ofI], by show (ofI l).toArray.toList.take (l.length * 1) = ofI l; rw [List.take_of_length_le (by simp [ofI])]⟩⟩

theorem someV_len {bars : List Rg} {ss : List Stp} (h : OkV bars ss) (m : Rg) {i : Nat} (hi : i < ss.length) : (someV bars m ss (i : Int)).length ≤ 5 := by
  unfold someV
  split
  · simp
  · rw [if_neg (by omega), List.length_map]
    unfold someW
    refine Nat.le_trans (List.length_filter_le _ _) ?_
    rw [List.length_range]
    exact (h.wpos _ (nthS_mem (by simpa using hi))).2
/-- Which ways of the first n steps. -/
def wysL (bars : List Rg) (m : Rg) (ss : List Stp) (n : Nat) : List (List Int) := (List.range n).map fun (i : Nat) => someV bars m ss (i : Int)
theorem wysL_succ (bars : List Rg) (m : Rg) (ss : List Stp) (n : Nat) : wysL bars m ss (n + 1) = wysL bars m ss n ++ [someV bars m ss (n : Int)] := by
  unfold wysL
  rw [List.range_succ, List.map_append]
  rfl
theorem wysL_len (bars : List Rg) (m : Rg) (ss : List Stp) (n : Nat) : (wysL bars m ss n).length = n := by simp [wysL]
/-- What the question of the ways answers. -/
def WaysPost (bars : List Rg) (ss : List Stp) (m : Rg) (w : World) (e : Ending) (w' : World) : Prop :=
  ∃ v, e = .returned (.tuple #[v, .int .i64 (barsE bars ss m)]) ∧ RLi w' w'.heap.size v (if barsE bars ss m = 0 then wysL bars m ss ss.length else []) ∧ Below w.heap.size w w'
theorem rli_nil (w : World) (B : Nat) : RLi w B (.slice none 0 0) [] := ⟨none, 0, 0, 0, rfl, Nat.le_refl _, fun h => absurd rfl h, fun k x hx => by simp at hx⟩
theorem WaysPost.no {bars : List Rg} {ss : List Stp} {m : Rg} {w w' : World} {e : Int} (h : measE bars ss m = e) (h0 : e ≠ 0) (hb : Below w.heap.size w w') : WaysPost bars ss m w (.returned (.tuple #[.slice none 0 0, .int .i64 e])) w' := by
  have h1 : barsE bars ss m = e := by unfold barsE; rw [h, if_pos h0]
  exact ⟨_, by rw [h1], by rw [h1, if_neg h0]; exact rli_nil _ _, hb⟩
theorem WaysPost.soft {bars : List Rg} {ss : List Stp} {m : Rg} {w w' : World} (h : measE bars ss m = 0) (h0 : someV bars m ss (-1) = []) (hb : Below w.heap.size w w') : WaysPost bars ss m w (.returned (.tuple #[.slice none 0 0, .int .i64 17])) w' := by
  have h1 : barsE bars ss m = 17 := by unfold barsE; rw [h, if_neg (by simp), if_pos h0]
  exact ⟨_, by rw [h1], by rw [h1, if_neg (by decide)]; exact rli_nil _ _, hb⟩
theorem WaysPost.yes {bars : List Rg} {ss : List Stp} {m : Rg} {w w' : World} {v : Value} (h : measE bars ss m = 0) (h0 : someV bars m ss (-1) ≠ []) (hv : RLi w' w'.heap.size v (wysL bars m ss ss.length)) (hb : Below w.heap.size w w') : WaysPost bars ss m w (.returned (.tuple #[v, .int .i64 0])) w' := by
  have h1 : barsE bars ss m = 0 := by unfold barsE; rw [h, if_neg (by simp), if_neg h0]
  exact ⟨_, by rw [h1], by rw [h1, if_pos rfl]; exact hv, hb⟩

set_option maxHeartbeats 8000000 in
set_option maxRecDepth 100000 in
theorem waysF_any (bars : List Rg) (ss : List Stp) (m : Rg) (vb vs : Value) (w : World) (hf : Fit bars ss) (hB : RR w w.heap.size vb bars) (hS : RP w w.heap.size vs ss) :
    Calls Try.prog 35 #[.agg #[vb, vs], rV m] w (WaysPost bars ss m w) := by
  have HF := Lib.hid hf
  clear hf
  obtain ⟨Ab, cb, rfl⟩ := hB.slice
  obtain ⟨As, cs, rfl⟩ := hS.slice
  obtain ⟨mlo, mhi⟩ := m
  unfold rV
  obtain ⟨n0, hn0⟩ : ∃ n, w.heap.size = n := ⟨_, rfl⟩
  have hC : Below n0 w w := Below.refl _ _
  go_enter Try.func35, Try.ntmps35
  go_upto_region 1 with fail
  have hqbx : n0 ≤ n0 := by have := hC.size; omega
  have bx : BK (w.alloc (.cells #[.slice Ab bars.length cb, .slice As ss.length cs] 25)) (n0) #[.slice Ab bars.length cb, .slice As ss.length cs] 25 := BK.new' _ _ _ (n0) hn0
  have hsbx : (w.alloc (.cells #[.slice Ab bars.length cb, .slice As ss.length cs] 25)).heap.size = n0 + 1 := by simp [hn0]
  replace hC : Below n0 w (w.alloc (.cells #[.slice Ab bars.length cb, .slice As ss.length cs] 25)) := Below.alloc hC (by have := hC.size; omega) _
  replace hB := (RS.below hB (w' := (w.alloc (.cells #[.slice Ab bars.length cb, .slice As ss.length cs] 25))) (Below.alloc (Below.refl _ _) (Nat.le_refl _) _)).more (B' := (w.alloc (.cells #[.slice Ab bars.length cb, .slice As ss.length cs] 25)).heap.size) (by simp)
  replace hS := (RP.below hS (w' := (w.alloc (.cells #[.slice Ab bars.length cb, .slice As ss.length cs] 25))) (Below.alloc (Below.refl _ _) (Nat.le_refl _) _)).more (B' := (w.alloc (.cells #[.slice Ab bars.length cb, .slice As ss.length cs] 25)).heap.size) (by simp)
  generalize (w.alloc (.cells #[.slice Ab bars.length cb, .slice As ss.length cs] 25)) = Wbx at *
  have hqmx : n0 ≤ n0 + 1 := by have := hC.size; omega
  have mx : BK (Wbx.alloc (.cells #[.int .i64 mlo, .int .i64 mhi] 33)) (n0 + 1) #[.int .i64 mlo, .int .i64 mhi] 33 := BK.new' _ _ _ (n0 + 1) hsbx
  have hsmx : (Wbx.alloc (.cells #[.int .i64 mlo, .int .i64 mhi] 33)).heap.size = n0 + 1 + 1 := by simp [hsbx]
  replace hC : Below n0 w (Wbx.alloc (.cells #[.int .i64 mlo, .int .i64 mhi] 33)) := Below.alloc hC (by have := hC.size; omega) _
  replace hB := (RS.below hB (w' := (Wbx.alloc (.cells #[.int .i64 mlo, .int .i64 mhi] 33))) (Below.alloc (Below.refl _ _) (Nat.le_refl _) _)).more (B' := (Wbx.alloc (.cells #[.int .i64 mlo, .int .i64 mhi] 33)).heap.size) (by simp)
  replace hS := (RP.below hS (w' := (Wbx.alloc (.cells #[.int .i64 mlo, .int .i64 mhi] 33))) (Below.alloc (Below.refl _ _) (Nat.le_refl _) _)).more (B' := (Wbx.alloc (.cells #[.int .i64 mlo, .int .i64 mhi] 33)).heap.size) (by simp)
  replace bx := bx.alloc (.cells #[.int .i64 mlo, .int .i64 mhi] 33)
  generalize (Wbx.alloc (.cells #[.int .i64 mlo, .int .i64 mhi] 33)) = Wmx at *
  clear hsbx
  have lbx := bx.lt
  have bxc0 := bx.cell 0
  have bxc1 := bx.cell 1
  simp at bxc0 bxc1
  have lmx := mx.lt
  have mxc0 := mx.cell 0
  have mxc1 := mx.cell 1
  simp at mxc0 mxc1
  go_wp2_with fail
  clear lbx bxc0 bxc1
  clear lmx mxc0 mxc1
  clear hsmx
  refine (madeT_any bars ss ⟨mlo, mhi⟩ _ _ _ HF.out hB hS).mono ?_
  rintro e w1 ⟨p, rfl, hp, hb⟩
  replace hC : Below n0 w w1 := hC.trans (hb.mono (by have := hC.size; omega))
  replace hB := (RS.below hB hb).more hb.size
  replace hS := (RP.below hS hb).more hb.size
  replace bx := bx.below hb bx.lt
  replace mx := mx.below hb mx.lt
  clear hb
  obtain ⟨e, he⟩ : ∃ e, measE bars ss ⟨mlo, mhi⟩ = e := ⟨_, rfl⟩
  rw [he] at hp ⊢
  by_cases e0 : e = 0
  case neg =>
    have b1 : (e != 0) = true := by simp [e0]
    have HE := Lib.hid he
    have E0 := Lib.hid e0
    clear he e0 hp
    go_wp2_with fail
    go_ret2
    exact (WaysPost.no HE.out E0.out (by (try rw [hn0]); exact hC))
  subst e0
  obtain ⟨hV, hm, g, rfl, hT⟩ := hp rfl
  have HV := Lib.hid hV
  have HM := Lib.hid hm
  have HE := Lib.hid he
  clear hp hV hm he
  go_wp2_with fail
  refine (someN_any g _ _ ⟨mlo, mhi⟩ bars ss _ hT HV.out).mono ?_
  rintro e w2 ⟨v, rfl, hv, hb⟩
  replace hC : Below n0 w w2 := hC.trans (hb.mono (by have := hC.size; omega))
  replace hB := (RS.below hB hb).more hb.size
  replace hS := (RP.below hS hb).more hb.size
  replace bx := bx.below hb bx.lt
  replace mx := mx.below hb mx.lt
  replace hT := TreeM.next hT hb
  clear hb
  obtain ⟨l, hl⟩ : ∃ l, someV bars ⟨mlo, mhi⟩ ss (-1) = l := ⟨_, rfl⟩
  rw [hl] at hv
  have HL := Lib.hid hl
  obtain ⟨Av, cv, rfl⟩ : ∃ A c, v = .slice A l.length c := by
    obtain ⟨A, c, b, o, hv, _⟩ := hv
    exact ⟨A, c, hv⟩
  clear hv hl
  by_cases a1 : l.length = 0
  case pos =>
    have A1 := Lib.hid a1
    have b1 : ((l.length : Int) == 0) = true := by simp [a1]
    clear a1
    go_wp2_with fail
    go_ret2
    exact (WaysPost.soft HE.out (by rw [HL.out]; exact List.length_eq_zero_iff.1 A1.out) (by (try rw [hn0]); exact hC))
  have HS : Hid (someV bars ⟨mlo, mhi⟩ ss (-1) ≠ []) := Lib.hid (by rw [HL.out]; exact fun q => a1 (by rw [q]; rfl))
  have b1 : ((l.length : Int) == 0) = false := by simpa using a1
  clear a1 HL
  have lbx := bx.lt
  have bxc0 := bx.cell 0
  have bxc1 := bx.cell 1
  simp at bxc0 bxc1
  go_wp2_with fail
  clear lbx bxc0 bxc1
  obtain ⟨h0, hh0⟩ : ∃ h, w2.heap.size = h := ⟨_, rfl⟩
  have HH := Lib.hid hh0
  have hn1 : n0 ≤ h0 := by have := hC.size; omega
  have HN1 := Lib.hid hn1
  have HC := Lib.hid hC
  have HT2 := Lib.hid hT
  have hsl := HV.out.sfew
  clear hn1 hC hh0 bx mx hB hS hT
  go_loopw [8, 28] (fun acc v wr => ∃ k : Nat, k ≤ ss.length ∧ v = .int .i64 (k : Int) ∧ OwnLi wr h0 acc (wysL bars ⟨mlo, mhi⟩ ss k) ∧ Below h0 w2 wr) (fun _ v _ => ss.length - (intOf v).toNat)
  case atStart => exact ⟨0, Nat.zero_le _, rfl, OwnLi.nil _ _, Below.refl _ _⟩
  case round =>
    obtain ⟨k, hk, rfl, hown, hb⟩ := hrel
    have hwz : h0 ≤ wr.heap.size := by have := hb.size; have := HH.out; omega
    by_cases hlt : k < ss.length
    case neg =>
      obtain rfl : k = ss.length := by omega
      have HO := Lib.hid hown.rli
      have HB := Lib.hid hb
      obtain ⟨Av, cv, rfl⟩ := hown.slice
      rw [wysL_len]
      have HO2 : Hid (RLi wr wr.heap.size (.slice Av ss.length cv) (wysL bars ⟨mlo, mhi⟩ ss ss.length)) := Lib.hid (by have h := HO.out; rw [wysL_len] at h; exact h)
      clear hown hb HO
      go_wp2_with fail
      go_ret2
      exact WaysPost.yes HE.out HS.out HO2.out (by (try rw [hn0]); exact HC.out.trans (HB.out.mono HN1.out))
    have hlt' : (k : Int) < (ss.length : Int) := by omega
    have HOWN := Lib.hid hown
    have HB := Lib.hid hb
    clear hown hb
    go_wp2_with fail
    refine (someW_any g _ _ ⟨mlo, mhi⟩ bars ss k _ (HT2.out.next (by rw [HH.out]; exact HB.out)) HV.out hlt).mono ?_
    rintro e w3 ⟨v, rfl, hv, hb3⟩
    have hl5 := someV_len HV.out ⟨mlo, mhi⟩ hlt
    have hws := wysL_succ bars ⟨mlo, mhi⟩ ss k
    obtain ⟨l, hl⟩ : ∃ l, someV bars ⟨mlo, mhi⟩ ss (k : Int) = l := ⟨_, rfl⟩
    rw [hl] at hv hl5 hws
    have HWS := Lib.hid hws
    clear hl hws
    obtain ⟨Av, cv, rfl⟩ : ∃ A c, v = .slice A l.length c := by
      obtain ⟨A, c, b, o, hv, _⟩ := hv
      exact ⟨A, c, hv⟩
    have hown3 := OwnLi.below HOWN.out hb3
    have hC3 := HB.out.trans (hb3.mono hwz)
    have hwz3 : h0 ≤ w3.heap.size := by have := hb3.size; omega
    obtain ⟨n, hn⟩ : ∃ n, l.length = n := ⟨_, rfl⟩
    have HN := Lib.hid hn
    rw [hn] at hv hl5
    rw [hn]
    clear HOWN HB hb3 hwz hn
    obtain ⟨gn, hgn⟩ : ∃ g, w3.heap.size = g := ⟨_, rfl⟩
    have hmk := make_int n (by omega) w3
    have hbk : BK (w3.alloc (.cells (madeCells #[.int .i64 0] n) 3)) gn (madeCells #[.int .i64 0] n) 3 := BK.new' _ _ _ gn hgn
    have hb4 : Below w3.heap.size w3 (w3.alloc (.cells (madeCells #[.int .i64 0] n) 3)) := Below.alloc (Below.refl _ _) (Nat.le_refl _) _
    have hv4 := RS.more (RS.below hv hb4) hb4.size
    rw [hgn] at hmk hwz3
    clear hv
    generalize w3.alloc (.cells (madeCells #[.int .i64 0] n) 3) = W4 at *
    obtain ⟨W5, hcp, hbk5, hs5, hbl5⟩ := copy_int (c := n) (W := W4) 3 hbk (size_madeCells _ _) HN.out hv4
    have hb5 := hbl5 _ w3 (by omega) hb4
    have hown5 := OwnLi.below hown3 hb5
    have hC5 := hC3.trans (hb5.mono (by omega))
    have hou := OwnI.of_bk hbk5 hwz3 (by have := HN.out; omega)
    have hw5 : h0 ≤ W5.heap.size := by have := hb5.size; omega
    rw [HN.out] at hou
    clear hbk hb4 hv4 hs5 hbl5 hb5 hown3 hC3 hgn hbk5
    obtain ⟨B5, hB5⟩ : ∃ B, W5.heap.size = B := ⟨_, rfl⟩
    obtain ⟨v', w9, hrun, hown', hb', hs'⟩ := app_li hown5 hou (by rw [wysL_len]; omega) hw5 hC5 B5 hB5
    rw [← HWS.out] at hown'
    have HO := Lib.hid hown'
    have HB := Lib.hid hb'
    have HRUN := Lib.hid hrun
    clear hown5 hou hw5 hC5 hrun hown' hb' hs'
    go_wp2_with (at_builtin; refine wpList_append_run rfl (.tmp 40) (.tmp 42) 56 _ rfl HRUN.out ?_)
    go_roundw
    case rel => exact ⟨k + 1, by omega, by go_num, HO.out, HB.out⟩
    case measure => simp [intOf]; omega
end Go.Proofs.Ytkibdciomheekaa

set_option linter.all false
namespace Go.Proofs.Ytkibdciomheekaa
open Go.RowKit Hp

theorem ask1_any (q : Rg) (w : World) :
    Calls Try.prog 77 #[rV q] w fun e w' => e = .returned (.int .i64 q.hi) ∧ Below w.heap.size w w' := by
  obtain ⟨lo, hi⟩ := q
  unfold rV
  obtain ⟨n0, hn0⟩ : ∃ n, w.heap.size = n := ⟨_, rfl⟩
  have b0 : BK (w.alloc (.cells #[.int .i64 lo, .int .i64 hi] 120)) n0 #[.int .i64 lo, .int .i64 hi] 120 := BK.new' _ _ _ n0 hn0
  have hb : Below w.heap.size w (w.alloc (.cells #[.int .i64 lo, .int .i64 hi] 120)) := Below.alloc (Below.refl _ _) (Nat.le_refl _) _
  go_enter Try.func77, Try.ntmps77
  go_upto_region 1 with fail
  generalize w.alloc (.cells #[.int .i64 lo, .int .i64 hi] 120) = W0 at *
  have y0 := b0.cell 0
  have y1 := b0.cell 1
  simp at y0 y1
  have l0 := b0.lt
  go_wp2_with fail
  go_ret
  exact ⟨rfl, hb⟩
/-- The first of the least questions among the first n + 1. -/
def lsQ (l : List Rg) : Nat → Rg
  | 0 => nthB l 0
  | n + 1 => if (nthB l (n + 1)).hi < (lsQ l n).hi then nthB l (n + 1) else lsQ l n

set_option maxHeartbeats 8000000 in
set_option maxRecDepth 100000 in
theorem least_any (l : List Rg) (v : Value) (w : World) (hl : l.length ≤ 1000) (h0 : l.length ≠ 0) (h : RR w w.heap.size v l) :
    Calls Try.prog 76 #[v, .func (.func 77) #[] #[]] w fun e w' => e = .returned (rV (lsQ l (l.length - 1))) ∧ Below w.heap.size w w' := by
  obtain ⟨A, cap, b, off, rfl, hA, hc⟩ := h.cells
  obtain ⟨rfl, hb⟩ := hA h0
  have hcap : l.length ≤ cap := by
    obtain ⟨A', cap', b', off', hv, ⟨_, hcap⟩, _⟩ := h
    injection hv with q1 q2 q3
    omega
  have HC := Lib.hid hc
  clear h hA hc
  obtain ⟨n0, hn0⟩ : ∃ n, w.heap.size = n := ⟨_, rfl⟩
  rw [hn0] at hb
  have hC : Below n0 w w := Below.refl _ _
  obtain ⟨m, hm⟩ : ∃ m, l.length = m + 1 := ⟨l.length - 1, by omega⟩
  have HM := Lib.hid hm
  rw [hm] at hl hcap ⊢
  clear hm h0
  go_enter Try.func76, Try.ntmps76
  go_upto_region 1 with fail
  have hqrs : n0 ≤ n0 := by have := hC.size; omega
  have rs : BK (w.alloc (.cells #[.int .i64 0, .int .i64 0] 120)) (n0) #[.int .i64 0, .int .i64 0] 120 := BK.new' _ _ _ (n0) hn0
  have hsrs : (w.alloc (.cells #[.int .i64 0, .int .i64 0] 120)).heap.size = n0 + 1 := by simp [hn0]
  replace hC : Below n0 w (w.alloc (.cells #[.int .i64 0, .int .i64 0] 120)) := Below.alloc hC (by have := hC.size; omega) _
  generalize (w.alloc (.cells #[.int .i64 0, .int .i64 0] 120)) = Wrs at *
  have c0 := HC.out 0 (by have := HM.out; omega)
  obtain ⟨d0, d1⟩ := c0
  simp only [Nat.zero_mul, Nat.add_zero] at d0 d1
  rw [← hC.cell (by exact hb)] at d0 d1
  have hbs : b < Wrs.heap.size := by omega
  go_upto_region 2 with fail
  clear d0 d1 hbs
  have hqls : n0 ≤ n0 + 1 := by have := hC.size; omega
  have ls : BK (Wrs.alloc (.cells #[.int .i64 (nthB l 0).lo, .int .i64 (nthB l 0).hi] 120)) (n0 + 1) #[.int .i64 (nthB l 0).lo, .int .i64 (nthB l 0).hi] 120 := BK.new' _ _ _ (n0 + 1) hsrs
  have hsls : (Wrs.alloc (.cells #[.int .i64 (nthB l 0).lo, .int .i64 (nthB l 0).hi] 120)).heap.size = n0 + 1 + 1 := by simp [hsrs]
  replace hC : Below n0 w (Wrs.alloc (.cells #[.int .i64 (nthB l 0).lo, .int .i64 (nthB l 0).hi] 120)) := Below.alloc hC (by have := hC.size; omega) _
  replace rs := rs.alloc (.cells #[.int .i64 (nthB l 0).lo, .int .i64 (nthB l 0).hi] 120)
  generalize (Wrs.alloc (.cells #[.int .i64 (nthB l 0).lo, .int .i64 (nthB l 0).hi] 120)) = Wls at *
  clear hsrs
  clear hsls
  have hm1 : (1 : Int) ≤ ((m + 1 : Nat) : Int) := by omega
  have HX : ∀ o, (cap = 1 ∧ o = off) ∨ o = off + 2 → Hid (∀ k, k < m → w.cell? ⟨b, o + k * 2, none⟩ = some (.int .i64 (nthB l (k + 1)).lo) ∧ w.cell? ⟨b, o + k * 2 + 1, none⟩ = some (.int .i64 (nthB l (k + 1)).hi)) := fun o ho => Lib.hid fun k hk => by
    have h := HC.out (k + 1) (by have := HM.out; omega)
    rcases ho with ⟨h1, rfl⟩ | rfl
    · omega
    · rw [show off + (k + 1) * 2 = off + 2 + k * 2 by omega] at h
      exact h
  generalize Wls = W0 at *
  by_cases h1 : cap = 1
  case neg =>
    have h2 : ¬ cap = 1 := h1
    go_upto_region 3 with fail
    clear h2
    have HCO := HX (off + 2) (.inr rfl)
    have HCP := Lib.hid hcap
    clear HX hm1
    clear h1
    
    go_loopw [14] (fun i wr => ∃ k : Nat, k ≤ m ∧ i = .int .i64 k ∧ BK wr n0 #[.int .i64 0, .int .i64 0] 120 ∧ BK wr (n0 + 1) #[.int .i64 (lsQ l k).lo, .int .i64 (lsQ l k).hi] 120 ∧ Below n0 w wr) (fun i _ => m - (intOf i).toNat)
    case atStart => exact ⟨0, Nat.zero_le _, rfl, rs, ls, hC⟩
    case round =>
      clear rs ls hC
      obtain ⟨k, hk, rfl, rs, ls, hC⟩ := hrel
      have hsz := hC.size
      by_cases hlt : k < m
      case neg =>
        obtain rfl : k = m := by omega
        obtain ⟨⟨llo, lhi⟩, hQ⟩ : ∃ x, lsQ l k = x := ⟨_, rfl⟩
        rw [hQ] at ls
        have HQ := Lib.hid hQ
        clear hQ
        dsimp only at ls
        have lrs := rs.lt
        have lls := ls.lt
        have c0 := rs.cell 0
        have c1 := rs.cell 1
        have e0 := ls.cell 0
        have e1 := ls.cell 1
        simp at c0 c1 e0 e1
        have f0 := rs.frozen 0
        have f1 := rs.frozen 1
        go_wp2_with fail
        have rs2 := fin_rg rs (.int .i64 llo) (.int .i64 lhi)
        have z0 := rs2.cell 0
        have z1 := rs2.cell 1
        simp at z0 z1
        have hCf : Below n0 w ((wr.setCell ⟨n0, 0, none⟩ (.int .i64 llo)).setCell ⟨n0, 1, none⟩ (.int .i64 lhi)) := Below.setCell (Below.setCell hC (Nat.le_refl _) _) (Nat.le_refl _) _
        exact bodyPost_ret (v := rV ⟨llo, lhi⟩) (by simp [results, Try.results76, go_sem, z0, z1, rV]) rfl ⟨by rw [show k + 1 - 1 = k from rfl, HQ.out], by (try rw [hn0]); exact hCf⟩
      have hlt' : (k : Int) < (m : Int) := by omega
      obtain ⟨d0, d1⟩ := HCO.out k hlt
      rw [← hC.cell (by exact hb)] at d0 d1
      have hbs : b < wr.heap.size := by omega
      have hst : lsQ l (k + 1) = if (nthB l (k + 1)).hi < (lsQ l k).hi then nthB l (k + 1) else lsQ l k := rfl
      obtain ⟨⟨llo, lhi⟩, hQ⟩ : ∃ x, lsQ l k = x := ⟨_, rfl⟩
      obtain ⟨⟨nlo, nhi⟩, hN⟩ : ∃ x, nthB l (k + 1) = x := ⟨_, rfl⟩
      rw [hQ] at ls hst
      rw [hN] at d0 d1 hst
      have HST := Lib.hid hst
      clear hQ hN hst
      dsimp only at ls d0 d1
      go_upto_region 5 with fail
      clear d0 d1 hbs
      obtain ⟨m1, hm1⟩ : ∃ n, wr.heap.size = n := ⟨_, rfl⟩
      try rw [hm1]
      have hqtx : n0 ≤ m1 := by have := hC.size; omega
      have tx : BK (wr.alloc (.cells #[.int .i64 nlo, .int .i64 nhi] 120)) (m1) #[.int .i64 nlo, .int .i64 nhi] 120 := BK.new' _ _ _ (m1) hm1
      have hstx : (wr.alloc (.cells #[.int .i64 nlo, .int .i64 nhi] 120)).heap.size = m1 + 1 := by simp [hm1]
      replace hC : Below n0 w (wr.alloc (.cells #[.int .i64 nlo, .int .i64 nhi] 120)) := Below.alloc hC (by have := hC.size; omega) _
      replace rs := rs.alloc (.cells #[.int .i64 nlo, .int .i64 nhi] 120)
      replace ls := ls.alloc (.cells #[.int .i64 nlo, .int .i64 nhi] 120)
      generalize (wr.alloc (.cells #[.int .i64 nlo, .int .i64 nhi] 120)) = Wtx at *
      clear hm1
      clear hstx
      have l7 := tx.lt
      have l8 := ls.lt
      have y0 := tx.cell 0
      have y1 := tx.cell 1
      have e0 := ls.cell 0
      have e1 := ls.cell 1
      simp at y0 y1 e0 e1
      refine wp_region_noPanic (plain_any [0, 1, 3, 4, 6] (Below Wtx.heap.size Wtx) mixed ?_)
      refine any_tk 0 ?_
      refine any_tk 1 ?_
      refine any_tk 3 ?_
      refine any_tk 4 ?_
      have hd0 : Below Wtx.heap.size Wtx Wtx.drew := Below.drew (Below.refl _ _)
      refine any_run1 (i := 2) (by kernel_rfl) (by rfl) (by kernel_rfl) ?_
      intro K3 hK3
      go_wp2_with fail
      refine (ask1_any ⟨nlo, nhi⟩ _).mono ?_
      rintro e V1 ⟨rfl, hb1⟩
      have hb01 : Below Wtx.heap.size Wtx V1 := hd0.trans hb1
      refine hK3 _ _ (fun _ => hb01) ?_
      clear hK3 K3 hb1
      refine any_run1 (i := 5) (by kernel_rfl) (by rfl) (by kernel_rfl) ?_
      intro K3 hK3
      go_wp2_with fail
      refine (ask1_any ⟨llo, lhi⟩ _).mono ?_
      rintro e V2 ⟨rfl, hb2⟩
      have hb02 : Below Wtx.heap.size Wtx V2 := hb01.trans (hb2.mono hb01.size)
      refine hK3 _ _ (fun _ => hb02) ?_
      clear hK3 K3 hb2
      refine any_tk 6 ?_
      refine any_done (by kernel_rfl) (NoPanic.normal ?_)
      clear y0 y1 e0 e1 l7 l8
      replace hC := hC.trans (hb02.mono (by have := hC.size; omega))
      replace rs := rs.below hb02 rs.lt
      replace ls := ls.below hb02 ls.lt
      replace tx := tx.below hb02 tx.lt
      clear hb01 hb02 hd0
      by_cases hf : nhi < lhi
      case neg =>
        have HS := Lib.hid (HST.out.trans (if_neg hf))
        go_wp2_with fail
        go_roundw
        case rel => exact ⟨k + 1, by omega, by go_num, rs, by rw [HS.out]; exact ls, hC⟩
        case measure => simp [intOf]; omega
      have HS := Lib.hid (HST.out.trans (if_pos hf))
      have l7 := tx.lt
      have l8 := ls.lt
      have y0 := tx.cell 0
      have y1 := tx.cell 1
      have e0 := ls.cell 0
      have e1 := ls.cell 1
      simp at y0 y1 e0 e1
      have f0 := ls.frozen 0
      have f1 := ls.frozen 1
      have rsx : BK ((V2.setCell ⟨n0 + 1, 0, none⟩ (.int .i64 nlo)).setCell ⟨n0 + 1, 1, none⟩ (.int .i64 nhi)) n0 #[.int .i64 0, .int .i64 0] 120 := (rs.far (by show n0 ≠ n0 + 1; omega) _).far (by show n0 ≠ n0 + 1; omega) _
      have lsx := fin_rg ls (.int .i64 nlo) (.int .i64 nhi)
      have hCx : Below n0 w ((V2.setCell ⟨n0 + 1, 0, none⟩ (.int .i64 nlo)).setCell ⟨n0 + 1, 1, none⟩ (.int .i64 nhi)) := Below.setCell (Below.setCell hC (by show n0 ≤ n0 + 1; omega) _) (by show n0 ≤ n0 + 1; omega) _
      go_wp2_with fail
      go_roundw
      case rel => exact ⟨k + 1, by omega, by go_num, rsx, by rw [HS.out]; exact lsx, hCx⟩
      case measure => simp [intOf]; omega
  subst h1
  have h1 : (1 : Nat) = 1 := rfl
  go_upto_region 3 with fail
  have HCO := HX (off) (.inl ⟨h1, rfl⟩)
  have HCP := Lib.hid hcap
  clear HX hm1
  clear h1
  
  go_loopw [14] (fun i wr => ∃ k : Nat, k ≤ m ∧ i = .int .i64 k ∧ BK wr n0 #[.int .i64 0, .int .i64 0] 120 ∧ BK wr (n0 + 1) #[.int .i64 (lsQ l k).lo, .int .i64 (lsQ l k).hi] 120 ∧ Below n0 w wr) (fun i _ => m - (intOf i).toNat)
  case atStart => exact ⟨0, Nat.zero_le _, rfl, rs, ls, hC⟩
  case round =>
    clear rs ls hC
    obtain ⟨k, hk, rfl, rs, ls, hC⟩ := hrel
    have hsz := hC.size
    by_cases hlt : k < m
    case neg =>
      obtain rfl : k = m := by omega
      obtain ⟨⟨llo, lhi⟩, hQ⟩ : ∃ x, lsQ l k = x := ⟨_, rfl⟩
      rw [hQ] at ls
      have HQ := Lib.hid hQ
      clear hQ
      dsimp only at ls
      have lrs := rs.lt
      have lls := ls.lt
      have c0 := rs.cell 0
      have c1 := rs.cell 1
      have e0 := ls.cell 0
      have e1 := ls.cell 1
      simp at c0 c1 e0 e1
      have f0 := rs.frozen 0
      have f1 := rs.frozen 1
      go_wp2_with fail
      have rs2 := fin_rg rs (.int .i64 llo) (.int .i64 lhi)
      have z0 := rs2.cell 0
      have z1 := rs2.cell 1
      simp at z0 z1
      have hCf : Below n0 w ((wr.setCell ⟨n0, 0, none⟩ (.int .i64 llo)).setCell ⟨n0, 1, none⟩ (.int .i64 lhi)) := Below.setCell (Below.setCell hC (Nat.le_refl _) _) (Nat.le_refl _) _
      exact bodyPost_ret (v := rV ⟨llo, lhi⟩) (by simp [results, Try.results76, go_sem, z0, z1, rV]) rfl ⟨by rw [show k + 1 - 1 = k from rfl, HQ.out], by (try rw [hn0]); exact hCf⟩
    have hcp := HCP.out
    omega
end Go.Proofs.Ytkibdciomheekaa

namespace Hp
theorem flat_len {α : Type} {F : Nat → List α} {c : Nat} (h : ∀ k, (F k).length ≤ c) : ∀ n, ((List.range n).flatMap F).length ≤ n * c
  | 0 => by simp
  | n + 1 => by
    rw [List.range_succ, List.flatMap_append, List.length_append, Nat.succ_mul]
    have h1 := flat_len h n
    have h2 := h n
    simp only [List.flatMap_cons, List.flatMap_nil, List.append_nil]
    omega
theorem follow_len (m : Rg) : ∀ (ss : List Stp), (∀ s ∈ ss, s.length ≤ 5) → ∀ r, (follow m ss r).length ≤ 5 ^ ss.length
  | [], _, r => by
    rw [follow_nil]
    split <;> simp
  | s :: ss, hs, r => by
    rw [← folK_all]
    unfold folK
    refine Nat.le_trans (flat_len (c := 5 ^ ss.length) (fun k => ?_) s.length) ?_
    · rw [List.length_map]
      exact follow_len m ss (fun t ht => hs t (List.mem_cons_of_mem _ ht)) _
    · rw [List.length_cons, Nat.pow_succ, Nat.mul_comm]
      exact Nat.mul_le_mul_left _ (hs s (List.mem_cons_self ..))
theorem mkL_few {bars : List Rg} {ss : List Stp} (h : OkV bars ss) (m : Rg) : (mkL bars m ss).length ≤ 1000000 := by
  rw [← mkK_all]
  unfold mkK
  rw [List.length_map]
  have h1 := h.bfew
  have h2 := h.sfew
  have h3 := flat_len (F := fun b => (follow m ss (nthB bars b)).map fun ks => (b, ks)) (c := 5 ^ 6) (fun b => by
    rw [List.length_map]
    exact Nat.le_trans (follow_len m ss (fun s hs => (h.wpos s hs).2) _) (Nat.pow_le_pow_right (by omega) h2)) bars.length
  refine Nat.le_trans h3 ?_
  have h4 : bars.length * 5 ^ 6 ≤ 6 * 5 ^ 6 := Nat.mul_le_mul_right _ h1
  refine Nat.le_trans h4 (by decide)
theorem follow_short (m : Rg) : ∀ (ss : List Stp) (r : Rg), ∀ ks ∈ follow m ss r, ks.length = ss.length
  | [], r, ks, hk => by
    rw [follow_nil] at hk
    split at hk
    · simp at hk
      subst hk
      rfl
    · simp at hk
  | s :: ss, r, ks, hk => by
    rw [← folK_all] at hk
    unfold folK at hk
    rw [List.mem_flatMap] at hk
    obtain ⟨k, _, hk⟩ := hk
    rw [List.mem_map] at hk
    obtain ⟨l, hl, rfl⟩ := hk
    rw [List.length_cons, List.length_cons, follow_short m ss _ l hl]
theorem mkL_short {bars : List Rg} {ss : List Stp} (h : OkV bars ss) (m : Rg) : ∀ r ∈ mkL bars m ss, r.length ≤ 100 := by
  intro r hr
  rw [← mkK_all] at hr
  unfold mkK at hr
  rw [List.mem_map] at hr
  obtain ⟨⟨b, ks⟩, hp, rfl⟩ := hr
  rw [List.mem_flatMap] at hp
  obtain ⟨b', _, hp⟩ := hp
  rw [List.mem_map] at hp
  obtain ⟨l, hl, he⟩ := hp
  cases he
  have h1 := follow_short m ss _ _ hl
  have h2 := h.sfew
  simp only [List.length_cons, List.length_map]
  omega
end Hp
