/- CheckHeights. -/
import Derived.Test.YtbjmkmambmeifaaP3
import Derived.Test.YtbjmkmambmeifaaP8
set_option linter.all false
set_option linter.unnecessarySimpa false
set_option linter.unusedSimpArgs false
set_option linter.unusedVariables false
set_option linter.unusedSectionVars false

namespace Go.Proofs.Ytbjmkmambmeifaa
open Go.RowKit

def chB (l : List St) (h : List Ra) (i : Nat) : Bool := inB 1 1000 (nthR h i).den && (inB (-1000000) 1000000 (nthR h i).num && inB ((nthS l i).lo * (nthR h i).den) ((nthS l i).hi * (nthR h i).den) (nthR h i).num)
/-- The slope behind the i-th station is less than the one before it. -/
def bendB (l : List St) (h : List Ra) (i : Nat) : Bool :=
  decide (((nthR h (i + 2)).num * (nthR h (i + 1)).den - (nthR h (i + 1)).num * (nthR h (i + 2)).den) * (nthR h i).den * ((nthS l (i + 1)).a - (nthS l i).a) <
    ((nthR h (i + 1)).num * (nthR h i).den - (nthR h i).num * (nthR h (i + 1)).den) * (nthR h (i + 2)).den * ((nthS l (i + 2)).a - (nthS l (i + 1)).a))
def checkHP (l : List St) (h : List Ra) : Int := if checkPair l ≠ 0 then checkPair l else if h.length ≠ l.length then 15 else if ∀ k, k < l.length → chB l h k = true then (if ∀ k, k < l.length - 2 → bendB l h k = false then 0 else 22) else 3
theorem checkHP_pair (l : List St) (h : List Ra) (hp : checkPair l ≠ 0) : checkHP l h = checkPair l := by rw [checkHP, if_pos hp]
theorem checkHP_len (l : List St) (h : List Ra) (hp : checkPair l = 0) (h2 : h.length ≠ l.length) : checkHP l h = 15 := by rw [checkHP, if_neg (by simpa using hp), if_pos h2]
theorem checkHP_bad (l : List St) (h : List Ra) (hp : checkPair l = 0) (h2 : h.length = l.length) (k : Nat) (hk : k < l.length) (hb : chB l h k = false) : checkHP l h = 3 := by
  rw [checkHP, if_neg (by simpa using hp), if_neg (by simpa using h2), if_neg]
  intro h3; rw [h3 k hk] at hb; cases hb
theorem checkHP_gape (l : List St) (h : List Ra) (hp : checkPair l = 0) (h2 : h.length = l.length) (ha : ∀ k, k < l.length → chB l h k = true) (k : Nat) (hk : k + 2 < l.length) (hb : bendB l h k = true) : checkHP l h = 22 := by
  rw [checkHP, if_neg (by simpa using hp), if_neg (by simpa using h2), if_pos ha, if_neg]
  intro h3; rw [h3 k (by omega)] at hb; cases hb
theorem checkHP_ok (l : List St) (h : List Ra) (hp : checkPair l = 0) (h2 : h.length = l.length) (ha : ∀ k, k < l.length → chB l h k = true) (hb : ∀ k, k + 2 < l.length → bendB l h k = false) : checkHP l h = 0 := by
  rw [checkHP, if_neg (by simpa using hp), if_neg (by simpa using h2), if_pos ha, if_pos (fun k hk => hb k (by omega))]
theorem chB_at (l : List St) (h : List Ra) (k : Nat) (hc : chB l h k = true) : 1 ≤ (nthR h k).den ∧ (nthR h k).den ≤ 1000 ∧ -1000000 ≤ (nthR h k).num ∧ (nthR h k).num ≤ 1000000 := by
  simp [chB, inB] at hc; omega

set_option maxRecDepth 100000 in
set_option maxHeartbeats 4000000 in
theorem checkHeightsP_any (l : List St) (h : List Ra) (vl vh : Value) (w : World) (hl : l.length ≤ 1000) (hh : h.length ≤ 1000) (hs : RSt w w.heap.size vl l) (hr : RRa w w.heap.size vh h) :
    Calls Try.prog 22 #[vl, vh] w fun e w' => e = .returned (.int .i64 (checkHP l h)) ∧ Below w.heap.size w w' := by
  obtain ⟨e0, he0⟩ : ∃ e0, checkPair l = e0 := ⟨_, rfl⟩
  have hcall := checkPair_any l vl w hl hs
  rw [he0] at hcall
  have HP := Lib.hid hcall; clear hcall
  by_cases hp : e0 = 0
  · subst hp
    have hn := checkPair_len l he0
    have hva := valid_at l he0
    obtain ⟨A, cap, b, off, rfl, hA, hc⟩ := hs.cells
    obtain ⟨A', cap', b', off', rfl, hA', hc'⟩ := hr.cells
    obtain ⟨rfl, hb⟩ := hA (by omega)
    have HC := Lib.hid hc; have HC' := Lib.hid hc'; have HVA := Lib.hid hva
    clear hc hc' hA hs hr hva
    by_cases hlen : h.length = l.length
    · have hbne : ((h.length : Int) != (l.length : Int)) = false := by simp; omega
      obtain ⟨rfl, hb'⟩ := hA' (by omega)
      clear hA'
      have HE0 := Lib.hid he0; have HLEN := Lib.hid hlen; clear he0 hlen
      go_enter Try.func22, Try.ntmps22
      go_wp2_with fail
      refine HP.out.mono ?_
      rintro e w1 ⟨rfl, hb1⟩
      go_wp2_with fail
      go_loopw [25] (fun iv wr => ∃ k : Nat, k ≤ h.length ∧ iv = .int .i64 k ∧ Below w.heap.size w wr ∧ ∀ j, j < k → chB l h j = true) (fun i _ => h.length - (intOf i).toNat)
      case atStart => exact ⟨0, Nat.zero_le _, rfl, by exact bel_of, fun j hj => absurd hj (by omega)⟩
      case round =>
        clear hb1
        obtain ⟨k, hk, rfl, hbw, hall⟩ := hrel
        have HA := Lib.hid hall; clear hall
        have hsz := hbw.size
        by_cases hlt : k < h.length
        · have hkl : k < l.length := by rw [← HLEN.out]; exact hlt
          have hcell := HC.out k hkl
          have hcell' := HC'.out k hlt
          rw [← hbw.cell (by exact hb), ← hbw.cell (by exact hb), ← hbw.cell (by exact hb)] at hcell
          rw [← hbw.cell (by exact hb'), ← hbw.cell (by exact hb')] at hcell'
          obtain ⟨c0, c1, c2⟩ := hcell
          obtain ⟨c3, c4⟩ := hcell'
          have hbr : b < wr.heap.size := by omega
          have hbr' : b' < wr.heap.size := by omega
          have hbr1 : b < wr.heap.size + 1 := by omega
          have q0 := HVA.out k hkl
          have hcb : chB l h k = (inB 1 1000 (nthR h k).den && (inB (-1000000) 1000000 (nthR h k).num && inB ((nthS l k).lo * (nthR h k).den) ((nthS l k).hi * (nthR h k).den) (nthR h k).num)) := rfl
          obtain ⟨q1, hq1⟩ : ∃ q1, inB 1 1000 (nthR h k).den = q1 := ⟨_, rfl⟩
          obtain ⟨q2, hq2⟩ : ∃ q2, inB (-1000000) 1000000 (nthR h k).num = q2 := ⟨_, rfl⟩
          obtain ⟨q3, hq3⟩ : ∃ q3, inB ((nthS l k).lo * (nthR h k).den) ((nthS l k).hi * (nthR h k).den) (nthR h k).num = q3 := ⟨_, rfl⟩
          have hw1 := fun W n (hb : BK W n #[.int .i64 (nthR h k).den] 2) => within1_bk 1 1000 (nthR h k).den W n 2 hb
          have hw2 := fun W n (hb : BK W n #[.int .i64 (nthR h k).num] 2) => within1_bk (-1000000) 1000000 (nthR h k).num W n 2 hb
          have hw3 := fun W n (hb : BK W n #[.int .i64 (nthR h k).num] 2) => within1_bk ((nthS l k).lo * (nthR h k).den) ((nthS l k).hi * (nthR h k).den) (nthR h k).num W n 2 hb
          rw [hq1] at hw1; rw [hq2] at hw2; rw [hq3] at hw3
          rw [hq1, hq2, hq3] at hcb
          have HW1 := Lib.hid hw1; have HW2 := Lib.hid hw2; have HW3 := Lib.hid hw3; have HCB := Lib.hid hcb
          have hden := fun (hq : q1 = true) => (inB_iff _ _ _).1 (hq1.trans hq)
          clear hw1 hw2 hw3 hcb hq1 hq2 hq3
          go_wp2_with fail
          have r71 : BK (((wr.alloc (.cells #[.int .i64 (nthR h k).num, .int .i64 (nthR h k).den] 25)).alloc (.cells #[.int .i64 (nthS l k).lo, .int .i64 (nthS l k).hi] 60)).alloc (.cells #[.int .i64 (nthR h k).den] 2)) wr.heap.size #[.int .i64 (nthR h k).num, .int .i64 (nthR h k).den] 25 := by (repeat (first | assumption | (refine BK.new' _ _ _ _ ?_; simp; done) | refine BK.alloc ?_ _))
          have r81 : BK (((wr.alloc (.cells #[.int .i64 (nthR h k).num, .int .i64 (nthR h k).den] 25)).alloc (.cells #[.int .i64 (nthS l k).lo, .int .i64 (nthS l k).hi] 60)).alloc (.cells #[.int .i64 (nthR h k).den] 2)) (wr.heap.size + 1) #[.int .i64 (nthS l k).lo, .int .i64 (nthS l k).hi] 60 := by (repeat (first | assumption | (refine BK.new' _ _ _ _ ?_; simp; done) | refine BK.alloc ?_ _))
          refine (HW1.out _ _ (by (repeat (first | assumption | (refine BK.new' _ _ _ _ ?_; simp; done) | refine BK.alloc ?_ _)))).mono ?_
          rintro e w2 ⟨rfl, hb2⟩
          have hB2 : Below w.heap.size w w2 := (Below.trans (a := w) (B := w.heap.size) (by exact bel_of) (hb2.mono (by first | omega | (simp; omega) | (simp; done))))
          have r72 := r71.below hb2 r71.lt
          have r82 := r81.below hb2 r81.lt
          have hlt7 := r72.lt
          have hlt8 := r82.lt
          have y0 := r72.cell 0
          have y1 := r72.cell 1
          have z0 := r82.cell 0
          have z1 := r82.cell 1
          simp at y0 y1 z0 z1
          clear hb2 r71 r81
          cases q1 with
          | false =>
            have HT := Lib.hid (checkHP_bad l h HE0.out HLEN.out k hkl (by rw [HCB.out]; rfl))
            clear hden
            go_wp2_with fail
            go_ret
            exact ⟨ret_int HT.out.symm, by exact bel_of⟩
          | true =>
            obtain ⟨hd1, hd2⟩ := hden rfl
            clear hden
            go_wp2_with fail
            refine (HW2.out _ _ (by (repeat (first | assumption | (refine BK.new' _ _ _ _ ?_; simp; done) | refine BK.alloc ?_ _)))).mono ?_
            rintro e w3 ⟨rfl, hb3⟩
            have hB3 : Below w.heap.size w w3 := (Below.trans (a := w) (B := w.heap.size) (by exact bel_of) (hb3.mono (by first | omega | (simp; omega) | (simp; done))))
            have r73 := (r72.alloc (.cells #[.int .i64 (nthR h k).num] 2)).below hb3 (by simp; omega)
            have r83 := (r82.alloc (.cells #[.int .i64 (nthR h k).num] 2)).below hb3 (by simp; omega)
            have hlt73 := r73.lt
            have hlt83 := r83.lt
            clear hb3 r72 r82
            clear y0 y1 z0 z1
            have y0 := r73.cell 0
            have y1 := r73.cell 1
            have z0 := r83.cell 0
            have z1 := r83.cell 1
            simp at y0 y1 z0 z1
            cases q2 with
            | false =>
              have HT := Lib.hid (checkHP_bad l h HE0.out HLEN.out k hkl (by rw [HCB.out]; rfl))
              go_wp2_with fail
              go_ret
              exact ⟨ret_int HT.out.symm, by exact bel_of⟩
            | true =>
              have e1 := mul_bd (nthS l k).lo (nthR h k).den 1000 1000 (by omega) (by omega)
              have e2 := mul_bd (nthS l k).hi (nthR h k).den 1000 1000 (by omega) (by omega)
              simp only [Nat.reduceMul] at e1 e2
              go_wp2_with fail
              refine (HW3.out _ _ (by (repeat (first | assumption | (refine BK.new' _ _ _ _ ?_; simp; done) | refine BK.alloc ?_ _)))).mono ?_
              rintro e w4 ⟨rfl, hb4⟩
              have hB4 : Below w.heap.size w w4 := (Below.trans (a := w) (B := w.heap.size) (by exact bel_of) (hb4.mono (by first | omega | (simp; omega) | (simp; done))))
              clear hb4
              cases q3 with
              | false =>
                have HT := Lib.hid (checkHP_bad l h HE0.out HLEN.out k hkl (by rw [HCB.out]; rfl))
                go_wp2_with fail
                go_ret
                exact ⟨ret_int HT.out.symm, by exact bel_of⟩
              | true =>
                go_wp2_with fail
                go_roundw
                case rel => exact ⟨k + 1, by omega, by go_num, by exact bel_of, fun j hj => by
                  rcases Nat.lt_succ_iff_lt_or_eq.1 hj with h1 | rfl
                  · exact HA.out j h1
                  · rw [HCB.out]; rfl⟩
                case measure => simp [intOf]; omega
        · have HALL := Lib.hid (fun j (hj : j < l.length) => HA.out j (by rw [HLEN.out] at hlt; omega))
          clear HA
          go_wp2_with fail
          go_loopw [9] (fun iv wr => ∃ k : Nat, k ≤ l.length - 2 ∧ iv = .int .i64 ((k : Int) + 2) ∧ Below w.heap.size w wr ∧ ∀ j, j < k → bendB l h j = false) (fun i _ => l.length - (intOf i).toNat)
          case atStart => exact ⟨0, Nat.zero_le _, by simp, hbw, fun j hj => absurd hj (by omega)⟩
          case round =>
            clear hbw hsz
            obtain ⟨k, hk, rfl, hbw, hall⟩ := hrel
            have HB := Lib.hid hall; clear hall
            have hsz := hbw.size
            by_cases hlt2 : k + 2 < l.length
            · have hd0 := chB_at l h k (HALL.out k (by omega))
              have hd1 := chB_at l h (k + 1) (HALL.out (k + 1) (by omega))
              have hd2 := chB_at l h (k + 2) (HALL.out (k + 2) hlt2)
              have ha0 := HVA.out k (by omega)
              have ha1 := HVA.out (k + 1) (by omega)
              have ha2 := HVA.out (k + 2) hlt2
              have hx0 := HC'.out k (by rw [HLEN.out]; omega)
              have hx1 := HC'.out (k + 1) (by rw [HLEN.out]; omega)
              have hx2 := HC'.out (k + 2) (by rw [HLEN.out]; omega)
              have hy0 := HC.out k (by omega)
              have hy1 := HC.out (k + 1) (by omega)
              have hy2 := HC.out (k + 2) hlt2
              rw [← hbw.cell (by exact hb'), ← hbw.cell (by exact hb')] at hx0 hx1 hx2
              rw [← hbw.cell (by exact hb), ← hbw.cell (by exact hb), ← hbw.cell (by exact hb)] at hy0 hy1 hy2
              obtain ⟨x0, x1⟩ := hx0
              obtain ⟨x2, x3⟩ := hx1
              obtain ⟨x4, x5⟩ := hx2
              obtain ⟨s0, _, _⟩ := hy0
              obtain ⟨s1, _, _⟩ := hy1
              obtain ⟨s2, _, _⟩ := hy2
              have hbr : b < wr.heap.size := by omega
              have hbr' : b' < wr.heap.size := by omega
              have hkh : k + 2 < h.length := by rw [HLEN.out]; exact hlt2
              have hkl25 : k + 2 ≤ 25 := by omega
              have _hi0 : (k : Int) + 2 < (l.length : Int) := by omega
              have _hi1 : (k : Int) + 2 < (h.length : Int) := by omega
              have _hi2 : (k : Int) + 1 < (h.length : Int) := by omega
              have _hi3 : (k : Int) < (h.length : Int) := by omega
              have _hi4 : (k : Int) + 1 < (l.length : Int) := by omega
              have _hi5 : (k : Int) < (l.length : Int) := by omega
              have _hi6 : (0 : Int) ≤ (k : Int) + 2 := by omega
              have _hi7 : (0 : Int) ≤ (k : Int) + 1 := by omega
              have _hp0 : ((k : Int) + 2).toNat = k + 2 := by omega
              have _hp1 : ((k : Int) + 1).toNat = k + 1 := by omega
              have _hw1 : IntKind.i64.wrap (k : Int) = (k : Int) := by rw [IntKind.wrap_i64]; omega
              have _hw2 : IntKind.i64.wrap ((k : Int) + 1) = (k : Int) + 1 := by rw [IntKind.wrap_i64]; omega
              have _hw3 : IntKind.i64.wrap ((k : Int) + 2 - 1) = (k : Int) + 1 := by rw [IntKind.wrap_i64]; omega
              have _hw4 : IntKind.i64.wrap ((k : Int) + 2 - 2) = (k : Int) := by rw [IntKind.wrap_i64]; omega
              have hbend : bendB l h k = decide (((nthR h (k + 2)).num * (nthR h (k + 1)).den - (nthR h (k + 1)).num * (nthR h (k + 2)).den) * (nthR h k).den * ((nthS l (k + 1)).a - (nthS l k).a) < ((nthR h (k + 1)).num * (nthR h k).den - (nthR h k).num * (nthR h (k + 1)).den) * (nthR h (k + 2)).den * ((nthS l (k + 2)).a - (nthS l (k + 1)).a)) := rfl
              have HBD := Lib.hid hbend; clear hbend
              go_upto_region 16 with fail
              go_cut [10, 11, 12] (fun p q r wx => ∃ g0 g1 g2, p = .pointer (some ⟨g0, 0, none⟩) ∧ q = .pointer (some ⟨g1, 0, none⟩) ∧ r = .pointer (some ⟨g2, 0, none⟩) ∧ BK wx g0 #[.int .i64 (nthR h k).num, .int .i64 (nthR h k).den] 25 ∧ BK wx g1 #[.int .i64 (nthR h (k + 1)).num, .int .i64 (nthR h (k + 1)).den] 25 ∧ BK wx g2 #[.int .i64 (nthR h (k + 2)).num, .int .i64 (nthR h (k + 2)).den] 25 ∧ Below wr.heap.size wr wx)
              case first =>
                refine plain_read 14 6 mixed (by kernel_rfl) rfl ?_
                simp only [List.take_succ_cons, List.take_zero]
                (repeat (first | (refine ⟨undef, .inr ⟨by rfl, rfl⟩, ?_⟩; simp only [Act.put, List.setIfInBounds_toArray, List.set_cons_succ, List.set_cons_zero]) | (refine ⟨?_, .inl ⟨by rfl, ?_⟩, ?_⟩; rotate_left; (intro X hX; obtain ⟨r1, r2⟩ := Below.rules hX; clear hX; go_simp; rfl); simp only [Act.put, List.setIfInBounds_toArray, List.set_cons_succ, List.set_cons_zero])))
                refine any_run3 (i := 14) (j := 15) (k := 16) (by kernel_rfl) (by rfl) (by rfl) (by rfl) (by rfl) (by rfl) (by rfl) ?_ ?_ ?_
                · intro K hK
                  go_wp2_with fail
                  refine hK _ _ (fun _ => by exact bel_of) ?_
                  clear hK K
                  refine any_run2 (i := 15) (j := 16) (by kernel_rfl) (by rfl) (by rfl) (by rfl) (by rfl) ?_ ?_
                  · intro K hK
                    go_wp2_with fail
                    refine hK _ _ (fun _ => by exact bel_of) ?_
                    clear hK K
                    refine any_run1 (i := 16) (by kernel_rfl) (by rfl) (by rfl) ?_
                    intro K hK
                    go_wp2_with fail
                    refine hK _ _ (fun _ => by exact bel_of) ?_
                    clear hK K
                    refine any_run1 (i := 17) (by kernel_rfl) (by rfl) (by rfl) ?_
                    intro K hK
                    go_wp2_with fail
                    refine hK _ _ (fun _ => by exact bel_of) ?_
                    clear hK K
                    refine any_run1 (i := 18) (by kernel_rfl) (by rfl) (by rfl) ?_
                    intro K hK
                    go_wp2_with fail
                    refine hK _ _ (fun _ => by exact bel_of) ?_
                    clear hK K
                    refine any_run1 (i := 19) (by kernel_rfl) (by rfl) (by rfl) ?_
                    intro K hK
                    go_wp2_with fail
                    refine hK _ _ (fun hx => (Bool.false_ne_true (hx.symm.trans (by kernel_rfl))).elim) ?_
                    clear hK K
                    refine any_done (by kernel_rfl) (NoPanic.normal ?_)
                    go_wp2_with fail
                    go_meet
                    exact ⟨_, _, _, rfl, rfl, rfl, by (repeat (first | assumption | (refine BK.new' _ _ _ _ ?_; simp; done) | refine BK.alloc ?_ _)), by (repeat (first | assumption | (refine BK.new' _ _ _ _ ?_; simp; done) | refine BK.alloc ?_ _)), by (repeat (first | assumption | (refine BK.new' _ _ _ _ ?_; simp; done) | refine BK.alloc ?_ _)), by exact bel_of⟩
                  · intro K hK
                    go_wp2_with fail
                    refine hK _ _ (fun _ => by exact bel_of) ?_
                    clear hK K
                    refine any_run1 (i := 15) (by kernel_rfl) (by rfl) (by rfl) ?_
                    intro K hK
                    go_wp2_with fail
                    refine hK _ _ (fun _ => by exact bel_of) ?_
                    clear hK K
                    refine any_run1 (i := 17) (by kernel_rfl) (by rfl) (by rfl) ?_
                    intro K hK
                    go_wp2_with fail
                    refine hK _ _ (fun _ => by exact bel_of) ?_
                    clear hK K
                    refine any_run1 (i := 18) (by kernel_rfl) (by rfl) (by rfl) ?_
                    intro K hK
                    go_wp2_with fail
                    refine hK _ _ (fun _ => by exact bel_of) ?_
                    clear hK K
                    refine any_run1 (i := 19) (by kernel_rfl) (by rfl) (by rfl) ?_
                    intro K hK
                    go_wp2_with fail
                    refine hK _ _ (fun hx => (Bool.false_ne_true (hx.symm.trans (by kernel_rfl))).elim) ?_
                    clear hK K
                    refine any_done (by kernel_rfl) (NoPanic.normal ?_)
                    go_wp2_with fail
                    go_meet
                    exact ⟨_, _, _, rfl, rfl, rfl, by (repeat (first | assumption | (refine BK.new' _ _ _ _ ?_; simp; done) | refine BK.alloc ?_ _)), by (repeat (first | assumption | (refine BK.new' _ _ _ _ ?_; simp; done) | refine BK.alloc ?_ _)), by (repeat (first | assumption | (refine BK.new' _ _ _ _ ?_; simp; done) | refine BK.alloc ?_ _)), by exact bel_of⟩
                · intro K hK
                  go_wp2_with fail
                  refine hK _ _ (fun _ => by exact bel_of) ?_
                  clear hK K
                  refine any_run2 (i := 14) (j := 16) (by kernel_rfl) (by rfl) (by rfl) (by rfl) (by rfl) ?_ ?_
                  · intro K hK
                    go_wp2_with fail
                    refine hK _ _ (fun _ => by exact bel_of) ?_
                    clear hK K
                    refine any_run1 (i := 16) (by kernel_rfl) (by rfl) (by rfl) ?_
                    intro K hK
                    go_wp2_with fail
                    refine hK _ _ (fun _ => by exact bel_of) ?_
                    clear hK K
                    refine any_run1 (i := 17) (by kernel_rfl) (by rfl) (by rfl) ?_
                    intro K hK
                    go_wp2_with fail
                    refine hK _ _ (fun _ => by exact bel_of) ?_
                    clear hK K
                    refine any_run1 (i := 18) (by kernel_rfl) (by rfl) (by rfl) ?_
                    intro K hK
                    go_wp2_with fail
                    refine hK _ _ (fun _ => by exact bel_of) ?_
                    clear hK K
                    refine any_run1 (i := 19) (by kernel_rfl) (by rfl) (by rfl) ?_
                    intro K hK
                    go_wp2_with fail
                    refine hK _ _ (fun hx => (Bool.false_ne_true (hx.symm.trans (by kernel_rfl))).elim) ?_
                    clear hK K
                    refine any_done (by kernel_rfl) (NoPanic.normal ?_)
                    go_wp2_with fail
                    go_meet
                    exact ⟨_, _, _, rfl, rfl, rfl, by (repeat (first | assumption | (refine BK.new' _ _ _ _ ?_; simp; done) | refine BK.alloc ?_ _)), by (repeat (first | assumption | (refine BK.new' _ _ _ _ ?_; simp; done) | refine BK.alloc ?_ _)), by (repeat (first | assumption | (refine BK.new' _ _ _ _ ?_; simp; done) | refine BK.alloc ?_ _)), by exact bel_of⟩
                  · intro K hK
                    go_wp2_with fail
                    refine hK _ _ (fun _ => by exact bel_of) ?_
                    clear hK K
                    refine any_run1 (i := 14) (by kernel_rfl) (by rfl) (by rfl) ?_
                    intro K hK
                    go_wp2_with fail
                    refine hK _ _ (fun _ => by exact bel_of) ?_
                    clear hK K
                    refine any_run1 (i := 17) (by kernel_rfl) (by rfl) (by rfl) ?_
                    intro K hK
                    go_wp2_with fail
                    refine hK _ _ (fun _ => by exact bel_of) ?_
                    clear hK K
                    refine any_run1 (i := 18) (by kernel_rfl) (by rfl) (by rfl) ?_
                    intro K hK
                    go_wp2_with fail
                    refine hK _ _ (fun _ => by exact bel_of) ?_
                    clear hK K
                    refine any_run1 (i := 19) (by kernel_rfl) (by rfl) (by rfl) ?_
                    intro K hK
                    go_wp2_with fail
                    refine hK _ _ (fun hx => (Bool.false_ne_true (hx.symm.trans (by kernel_rfl))).elim) ?_
                    clear hK K
                    refine any_done (by kernel_rfl) (NoPanic.normal ?_)
                    go_wp2_with fail
                    go_meet
                    exact ⟨_, _, _, rfl, rfl, rfl, by (repeat (first | assumption | (refine BK.new' _ _ _ _ ?_; simp; done) | refine BK.alloc ?_ _)), by (repeat (first | assumption | (refine BK.new' _ _ _ _ ?_; simp; done) | refine BK.alloc ?_ _)), by (repeat (first | assumption | (refine BK.new' _ _ _ _ ?_; simp; done) | refine BK.alloc ?_ _)), by exact bel_of⟩
                · intro K hK
                  go_wp2_with fail
                  refine hK _ _ (fun _ => by exact bel_of) ?_
                  clear hK K
                  refine any_run2 (i := 14) (j := 15) (by kernel_rfl) (by rfl) (by rfl) (by rfl) (by rfl) ?_ ?_
                  · intro K hK
                    go_wp2_with fail
                    refine hK _ _ (fun _ => by exact bel_of) ?_
                    clear hK K
                    refine any_run1 (i := 15) (by kernel_rfl) (by rfl) (by rfl) ?_
                    intro K hK
                    go_wp2_with fail
                    refine hK _ _ (fun _ => by exact bel_of) ?_
                    clear hK K
                    refine any_run1 (i := 17) (by kernel_rfl) (by rfl) (by rfl) ?_
                    intro K hK
                    go_wp2_with fail
                    refine hK _ _ (fun _ => by exact bel_of) ?_
                    clear hK K
                    refine any_run1 (i := 18) (by kernel_rfl) (by rfl) (by rfl) ?_
                    intro K hK
                    go_wp2_with fail
                    refine hK _ _ (fun _ => by exact bel_of) ?_
                    clear hK K
                    refine any_run1 (i := 19) (by kernel_rfl) (by rfl) (by rfl) ?_
                    intro K hK
                    go_wp2_with fail
                    refine hK _ _ (fun hx => (Bool.false_ne_true (hx.symm.trans (by kernel_rfl))).elim) ?_
                    clear hK K
                    refine any_done (by kernel_rfl) (NoPanic.normal ?_)
                    go_wp2_with fail
                    go_meet
                    exact ⟨_, _, _, rfl, rfl, rfl, by (repeat (first | assumption | (refine BK.new' _ _ _ _ ?_; simp; done) | refine BK.alloc ?_ _)), by (repeat (first | assumption | (refine BK.new' _ _ _ _ ?_; simp; done) | refine BK.alloc ?_ _)), by (repeat (first | assumption | (refine BK.new' _ _ _ _ ?_; simp; done) | refine BK.alloc ?_ _)), by exact bel_of⟩
                  · intro K hK
                    go_wp2_with fail
                    refine hK _ _ (fun _ => by exact bel_of) ?_
                    clear hK K
                    refine any_run1 (i := 14) (by kernel_rfl) (by rfl) (by rfl) ?_
                    intro K hK
                    go_wp2_with fail
                    refine hK _ _ (fun _ => by exact bel_of) ?_
                    clear hK K
                    refine any_run1 (i := 17) (by kernel_rfl) (by rfl) (by rfl) ?_
                    intro K hK
                    go_wp2_with fail
                    refine hK _ _ (fun _ => by exact bel_of) ?_
                    clear hK K
                    refine any_run1 (i := 18) (by kernel_rfl) (by rfl) (by rfl) ?_
                    intro K hK
                    go_wp2_with fail
                    refine hK _ _ (fun _ => by exact bel_of) ?_
                    clear hK K
                    refine any_run1 (i := 19) (by kernel_rfl) (by rfl) (by rfl) ?_
                    intro K hK
                    go_wp2_with fail
                    refine hK _ _ (fun hx => (Bool.false_ne_true (hx.symm.trans (by kernel_rfl))).elim) ?_
                    clear hK K
                    refine any_done (by kernel_rfl) (NoPanic.normal ?_)
                    go_wp2_with fail
                    go_meet
                    exact ⟨_, _, _, rfl, rfl, rfl, by (repeat (first | assumption | (refine BK.new' _ _ _ _ ?_; simp; done) | refine BK.alloc ?_ _)), by (repeat (first | assumption | (refine BK.new' _ _ _ _ ?_; simp; done) | refine BK.alloc ?_ _)), by (repeat (first | assumption | (refine BK.new' _ _ _ _ ?_; simp; done) | refine BK.alloc ?_ _)), by exact bel_of⟩
              case rest =>
                obtain ⟨g0, g1, g2, rfl, rfl, rfl, b0, b1, b2, hbx⟩ := hcut
                have hbw2 : Below w.heap.size w wc := hbw.trans (hbx.mono hsz)
                rw [← hbx.cell (by exact hbr)] at s0 s1 s2
                have hxs := hbx.size
                have hbr2 : b < wc.heap.size := by omega
                have u0 := b0.cell 0
                have u1 := b0.cell 1
                have v0 := b1.cell 0
                have v1 := b1.cell 1
                have z0 := b2.cell 0
                have z1 := b2.cell 1
                simp at u0 u1 v0 v1 z0 z1
                clear x0 x1 x2 x3 x4 x5 b0 b1 b2
                have e1 := mul_bd (nthR h (k + 1)).num (nthR h k).den 1000000 1000 (by omega) (by omega)
                have e2 := mul_bd (nthR h k).num (nthR h (k + 1)).den 1000000 1000 (by omega) (by omega)
                have e3 := mul_bd (nthR h (k + 2)).num (nthR h (k + 1)).den 1000000 1000 (by omega) (by omega)
                have e4 := mul_bd (nthR h (k + 1)).num (nthR h (k + 2)).den 1000000 1000 (by omega) (by omega)
                simp only [Nat.reduceMul] at e1 e2 e3 e4
                have e5 := mul_bd ((nthR h (k + 1)).num * (nthR h k).den - (nthR h k).num * (nthR h (k + 1)).den) (nthR h (k + 2)).den 2000000000 1000 (by omega) (by omega)
                have e6 := mul_bd ((nthR h (k + 2)).num * (nthR h (k + 1)).den - (nthR h (k + 1)).num * (nthR h (k + 2)).den) (nthR h k).den 2000000000 1000 (by omega) (by omega)
                simp only [Nat.reduceMul] at e5 e6
                have e7 := mul_bd (((nthR h (k + 1)).num * (nthR h k).den - (nthR h k).num * (nthR h (k + 1)).den) * (nthR h (k + 2)).den) ((nthS l (k + 2)).a - (nthS l (k + 1)).a) 2000000000000 1000 (by omega) (by omega)
                have e8 := mul_bd (((nthR h (k + 2)).num * (nthR h (k + 1)).den - (nthR h (k + 1)).num * (nthR h (k + 2)).den) * (nthR h k).den) ((nthS l (k + 1)).a - (nthS l k).a) 2000000000000 1000 (by omega) (by omega)
                simp only [Nat.reduceMul] at e7 e8
                obtain ⟨q, hq⟩ : ∃ q, bendB l h k = q := ⟨_, rfl⟩
                have dq := HBD.out.symm.trans hq
                have HQ := Lib.hid hq
                clear hq
                cases q with
                | true =>
                  have HT := Lib.hid (checkHP_gape l h HE0.out HLEN.out HALL.out k hlt2 HQ.out)
                  go_wp2_with fail
                  go_quiet (fail)
                  go_wp2_with fail
                  go_ret
                  exact ⟨ret_int HT.out.symm, by exact bel_of⟩
                | false =>
                  go_wp2_with fail
                  go_quiet (fail)
                  go_wp2_with fail
                  go_roundw
                  case rel => exact ⟨k + 1, by omega, by go_num, by exact bel_of, fun j hj => by
                    rcases Nat.lt_succ_iff_lt_or_eq.1 hj with h1 | rfl
                    · exact HB.out j h1
                    · exact HQ.out⟩
                  case measure => simp [intOf]; omega
            · have HT := Lib.hid (checkHP_ok l h HE0.out HLEN.out HALL.out fun j hj => HB.out j (by omega))
              have hge : (l.length : Int) ≤ (k : Int) + 2 := by omega
              go_wp2_with fail
              go_ret
              exact ⟨ret_int HT.out.symm, by exact bel_of⟩
    · have hbne : ((h.length : Int) != (l.length : Int)) = true := by simp; omega
      have HT := Lib.hid (checkHP_len l h he0 hlen)
      clear hlen he0
      go_enter Try.func22, Try.ntmps22
      go_wp2_with fail
      refine HP.out.mono ?_
      rintro e w1 ⟨rfl, hb1⟩
      go_wp2_with fail
      go_ret
      exact ⟨ret_int HT.out.symm, by exact bel_of⟩
  · have hpb : (e0 != 0) = true := by simpa using hp
    have HT := Lib.hid (checkHP_pair l h (by rw [he0]; exact hp))
    have HE := Lib.hid he0
    clear he0
    go_enter Try.func22, Try.ntmps22
    go_wp2_with fail
    refine HP.out.mono ?_
    rintro e w1 ⟨rfl, hb1⟩
    go_wp2_with fail
    go_ret
    exact ⟨ret_int (by rw [HT.out, HE.out]), by exact bel_of⟩
end Go.Proofs.Ytbjmkmambmeifaa
