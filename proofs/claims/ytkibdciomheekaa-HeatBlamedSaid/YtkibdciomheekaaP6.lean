/- Ranges of hardnesses; ways: which are valid, for the reference. -/
import Derived.Test.YtkibdciomheekaaP4
import Derived.Test.YtkibdciomheekaaP5
set_option linter.all false
set_option linter.unnecessarySimpa false
set_option linter.unusedSimpArgs false
set_option linter.unusedVariables false
set_option linter.unusedSectionVars false

set_option linter.all false
namespace Go.Proofs.Ytkibdciomheekaa
open Go.RowKit Hp

set_option maxHeartbeats 1000000 in
theorem isHardR_any (r : Rg) (w : World) :
    Calls Try.prog 47 #[rV r] w fun e w' => e = .returned (.bool (hard r)) ∧ Below w.heap.size w w' := by
  obtain ⟨lo, hi⟩ := r
  have HD := Lib.hid (show hard ⟨lo, hi⟩ = (decide (0 ≤ lo) && (decide (lo ≤ hi) && decide (hi ≤ 1000))) by
    rw [Bool.eq_iff_iff, hard_iff]; simp; omega)
  unfold rV
  go_enter Try.func47, Try.ntmps47
  by_cases h1 : 0 ≤ lo
  · by_cases h2 : lo ≤ hi
    · have HB := Lib.hid (HD.out.trans (by rw [decide_eq_true h1, decide_eq_true h2] <;> rfl))
      clear HD
      go_wp2_with fail
      go_ret
      exact ⟨ret_bool HB.out.symm, by exact bel_of⟩
    · have HB := Lib.hid (HD.out.trans (by rw [decide_eq_true h1, decide_eq_false h2] <;> rfl))
      clear HD
      go_wp2_with fail
      go_ret
      exact ⟨ret_bool HB.out.symm, by exact bel_of⟩
  · have HB := Lib.hid (HD.out.trans (by rw [decide_eq_false h1] <;> rfl))
    clear HD
    go_wp2_with fail
    go_ret
    exact ⟨ret_bool HB.out.symm, by exact bel_of⟩

theorem okK_zero {ks : Wy} : okK ks 0 = (!(!((nthK ks 0).src == 0) || decide (1000 < (nthK ks 0).src)) && hard (nthK ks 0).rg) := by
  unfold okK
  rw [Bool.eq_iff_iff]
  simp
theorem okK_succ {ks : Wy} {k : Nat} (h : 0 < k) : okK ks k = (!(decide ((nthK ks k).src ≤ (nthK ks (k - 1)).src) || decide (1000 < (nthK ks k).src)) && hard (nthK ks k).rg) := by
  unfold okK
  rw [Bool.eq_iff_iff]
  simp [show k ≠ 0 by omega]
theorem okR_eq' {ks : Wy} {k : Nat} : okR ks k = (!(decide ((nthK ks (k + 1)).lo < (nthK ks k).lo) || decide ((nthK ks (k + 1)).hi < (nthK ks k).hi) || decide ((nthK ks k).hi + 1 < (nthK ks (k + 1)).lo))) := by
  unfold okR
  rw [Bool.eq_iff_iff]
  simp
  omega

set_option maxHeartbeats 8000000 in
set_option maxRecDepth 100000 in
theorem checkWayR_any (ks : Wy) (v : Value) (w : World) (hl : ks.length ≤ maxLen) (h : RK w w.heap.size v ks) :
    Calls Try.prog 20 #[wV v] w fun e w' => e = .returned (.int .i64 (wayE ks)) ∧ Below w.heap.size w w' := by
  unfold maxLen at hl
  obtain ⟨A, cap, rfl⟩ := h.slice
  unfold wV
  have hC : Below w.heap.size w w := Below.refl _ _
  obtain ⟨n0, hn0⟩ : ∃ n, w.heap.size = n := ⟨_, rfl⟩
  have hK := h
  clear h
  rw [hn0] at hC
  by_cases hm : ks.length = 0 ∨ 12 < ks.length
  · have HE := Lib.hid (show wayE ks = 6 by unfold wayE; rw [if_pos hm])
    rcases hm with hm | hm
    · have hz : (ks.length : Int) < 1 := by omega
      have hz3 : ks.length = 0 := hm
      clear hm
      go_enter Try.func20, Try.ntmps20
      go_wp2_with fail
      go_ret
      exact ⟨ret_int HE.out.symm, by exact bel_of⟩
    · have hz : ¬ (ks.length : Int) < 1 := by omega
      have hz2 : (ks.length : Int) > 12 := by omega
      clear hm
      go_enter Try.func20, Try.ntmps20
      go_wp2_with fail
      go_ret
      exact ⟨ret_int HE.out.symm, by exact bel_of⟩
  have HM := Lib.hid hm
  have hz : ¬ (ks.length : Int) < 1 := by omega
  have hz2 : ¬ (ks.length : Int) > 12 := by omega
  have hl12 : ks.length ≤ 12 := by omega
  have hl1 : 1 ≤ ks.length := by omega
  clear hm
  go_enter Try.func20, Try.ntmps20
  go_upto_region 3 with fail
  have bx : BK (w.alloc (.cells #[.slice A ks.length cap] 28)) n0 #[.slice A ks.length cap] 28 := BK.new' _ _ _ n0 hn0
  replace hC : Below n0 w (w.alloc (.cells #[.slice A ks.length cap] 28)) := Below.alloc hC (by omega) _
  replace hK := (RS.below hK (w' := (w.alloc (.cells #[.slice A ks.length cap] 28))) (Below.alloc (Below.refl _ _) (Nat.le_refl _) _)).more (B' := (w.alloc (.cells #[.slice A ks.length cap] 28)).heap.size) (by simp)
  generalize (w.alloc (.cells #[.slice A ks.length cap] 28)) = W1 at *
  clear hz hz2
  go_wp2_with fail
  go_loopw [3] (fun i wr => ∃ k : Nat, k ≤ ks.length ∧ i = .int .i64 k ∧ allB (okK ks) k = true ∧ Below W1.heap.size W1 wr) (fun i _ => ks.length - (intOf i).toNat)
  case atStart => exact ⟨0, Nat.zero_le _, rfl, rfl, Below.refl _ _⟩
  case round =>
    obtain ⟨k, hk, rfl, hall, hb⟩ := hrel
    replace hC := hC.trans (hb.mono (by have := hC.size; omega))
    replace hK := (RS.below hK hb).more hb.size
    replace bx := bx.below hb bx.lt
    have hbr := Lib.hid hb
    have HALL := Lib.hid hall
    clear hb hall
    have lb := bx.lt
    have c0 := bx.cell 0
    simp at c0
    obtain ⟨A', cap', bb, off, hve, hA, hc⟩ := RK.cells hK
    obtain ⟨rfl, hbb⟩ := hA (by omega)
    injection hve with q1 q2 q3
    subst q1 q3
    clear hA q2
    by_cases hlt : k < ks.length
    · have hlt' : (k : Int) < (ks.length : Int) := by omega
      obtain ⟨d0, d1, d2⟩ := hc k hlt
      have bad : okK ks k = false → wayE ks = 3 := fun h => wayE_range HM.out hlt h
      have BAD := Lib.hid bad
      clear bad
      obtain ⟨⟨src, lo, hi⟩, hkk⟩ : ∃ x, nthK ks k = x := ⟨_, rfl⟩
      rw [hkk] at d0 d1 d2
      dsimp only at d0 d1 d2
      -- the kink in a box
      go_upto_region 7 with fail
      obtain ⟨m, hm⟩ : ∃ m, wr.heap.size = m := ⟨_, rfl⟩
      have kx : BK (wr.alloc (.cells #[.int .i64 src, .int .i64 lo, .int .i64 hi] 92)) m #[.int .i64 src, .int .i64 lo, .int .i64 hi] 92 := BK.new' _ _ _ m hm
      have hb2 : Below wr.heap.size wr (wr.alloc (.cells #[.int .i64 src, .int .i64 lo, .int .i64 hi] 92)) := Below.alloc (Below.refl _ _) (Nat.le_refl _) _
      replace hC := hC.trans (hb2.mono (by have := hC.size; omega))
      have hbr2 := Lib.hid (hbr.out.trans (hb2.mono hbr.out.size))
      replace bx := bx.below hb2 bx.lt
      replace hK := (RS.below hK hb2).more hb2.size
      try rw [hm]
      clear hb2 hm d0 d1 d2 lb c0 hc hbb
      generalize (wr.alloc (.cells #[.int .i64 src, .int .i64 lo, .int .i64 hi] 92)) = W2 at *
      have lk := kx.lt
      have k0 := kx.cell 0
      have k1 := kx.cell 1
      have k2 := kx.cell 2
      have lb := bx.lt
      have c0 := bx.cell 0
      simp at k0 k1 k2 c0
      rcases Nat.eq_zero_or_pos k with hk0 | hk0
      · subst hk0
        have HQ := Lib.hid (okK_zero (ks := ks))
        rw [hkk] at HQ
        dsimp only at HQ
        unfold Kk.rg at HQ
        clear hkk
        by_cases a1 : src = 0
        · subst a1
          have HQ2 : Hid (okK ks 0 = hard ⟨lo, hi⟩) := Lib.hid (HQ.out.trans (by simp))
          refine wp_region_noPanic (plain_any [0, 1, 2, 3, 4, 5, 6, 7, 8, 9, 10, 11, 12, 13, 14, 15, 16, 17, 18, 19, 20, 21, 22, 23, 24, 25, 26, 27, 28, 29, 30, 32, 33] (Below W2.heap.size W2) mixed ?_)
          refine any_tk 0 ?_
          have d0z : Below W2.heap.size W2 W2.drew := by exact bel_of
          refine any_tk 1 ?_
          refine any_tk 2 ?_
          refine any_tk 3 ?_
          refine any_tk 4 ?_
          refine any_tk 5 ?_
          refine any_tk 6 ?_
          refine any_tk 7 ?_
          refine any_tk 8 ?_
          refine any_tk 9 ?_
          refine any_tk 10 ?_
          (refine any_take 11 undef (by rfl) (by kernel_rfl) (fun _ _ _ _ _ hx => hx.elim) (.inr ⟨by rfl, by rfl⟩) (by exact bel_of) ?_; simp only [List.getElem_toArray, List.getElem_cons_succ, List.getElem_cons_zero, Act.put, List.setIfInBounds_toArray, List.set_cons_succ, List.set_cons_zero])
          (refine any_take 12 undef (by rfl) (by kernel_rfl) (fun _ _ _ _ _ hx => hx.elim) (.inr ⟨by rfl, by rfl⟩) (by exact bel_of) ?_; simp only [List.getElem_toArray, List.getElem_cons_succ, List.getElem_cons_zero, Act.put, List.setIfInBounds_toArray, List.set_cons_succ, List.set_cons_zero])
          (refine any_take 13 undef (by rfl) (by kernel_rfl) (fun _ _ _ _ _ hx => hx.elim) (.inr ⟨by rfl, by rfl⟩) (by exact bel_of) ?_; simp only [List.getElem_toArray, List.getElem_cons_succ, List.getElem_cons_zero, Act.put, List.setIfInBounds_toArray, List.set_cons_succ, List.set_cons_zero])
          (refine any_take 14 undef (by rfl) (by kernel_rfl) (fun _ _ _ _ _ hx => hx.elim) (.inr ⟨by rfl, by rfl⟩) (by exact bel_of) ?_; simp only [List.getElem_toArray, List.getElem_cons_succ, List.getElem_cons_zero, Act.put, List.setIfInBounds_toArray, List.set_cons_succ, List.set_cons_zero])
          (refine any_take 15 undef (by rfl) (by kernel_rfl) (fun _ _ _ _ _ hx => hx.elim) (.inr ⟨by rfl, by rfl⟩) (by exact bel_of) ?_; simp only [List.getElem_toArray, List.getElem_cons_succ, List.getElem_cons_zero, Act.put, List.setIfInBounds_toArray, List.set_cons_succ, List.set_cons_zero])
          (refine any_take 16 undef (by rfl) (by kernel_rfl) (fun _ _ _ _ _ hx => hx.elim) (.inr ⟨by rfl, by rfl⟩) (by exact bel_of) ?_; simp only [List.getElem_toArray, List.getElem_cons_succ, List.getElem_cons_zero, Act.put, List.setIfInBounds_toArray, List.set_cons_succ, List.set_cons_zero])
          (refine any_take 17 undef (by rfl) (by kernel_rfl) (fun _ _ _ _ _ hx => hx.elim) (.inr ⟨by rfl, by rfl⟩) (by exact bel_of) ?_; simp only [List.getElem_toArray, List.getElem_cons_succ, List.getElem_cons_zero, Act.put, List.setIfInBounds_toArray, List.set_cons_succ, List.set_cons_zero])
          (refine any_take 18 undef (by rfl) (by kernel_rfl) (fun _ _ _ _ _ hx => hx.elim) (.inr ⟨by rfl, by rfl⟩) (by exact bel_of) ?_; simp only [List.getElem_toArray, List.getElem_cons_succ, List.getElem_cons_zero, Act.put, List.setIfInBounds_toArray, List.set_cons_succ, List.set_cons_zero])
          (refine any_take 19 undef (by rfl) (by kernel_rfl) (fun _ _ _ _ _ hx => hx.elim) (.inr ⟨by rfl, by rfl⟩) (by exact bel_of) ?_; simp only [List.getElem_toArray, List.getElem_cons_succ, List.getElem_cons_zero, Act.put, List.setIfInBounds_toArray, List.set_cons_succ, List.set_cons_zero])
          (refine any_take 20 undef (by rfl) (by kernel_rfl) (fun _ _ _ _ _ hx => hx.elim) (.inr ⟨by rfl, by rfl⟩) (by exact bel_of) ?_; simp only [List.getElem_toArray, List.getElem_cons_succ, List.getElem_cons_zero, Act.put, List.setIfInBounds_toArray, List.set_cons_succ, List.set_cons_zero])
          refine any_tk 21 ?_
          refine any_tk 22 ?_
          refine any_tk 23 ?_
          refine any_tk 24 ?_
          refine any_tk 25 ?_
          refine any_tk 26 ?_
          refine any_tk 27 ?_
          refine any_tk 28 ?_
          refine any_tk 29 ?_
          refine any_tk 30 ?_
          have qz1 := d0z.size
          refine any_run1 (i := 31) (by kernel_rfl) (by rfl) (by kernel_rfl) ?_
          intro K hK
          go_wp2_with fail
          refine (isHardR_any ⟨lo, hi⟩ _).mono ?_
          rintro e vz1 ⟨rfl, hb⟩
          obtain ⟨q, hq⟩ : ∃ q, hard ⟨lo, hi⟩ = q := ⟨_, rfl⟩
          rw [hq] at HQ2
          rw [hq]
          clear hq
          have ez1 : Below W2.heap.size W2 vz1 := d0z.trans (hb.mono d0z.size)
          clear hb
          refine hK _ _ (fun _ => ez1) ?_
          clear hK K
          refine any_tk 32 ?_
          refine any_tk 33 ?_
          refine any_done (by kernel_rfl) (NoPanic.normal ?_)
          have hbr3 := Lib.hid (hbr2.out.trans (ez1.mono hbr2.out.size))
          replace hC := hC.trans (ez1.mono (by have := hC.size; omega))
          clear ez1 lk k0 k1 k2 lb c0
          cases q
          case false =>
            have HE := Lib.hid (BAD.out (by rw [HQ2.out] <;> rfl))
            go_wp2_with fail
            go_ret
            exact ⟨ret_int HE.out.symm, by (try rw [hn0]); exact hC⟩
          have HO := Lib.hid (allB_yes HALL.out (by rw [HQ2.out] <;> rfl))
          go_wp2_with fail
          go_roundw
          case rel => exact ⟨_, by omega, by go_num, HO.out, hbr3.out⟩
          case measure => simp [intOf]; omega
        · have b1 : (src == 0) = false := by simp [a1]
          have b2 : (src != 0) = true := by simp [a1]
          have HE := Lib.hid (BAD.out (by rw [HQ.out, b1] <;> rfl))
          clear a1
          go_quiet (fail)
          go_wp2_with fail
          go_ret
          exact ⟨ret_int HE.out.symm, by (try rw [hn0]); first | exact hC | exact bel_of⟩
      · have HQ := Lib.hid (okK_succ (ks := ks) hk0)
        have hp := (RK.cells hK)
        obtain ⟨A', cap', bb', off', hve, hA, hc⟩ := hp
        obtain ⟨hA', hbb'⟩ := hA (by omega)
        rw [hA'] at hve
        injection hve with q1 q2 q3
        injection q1 with q1
        injection q1 with q4 q5
        subst q4 q5
        obtain ⟨e0, _, _⟩ := hc (k - 1) (by omega)
        obtain ⟨p, hpp⟩ : ∃ x, (nthK ks (k - 1)).src = x := ⟨_, rfl⟩
        rw [hkk, hpp] at HQ
        rw [hpp] at e0
        dsimp only at HQ
        unfold Kk.rg at HQ
        clear hA hc q2 q3 hkk hpp hA'
        have b0 : ((k : Int) == 0) = false := beq_eq_false_iff_ne.2 (by omega)
        have b9 : (0 : Int) < (k : Int) := by omega
        have wk : IntKind.i64.wrap ((k : Int) - 1) = (k : Int) - 1 := by rw [IntKind.wrap_i64]; omega
        have wk2 : ((k : Int) - 1).toNat = k - 1 := by omega
        have wk3 : (0 : Int) ≤ (k : Int) - 1 := by omega
        have wk4 : (k : Int) - 1 < (ks.length : Int) := by omega
        have wk5 : ¬ (k : Int) - 1 < 0 := by omega
        have wk6 : (1 : Int) ≤ (k : Int) := by omega
        have wk7 : k - 1 < ks.length := by omega
        by_cases a1 : src ≤ p
        · have HE := Lib.hid (BAD.out (by rw [HQ.out, decide_eq_true a1] <;> rfl))
          have b1 : decide (src ≤ p) = true := decide_eq_true a1
          go_quiet (fail)
          go_wp2_with fail
          go_ret
          exact ⟨ret_int HE.out.symm, by (try rw [hn0]); first | exact hC | exact bel_of⟩
        · have b1 : decide (src ≤ p) = false := decide_eq_false a1
          by_cases a2 : 1000 < src
          · have HE := Lib.hid (BAD.out (by rw [HQ.out, decide_eq_true a2]; simp))
            have b2 : decide (1000 < src) = true := decide_eq_true a2
            go_quiet (fail)
            go_wp2_with fail
            go_ret
            exact ⟨ret_int HE.out.symm, by (try rw [hn0]); first | exact hC | exact bel_of⟩
          · have b2 : decide (1000 < src) = false := decide_eq_false a2
            have HQ2 : Hid (okK ks k = hard ⟨lo, hi⟩) := Lib.hid (HQ.out.trans (by rw [b1, b2]; simp))
            clear a1 a2
            refine wp_region_noPanic (plain_any [0, 1, 2, 3, 4, 5, 6, 7, 8, 9, 10, 11, 12, 13, 14, 15, 16, 17, 18, 19, 20, 21, 22, 23, 24, 25, 26, 27, 28, 29, 30, 32, 33] (Below W2.heap.size W2) mixed ?_)
            refine any_tk 0 ?_
            have d0z : Below W2.heap.size W2 W2.drew := by exact bel_of
            refine any_tk 1 ?_
            refine any_tk 2 ?_
            (refine any_take 3 undef (by rfl) (by kernel_rfl) (fun _ _ _ _ _ hx => hx.elim) (.inr ⟨by rfl, by rfl⟩) (by exact bel_of) ?_; simp only [List.getElem_toArray, List.getElem_cons_succ, List.getElem_cons_zero, Act.put, List.setIfInBounds_toArray, List.set_cons_succ, List.set_cons_zero])
            (refine any_take 4 undef (by rfl) (by kernel_rfl) (fun _ _ _ _ _ hx => hx.elim) (.inr ⟨by rfl, by rfl⟩) (by exact bel_of) ?_; simp only [List.getElem_toArray, List.getElem_cons_succ, List.getElem_cons_zero, Act.put, List.setIfInBounds_toArray, List.set_cons_succ, List.set_cons_zero])
            (refine any_take 5 undef (by rfl) (by kernel_rfl) (fun _ _ _ _ _ hx => hx.elim) (.inr ⟨by rfl, by rfl⟩) (by exact bel_of) ?_; simp only [List.getElem_toArray, List.getElem_cons_succ, List.getElem_cons_zero, Act.put, List.setIfInBounds_toArray, List.set_cons_succ, List.set_cons_zero])
            refine any_tk 6 ?_
            refine any_tk 7 ?_
            refine any_tk 8 ?_
            refine any_tk 9 ?_
            refine any_tk 10 ?_
            refine any_tk 11 ?_
            refine any_tk 12 ?_
            refine any_tk 13 ?_
            refine any_tk 14 ?_
            refine any_tk 15 ?_
            refine any_tk 16 ?_
            refine any_tk 17 ?_
            refine any_tk 18 ?_
            refine any_tk 19 ?_
            refine any_tk 20 ?_
            refine any_tk 21 ?_
            refine any_tk 22 ?_
            refine any_tk 23 ?_
            refine any_tk 24 ?_
            refine any_tk 25 ?_
            refine any_tk 26 ?_
            refine any_tk 27 ?_
            refine any_tk 28 ?_
            refine any_tk 29 ?_
            refine any_tk 30 ?_
            have qz1 := d0z.size
            refine any_run1 (i := 31) (by kernel_rfl) (by rfl) (by kernel_rfl) ?_
            intro K hK
            go_wp2_with fail
            refine (isHardR_any ⟨lo, hi⟩ _).mono ?_
            rintro e vz1 ⟨rfl, hb⟩
            obtain ⟨q, hq⟩ : ∃ q, hard ⟨lo, hi⟩ = q := ⟨_, rfl⟩
            rw [hq] at HQ2
            rw [hq]
            clear hq
            have ez1 : Below W2.heap.size W2 vz1 := d0z.trans (hb.mono d0z.size)
            clear hb
            refine hK _ _ (fun _ => ez1) ?_
            clear hK K
            refine any_tk 32 ?_
            refine any_tk 33 ?_
            refine any_done (by kernel_rfl) (NoPanic.normal ?_)
            have hbr3 := Lib.hid (hbr2.out.trans (ez1.mono hbr2.out.size))
            replace hC := hC.trans (ez1.mono (by have := hC.size; omega))
            clear ez1 lk k0 k1 k2 lb c0
            cases q
            case false =>
              have HE := Lib.hid (BAD.out (by rw [HQ2.out] <;> rfl))
              go_wp2_with fail
              go_ret
              exact ⟨ret_int HE.out.symm, by (try rw [hn0]); exact hC⟩
            have HO := Lib.hid (allB_yes HALL.out (by rw [HQ2.out] <;> rfl))
            go_wp2_with fail
            go_roundw
            case rel => exact ⟨_, by omega, by go_num, HO.out, hbr3.out⟩
            case measure => simp [intOf]; omega
    · have hlt' : ¬ (k : Int) < (ks.length : Int) := by omega
      have hke : k = ks.length := by omega
      rw [hke] at HALL
      clear hk hlt hke hbr hc
      obtain ⟨wo, rfl⟩ : ∃ wo : World, wo = wr := ⟨_, rfl⟩
      go_wp2_with fail
      clear lb c0
      go_loopw [5] (fun i wr => ∃ k : Nat, k ≤ ks.length - 1 ∧ i = .int .i64 ((k + 1 : Nat) : Int) ∧ allB (okR ks) k = true ∧ Below wo.heap.size wo wr) (fun i _ => ks.length - (intOf i).toNat)
      case atStart => exact ⟨0, Nat.zero_le _, rfl, rfl, Below.refl _ _⟩
      case round =>
        obtain ⟨k, hk, rfl, hall, hb⟩ := hrel
        replace hC := hC.trans (hb.mono (by have := hC.size; omega))
        replace hK := (RS.below hK hb).more hb.size
        replace bx := bx.below hb bx.lt
        have hbr := Lib.hid hb
        have HALR := Lib.hid hall
        clear hb hall
        have lb := bx.lt
        have c0 := bx.cell 0
        simp at c0
        by_cases hlt : k + 1 < ks.length
        · have hlt' : ((k + 1 : Nat) : Int) < (ks.length : Int) := by omega
          obtain ⟨A', cap', bb', off', hve, hA, hc⟩ := RK.cells hK
          obtain ⟨hA', hbb'⟩ := hA (by omega)
          rw [hA'] at hve
          injection hve with q1 q2 q3
          injection q1 with q1
          injection q1 with q4 q5
          subst q4 q5
          obtain ⟨d0, d1, d2⟩ := hc k (by omega)
          obtain ⟨e0, e1, e2⟩ := hc (k + 1) (by omega)
          have HQ := Lib.hid (okR_eq' (ks := ks) (k := k))
          have hr := hard_iff.1 (Bool.and_eq_true_iff.1 (allB_iff.1 HALL.out k (by omega))).2
          obtain ⟨⟨src, lo, hi⟩, hkk⟩ : ∃ x, nthK ks k = x := ⟨_, rfl⟩
          obtain ⟨⟨src', lo', hi'⟩, hkk'⟩ : ∃ x, nthK ks (k + 1) = x := ⟨_, rfl⟩
          rw [hkk] at d0 d1 d2 hr
          rw [hkk'] at e0 e1 e2
          rw [hkk, hkk'] at HQ
          unfold Kk.rg at hr
          dsimp only at d0 d1 d2 e0 e1 e2 HQ hr
          have hhi : hi ≤ 1000 := hr.2.2
          have hlo : 0 ≤ hi := by omega
          have wk : IntKind.i64.wrap (((k + 1 : Nat) : Int) - 1) = (k : Int) := by rw [IntKind.wrap_i64]; omega
          have wk' : IntKind.i64.wrap ((k : Int) + 1 - 1) = (k : Int) := by rw [IntKind.wrap_i64]; omega
          have wk0 : IntKind.i64.wrap (k : Int) = (k : Int) := by rw [IntKind.wrap_i64]; omega
          have wk2 : (k : Int) < (ks.length : Int) := by omega
          have wk3 : k < ks.length := by omega
          clear hA hc q2 q3 hkk hkk' hr hA' d0 e0
          go_upto_region 12 with fail
          have d0y : Below wr.heap.size wr wr.drew := by exact bel_of
          refine wp_region_noPanic (plain_any [0, 1, 2, 3, 4, 5, 6, 7, 8, 9, 10, 11, 12] (Below wr.heap.size wr) mixed ?_)
          refine any_tk 0 ?_
          refine any_tk 1 ?_
          refine any_tk 2 ?_
          refine any_tk 3 ?_
          refine any_tk 4 ?_
          refine any_tk 5 ?_
          refine any_tk 6 ?_
          refine any_tk 7 ?_
          refine any_tk 8 ?_
          refine any_tk 9 ?_
          refine any_tk 10 ?_
          refine any_tk 11 ?_
          refine any_tk 12 ?_
          have dy1 : Below wr.heap.size wr wr.drew := by exact bel_of
          have hdr : Below wr.heap.size wr wr.drew := Below.drew (Below.refl _ _)
          clear hdr
          generalize wr.drew = uy2 at *
          refine any_run2 (i := 13) (j := 14) (by kernel_rfl) (by rfl) (by rfl) (by rfl) (by rfl) ?_ ?_
          ·skip
           intro K hK
           have qy4 := dy1.size
           have ey3 : Below wr.heap.size wr (uy2.alloc (.cells #[.int .i64 0, .int .i64 0] 33)) := Below.alloc dy1 dy1.size _
           have hnx : Below uy2.heap.size uy2 (uy2.alloc (.cells #[.int .i64 0, .int .i64 0] 33)) := Below.alloc (Below.refl _ _) (Nat.le_refl _) _
           go_wp2_with fail
           have p1 : BK (uy2.alloc (.cells #[.int .i64 0, .int .i64 0] 33)) uy2.heap.size #[.int .i64 0, .int .i64 0] 33 := BK.new _ _ _
           refine hK _ _ (fun _ => ey3) ?_
           clear hK K hnx
           generalize (uy2.alloc (.cells #[.int .i64 0, .int .i64 0] 33)) = vy5 at *
           obtain ⟨gp1, hgp1⟩ : ∃ g, uy2.heap.size = g := ⟨_, rfl⟩
           have hqp1 : wr.heap.size ≤ gp1 := by omega
           rw [hgp1] at p1
           try rw [hgp1]
           clear hgp1
           refine any_run1 (i := 14) (by kernel_rfl) (by rfl) (by kernel_rfl) ?_
           intro K hK
           have qy7 := ey3.size
           have ey6 : Below wr.heap.size wr (vy5.alloc (.cells #[.int .i64 0, .int .i64 0] 33)) := Below.alloc ey3 ey3.size _
           have hnx : Below vy5.heap.size vy5 (vy5.alloc (.cells #[.int .i64 0, .int .i64 0] 33)) := Below.alloc (Below.refl _ _) (Nat.le_refl _) _
           go_wp2_with fail
           have nep1p2 : gp1 ≠ vy5.heap.size := Nat.ne_of_lt p1.lt
           replace p1 := p1.below hnx p1.lt
           have p2 : BK (vy5.alloc (.cells #[.int .i64 0, .int .i64 0] 33)) vy5.heap.size #[.int .i64 0, .int .i64 0] 33 := BK.new _ _ _
           refine hK _ _ (fun _ => ey6) ?_
           clear hK K hnx
           generalize (vy5.alloc (.cells #[.int .i64 0, .int .i64 0] 33)) = vy8 at *
           obtain ⟨gp2, hgp2⟩ : ∃ g, vy5.heap.size = g := ⟨_, rfl⟩
           have hqp2 : wr.heap.size ≤ gp2 := by omega
           rw [hgp2] at p2 nep1p2
           try rw [hgp2]
           clear hgp2
           refine any_run1 (i := 15) (by kernel_rfl) (by rfl) (by kernel_rfl) ?_
           intro K hK
           have ey10 : Below wr.heap.size wr ((vy8.setCell ⟨gp1, 0, none⟩ (.int .i64 lo)).setCell ⟨gp1, 1, none⟩ (.int .i64 hi)) := Below.setCell (Below.setCell ey6 (by show wr.heap.size ≤ gp1; omega) _) (by show wr.heap.size ≤ gp1; omega) _
           have l := p1.lt
           have y0 := p1.cell 0
           have y1 := p1.cell 1
           simp at y0 y1
           have f0 := p1.frozen 0
           have f1 := p1.frozen 1
           go_wp2_with fail
           refine hK _ _ (fun _ => ey10) ?_
           clear hK K l y0 y1 f0 f1
           have p1_ := fin_rg p1 (.int .i64 lo) (.int .i64 hi)
           have p2_ := (p2.far (p := ⟨gp1, 0, none⟩) (by show gp2 ≠ gp1; omega) (.int .i64 lo)).far (p := ⟨gp1, 1, none⟩) (by show gp2 ≠ gp1; omega) (.int .i64 hi)
           clear p1 p2
           have p1 := p1_
           have p2 := p2_
           clear p1_ p2_
           generalize ((vy8.setCell ⟨gp1, 0, none⟩ (.int .i64 lo)).setCell ⟨gp1, 1, none⟩ (.int .i64 hi)) = vy9 at *
           refine any_run1 (i := 16) (by kernel_rfl) (by rfl) (by kernel_rfl) ?_
           intro K hK
           have ey12 : Below wr.heap.size wr ((vy9.setCell ⟨gp2, 0, none⟩ (.int .i64 lo')).setCell ⟨gp2, 1, none⟩ (.int .i64 hi')) := Below.setCell (Below.setCell ey10 (by show wr.heap.size ≤ gp2; omega) _) (by show wr.heap.size ≤ gp2; omega) _
           have l := p2.lt
           have y0 := p2.cell 0
           have y1 := p2.cell 1
           simp at y0 y1
           have f0 := p2.frozen 0
           have f1 := p2.frozen 1
           go_wp2_with fail
           refine hK _ _ (fun _ => ey12) ?_
           clear hK K l y0 y1 f0 f1
           have p2_ := fin_rg p2 (.int .i64 lo') (.int .i64 hi')
           have p1_ := (p1.far (p := ⟨gp2, 0, none⟩) (by show gp1 ≠ gp2; omega) (.int .i64 lo')).far (p := ⟨gp2, 1, none⟩) (by show gp1 ≠ gp2; omega) (.int .i64 hi')
           clear p2 p1
           have p2 := p2_
           have p1 := p1_
           clear p2_ p1_
           generalize ((vy9.setCell ⟨gp2, 0, none⟩ (.int .i64 lo')).setCell ⟨gp2, 1, none⟩ (.int .i64 hi')) = vy11 at *
           refine any_done (by kernel_rfl) (NoPanic.normal ?_)
           have hbr3 := Lib.hid (hbr.out.trans (ey12.mono hbr.out.size))
           replace hC := hC.trans (ey12.mono (by have := hC.size; omega))
           clear ey12 lb c0 d1 d2 e1 e2
           generalize vy11 = W4 at *
           have l1 := p1.lt
           have x0 := p1.cell 0
           have x1 := p1.cell 1
           have l2 := p2.lt
           have y0 := p2.cell 0
           have y1 := p2.cell 1
           simp at x0 x1 y0 y1
           have hkr : k < ks.length - 1 := by omega
           clear wk wk' wk0
           by_cases a1 : lo' < lo
           case pos =>
             have HE := Lib.hid (wayE_rule (k := k) HM.out HALL.out hkr (by rw [HQ.out, decide_eq_true a1]; simp))
             have b1 : decide (lo' < lo) = true := decide_eq_true a1
             go_wp2_with fail
             go_ret
             exact ⟨ret_int HE.out.symm, by (try rw [hn0]); exact hC⟩
           have b1 : decide (lo' < lo) = false := decide_eq_false a1
           by_cases a2 : hi' < hi
           case pos =>
             have HE := Lib.hid (wayE_rule (k := k) HM.out HALL.out hkr (by rw [HQ.out, decide_eq_true a2]; simp))
             have b2 : decide (hi' < hi) = true := decide_eq_true a2
             go_wp2_with fail
             go_ret
             exact ⟨ret_int HE.out.symm, by (try rw [hn0]); exact hC⟩
           have b2 : decide (hi' < hi) = false := decide_eq_false a2
           by_cases a3 : hi + 1 < lo'
           case pos =>
             have HE := Lib.hid (wayE_rule (k := k) HM.out HALL.out hkr (by rw [HQ.out, decide_eq_true a3]; simp))
             have b3 : decide (hi + 1 < lo') = true := decide_eq_true a3
             go_wp2_with fail
             go_ret
             exact ⟨ret_int HE.out.symm, by (try rw [hn0]); exact hC⟩
           have b3 : decide (hi + 1 < lo') = false := decide_eq_false a3
           have HO := Lib.hid (allB_yes HALR.out (by rw [HQ.out, b1, b2, b3]; rfl))
           clear a1 a2 a3
           go_wp2_with fail
           go_roundw
           case rel => exact ⟨k + 1, by omega, by go_num, HO.out, hbr3.out⟩
           case measure => simp [intOf]; omega
          ·skip
           intro K hK
           have qy14 := dy1.size
           have ey13 : Below wr.heap.size wr (uy2.alloc (.cells #[.int .i64 0, .int .i64 0] 33)) := Below.alloc dy1 dy1.size _
           have hnx : Below uy2.heap.size uy2 (uy2.alloc (.cells #[.int .i64 0, .int .i64 0] 33)) := Below.alloc (Below.refl _ _) (Nat.le_refl _) _
           go_wp2_with fail
           have p2 : BK (uy2.alloc (.cells #[.int .i64 0, .int .i64 0] 33)) uy2.heap.size #[.int .i64 0, .int .i64 0] 33 := BK.new _ _ _
           refine hK _ _ (fun _ => ey13) ?_
           clear hK K hnx
           generalize (uy2.alloc (.cells #[.int .i64 0, .int .i64 0] 33)) = vy15 at *
           obtain ⟨gp2, hgp2⟩ : ∃ g, uy2.heap.size = g := ⟨_, rfl⟩
           have hqp2 : wr.heap.size ≤ gp2 := by omega
           rw [hgp2] at p2
           try rw [hgp2]
           clear hgp2
           refine any_run1 (i := 13) (by kernel_rfl) (by rfl) (by kernel_rfl) ?_
           intro K hK
           have qy17 := ey13.size
           have ey16 : Below wr.heap.size wr (vy15.alloc (.cells #[.int .i64 0, .int .i64 0] 33)) := Below.alloc ey13 ey13.size _
           have hnx : Below vy15.heap.size vy15 (vy15.alloc (.cells #[.int .i64 0, .int .i64 0] 33)) := Below.alloc (Below.refl _ _) (Nat.le_refl _) _
           go_wp2_with fail
           have nep2p1 : gp2 ≠ vy15.heap.size := Nat.ne_of_lt p2.lt
           replace p2 := p2.below hnx p2.lt
           have p1 : BK (vy15.alloc (.cells #[.int .i64 0, .int .i64 0] 33)) vy15.heap.size #[.int .i64 0, .int .i64 0] 33 := BK.new _ _ _
           refine hK _ _ (fun _ => ey16) ?_
           clear hK K hnx
           generalize (vy15.alloc (.cells #[.int .i64 0, .int .i64 0] 33)) = vy18 at *
           obtain ⟨gp1, hgp1⟩ : ∃ g, vy15.heap.size = g := ⟨_, rfl⟩
           have hqp1 : wr.heap.size ≤ gp1 := by omega
           rw [hgp1] at p1 nep2p1
           try rw [hgp1]
           clear hgp1
           refine any_run1 (i := 15) (by kernel_rfl) (by rfl) (by kernel_rfl) ?_
           intro K hK
           have ey20 : Below wr.heap.size wr ((vy18.setCell ⟨gp1, 0, none⟩ (.int .i64 lo)).setCell ⟨gp1, 1, none⟩ (.int .i64 hi)) := Below.setCell (Below.setCell ey16 (by show wr.heap.size ≤ gp1; omega) _) (by show wr.heap.size ≤ gp1; omega) _
           have l := p1.lt
           have y0 := p1.cell 0
           have y1 := p1.cell 1
           simp at y0 y1
           have f0 := p1.frozen 0
           have f1 := p1.frozen 1
           go_wp2_with fail
           refine hK _ _ (fun _ => ey20) ?_
           clear hK K l y0 y1 f0 f1
           have p1_ := fin_rg p1 (.int .i64 lo) (.int .i64 hi)
           have p2_ := (p2.far (p := ⟨gp1, 0, none⟩) (by show gp2 ≠ gp1; omega) (.int .i64 lo)).far (p := ⟨gp1, 1, none⟩) (by show gp2 ≠ gp1; omega) (.int .i64 hi)
           clear p1 p2
           have p1 := p1_
           have p2 := p2_
           clear p1_ p2_
           generalize ((vy18.setCell ⟨gp1, 0, none⟩ (.int .i64 lo)).setCell ⟨gp1, 1, none⟩ (.int .i64 hi)) = vy19 at *
           refine any_run1 (i := 16) (by kernel_rfl) (by rfl) (by kernel_rfl) ?_
           intro K hK
           have ey22 : Below wr.heap.size wr ((vy19.setCell ⟨gp2, 0, none⟩ (.int .i64 lo')).setCell ⟨gp2, 1, none⟩ (.int .i64 hi')) := Below.setCell (Below.setCell ey20 (by show wr.heap.size ≤ gp2; omega) _) (by show wr.heap.size ≤ gp2; omega) _
           have l := p2.lt
           have y0 := p2.cell 0
           have y1 := p2.cell 1
           simp at y0 y1
           have f0 := p2.frozen 0
           have f1 := p2.frozen 1
           go_wp2_with fail
           refine hK _ _ (fun _ => ey22) ?_
           clear hK K l y0 y1 f0 f1
           have p2_ := fin_rg p2 (.int .i64 lo') (.int .i64 hi')
           have p1_ := (p1.far (p := ⟨gp2, 0, none⟩) (by show gp1 ≠ gp2; omega) (.int .i64 lo')).far (p := ⟨gp2, 1, none⟩) (by show gp1 ≠ gp2; omega) (.int .i64 hi')
           clear p2 p1
           have p2 := p2_
           have p1 := p1_
           clear p2_ p1_
           generalize ((vy19.setCell ⟨gp2, 0, none⟩ (.int .i64 lo')).setCell ⟨gp2, 1, none⟩ (.int .i64 hi')) = vy21 at *
           refine any_done (by kernel_rfl) (NoPanic.normal ?_)
           have hbr3 := Lib.hid (hbr.out.trans (ey22.mono hbr.out.size))
           replace hC := hC.trans (ey22.mono (by have := hC.size; omega))
           clear ey22 lb c0 d1 d2 e1 e2
           generalize vy21 = W4 at *
           have l1 := p1.lt
           have x0 := p1.cell 0
           have x1 := p1.cell 1
           have l2 := p2.lt
           have y0 := p2.cell 0
           have y1 := p2.cell 1
           simp at x0 x1 y0 y1
           have hkr : k < ks.length - 1 := by omega
           clear wk wk' wk0
           by_cases a1 : lo' < lo
           case pos =>
             have HE := Lib.hid (wayE_rule (k := k) HM.out HALL.out hkr (by rw [HQ.out, decide_eq_true a1]; simp))
             have b1 : decide (lo' < lo) = true := decide_eq_true a1
             go_wp2_with fail
             go_ret
             exact ⟨ret_int HE.out.symm, by (try rw [hn0]); exact hC⟩
           have b1 : decide (lo' < lo) = false := decide_eq_false a1
           by_cases a2 : hi' < hi
           case pos =>
             have HE := Lib.hid (wayE_rule (k := k) HM.out HALL.out hkr (by rw [HQ.out, decide_eq_true a2]; simp))
             have b2 : decide (hi' < hi) = true := decide_eq_true a2
             go_wp2_with fail
             go_ret
             exact ⟨ret_int HE.out.symm, by (try rw [hn0]); exact hC⟩
           have b2 : decide (hi' < hi) = false := decide_eq_false a2
           by_cases a3 : hi + 1 < lo'
           case pos =>
             have HE := Lib.hid (wayE_rule (k := k) HM.out HALL.out hkr (by rw [HQ.out, decide_eq_true a3]; simp))
             have b3 : decide (hi + 1 < lo') = true := decide_eq_true a3
             go_wp2_with fail
             go_ret
             exact ⟨ret_int HE.out.symm, by (try rw [hn0]); exact hC⟩
           have b3 : decide (hi + 1 < lo') = false := decide_eq_false a3
           have HO := Lib.hid (allB_yes HALR.out (by rw [HQ.out, b1, b2, b3]; rfl))
           clear a1 a2 a3
           go_wp2_with fail
           go_roundw
           case rel => exact ⟨k + 1, by omega, by go_num, HO.out, hbr3.out⟩
           case measure => simp [intOf]; omega
        · have hlt' : ¬ ((k + 1 : Nat) : Int) < (ks.length : Int) := by omega
          have hke : k = ks.length - 1 := by omega
          rw [hke] at HALR
          have HE := Lib.hid (wayE_ok HM.out HALL.out HALR.out)
          clear hke
          go_wp2_with fail
          go_ret
          exact ⟨ret_int HE.out.symm, by (try rw [hn0]); first | exact hC | exact bel_of⟩
end Go.Proofs.Ytkibdciomheekaa
