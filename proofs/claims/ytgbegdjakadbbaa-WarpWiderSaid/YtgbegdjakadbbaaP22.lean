/- CheckPulls of the reference. -/
import Derived.Test.YtgbegdjakadbbaaP6
import Derived.Test.YtgbegdjakadbbaaP15
set_option linter.all false
set_option linter.unnecessarySimpa false
set_option linter.unusedSimpArgs false
set_option linter.unusedVariables false
set_option linter.unusedSectionVars false

set_option linter.all false
namespace Go.Proofs.Ytgbegdjakadbbaa
open Go.RowKit Vp

/-- The bound of the first k stations. -/
def boR (m : Int) (l : List St) (ps : List Int) (k : Nat) : Int := (bou m l ps).1 - (bouK m l ps k).1
theorem bouK_zero (m : Int) (l : List St) (ps : List Int) : bouK m l ps 0 = bou m l ps := by unfold bouK; rw [List.drop_zero, List.drop_zero]
theorem boR_zero (m : Int) (l : List St) (ps : List Int) : boR m l ps 0 = 0 := by unfold boR; rw [bouK_zero]; omega
theorem boR_end (m : Int) (l : List St) (ps : List Int) : boR m l ps l.length = (bou m l ps).1 := by unfold boR; rw [bouK_end]; simp
theorem boR_step {m : Int} {l : List St} {ps : List Int} (hlen : ps.length = l.length) {k : Nat} (hk : k < l.length) : boR m l ps (k + 1) = boR m l ps k + gain (tub (nthS l k)) (nthI ps k) - over (nthS l k) (bouK m l ps k).2 * m := by
  unfold boR
  rw [bouK_step hlen hk]
  simp only
  omega
theorem gain_two (t : Rg) (p : Int) : gain t p = max 0 p * t.lo + min 0 p * t.hi := by
  unfold gain
  split
  · rw [show max 0 p = p by omega, show min 0 p = 0 by omega]; omega
  · rw [show max 0 p = 0 by omega, show min 0 p = p by omega]; omega
set_option maxHeartbeats 8000000 in
set_option maxRecDepth 100000 in
theorem checkPullsR_any (l : List St) (v : Value) (m : Int) (ps : List Int) (vb : Value) (w : World) (hl : l.length ≤ 1000) (hbl : ps.length ≤ 1000) (hT : RT w w.heap.size v l) (hI : RI w w.heap.size vb ps) :
    Calls Try.prog 35 #[bV v m, vb] w fun e w' => e = .returned (.tuple #[.int .i64 (chpV l m ps), .int .i64 (chpE l m ps)]) ∧ Below w.heap.size w w' := by
  unfold bV
  obtain ⟨b, off, cap, A, rfl, -, hcap⟩ := hT.slice
  obtain ⟨bb, boff, bcap, Ab, rfl, -, hbcap⟩ := hI.slice
  obtain ⟨n0, hn0⟩ : ∃ n, w.heap.size = n := ⟨_, rfl⟩
  have hC : Below n0 w w := Below.refl _ _
  go_enter Try.func35, Try.ntmps35
  go_upto_region 1 with fail
  have hqbx : n0 ≤ n0 := by have := hC.size; omega
  have bx : BK (w.alloc (.cells #[.slice A l.length cap, .int .i64 m] 24)) (n0) #[.slice A l.length cap, .int .i64 m] 24 := BK.new' _ _ _ (n0) hn0
  have hsbx : (w.alloc (.cells #[.slice A l.length cap, .int .i64 m] 24)).heap.size = n0 + 1 := by simp [hn0]
  replace hC : Below n0 w (w.alloc (.cells #[.slice A l.length cap, .int .i64 m] 24)) := Below.alloc hC (by have := hC.size; omega) _
  replace hT := (RS.below hT (w' := (w.alloc (.cells #[.slice A l.length cap, .int .i64 m] 24))) (Below.alloc (Below.refl _ _) (Nat.le_refl _) _)).more (B' := (w.alloc (.cells #[.slice A l.length cap, .int .i64 m] 24)).heap.size) (by simp)
  replace hI := (RS.below hI (w' := (w.alloc (.cells #[.slice A l.length cap, .int .i64 m] 24))) (Below.alloc (Below.refl _ _) (Nat.le_refl _) _)).more (B' := (w.alloc (.cells #[.slice A l.length cap, .int .i64 m] 24)).heap.size) (by simp)
  generalize (w.alloc (.cells #[.slice A l.length cap, .int .i64 m] 24)) = Wbx at *
  have lbx := bx.lt
  have bxc0 := bx.cell 0
  have bxc1 := bx.cell 1
  simp at bxc0 bxc1
  go_wp2_with fail
  clear lbx bxc0 bxc1
  clear hsbx
  refine (checkR_any l _ m _ hl hT).mono ?_
  rintro e w1 ⟨rfl, hb⟩
  replace hC : Below n0 w w1 := hC.trans (hb.mono (by have := hC.size; omega))
  replace hT := (RS.below hT hb).more hb.size
  replace hI := (RS.below hI hb).more hb.size
  replace bx := bx.below hb bx.lt
  clear hb
  obtain ⟨e, he⟩ : ∃ e, blaE l m = e := ⟨_, rfl⟩
  rw [he]
  by_cases h0 : e = 0
  case neg =>
    have HE0 := Lib.hid he
    have HE := Lib.hid (chp_bla (ps := ps) (by rw [he]; exact h0))
    have b1 : (e != 0) = true := by simp [h0]
    clear he h0
    have lbx := bx.lt
    have bxc0 := bx.cell 0
    have bxc1 := bx.cell 1
    simp at bxc0 bxc1
    go_wp2_with fail
    clear lbx bxc0 bxc1
    refine (checkR_any l _ m _ hl hT).mono ?_
    rintro e w2 ⟨rfl, hb⟩
    replace hC : Below n0 w w2 := hC.trans (hb.mono (by have := hC.size; omega))
    replace hT := (RS.below hT hb).more hb.size
    replace hI := (RS.below hI hb).more hb.size
    replace bx := bx.below hb bx.lt
    clear hb
    rw [HE0.out]
    go_wp2_with fail
    exact bodyPost_ret (v := .tuple #[.int .i64 0, .int .i64 e]) (by simp [results, Try.results35, go_sem]) rfl ⟨by rw [HE.out.1, HE.out.2, HE0.out], by first | exact hC | (rw [hn0]; exact hC) | (with_reducible rw [hn0]; exact bel_of) | exact bel_of⟩
  subst h0
  have HB := Lib.hid he
  obtain ⟨-, h20, -, hm0, hm9⟩ := blaE_ok.1 he
  clear he
  by_cases h1 : ps.length = l.length
  case neg =>
    have HE := Lib.hid (chp_len HB.out h1)
    have b1 : ((ps.length : Int) != (l.length : Int)) = true := by simp; omega
    clear h1
    have lbx := bx.lt
    have bxc0 := bx.cell 0
    have bxc1 := bx.cell 1
    simp at bxc0 bxc1
    go_wp2_with fail
    exact bodyPost_ret (v := .tuple #[.int .i64 0, .int .i64 15]) (by simp [results, Try.results35, go_sem]) rfl ⟨by rw [HE.out.1, HE.out.2], by first | exact hC | (rw [hn0]; exact hC) | (with_reducible rw [hn0]; exact bel_of) | exact bel_of⟩
  have b1 : ((ps.length : Int) != (l.length : Int)) = false := by simp; omega
  have H1 := Lib.hid h1
  have hb20 : ps.length ≤ 20 := by omega
  clear h1
  have lbx := bx.lt
  have bxc0 := bx.cell 0
  have bxc1 := bx.cell 1
  simp at bxc0 bxc1
  go_wp2_with fail
  clear lbx bxc0 bxc1
  clear b1
  go_loopw [6] (fun iv wr => ∃ k : Nat, k ≤ ps.length ∧ iv = .int .i64 k ∧ (∀ j, j < k → inB (-100) 100 (nthI ps j) = true) ∧ Below w1.heap.size w1 wr) (fun iv _ => ps.length - (intOf iv).toNat)
  case atStart => exact ⟨0, Nat.zero_le _, rfl, fun j hj => absurd hj (by omega), Below.refl _ _⟩
  case round =>
    obtain ⟨k, hk, rfl, hall, hbr⟩ := hrel
    have HALL := Lib.hid hall
    have HBR := Lib.hid hbr
    clear hall
    replace hC : Below n0 w wr := hC.trans (hbr.mono (by have := hC.size; omega))
    replace hT := (RS.below hT hbr).more hbr.size
    replace hI := (RS.below hI hbr).more hbr.size
    replace bx := bx.below hbr bx.lt
    clear hbr
    by_cases hlt : k < ps.length
    case pos =>
      have hlt' : (k : Int) < (ps.length : Int) := by omega
      obtain ⟨A', cap', b'', off'', hve, hA, hc⟩ := RI.cells hI
      obtain ⟨rfl, hbb2⟩ := hA (by omega)
      injection hve with q1 q2 q3
      subst q1 q3
      have e1 := hc k hlt
      clear hA hc q2
      have HNO := Lib.hid (fun (h : inB (-100) 100 (nthI ps k) = false) => chp_rng HB.out H1.out (allIn_no hlt h))
      have HYES := Lib.hid (fun (h : inB (-100) 100 (nthI ps k) = true) => less_succ HALL.out h)
      obtain ⟨x, hx⟩ : ∃ x, nthI ps k = x := ⟨_, rfl⟩
      obtain ⟨q, hq⟩ : ∃ q, inB (-100) 100 x = q := ⟨_, rfl⟩
      rw [hx] at e1 HNO HYES
      rw [hq] at HNO HYES
      clear hx
      go_wp2_with fail
      refine (inside_b hq _).mono ?_
      rintro e w2 ⟨rfl, hb⟩
      have hb8 := hb
      replace hC : Below n0 w w2 := hC.trans (hb.mono (by have := hC.size; omega))
      replace hT := (RS.below hT hb).more hb.size
      replace hI := (RS.below hI hb).more hb.size
      replace bx := bx.below hb bx.lt
      clear hb
      have HB8 := Lib.hid (HBR.out.trans (hb8.mono HBR.out.size))
      clear hq e1 hb8
      cases q
      case false =>
        have HE := Lib.hid (HNO.out rfl)
        go_wp2_with fail
        exact bodyPost_ret (v := .tuple #[.int .i64 0, .int .i64 3]) (by simp [results, Try.results35, go_sem]) rfl ⟨by rw [HE.out.1, HE.out.2], by first | exact hC | (rw [hn0]; exact hC) | (with_reducible rw [hn0]; exact bel_of) | exact bel_of⟩
      have HN := Lib.hid (HYES.out rfl)
      go_wp2_with fail
      go_roundw
      case rel => exact ⟨k + 1, by omega, by go_num, HN.out, HB8.out⟩
      case measure => simp [intOf]; omega
    have hlt' : ¬ (k : Int) < (ps.length : Int) := by omega
    have HQ := Lib.hid (fun (i : Nat) (hi : i < ps.length) => (inB_iff _ _ _).1 (HALL.out i (by omega)))
    have HE := Lib.hid (chp_ok HB.out H1.out ((allIn_iff (-100) 100 ps).2 fun j hj => HALL.out j (by omega)))
    have HO := Lib.hid (blaE_ok.1 HB.out).all
    clear hlt hk HBR
    go_wp2_with fail
    clear hlt'
    rename World => wa
    go_loopw [7, 8] (fun bd iv wr => ∃ k : Nat, k ≤ ps.length ∧ iv = .int .i64 k ∧ bd = .int .i64 (boR m l ps k) ∧ Below wa.heap.size wa wr) (fun _ iv _ => ps.length - (intOf iv).toNat)
    case atStart => exact ⟨0, Nat.zero_le _, rfl, by rw [boR_zero], Below.refl _ _⟩
    case round =>
      obtain ⟨i, hk, rfl, rfl, hbr⟩ := hrel
      have HBR := Lib.hid hbr
      have hle : n0 ≤ wa.heap.size := by have := hC.size; omega
      replace hC : Below n0 w wr := hC.trans (hbr.mono (by have := hC.size; omega))
      replace hT := (RS.below hT hbr).more hbr.size
      replace hI := (RS.below hI hbr).more hbr.size
      replace bx := bx.below hbr bx.lt
      clear hbr
      by_cases hlt : i < ps.length
      case neg =>
        have hlt' : ¬ (i : Int) < (ps.length : Int) := by omega
        have hke : i = l.length := by have := H1.out; omega
        have HV := Lib.hid (show boR m l ps i = (bou m l ps).1 by rw [hke]; exact boR_end m l ps)
        generalize boR m l ps i = bv at *
        clear hke
        go_wp2_with fail
        exact bodyPost_ret (v := .tuple #[.int .i64 bv, .int .i64 0]) (by simp [results, Try.results35, go_sem]) rfl ⟨by rw [HE.out.1, HE.out.2, HV.out], by first | exact hC | (rw [hn0]; exact hC) | (with_reducible rw [hn0]; exact bel_of) | exact bel_of⟩
      have hlt' : (i : Int) < (ps.length : Int) := by omega
      have hkl : i < l.length := by have := H1.out; omega
      have hkl' : (i : Int) < (l.length : Int) := by omega
      have hkl2 : (i : Int) < l.length := hkl'
      have HST := Lib.hid (boR_step (m := m) H1.out hkl)
      have hrg := bouK_rng (m := m) (ps := ps) HO.out ⟨hm0, hm9⟩ H1.out HQ.out h20
      have hr0 := hrg l.length 0 (by omega)
      have hr1 := hrg (l.length - i) i (by omega)
      have hr2 := hrg (l.length - (i + 1)) (i + 1) (by omega)
      have hbo : boR m l ps i = (bou m l ps).1 - (bouK m l ps i).1 := rfl
      have hbo2 : boR m l ps (i + 1) = (bou m l ps).1 - (bouK m l ps (i + 1)).1 := rfl
      rw [bouK_zero] at hr0
      have hbr1 : -20000000 ≤ boR m l ps i ∧ boR m l ps i ≤ 20000000 := by omega
      have hbr2 : -20000000 ≤ boR m l ps (i + 1) ∧ boR m l ps (i + 1) ≤ 20000000 := by omega
      clear hbo hbo2 hr0 hr2 hrg
      have lbx := bx.lt
      have bxc0 := bx.cell 0
      have bxc1 := bx.cell 1
      simp at bxc0 bxc1
      go_wp2_with fail
      clear lbx bxc0 bxc1
      refine (tube_any l _ m (i : Int) _ HO.out h20 hkl2 hT).mono ?_
      rintro e w2 ⟨rfl, hb⟩
      have hb9 := hb
      replace hC : Below n0 w w2 := hC.trans (hb.mono (by have := hC.size; omega))
      replace hT := (RS.below hT hb).more hb.size
      replace hI := (RS.below hI hb).more hb.size
      replace bx := bx.below hb bx.lt
      clear hb
      have HBR2 := Lib.hid (HBR.out.trans (hb9.mono HBR.out.size))
      clear hb9
      have htu : tubR l (i : Int) = tub (nthS l i) := by unfold tubR; rw [if_neg (by omega)]; rfl
      rw [htu]
      clear htu
      unfold rV
      have htr := tub_rng (HO.out _ (nthS_mem hkl))
      have hos := okS_at HO.out hkl
      have hpk := HQ.out i hlt
      obtain ⟨t, hte⟩ : ∃ t, tub (nthS l i) = t := ⟨_, rfl⟩
      rw [hte] at htr HST ⊢
      obtain ⟨s, hse⟩ : ∃ s, nthS l i = s := ⟨_, rfl⟩
      rw [hse] at hos HST
      obtain ⟨p, hpe⟩ : ∃ s, nthI ps i = s := ⟨_, rfl⟩
      rw [hpe] at hpk HST
      have HSE := Lib.hid hse
      have HPE := Lib.hid hpe
      clear hse hpe hte
      go_upto_region 15 with fail
      obtain ⟨m1, hm1⟩ : ∃ n, w2.heap.size = n := ⟨_, rfl⟩
      try rw [hm1]
      have hqtb : n0 ≤ m1 := by have := hC.size; omega
      have tb : BK (w2.alloc (.cells #[.int .i64 t.lo, .int .i64 t.hi] 42)) (m1) #[.int .i64 t.lo, .int .i64 t.hi] 42 := BK.new' _ _ _ (m1) hm1
      have hstb : (w2.alloc (.cells #[.int .i64 t.lo, .int .i64 t.hi] 42)).heap.size = m1 + 1 := by simp [hm1]
      have hbo9 : Below wa.heap.size wa (w2.alloc (.cells #[.int .i64 t.lo, .int .i64 t.hi] 42)) := HBR2.out.alloc HBR2.out.size _
      replace hC : Below n0 w (w2.alloc (.cells #[.int .i64 t.lo, .int .i64 t.hi] 42)) := Below.alloc hC (by have := hC.size; omega) _
      replace hT := (RS.below hT (w' := (w2.alloc (.cells #[.int .i64 t.lo, .int .i64 t.hi] 42))) (Below.alloc (Below.refl _ _) (Nat.le_refl _) _)).more (B' := (w2.alloc (.cells #[.int .i64 t.lo, .int .i64 t.hi] 42)).heap.size) (by simp)
      replace hI := (RS.below hI (w' := (w2.alloc (.cells #[.int .i64 t.lo, .int .i64 t.hi] 42))) (Below.alloc (Below.refl _ _) (Nat.le_refl _) _)).more (B' := (w2.alloc (.cells #[.int .i64 t.lo, .int .i64 t.hi] 42)).heap.size) (by simp)
      replace bx := bx.alloc (.cells #[.int .i64 t.lo, .int .i64 t.hi] 42)
      generalize (w2.alloc (.cells #[.int .i64 t.lo, .int .i64 t.hi] 42)) = Wtb at *
      clear hm1
      have HBR3 := Lib.hid hbo9
      clear hbo9
      clear hstb
      obtain ⟨A', cap', b'', off'', hve, hA, hc⟩ := RI.cells hI
      obtain ⟨rfl, hbb2⟩ := hA (by omega)
      injection hve with q1 q2 q3
      subst q1 q3
      have e1 := hc i hlt
      clear hA hc q2
      rw [HPE.out] at e1
      obtain ⟨X, hX⟩ : ∃ x, max 0 p = x := ⟨_, rfl⟩
      obtain ⟨Y, hY⟩ : ∃ x, min 0 p = x := ⟨_, rfl⟩
      have mX : (if 0 < p then p else 0) = X := by rw [← hX]; omega
      have mY : (if p < 0 then p else 0) = Y := by rw [← hY]; omega
      have hg := gain_two t p
      rw [hX, hY] at hg
      have hXr : 0 ≤ X ∧ X ≤ 100 := by omega
      have hYr : -100 ≤ Y ∧ Y ≤ 0 := by omega
      have h1 : X * t.lo ≤ X * 200 := Int.mul_le_mul_of_nonneg_left (by omega) (by omega)
      have h2 : X * (-200) ≤ X * t.lo := Int.mul_le_mul_of_nonneg_left (by omega) (by omega)
      have h3 : Y * t.hi ≤ Y * (-200) := Int.mul_le_mul_of_nonpos_left (by omega) (by omega)
      have h4 : Y * 200 ≤ Y * t.hi := Int.mul_le_mul_of_nonpos_left (by omega) (by omega)
      have ww1 : IntKind.i64.wrap (X * t.lo) = X * t.lo := by rw [IntKind.wrap_i64]; omega
      have ww2 : IntKind.i64.wrap (Y * t.hi) = Y * t.hi := by rw [IntKind.wrap_i64]; omega
      have ww3 : IntKind.i64.wrap (X * t.lo + Y * t.hi) = X * t.lo + Y * t.hi := by rw [IntKind.wrap_i64]; omega
      have HG := Lib.hid hg
      generalize boR m l ps i = b0 at *
      have ww4 : IntKind.i64.wrap (b0 + (X * t.lo + Y * t.hi)) = b0 + (X * t.lo + Y * t.hi) := by rw [IntKind.wrap_i64]; omega
      clear hX hY hg
      have ltb := tb.lt
      have tbc0 := tb.cell 0
      have tbc1 := tb.cell 1
      simp at tbc0 tbc1
      refine wp_region_noPanic (plain_any [0, 1, 2, 3, 4, 5, 6, 7, 8, 9, 10, 11, 12, 13, 14, 15, 16, 17, 18, 19] (Below Wtb.heap.size Wtb) mixed ?_)
      refine any_tk 0 ?_
      have d0z : Below Wtb.heap.size Wtb Wtb.drew := by exact bel_of
      refine any_tk 1 ?_
      refine any_tk 2 ?_
      refine any_tk 3 ?_
      refine any_tk 4 ?_
      refine any_tk 5 ?_
      refine any_tk 6 ?_
      refine any_tk 7 ?_
      refine any_tk 8 ?_
      refine any_tk 9 ?_
      refine any_tk 10 ?_
      refine any_tk 11 ?_
      refine any_tk 12 ?_
      refine any_tk 13 ?_
      refine any_tk 14 ?_
      refine any_tk 15 ?_
      refine any_tk 16 ?_
      refine any_tk 17 ?_
      refine any_tk 18 ?_
      refine any_tk 19 ?_
      refine any_done (by kernel_rfl) (NoPanic.normal ?_)
      have HBR4 := Lib.hid (HBR3.out.trans (d0z.mono HBR3.out.size))
      have hb := d0z
      replace hC : Below n0 w Wtb.drew := hC.trans (hb.mono (by have := hC.size; omega))
      replace hT := (RS.below hT hb).more hb.size
      replace hI := (RS.below hI hb).more hb.size
      replace bx := bx.below hb bx.lt
      replace tb := tb.below hb tb.lt
      clear hb
      clear e1 ltb tbc0 tbc1 ww1 ww2 ww3 ww4 mX mY hbb2
      rw [← HG.out]
      have hgr : -40000 ≤ gain t p ∧ gain t p ≤ 40000 := by rw [HG.out]; omega
      obtain ⟨b1, hb1⟩ : ∃ x, b0 + gain t p = x := ⟨_, rfl⟩
      have hbr3 : -30000000 ≤ b1 ∧ b1 ≤ 30000000 := by omega
      rw [hb1] at HST ⊢
      clear h1 h2 h3 h4 hb1 HG hXr hYr hgr
      generalize Wtb.drew = wd at *
      go_wp2_with fail
      go_loopw [10, 11] (fun sv iv wr => wr = wd ∧ ∃ k : Nat, i ≤ k ∧ k ≤ ps.length ∧ iv = .int .i64 k ∧ sv = .int .i64 ((bouK m l ps i).2 - (bouK m l ps k).2)) (fun _ iv _ => ps.length - (intOf iv).toNat)
      case atStart => exact ⟨rfl, i, Nat.le_refl _, Nat.le_of_lt hlt, rfl, by rw [Int.sub_self]⟩
      case round =>
        obtain ⟨rfl, k, hik, hk2, rfl, rfl⟩ := hrel
        by_cases hlt2 : k < ps.length
        case pos =>
          have hlt3 : (k : Int) < (ps.length : Int) := by omega
          have hkl3 : k < l.length := by have := H1.out; omega
          have hstp := bouK_step (m := m) H1.out hkl3
          have hsr := bouK_rng (m := m) (ps := ps) HO.out ⟨hm0, hm9⟩ H1.out HQ.out h20 (l.length - k) k (by omega)
          have hsr2 := bouK_rng (m := m) (ps := ps) HO.out ⟨hm0, hm9⟩ H1.out HQ.out h20 (l.length - (k + 1)) (k + 1) (by omega)
          have HS := Lib.hid (show (bouK m l ps k).2 = (bouK m l ps (k + 1)).2 + nthI ps k by rw [hstp])
          clear hstp
          obtain ⟨hbb2, e1⟩ := RI.at hI (k := k) hlt2
          obtain ⟨x, hx⟩ : ∃ x, nthI ps k = x := ⟨_, rfl⟩
          rw [hx] at e1 HS
          generalize (bouK m l ps k).2 = sk at *
          obtain ⟨sk1, hsk1⟩ : ∃ x, (bouK m l ps (k + 1)).2 = x := ⟨_, rfl⟩
          obtain ⟨si, hsi0⟩ : ∃ x, (bouK m l ps i).2 = x := ⟨_, rfl⟩
          rw [hsk1] at HS hsr2
          rw [hsi0] at hr1 ⊢
          have HEQ := Lib.hid (And.intro hsk1 hsi0)
          clear hsk1 hsi0
          have hxr := HQ.out k hlt2
          rw [hx] at hxr
          have hsi : -2000 ≤ si ∧ si ≤ 2000 := by omega
          have ww1 : IntKind.i64.wrap (si - sk + x) = si - sk + x := by rw [IntKind.wrap_i64]; omega
          clear hx hsr hsr2 hos hr1 hbr1 hbr2 hbr3
          go_wp2_with fail
          go_roundw
          case rel => exact ⟨by first | rfl | trivial, k + 1, by omega, by omega, by go_num, by rw [HEQ.out.1]; (try rw [HEQ.out.2]); congr 1; have := HS.out; omega⟩
          case measure => simp [intOf]; omega
        have hlt3 : ¬ (k : Int) < (ps.length : Int) := by omega
        obtain rfl : k = ps.length := by omega
        have hse : (bouK m l ps i).2 - (bouK m l ps ps.length).2 = (bouK m l ps i).2 := by rw [H1.out, bouK_end]; simp
        rw [hse]
        have hsir : -2000 ≤ (bouK m l ps i).2 ∧ (bouK m l ps i).2 ≤ 2000 := by omega
        clear hse hr1
        generalize (bouK m l ps i).2 = si at *
        obtain ⟨M, hM⟩ : ∃ M, max si (-si) = M := ⟨_, rfl⟩
        obtain ⟨O, hO2⟩ : ∃ O, max 0 (M - s.hard) = O := ⟨_, rfl⟩
        have hov : over s si = O := by unfold over; rw [hM, hO2]
        rw [hov] at HST
        have hMr : 0 ≤ M ∧ M ≤ 2000 := by omega
        have mO1 : (if 0 < M - s.hard then M - s.hard else 0) = O := by rw [← hO2]; omega
        have mO2 : (if s.hard < M then M - s.hard else 0) = O := by rw [← hO2]; omega
        have hOr : 0 ≤ O ∧ O ≤ 2000 := by omega
        have h1 : 0 ≤ m * O := Int.mul_nonneg hm0 hOr.1
        have h2 : m * O ≤ 200 * 2000 := Int.mul_le_mul hm9 hOr.2 hOr.1 (by omega)
        have wh : IntKind.i64.wrap (M - s.hard) = M - s.hard := by rw [IntKind.wrap_i64]; omega
        have wo : IntKind.i64.wrap (m * O) = m * O := by rw [IntKind.wrap_i64]; omega
        have wb : IntKind.i64.wrap (b1 - m * O) = b1 - m * O := by rw [IntKind.wrap_i64]; omega
        rw [Int.mul_comm O m] at HST
        clear h1 h2 hov hO2 hbr3 hbr1 hbr2
        obtain ⟨A', cap', b', off', hve, hA, hc⟩ := RT.cells hT
        obtain ⟨rfl, hbb⟩ := hA (by omega)
        injection hve with q1 q2 q3
        subst q1 q3
        obtain ⟨d0, d1, d2, d3⟩ := hc i hkl
        clear hA hc q2
        rw [HSE.out] at d3
        have lbx := bx.lt
        have bxc0 := bx.cell 0
        have bxc1 := bx.cell 1
        simp at bxc0 bxc1
        go_wp2_with fail
        refine wp_region_noPanic (plain_any [0, 1, 2, 3, 5, 6, 7, 8, 9, 10, 11, 12, 13, 14, 15] (Below wr.heap.size wr) mixed ?_)
        refine any_tk 0 ?_
        have d0y : Below wr.heap.size wr wr.drew := by exact bel_of
        refine any_tk 1 ?_
        refine any_tk 2 ?_
        refine any_tk 3 ?_
        refine any_tk 5 ?_
        refine any_tk 6 ?_
        refine any_tk 7 ?_
        refine any_tk 8 ?_
        refine any_tk 9 ?_
        refine any_tk 10 ?_
        have qy1 := d0y.size
        refine any_run1 (i := 4) (by kernel_rfl) (by rfl) (by kernel_rfl) ?_
        intro K hK
        go_wp2_with fail
        refine (amount_b si _ (by omega)).mono ?_
        rintro e vy1 ⟨rfl, hb⟩
        rw [hM]
        have ey1 : Below wr.heap.size wr vy1 := d0y.trans (hb.mono d0y.size)
        clear hb
        refine hK _ _ (fun _ => ey1) ?_
        clear hK K
        refine any_tk 11 ?_
        refine any_tk 12 ?_
        refine any_tk 13 ?_
        refine any_tk 14 ?_
        refine any_tk 15 ?_
        refine any_done (by kernel_rfl) (NoPanic.normal ?_)
        have HBR5 := Lib.hid (HBR4.out.trans (ey1.mono HBR4.out.size))
        have hb := ey1
        replace hC : Below n0 w vy1 := hC.trans (hb.mono (by have := hC.size; omega))
        replace hT := (RS.below hT hb).more hb.size
        replace hI := (RS.below hI hb).more hb.size
        replace bx := bx.below hb bx.lt
        replace tb := tb.below hb tb.lt
        clear hb
        go_wp2_with fail
        go_roundw
        case rel => exact ⟨i + 1, by omega, by go_num, by rw [HST.out], HBR5.out⟩
        case measure => simp [intOf]; omega
end Go.Proofs.Ytgbegdjakadbbaa
