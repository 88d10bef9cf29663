/- Best blows, walked. -/
import Derived.Test.YtgbegdjakadbbaaP12
set_option linter.all false
set_option linter.unnecessarySimpa false
set_option linter.unusedSimpArgs false
set_option linter.unusedVariables false
set_option linter.unusedSectionVars false

set_option linter.all false
attribute [local go_sem] Go.Oper.semAt_some
namespace Go.Proofs.Ytgbegdjakadbbaa
open Go.RowKit Vp

set_option maxHeartbeats 8000000 in
set_option maxRecDepth 100000 in
theorem best_any (g : Nat) (l : List St) (m : Int) (w : World) (hBn : Bn w w.heap.size g l m) (ho : ∀ s ∈ l, okSB s = true) (hm : 0 ≤ m ∧ m ≤ 200) (hn20 : l.length ≤ 20) :
    Calls Try.prog 52 #[.pointer (some ⟨g, 0, none⟩)] w fun e w' => ∃ v, e = .returned (.tuple #[v, .int .i64 (tgo m l 0)]) ∧ OwnI 2 w' w.heap.size v (bestL m l) ∧ Below w.heap.size w w' := by
  obtain ⟨n0, hn0⟩ : ∃ n, w.heap.size = n := ⟨_, rfl⟩
  rw [hn0] at hBn ⊢
  have HB0 := Lib.hid hBn
  have HO := Lib.hid ho
  obtain ⟨cost, hcost⟩ : ∃ c, tgo m l 0 = c := ⟨_, rfl⟩
  rw [hcost]
  have HCOST := Lib.hid hcost
  clear hBn ho hcost
  go_enter Try.func52, Try.ntmps52
  go_upto_region 1 with fail
  have b1 : BK (w.alloc (.cells #[.pointer (some ⟨g, 0, none⟩)] 71)) n0 #[.pointer (some ⟨g, 0, none⟩)] 71 := BK.new' _ _ _ n0 hn0
  have hC : Below n0 w (w.alloc (.cells #[.pointer (some ⟨g, 0, none⟩)] 71)) := Below.alloc (Below.refl _ _) (by omega) _
  have hs1 : (w.alloc (.cells #[.pointer (some ⟨g, 0, none⟩)] 71)).heap.size = n0 + 1 := by simp [hn0]
  have HS1 := Lib.hid hs1
  clear hs1
  generalize w.alloc (.cells #[.pointer (some ⟨g, 0, none⟩)] 71) = W1 at *
  obtain ⟨vs, vt, bg, hgn, hT, hR⟩ := HB0.out.below hC
  obtain ⟨bs, off, cap, A, rfl, -, hcap⟩ := hT.slice
  have lg := bg.lt
  have g0 := bg.cell 0
  simp at g0
  have l1 := b1.lt
  have d1 := b1.cell 0
  simp at d1
  have wl : IntKind.i64.wrap ((l.length : Int) + 1) = (l.length : Int) + 1 := by rw [IntKind.wrap_i64]; omega
  clear hT hR bg
  go_upto_region 3 with fail
  clear lg g0 l1 d1
  rw [HS1.out]
  have b5 : BK (W1.alloc (.cells #[.slice none 0 0] 98)) (n0 + 1) #[.slice none 0 0] 98 := BK.new' _ _ _ _ HS1.out
  have b12 := b1.alloc (.cells #[.slice none 0 0] 98)
  have hC2 : Below n0 w (W1.alloc (.cells #[.slice none 0 0] 98)) := Below.alloc hC (by have := hC.size; omega) _
  have hs2 : (W1.alloc (.cells #[.slice none 0 0] 98)).heap.size = n0 + 2 := by simp [HS1.out]
  have HS2 := Lib.hid hs2
  have B5 := Lib.hid b5
  have B1 := Lib.hid b12
  have HC2 := Lib.hid hC2
  clear hs2 b5 b1 b12 hC hC2
  generalize W1.alloc (.cells #[.slice none 0 0] 98) = W2 at *
  go_wp2_with fail
  go_loopw [23] (fun iv wr => ∃ (i : Nat) (v : Value), i ≤ l.length + 1 ∧ iv = .int .i64 i ∧ BK wr n0 #[.pointer (some ⟨g, 0, none⟩)] 71 ∧ BK wr (n0 + 1) #[v] 98 ∧ OwnF wr (n0 + 2) v (tgL m l i) ∧ Below n0 w wr ∧ n0 + 2 ≤ wr.heap.size) (fun iv _ => l.length + 1 - (intOf iv).toNat)
  case atStart => exact ⟨0, _, Nat.zero_le _, rfl, B1.out, B5.out, OwnF.nil _ _, HC2.out, by rw [HS2.out]; omega⟩
  case round =>
    clear B1 B5 HC2
    obtain ⟨i, v, hi, rfl, b1, b5, hown, hC, hsz⟩ := hrel
    by_cases hlt : i < l.length + 1
    case pos =>
      have hlt' : (i : Int) < (l.length : Int) + 1 := by omega
      have hB := HB0.out.below hC
      have l1 := b1.lt
      have d1 := b1.cell 0
      have l5 := b5.lt
      have d5 := b5.cell 0
      have f5 := b5.frozen 0
      simp at d1 d5
      obtain ⟨Av, cv, rfl⟩ := own_slice hown
      have HB1 := Lib.hid b1
      have HB5 := Lib.hid b5
      have HOW := Lib.hid hown
      have HBN := Lib.hid hB
      have HC := Lib.hid hC
      have hd : Below wr.heap.size wr wr.drew := Below.drew (Below.refl _ _)
      clear b1 b5 hown hB hC
      go_upto_region 6 with fail
      refine wp_region_noPanic (plain_any [0, 1, 2] (Below wr.heap.size wr) mixed ?_)
      refine any_tk 0 ?_
      refine any_tk 1 ?_
      refine any_tk 2 ?_
      refine any_run1 (i := 3) (by kernel_rfl) (by rfl) (by kernel_rfl) ?_
      intro K3 hK3
      go_wp2_with fail
      refine (togo_any g l m i _ ((HBN.out.below (by exact (hd.mono (by omega)))).more (by exact (by have := hd.size; omega))) HO.out hm hn20 (by omega)).mono ?_
      rintro e V ⟨rfl, hb⟩
      have hbV : Below wr.heap.size wr V := hd.trans (hb.mono hd.size)
      refine hK3 _ _ (fun _ => hbV) ?_
      clear hK3 K3 hb
      refine any_run1 (i := 4) (by kernel_rfl) (by rfl) (by kernel_rfl) ?_
      intro K3 hK3
      refine wp_build_run 98 1 (.tmp 29) _ rfl (by exact run_build_row (tgR m (l.drop i)) V) ?_
      have hbX : Below V.heap.size V (V.alloc (.cells (rowL (tgR m (l.drop i))).toArray 83)) := Below.alloc (Below.refl _ _) (Nat.le_refl _) _
      refine hK3 _ _ (fun _ => hbV.trans (hbX.mono hbV.size)) ?_
      clear hK3 K3
      simp only [List.getElem_toArray, List.getElem_cons_succ, List.getElem_cons_zero, Act.put, List.setIfInBounds_toArray, List.set_cons_succ, List.set_cons_zero]
      obtain ⟨gv, hgv⟩ : ∃ q, V.heap.size = q := ⟨_, rfl⟩
      have bX : BK (V.alloc (.cells (rowL (tgR m (l.drop i))).toArray 83)) gv (rowL (tgR m (l.drop i))).toArray 83 := BK.new' _ _ _ _ hgv
      have hwX : Below wr.heap.size wr (V.alloc (.cells (rowL (tgR m (l.drop i))).toArray 83)) := hbV.trans (hbX.mono hbV.size)
      obtain ⟨g', cap', w9, hrun, hown', hgr, hC9⟩ := app_row (own_below HOW.out hwX) bX (by rw [tgL_length]; omega) (by have := hwX.size; omega)
      rw [← tgL_succ] at hown'
      have b5X := HB5.out.below hwX HB5.out.lt
      have b1X := HB1.out.below hwX HB1.out.lt
      have b59 := b5X.grown hgr (own_other (own_below HOW.out hwX) b5X (by decide))
      have b19 := b1X.grown hgr (own_other (own_below HOW.out hwX) b1X (by decide))
      have hC9' := hC9 w n0 (by omega) (HC.out.trans (hwX.mono (by omega)))
      have hz9 := Nat.le_trans hwX.size hgr.size
      rw [hgv]
      have HRUN := Lib.hid hrun
      have HO9 := Lib.hid hown'
      clear hrun hown' hgr hC9 bX hgv hbX b5X b1X HOW HB5 HB1
      generalize V.alloc (.cells (rowL (tgR m (l.drop i))).toArray 83) = VX at *
      refine any_run1 (i := 5) (by kernel_rfl) (by rfl) (by kernel_rfl) ?_
      intro K3 hK3
      refine wp_append_run (.tmp 26) (.tmp 30) 98 _ rfl HRUN.out ?_
      refine hK3 _ _ (fun hx => (Bool.false_ne_true (hx.symm.trans (by kernel_rfl))).elim) ?_
      clear hK3 K3
      simp only [List.getElem_toArray, List.getElem_cons_succ, List.getElem_cons_zero, Act.put, List.setIfInBounds_toArray, List.set_cons_succ, List.set_cons_zero]
      have l9 := b59.lt
      have d9 := b59.cell 0
      have f9 := b59.frozen 0
      simp at d9
      refine any_run1 (i := 6) (by kernel_rfl) (by rfl) (by kernel_rfl) ?_
      intro K3 hK3
      go_wp2_with fail
      have b5n := b59.set 0 (.slice (some ⟨g', 0, none⟩) ((tgL m l i).length + 1) cap')
      simp at b5n
      have b1n := b19.far (p := ⟨n0 + 1, 0, none⟩) (by show n0 ≠ n0 + 1; omega) (.slice (some ⟨g', 0, none⟩) ((tgL m l i).length + 1) cap')
      have hon := own_set (i := 0) (u := .slice (some ⟨g', 0, none⟩) ((tgL m l i).length + 1) cap') HO9.out b59 (by decide)
      have hCn : Below n0 w (w9.setCell ⟨n0 + 1, 0, none⟩ (.slice (some ⟨g', 0, none⟩) ((tgL m l i).length + 1) cap')) := Below.setCell hC9' (by show n0 ≤ n0 + 1; omega) _
      have HFIN := Lib.hid (show BK (w9.setCell ⟨n0 + 1, 0, none⟩ (.slice (some ⟨g', 0, none⟩) ((tgL m l i).length + 1) cap')) n0 #[.pointer (some ⟨g, 0, none⟩)] 71 ∧ BK (w9.setCell ⟨n0 + 1, 0, none⟩ (.slice (some ⟨g', 0, none⟩) ((tgL m l i).length + 1) cap')) (n0 + 1) #[.slice (some ⟨g', 0, none⟩) ((tgL m l i).length + 1) cap'] 98 ∧ OwnF (w9.setCell ⟨n0 + 1, 0, none⟩ (.slice (some ⟨g', 0, none⟩) ((tgL m l i).length + 1) cap')) (n0 + 2) (.slice (some ⟨g', 0, none⟩) ((tgL m l i).length + 1) cap') (tgL m l (i + 1)) ∧ Below n0 w (w9.setCell ⟨n0 + 1, 0, none⟩ (.slice (some ⟨g', 0, none⟩) ((tgL m l i).length + 1) cap')) ∧ n0 + 2 ≤ (w9.setCell ⟨n0 + 1, 0, none⟩ (.slice (some ⟨g', 0, none⟩) ((tgL m l i).length + 1) cap')).heap.size from ⟨b1n, b5n, hon, hCn, by simp only [World.setCell, Array.size_modify]; omega⟩)
      refine hK3 _ _ (fun hx => (Bool.false_ne_true (hx.symm.trans (by kernel_rfl))).elim) ?_
      clear hK3 K3 b5n b1n hon hCn b59 b19 l9 d9 f9 hC9' hz9 hwX hbV
      refine any_done (by kernel_rfl) (NoPanic.normal ?_)
      go_wp2_with fail
      go_roundw
      case rel => exact ⟨i + 1, _, by omega, by go_num, HFIN.out⟩
      case measure => simp [intOf]; omega
    case neg =>
      have hlt' : ¬ (i : Int) < (l.length : Int) + 1 := by omega
      obtain rfl : i = l.length + 1 := by omega
      obtain ⟨gr, cr, rfl, -, hgrb, hG0⟩ := OwnF.gd hown (by rw [tgL_length]; omega)
      rw [tgL_length] at b5 hG0
      have hG := hG0.congr (F' := fun j => tgR m (l.drop j)) (fun j x hj hx => by rw [tgL_at m l hj])
      have l5 := b5.lt
      have d5 := b5.cell 0
      simp at d5
      have lr := hG.lt
      have dr := hG.cell (i := 0) (x := 200) (by omega) (by omega)
      unfold cel at dr
      rw [Nat.zero_mul, Nat.zero_add, show tgR m (l.drop 0) 200 = tgo m l 0 from by unfold tgR; rw [List.drop_zero]; rfl] at dr
      have hcl : (0 : Int) < ((l.length + 1 : Nat) : Int) := by omega
      have hcl2 : ((l.length + 1 : Nat) : Int) = (l.length : Int) + 1 := by omega
      have hcl3 : (0 : Int) < (l.length : Int) + 1 := by omega
      have hbl : bestL m l = if tgo m l 0 < never then grd m l 0 else [] := rfl
      have hnv : never = 1099511627776 := rfl
      have HG := Lib.hid hG
      have HB1 := Lib.hid b1
      have HB5 := Lib.hid b5
      have HC := Lib.hid hC
      have HBL := Lib.hid hbl
      have hok := gB_ok (m := m) HO.out
      have hmy := gB_may (m := m) HO.out
      have hCs := hC.size
      rw [HCOST.out] at dr HBL hok hmy
      have HOK := Lib.hid hok
      have HMY := Lib.hid hmy
      clear hown hG0 hG b1 b5 hC hbl hlt hok hmy
      by_cases hc : cost < never
      case neg =>
        have d2 : decide ((1099511627776 : Int) ≤ cost) = true := decide_eq_true (by omega)
        have HE := Lib.hid (HBL.out.trans (if_neg hc))
        clear hc
        go_wp2_with fail
        exact bodyPost_ret (v := .tuple #[.slice none 0 0, .int .i64 cost]) (by simp [results, Try.results52, go_sem]) rfl ⟨_, rfl, by rw [HE.out]; exact OwnI.nil _ _ _, HC.out⟩
      have d2 : decide ((1099511627776 : Int) ≤ cost) = false := decide_eq_false (by omega)
      have HE := Lib.hid (HBL.out.trans (if_pos hc))
      have HOK2 := Lib.hid (HOK.out hc)
      have HMY2 := Lib.hid (fun (k : Nat) => HMY.out hc (k := k))
      have hmm := fun W => run_makeMap (P := Try.prog) 99 W
      clear hc HOK HMY HBL hnv
      go_upto_region 12 with fail
      clear l5 d5 lr dr
      obtain ⟨bm, hbm⟩ : ∃ b, wr.heap.size = b := ⟨_, rfl⟩
      have hbA : Below wr.heap.size wr (wr.alloc (.map #[] 0)) := Below.alloc (Below.refl _ _) (Nat.le_refl _) _
      have hMP : MPl (wr.alloc (.map #[] 0)) bm (mpG m l 0 0) := by
        rw [mpG_none, ← hbm]
        exact MPl.made wr
      have hsA : (wr.alloc (.map #[] 0)).heap.size = bm + 1 := by simp [hbm]
      have HSA := Lib.hid hsA
      have HMP := Lib.hid hMP
      have hst : (BK (wr.alloc (.map #[] 0)) n0 #[.pointer (some ⟨g, 0, none⟩)] 71 ∧ BK (wr.alloc (.map #[] 0)) (n0 + 1) #[.slice (some ⟨gr, 0, none⟩) (l.length + 1) cr] 98 ∧ Gd (wr.alloc (.map #[] 0)) gr 83 (l.length + 1) (fun j => tgR m (l.drop j))) := ⟨HB1.out.below hbA HB1.out.lt, HB5.out.below hbA HB5.out.lt, HG.out.below hbA HG.out.lt⟩
      have HST := Lib.hid hst
      have HCA := Lib.hid (HC.out.trans (hbA.mono (by omega)))
      have hgrm : gr < bm := by have := HG.out.lt; omega
      have hnbm : n0 + 2 ≤ bm := by omega
      rw [hbm]
      clear hbA hMP hsA hst HB1 HB5 HG HC hbm hmm
      generalize wr.alloc (.map #[] 0) = WA at *
      go_upto_region 13 with fail
      rw [HSA.out]
      have hbB : Below WA.heap.size WA (WA.alloc (.cells #[.int .i64 0, .int .i64 0] 101)) := Below.alloc (Below.refl _ _) (Nat.le_refl _) _
      have b9 : BK (WA.alloc (.cells #[.int .i64 0, .int .i64 0] 101)) (bm + 1) #[.int .i64 ((0 : Nat) : Int), .int .i64 (gB m l 0)] 101 := BK.new' _ _ _ _ HSA.out
      have hst2 : (BK (WA.alloc (.cells #[.int .i64 0, .int .i64 0] 101)) n0 #[.pointer (some ⟨g, 0, none⟩)] 71 ∧ BK (WA.alloc (.cells #[.int .i64 0, .int .i64 0] 101)) (n0 + 1) #[.slice (some ⟨gr, 0, none⟩) (l.length + 1) cr] 98 ∧ Gd (WA.alloc (.cells #[.int .i64 0, .int .i64 0] 101)) gr 83 (l.length + 1) (fun j => tgR m (l.drop j))) := ⟨HST.out.1.below hbB HST.out.1.lt, HST.out.2.1.below hbB HST.out.2.1.lt, HST.out.2.2.below hbB HST.out.2.2.lt⟩
      have HST2 := Lib.hid hst2
      have HB9 := Lib.hid b9
      have HMP2 := Lib.hid (HMP.out.below hbB HMP.out.lt)
      have HCB := Lib.hid (HCA.out.trans (hbB.mono (by rw [HSA.out]; omega)))
      clear hbB b9 hst2 HST HMP HCA
      generalize WA.alloc (.cells #[.int .i64 0, .int .i64 0] 101) = WB at *
      go_loopw [10] (fun _ wr => ∃ k : Nat, k ≤ l.length ∧ (BK wr n0 #[.pointer (some ⟨g, 0, none⟩)] 71 ∧ BK wr (n0 + 1) #[.slice (some ⟨gr, 0, none⟩) (l.length + 1) cr] 98 ∧ Gd wr gr 83 (l.length + 1) (fun j => tgR m (l.drop j))) ∧ BK wr (bm + 1) #[.int .i64 (k : Int), .int .i64 (gB m l k)] 101 ∧ MPl wr bm (mpG m l 0 k) ∧ Below n0 w wr ∧ bm + 1 < wr.heap.size) (fun _ wr => l.length - (intOf ((wr.cell? ⟨bm + 1, 0, none⟩).getD undef)).toNat)
      case atStart => exact ⟨0, Nat.zero_le _, HST2.out, HB9.out, HMP2.out, HCB.out, HB9.out.lt⟩
      case round =>
        clear HST2 HB9 HMP2 HCB
        obtain ⟨k, hk, ⟨s1, s2, s3⟩, b9, hmp, hC, hsz⟩ := hrel
        have l9 := b9.lt
        have d9 := b9.cell 0
        have e9 := b9.cell 1
        simp at d9 e9
        by_cases hlt : k < l.length
        case pos =>
          have hlt' : (k : Int) < (l.length : Int) := by omega
          obtain ⟨o1, o2, o3⟩ := HOK2.out k hk
          have hmy := HMY2.out k hlt
          have hosb := HO.out _ (nthS_mem hlt)
          have htr := tub_rng hosb
          have hB := (HB0.out.below hC).more (show n0 ≤ wr.heap.size by omega)
          have l1 := s1.lt
          have d1 := s1.cell 0
          simp at d1
          have hnx : gB m l (k + 1) = nxt m (nthS l k) (l.drop (k + 1)) (gB m l k) := rfl
          have hst1 := mpG_store m l k
          have HNX := Lib.hid hnx
          have HST1 := Lib.hid hst1
          have HS1' := Lib.hid s1
          have HS2' := Lib.hid s2
          have HS3' := Lib.hid s3
          have HB9 := Lib.hid b9
          have C0 := Lib.hid (show wr.cell? ⟨bm + 1, 0, none⟩ = some (.int .i64 (k : Int)) from d9)
          have HMP := Lib.hid hmp
          have HC := Lib.hid hC
          have HBB := Lib.hid hB
          have HO1 := Lib.hid o1
          obtain ⟨f, hf⟩ : ∃ f, gB m l k = f := ⟨_, rfl⟩
          rw [hf] at e9 o2 o3 hmy HNX HST1 HB9
          have HF := Lib.hid hf
          clear hnx hst1 s1 s2 s3 b9 hmp hC hB hf o1
          go_wp2_with fail
          refine (bends_any _ g l m k f _ HBB.out (Nat.le_refl _) HO.out hm hlt hn20 (by omega)).mono ?_
          rintro e V ⟨rfl, hcm, hb⟩
          have hsV := hb.size
          have HCM := Lib.hid hcm
          have HBV := Lib.hid hb
          clear hcm hb l1 d1 l9 d9 e9
          go_wp2_with fail
          refine (listed_any _ _ _ _ _ HCM.out (by unfold bLo; omega) (by unfold bHi; omega)).mono ?_
          rintro e V2 ⟨v10, rfl, hli, hb2⟩
          have hbV2 := HBV.out.trans (hb2.mono HBV.out.size)
          have q1 := HS1'.out.below hbV2 HS1'.out.lt
          have q2 := HS2'.out.below hbV2 HS2'.out.lt
          have q3 := HS3'.out.below hbV2 HS3'.out.lt
          have q9 := HB9.out.below hbV2 HB9.out.lt
          have qB := (HBB.out.below hbV2).more hbV2.size
          obtain ⟨c', hc'⟩ : ∃ c', cnt (bLo (nthS l k) m f) (bHi (nthS l k) m f) = c' + 1 := ⟨cnt (bLo (nthS l k) m f) (bHi (nthS l k) m f) - 1, by unfold cnt; omega⟩
          have hri := OwnI.ri hli
          rw [hc', lst_cons] at hri
          have hnx2 : nxt m (nthS l k) (l.drop (k + 1)) f = argm (fun g => tgo m (l.drop (k + 1)) g + cst (nthS l k) (g - f)) (bLo (nthS l k) m f) (lst (bLo (nthS l k) m f + 1) c') := by unfold nxt; rw [hc']; rfl
          have hF : ∀ (X : World) (gg : Int), Below V2.heap.size V2 X → gg ∈ bLo (nthS l k) m f :: lst (bLo (nthS l k) m f + 1) c' → Calls Try.prog 75 #[.int .i64 gg, .pointer (some ⟨n0 + 1, 0, none⟩), .pointer (some ⟨bm + 1, 0, none⟩), .pointer (some ⟨n0, 0, none⟩)] X fun e w' => e = .returned (.int .i64 (tgo m (l.drop (k + 1)) gg + cst (nthS l k) (gg - f))) ∧ Below X.heap.size X w' := by
            intro X gg hX hgg
            rw [← lst_cons, ← hc', lst_mem] at hgg
            have hgg2 := cnt_lt.1 hgg
            have hg1 : -200 ≤ gg ∧ gg ≤ 200 := by
              obtain ⟨r1, r2⟩ := hgg2
              unfold bLo at r1
              unfold bHi at r2
              omega
            have hre : tgR m (l.drop (k + 1)) (gg + 200).toNat = tgo m (l.drop (k + 1)) gg := by unfold tgR; congr 1; omega
            have := of_any g l m k f gg (n0 + 1) (bm + 1) n0 gr cr (l.length + 1) (fun j => tgR m (l.drop j)) X ((qB.below hX).more hX.size) HO.out hn20 hlt (q2.below hX q2.lt) (q9.below hX q9.lt) (q1.below hX q1.lt) (q3.below hX q3.lt) (by omega) hg1 ⟨o2, o3⟩ (by rw [hre]; exact ⟨tgo_nonneg (fun s hs => HO.out s (List.mem_of_mem_drop hs)) _, tgo_never _ _ _⟩)
            rw [hre] at this
            exact this
          have HFF := Lib.hid hF
          have HRI := Lib.hid hri
          have HNX2 := Lib.hid (HNX.out.trans hnx2)
          have hc2 : c' ≤ 100000 := by
            have : cnt (bLo (nthS l k) m f) (bHi (nthS l k) m f) = (bHi (nthS l k) m f + 1 - bLo (nthS l k) m f).toNat := rfl
            rw [hc'] at this
            unfold bHi at this
            unfold bLo at this
            omega
          have HV2 := Lib.hid hbV2
          have Q9 := Lib.hid q9
          have Q1 := Lib.hid q1
          have Q2 := Lib.hid q2
          have Q3 := Lib.hid q3
          have QM := Lib.hid (HMP.out.below hbV2 HMP.out.lt)
          clear hF hri hnx2 hli hb2 hbV2 q1 q2 q3 q9 qB hc' HCM HBV HMP HS1' HS2' HS3' HB9 HBB HNX
          go_wp2_with fail
          refine (least_any _ _ _ _ _ _ _ _ (by rw [lst_length]; exact hc2) HRI.out HFF.out).mono ?_
          rintro e V3 ⟨rfl, hb3⟩
          rw [← HNX2.out]
          have r1 := Q1.out.below hb3 Q1.out.lt
          have r2 := Q2.out.below hb3 Q2.out.lt
          have r3 := Q3.out.below hb3 Q3.out.lt
          have r9 := Q9.out.below hb3 Q9.out.lt
          have rm := QM.out.below hb3 QM.out.lt
          have hbw := HV2.out.trans (hb3.mono HV2.out.size)
          have hCw := HC.out.trans (hbw.mono (by omega))
          obtain ⟨W5, hrun, rm5, hgr, hsz5⟩ := rm.store (k : Int) f (gB m l (k + 1))
          rw [HST1.out] at rm5
          have u1 := r1.grown hgr (by intro h; injection h with h; omega)
          have u2 := r2.grown hgr (by intro h; injection h with h; omega)
          have u3 := r3.grown hgr (by intro h; injection h with h; omega)
          have u9 := r9.grown hgr (by intro h; injection h with h; omega)
          have hC5 : Below n0 w W5 := Below.grown hCw hgr (by have := hCw.size; omega) fun k' hk' => by injection hk' with hk'; omega
          have x1 := (u1.far (p := ⟨bm + 1, 0, none⟩) (by show n0 ≠ bm + 1; omega) (.int .i64 ((k : Int) + 1))).far (p := ⟨bm + 1, 1, none⟩) (by show n0 ≠ bm + 1; omega) (.int .i64 (gB m l (k + 1)))
          have x2 := (u2.far (p := ⟨bm + 1, 0, none⟩) (by show n0 + 1 ≠ bm + 1; omega) (.int .i64 ((k : Int) + 1))).far (p := ⟨bm + 1, 1, none⟩) (by show n0 + 1 ≠ bm + 1; omega) (.int .i64 (gB m l (k + 1)))
          have x3 := (u3.far (p := ⟨bm + 1, 0, none⟩) (by show gr ≠ bm + 1; omega) (.int .i64 ((k : Int) + 1))).far (p := ⟨bm + 1, 1, none⟩) (by show gr ≠ bm + 1; omega) (.int .i64 (gB m l (k + 1)))
          have x9 := (u9.set 0 (.int .i64 ((k : Int) + 1))).set 1 (.int .i64 (gB m l (k + 1)))
          have xm : MPl ((W5.setCell ⟨bm + 1, 0, none⟩ (.int .i64 ((k : Int) + 1))).setCell ⟨bm + 1, 1, none⟩ (.int .i64 (gB m l (k + 1)))) bm (mpG m l 0 (k + 1)) := rm5.heap ((Below.heap_setCell _ _ _ _ (by show bm ≠ bm + 1; omega)).trans (Below.heap_setCell _ _ _ _ (by show bm ≠ bm + 1; omega)))
          have hC6 : Below n0 w ((W5.setCell ⟨bm + 1, 0, none⟩ (.int .i64 ((k : Int) + 1))).setCell ⟨bm + 1, 1, none⟩ (.int .i64 (gB m l (k + 1)))) := Below.setCell (Below.setCell hC5 (by show n0 ≤ bm + 1; omega) _) (by show n0 ≤ bm + 1; omega) _
          simp at x9
          have hsz6 : bm + 1 < (((W5.setCell ⟨bm + 1, 0, none⟩ (.int .i64 ((k : Int) + 1))).setCell ⟨bm + 1, 1, none⟩ (.int .i64 (gB m l (k + 1))))).heap.size := x9.lt
          have c9 := x9.cell 0
          simp at c9
          have v0 := r9.cell 0
          have v1 := r9.cell 1
          have v2 := r9.lt
          have y0 := u9.cell 0
          have y1 := u9.cell 1
          have y2 := u9.lt
          have y3 := u9.frozen 0
          have y4 := u9.frozen 1
          simp at v0 v1 y0 y1
          have HRUN := Lib.hid (show (Instr.mapUpdate 99 (.map (some bm)) (.agg #[.int .i64 (k : Int), .int .i64 f]) (.int .i64 (gB m l (k + 1)))).run Try.prog V3 = .ok () W5 from hrun)
          have wk : IntKind.i64.wrap ((k : Int) + 1) = (k : Int) + 1 := by rw [IntKind.wrap_i64]; omega
          have X1 := Lib.hid x1
          have X2 := Lib.hid x2
          have X3 := Lib.hid x3
          have X9 := Lib.hid x9
          have XM := Lib.hid xm
          have XC := Lib.hid hC6
          have XS := Lib.hid hsz6
          have C9 := Lib.hid c9
          clear r1 r2 r3 r9 rm hbw hCw hrun rm5 hgr hsz5 u1 u2 u3 u9 hC5 x1 x2 x3 x9 xm hC6 hsz6 c9 hb3 Q1 Q2 Q3 Q9 QM HV2 HRI HFF
          go_wp2_with (refine wpList_mapup_run rfl 99 (.tmp 56) (.tmp 57) (.tmp 58) rfl HRUN.out ?_)
          go_roundw
          case rel => exact ⟨k + 1, by omega, ⟨X1.out, X2.out, X3.out⟩, X9.out, XM.out, XC.out, XS.out⟩
          case measure =>
            rw [C9.out, C0.out]
            simp [intOf]
            omega
        case neg =>
          have hlt' : ¬ (k : Int) < (l.length : Int) := by omega
          obtain rfl : k = l.length := by omega
          have HMP := Lib.hid hmp
          have HC := Lib.hid hC
          have HB9 := Lib.hid b9
          have HOK3 := Lib.hid HOK2.out
          clear s1 s2 s3 hmp hC b9 HOK2 HMY2 HB0
          go_upto_region 19 with fail
          obtain ⟨q, hq⟩ : ∃ q, wr.heap.size = q := ⟨_, rfl⟩
          have hbA : Below wr.heap.size wr (wr.alloc (.cells #[.int .i64 0, .int .i64 0] 101)) := Below.alloc (Below.refl _ _) (Nat.le_refl _) _
          have b13 : BK (wr.alloc (.cells #[.int .i64 0, .int .i64 0] 101)) q #[.int .i64 ((0 : Nat) : Int), .int .i64 (gB m l 0)] 101 := BK.new' _ _ _ _ hq
          have HB13 := Lib.hid b13
          have HB9A := Lib.hid (HB9.out.below hbA HB9.out.lt)
          have HMPA := Lib.hid (HMP.out.below hbA HMP.out.lt)
          have HCA := Lib.hid (HC.out.trans (hbA.mono (by omega)))
          have hqm : bm + 1 < q := by omega
          clear b13 HB9 HMP HC l9 d9 e9 hbA
          have HQ := Lib.hid hq
          clear hq
          go_wp2_with fail
          rw [HQ.out]
          generalize wr.alloc (.cells #[.int .i64 0, .int .i64 0] 101) = WC at *
          go_loopw [12, 13] (fun acc pv wr => ∃ (j qq : Nat), j ≤ l.length ∧ pv = .pointer (some ⟨qq, 0, none⟩) ∧ bm + 1 < qq ∧ BK wr qq #[.int .i64 (j : Int), .int .i64 (gB m l j)] 101 ∧ BK wr (bm + 1) #[.int .i64 (l.length : Int), .int .i64 (gB m l l.length)] 101 ∧ MPl wr bm (mpG m l j l.length) ∧ OwnI 2 wr (bm + 2) acc (gD m l j) ∧ Below n0 w wr ∧ bm + 2 ≤ wr.heap.size) (fun _ pv wr => l.length - (intOf ((wr.cell? (match pv with | .pointer (some a) => a | _ => ⟨0, 0, none⟩)).getD undef)).toNat)
          case atStart => exact ⟨0, q, Nat.zero_le _, rfl, hqm, HB13.out, HB9A.out, HMPA.out, OwnI.nil _ _ _, HCA.out, by have := HB9A.out.lt; omega⟩
          case round =>
            clear HB13 HB9A HMPA HCA
            obtain ⟨j, qq, hj, rfl, hqq, b13, b9, hmp, hown, hC, hsz⟩ := hrel
            have l13 := b13.lt
            have d13 := b13.cell 0
            have e13 := b13.cell 1
            have l9 := b9.lt
            have d9 := b9.cell 0
            have e9 := b9.cell 1
            simp at d13 e13 d9 e9
            have heq := fun W => eq_place (j : Int) (gB m l j) (l.length : Int) (gB m l l.length) W
            unfold plV at heq
            by_cases hlt : j < l.length
            case neg =>
              obtain rfl : j = l.length := by omega
              have hde : decide ((l.length : Int) = (l.length : Int) ∧ gB m l l.length = gB m l l.length) = true := decide_eq_true ⟨rfl, rfl⟩
              simp only [hde] at heq
              rw [gD_all, ← HE.out] at hown
              have HOW := Lib.hid (own_more hown (show n0 ≤ bm + 2 by omega))
              have HCF := Lib.hid hC
              clear hde b13 b9 hmp hown hC
              go_wp2_with fail
              exact bodyPost_ret (v := .tuple #[u12, .int .i64 cost]) (by simp [results, Try.results52, go_sem]) rfl ⟨_, rfl, HOW.out, HCF.out⟩
            have hde : decide ((j : Int) = (l.length : Int) ∧ gB m l j = gB m l l.length) = false := decide_eq_false (fun h => by have := h.1; omega)
            simp only [hde] at heq
            have hlk := hmp.look (j : Int) (gB m l j)
            rw [mpG_at m l hlt, Option.getD_some] at hlk
            obtain ⟨W5, hdel, hmp5, hgr, hs5⟩ := hmp.drop (j : Int) (gB m l j) 0
            rw [mpG_drop] at hmp5
            have hjb := (gB m l (j + 1), gB m l j)
            obtain ⟨-, p2, p3⟩ := HOK3.out j (by omega)
            obtain ⟨-, p4, p5⟩ := HOK3.out (j + 1) (by omega)
            -- behind the taking out
            have u13 := b13.grown hgr (by intro h; injection h with h; omega)
            have u9 := b9.grown hgr (by intro h; injection h with h; omega)
            have hown5 : OwnI 2 W5 (bm + 2) u12 (gD m l j) := (World.ownsRow.kept hown hgr (by
              rcases hown.2 with ⟨hv, _⟩ | ⟨g2, cap2, cur2, hv, hb2, _⟩
              · left; rw [hv]; rfl
              · right; rw [hv]; intro h; have : g2 = bm := by simpa [Value.ownBlock] using h
                omega))
            have hC5 : Below n0 w W5 := Below.grown hC hgr (by have := hC.size; omega) fun k' hk' => by injection hk' with hk'; omega
            -- what is appended
            have hbX : Below W5.heap.size W5 (W5.alloc (.cells #[.int .i64 (gB m l (j + 1) - gB m l j)] 2)) := Below.alloc (Below.refl _ _) (Nat.le_refl _) _
            have bX : BK (W5.alloc (.cells #[.int .i64 (gB m l (j + 1) - gB m l j)] 2)) W5.heap.size #[.int .i64 (gB m l (j + 1) - gB m l j)] 2 := BK.new _ _ _
            have hownX := OwnI.below hown5 hbX
            obtain ⟨v', w9, hrun, hown9, hgr9, hC9, hkp⟩ := app_g_i hownX bX (by rw [gD_length]; omega) (by have := hbX.size; omega)
            rw [← gD_succ] at hown9
            have x13 := hkp _ _ _ (u13.below hbX u13.lt) (by decide)
            have x9 := hkp _ _ _ (u9.below hbX u9.lt) (by decide)
            have xm := mpl_grown (hmp5.below hbX hmp5.lt) hownX hgr9
            have hz9 := hgr9.size
            have hzX := hbX.size
            have hC9' : Below n0 w w9 := Below.grown (hC5.trans (hbX.mono (by have := hC5.size; omega))) hgr9 (by have := hC.size; omega) fun k' hk' => by have := (hownX.lt k' hk').1; omega
            have y13 := (x13.set 0 (.int .i64 ((j : Int) + 1))).set 1 (.int .i64 (gB m l (j + 1)))
            simp at y13
            have y9 := (x9.far (p := ⟨qq, 0, none⟩) (by show bm + 1 ≠ qq; omega) (.int .i64 ((j : Int) + 1))).far (p := ⟨qq, 1, none⟩) (by show bm + 1 ≠ qq; omega) (.int .i64 (gB m l (j + 1)))
            have ym : MPl ((w9.setCell ⟨qq, 0, none⟩ (.int .i64 ((j : Int) + 1))).setCell ⟨qq, 1, none⟩ (.int .i64 (gB m l (j + 1)))) bm (mpG m l (j + 1) l.length) := xm.heap ((Below.heap_setCell _ _ _ _ (by show bm ≠ qq; omega)).trans (Below.heap_setCell _ _ _ _ (by show bm ≠ qq; omega)))
            have yo := own_set (i := 1) (u := .int .i64 (gB m l (j + 1))) (own_set (i := 0) (u := .int .i64 ((j : Int) + 1)) hown9 x13 (by decide)) (x13.set 0 (.int .i64 ((j : Int) + 1))) (by decide)
            have yC : Below n0 w ((w9.setCell ⟨qq, 0, none⟩ (.int .i64 ((j : Int) + 1))).setCell ⟨qq, 1, none⟩ (.int .i64 (gB m l (j + 1)))) := Below.setCell (Below.setCell hC9' (by show n0 ≤ qq; omega) _) (by show n0 ≤ qq; omega) _
            have ys : w9.heap.size = (((w9.setCell ⟨qq, 0, none⟩ (.int .i64 ((j : Int) + 1))).setCell ⟨qq, 1, none⟩ (.int .i64 (gB m l (j + 1))))).heap.size := by simp [World.setCell]
            obtain ⟨q2, hq2⟩ : ∃ q2, w9.heap.size = q2 := ⟨_, rfl⟩
            have hb7 : Below (((w9.setCell ⟨qq, 0, none⟩ (.int .i64 ((j : Int) + 1))).setCell ⟨qq, 1, none⟩ (.int .i64 (gB m l (j + 1))))).heap.size ((w9.setCell ⟨qq, 0, none⟩ (.int .i64 ((j : Int) + 1))).setCell ⟨qq, 1, none⟩ (.int .i64 (gB m l (j + 1)))) (((w9.setCell ⟨qq, 0, none⟩ (.int .i64 ((j : Int) + 1))).setCell ⟨qq, 1, none⟩ (.int .i64 (gB m l (j + 1)))).alloc (.cells #[.int .i64 ((j : Int) + 1), .int .i64 (gB m l (j + 1))] 101)) := Below.alloc (Below.refl _ _) (Nat.le_refl _) _
            have z13 : BK (((w9.setCell ⟨qq, 0, none⟩ (.int .i64 ((j : Int) + 1))).setCell ⟨qq, 1, none⟩ (.int .i64 (gB m l (j + 1)))).alloc (.cells #[.int .i64 ((j : Int) + 1), .int .i64 (gB m l (j + 1))] 101)) q2 #[.int .i64 ((j + 1 : Nat) : Int), .int .i64 (gB m l (j + 1))] 101 := BK.new' _ _ _ _ (by rw [← ys]; exact hq2)
            have z9 := y9.below hb7 y9.lt
            have zm := ym.below hb7 ym.lt
            have zo := own_below yo hb7
            have zC := yC.trans (hb7.mono (by have := yC.size; omega))
            have CN := z13.cell 0
            simp at CN
            have lw9 := x13.lt
            have a13 := x13.cell 0
            have c13 := x13.cell 1
            have f13 := x13.frozen 0
            have g13 := x13.frozen 1
            simp at a13 c13
            have l5 := u13.lt
            have a5 := u13.cell 0
            have c5 := u13.cell 1
            simp at a5 c5
            have k13 := y13.cell 0
            have m13 := y13.cell 1
            simp at k13 m13
            have HFIN := Lib.hid (show j + 1 ≤ l.length ∧ bm + 1 < q2 ∧ BK (((w9.setCell ⟨qq, 0, none⟩ (.int .i64 ((j : Int) + 1))).setCell ⟨qq, 1, none⟩ (.int .i64 (gB m l (j + 1)))).alloc (.cells #[.int .i64 ((j : Int) + 1), .int .i64 (gB m l (j + 1))] 101)) q2 #[.int .i64 ((j + 1 : Nat) : Int), .int .i64 (gB m l (j + 1))] 101 ∧ BK (((w9.setCell ⟨qq, 0, none⟩ (.int .i64 ((j : Int) + 1))).setCell ⟨qq, 1, none⟩ (.int .i64 (gB m l (j + 1)))).alloc (.cells #[.int .i64 ((j : Int) + 1), .int .i64 (gB m l (j + 1))] 101)) (bm + 1) #[.int .i64 (l.length : Int), .int .i64 (gB m l l.length)] 101 ∧ MPl (((w9.setCell ⟨qq, 0, none⟩ (.int .i64 ((j : Int) + 1))).setCell ⟨qq, 1, none⟩ (.int .i64 (gB m l (j + 1)))).alloc (.cells #[.int .i64 ((j : Int) + 1), .int .i64 (gB m l (j + 1))] 101)) bm (mpG m l (j + 1) l.length) ∧ OwnI 2 (((w9.setCell ⟨qq, 0, none⟩ (.int .i64 ((j : Int) + 1))).setCell ⟨qq, 1, none⟩ (.int .i64 (gB m l (j + 1)))).alloc (.cells #[.int .i64 ((j : Int) + 1), .int .i64 (gB m l (j + 1))] 101)) (bm + 2) v' (gD m l (j + 1)) ∧ Below n0 w (((w9.setCell ⟨qq, 0, none⟩ (.int .i64 ((j : Int) + 1))).setCell ⟨qq, 1, none⟩ (.int .i64 (gB m l (j + 1)))).alloc (.cells #[.int .i64 ((j : Int) + 1), .int .i64 (gB m l (j + 1))] 101)) ∧ bm + 2 ≤ ((((w9.setCell ⟨qq, 0, none⟩ (.int .i64 ((j : Int) + 1))).setCell ⟨qq, 1, none⟩ (.int .i64 (gB m l (j + 1)))).alloc (.cells #[.int .i64 ((j : Int) + 1), .int .i64 (gB m l (j + 1))] 101))).heap.size from ⟨by omega, by omega, z13, z9, zm, zo, zC, by have := hb7.size; omega⟩)
            have HDEL := Lib.hid (show (Builtin.delete_ #[99, 101] 0 #[.map (some bm), .agg #[.int .i64 (j : Int), .int .i64 (gB m l j)]]).run Try.prog wr = .ok (.tuple #[]) W5 from hdel)
            have HLK := Lib.hid (show (Instr.lookup 99 (.map (some bm)) (.agg #[.int .i64 (j : Int), .int .i64 (gB m l j)]) false).run Try.prog wr = .ok (.int .i64 (gB m l (j + 1))) wr from hlk)
            have HRUN := Lib.hid hrun
            have HQ2 := Lib.hid hq2
            have CN2 := Lib.hid CN
            have CO2 := Lib.hid d13
            have wk : IntKind.i64.wrap ((j : Int) + 1) = (j : Int) + 1 := by rw [IntKind.wrap_i64]; omega
            have wd : IntKind.i64.wrap (gB m l (j + 1) - gB m l j) = gB m l (j + 1) - gB m l j := by rw [IntKind.wrap_i64]; omega
            clear b13 b9 hmp hown hC u13 u9 hown5 hC5 hbX bX hownX hrun hown9 hgr9 hC9 hkp x13 x9 xm hz9 hzX hC9' y13 y9 ym yo yC ys hb7 z13 z9 zm zo zC CN hdel hlk hgr hs5 hmp5 hde hq2 hjb
            go_wp2_with (first | refine wpList_look_run rfl 99 (.tmp 68) (.tmp 69) false _ rfl HLK.out ?_ | refine wpList_delete_run rfl (.tmp 71) (.tmp 72) 99 101 _ rfl HDEL.out ?_ | (at_builtin; refine wpList_append_run rfl (.tmp 73) (.tmp 78) 25 _ rfl HRUN.out ?_))
            rw [HQ2.out]
            refine ⟨⟨j + 1, q2, HFIN.out.1, rfl, HFIN.out.2⟩, ?_⟩
            simp only [CN2.out, CO2.out, Option.getD_some, intOf]
            omega
end Go.Proofs.Ytgbegdjakadbbaa
