/- WarpKnown: the walk. The examples of the chapter hold. -/
import Derived.Test.YtgbegdjakadbbaaP27
import Derived.Test.YtgbegdjakadbbaaRows
import Derived.Test.YtgbegdjakadbbaaP26
set_option linter.all false
set_option linter.unnecessarySimpa false
set_option linter.unusedSimpArgs false
set_option linter.unusedVariables false
set_option linter.unusedSectionVars false

set_option linter.all false
namespace Go.Proofs.Ytgbegdjakadbbaa
open Go.RowKit Vp

theorem ex_spn (k : Nat) (lo hi : Int) (hk : k < 4) (h : toldL ((lst (-10) (cnt (-10) 10)).filter fun d => witFs 10 ((exS 1).take k).reverse (nthS (exS 1) k) ((exS 1).drop (k + 1)) d == 6) = (lo, hi, 0)) : spnL (exS 1) 10 (k : Int) = (lo, hi, 0) := by
  unfold spnL
  rw [atE_ex (k : Int) (by omega), if_pos rfl, ex_tgo.1, if_pos (by decide), Int.toNat_natCast, spnF_fast]
  exact h
theorem ex_spn0 : spnL (exS 1) 10 0 = (-1, 0, 0) := ex_spn 0 _ _ (by decide) (by decide +kernel)
theorem ex_spn1' : spnL (exS 1) 10 1 = (-4, -2, 0) := ex_spn 1 _ _ (by decide) (by decide +kernel)
theorem ex_spn2 : spnL (exS 1) 10 2 = (-1, 0, 0) := ex_spn 2 _ _ (by decide) (by decide +kernel)
theorem ex_spn3 : spnL (exS 1) 10 3 = (2, 2, 0) := ex_spn 3 _ _ (by decide) (by decide +kernel)
theorem ex_bds3 : bdsL (exS 1) 10 3 = (-2, 0, 0) := by
  unfold bdsL
  rw [atE_ex 3 (by decide), if_pos rfl, bdsF_fast]
  decide +kernel
theorem ex_chk3 : chkE (exS 1) 10 [0, -11, 0, 0] = 3 ∧ chkV (exS 1) 10 [0, -11, 0, 0] = 0 := by decide +kernel
theorem ex_chp3 : chpE (exS 1) 10 [0, -1, 0, 0] = 0 ∧ chpV (exS 1) 10 [0, -1, 0, 0] = 3 := by decide +kernel
theorem ex_wit0 : witK 10 (exS 1) 0 0 = 6 := by rw [witK_fast]; decide +kernel
theorem ex_lst0 : lstE (exS 1) 10 0 0 = 0 ∧ lstV (exS 1) 10 0 0 = 6 := by
  have h := lst_ok (l := exS 1) (m := 10) (s := 0) (d := 0) (atE_ex 0 (by decide)) (by decide) (by show witK 10 (exS 1) 0 0 < never; rw [ex_wit0]; decide)
  exact ⟨h.1, h.2.trans ex_wit0⟩

set_option maxHeartbeats 16000000 in
set_option maxRecDepth 100000 in
theorem warpKnown_any (w : World) : Calls Try.prog 13 #[] w fun e w' => e = .returned (.bool true) ∧ Below w.heap.size w w' := by
  obtain ⟨n0, hn0⟩ : ∃ n, w.heap.size = n := ⟨_, rfl⟩
  have hC : Below n0 w w := Below.refl _ _
  go_enter Try.func13, Try.ntmps13
  go_wp2_with fail
  refine (blade_any _).mono ?_
  rintro e w1 ⟨gB, rfl, -, hbk, hb⟩
  replace hC : Below n0 w w1 := hC.trans (hb.mono (by have := hC.size; omega))
  clear hb
  have hS := BlaPost.rt hbk
  clear hbk
  go_upto_region 2 with fail
  obtain ⟨m1, hm1⟩ : ∃ n, w1.heap.size = n := ⟨_, rfl⟩
  try rw [hm1]
  have hqbx : n0 ≤ m1 := by have := hC.size; omega
  have bx : BK (w1.alloc (.cells #[.slice (some ⟨gB, 0, none⟩) 4 4, .int .i64 10] 24)) (m1) #[.slice (some ⟨gB, 0, none⟩) 4 4, .int .i64 10] 24 := BK.new' _ _ _ (m1) hm1
  have hsbx : (w1.alloc (.cells #[.slice (some ⟨gB, 0, none⟩) 4 4, .int .i64 10] 24)).heap.size = m1 + 1 := by simp [hm1]
  replace hC : Below n0 w (w1.alloc (.cells #[.slice (some ⟨gB, 0, none⟩) 4 4, .int .i64 10] 24)) := Below.alloc hC (by have := hC.size; omega) _
  replace hS := (RS.below hS (w' := (w1.alloc (.cells #[.slice (some ⟨gB, 0, none⟩) 4 4, .int .i64 10] 24))) (Below.alloc (Below.refl _ _) (Nat.le_refl _) _)).more (B' := (w1.alloc (.cells #[.slice (some ⟨gB, 0, none⟩) 4 4, .int .i64 10] 24)).heap.size) (by simp)
  generalize (w1.alloc (.cells #[.slice (some ⟨gB, 0, none⟩) 4 4, .int .i64 10] 24)) = Wbx at *
  clear hm1
  clear hsbx
  have lbx := bx.lt
  have bxc0 := bx.cell 0
  have bxc1 := bx.cell 1
  simp at bxc0 bxc1
  go_wp2_with fail
  clear lbx bxc0 bxc1
  obtain ⟨m2, hm2⟩ : ∃ n, Wbx.heap.size = n := ⟨_, rfl⟩
  try rw [hm2]
  have hqs2 : n0 ≤ m2 := by have := hC.size; omega
  have s2 : BK (Wbx.alloc (.cells #[.int .i64 0, .int .i64 (-11), .int .i64 0, .int .i64 0] 2)) (m2) #[.int .i64 0, .int .i64 (-11), .int .i64 0, .int .i64 0] 2 := BK.new' _ _ _ (m2) hm2
  have hss2 : (Wbx.alloc (.cells #[.int .i64 0, .int .i64 (-11), .int .i64 0, .int .i64 0] 2)).heap.size = m2 + 1 := by simp [hm2]
  replace hC : Below n0 w (Wbx.alloc (.cells #[.int .i64 0, .int .i64 (-11), .int .i64 0, .int .i64 0] 2)) := Below.alloc hC (by have := hC.size; omega) _
  replace hS := (RS.below hS (w' := (Wbx.alloc (.cells #[.int .i64 0, .int .i64 (-11), .int .i64 0, .int .i64 0] 2))) (Below.alloc (Below.refl _ _) (Nat.le_refl _) _)).more (B' := (Wbx.alloc (.cells #[.int .i64 0, .int .i64 (-11), .int .i64 0, .int .i64 0] 2)).heap.size) (by simp)
  replace bx := bx.alloc (.cells #[.int .i64 0, .int .i64 (-11), .int .i64 0, .int .i64 0] 2)
  generalize (Wbx.alloc (.cells #[.int .i64 0, .int .i64 (-11), .int .i64 0, .int .i64 0] 2)) = Ws2 at *
  clear hm2
  clear hss2
  have hs2 := ri_new (l := [0, -11, 0, 0]) s2 4 rfl
  clear s2
  refine (checkBlows_any (exS 1) _ 10 [0, -11, 0, 0] _ _ (by decide) (by decide) hS hs2 ten).mono ?_
  rintro e w2 ⟨rfl, hb⟩
  replace hC : Below n0 w w2 := hC.trans (hb.mono (by have := hC.size; omega))
  replace hS := (RS.below hS hb).more hb.size
  replace bx := bx.below hb bx.lt
  replace hs2 := (RS.below hs2 hb).more hb.size
  clear hb
  rw [ex_chk3.1, ex_chk3.2]
  clear hs2
  have lbx := bx.lt
  have bxc0 := bx.cell 0
  have bxc1 := bx.cell 1
  simp at bxc0 bxc1
  go_wp2_with fail
  clear lbx bxc0 bxc1
  refine (Bends_any (exS 1) _ 10 3 _ (by decide) hS).mono ?_
  rintro e w3 ⟨rfl, hb⟩
  replace hC : Below n0 w w3 := hC.trans (hb.mono (by have := hC.size; omega))
  replace hS := (RS.below hS hb).more hb.size
  replace bx := bx.below hb bx.lt
  clear hb
  rw [ex_bds3]
  go_upto_region 4 with fail
  obtain ⟨m3, hm3⟩ : ∃ n, w3.heap.size = n := ⟨_, rfl⟩
  try rw [hm3]
  have hqr4 : n0 ≤ m3 := by have := hC.size; omega
  have r4 : BK (w3.alloc (.cells #[.int .i64 (-2), .int .i64 0] 42)) (m3) #[.int .i64 (-2), .int .i64 0] 42 := BK.new' _ _ _ (m3) hm3
  have hsr4 : (w3.alloc (.cells #[.int .i64 (-2), .int .i64 0] 42)).heap.size = m3 + 1 := by simp [hm3]
  replace hC : Below n0 w (w3.alloc (.cells #[.int .i64 (-2), .int .i64 0] 42)) := Below.alloc hC (by have := hC.size; omega) _
  replace hS := (RS.below hS (w' := (w3.alloc (.cells #[.int .i64 (-2), .int .i64 0] 42))) (Below.alloc (Below.refl _ _) (Nat.le_refl _) _)).more (B' := (w3.alloc (.cells #[.int .i64 (-2), .int .i64 0] 42)).heap.size) (by simp)
  replace bx := bx.alloc (.cells #[.int .i64 (-2), .int .i64 0] 42)
  generalize (w3.alloc (.cells #[.int .i64 (-2), .int .i64 0] 42)) = Wr4 at *
  clear hm3
  clear hsr4
  have lbx := bx.lt
  have bxc0 := bx.cell 0
  have bxc1 := bx.cell 1
  simp at bxc0 bxc1
  go_wp2_with fail
  clear lbx bxc0 bxc1
  obtain ⟨m4, hm4⟩ : ∃ n, Wr4.heap.size = n := ⟨_, rfl⟩
  try rw [hm4]
  have hqs4 : n0 ≤ m4 := by have := hC.size; omega
  have s4 : BK (Wr4.alloc (.cells #[.int .i64 0, .int .i64 (-1), .int .i64 0, .int .i64 0] 2)) (m4) #[.int .i64 0, .int .i64 (-1), .int .i64 0, .int .i64 0] 2 := BK.new' _ _ _ (m4) hm4
  have hss4 : (Wr4.alloc (.cells #[.int .i64 0, .int .i64 (-1), .int .i64 0, .int .i64 0] 2)).heap.size = m4 + 1 := by simp [hm4]
  replace hC : Below n0 w (Wr4.alloc (.cells #[.int .i64 0, .int .i64 (-1), .int .i64 0, .int .i64 0] 2)) := Below.alloc hC (by have := hC.size; omega) _
  replace hS := (RS.below hS (w' := (Wr4.alloc (.cells #[.int .i64 0, .int .i64 (-1), .int .i64 0, .int .i64 0] 2))) (Below.alloc (Below.refl _ _) (Nat.le_refl _) _)).more (B' := (Wr4.alloc (.cells #[.int .i64 0, .int .i64 (-1), .int .i64 0, .int .i64 0] 2)).heap.size) (by simp)
  replace bx := bx.alloc (.cells #[.int .i64 0, .int .i64 (-1), .int .i64 0, .int .i64 0] 2)
  replace r4 := r4.alloc (.cells #[.int .i64 0, .int .i64 (-1), .int .i64 0, .int .i64 0] 2)
  generalize (Wr4.alloc (.cells #[.int .i64 0, .int .i64 (-1), .int .i64 0, .int .i64 0] 2)) = Ws4 at *
  clear hm4
  clear hss4
  have hs4 := ri_new (l := [0, -1, 0, 0]) s4 4 rfl
  clear s4
  refine (CheckPulls_any (exS 1) _ 10 [0, -1, 0, 0] _ _ (by decide) (by decide) hS hs4).mono ?_
  rintro e w4 ⟨rfl, hb⟩
  replace hC : Below n0 w w4 := hC.trans (hb.mono (by have := hC.size; omega))
  replace hS := (RS.below hS hb).more hb.size
  replace bx := bx.below hb bx.lt
  replace r4 := r4.below hb r4.lt
  replace hs4 := (RS.below hs4 hb).more hb.size
  clear hb
  rw [ex_chp3.1, ex_chp3.2]
  clear hs4
  go_wp2_with fail
  refine (rg_any (-1) (0) _).mono ?_
  rintro e w5 ⟨rfl, hb⟩
  replace hC : Below n0 w w5 := hC.trans (hb.mono (by have := hC.size; omega))
  replace hS := (RS.below hS hb).more hb.size
  replace bx := bx.below hb bx.lt
  replace r4 := r4.below hb r4.lt
  clear hb
  go_wp2_with fail
  refine (rg_any (-4) (-2) _).mono ?_
  rintro e w6 ⟨rfl, hb⟩
  replace hC : Below n0 w w6 := hC.trans (hb.mono (by have := hC.size; omega))
  replace hS := (RS.below hS hb).more hb.size
  replace bx := bx.below hb bx.lt
  replace r4 := r4.below hb r4.lt
  clear hb
  go_wp2_with fail
  refine (rg_any (-1) (0) _).mono ?_
  rintro e w7 ⟨rfl, hb⟩
  replace hC : Below n0 w w7 := hC.trans (hb.mono (by have := hC.size; omega))
  replace hS := (RS.below hS hb).more hb.size
  replace bx := bx.below hb bx.lt
  replace r4 := r4.below hb r4.lt
  clear hb
  go_wp2_with fail
  refine (rg_any (2) (2) _).mono ?_
  rintro e w8 ⟨rfl, hb⟩
  replace hC : Below n0 w w8 := hC.trans (hb.mono (by have := hC.size; omega))
  replace hS := (RS.below hS hb).more hb.size
  replace bx := bx.below hb bx.lt
  replace r4 := r4.below hb r4.lt
  clear hb
  go_upto_region 6 with fail
  obtain ⟨m5, hm5⟩ : ∃ n, w8.heap.size = n := ⟨_, rfl⟩
  try rw [hm5]
  have hqkw : n0 ≤ m5 := by have := hC.size; omega
  have kw : BK (w8.alloc (.cells #[.int .i64 (-1), .int .i64 0, .int .i64 (-4), .int .i64 (-2), .int .i64 (-1), .int .i64 0, .int .i64 2, .int .i64 2] 42)) (m5) #[.int .i64 (-1), .int .i64 0, .int .i64 (-4), .int .i64 (-2), .int .i64 (-1), .int .i64 0, .int .i64 2, .int .i64 2] 42 := BK.new' _ _ _ (m5) hm5
  have hskw : (w8.alloc (.cells #[.int .i64 (-1), .int .i64 0, .int .i64 (-4), .int .i64 (-2), .int .i64 (-1), .int .i64 0, .int .i64 2, .int .i64 2] 42)).heap.size = m5 + 1 := by simp [hm5]
  replace hC : Below n0 w (w8.alloc (.cells #[.int .i64 (-1), .int .i64 0, .int .i64 (-4), .int .i64 (-2), .int .i64 (-1), .int .i64 0, .int .i64 2, .int .i64 2] 42)) := Below.alloc hC (by have := hC.size; omega) _
  replace hS := (RS.below hS (w' := (w8.alloc (.cells #[.int .i64 (-1), .int .i64 0, .int .i64 (-4), .int .i64 (-2), .int .i64 (-1), .int .i64 0, .int .i64 2, .int .i64 2] 42))) (Below.alloc (Below.refl _ _) (Nat.le_refl _) _)).more (B' := (w8.alloc (.cells #[.int .i64 (-1), .int .i64 0, .int .i64 (-4), .int .i64 (-2), .int .i64 (-1), .int .i64 0, .int .i64 2, .int .i64 2] 42)).heap.size) (by simp)
  replace bx := bx.alloc (.cells #[.int .i64 (-1), .int .i64 0, .int .i64 (-4), .int .i64 (-2), .int .i64 (-1), .int .i64 0, .int .i64 2, .int .i64 2] 42)
  replace r4 := r4.alloc (.cells #[.int .i64 (-1), .int .i64 0, .int .i64 (-4), .int .i64 (-2), .int .i64 (-1), .int .i64 0, .int .i64 2, .int .i64 2] 42)
  generalize (w8.alloc (.cells #[.int .i64 (-1), .int .i64 0, .int .i64 (-4), .int .i64 (-2), .int .i64 (-1), .int .i64 0, .int .i64 2, .int .i64 2] 42)) = Wkw at *
  clear hm5
  clear hskw
  go_wp2_with fail
  go_loopw [9] (fun iv wr => ∃ k : Nat, k ≤ 4 ∧ iv = .int .i64 k ∧ Below Wkw.heap.size Wkw wr) (fun iv _ => 4 - (intOf iv).toNat)
  case atStart => exact ⟨0, by decide, rfl, Below.refl _ _⟩
  case round =>
    obtain ⟨k, hk, rfl, hbr⟩ := hrel
    have HBR := Lib.hid hbr
    replace hC : Below n0 w wr := hC.trans (hbr.mono (by have := hC.size; omega))
    replace hS := (RS.below hS hbr).more hbr.size
    replace bx := bx.below hbr bx.lt
    replace r4 := r4.below hbr r4.lt
    replace kw := kw.below hbr kw.lt
    clear hbr
    by_cases hk4 : k = 4
    case neg =>
      by_cases hk0 : k = 0
      case pos =>
        obtain rfl : k = 0 := by omega
        clear hk hk4 hk0
        have lbx := bx.lt
        have bxc0 := bx.cell 0
        have bxc1 := bx.cell 1
        simp at bxc0 bxc1
        go_wp2_with fail
        clear lbx bxc0 bxc1
        refine (Span_any (exS 1) _ 10 0 _ (by decide) hS).mono ?_
        rintro e w9 ⟨rfl, hb⟩
        have hb7 := hb
        replace hC : Below n0 w w9 := hC.trans (hb.mono (by have := hC.size; omega))
        replace hS := (RS.below hS hb).more hb.size
        replace bx := bx.below hb bx.lt
        replace r4 := r4.below hb r4.lt
        replace kw := kw.below hb kw.lt
        clear hb
        have HBR2 := Lib.hid (HBR.out.trans (hb7.mono HBR.out.size))
        clear hb7
        rw [ex_spn0]
        go_upto_region 10 with fail
        obtain ⟨m6, hm6⟩ : ∃ n, w9.heap.size = n := ⟨_, rfl⟩
        try rw [hm6]
        have hqrr : n0 ≤ m6 := by have := hC.size; omega
        have rr : BK (w9.alloc (.cells #[.int .i64 (-1), .int .i64 0] 42)) (m6) #[.int .i64 (-1), .int .i64 0] 42 := BK.new' _ _ _ (m6) hm6
        have hsrr : (w9.alloc (.cells #[.int .i64 (-1), .int .i64 0] 42)).heap.size = m6 + 1 := by simp [hm6]
        have hbr9 : Below Wkw.heap.size Wkw (w9.alloc (.cells #[.int .i64 (-1), .int .i64 0] 42)) := HBR2.out.alloc HBR2.out.size _
        replace hC : Below n0 w (w9.alloc (.cells #[.int .i64 (-1), .int .i64 0] 42)) := Below.alloc hC (by have := hC.size; omega) _
        replace hS := (RS.below hS (w' := (w9.alloc (.cells #[.int .i64 (-1), .int .i64 0] 42))) (Below.alloc (Below.refl _ _) (Nat.le_refl _) _)).more (B' := (w9.alloc (.cells #[.int .i64 (-1), .int .i64 0] 42)).heap.size) (by simp)
        replace bx := bx.alloc (.cells #[.int .i64 (-1), .int .i64 0] 42)
        replace r4 := r4.alloc (.cells #[.int .i64 (-1), .int .i64 0] 42)
        replace kw := kw.alloc (.cells #[.int .i64 (-1), .int .i64 0] 42)
        generalize (w9.alloc (.cells #[.int .i64 (-1), .int .i64 0] 42)) = Wrr at *
        clear hm6
        have HBR3 := Lib.hid hbr9
        clear hbr9
        clear hsrr
        have lrr := rr.lt
        have rrc0 := rr.cell 0
        have rrc1 := rr.cell 1
        simp at rrc0 rrc1
        have lkw := kw.lt
        have kwc0 := kw.cell 0
        have kwc1 := kw.cell 1
        have kwc2 := kw.cell 2
        have kwc3 := kw.cell 3
        have kwc4 := kw.cell 4
        have kwc5 := kw.cell 5
        have kwc6 := kw.cell 6
        have kwc7 := kw.cell 7
        simp at kwc0 kwc1 kwc2 kwc3 kwc4 kwc5 kwc6 kwc7
        refine wp_region_noPanic (plain_any [0, 1, 2, 3, 4, 5, 6, 7, 8, 9] (Below Wrr.heap.size Wrr) mixed ?_)
        refine any_tk 0 ?_
        have d0z : Below Wrr.heap.size Wrr Wrr.drew := by exact bel_of
        refine any_tk 1 ?_
        refine any_tk 2 ?_
        refine any_tk 3 ?_
        refine any_tk 4 ?_
        refine any_tk 5 ?_
        refine any_tk 6 ?_
        refine any_tk 7 ?_
        refine any_tk 8 ?_
        refine any_tk 9 ?_
        refine any_done (by kernel_rfl) (NoPanic.normal ?_)
        have HBR4 := Lib.hid (HBR3.out.trans (d0z.mono HBR3.out.size))
        have hb := d0z
        replace hC : Below n0 w Wrr.drew := hC.trans (hb.mono (by have := hC.size; omega))
        replace hS := (RS.below hS hb).more hb.size
        replace bx := bx.below hb bx.lt
        replace r4 := r4.below hb r4.lt
        replace kw := kw.below hb kw.lt
        replace rr := rr.below hb rr.lt
        clear hb
        go_wp2_with fail
        go_roundw
        case rel => exact ⟨0 + 1, by decide, by go_num, HBR4.out⟩
        case measure => simp [intOf]
      by_cases hk1 : k = 1
      case pos =>
        obtain rfl : k = 1 := by omega
        clear hk hk4 hk0 hk1
        have lbx := bx.lt
        have bxc0 := bx.cell 0
        have bxc1 := bx.cell 1
        simp at bxc0 bxc1
        go_wp2_with fail
        clear lbx bxc0 bxc1
        refine (Span_any (exS 1) _ 10 1 _ (by decide) hS).mono ?_
        rintro e w9 ⟨rfl, hb⟩
        have hb7 := hb
        replace hC : Below n0 w w9 := hC.trans (hb.mono (by have := hC.size; omega))
        replace hS := (RS.below hS hb).more hb.size
        replace bx := bx.below hb bx.lt
        replace r4 := r4.below hb r4.lt
        replace kw := kw.below hb kw.lt
        clear hb
        have HBR2 := Lib.hid (HBR.out.trans (hb7.mono HBR.out.size))
        clear hb7
        rw [ex_spn1']
        go_upto_region 10 with fail
        obtain ⟨m7, hm7⟩ : ∃ n, w9.heap.size = n := ⟨_, rfl⟩
        try rw [hm7]
        have hqrr : n0 ≤ m7 := by have := hC.size; omega
        have rr : BK (w9.alloc (.cells #[.int .i64 (-4), .int .i64 (-2)] 42)) (m7) #[.int .i64 (-4), .int .i64 (-2)] 42 := BK.new' _ _ _ (m7) hm7
        have hsrr : (w9.alloc (.cells #[.int .i64 (-4), .int .i64 (-2)] 42)).heap.size = m7 + 1 := by simp [hm7]
        have hbr9 : Below Wkw.heap.size Wkw (w9.alloc (.cells #[.int .i64 (-4), .int .i64 (-2)] 42)) := HBR2.out.alloc HBR2.out.size _
        replace hC : Below n0 w (w9.alloc (.cells #[.int .i64 (-4), .int .i64 (-2)] 42)) := Below.alloc hC (by have := hC.size; omega) _
        replace hS := (RS.below hS (w' := (w9.alloc (.cells #[.int .i64 (-4), .int .i64 (-2)] 42))) (Below.alloc (Below.refl _ _) (Nat.le_refl _) _)).more (B' := (w9.alloc (.cells #[.int .i64 (-4), .int .i64 (-2)] 42)).heap.size) (by simp)
        replace bx := bx.alloc (.cells #[.int .i64 (-4), .int .i64 (-2)] 42)
        replace r4 := r4.alloc (.cells #[.int .i64 (-4), .int .i64 (-2)] 42)
        replace kw := kw.alloc (.cells #[.int .i64 (-4), .int .i64 (-2)] 42)
        generalize (w9.alloc (.cells #[.int .i64 (-4), .int .i64 (-2)] 42)) = Wrr at *
        clear hm7
        have HBR3 := Lib.hid hbr9
        clear hbr9
        clear hsrr
        have lrr := rr.lt
        have rrc0 := rr.cell 0
        have rrc1 := rr.cell 1
        simp at rrc0 rrc1
        have lkw := kw.lt
        have kwc0 := kw.cell 0
        have kwc1 := kw.cell 1
        have kwc2 := kw.cell 2
        have kwc3 := kw.cell 3
        have kwc4 := kw.cell 4
        have kwc5 := kw.cell 5
        have kwc6 := kw.cell 6
        have kwc7 := kw.cell 7
        simp at kwc0 kwc1 kwc2 kwc3 kwc4 kwc5 kwc6 kwc7
        refine wp_region_noPanic (plain_any [0, 1, 2, 3, 4, 5, 6, 7, 8, 9] (Below Wrr.heap.size Wrr) mixed ?_)
        refine any_tk 0 ?_
        have d0z : Below Wrr.heap.size Wrr Wrr.drew := by exact bel_of
        refine any_tk 1 ?_
        refine any_tk 2 ?_
        refine any_tk 3 ?_
        refine any_tk 4 ?_
        refine any_tk 5 ?_
        refine any_tk 6 ?_
        refine any_tk 7 ?_
        refine any_tk 8 ?_
        refine any_tk 9 ?_
        refine any_done (by kernel_rfl) (NoPanic.normal ?_)
        have HBR4 := Lib.hid (HBR3.out.trans (d0z.mono HBR3.out.size))
        have hb := d0z
        replace hC : Below n0 w Wrr.drew := hC.trans (hb.mono (by have := hC.size; omega))
        replace hS := (RS.below hS hb).more hb.size
        replace bx := bx.below hb bx.lt
        replace r4 := r4.below hb r4.lt
        replace kw := kw.below hb kw.lt
        replace rr := rr.below hb rr.lt
        clear hb
        go_wp2_with fail
        go_roundw
        case rel => exact ⟨1 + 1, by decide, by go_num, HBR4.out⟩
        case measure => simp [intOf]
      by_cases hk2 : k = 2
      case pos =>
        obtain rfl : k = 2 := by omega
        clear hk hk4 hk0 hk1 hk2
        have lbx := bx.lt
        have bxc0 := bx.cell 0
        have bxc1 := bx.cell 1
        simp at bxc0 bxc1
        go_wp2_with fail
        clear lbx bxc0 bxc1
        refine (Span_any (exS 1) _ 10 2 _ (by decide) hS).mono ?_
        rintro e w9 ⟨rfl, hb⟩
        have hb7 := hb
        replace hC : Below n0 w w9 := hC.trans (hb.mono (by have := hC.size; omega))
        replace hS := (RS.below hS hb).more hb.size
        replace bx := bx.below hb bx.lt
        replace r4 := r4.below hb r4.lt
        replace kw := kw.below hb kw.lt
        clear hb
        have HBR2 := Lib.hid (HBR.out.trans (hb7.mono HBR.out.size))
        clear hb7
        rw [ex_spn2]
        go_upto_region 10 with fail
        obtain ⟨m8, hm8⟩ : ∃ n, w9.heap.size = n := ⟨_, rfl⟩
        try rw [hm8]
        have hqrr : n0 ≤ m8 := by have := hC.size; omega
        have rr : BK (w9.alloc (.cells #[.int .i64 (-1), .int .i64 0] 42)) (m8) #[.int .i64 (-1), .int .i64 0] 42 := BK.new' _ _ _ (m8) hm8
        have hsrr : (w9.alloc (.cells #[.int .i64 (-1), .int .i64 0] 42)).heap.size = m8 + 1 := by simp [hm8]
        have hbr9 : Below Wkw.heap.size Wkw (w9.alloc (.cells #[.int .i64 (-1), .int .i64 0] 42)) := HBR2.out.alloc HBR2.out.size _
        replace hC : Below n0 w (w9.alloc (.cells #[.int .i64 (-1), .int .i64 0] 42)) := Below.alloc hC (by have := hC.size; omega) _
        replace hS := (RS.below hS (w' := (w9.alloc (.cells #[.int .i64 (-1), .int .i64 0] 42))) (Below.alloc (Below.refl _ _) (Nat.le_refl _) _)).more (B' := (w9.alloc (.cells #[.int .i64 (-1), .int .i64 0] 42)).heap.size) (by simp)
        replace bx := bx.alloc (.cells #[.int .i64 (-1), .int .i64 0] 42)
        replace r4 := r4.alloc (.cells #[.int .i64 (-1), .int .i64 0] 42)
        replace kw := kw.alloc (.cells #[.int .i64 (-1), .int .i64 0] 42)
        generalize (w9.alloc (.cells #[.int .i64 (-1), .int .i64 0] 42)) = Wrr at *
        clear hm8
        have HBR3 := Lib.hid hbr9
        clear hbr9
        clear hsrr
        have lrr := rr.lt
        have rrc0 := rr.cell 0
        have rrc1 := rr.cell 1
        simp at rrc0 rrc1
        have lkw := kw.lt
        have kwc0 := kw.cell 0
        have kwc1 := kw.cell 1
        have kwc2 := kw.cell 2
        have kwc3 := kw.cell 3
        have kwc4 := kw.cell 4
        have kwc5 := kw.cell 5
        have kwc6 := kw.cell 6
        have kwc7 := kw.cell 7
        simp at kwc0 kwc1 kwc2 kwc3 kwc4 kwc5 kwc6 kwc7
        refine wp_region_noPanic (plain_any [0, 1, 2, 3, 4, 5, 6, 7, 8, 9] (Below Wrr.heap.size Wrr) mixed ?_)
        refine any_tk 0 ?_
        have d0z : Below Wrr.heap.size Wrr Wrr.drew := by exact bel_of
        refine any_tk 1 ?_
        refine any_tk 2 ?_
        refine any_tk 3 ?_
        refine any_tk 4 ?_
        refine any_tk 5 ?_
        refine any_tk 6 ?_
        refine any_tk 7 ?_
        refine any_tk 8 ?_
        refine any_tk 9 ?_
        refine any_done (by kernel_rfl) (NoPanic.normal ?_)
        have HBR4 := Lib.hid (HBR3.out.trans (d0z.mono HBR3.out.size))
        have hb := d0z
        replace hC : Below n0 w Wrr.drew := hC.trans (hb.mono (by have := hC.size; omega))
        replace hS := (RS.below hS hb).more hb.size
        replace bx := bx.below hb bx.lt
        replace r4 := r4.below hb r4.lt
        replace kw := kw.below hb kw.lt
        replace rr := rr.below hb rr.lt
        clear hb
        go_wp2_with fail
        go_roundw
        case rel => exact ⟨2 + 1, by decide, by go_num, HBR4.out⟩
        case measure => simp [intOf]
      obtain rfl : k = 3 := by omega
      clear hk hk4 hk0 hk1 hk2
      have lbx := bx.lt
      have bxc0 := bx.cell 0
      have bxc1 := bx.cell 1
      simp at bxc0 bxc1
      go_wp2_with fail
      clear lbx bxc0 bxc1
      refine (Span_any (exS 1) _ 10 3 _ (by decide) hS).mono ?_
      rintro e w9 ⟨rfl, hb⟩
      have hb7 := hb
      replace hC : Below n0 w w9 := hC.trans (hb.mono (by have := hC.size; omega))
      replace hS := (RS.below hS hb).more hb.size
      replace bx := bx.below hb bx.lt
      replace r4 := r4.below hb r4.lt
      replace kw := kw.below hb kw.lt
      clear hb
      have HBR2 := Lib.hid (HBR.out.trans (hb7.mono HBR.out.size))
      clear hb7
      rw [ex_spn3]
      go_upto_region 10 with fail
      obtain ⟨m9, hm9⟩ : ∃ n, w9.heap.size = n := ⟨_, rfl⟩
      try rw [hm9]
      have hqrr : n0 ≤ m9 := by have := hC.size; omega
      have rr : BK (w9.alloc (.cells #[.int .i64 2, .int .i64 2] 42)) (m9) #[.int .i64 2, .int .i64 2] 42 := BK.new' _ _ _ (m9) hm9
      have hsrr : (w9.alloc (.cells #[.int .i64 2, .int .i64 2] 42)).heap.size = m9 + 1 := by simp [hm9]
      have hbr9 : Below Wkw.heap.size Wkw (w9.alloc (.cells #[.int .i64 2, .int .i64 2] 42)) := HBR2.out.alloc HBR2.out.size _
      replace hC : Below n0 w (w9.alloc (.cells #[.int .i64 2, .int .i64 2] 42)) := Below.alloc hC (by have := hC.size; omega) _
      replace hS := (RS.below hS (w' := (w9.alloc (.cells #[.int .i64 2, .int .i64 2] 42))) (Below.alloc (Below.refl _ _) (Nat.le_refl _) _)).more (B' := (w9.alloc (.cells #[.int .i64 2, .int .i64 2] 42)).heap.size) (by simp)
      replace bx := bx.alloc (.cells #[.int .i64 2, .int .i64 2] 42)
      replace r4 := r4.alloc (.cells #[.int .i64 2, .int .i64 2] 42)
      replace kw := kw.alloc (.cells #[.int .i64 2, .int .i64 2] 42)
      generalize (w9.alloc (.cells #[.int .i64 2, .int .i64 2] 42)) = Wrr at *
      clear hm9
      have HBR3 := Lib.hid hbr9
      clear hbr9
      clear hsrr
      have lrr := rr.lt
      have rrc0 := rr.cell 0
      have rrc1 := rr.cell 1
      simp at rrc0 rrc1
      have lkw := kw.lt
      have kwc0 := kw.cell 0
      have kwc1 := kw.cell 1
      have kwc2 := kw.cell 2
      have kwc3 := kw.cell 3
      have kwc4 := kw.cell 4
      have kwc5 := kw.cell 5
      have kwc6 := kw.cell 6
      have kwc7 := kw.cell 7
      simp at kwc0 kwc1 kwc2 kwc3 kwc4 kwc5 kwc6 kwc7
      refine wp_region_noPanic (plain_any [0, 1, 2, 3, 4, 5, 6, 7, 8, 9] (Below Wrr.heap.size Wrr) mixed ?_)
      refine any_tk 0 ?_
      have d0z : Below Wrr.heap.size Wrr Wrr.drew := by exact bel_of
      refine any_tk 1 ?_
      refine any_tk 2 ?_
      refine any_tk 3 ?_
      refine any_tk 4 ?_
      refine any_tk 5 ?_
      refine any_tk 6 ?_
      refine any_tk 7 ?_
      refine any_tk 8 ?_
      refine any_tk 9 ?_
      refine any_done (by kernel_rfl) (NoPanic.normal ?_)
      have HBR4 := Lib.hid (HBR3.out.trans (d0z.mono HBR3.out.size))
      have hb := d0z
      replace hC : Below n0 w Wrr.drew := hC.trans (hb.mono (by have := hC.size; omega))
      replace hS := (RS.below hS hb).more hb.size
      replace bx := bx.below hb bx.lt
      replace r4 := r4.below hb r4.lt
      replace kw := kw.below hb kw.lt
      replace rr := rr.below hb rr.lt
      clear hb
      go_wp2_with fail
      go_roundw
      case rel => exact ⟨3 + 1, by decide, by go_num, HBR4.out⟩
      case measure => simp [intOf]
    subst hk4
    clear hk
    have lbx := bx.lt
    have bxc0 := bx.cell 0
    have bxc1 := bx.cell 1
    simp at bxc0 bxc1
    go_wp2_with fail
    clear lbx bxc0 bxc1
    refine (Least_any (exS 1) _ 10 0 0 _ (by decide) hS).mono ?_
    rintro e w9 ⟨rfl, hb⟩
    replace hC : Below n0 w w9 := hC.trans (hb.mono (by have := hC.size; omega))
    replace hS := (RS.below hS hb).more hb.size
    replace bx := bx.below hb bx.lt
    replace r4 := r4.below hb r4.lt
    replace kw := kw.below hb kw.lt
    clear hb
    rw [ex_lst0.1, ex_lst0.2]
    have lr4 := r4.lt
    have r4c0 := r4.cell 0
    have r4c1 := r4.cell 1
    simp at r4c0 r4c1
    go_wp2_with fail
    refine wp_region_noPanic (plain_any [0, 1, 2, 3, 4, 5, 6, 7, 8, 9, 10, 11, 12, 13, 14, 15, 17, 18, 19, 20, 21, 22, 23, 24, 25, 26, 27, 29, 30] (Below w9.heap.size w9) mixed ?_)
    refine any_tk 0 ?_
    have d0z : Below w9.heap.size w9 w9.drew := by exact bel_of
    refine any_tk 1 ?_
    refine any_tk 2 ?_
    refine any_tk 3 ?_
    refine any_tk 4 ?_
    refine any_tk 5 ?_
    refine any_tk 6 ?_
    refine any_tk 7 ?_
    refine any_tk 8 ?_
    refine any_tk 9 ?_
    refine any_tk 10 ?_
    refine any_tk 11 ?_
    refine any_tk 12 ?_
    refine any_tk 13 ?_
    refine any_tk 14 ?_
    refine any_tk 15 ?_
    have qz1 := d0z.size
    refine any_run1 (i := 16) (by kernel_rfl) (by rfl) (by kernel_rfl) ?_
    intro K hK
    go_wp2_with fail
    refine (rg_any (-2) 0 _).mono ?_
    rintro e vz1 ⟨rfl, hb⟩
    have ez1 : Below w9.heap.size w9 vz1 := d0z.trans (hb.mono d0z.size)
    clear hb
    refine hK _ _ (fun _ => ez1) ?_
    clear hK K
    refine any_tk 17 ?_
    refine any_tk 18 ?_
    refine any_tk 19 ?_
    refine any_tk 20 ?_
    refine any_tk 21 ?_
    refine any_tk 22 ?_
    refine any_tk 23 ?_
    refine any_tk 24 ?_
    refine any_tk 25 ?_
    refine any_tk 26 ?_
    refine any_tk 27 ?_
    have qz2 := ez1.size
    refine any_run1 (i := 28) (by kernel_rfl) (by rfl) (by kernel_rfl) ?_
    intro K hK
    go_wp2_with fail
    refine (works_any _).mono ?_
    rintro e vz2 ⟨rfl, hb⟩
    have ez2 : Below w9.heap.size w9 vz2 := ez1.trans (hb.mono ez1.size)
    clear hb
    refine hK _ _ (fun _ => ez2) ?_
    clear hK K
    refine any_tk 29 ?_
    refine any_tk 30 ?_
    refine any_done (by kernel_rfl) (NoPanic.normal ?_)
    have hb := ez2
    replace hC : Below n0 w vz2 := hC.trans (hb.mono (by have := hC.size; omega))
    replace hS := (RS.below hS hb).more hb.size
    replace bx := bx.below hb bx.lt
    replace r4 := r4.below hb r4.lt
    replace kw := kw.below hb kw.lt
    clear hb
    go_wp2_with fail
    go_ret
    exact ⟨rfl, by first | exact hC | (rw [hn0]; exact hC) | (with_reducible rw [hn0]; exact bel_of) | exact bel_of⟩
end Go.Proofs.Ytgbegdjakadbbaa

namespace Go.Proofs.Ytgbegdjakadbbaa.warpKnown
open Go.ChangeShapes Go.WideShapes Go.ChangeAt Go.RowKit Go.Deep

set_option maxRecDepth 100000 in
theorem lifted (os : Os) (started : os.Started) (H : Type) (enc : TypeId × Value → H) :
    ReturnsInHanded {} Try.checked os 13 .any (Rows.warpKnownSpec.pre6 enc Try.prog Try.f13 Rows.warpKnownRow.domain false) (Rows.warpKnownSpec.post enc Try.prog Try.f13 false true false false) := by
  refine returnsInHanded_of_change (C := Try.checked) own started (by kernel_rfl) Try.func13
    (ChangeSpec.witness6 (enc := enc) (C := Try.checked) false ⟨#[], #[], []⟩ 8 (by kernel_rfl) (by kernel_rfl) (by kernel_rfl) (by kernel_rfl)) ?_
  intro W base args ds gs before hval0 hW hcnd _
  have hval : ∀ (j : Nat) t v, Try.f13.params[j]? = some t → args[j]? = some v → Value.okWide Try.prog W .any base t v := hval0
  have hW2 : DataW.Whole enc Try.prog Try.f13.params.toList Rows.warpKnownSpec.vars false W args.toList ds gs before := hW
  obtain ⟨p, q, hA0, hV, rfl, hfz, hnd⟩ := hW
  have hA : DataW.TrodAll enc Try.prog W 0 (fun _ => true) true Try.f13.params.toList args.toList ds p := hA0
  rw [Try.params13] at hA hval
  obtain ⟨rfl, rfl, rfl⟩ := trodAll_none hA
  obtain ⟨rfl, rfl⟩ := trodVars_none hV
  refine (warpKnown_any  (w := W)).mono fun e W' ⟨he, hg⟩ => ?_
  subst he
  exact ⟨_, rfl, law_done hW2 rfl rfl rfl (by rw [Try.params13]; decide +kernel) hg⟩

theorem over : Rows.warpKnownRow.holds Try.pinned (OpenSpec.ofChange Rows.warpKnownSpec) :=
  OpenClaim.holds_of_wide 13 Try.f13 rfl rfl rfl rfl rfl rfl rfl ⟨rfl, rfl, rfl, rfl, rfl⟩ rfl rfl rfl rfl rfl (by kernel_rfl) Try.func13 (by kernel_rfl)
    (of_decide_eq_true (by kernel_rfl)) (by unfold Func.isWrapper; first | (rw [if_pos (by decide +kernel)]; kernel_rfl) | (rw [if_neg (by decide +kernel)]; exact ⟨rfl, rfl⟩))
    (fun os started H enc _ => lifted os started H enc)

theorem proved : Rows.WarpKnownSaid :=
  over
end Go.Proofs.Ytgbegdjakadbbaa.warpKnown
namespace Go.Proofs.Ytgbegdjakadbbaa
theorem warpKnown_proved : Rows.WarpKnownSaid := warpKnown.proved
#print axioms warpKnown_proved
end Go.Proofs.Ytgbegdjakadbbaa
