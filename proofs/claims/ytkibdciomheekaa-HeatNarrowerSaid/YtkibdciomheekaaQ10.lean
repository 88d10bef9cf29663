/- HeatNarrower: the walk. If less is left open by what was measured, no recipe is added, no bar and no way, and no range of Had becomes wider; for every valid works of at most 400 recipes, recipe by numbers, and range. -/
import Derived.Test.YtkibdciomheekaaQ10a
import Derived.Test.YtkibdciomheekaaRows
import Derived.Test.YtkibdciomheekaaP29
set_option linter.all false
set_option linter.unnecessarySimpa false
set_option linter.unusedSimpArgs false
set_option linter.unusedVariables false
set_option linter.unusedSectionVars false

set_option linter.all false
namespace Go.Proofs.Ytkibdciomheekaa
open Go.RowKit Hp

set_option maxHeartbeats 8000000 in
set_option maxRecDepth 100000 in
theorem heatNarrower_any (bars : List Rg) (ss : List Stp) (vb vs : Value) (us : List Nat) (vu : Value) (lo hi : Int) (x2 y2 : Nat) (w : World) (hB : RR w w.heap.size vb bars) (hS : RP w w.heap.size vs ss) (hU : RU .u8 w w.heap.size vu us) (hu : ∀ x ∈ us, x ≤ 255) (h2 : x2 ≤ 65535 ∧ y2 ≤ 65535) :
    Calls Try.prog 10 #[.agg #[vb, vs], vu, .agg #[.int .i64 lo, .int .i64 hi], .agg #[.int .u16 x2, .int .u16 y2]] w fun x w' => x = .returned (.bool true) ∧ Below w.heap.size w w' := by
  obtain ⟨Ab, cb, rfl⟩ := hB.slice
  obtain ⟨As, cs, rfl⟩ := hS.slice
  obtain ⟨Au, cu, rfl⟩ := ru_slice hU
  obtain ⟨n0, hn0⟩ : ∃ n, w.heap.size = n := ⟨_, rfl⟩
  have hC : Below n0 w w := Below.refl _ _
  have HUS := Lib.hid hu
  clear hu
  obtain ⟨h2x, h2y⟩ := h2
  go_enter Try.func10, Try.ntmps10
  go_upto_region 1 with fail
  have hqbx : n0 ≤ n0 := by have := hC.size; omega
  have bx : BK (w.alloc (.cells #[.slice Ab bars.length cb, .slice As ss.length cs] 25)) (n0) #[.slice Ab bars.length cb, .slice As ss.length cs] 25 := BK.new' _ _ _ (n0) hn0
  have hsbx : (w.alloc (.cells #[.slice Ab bars.length cb, .slice As ss.length cs] 25)).heap.size = n0 + 1 := by simp [hn0]
  replace hC : Below n0 w (w.alloc (.cells #[.slice Ab bars.length cb, .slice As ss.length cs] 25)) := Below.alloc hC (by have := hC.size; omega) _
  replace hB := (RS.below hB (w' := (w.alloc (.cells #[.slice Ab bars.length cb, .slice As ss.length cs] 25))) (Below.alloc (Below.refl _ _) (Nat.le_refl _) _)).more (B' := (w.alloc (.cells #[.slice Ab bars.length cb, .slice As ss.length cs] 25)).heap.size) (by simp)
  replace hS := (RP.below hS (w' := (w.alloc (.cells #[.slice Ab bars.length cb, .slice As ss.length cs] 25))) (Below.alloc (Below.refl _ _) (Nat.le_refl _) _)).more (B' := (w.alloc (.cells #[.slice Ab bars.length cb, .slice As ss.length cs] 25)).heap.size) (by simp)
  replace hU := (RU.below hU (w' := (w.alloc (.cells #[.slice Ab bars.length cb, .slice As ss.length cs] 25))) (Below.alloc (Below.refl _ _) (Nat.le_refl _) _)).more (B' := (w.alloc (.cells #[.slice Ab bars.length cb, .slice As ss.length cs] 25)).heap.size) (by simp)
  generalize (w.alloc (.cells #[.slice Ab bars.length cb, .slice As ss.length cs] 25)) = Wbx at *
  have hqbz : n0 ≤ n0 + 1 := by have := hC.size; omega
  have bz : BK (Wbx.alloc (.cells #[.int .i64 lo, .int .i64 hi] 33)) (n0 + 1) #[.int .i64 lo, .int .i64 hi] 33 := BK.new' _ _ _ (n0 + 1) hsbx
  have hsbz : (Wbx.alloc (.cells #[.int .i64 lo, .int .i64 hi] 33)).heap.size = n0 + 1 + 1 := by simp [hsbx]
  replace hC : Below n0 w (Wbx.alloc (.cells #[.int .i64 lo, .int .i64 hi] 33)) := Below.alloc hC (by have := hC.size; omega) _
  replace hB := (RS.below hB (w' := (Wbx.alloc (.cells #[.int .i64 lo, .int .i64 hi] 33))) (Below.alloc (Below.refl _ _) (Nat.le_refl _) _)).more (B' := (Wbx.alloc (.cells #[.int .i64 lo, .int .i64 hi] 33)).heap.size) (by simp)
  replace hS := (RP.below hS (w' := (Wbx.alloc (.cells #[.int .i64 lo, .int .i64 hi] 33))) (Below.alloc (Below.refl _ _) (Nat.le_refl _) _)).more (B' := (Wbx.alloc (.cells #[.int .i64 lo, .int .i64 hi] 33)).heap.size) (by simp)
  replace hU := (RU.below hU (w' := (Wbx.alloc (.cells #[.int .i64 lo, .int .i64 hi] 33))) (Below.alloc (Below.refl _ _) (Nat.le_refl _) _)).more (B' := (Wbx.alloc (.cells #[.int .i64 lo, .int .i64 hi] 33)).heap.size) (by simp)
  replace bx := bx.alloc (.cells #[.int .i64 lo, .int .i64 hi] 33)
  generalize (Wbx.alloc (.cells #[.int .i64 lo, .int .i64 hi] 33)) = Wbz at *
  clear hsbx
  have hqaz : n0 ≤ n0 + 1 + 1 := by have := hC.size; omega
  have az : BK (Wbz.alloc (.cells #[.int .u16 x2, .int .u16 y2] 80)) (n0 + 1 + 1) #[.int .u16 x2, .int .u16 y2] 80 := BK.new' _ _ _ (n0 + 1 + 1) hsbz
  have hsaz : (Wbz.alloc (.cells #[.int .u16 x2, .int .u16 y2] 80)).heap.size = n0 + 1 + 1 + 1 := by simp [hsbz]
  replace hC : Below n0 w (Wbz.alloc (.cells #[.int .u16 x2, .int .u16 y2] 80)) := Below.alloc hC (by have := hC.size; omega) _
  replace hB := (RS.below hB (w' := (Wbz.alloc (.cells #[.int .u16 x2, .int .u16 y2] 80))) (Below.alloc (Below.refl _ _) (Nat.le_refl _) _)).more (B' := (Wbz.alloc (.cells #[.int .u16 x2, .int .u16 y2] 80)).heap.size) (by simp)
  replace hS := (RP.below hS (w' := (Wbz.alloc (.cells #[.int .u16 x2, .int .u16 y2] 80))) (Below.alloc (Below.refl _ _) (Nat.le_refl _) _)).more (B' := (Wbz.alloc (.cells #[.int .u16 x2, .int .u16 y2] 80)).heap.size) (by simp)
  replace hU := (RU.below hU (w' := (Wbz.alloc (.cells #[.int .u16 x2, .int .u16 y2] 80))) (Below.alloc (Below.refl _ _) (Nat.le_refl _) _)).more (B' := (Wbz.alloc (.cells #[.int .u16 x2, .int .u16 y2] 80)).heap.size) (by simp)
  replace bx := bx.alloc (.cells #[.int .u16 x2, .int .u16 y2] 80)
  replace bz := bz.alloc (.cells #[.int .u16 x2, .int .u16 y2] 80)
  generalize (Wbz.alloc (.cells #[.int .u16 x2, .int .u16 y2] 80)) = Waz at *
  clear hsbz
  have lbx := bx.lt
  have bxc0 := bx.cell 0
  have bxc1 := bx.cell 1
  simp at bxc0 bxc1
  go_wp2_with fail
  clear lbx bxc0 bxc1
  clear hsaz
  refine (fine_any bars ss _ _ _ hB hS).mono ?_
  rintro e w1 ⟨q, rfl, hq, hb⟩
  replace hC : Below n0 w w1 := hC.trans (hb.mono (by have := hC.size; omega))
  replace hB := (RS.below hB hb).more hb.size
  replace hS := (RP.below hS hb).more hb.size
  replace hU := (RU.below hU hb).more hb.size
  replace bx := bx.below hb bx.lt
  replace bz := bz.below hb bz.lt
  replace az := az.below hb az.lt
  clear hb
  cases q
  case false =>
    clear hq
    go_wp2_with fail
    refine (works_any _).mono ?_
    rintro e w2 ⟨rfl, hb⟩
    replace hC : Below n0 w w2 := hC.trans (hb.mono (by have := hC.size; omega))
    replace hB := (RS.below hB hb).more hb.size
    replace hS := (RP.below hS hb).more hb.size
    replace hU := (RU.below hU hb).more hb.size
    replace bx := bx.below hb bx.lt
    replace bz := bz.below hb bz.lt
    replace az := az.below hb az.lt
    clear hb
    go_wp2_with fail
    exact bodyPost_ret (v := .bool true) (by simp [results, Try.results10, go_sem]) rfl ⟨rfl, by first | exact hC | (rw [hn0]; exact hC) | (with_reducible rw [hn0]; exact bel_of) | exact bel_of⟩
  have hfp := hq.1 rfl
  have HF := Lib.hid (great_fit hfp.1)
  have HV := Lib.hid (okV_of hfp.2)
  clear hq hfp
  simp only [Bool.not_true]
  have lbx := bx.lt
  have bxc0 := bx.cell 0
  have bxc1 := bx.cell 1
  simp at bxc0 bxc1
  go_wp2_with fail
  clear lbx bxc0 bxc1
  refine (full_any bars ss _ _ _ HF.out hB hS).mono ?_
  rintro e w2 ⟨q, rfl, hq, hb⟩
  replace hC : Below n0 w w2 := hC.trans (hb.mono (by have := hC.size; omega))
  replace hB := (RS.below hB hb).more hb.size
  replace hS := (RP.below hS hb).more hb.size
  replace hU := (RU.below hU hb).more hb.size
  replace bx := bx.below hb bx.lt
  replace bz := bz.below hb bz.lt
  replace az := az.below hb az.lt
  clear hb
  cases q
  case true =>
    clear hq
    go_wp2_with fail
    refine (works_any _).mono ?_
    rintro e w3 ⟨rfl, hb⟩
    replace hC : Below n0 w w3 := hC.trans (hb.mono (by have := hC.size; omega))
    replace hB := (RS.below hB hb).more hb.size
    replace hS := (RP.below hS hb).more hb.size
    replace hU := (RU.below hU hb).more hb.size
    replace bx := bx.below hb bx.lt
    replace bz := bz.below hb bz.lt
    replace az := az.below hb az.lt
    clear hb
    go_wp2_with fail
    exact bodyPost_ret (v := .bool true) (by simp [results, Try.results10, go_sem]) rfl ⟨rfl, by first | exact hC | (rw [hn0]; exact hC) | (with_reducible rw [hn0]; exact bel_of) | exact bel_of⟩
  clear hq
  by_cases zhul : 20 < us.length
  case pos =>
    have zz : ((us.length : Nat) : Int) > 20 := by omega
    clear zhul
    have lbx := bx.lt
    have bxc0 := bx.cell 0
    have bxc1 := bx.cell 1
    simp at bxc0 bxc1
    go_wp2_with fail
    clear lbx bxc0 bxc1
    refine (works_any _).mono ?_
    rintro e w3 ⟨rfl, hb⟩
    replace hC : Below n0 w w3 := hC.trans (hb.mono (by have := hC.size; omega))
    replace hB := (RS.below hB hb).more hb.size
    replace hS := (RP.below hS hb).more hb.size
    replace hU := (RU.below hU hb).more hb.size
    replace bx := bx.below hb bx.lt
    replace bz := bz.below hb bz.lt
    replace az := az.below hb az.lt
    clear hb
    go_wp2_with fail
    exact bodyPost_ret (v := .bool true) (by simp [results, Try.results10, go_sem]) rfl ⟨rfl, by first | exact hC | (rw [hn0]; exact hC) | (with_reducible rw [hn0]; exact bel_of) | exact bel_of⟩
  have hul : us.length ≤ 20 := by omega
  have zzhul : ¬ ((us.length : Nat) : Int) > 20 := by omega
  clear zhul
  have lbz := bz.lt
  have bzc0 := bz.cell 0
  have bzc1 := bz.cell 1
  simp at bzc0 bzc1
  go_wp2_with fail
  clear lbz bzc0 bzc1
  refine (isHardR_any ⟨lo, hi⟩ _).mono ?_
  rintro e w3 ⟨rfl, hb⟩
  replace hC : Below n0 w w3 := hC.trans (hb.mono (by have := hC.size; omega))
  replace hB := (RS.below hB hb).more hb.size
  replace hS := (RP.below hS hb).more hb.size
  replace hU := (RU.below hU hb).more hb.size
  replace bx := bx.below hb bx.lt
  replace bz := bz.below hb bz.lt
  replace az := az.below hb az.lt
  clear hb
  by_cases hh : hard ⟨lo, hi⟩ = true
  case neg =>
    rw [Bool.eq_false_iff.2 hh]
    clear hh
    go_wp2_with fail
    refine (works_any _).mono ?_
    rintro e w4 ⟨rfl, hb⟩
    replace hC : Below n0 w w4 := hC.trans (hb.mono (by have := hC.size; omega))
    replace hB := (RS.below hB hb).more hb.size
    replace hS := (RP.below hS hb).more hb.size
    replace hU := (RU.below hU hb).more hb.size
    replace bx := bx.below hb bx.lt
    replace bz := bz.below hb bz.lt
    replace az := az.below hb az.lt
    clear hb
    go_wp2_with fail
    exact bodyPost_ret (v := .bool true) (by simp [results, Try.results10, go_sem]) rfl ⟨rfl, by first | exact hC | (rw [hn0]; exact hC) | (with_reducible rw [hn0]; exact bel_of) | exact bel_of⟩
  rw [hh]
  have hm : OkR ⟨lo, hi⟩ := hard_iff.1 hh
  have HM := Lib.hid hm
  clear hh hm
  have lbx := bx.lt
  have bxc0 := bx.cell 0
  have bxc1 := bx.cell 1
  simp at bxc0 bxc1
  go_wp2_with fail
  clear lbx bxc0 bxc1
  refine (one_any bars ss us _ _ _ _ HV.out HUS.out (by omega) hB hS hU).mono ?_
  rintro e w4 ⟨vk, rfl, hR, hb⟩
  replace hC : Below n0 w w4 := hC.trans (hb.mono (by have := hC.size; omega))
  replace hB := (RS.below hB hb).more hb.size
  replace hS := (RP.below hS hb).more hb.size
  replace hU := (RU.below hU hb).more hb.size
  replace bx := bx.below hb bx.lt
  replace bz := bz.below hb bz.lt
  replace az := az.below hb az.lt
  clear hb
  have hor := one_rec HV.out us
  obtain ⟨ks, hks⟩ : ∃ l, oneW ss us ss.length = l := ⟨_, rfl⟩
  obtain ⟨b, hbb⟩ : ∃ b : Int, ((oneB bars us : Nat) : Int) = b := ⟨_, rfl⟩
  rw [hks] at hR hor
  rw [hbb] at hor ⊢
  have HOR := Lib.hid hor
  have hs6 := hor.works.sfew
  have hkl := (recE_lens (recE_of hor)).1
  have HKS := Lib.hid hkl
  have HKL2 := Lib.hid (show ks.length ≤ 1000 by omega)
  obtain ⟨Ar, cr, rfl⟩ := ri_slice hR
  clear hks hbb hor hkl
  go_upto_region 4 with fail
  obtain ⟨m1, hm1⟩ : ∃ n, w4.heap.size = n := ⟨_, rfl⟩
  try rw [hm1]
  have hqwx : n0 ≤ m1 := by have := hC.size; omega
  have wx : BK (w4.alloc (.cells #[.int .i64 b, .slice Ar ks.length cr] 42)) (m1) #[.int .i64 b, .slice Ar ks.length cr] 42 := BK.new' _ _ _ (m1) hm1
  have hswx : (w4.alloc (.cells #[.int .i64 b, .slice Ar ks.length cr] 42)).heap.size = m1 + 1 := by simp [hm1]
  replace hC : Below n0 w (w4.alloc (.cells #[.int .i64 b, .slice Ar ks.length cr] 42)) := Below.alloc hC (by have := hC.size; omega) _
  replace hB := (RS.below hB (w' := (w4.alloc (.cells #[.int .i64 b, .slice Ar ks.length cr] 42))) (Below.alloc (Below.refl _ _) (Nat.le_refl _) _)).more (B' := (w4.alloc (.cells #[.int .i64 b, .slice Ar ks.length cr] 42)).heap.size) (by simp)
  replace hS := (RP.below hS (w' := (w4.alloc (.cells #[.int .i64 b, .slice Ar ks.length cr] 42))) (Below.alloc (Below.refl _ _) (Nat.le_refl _) _)).more (B' := (w4.alloc (.cells #[.int .i64 b, .slice Ar ks.length cr] 42)).heap.size) (by simp)
  replace hU := (RU.below hU (w' := (w4.alloc (.cells #[.int .i64 b, .slice Ar ks.length cr] 42))) (Below.alloc (Below.refl _ _) (Nat.le_refl _) _)).more (B' := (w4.alloc (.cells #[.int .i64 b, .slice Ar ks.length cr] 42)).heap.size) (by simp)
  replace bx := bx.alloc (.cells #[.int .i64 b, .slice Ar ks.length cr] 42)
  replace bz := bz.alloc (.cells #[.int .i64 b, .slice Ar ks.length cr] 42)
  replace az := az.alloc (.cells #[.int .i64 b, .slice Ar ks.length cr] 42)
  replace hR := (RS.below hR (w' := (w4.alloc (.cells #[.int .i64 b, .slice Ar ks.length cr] 42))) (Below.alloc (Below.refl _ _) (Nat.le_refl _) _)).more (B' := (w4.alloc (.cells #[.int .i64 b, .slice Ar ks.length cr] 42)).heap.size) (by simp)
  generalize (w4.alloc (.cells #[.int .i64 b, .slice Ar ks.length cr] 42)) = Wwx at *
  clear hm1
  clear hswx
  clear zzhul hul hU
  have lbz := bz.lt
  have bzc0 := bz.cell 0
  have bzc1 := bz.cell 1
  simp at bzc0 bzc1
  have laz := az.lt
  have azc0 := az.cell 0
  have azc1 := az.cell 1
  simp at azc0 azc1
  have hmk := HM.out
  obtain ⟨ho1, ho2, ho3⟩ := hmk
  dsimp only at ho1 ho2 ho3
  obtain ⟨xl, hxl⟩ : ∃ x, min hi (lo + (x2 : Int)) = x := ⟨_, rfl⟩
  obtain ⟨xh, hxh⟩ : ∃ x, max xl (hi - (y2 : Int)) = x := ⟨_, rfl⟩
  have hX1 : lo ≤ xl ∧ xl ≤ hi := by omega
  have hX2 : xl ≤ xh ∧ xh ≤ hi := by omega
  have v1 : IntKind.i64.wrap (x2 : Int) = (x2 : Int) := by rw [IntKind.wrap_i64]; omega
  have v2 : IntKind.i64.wrap (y2 : Int) = (y2 : Int) := by rw [IntKind.wrap_i64]; omega
  have v3 : IntKind.i64.wrap (lo + (x2 : Int)) = lo + (x2 : Int) := by rw [IntKind.wrap_i64]; omega
  have v4 : IntKind.i64.wrap (hi - (y2 : Int)) = hi - (y2 : Int) := by rw [IntKind.wrap_i64]; omega
  have v5 : (if lo + (x2 : Int) < hi then lo + (x2 : Int) else hi) = xl := by rw [← hxl]; split <;> omega
  have v6 : (if xl < hi - (y2 : Int) then hi - (y2 : Int) else xl) = xh := by rw [← hxh]; split <;> omega
  have HX : Hid (OkR ⟨xl, xh⟩) := Lib.hid ⟨hX2.1, by show 0 ≤ xl; omega, by show xh ≤ 1000; omega⟩
  have HX1 : Hid ((⟨lo, hi⟩ : Rg).lo ≤ (⟨xl, xh⟩ : Rg).lo) := Lib.hid hX1.1
  have HX2 : Hid ((⟨xl, xh⟩ : Rg).hi ≤ (⟨lo, hi⟩ : Rg).hi) := Lib.hid hX2.2
  clear hxl hxh
  go_upto_region 7 with fail
  clear v1 v2 v3 v4 v5 v6 ho1 ho2 ho3 hX1 hX2
  clear lbz bzc0 bzc1
  clear laz azc0 azc1
  clear az
  obtain ⟨m2, hm2⟩ : ∃ n, Wwx.heap.size = n := ⟨_, rfl⟩
  try rw [hm2]
  have hqxx : n0 ≤ m2 := by have := hC.size; omega
  have xx : BK (Wwx.alloc (.cells #[.int .i64 xl, .int .i64 xh] 33)) (m2) #[.int .i64 xl, .int .i64 xh] 33 := BK.new' _ _ _ (m2) hm2
  have hsxx : (Wwx.alloc (.cells #[.int .i64 xl, .int .i64 xh] 33)).heap.size = m2 + 1 := by simp [hm2]
  replace hC : Below n0 w (Wwx.alloc (.cells #[.int .i64 xl, .int .i64 xh] 33)) := Below.alloc hC (by have := hC.size; omega) _
  replace hB := (RS.below hB (w' := (Wwx.alloc (.cells #[.int .i64 xl, .int .i64 xh] 33))) (Below.alloc (Below.refl _ _) (Nat.le_refl _) _)).more (B' := (Wwx.alloc (.cells #[.int .i64 xl, .int .i64 xh] 33)).heap.size) (by simp)
  replace hS := (RP.below hS (w' := (Wwx.alloc (.cells #[.int .i64 xl, .int .i64 xh] 33))) (Below.alloc (Below.refl _ _) (Nat.le_refl _) _)).more (B' := (Wwx.alloc (.cells #[.int .i64 xl, .int .i64 xh] 33)).heap.size) (by simp)
  replace bx := bx.alloc (.cells #[.int .i64 xl, .int .i64 xh] 33)
  replace bz := bz.alloc (.cells #[.int .i64 xl, .int .i64 xh] 33)
  replace hR := (RS.below hR (w' := (Wwx.alloc (.cells #[.int .i64 xl, .int .i64 xh] 33))) (Below.alloc (Below.refl _ _) (Nat.le_refl _) _)).more (B' := (Wwx.alloc (.cells #[.int .i64 xl, .int .i64 xh] 33)).heap.size) (by simp)
  replace wx := wx.alloc (.cells #[.int .i64 xl, .int .i64 xh] 33)
  generalize (Wwx.alloc (.cells #[.int .i64 xl, .int .i64 xh] 33)) = Wxx at *
  clear hm2
  clear hsxx
  have lbx := bx.lt
  have bxc0 := bx.cell 0
  have bxc1 := bx.cell 1
  simp at bxc0 bxc1
  have lbz := bz.lt
  have bzc0 := bz.cell 0
  have bzc1 := bz.cell 1
  simp at bzc0 bzc1
  go_wp2_with fail
  clear lbx bxc0 bxc1
  clear lbz bzc0 bzc1
  refine (countF_any bars ss ⟨lo, hi⟩ _ _ _ HF.out hB hS cnt_few).mono ?_
  rintro e w5 ⟨rfl, hb⟩
  replace hC : Below n0 w w5 := hC.trans (hb.mono (by have := hC.size; omega))
  replace hB := (RS.below hB hb).more hb.size
  replace hS := (RP.below hS hb).more hb.size
  replace bx := bx.below hb bx.lt
  replace bz := bz.below hb bz.lt
  replace hR := (RS.below hR hb).more hb.size
  replace wx := wx.below hb wx.lt
  replace xx := xx.below hb xx.lt
  clear hb
  rw [if_pos (meas_ok HV.out HM.out), meas_ok HV.out HM.out]
  obtain ⟨cm, hcm⟩ : ∃ n : Int, ((mkL bars ⟨lo, hi⟩ ss).length : Int) = n := ⟨_, rfl⟩
  rw [hcm]
  have HCcm := Lib.hid hcm
  clear hcm
  have lbx := bx.lt
  have bxc0 := bx.cell 0
  have bxc1 := bx.cell 1
  simp at bxc0 bxc1
  have lxx := xx.lt
  have xxc0 := xx.cell 0
  have xxc1 := xx.cell 1
  simp at xxc0 xxc1
  go_wp2_with fail
  clear lbx bxc0 bxc1
  clear lxx xxc0 xxc1
  refine (countF_any bars ss ⟨xl, xh⟩ _ _ _ HF.out hB hS cnt_few).mono ?_
  rintro e w6 ⟨rfl, hb⟩
  replace hC : Below n0 w w6 := hC.trans (hb.mono (by have := hC.size; omega))
  replace hB := (RS.below hB hb).more hb.size
  replace hS := (RP.below hS hb).more hb.size
  replace bx := bx.below hb bx.lt
  replace bz := bz.below hb bz.lt
  replace hR := (RS.below hR hb).more hb.size
  replace wx := wx.below hb wx.lt
  replace xx := xx.below hb xx.lt
  clear hb
  rw [if_pos (meas_ok HV.out HX.out), meas_ok HV.out HX.out]
  obtain ⟨cx, hcx⟩ : ∃ n : Int, ((mkL bars ⟨xl, xh⟩ ss).length : Int) = n := ⟨_, rfl⟩
  rw [hcx]
  have HCcx := Lib.hid hcx
  clear hcx
  have HCC : Hid (cx ≤ cm) := Lib.hid (by rw [← HCcm.out, ← HCcx.out]; exact mkL_mono HX1.out HX2.out)
  have lbx := bx.lt
  have bxc0 := bx.cell 0
  have bxc1 := bx.cell 1
  simp at bxc0 bxc1
  have lbz := bz.lt
  have bzc0 := bz.cell 0
  have bzc1 := bz.cell 1
  simp at bzc0 bzc1
  have lwx := wx.lt
  have wxc0 := wx.cell 0
  have wxc1 := wx.cell 1
  simp at wxc0 wxc1
  go_wp2_with fail
  clear lbx bxc0 bxc1
  clear lbz bzc0 bzc1
  clear lwx wxc0 wxc1
  refine (hadX_any bars ss b ks ⟨lo, hi⟩ _ _ _ _ HF.out HKL2.out hB hS hR).mono ?_
  rintro e w7 ⟨vp, rfl, hp, hb⟩
  replace hC : Below n0 w w7 := hC.trans (hb.mono (by have := hC.size; omega))
  replace hB := (RS.below hB hb).more hb.size
  replace hS := (RP.below hS hb).more hb.size
  replace bx := bx.below hb bx.lt
  replace bz := bz.below hb bz.lt
  replace hR := (RS.below hR hb).more hb.size
  replace wx := wx.below hb wx.lt
  replace xx := xx.below hb xx.lt
  clear hb
  obtain ⟨Ap, cp, rfl⟩ := rr_slice hp
  obtain ⟨e3, he⟩ : ∃ e, hadE bars ss b ks ⟨lo, hi⟩ = e := ⟨_, rfl⟩
  obtain ⟨LP, hl⟩ : ∃ l, hadV bars ss b ks ⟨lo, hi⟩ = l := ⟨_, rfl⟩
  rw [he, hl]
  rw [hl] at hp
  have He3 := Lib.hid he
  have HLP := Lib.hid hl
  clear he hl
  have lbx := bx.lt
  have bxc0 := bx.cell 0
  have bxc1 := bx.cell 1
  simp at bxc0 bxc1
  have lxx := xx.lt
  have xxc0 := xx.cell 0
  have xxc1 := xx.cell 1
  simp at xxc0 xxc1
  have lwx := wx.lt
  have wxc0 := wx.cell 0
  have wxc1 := wx.cell 1
  simp at wxc0 wxc1
  go_wp2_with fail
  clear lbx bxc0 bxc1
  clear lxx xxc0 xxc1
  clear lwx wxc0 wxc1
  refine (hadX_any bars ss b ks ⟨xl, xh⟩ _ _ _ _ HF.out HKL2.out hB hS hR).mono ?_
  rintro e w8 ⟨vq, rfl, hq, hb⟩
  replace hC : Below n0 w w8 := hC.trans (hb.mono (by have := hC.size; omega))
  replace hB := (RS.below hB hb).more hb.size
  replace hS := (RP.below hS hb).more hb.size
  replace bx := bx.below hb bx.lt
  replace bz := bz.below hb bz.lt
  replace hR := (RS.below hR hb).more hb.size
  replace wx := wx.below hb wx.lt
  replace xx := xx.below hb xx.lt
  replace hp := (RS.below hp hb).more hb.size
  clear hb
  obtain ⟨Aq, cq, rfl⟩ := rr_slice hq
  obtain ⟨e4, he⟩ : ∃ e, hadE bars ss b ks ⟨xl, xh⟩ = e := ⟨_, rfl⟩
  obtain ⟨LQ, hl⟩ : ∃ l, hadV bars ss b ks ⟨xl, xh⟩ = l := ⟨_, rfl⟩
  rw [he, hl]
  rw [hl] at hq
  have He4 := Lib.hid he
  have HLQ := Lib.hid hl
  clear he hl
  have ht3 : e3 = 0 ∨ e3 = 17 := by have := had_two HOR.out HM.out; rw [He3.out] at this; exact this
  have ht4 : e4 = 0 ∨ e4 = 17 := by have := had_two HOR.out HX.out; rw [He4.out] at this; exact this
  have h43 : e4 = 0 → e3 = 0 := fun h => by rw [← He3.out]; exact had_mono HM.out HX1.out HX2.out (He4.out.trans h)
  have HDV : Hid (e4 = 0 → LP.length = ss.length + 1 ∧ LQ.length = ss.length + 1 ∧ ∀ i, i ≤ ss.length → (nthB LP i).lo ≤ (nthB LQ i).lo ∧ (nthB LQ i).hi ≤ (nthB LP i).hi) := Lib.hid (fun h => by
    have h4 := He4.out.trans h
    have h3 := He3.out.trans (h43 h)
    rw [← HLP.out, ← HLQ.out]
    exact ⟨hadV_len' h3, hadV_len' h4, fun i hi => hadV_mono HM.out HX1.out HX2.out h4 hi⟩)
  have g1 : decide (cm < cx) = false := decide_eq_false (by have := HCC.out; omega)
  have HT3 := Lib.hid ht3
  have HT4 := Lib.hid ht4
  have H43 := Lib.hid h43
  clear ht3 ht4 h43
  go_upto_region 11 with fail
  go_cut [135] from 1000 (fun s V => s = .bool false ∧ V = w8)
  case first =>
    have ht3 := HT3.out
    have ht4 := HT4.out
    have h43 := H43.out
    rcases ht4 with rfl | rfl
    · obtain rfl := h43 rfl
      clear ht3 h43
      go_wp2_with fail
      go_meet
      case rel => exact ⟨rfl, rfl⟩
    · clear h43
      rcases ht3 with rfl | rfl
      · go_wp2_with fail
        go_meet
        case rel => exact ⟨rfl, rfl⟩
      · go_wp2_with fail
        go_meet
        case rel => exact ⟨rfl, rfl⟩
  obtain ⟨rfl, rfl⟩ := hcut
  clear g1
  go_upto_if 137 with fail
  rename World => we
  go_cut [] from 138 (fun V => Below we.heap.size we V)
  case first =>
    by_cases h0 : e4 = 0
    case neg =>
      have q0 : (e4 == 0) = false := by simp [h0]
      clear h0
      go_wp2_with fail
      go_meet
      case rel => exact Below.refl _ _
    subst h0
    obtain ⟨hl1, hl2, hdv⟩ := HDV.out rfl
    have HDV2 := Lib.hid hdv
    have HL1 := Lib.hid hl1
    have HL2 := Lib.hid hl2
    have nl : (((LP.length : Nat) : Int) != ((LQ.length : Nat) : Int)) = false := by rw [hl1, hl2]; simp
    have hlp7 : LP.length ≤ 1000 := by omega
    clear hl1 hl2 hdv
    go_wp2_with fail
    clear nl
    go_loopw [19] (fun i wr => ∃ k : Nat, k ≤ LP.length ∧ i = .int .i64 (k : Int) ∧ Below we.heap.size we wr) (fun i _ => LP.length - (intOf i).toNat)
    case atStart => exact ⟨0, Nat.zero_le _, rfl, Below.refl _ _⟩
    case round =>
      obtain ⟨k, hk, rfl, hb⟩ := hrel
      have hbr := hb
      replace hC : Below n0 w wr := hC.trans (hb.mono (by have := hC.size; omega))
      replace hB := (RS.below hB hb).more hb.size
      replace hS := (RP.below hS hb).more hb.size
      replace bx := bx.below hb bx.lt
      replace bz := bz.below hb bz.lt
      replace hR := (RS.below hR hb).more hb.size
      replace wx := wx.below hb wx.lt
      replace xx := xx.below hb xx.lt
      replace hp := (RS.below hp hb).more hb.size
      replace hq := (RS.below hq hb).more hb.size
      clear hb
      by_cases hlt : k < LP.length
      case neg =>
        have hlt' : ¬ (k : Int) < (LP.length : Int) := by omega
        have HBR := Lib.hid hbr
        clear hbr
        go_wp2_with fail
        go_meet
        case rel => exact HBR.out
      have hlt' : (k : Int) < (LP.length : Int) := by omega
      have hlq : k < LQ.length := by have := HL2.out; have := HL1.out; omega
      have hlq' : (k : Int) < (LQ.length : Int) := by omega
      have hdv := HDV2.out k (by have := HL1.out; omega)
      obtain ⟨A_p, c_p, b_p, o_p, hve, hA, hc⟩ := RR.cells hp
      obtain ⟨rfl, hb_p⟩ := hA (by omega)
      injection hve with q1 q2 q3
      first | (subst q1; subst q3) | (injection q1 with q1; injection q1 with q4 q5; subst q4; subst q5; subst q3)
      obtain ⟨d_p0, d_p1⟩ := hc k hlt
      clear hA hc q2
      obtain ⟨A_q, c_q, b_q, o_q, hve, hA, hc⟩ := RR.cells hq
      obtain ⟨rfl, hb_q⟩ := hA (by omega)
      injection hve with q1 q2 q3
      first | (subst q1; subst q3) | (injection q1 with q1; injection q1 with q4 q5; subst q4; subst q5; subst q3)
      obtain ⟨d_q0, d_q1⟩ := hc k hlq
      clear hA hc q2
      obtain ⟨⟨pl, ph⟩, hr⟩ : ∃ r, nthB LP k = r := ⟨_, rfl⟩
      obtain ⟨⟨ql, qh⟩, hr2⟩ : ∃ r, nthB LQ k = r := ⟨_, rfl⟩
      rw [hr] at hdv d_p0 d_p1
      rw [hr2] at hdv d_q0 d_q1
      dsimp only at d_p0 d_p1 d_q0 d_q1 hdv
      have g1 : decide (ql < pl) = false := decide_eq_false (by omega)
      have g2 : decide (ph < qh) = false := decide_eq_false (by omega)
      have HBR := Lib.hid hbr
      clear hdv hr hr2 hB hS hR bx wx bz xx hbr
      go_upto_region 19 with fail
      go_quiet (fail)
      clear d_p0 d_p1 d_q0 d_q1 g1 g2 hb_p hb_q
      have hbr := HBR.out
      go_wp2_with fail
      go_roundw
      case rel => exact ⟨k + 1, by omega, by go_num, by exact bel_of⟩
      case measure => simp [intOf]; omega
  have hb := hcut
  clear hcut hp hq
  replace hC : Below n0 w wc := hC.trans (hb.mono (by have := hC.size; omega))
  replace hB := (RS.below hB hb).more hb.size
  replace hS := (RP.below hS hb).more hb.size
  replace bx := bx.below hb bx.lt
  replace bz := bz.below hb bz.lt
  replace hR := (RS.below hR hb).more hb.size
  replace wx := wx.below hb wx.lt
  replace xx := xx.below hb xx.lt
  clear hb
  clear HDV HT3 HT4 H43 He3 He4 HLP HLQ wx hR
  have lbx := bx.lt
  have bxc0 := bx.cell 0
  have bxc1 := bx.cell 1
  simp at bxc0 bxc1
  have lbz := bz.lt
  have bzc0 := bz.cell 0
  have bzc1 := bz.cell 1
  simp at bzc0 bzc1
  go_wp2_with fail
  clear lbx bxc0 bxc1
  clear lbz bzc0 bzc1
  refine (barsF_any bars ss ⟨lo, hi⟩ _ _ _ HF.out hB hS).mono ?_
  rintro e w9 ⟨vc, rfl, hc, hb⟩
  replace hC : Below n0 w w9 := hC.trans (hb.mono (by have := hC.size; omega))
  replace hB := (RS.below hB hb).more hb.size
  replace hS := (RP.below hS hb).more hb.size
  replace bx := bx.below hb bx.lt
  replace bz := bz.below hb bz.lt
  replace xx := xx.below hb xx.lt
  clear hb
  rw [show (if barsE bars ss ⟨lo, hi⟩ = 0 then someV bars ⟨lo, hi⟩ ss (-1) else []) = barsL bars ss ⟨lo, hi⟩ from rfl] at hc
  have hll := barsL_len (bars := bars) (ss := ss) (m := ⟨lo, hi⟩)
  obtain ⟨Ac, cc, rfl⟩ := ri_slice hc
  obtain ⟨bm, he⟩ : ∃ e, barsE bars ss ⟨lo, hi⟩ = e := ⟨_, rfl⟩
  obtain ⟨LC, hl⟩ : ∃ l, barsL bars ss ⟨lo, hi⟩ = l := ⟨_, rfl⟩
  rw [he, hl]
  rw [hl] at hc hll
  have Hbm := Lib.hid he
  have HLC := Lib.hid hl
  have HLC7 := Lib.hid hll
  clear he hl hll
  have lbx := bx.lt
  have bxc0 := bx.cell 0
  have bxc1 := bx.cell 1
  simp at bxc0 bxc1
  have lxx := xx.lt
  have xxc0 := xx.cell 0
  have xxc1 := xx.cell 1
  simp at xxc0 xxc1
  go_wp2_with fail
  clear lbx bxc0 bxc1
  clear lxx xxc0 xxc1
  refine (barsF_any bars ss ⟨xl, xh⟩ _ _ _ HF.out hB hS).mono ?_
  rintro e w10 ⟨vd, rfl, hd, hb⟩
  replace hC : Below n0 w w10 := hC.trans (hb.mono (by have := hC.size; omega))
  replace hB := (RS.below hB hb).more hb.size
  replace hS := (RP.below hS hb).more hb.size
  replace bx := bx.below hb bx.lt
  replace bz := bz.below hb bz.lt
  replace xx := xx.below hb xx.lt
  replace hc := (RS.below hc hb).more hb.size
  clear hb
  rw [show (if barsE bars ss ⟨xl, xh⟩ = 0 then someV bars ⟨xl, xh⟩ ss (-1) else []) = barsL bars ss ⟨xl, xh⟩ from rfl] at hd
  have hll := barsL_len (bars := bars) (ss := ss) (m := ⟨xl, xh⟩)
  obtain ⟨Ad, cd, rfl⟩ := ri_slice hd
  obtain ⟨bb, he⟩ : ∃ e, barsE bars ss ⟨xl, xh⟩ = e := ⟨_, rfl⟩
  obtain ⟨LD, hl⟩ : ∃ l, barsL bars ss ⟨xl, xh⟩ = l := ⟨_, rfl⟩
  rw [he, hl]
  rw [hl] at hd hll
  have Hbb := Lib.hid he
  have HLD := Lib.hid hl
  have HLD7 := Lib.hid hll
  clear he hl hll
  have lbx := bx.lt
  have bxc0 := bx.cell 0
  have bxc1 := bx.cell 1
  simp at bxc0 bxc1
  have lbz := bz.lt
  have bzc0 := bz.cell 0
  have bzc1 := bz.cell 1
  simp at bzc0 bzc1
  go_wp2_with fail
  clear lbx bxc0 bxc1
  clear lbz bzc0 bzc1
  refine (waysF_any bars ss ⟨lo, hi⟩ _ _ _ HF.out hB hS).mono ?_
  rintro e w11 ⟨vp, rfl, hp, hb⟩
  replace hC : Below n0 w w11 := hC.trans (hb.mono (by have := hC.size; omega))
  replace hB := (RS.below hB hb).more hb.size
  replace hS := (RP.below hS hb).more hb.size
  replace bx := bx.below hb bx.lt
  replace bz := bz.below hb bz.lt
  replace xx := xx.below hb xx.lt
  replace hc := (RS.below hc hb).more hb.size
  replace hd := (RS.below hd hb).more hb.size
  clear hb
  rw [show (if barsE bars ss ⟨lo, hi⟩ = 0 then wysL bars ⟨lo, hi⟩ ss ss.length else []) = waysL bars ss ⟨lo, hi⟩ from rfl] at hp
  have hll := waysL_len (bars := bars) (ss := ss) (m := ⟨lo, hi⟩)
  have hlf := waysL_few (bars := bars) (ss := ss) (m := ⟨lo, hi⟩)
  obtain ⟨Ap, cp, rfl⟩ := hp.slice
  obtain ⟨LP, hl⟩ : ∃ l, waysL bars ss ⟨lo, hi⟩ = l := ⟨_, rfl⟩
  rw [Hbm.out, hl]
  rw [hl] at hp hll hlf
  have HLP := Lib.hid hl
  have HLP7 := Lib.hid hll
  have HLPf := Lib.hid hlf
  clear hl hll hlf
  have lbx := bx.lt
  have bxc0 := bx.cell 0
  have bxc1 := bx.cell 1
  simp at bxc0 bxc1
  have lxx := xx.lt
  have xxc0 := xx.cell 0
  have xxc1 := xx.cell 1
  simp at xxc0 xxc1
  go_wp2_with fail
  clear lbx bxc0 bxc1
  clear lxx xxc0 xxc1
  refine (waysF_any bars ss ⟨xl, xh⟩ _ _ _ HF.out hB hS).mono ?_
  rintro e w12 ⟨vq, rfl, hq, hb⟩
  replace hC : Below n0 w w12 := hC.trans (hb.mono (by have := hC.size; omega))
  replace hB := (RS.below hB hb).more hb.size
  replace hS := (RP.below hS hb).more hb.size
  replace bx := bx.below hb bx.lt
  replace bz := bz.below hb bz.lt
  replace xx := xx.below hb xx.lt
  replace hc := (RS.below hc hb).more hb.size
  replace hd := (RS.below hd hb).more hb.size
  replace hp := RLi.next hp hb
  clear hb
  rw [show (if barsE bars ss ⟨xl, xh⟩ = 0 then wysL bars ⟨xl, xh⟩ ss ss.length else []) = waysL bars ss ⟨xl, xh⟩ from rfl] at hq
  have hll := waysL_len (bars := bars) (ss := ss) (m := ⟨xl, xh⟩)
  have hlf := waysL_few (bars := bars) (ss := ss) (m := ⟨xl, xh⟩)
  obtain ⟨Aq, cq, rfl⟩ := hq.slice
  obtain ⟨LQ, hl⟩ : ∃ l, waysL bars ss ⟨xl, xh⟩ = l := ⟨_, rfl⟩
  rw [Hbb.out, hl]
  rw [hl] at hq hll hlf
  have HLQ := Lib.hid hl
  have HLQ7 := Lib.hid hll
  have HLQf := Lib.hid hlf
  clear hl hll hlf
  have lbx := bx.lt
  have bxc0 := bx.cell 0
  have bxc1 := bx.cell 1
  simp at bxc0 bxc1
  have lbz := bz.lt
  have bzc0 := bz.cell 0
  have bzc1 := bz.cell 1
  simp at bzc0 bzc1
  go_wp2_with fail
  clear lbx bxc0 bxc1
  clear lbz bzc0 bzc1
  refine (askF_any bars ss ⟨lo, hi⟩ _ _ _ HF.out hB hS).mono ?_
  rintro e w13 ⟨rfl, hb⟩
  replace hC : Below n0 w w13 := hC.trans (hb.mono (by have := hC.size; omega))
  replace hB := (RS.below hB hb).more hb.size
  replace hS := (RP.below hS hb).more hb.size
  replace bx := bx.below hb bx.lt
  replace bz := bz.below hb bz.lt
  replace xx := xx.below hb xx.lt
  replace hc := (RS.below hc hb).more hb.size
  replace hd := (RS.below hd hb).more hb.size
  replace hp := RLi.next hp hb
  replace hq := RLi.next hq hb
  clear hb
  obtain ⟨⟨qml, qmh⟩, hq9⟩ : ∃ q, askQ bars ss ⟨lo, hi⟩ = q := ⟨_, rfl⟩
  rw [hq9, Hbm.out]
  have Hqm := Lib.hid hq9
  clear hq9
  have lbx := bx.lt
  have bxc0 := bx.cell 0
  have bxc1 := bx.cell 1
  simp at bxc0 bxc1
  have lxx := xx.lt
  have xxc0 := xx.cell 0
  have xxc1 := xx.cell 1
  simp at xxc0 xxc1
  go_wp2_with fail
  clear lbx bxc0 bxc1
  clear lxx xxc0 xxc1
  refine (askF_any bars ss ⟨xl, xh⟩ _ _ _ HF.out hB hS).mono ?_
  rintro e w14 ⟨rfl, hb⟩
  replace hC : Below n0 w w14 := hC.trans (hb.mono (by have := hC.size; omega))
  replace hB := (RS.below hB hb).more hb.size
  replace hS := (RP.below hS hb).more hb.size
  replace bx := bx.below hb bx.lt
  replace bz := bz.below hb bz.lt
  replace xx := xx.below hb xx.lt
  replace hc := (RS.below hc hb).more hb.size
  replace hd := (RS.below hd hb).more hb.size
  replace hp := RLi.next hp hb
  replace hq := RLi.next hq hb
  clear hb
  obtain ⟨⟨qxl, qxh⟩, hq9⟩ : ∃ q, askQ bars ss ⟨xl, xh⟩ = q := ⟨_, rfl⟩
  rw [hq9, Hbb.out]
  have Hqx := Lib.hid hq9
  clear hq9
  have htm : bm = 0 ∨ bm = 17 := by have := barsE_two HV.out HM.out; rw [Hbm.out] at this; rw [this]; split <;> simp
  have htb : bb = 0 ∨ bb = 17 := by have := barsE_two HV.out HX.out; rw [Hbb.out] at this; rw [this]; split <;> simp
  have hbm0 : bb = 0 → bm = 0 := fun h => by rw [← Hbm.out]; exact barsE_mono HV.out HM.out HX.out HX1.out HX2.out (Hbb.out.trans h)
  have hpm : (bm == 0) = decide (0 < cm) := by rw [← Hbm.out, ← HCcm.out]; exact barsE_pos HV.out HM.out
  have hpx : (bb == 0) = decide (0 < cx) := by rw [← Hbb.out, ← HCcx.out]; exact barsE_pos HV.out HX.out
  rcases htb with rfl | rfl
  case inr =>
    have n1 : decide (0 < cx) = false := hpx.symm
    by_cases nl : (((LP.length : Nat) : Int) != ((LQ.length : Nat) : Int)) = true
    case pos =>
      rcases htm with rfl | rfl
      ·skip
       have n2 : decide (0 < cm) = true := hpm.symm
       clear hbm0 hpm hpx hc hd hp hq
       go_wp2_with fail
       refine (works_any _).mono ?_
       rintro e w15 ⟨rfl, hb⟩
       replace hC : Below n0 w w15 := hC.trans (hb.mono (by have := hC.size; omega))
       replace hB := (RS.below hB hb).more hb.size
       replace hS := (RP.below hS hb).more hb.size
       replace bx := bx.below hb bx.lt
       replace bz := bz.below hb bz.lt
       replace xx := xx.below hb xx.lt
       clear hb
       go_wp2_with fail
       exact bodyPost_ret (v := .bool true) (by simp [results, Try.results10, go_sem]) rfl ⟨rfl, by first | exact hC | (rw [hn0]; exact hC) | (with_reducible rw [hn0]; exact bel_of) | exact bel_of⟩
      ·skip
       have n2 : decide (0 < cm) = false := hpm.symm
       clear hbm0 hpm hpx hc hd hp hq
       go_wp2_with fail
       refine (works_any _).mono ?_
       rintro e w15 ⟨rfl, hb⟩
       replace hC : Below n0 w w15 := hC.trans (hb.mono (by have := hC.size; omega))
       replace hB := (RS.below hB hb).more hb.size
       replace hS := (RP.below hS hb).more hb.size
       replace bx := bx.below hb bx.lt
       replace bz := bz.below hb bz.lt
       replace xx := xx.below hb xx.lt
       clear hb
       go_wp2_with fail
       exact bodyPost_ret (v := .bool true) (by simp [results, Try.results10, go_sem]) rfl ⟨rfl, by first | exact hC | (rw [hn0]; exact hC) | (with_reducible rw [hn0]; exact bel_of) | exact bel_of⟩
    case neg =>
      have nl2 := Bool.eq_false_iff.2 nl
      rcases htm with rfl | rfl
      ·skip
       have n2 : decide (0 < cm) = true := hpm.symm
       clear hbm0 hpm hpx hc hd hp hq
       go_wp2_with fail
       refine (works_any _).mono ?_
       rintro e w15 ⟨rfl, hb⟩
       replace hC : Below n0 w w15 := hC.trans (hb.mono (by have := hC.size; omega))
       replace hB := (RS.below hB hb).more hb.size
       replace hS := (RP.below hS hb).more hb.size
       replace bx := bx.below hb bx.lt
       replace bz := bz.below hb bz.lt
       replace xx := xx.below hb xx.lt
       clear hb
       go_wp2_with fail
       exact bodyPost_ret (v := .bool true) (by simp [results, Try.results10, go_sem]) rfl ⟨rfl, by first | exact hC | (rw [hn0]; exact hC) | (with_reducible rw [hn0]; exact bel_of) | exact bel_of⟩
      ·skip
       have n2 : decide (0 < cm) = false := hpm.symm
       clear hbm0 hpm hpx hc hd hp hq
       go_wp2_with fail
       refine (works_any _).mono ?_
       rintro e w15 ⟨rfl, hb⟩
       replace hC : Below n0 w w15 := hC.trans (hb.mono (by have := hC.size; omega))
       replace hB := (RS.below hB hb).more hb.size
       replace hS := (RP.below hS hb).more hb.size
       replace bx := bx.below hb bx.lt
       replace bz := bz.below hb bz.lt
       replace xx := xx.below hb xx.lt
       clear hb
       go_wp2_with fail
       exact bodyPost_ret (v := .bool true) (by simp [results, Try.results10, go_sem]) rfl ⟨rfl, by first | exact hC | (rw [hn0]; exact hC) | (with_reducible rw [hn0]; exact bel_of) | exact bel_of⟩
  obtain rfl := hbm0 rfl
  have n1 : decide (0 < cx) = true := hpx.symm
  have n2 : decide (0 < cm) = true := hpm.symm
  have hlp : LP.length = ss.length := by rw [← HLP.out]; unfold waysL; rw [if_pos Hbm.out, wysL_len]
  have hlq : LQ.length = ss.length := by rw [← HLQ.out]; unfold waysL; rw [if_pos Hbb.out, wysL_len]
  have nl : (((LP.length : Nat) : Int) != ((LQ.length : Nat) : Int)) = false := by rw [hlp, hlq]; simp
  have HSB : Hid (∀ v ∈ LD, v ∈ LC) := Lib.hid (fun v hv => by
    rw [← HLC.out]
    rw [← HLD.out] at hv
    unfold barsL at hv ⊢
    rw [if_pos Hbb.out] at hv
    rw [if_pos Hbm.out]
    exact bars_sub HV.out HM.out HX.out HX1.out HX2.out hv)
  have HSW : Hid (∀ i, i < ss.length → ∀ v ∈ nthLi LQ i, v ∈ nthLi LP i) := Lib.hid (fun i hi v hv => by
    rw [← HLP.out]
    rw [← HLQ.out] at hv
    unfold waysL at hv ⊢
    rw [if_pos Hbb.out] at hv
    rw [if_pos Hbm.out]
    exact ways_sub HV.out HM.out HX.out HX1.out HX2.out hi hv)
  have HQQ : Hid (qxh ≤ qmh ∧ 1 ≤ qxh ∧ qmh ≤ cm) := Lib.hid (by
    have h := askQ_mono HV.out HM.out HX.out HX1.out HX2.out Hbb.out
    rw [Hqm.out, Hqx.out, HCcm.out] at h
    exact h)
  have HKP := Lib.hid hlp
  have HKQ := Lib.hid hlq
  have HLD8 := HLD7.out
  clear hbm0 hpm hpx hlp hlq htm bx bz xx hB hS
  go_wp2_with fail
  clear n1 n2 nl
  go_loopw [30] (fun z wr => ∃ k : Nat, k ≤ LD.length ∧ z = .int .i64 (k : Int) ∧ Below w14.heap.size w14 wr) (fun z _ => LD.length - (intOf z).toNat)
  case atStart => exact ⟨0, Nat.zero_le _, rfl, Below.refl _ _⟩
  case round =>
    rename World => wb
    obtain ⟨k, hkk, rfl, hb⟩ := hrel
    have hbk := hb
    replace hC : Below n0 w wb := hC.trans (hb.mono (by have := hC.size; omega))
    replace hc := (RS.below hc hb).more hb.size
    replace hd := (RS.below hd hb).more hb.size
    replace hp := RLi.next hp hb
    replace hq := RLi.next hq hb
    clear hb
    by_cases hlt : k < LD.length
    case pos =>
      have hlt' : (k : Int) < (LD.length : Int) := by omega
      have hmem : nthI LD k ∈ LD := by unfold nthI; rw [List.getD_eq_getElem?_getD, List.getElem?_eq_getElem hlt]; exact List.getElem_mem _
      have hmc := HSB.out _ hmem
      obtain ⟨A_d, c_d, b_d, o_d, hve, hA, hc⟩ := RI.cells hd
      obtain ⟨rfl, hb_d⟩ := hA (by omega)
      injection hve with q1 q2 q3
      first | (subst q1; subst q3) | (injection q1 with q1; injection q1 with q4 q5; subst q4; subst q5; subst q3)
      have d_d := hc k hlt
      clear hA hc q2
      obtain ⟨x, hx⟩ : ∃ x, nthI LD k = x := ⟨_, rfl⟩
      rw [hx] at d_d hmc
      have HMC := Lib.hid (decide_eq_true hmc)
      clear hmem hmc hx
      go_wp2_with fail
      clear d_d hb_d
      refine (mem_any LC x _ _ HLC7.out hc).mono ?_
      rintro e w15 ⟨rfl, hb⟩
      replace hC : Below n0 w w15 := hC.trans (hb.mono (by have := hC.size; omega))
      replace hc := (RS.below hc hb).more hb.size
      replace hd := (RS.below hd hb).more hb.size
      replace hp := RLi.next hp hb
      replace hq := RLi.next hq hb
      replace hbk := hbk.trans (hb.mono hbk.size)
      clear hb
      rw [HMC.out]
      go_wp2_with fail
      go_roundw
      case rel => exact ⟨k + 1, by omega, by go_num, hbk⟩
      case measure => simp [intOf]; omega
    have hlt' : ¬ (k : Int) < (LD.length : Int) := by omega
    clear hlt
    clear hc hd hbk
    have hlq7 : LQ.length ≤ 1000 := HLQ7.out
    go_wp2_with fail
    clear hlt'
    go_loopw [31] (fun z wr => ∃ k : Nat, k ≤ LQ.length ∧ z = .int .i64 (k : Int) ∧ Below wb.heap.size wb wr) (fun z _ => LQ.length - (intOf z).toNat)
    case atStart => exact ⟨0, Nat.zero_le _, rfl, Below.refl _ _⟩
    case round =>
      rename World => wi
      obtain ⟨i, hki, rfl, hb⟩ := hrel
      have hbi := hb
      replace hC : Below n0 w wi := hC.trans (hb.mono (by have := hC.size; omega))
      replace hp := RLi.next hp hb
      replace hq := RLi.next hq hb
      clear hb
      by_cases hlt : i < LQ.length
      case neg =>
        have hlt' : ¬ (i : Int) < (LQ.length : Int) := by omega
        obtain ⟨hq1, hq2, hq3⟩ := HQQ.out
        have n1 : decide (qxh ≤ qmh) = true := decide_eq_true hq1
        have n2 : decide (1 ≤ qxh) = true := decide_eq_true hq2
        have n3 : decide (qmh ≤ cm) = true := decide_eq_true hq3
        clear hq1 hq2 hq3 hlt hp hq hbi
        go_wp2_with fail
        refine (works_any _).mono ?_
        rintro e w15 ⟨rfl, hb⟩
        replace hC : Below n0 w w15 := hC.trans (hb.mono (by have := hC.size; omega))
        clear hb
        go_wp2_with fail
        exact bodyPost_ret (v := .bool true) (by simp [results, Try.results10, go_sem]) rfl ⟨rfl, by first | exact hC | (rw [hn0]; exact hC) | (with_reducible rw [hn0]; exact bel_of) | exact bel_of⟩
      have hlt' : (i : Int) < (LQ.length : Int) := by omega
      have his : i < ss.length := by have := HKQ.out; omega
      have hip : i < LP.length := by have := HKP.out; omega
      have hip' : (i : Int) < (LP.length : Int) := by omega
      have hlqi : (nthLi LQ i).length ≤ 1000 := HLQf.out _ (mem_nthLi hlt)
      go_wp2_with fail
      go_loopw [32] (fun z wr => ∃ k : Nat, k ≤ (nthLi LQ i).length ∧ z = .int .i64 (k : Int) ∧ Below wi.heap.size wi wr) (fun z _ => (nthLi LQ i).length - (intOf z).toNat)
      case atStart => exact ⟨0, Nat.zero_le _, rfl, Below.refl _ _⟩
      case round =>
        rename World => wk
        obtain ⟨j, hkj, rfl, hb⟩ := hrel
        have hbj := hb
        replace hC : Below n0 w wk := hC.trans (hb.mono (by have := hC.size; omega))
        replace hp := RLi.next hp hb
        replace hq := RLi.next hq hb
        replace hbi := hbi.trans (hb.mono hbi.size)
        clear hb
        obtain ⟨A_q, c_q, b_q, o_q, hve, hA, hcc⟩ := RLi.cells hq
        obtain ⟨rfl, hb_q⟩ := hA (by omega)
        injection hve with q1 q2 q3
        first | (subst q1; subst q3) | (injection q1 with q1; injection q1 with q4 q5; subst q4; subst q5; subst q3)
        obtain ⟨u_q, d_q, hu_q⟩ := hcc i hlt
        obtain ⟨A_qu, c_qu, rfl⟩ := ri_slice hu_q
        clear hA hcc q2
        by_cases hlj : j < (nthLi LQ i).length
        case neg =>
          have hlj' : ¬ (j : Int) < ((nthLi LQ i).length : Int) := by omega
          clear hlj hu_q
          go_wp2_with fail
          go_roundw
          case rel => exact ⟨i + 1, by omega, by go_num, hbi⟩
          case measure => simp [intOf]; omega
        have hlj' : (j : Int) < ((nthLi LQ i).length : Int) := by omega
        have hmem : nthI (nthLi LQ i) j ∈ nthLi LQ i := by unfold nthI; rw [List.getD_eq_getElem?_getD, List.getElem?_eq_getElem hlj]; exact List.getElem_mem _
        have hmc := HSW.out i his _ hmem
        have HLPI := Lib.hid (HLPf.out _ (mem_nthLi hip))
        obtain ⟨A_p, c_p, b_p, o_p, hve, hA, hcc⟩ := RLi.cells hp
        obtain ⟨rfl, hb_p⟩ := hA (by omega)
        injection hve with q1 q2 q3
        first | (subst q1; subst q3) | (injection q1 with q1; injection q1 with q4 q5; subst q4; subst q5; subst q3)
        obtain ⟨u_p, d_p, hu_p⟩ := hcc i hip
        obtain ⟨A_pu, c_pu, rfl⟩ := ri_slice hu_p
        clear hA hcc q2
        obtain ⟨A_x, c_x, b_x, o_x, hve, hA, hc⟩ := RI.cells hu_q
        obtain ⟨rfl, hb_x⟩ := hA (by omega)
        injection hve with q1 q2 q3
        first | (subst q1; subst q3) | (injection q1 with q1; injection q1 with q4 q5; subst q4; subst q5; subst q3)
        have d_x := hc j hlj
        clear hA hc q2
        obtain ⟨x, hx⟩ : ∃ x, nthI (nthLi LQ i) j = x := ⟨_, rfl⟩
        rw [hx] at d_x hmc
        have HMC := Lib.hid (decide_eq_true hmc)
        clear hmem hmc hx
        go_upto_region 42 with fail
        refine wp_region_noPanic (plain_any [0, 1, 2, 3, 4, 5, 6, 7, 8, 9, 10, 12] (Below wk.heap.size wk) mixed ?_)
        refine any_tk 0 ?_
        have d0z : Below wk.heap.size wk wk.drew := by exact bel_of
        refine any_tk 1 ?_
        refine any_tk 2 ?_
        refine any_tk 3 ?_
        refine any_tk 4 ?_
        refine any_tk 5 ?_
        refine any_tk 6 ?_
        refine any_tk 7 ?_
        refine any_tk 8 ?_
        refine any_tk 9 ?_
        refine any_tk 10 ?_
        have qz1 := d0z.size
        refine any_run1 (i := 11) (by kernel_rfl) (by rfl) (by kernel_rfl) ?_
        intro K hK
        go_wp2_with fail
        refine (mem_any (nthLi LP i) x _ _ HLPI.out ((RS.below hu_p d0z).more d0z.size)).mono ?_
        rintro e vz1 ⟨rfl, hb⟩
        rw [HMC.out]
        have ez1 : Below wk.heap.size wk vz1 := d0z.trans (hb.mono d0z.size)
        clear hb
        refine hK _ _ (fun _ => ez1) ?_
        clear hK K
        refine any_tk 12 ?_
        refine any_done (by kernel_rfl) (NoPanic.normal ?_)
        have hb := ez1
        replace hC : Below n0 w vz1 := hC.trans (hb.mono (by have := hC.size; omega))
        replace hp := RLi.next hp hb
        replace hq := RLi.next hq hb
        replace hbi := hbi.trans (hb.mono hbi.size)
        replace hbj := hbj.trans (hb.mono hbj.size)
        clear hb
        clear d_x d_p d_q hu_p hb_x hb_p hb_q
        go_wp2_with fail
        go_roundw
        case rel => exact ⟨j + 1, by omega, by go_num, hbj⟩
        case measure => simp [intOf]; omega
end Go.Proofs.Ytkibdciomheekaa

namespace Go.Proofs.Ytkibdciomheekaa.heatNarrower
open Go.ChangeShapes Go.WideShapes Go.ChangeAt Go.RowKit Go.Deep

set_option maxRecDepth 100000 in
theorem lifted (os : Os) (started : os.Started) (H : Type) (enc : TypeId × Value → H) :
    ReturnsInHanded {} Try.checked os 10 .any (Rows.heatNarrowerSpec.pre6 enc Try.prog Try.f10 Rows.heatNarrowerRow.domain false) (Rows.heatNarrowerSpec.post enc Try.prog Try.f10 false true false false) := by
  refine returnsInHanded_of_change (C := Try.checked) own started (by kernel_rfl) Try.func10
    (ChangeSpec.witness6 (enc := enc) (C := Try.checked) false ⟨#[], #[.agg #[.slice none 0 0, .slice none 0 0], .slice none 0 0, .agg #[.int .i64 0, .int .i64 0], .agg #[.int .u16 0, .int .u16 0]], []⟩ 8 (by kernel_rfl) (by kernel_rfl) (by kernel_rfl) (by kernel_rfl)) ?_
  intro W base args ds gs before hval0 hW hcnd _
  have hval : ∀ (j : Nat) t v, Try.f10.params[j]? = some t → args[j]? = some v → Value.okWide Try.prog W .any base t v := hval0
  have hW2 : DataW.Whole enc Try.prog Try.f10.params.toList Rows.heatNarrowerSpec.vars false W args.toList ds gs before := hW
  obtain ⟨p, q, hA0, hV, rfl, hfz, hnd⟩ := hW
  have hA : DataW.TrodAll enc Try.prog W 0 (fun _ => true) true Try.f10.params.toList args.toList ds p := hA0
  rw [Try.params10] at hA hval
  obtain ⟨v0, vs0, d0, ds0, p0, q0, hargs, rfl, rfl, h0, r0⟩ := trodAll_cons hA
  obtain ⟨v1, vs1, d1, ds1, p1, q1, rfl, rfl, rfl, h1, r1⟩ := trodAll_cons r0
  obtain ⟨v2, vs2, d2, ds2, p2, q2, rfl, rfl, rfl, h2, r2⟩ := trodAll_cons r1
  obtain ⟨v3, vs3, d3, ds3, p3, q3, rfl, rfl, rfl, h3, r3⟩ := trodAll_cons r2
  obtain ⟨rfl, rfl, rfl⟩ := trodAll_nil r3
  obtain rfl : args = #[v0, v1, v2, v3] := by cases args; simp_all
  obtain ⟨rfl, rfl⟩ := trodVars_none hV
  obtain ⟨vb0, vs0_, bars0, ss0, rfl, hB0, hS0⟩ := open_works (hval 0 25 v0 rfl rfl) h0
  obtain ⟨l1, g1, k1⟩ := open_u8s (hval 1 66 v1 rfl rfl) h1
  obtain ⟨lo2, hi2, rfl⟩ := open_rg (hval 2 33 v2 rfl rfl) h2
  obtain ⟨x3, y3, rfl, g3⟩ := open_a16 (hval 3 80 v3 rfl rfl) h3
  refine (heatNarrower_any (bars := bars0) (ss := ss0) (vb := vb0) (vs := vs0_) (hB := hB0) (hS := hS0) (us := l1) (vu := v1) (hU := g1) (hu := k1) (lo := lo2) (hi := hi2) (x2 := x3) (y2 := y3) (h2 := g3) (w := W)).mono fun e W' ⟨he, hg⟩ => ?_
  subst he
  exact ⟨_, rfl, law_done hW2 rfl rfl rfl (by rw [Try.params10]; decide +kernel) hg⟩

theorem over : Rows.heatNarrowerRow.holds Try.pinned (OpenSpec.ofChange Rows.heatNarrowerSpec) :=
  OpenClaim.holds_of_wide 10 Try.f10 rfl rfl rfl rfl rfl rfl rfl ⟨rfl, rfl, rfl, rfl, rfl⟩ rfl rfl rfl rfl rfl (by kernel_rfl) Try.func10 (by kernel_rfl)
    (of_decide_eq_true (by kernel_rfl)) (by unfold Func.isWrapper; first | (rw [if_pos (by decide +kernel)]; kernel_rfl) | (rw [if_neg (by decide +kernel)]; exact ⟨rfl, rfl⟩))
    (fun os started H enc _ => lifted os started H enc)

theorem proved : Rows.HeatNarrowerSaid :=
  over
end Go.Proofs.Ytkibdciomheekaa.heatNarrower
namespace Go.Proofs.Ytkibdciomheekaa
theorem heatNarrower_proved : Rows.HeatNarrowerSaid := heatNarrower.proved
#print axioms heatNarrower_proved
end Go.Proofs.Ytkibdciomheekaa
