/- HeatBlamed: the walk. The bar and the ways by which a blade was truly made are among those that can have made it, and each bar and each way that can have made it is in some recipe that can; for every valid works of at most 400 recipes, recipe, history and width by numbers. -/
import Derived.Test.YtkibdciomheekaaQ9a
import Derived.Test.YtkibdciomheekaaRows
import Derived.Test.YtkibdciomheekaaP29
set_option linter.all false
set_option linter.unnecessarySimpa false
set_option linter.unusedSimpArgs false
set_option linter.unusedVariables false
set_option linter.unusedSectionVars false

set_option linter.all false
namespace Go.Proofs.Ytkibdciomheekaa
open Go.RowKit Hp

set_option maxHeartbeats 8000000 in
set_option maxRecDepth 100000 in
theorem heatBlamed_any (bars : List Rg) (ss : List Stp) (vb vs : Value) (us : List Nat) (vu : Value) (ys : List Nat) (vy : Value) (x2 y2 : Nat) (w : World) (hB : RR w w.heap.size vb bars) (hS : RP w w.heap.size vs ss) (hU : RU .u8 w w.heap.size vu us) (hu : ∀ x ∈ us, x ≤ 255) (hY : RU .u32 w w.heap.size vy ys) (hy : ∀ x ∈ ys, x ≤ 4294967295) (h2 : x2 ≤ 255 ∧ y2 ≤ 255) :
    Calls Try.prog 9 #[.agg #[vb, vs], vu, vy, .agg #[.int .u8 x2, .int .u8 y2]] w fun x w' => x = .returned (.bool true) ∧ Below w.heap.size w w' := by
  obtain ⟨Ab, cb, rfl⟩ := hB.slice
  obtain ⟨As, cs, rfl⟩ := hS.slice
  obtain ⟨Au, cu, rfl⟩ := ru_slice hU
  obtain ⟨Ay, cy, rfl⟩ := ru_slice hY
  obtain ⟨n0, hn0⟩ : ∃ n, w.heap.size = n := ⟨_, rfl⟩
  have hC : Below n0 w w := Below.refl _ _
  have HUS := Lib.hid hu
  have HYS := Lib.hid hy
  clear hu hy
  obtain ⟨h2x, h2y⟩ := h2
  go_enter Try.func9, Try.ntmps9
  go_upto_region 1 with fail
  have hqbx : n0 ≤ n0 := by have := hC.size; omega
  have bx : BK (w.alloc (.cells #[.slice Ab bars.length cb, .slice As ss.length cs] 25)) (n0) #[.slice Ab bars.length cb, .slice As ss.length cs] 25 := BK.new' _ _ _ (n0) hn0
  have hsbx : (w.alloc (.cells #[.slice Ab bars.length cb, .slice As ss.length cs] 25)).heap.size = n0 + 1 := by simp [hn0]
  replace hC : Below n0 w (w.alloc (.cells #[.slice Ab bars.length cb, .slice As ss.length cs] 25)) := Below.alloc hC (by have := hC.size; omega) _
  replace hB := (RS.below hB (w' := (w.alloc (.cells #[.slice Ab bars.length cb, .slice As ss.length cs] 25))) (Below.alloc (Below.refl _ _) (Nat.le_refl _) _)).more (B' := (w.alloc (.cells #[.slice Ab bars.length cb, .slice As ss.length cs] 25)).heap.size) (by simp)
  replace hS := (RP.below hS (w' := (w.alloc (.cells #[.slice Ab bars.length cb, .slice As ss.length cs] 25))) (Below.alloc (Below.refl _ _) (Nat.le_refl _) _)).more (B' := (w.alloc (.cells #[.slice Ab bars.length cb, .slice As ss.length cs] 25)).heap.size) (by simp)
  replace hU := (RU.below hU (w' := (w.alloc (.cells #[.slice Ab bars.length cb, .slice As ss.length cs] 25))) (Below.alloc (Below.refl _ _) (Nat.le_refl _) _)).more (B' := (w.alloc (.cells #[.slice Ab bars.length cb, .slice As ss.length cs] 25)).heap.size) (by simp)
  replace hY := (RU.below hY (w' := (w.alloc (.cells #[.slice Ab bars.length cb, .slice As ss.length cs] 25))) (Below.alloc (Below.refl _ _) (Nat.le_refl _) _)).more (B' := (w.alloc (.cells #[.slice Ab bars.length cb, .slice As ss.length cs] 25)).heap.size) (by simp)
  generalize (w.alloc (.cells #[.slice Ab bars.length cb, .slice As ss.length cs] 25)) = Wbx at *
  have hqaz : n0 ≤ n0 + 1 := by have := hC.size; omega
  have az : BK (Wbx.alloc (.cells #[.int .u8 x2, .int .u8 y2] 75)) (n0 + 1) #[.int .u8 x2, .int .u8 y2] 75 := BK.new' _ _ _ (n0 + 1) hsbx
  have hsaz : (Wbx.alloc (.cells #[.int .u8 x2, .int .u8 y2] 75)).heap.size = n0 + 1 + 1 := by simp [hsbx]
  replace hC : Below n0 w (Wbx.alloc (.cells #[.int .u8 x2, .int .u8 y2] 75)) := Below.alloc hC (by have := hC.size; omega) _
  replace hB := (RS.below hB (w' := (Wbx.alloc (.cells #[.int .u8 x2, .int .u8 y2] 75))) (Below.alloc (Below.refl _ _) (Nat.le_refl _) _)).more (B' := (Wbx.alloc (.cells #[.int .u8 x2, .int .u8 y2] 75)).heap.size) (by simp)
  replace hS := (RP.below hS (w' := (Wbx.alloc (.cells #[.int .u8 x2, .int .u8 y2] 75))) (Below.alloc (Below.refl _ _) (Nat.le_refl _) _)).more (B' := (Wbx.alloc (.cells #[.int .u8 x2, .int .u8 y2] 75)).heap.size) (by simp)
  replace hU := (RU.below hU (w' := (Wbx.alloc (.cells #[.int .u8 x2, .int .u8 y2] 75))) (Below.alloc (Below.refl _ _) (Nat.le_refl _) _)).more (B' := (Wbx.alloc (.cells #[.int .u8 x2, .int .u8 y2] 75)).heap.size) (by simp)
  replace hY := (RU.below hY (w' := (Wbx.alloc (.cells #[.int .u8 x2, .int .u8 y2] 75))) (Below.alloc (Below.refl _ _) (Nat.le_refl _) _)).more (B' := (Wbx.alloc (.cells #[.int .u8 x2, .int .u8 y2] 75)).heap.size) (by simp)
  replace bx := bx.alloc (.cells #[.int .u8 x2, .int .u8 y2] 75)
  generalize (Wbx.alloc (.cells #[.int .u8 x2, .int .u8 y2] 75)) = Waz at *
  clear hsbx
  have lbx := bx.lt
  have bxc0 := bx.cell 0
  have bxc1 := bx.cell 1
  simp at bxc0 bxc1
  go_wp2_with fail
  clear lbx bxc0 bxc1
  clear hsaz
  refine (fine_any bars ss _ _ _ hB hS).mono ?_
  rintro e w1 ⟨q, rfl, hq, hb⟩
  replace hC : Below n0 w w1 := hC.trans (hb.mono (by have := hC.size; omega))
  replace hB := (RS.below hB hb).more hb.size
  replace hS := (RP.below hS hb).more hb.size
  replace hU := (RU.below hU hb).more hb.size
  replace hY := (RU.below hY hb).more hb.size
  replace bx := bx.below hb bx.lt
  replace az := az.below hb az.lt
  clear hb
  cases q
  case false =>
    clear hq
    go_wp2_with fail
    refine (works_any _).mono ?_
    rintro e w2 ⟨rfl, hb⟩
    replace hC : Below n0 w w2 := hC.trans (hb.mono (by have := hC.size; omega))
    replace hB := (RS.below hB hb).more hb.size
    replace hS := (RP.below hS hb).more hb.size
    replace hU := (RU.below hU hb).more hb.size
    replace hY := (RU.below hY hb).more hb.size
    replace bx := bx.below hb bx.lt
    replace az := az.below hb az.lt
    clear hb
    go_wp2_with fail
    exact bodyPost_ret (v := .bool true) (by simp [results, Try.results9, go_sem]) rfl ⟨rfl, by first | exact hC | (rw [hn0]; exact hC) | (with_reducible rw [hn0]; exact bel_of) | exact bel_of⟩
  have hfp := hq.1 rfl
  have HF := Lib.hid (great_fit hfp.1)
  have HV := Lib.hid (okV_of hfp.2)
  clear hq hfp
  simp only [Bool.not_true]
  have lbx := bx.lt
  have bxc0 := bx.cell 0
  have bxc1 := bx.cell 1
  simp at bxc0 bxc1
  go_wp2_with fail
  clear lbx bxc0 bxc1
  refine (full_any bars ss _ _ _ HF.out hB hS).mono ?_
  rintro e w2 ⟨q, rfl, hq, hb⟩
  replace hC : Below n0 w w2 := hC.trans (hb.mono (by have := hC.size; omega))
  replace hB := (RS.below hB hb).more hb.size
  replace hS := (RP.below hS hb).more hb.size
  replace hU := (RU.below hU hb).more hb.size
  replace hY := (RU.below hY hb).more hb.size
  replace bx := bx.below hb bx.lt
  replace az := az.below hb az.lt
  clear hb
  cases q
  case true =>
    clear hq
    go_wp2_with fail
    refine (works_any _).mono ?_
    rintro e w3 ⟨rfl, hb⟩
    replace hC : Below n0 w w3 := hC.trans (hb.mono (by have := hC.size; omega))
    replace hB := (RS.below hB hb).more hb.size
    replace hS := (RP.below hS hb).more hb.size
    replace hU := (RU.below hU hb).more hb.size
    replace hY := (RU.below hY hb).more hb.size
    replace bx := bx.below hb bx.lt
    replace az := az.below hb az.lt
    clear hb
    go_wp2_with fail
    exact bodyPost_ret (v := .bool true) (by simp [results, Try.results9, go_sem]) rfl ⟨rfl, by first | exact hC | (rw [hn0]; exact hC) | (with_reducible rw [hn0]; exact bel_of) | exact bel_of⟩
  have HNF := Lib.hid (show ¬ fullP bars ss from fun h => Bool.noConfusion (hq.2 h))
  clear hq
  by_cases zhul : 20 < us.length
  case pos =>
    have zz : ((us.length : Nat) : Int) > 20 := by omega
    clear zhul
    have lbx := bx.lt
    have bxc0 := bx.cell 0
    have bxc1 := bx.cell 1
    simp at bxc0 bxc1
    go_wp2_with fail
    clear lbx bxc0 bxc1
    refine (works_any _).mono ?_
    rintro e w3 ⟨rfl, hb⟩
    replace hC : Below n0 w w3 := hC.trans (hb.mono (by have := hC.size; omega))
    replace hB := (RS.below hB hb).more hb.size
    replace hS := (RP.below hS hb).more hb.size
    replace hU := (RU.below hU hb).more hb.size
    replace hY := (RU.below hY hb).more hb.size
    replace bx := bx.below hb bx.lt
    replace az := az.below hb az.lt
    clear hb
    go_wp2_with fail
    exact bodyPost_ret (v := .bool true) (by simp [results, Try.results9, go_sem]) rfl ⟨rfl, by first | exact hC | (rw [hn0]; exact hC) | (with_reducible rw [hn0]; exact bel_of) | exact bel_of⟩
  have hul : us.length ≤ 20 := by omega
  have zzhul : ¬ ((us.length : Nat) : Int) > 20 := by omega
  clear zhul
  by_cases zhyl : 20 < ys.length
  case pos =>
    have zz : ((ys.length : Nat) : Int) > 20 := by omega
    clear zhyl
    have lbx := bx.lt
    have bxc0 := bx.cell 0
    have bxc1 := bx.cell 1
    simp at bxc0 bxc1
    go_wp2_with fail
    clear lbx bxc0 bxc1
    refine (works_any _).mono ?_
    rintro e w3 ⟨rfl, hb⟩
    replace hC : Below n0 w w3 := hC.trans (hb.mono (by have := hC.size; omega))
    replace hB := (RS.below hB hb).more hb.size
    replace hS := (RP.below hS hb).more hb.size
    replace hU := (RU.below hU hb).more hb.size
    replace hY := (RU.below hY hb).more hb.size
    replace bx := bx.below hb bx.lt
    replace az := az.below hb az.lt
    clear hb
    go_wp2_with fail
    exact bodyPost_ret (v := .bool true) (by simp [results, Try.results9, go_sem]) rfl ⟨rfl, by first | exact hC | (rw [hn0]; exact hC) | (with_reducible rw [hn0]; exact bel_of) | exact bel_of⟩
  have hyl : ys.length ≤ 20 := by omega
  have zzhyl : ¬ ((ys.length : Nat) : Int) > 20 := by omega
  clear zhyl
  have lbx := bx.lt
  have bxc0 := bx.cell 0
  have bxc1 := bx.cell 1
  simp at bxc0 bxc1
  go_wp2_with fail
  clear lbx bxc0 bxc1
  refine (one_any bars ss us _ _ _ _ HV.out HUS.out (by omega) hB hS hU).mono ?_
  rintro e w3 ⟨vk, rfl, hR, hb⟩
  replace hC : Below n0 w w3 := hC.trans (hb.mono (by have := hC.size; omega))
  replace hB := (RS.below hB hb).more hb.size
  replace hS := (RP.below hS hb).more hb.size
  replace hU := (RU.below hU hb).more hb.size
  replace hY := (RU.below hY hb).more hb.size
  replace bx := bx.below hb bx.lt
  replace az := az.below hb az.lt
  clear hb
  have hor := one_rec HV.out us
  obtain ⟨ks, hks⟩ : ∃ l, oneW ss us ss.length = l := ⟨_, rfl⟩
  obtain ⟨b, hbb⟩ : ∃ b : Int, ((oneB bars us : Nat) : Int) = b := ⟨_, rfl⟩
  rw [hks] at hR hor
  rw [hbb] at hor ⊢
  have HOR := Lib.hid hor
  have hs6 := hor.works.sfew
  have hkl := (recE_lens (recE_of hor)).1
  have HKS := Lib.hid hkl
  have HKL2 := Lib.hid (show ks.length ≤ 1000 by omega)
  obtain ⟨Ar, cr, rfl⟩ := ri_slice hR
  clear hks hbb hor hkl
  go_upto_region 4 with fail
  obtain ⟨m1, hm1⟩ : ∃ n, w3.heap.size = n := ⟨_, rfl⟩
  try rw [hm1]
  have hqwx : n0 ≤ m1 := by have := hC.size; omega
  have wx : BK (w3.alloc (.cells #[.int .i64 b, .slice Ar ks.length cr] 42)) (m1) #[.int .i64 b, .slice Ar ks.length cr] 42 := BK.new' _ _ _ (m1) hm1
  have hswx : (w3.alloc (.cells #[.int .i64 b, .slice Ar ks.length cr] 42)).heap.size = m1 + 1 := by simp [hm1]
  replace hC : Below n0 w (w3.alloc (.cells #[.int .i64 b, .slice Ar ks.length cr] 42)) := Below.alloc hC (by have := hC.size; omega) _
  replace hB := (RS.below hB (w' := (w3.alloc (.cells #[.int .i64 b, .slice Ar ks.length cr] 42))) (Below.alloc (Below.refl _ _) (Nat.le_refl _) _)).more (B' := (w3.alloc (.cells #[.int .i64 b, .slice Ar ks.length cr] 42)).heap.size) (by simp)
  replace hS := (RP.below hS (w' := (w3.alloc (.cells #[.int .i64 b, .slice Ar ks.length cr] 42))) (Below.alloc (Below.refl _ _) (Nat.le_refl _) _)).more (B' := (w3.alloc (.cells #[.int .i64 b, .slice Ar ks.length cr] 42)).heap.size) (by simp)
  replace hU := (RU.below hU (w' := (w3.alloc (.cells #[.int .i64 b, .slice Ar ks.length cr] 42))) (Below.alloc (Below.refl _ _) (Nat.le_refl _) _)).more (B' := (w3.alloc (.cells #[.int .i64 b, .slice Ar ks.length cr] 42)).heap.size) (by simp)
  replace hY := (RU.below hY (w' := (w3.alloc (.cells #[.int .i64 b, .slice Ar ks.length cr] 42))) (Below.alloc (Below.refl _ _) (Nat.le_refl _) _)).more (B' := (w3.alloc (.cells #[.int .i64 b, .slice Ar ks.length cr] 42)).heap.size) (by simp)
  replace bx := bx.alloc (.cells #[.int .i64 b, .slice Ar ks.length cr] 42)
  replace az := az.alloc (.cells #[.int .i64 b, .slice Ar ks.length cr] 42)
  replace hR := (RS.below hR (w' := (w3.alloc (.cells #[.int .i64 b, .slice Ar ks.length cr] 42))) (Below.alloc (Below.refl _ _) (Nat.le_refl _) _)).more (B' := (w3.alloc (.cells #[.int .i64 b, .slice Ar ks.length cr] 42)).heap.size) (by simp)
  generalize (w3.alloc (.cells #[.int .i64 b, .slice Ar ks.length cr] 42)) = Wwx at *
  clear hm1
  clear hswx
  have lbx := bx.lt
  have bxc0 := bx.cell 0
  have bxc1 := bx.cell 1
  simp at bxc0 bxc1
  have lwx := wx.lt
  have wxc0 := wx.cell 0
  have wxc1 := wx.cell 1
  simp at wxc0 wxc1
  go_wp2_with fail
  clear lbx bxc0 bxc1
  clear lwx wxc0 wxc1
  refine (true_any bars ss b ks ys _ _ _ _ _ HF.out HOR.out HYS.out (by omega) hB hS hR hY).mono ?_
  rintro e w4 ⟨vh, rfl, hH, hb⟩
  replace hC : Below n0 w w4 := hC.trans (hb.mono (by have := hC.size; omega))
  replace hB := (RS.below hB hb).more hb.size
  replace hS := (RP.below hS hb).more hb.size
  replace hU := (RU.below hU hb).more hb.size
  replace hY := (RU.below hY hb).more hb.size
  replace bx := bx.below hb bx.lt
  replace az := az.below hb az.lt
  replace hR := (RS.below hR hb).more hb.size
  replace wx := wx.below hb wx.lt
  clear hb
  have hhe := truV_ok ys HOR.out
  have hhl := truV_len (bars := bars) (ss := ss) (b := b) (ks := ks) (ys := ys)
  obtain ⟨hs, hhs⟩ : ∃ l, truV bars ss b ks ys = l := ⟨_, rfl⟩
  rw [hhs] at hH hhe hhl
  have HHE := Lib.hid hhe
  have HHL := Lib.hid hhl
  have HHL2 := Lib.hid (show hs.length ≤ 1000 by omega)
  have HTV := Lib.hid hhs
  obtain ⟨Ah, ch, rfl⟩ := ri_slice hH
  clear hhs hhe hhl
  clear zzhul zzhyl hul hyl hU hY
  have hrl := rng_ok HOR.out (Nat.le_refl ss.length)
  have hin := hist_rng HHE.out (Nat.le_refl ss.length)
  obtain ⟨⟨ra, rb⟩, hr⟩ : ∃ r, nthB (rngL bars ss b ks) ss.length = r := ⟨_, rfl⟩
  rw [hr] at hrl hin
  obtain ⟨ho1, ho2, ho3⟩ := hrl
  have hin2 := inR_iff.1 hin
  dsimp only at ho1 ho2 ho3 hin2
  have hsh : ss.length < hs.length := by have := HHL.out; omega
  have hsh' : (ss.length : Int) < (hs.length : Int) := by omega
  have wl : IntKind.i64.wrap ((hs.length : Int) - 1) = (ss.length : Int) := by have := HHL.out; rw [IntKind.wrap_i64]; omega
  have wl2 : (hs.length : Int) - 1 = (ss.length : Int) := by have := HHL.out; omega
  obtain ⟨A_h, c_h, b_h, o_h, hve, hA, hc⟩ := RI.cells hH
  obtain ⟨rfl, hb_h⟩ := hA (by omega)
  injection hve with q1 q2 q3
  first | (subst q1; subst q3) | (injection q1 with q1; injection q1 with q4 q5; subst q4; subst q5; subst q3)
  have d_h := hc ss.length hsh
  clear hA hc q2
  obtain ⟨en, hen⟩ : ∃ x, nthI hs ss.length = x := ⟨_, rfl⟩
  rw [hen] at d_h hin2
  have HEN := Lib.hid hen
  obtain ⟨ml, hml⟩ : ∃ x, max (0 : Int) (en - (x2 : Int)) = x := ⟨_, rfl⟩
  obtain ⟨mh, hmh⟩ : ∃ x, min (1000 : Int) (en + (y2 : Int)) = x := ⟨_, rfl⟩
  have v1 : IntKind.i64.wrap (x2 : Int) = (x2 : Int) := by rw [IntKind.wrap_i64]; omega
  have v6 : IntKind.i64.wrap (y2 : Int) = (y2 : Int) := by rw [IntKind.wrap_i64]; omega
  have v2 : IntKind.i64.wrap (en - (x2 : Int)) = en - (x2 : Int) := by rw [IntKind.wrap_i64]; omega
  have v3 : IntKind.i64.wrap (en + (y2 : Int)) = en + (y2 : Int) := by rw [IntKind.wrap_i64]; omega
  have v4 : (if 0 < en - (x2 : Int) then en - (x2 : Int) else 0) = ml := by rw [← hml]; split <;> omega
  have v7 : (if (x2 : Int) < en then en - (x2 : Int) else 0) = ml := by rw [← hml]; split <;> omega
  have v5 : (if en + (y2 : Int) < 1000 then en + (y2 : Int) else 1000) = mh := by rw [← hmh]; split <;> omega
  have HM : Hid (OkR ⟨ml, mh⟩) := Lib.hid ⟨by show ml ≤ mh; omega, by show 0 ≤ ml; omega, by show mh ≤ 1000; omega⟩
  have HIM : Hid (inR (nthI hs ss.length) ⟨ml, mh⟩ = true) := Lib.hid (inR_iff.2 (by rw [hen]; dsimp only; omega))
  have HHD := Lib.hid (true_had HOR.out HHE.out HM.out HIM.out)
  clear hr hin hen hml hmh ho1 ho2 ho3 hin2
  have laz := az.lt
  have azc0 := az.cell 0
  have azc1 := az.cell 1
  simp at azc0 azc1
  go_wp2_with fail
  clear laz azc0 azc1
  clear v1 v2 v3 v4 v5 v6 v7 wl wl2 d_h hb_h hsh hsh' az
  refine (rg_any ml mh _).mono ?_
  rintro e w5 ⟨rfl, hb⟩
  replace hC : Below n0 w w5 := hC.trans (hb.mono (by have := hC.size; omega))
  replace hB := (RS.below hB hb).more hb.size
  replace hS := (RP.below hS hb).more hb.size
  replace bx := bx.below hb bx.lt
  replace hR := (RS.below hR hb).more hb.size
  replace wx := wx.below hb wx.lt
  replace hH := (RS.below hH hb).more hb.size
  clear hb
  go_upto_region 7 with fail
  obtain ⟨m2, hm2⟩ : ∃ n, w5.heap.size = n := ⟨_, rfl⟩
  try rw [hm2]
  have hqmx : n0 ≤ m2 := by have := hC.size; omega
  have mx : BK (w5.alloc (.cells #[.int .i64 ml, .int .i64 mh] 33)) (m2) #[.int .i64 ml, .int .i64 mh] 33 := BK.new' _ _ _ (m2) hm2
  have hsmx : (w5.alloc (.cells #[.int .i64 ml, .int .i64 mh] 33)).heap.size = m2 + 1 := by simp [hm2]
  replace hC : Below n0 w (w5.alloc (.cells #[.int .i64 ml, .int .i64 mh] 33)) := Below.alloc hC (by have := hC.size; omega) _
  replace hB := (RS.below hB (w' := (w5.alloc (.cells #[.int .i64 ml, .int .i64 mh] 33))) (Below.alloc (Below.refl _ _) (Nat.le_refl _) _)).more (B' := (w5.alloc (.cells #[.int .i64 ml, .int .i64 mh] 33)).heap.size) (by simp)
  replace hS := (RP.below hS (w' := (w5.alloc (.cells #[.int .i64 ml, .int .i64 mh] 33))) (Below.alloc (Below.refl _ _) (Nat.le_refl _) _)).more (B' := (w5.alloc (.cells #[.int .i64 ml, .int .i64 mh] 33)).heap.size) (by simp)
  replace bx := bx.alloc (.cells #[.int .i64 ml, .int .i64 mh] 33)
  replace hR := (RS.below hR (w' := (w5.alloc (.cells #[.int .i64 ml, .int .i64 mh] 33))) (Below.alloc (Below.refl _ _) (Nat.le_refl _) _)).more (B' := (w5.alloc (.cells #[.int .i64 ml, .int .i64 mh] 33)).heap.size) (by simp)
  replace wx := wx.alloc (.cells #[.int .i64 ml, .int .i64 mh] 33)
  replace hH := (RS.below hH (w' := (w5.alloc (.cells #[.int .i64 ml, .int .i64 mh] 33))) (Below.alloc (Below.refl _ _) (Nat.le_refl _) _)).more (B' := (w5.alloc (.cells #[.int .i64 ml, .int .i64 mh] 33)).heap.size) (by simp)
  generalize (w5.alloc (.cells #[.int .i64 ml, .int .i64 mh] 33)) = Wmx at *
  clear hm2
  clear hsmx
  have lbx := bx.lt
  have bxc0 := bx.cell 0
  have bxc1 := bx.cell 1
  simp at bxc0 bxc1
  have lmx := mx.lt
  have mxc0 := mx.cell 0
  have mxc1 := mx.cell 1
  simp at mxc0 mxc1
  go_wp2_with fail
  clear lbx bxc0 bxc1
  clear lmx mxc0 mxc1
  refine (barsF_any bars ss ⟨ml, mh⟩ _ _ _ HF.out hB hS).mono ?_
  rintro e w6 ⟨vc, rfl, hc, hb⟩
  replace hC : Below n0 w w6 := hC.trans (hb.mono (by have := hC.size; omega))
  replace hB := (RS.below hB hb).more hb.size
  replace hS := (RP.below hS hb).more hb.size
  replace bx := bx.below hb bx.lt
  replace hR := (RS.below hR hb).more hb.size
  replace wx := wx.below hb wx.lt
  replace hH := (RS.below hH hb).more hb.size
  replace mx := mx.below hb mx.lt
  clear hb
  have hbe := true_bars HOR.out HHD.out
  rw [if_pos hbe] at hc
  rw [hbe]
  have HBE := Lib.hid hbe
  have hll := someV_few HV.out HM.out
  obtain ⟨Ac, cc, rfl⟩ := ri_slice hc
  obtain ⟨LC, hl⟩ : ∃ l, someV bars ⟨ml, mh⟩ ss (-1) = l := ⟨_, rfl⟩
  rw [hl] at hc hll
  rw [hl]
  have HLC := Lib.hid hl
  have HLC7 := Lib.hid hll
  clear hl hll hbe
  have lbx := bx.lt
  have bxc0 := bx.cell 0
  have bxc1 := bx.cell 1
  simp at bxc0 bxc1
  have lmx := mx.lt
  have mxc0 := mx.cell 0
  have mxc1 := mx.cell 1
  simp at mxc0 mxc1
  go_wp2_with fail
  clear lbx bxc0 bxc1
  clear lmx mxc0 mxc1
  refine (waysF_any bars ss ⟨ml, mh⟩ _ _ _ HF.out hB hS).mono ?_
  rintro e w7 ⟨vp, rfl, hp, hb⟩
  replace hC : Below n0 w w7 := hC.trans (hb.mono (by have := hC.size; omega))
  replace hB := (RS.below hB hb).more hb.size
  replace hS := (RP.below hS hb).more hb.size
  replace bx := bx.below hb bx.lt
  replace hR := (RS.below hR hb).more hb.size
  replace wx := wx.below hb wx.lt
  replace hH := (RS.below hH hb).more hb.size
  replace mx := mx.below hb mx.lt
  replace hc := (RS.below hc hb).more hb.size
  clear hb
  rw [if_pos HBE.out] at hp
  rw [HBE.out]
  have hlf := wysL_few (m := ⟨ml, mh⟩) HV.out
  have hll := wysL_len bars ⟨ml, mh⟩ ss ss.length
  obtain ⟨Ap, cp, rfl⟩ := hp.slice
  obtain ⟨LP, hl⟩ : ∃ l, wysL bars ⟨ml, mh⟩ ss ss.length = l := ⟨_, rfl⟩
  rw [hl] at hp hll hlf
  rw [hl]
  have HLP := Lib.hid hl
  have HLPL := Lib.hid hll
  have HLPf := Lib.hid hlf
  clear hl hll hlf
  have lbx := bx.lt
  have bxc0 := bx.cell 0
  have bxc1 := bx.cell 1
  simp at bxc0 bxc1
  have lmx := mx.lt
  have mxc0 := mx.cell 0
  have mxc1 := mx.cell 1
  simp at mxc0 mxc1
  go_wp2_with fail
  clear lbx bxc0 bxc1
  clear lmx mxc0 mxc1
  refine (countF_any bars ss ⟨ml, mh⟩ _ _ _ HF.out hB hS cnt_few).mono ?_
  rintro e w8 ⟨rfl, hb⟩
  replace hC : Below n0 w w8 := hC.trans (hb.mono (by have := hC.size; omega))
  replace hB := (RS.below hB hb).more hb.size
  replace hS := (RP.below hS hb).more hb.size
  replace bx := bx.below hb bx.lt
  replace hR := (RS.below hR hb).more hb.size
  replace wx := wx.below hb wx.lt
  replace hH := (RS.below hH hb).more hb.size
  replace mx := mx.below hb mx.lt
  replace hc := (RS.below hc hb).more hb.size
  replace hp := RLi.next hp hb
  clear hb
  rw [if_pos (meas_ok HV.out HM.out), meas_ok HV.out HM.out]
  have hcp := true_pos HOR.out HHD.out
  obtain ⟨cn, hcn⟩ : ∃ n : Int, ((mkL bars ⟨ml, mh⟩ ss).length : Int) = n := ⟨_, rfl⟩
  rw [hcn] at hcp
  rw [hcn]
  have HCN := Lib.hid hcn
  clear hcn
  have lbx := bx.lt
  have bxc0 := bx.cell 0
  have bxc1 := bx.cell 1
  simp at bxc0 bxc1
  have lmx := mx.lt
  have mxc0 := mx.cell 0
  have mxc1 := mx.cell 1
  simp at mxc0 mxc1
  have lwx := wx.lt
  have wxc0 := wx.cell 0
  have wxc1 := wx.cell 1
  simp at wxc0 wxc1
  go_wp2_with fail
  clear lbx bxc0 bxc1
  clear lmx mxc0 mxc1
  clear lwx wxc0 wxc1
  refine (hadX_any bars ss b ks ⟨ml, mh⟩ _ _ _ _ HF.out HKL2.out hB hS hR).mono ?_
  rintro e w9 ⟨vd, rfl, hd, hb⟩
  replace hC : Below n0 w w9 := hC.trans (hb.mono (by have := hC.size; omega))
  replace hB := (RS.below hB hb).more hb.size
  replace hS := (RP.below hS hb).more hb.size
  replace bx := bx.below hb bx.lt
  replace hR := (RS.below hR hb).more hb.size
  replace wx := wx.below hb wx.lt
  replace hH := (RS.below hH hb).more hb.size
  replace mx := mx.below hb mx.lt
  replace hc := (RS.below hc hb).more hb.size
  replace hp := RLi.next hp hb
  clear hb
  rw [HHD.out]
  have hdl := hadV_len' HHD.out
  have hdi := fun i hi => hist_hadV (i := i) HHD.out HHE.out HIM.out hi
  obtain ⟨Ad, cd, rfl⟩ := rr_slice hd
  obtain ⟨D, hl⟩ : ∃ l, hadV bars ss b ks ⟨ml, mh⟩ = l := ⟨_, rfl⟩
  rw [hl] at hd hdl hdi
  rw [hl]
  have HDL := Lib.hid hdl
  have HDI := Lib.hid hdi
  clear hl hdl hdi
  have n1 : decide (cn < 1) = false := decide_eq_false (by omega)
  have n2 : (((LP.length : Nat) : Int) != ((ss.length : Nat) : Int)) = false := by rw [HLPL.out]; simp
  have n3 : (((D.length : Nat) : Int) != ((hs.length : Nat) : Int)) = false := by rw [HDL.out, HHL.out]; simp
  have HBC : Hid (decide (b ∈ LC) = true) := Lib.hid (decide_eq_true (by rw [← HLC.out]; exact rec_bars HV.out HM.out (true_mk HOR.out HHD.out)))
  have HWC : Hid (∀ i, i < ss.length → nthI ks i ∈ nthLi LP i) := Lib.hid (fun i hi => by rw [← HLP.out]; exact rec_ways HV.out HM.out (true_mk HOR.out HHD.out) hi)
  have lbx := bx.lt
  have bxc0 := bx.cell 0
  have bxc1 := bx.cell 1
  simp at bxc0 bxc1
  have lwx := wx.lt
  have wxc0 := wx.cell 0
  have wxc1 := wx.cell 1
  simp at wxc0 wxc1
  go_wp2_with fail
  clear lbx bxc0 bxc1
  clear lwx wxc0 wxc1
  clear n1 n2 n3 hcp
  refine (mem_any LC b _ _ HLC7.out hc).mono ?_
  rintro e w10 ⟨rfl, hb⟩
  replace hC : Below n0 w w10 := hC.trans (hb.mono (by have := hC.size; omega))
  replace hB := (RS.below hB hb).more hb.size
  replace hS := (RP.below hS hb).more hb.size
  replace bx := bx.below hb bx.lt
  replace hR := (RS.below hR hb).more hb.size
  replace wx := wx.below hb wx.lt
  replace hH := (RS.below hH hb).more hb.size
  replace mx := mx.below hb mx.lt
  replace hc := (RS.below hc hb).more hb.size
  replace hp := RLi.next hp hb
  replace hd := (RS.below hd hb).more hb.size
  clear hb
  rw [HBC.out]
  go_wp2_with fail
  go_loopw [21] (fun z wr => ∃ k : Nat, k ≤ hs.length ∧ z = .int .i64 (k : Int) ∧ Below w10.heap.size w10 wr) (fun z _ => hs.length - (intOf z).toNat)
  case atStart => exact ⟨0, Nat.zero_le _, rfl, Below.refl _ _⟩
  case round =>
    rename World => wb
    obtain ⟨k, hkk, rfl, hb⟩ := hrel
    have hbk := hb
    replace hC : Below n0 w wb := hC.trans (hb.mono (by have := hC.size; omega))
    replace hB := (RS.below hB hb).more hb.size
    replace hS := (RP.below hS hb).more hb.size
    replace bx := bx.below hb bx.lt
    replace hR := (RS.below hR hb).more hb.size
    replace wx := wx.below hb wx.lt
    replace hH := (RS.below hH hb).more hb.size
    replace mx := mx.below hb mx.lt
    replace hc := (RS.below hc hb).more hb.size
    replace hp := RLi.next hp hb
    replace hd := (RS.below hd hb).more hb.size
    clear hb
    have hhl7 := HHL2.out
    by_cases hlt : k < hs.length
    case pos =>
      have hlt' : (k : Int) < (hs.length : Int) := by omega
      have hks : k ≤ ss.length := by have := HHL.out; omega
      have hkd : k < D.length := by have := HDL.out; omega
      have hkd' : (k : Int) < (D.length : Int) := by omega
      have hin := HDI.out k hks
      obtain ⟨A_h, c_h, b_h, o_h, hve, hA, hc⟩ := RI.cells hH
      obtain ⟨rfl, hb_h⟩ := hA (by omega)
      injection hve with q1 q2 q3
      first | (subst q1; subst q3) | (injection q1 with q1; injection q1 with q4 q5; subst q4; subst q5; subst q3)
      have d_h := hc k hlt
      clear hA hc q2
      obtain ⟨A_l, c_l, b_l, o_l, hve, hA, hc⟩ := RR.cells hd
      obtain ⟨rfl, hb_l⟩ := hA (by omega)
      injection hve with q1 q2 q3
      first | (subst q1; subst q3) | (injection q1 with q1; injection q1 with q4 q5; subst q4; subst q5; subst q3)
      obtain ⟨d_l0, d_l1⟩ := hc k hkd
      clear hA hc q2
      obtain ⟨x, hx⟩ : ∃ x, nthI hs k = x := ⟨_, rfl⟩
      obtain ⟨⟨dl, dh⟩, hr⟩ : ∃ r, nthB D k = r := ⟨_, rfl⟩
      rw [hx] at hin d_h
      rw [hr] at hin d_l0 d_l1
      dsimp only at d_l0 d_l1
      have HIN := Lib.hid hin
      clear hin hx hr
      cases k
      case zero =>
        as_aux_lemma =>
          simp only [Nat.zero_mul, Nat.add_zero] at d_h d_l0 d_l1
          go_upto_region 16 with fail
          refine wp_region_noPanic (plain_any [0, 1, 2, 3, 4, 5, 6, 7, 9, 10, 11, 12, 13, 14, 15, 16, 17, 18, 19, 20, 21, 22, 23, 24, 26, 27, 28] (Below wb.heap.size wb) mixed ?_)
          (refine any_take 0 ?_ (by rfl) (by kernel_rfl) (fun _ _ _ _ _ hx => hx.elim) (.inl ⟨by rfl, ?_⟩) (by exact bel_of) ?_; rotate_left; (intro X hX; obtain ⟨r1, r2⟩ := Below.rules hX; clear hX; go_simp; rfl); simp only [List.getElem_toArray, List.getElem_cons_succ, List.getElem_cons_zero, Act.put, List.setIfInBounds_toArray, List.set_cons_succ, List.set_cons_zero])
          have d0z : Below wb.heap.size wb wb.drew := by exact bel_of
          (refine any_take 1 ?_ (by rfl) (by kernel_rfl) (fun _ _ _ _ _ hx => hx.elim) (.inl ⟨by rfl, ?_⟩) (by exact bel_of) ?_; rotate_left; (intro X hX; obtain ⟨r1, r2⟩ := Below.rules hX; clear hX; go_simp; rfl); simp only [List.getElem_toArray, List.getElem_cons_succ, List.getElem_cons_zero, Act.put, List.setIfInBounds_toArray, List.set_cons_succ, List.set_cons_zero])
          (refine any_take 2 ?_ (by rfl) (by kernel_rfl) (fun _ _ _ _ _ hx => hx.elim) (.inl ⟨by rfl, ?_⟩) (by exact bel_of) ?_; rotate_left; (intro X hX; obtain ⟨r1, r2⟩ := Below.rules hX; clear hX; go_simp; rfl); simp only [List.getElem_toArray, List.getElem_cons_succ, List.getElem_cons_zero, Act.put, List.setIfInBounds_toArray, List.set_cons_succ, List.set_cons_zero])
          (refine any_take 3 ?_ (by rfl) (by kernel_rfl) (fun _ _ _ _ _ hx => hx.elim) (.inl ⟨by rfl, ?_⟩) (by exact bel_of) ?_; rotate_left; (intro X hX; obtain ⟨r1, r2⟩ := Below.rules hX; clear hX; go_simp; rfl); simp only [List.getElem_toArray, List.getElem_cons_succ, List.getElem_cons_zero, Act.put, List.setIfInBounds_toArray, List.set_cons_succ, List.set_cons_zero])
          (refine any_take 4 ?_ (by rfl) (by kernel_rfl) (fun _ _ _ _ _ hx => hx.elim) (.inl ⟨by rfl, ?_⟩) (by exact bel_of) ?_; rotate_left; (intro X hX; obtain ⟨r1, r2⟩ := Below.rules hX; clear hX; go_simp; rfl); simp only [List.getElem_toArray, List.getElem_cons_succ, List.getElem_cons_zero, Act.put, List.setIfInBounds_toArray, List.set_cons_succ, List.set_cons_zero])
          (refine any_take 5 ?_ (by rfl) (by kernel_rfl) (fun _ _ _ _ _ hx => hx.elim) (.inl ⟨by rfl, ?_⟩) (by exact bel_of) ?_; rotate_left; (intro X hX; obtain ⟨r1, r2⟩ := Below.rules hX; clear hX; go_simp; rfl); simp only [List.getElem_toArray, List.getElem_cons_succ, List.getElem_cons_zero, Act.put, List.setIfInBounds_toArray, List.set_cons_succ, List.set_cons_zero])
          (refine any_take 6 ?_ (by rfl) (by kernel_rfl) (fun _ _ _ _ _ hx => hx.elim) (.inl ⟨by rfl, ?_⟩) (by exact bel_of) ?_; rotate_left; (intro X hX; obtain ⟨r1, r2⟩ := Below.rules hX; clear hX; go_simp; rfl); simp only [List.getElem_toArray, List.getElem_cons_succ, List.getElem_cons_zero, Act.put, List.setIfInBounds_toArray, List.set_cons_succ, List.set_cons_zero])
          (refine any_take 7 ?_ (by rfl) (by kernel_rfl) (fun _ _ _ _ _ hx => hx.elim) (.inl ⟨by rfl, ?_⟩) (by exact bel_of) ?_; rotate_left; (intro X hX; obtain ⟨r1, r2⟩ := Below.rules hX; clear hX; go_simp; rfl); simp only [List.getElem_toArray, List.getElem_cons_succ, List.getElem_cons_zero, Act.put, List.setIfInBounds_toArray, List.set_cons_succ, List.set_cons_zero])
          have qz1 := d0z.size
          refine any_run1 (i := 8) (by kernel_rfl) (by rfl) (by kernel_rfl) ?_
          intro K hK
          go_wp2_with fail
          refine (in_any x ⟨dl, dh⟩ _).mono ?_
          rintro e vz1 ⟨rfl, hb⟩
          rw [HIN.out]
          have ez1 : Below wb.heap.size wb vz1 := d0z.trans (hb.mono d0z.size)
          clear hb
          refine hK _ _ (fun _ => ez1) ?_
          clear hK K
          (refine any_take 9 ?_ (by rfl) (by kernel_rfl) (fun _ _ _ _ _ hx => hx.elim) (.inl ⟨by rfl, ?_⟩) (by exact bel_of) ?_; rotate_left; (intro X hX; obtain ⟨r1, r2⟩ := Below.rules hX; clear hX; go_simp; rfl); simp only [List.getElem_toArray, List.getElem_cons_succ, List.getElem_cons_zero, Act.put, List.setIfInBounds_toArray, List.set_cons_succ, List.set_cons_zero])
          (refine any_take 10 ?_ (by rfl) (by kernel_rfl) (fun _ _ _ _ _ hx => hx.elim) (.inl ⟨by rfl, ?_⟩) (by exact bel_of) ?_; rotate_left; (intro X hX; obtain ⟨r1, r2⟩ := Below.rules hX; clear hX; go_simp; rfl); simp only [List.getElem_toArray, List.getElem_cons_succ, List.getElem_cons_zero, Act.put, List.setIfInBounds_toArray, List.set_cons_succ, List.set_cons_zero])
          (refine any_take 11 ?_ (by rfl) (by kernel_rfl) (fun _ _ _ _ _ hx => hx.elim) (.inl ⟨by rfl, ?_⟩) (by exact bel_of) ?_; rotate_left; (intro X hX; obtain ⟨r1, r2⟩ := Below.rules hX; clear hX; go_simp; rfl); simp only [List.getElem_toArray, List.getElem_cons_succ, List.getElem_cons_zero, Act.put, List.setIfInBounds_toArray, List.set_cons_succ, List.set_cons_zero])
          (refine any_take 12 ?_ (by rfl) (by kernel_rfl) (fun _ _ _ _ _ hx => hx.elim) (.inl ⟨by rfl, ?_⟩) (by exact bel_of) ?_; rotate_left; (intro X hX; obtain ⟨r1, r2⟩ := Below.rules hX; clear hX; go_simp; rfl); simp only [List.getElem_toArray, List.getElem_cons_succ, List.getElem_cons_zero, Act.put, List.setIfInBounds_toArray, List.set_cons_succ, List.set_cons_zero])
          (refine any_take 13 ?_ (by rfl) (by kernel_rfl) (fun _ _ _ _ _ hx => hx.elim) (.inl ⟨by rfl, ?_⟩) (by exact bel_of) ?_; rotate_left; (intro X hX; obtain ⟨r1, r2⟩ := Below.rules hX; clear hX; go_simp; rfl); simp only [List.getElem_toArray, List.getElem_cons_succ, List.getElem_cons_zero, Act.put, List.setIfInBounds_toArray, List.set_cons_succ, List.set_cons_zero])
          (refine any_take 14 undef (by rfl) (by kernel_rfl) (fun _ _ _ _ _ hx => hx.elim) (.inr ⟨by rfl, by rfl⟩) (by exact bel_of) ?_; simp only [List.getElem_toArray, List.getElem_cons_succ, List.getElem_cons_zero, Act.put, List.setIfInBounds_toArray, List.set_cons_succ, List.set_cons_zero])
          (refine any_take 15 undef (by rfl) (by kernel_rfl) (fun _ _ _ _ _ hx => hx.elim) (.inr ⟨by rfl, by rfl⟩) (by exact bel_of) ?_; simp only [List.getElem_toArray, List.getElem_cons_succ, List.getElem_cons_zero, Act.put, List.setIfInBounds_toArray, List.set_cons_succ, List.set_cons_zero])
          (refine any_take 16 undef (by rfl) (by kernel_rfl) (fun _ _ _ _ _ hx => hx.elim) (.inr ⟨by rfl, by rfl⟩) (by exact bel_of) ?_; simp only [List.getElem_toArray, List.getElem_cons_succ, List.getElem_cons_zero, Act.put, List.setIfInBounds_toArray, List.set_cons_succ, List.set_cons_zero])
          (refine any_take 17 undef (by rfl) (by kernel_rfl) (fun _ _ _ _ _ hx => hx.elim) (.inr ⟨by rfl, by rfl⟩) (by exact bel_of) ?_; simp only [List.getElem_toArray, List.getElem_cons_succ, List.getElem_cons_zero, Act.put, List.setIfInBounds_toArray, List.set_cons_succ, List.set_cons_zero])
          (refine any_take 18 undef (by rfl) (by kernel_rfl) (fun _ _ _ _ _ hx => hx.elim) (.inr ⟨by rfl, by rfl⟩) (by exact bel_of) ?_; simp only [List.getElem_toArray, List.getElem_cons_succ, List.getElem_cons_zero, Act.put, List.setIfInBounds_toArray, List.set_cons_succ, List.set_cons_zero])
          (refine any_take 19 undef (by rfl) (by kernel_rfl) (fun _ _ _ _ _ hx => hx.elim) (.inr ⟨by rfl, by rfl⟩) (by exact bel_of) ?_; simp only [List.getElem_toArray, List.getElem_cons_succ, List.getElem_cons_zero, Act.put, List.setIfInBounds_toArray, List.set_cons_succ, List.set_cons_zero])
          (refine any_take 20 undef (by rfl) (by kernel_rfl) (fun _ _ _ _ _ hx => hx.elim) (.inr ⟨by rfl, by rfl⟩) (by exact bel_of) ?_; simp only [List.getElem_toArray, List.getElem_cons_succ, List.getElem_cons_zero, Act.put, List.setIfInBounds_toArray, List.set_cons_succ, List.set_cons_zero])
          (refine any_take 21 undef (by rfl) (by kernel_rfl) (fun _ _ _ _ _ hx => hx.elim) (.inr ⟨by rfl, by rfl⟩) (by exact bel_of) ?_; simp only [List.getElem_toArray, List.getElem_cons_succ, List.getElem_cons_zero, Act.put, List.setIfInBounds_toArray, List.set_cons_succ, List.set_cons_zero])
          (refine any_take 22 undef (by rfl) (by kernel_rfl) (fun _ _ _ _ _ hx => hx.elim) (.inr ⟨by rfl, by rfl⟩) (by exact bel_of) ?_; simp only [List.getElem_toArray, List.getElem_cons_succ, List.getElem_cons_zero, Act.put, List.setIfInBounds_toArray, List.set_cons_succ, List.set_cons_zero])
          (refine any_take 23 undef (by rfl) (by kernel_rfl) (fun _ _ _ _ _ hx => hx.elim) (.inr ⟨by rfl, by rfl⟩) (by exact bel_of) ?_; simp only [List.getElem_toArray, List.getElem_cons_succ, List.getElem_cons_zero, Act.put, List.setIfInBounds_toArray, List.set_cons_succ, List.set_cons_zero])
          (refine any_take 24 undef (by rfl) (by kernel_rfl) (fun _ _ _ _ _ hx => hx.elim) (.inr ⟨by rfl, by rfl⟩) (by exact bel_of) ?_; simp only [List.getElem_toArray, List.getElem_cons_succ, List.getElem_cons_zero, Act.put, List.setIfInBounds_toArray, List.set_cons_succ, List.set_cons_zero])
          (refine any_skip1 (i := 25) (by kernel_rfl) (by rfl) (by rfl) ez1 ?_; simp only [List.getElem_toArray, List.getElem_cons_succ, List.getElem_cons_zero, Act.put, List.setIfInBounds_toArray, List.set_cons_succ, List.set_cons_zero])
          (refine any_take 26 undef (by rfl) (by kernel_rfl) (fun _ _ _ _ _ hx => hx.elim) (.inr ⟨by rfl, by rfl⟩) (by exact bel_of) ?_; simp only [List.getElem_toArray, List.getElem_cons_succ, List.getElem_cons_zero, Act.put, List.setIfInBounds_toArray, List.set_cons_succ, List.set_cons_zero])
          (refine any_take 27 ?_ (by rfl) (by kernel_rfl) (fun _ _ _ _ _ hx => hx.elim) (.inl ⟨by rfl, ?_⟩) (by exact bel_of) ?_; rotate_left; (intro X hX; obtain ⟨r1, r2⟩ := Below.rules hX; clear hX; go_simp; rfl); simp only [List.getElem_toArray, List.getElem_cons_succ, List.getElem_cons_zero, Act.put, List.setIfInBounds_toArray, List.set_cons_succ, List.set_cons_zero])
          (refine any_take 28 ?_ (by rfl) (by kernel_rfl) (fun _ _ _ _ _ hx => hx.elim) (.inl ⟨by rfl, ?_⟩) (by exact bel_of) ?_; rotate_left; (intro X hX; obtain ⟨r1, r2⟩ := Below.rules hX; clear hX; go_simp; rfl); simp only [List.getElem_toArray, List.getElem_cons_succ, List.getElem_cons_zero, Act.put, List.setIfInBounds_toArray, List.set_cons_succ, List.set_cons_zero])
          refine any_done (by kernel_rfl) (NoPanic.normal ?_)
          have hb := ez1
          replace hC : Below n0 w vz1 := hC.trans (hb.mono (by have := hC.size; omega))
          replace hB := (RS.below hB hb).more hb.size
          replace hS := (RP.below hS hb).more hb.size
          replace bx := bx.below hb bx.lt
          replace hR := (RS.below hR hb).more hb.size
          replace wx := wx.below hb wx.lt
          replace hH := (RS.below hH hb).more hb.size
          replace mx := mx.below hb mx.lt
          replace hc := (RS.below hc hb).more hb.size
          replace hp := RLi.next hp hb
          replace hd := (RS.below hd hb).more hb.size
          replace hbk := hbk.trans (hb.mono hbk.size)
          clear hb
          clear d_h d_l0 d_l1 hb_h hb_l hkd hkd'
          go_wp2_with fail
          go_roundw
          case rel => exact ⟨0 + 1, by omega, by go_num, hbk⟩
          case measure => simp [intOf]; omega
      case succ i =>
        as_aux_lemma =>
          have his : i < ss.length := by omega
          have hiw : i < LP.length := by have := HLPL.out; omega
          have hiw' : (i : Int) < (LP.length : Int) := by omega
          have hik : i < ks.length := by have := HKS.out; omega
          have hik' : (i : Int) < (ks.length : Int) := by omega
          have d1 : 0 < i + 1 := Nat.succ_pos i
          have w1 : IntKind.i64.wrap (((i + 1 : Nat) : Int) - 1) = (i : Int) := by rw [IntKind.wrap_i64]; omega
          have w3 : IntKind.i64.wrap (i : Int) = (i : Int) := by rw [IntKind.wrap_i64]; omega
          have hmc := HWC.out i his
          have HLPI := Lib.hid (HLPf.out _ (mem_nthLi hiw))
          obtain ⟨A_y, c_y, b_y, o_y, hve, hA, hc⟩ := RI.cells hR
          obtain ⟨rfl, hb_y⟩ := hA (by omega)
          injection hve with q1 q2 q3
          first | (subst q1; subst q3) | (injection q1 with q1; injection q1 with q4 q5; subst q4; subst q5; subst q3)
          have d_y := hc i hik
          clear hA hc q2
          obtain ⟨A_p, c_p, b_p, o_p, hve, hA, hcc⟩ := RLi.cells hp
          obtain ⟨rfl, hb_p⟩ := hA (by omega)
          injection hve with q1 q2 q3
          first | (subst q1; subst q3) | (injection q1 with q1; injection q1 with q4 q5; subst q4; subst q5; subst q3)
          obtain ⟨u_p, d_p, hu_p⟩ := hcc i hiw
          obtain ⟨A_pu, c_pu, rfl⟩ := ri_slice hu_p
          clear hA hcc q2
          obtain ⟨y, hy⟩ : ∃ y, nthI ks i = y := ⟨_, rfl⟩
          rw [hy] at d_y hmc
          have HMC := Lib.hid (decide_eq_true hmc)
          clear hmc hy
          obtain ⟨k1, hk1⟩ : ∃ n, i + 1 = n := ⟨_, rfl⟩
          have hk0 : k1 = i + 1 := hk1.symm
          rw [hk1] at hlt hlt' hks hkd hkd' d_h d_l0 d_l1 d1 w1 hkk
          rw [hk1]
          have w2 : (k1 : Int) - 1 = (i : Int) := by omega
          clear hk1
          have lwx := wx.lt
          have wxc0 := wx.cell 0
          have wxc1 := wx.cell 1
          simp at wxc0 wxc1
          go_upto_region 16 with fail
          have HK0 := Lib.hid hk0
          clear hk0
          refine wp_region_noPanic (plain_any [0, 1, 2, 3, 4, 5, 6, 7, 9, 10, 11, 12, 13, 14, 15, 16, 17, 18, 19, 20, 21, 22, 23, 24, 26, 27, 28] (Below wb.heap.size wb) mixed ?_)
          (refine any_take 0 ?_ (by rfl) (by kernel_rfl) (fun _ _ _ _ _ hx => hx.elim) (.inl ⟨by rfl, ?_⟩) (by exact bel_of) ?_; rotate_left; (intro X hX; obtain ⟨r1, r2⟩ := Below.rules hX; clear hX; go_simp; rfl); simp only [List.getElem_toArray, List.getElem_cons_succ, List.getElem_cons_zero, Act.put, List.setIfInBounds_toArray, List.set_cons_succ, List.set_cons_zero])
          have d0z : Below wb.heap.size wb wb.drew := by exact bel_of
          (refine any_take 1 ?_ (by rfl) (by kernel_rfl) (fun _ _ _ _ _ hx => hx.elim) (.inl ⟨by rfl, ?_⟩) (by exact bel_of) ?_; rotate_left; (intro X hX; obtain ⟨r1, r2⟩ := Below.rules hX; clear hX; go_simp; rfl); simp only [List.getElem_toArray, List.getElem_cons_succ, List.getElem_cons_zero, Act.put, List.setIfInBounds_toArray, List.set_cons_succ, List.set_cons_zero])
          (refine any_take 2 ?_ (by rfl) (by kernel_rfl) (fun _ _ _ _ _ hx => hx.elim) (.inl ⟨by rfl, ?_⟩) (by exact bel_of) ?_; rotate_left; (intro X hX; obtain ⟨r1, r2⟩ := Below.rules hX; clear hX; go_simp; rfl); simp only [List.getElem_toArray, List.getElem_cons_succ, List.getElem_cons_zero, Act.put, List.setIfInBounds_toArray, List.set_cons_succ, List.set_cons_zero])
          (refine any_take 3 ?_ (by rfl) (by kernel_rfl) (fun _ _ _ _ _ hx => hx.elim) (.inl ⟨by rfl, ?_⟩) (by exact bel_of) ?_; rotate_left; (intro X hX; obtain ⟨r1, r2⟩ := Below.rules hX; clear hX; go_simp; rfl); simp only [List.getElem_toArray, List.getElem_cons_succ, List.getElem_cons_zero, Act.put, List.setIfInBounds_toArray, List.set_cons_succ, List.set_cons_zero])
          (refine any_take 4 ?_ (by rfl) (by kernel_rfl) (fun _ _ _ _ _ hx => hx.elim) (.inl ⟨by rfl, ?_⟩) (by exact bel_of) ?_; rotate_left; (intro X hX; obtain ⟨r1, r2⟩ := Below.rules hX; clear hX; go_simp; rfl); simp only [List.getElem_toArray, List.getElem_cons_succ, List.getElem_cons_zero, Act.put, List.setIfInBounds_toArray, List.set_cons_succ, List.set_cons_zero])
          (refine any_take 5 ?_ (by rfl) (by kernel_rfl) (fun _ _ _ _ _ hx => hx.elim) (.inl ⟨by rfl, ?_⟩) (by exact bel_of) ?_; rotate_left; (intro X hX; obtain ⟨r1, r2⟩ := Below.rules hX; clear hX; go_simp; rfl); simp only [List.getElem_toArray, List.getElem_cons_succ, List.getElem_cons_zero, Act.put, List.setIfInBounds_toArray, List.set_cons_succ, List.set_cons_zero])
          (refine any_take 6 ?_ (by rfl) (by kernel_rfl) (fun _ _ _ _ _ hx => hx.elim) (.inl ⟨by rfl, ?_⟩) (by exact bel_of) ?_; rotate_left; (intro X hX; obtain ⟨r1, r2⟩ := Below.rules hX; clear hX; go_simp; rfl); simp only [List.getElem_toArray, List.getElem_cons_succ, List.getElem_cons_zero, Act.put, List.setIfInBounds_toArray, List.set_cons_succ, List.set_cons_zero])
          (refine any_take 7 ?_ (by rfl) (by kernel_rfl) (fun _ _ _ _ _ hx => hx.elim) (.inl ⟨by rfl, ?_⟩) (by exact bel_of) ?_; rotate_left; (intro X hX; obtain ⟨r1, r2⟩ := Below.rules hX; clear hX; go_simp; rfl); simp only [List.getElem_toArray, List.getElem_cons_succ, List.getElem_cons_zero, Act.put, List.setIfInBounds_toArray, List.set_cons_succ, List.set_cons_zero])
          have qz1 := d0z.size
          refine any_run1 (i := 8) (by kernel_rfl) (by rfl) (by kernel_rfl) ?_
          intro K hK
          go_wp2_with fail
          refine (in_any x ⟨dl, dh⟩ _).mono ?_
          rintro e vz1 ⟨rfl, hb⟩
          rw [HIN.out]
          have ez1 : Below wb.heap.size wb vz1 := d0z.trans (hb.mono d0z.size)
          clear hb
          refine hK _ _ (fun _ => ez1) ?_
          clear hK K
          (refine any_take 9 ?_ (by rfl) (by kernel_rfl) (fun _ _ _ _ _ hx => hx.elim) (.inl ⟨by rfl, ?_⟩) (by exact bel_of) ?_; rotate_left; (intro X hX; obtain ⟨r1, r2⟩ := Below.rules hX; clear hX; go_simp; rfl); simp only [List.getElem_toArray, List.getElem_cons_succ, List.getElem_cons_zero, Act.put, List.setIfInBounds_toArray, List.set_cons_succ, List.set_cons_zero])
          (refine any_take 10 ?_ (by rfl) (by kernel_rfl) (fun _ _ _ _ _ hx => hx.elim) (.inl ⟨by rfl, ?_⟩) (by exact bel_of) ?_; rotate_left; (intro X hX; obtain ⟨r1, r2⟩ := Below.rules hX; clear hX; go_simp; rfl); simp only [List.getElem_toArray, List.getElem_cons_succ, List.getElem_cons_zero, Act.put, List.setIfInBounds_toArray, List.set_cons_succ, List.set_cons_zero])
          (refine any_take 11 ?_ (by rfl) (by kernel_rfl) (fun _ _ _ _ _ hx => hx.elim) (.inl ⟨by rfl, ?_⟩) (by exact bel_of) ?_; rotate_left; (intro X hX; obtain ⟨r1, r2⟩ := Below.rules hX; clear hX; go_simp; rfl); simp only [List.getElem_toArray, List.getElem_cons_succ, List.getElem_cons_zero, Act.put, List.setIfInBounds_toArray, List.set_cons_succ, List.set_cons_zero])
          (refine any_take 12 ?_ (by rfl) (by kernel_rfl) (fun _ _ _ _ _ hx => hx.elim) (.inl ⟨by rfl, ?_⟩) (by exact bel_of) ?_; rotate_left; (intro X hX; obtain ⟨r1, r2⟩ := Below.rules hX; clear hX; go_simp; rfl); simp only [List.getElem_toArray, List.getElem_cons_succ, List.getElem_cons_zero, Act.put, List.setIfInBounds_toArray, List.set_cons_succ, List.set_cons_zero])
          (refine any_take 13 ?_ (by rfl) (by kernel_rfl) (fun _ _ _ _ _ hx => hx.elim) (.inl ⟨by rfl, ?_⟩) (by exact bel_of) ?_; rotate_left; (intro X hX; obtain ⟨r1, r2⟩ := Below.rules hX; clear hX; go_simp; rfl); simp only [List.getElem_toArray, List.getElem_cons_succ, List.getElem_cons_zero, Act.put, List.setIfInBounds_toArray, List.set_cons_succ, List.set_cons_zero])
          (refine any_take 14 ?_ (by rfl) (by kernel_rfl) (fun _ _ _ _ _ hx => hx.elim) (.inl ⟨by rfl, ?_⟩) (by exact bel_of) ?_; rotate_left; (intro X hX; obtain ⟨r1, r2⟩ := Below.rules hX; clear hX; go_simp; rfl); simp only [List.getElem_toArray, List.getElem_cons_succ, List.getElem_cons_zero, Act.put, List.setIfInBounds_toArray, List.set_cons_succ, List.set_cons_zero])
          (refine any_take 15 ?_ (by rfl) (by kernel_rfl) (fun _ _ _ _ _ hx => hx.elim) (.inl ⟨by rfl, ?_⟩) (by exact bel_of) ?_; rotate_left; (intro X hX; obtain ⟨r1, r2⟩ := Below.rules hX; clear hX; go_simp; rfl); simp only [List.getElem_toArray, List.getElem_cons_succ, List.getElem_cons_zero, Act.put, List.setIfInBounds_toArray, List.set_cons_succ, List.set_cons_zero])
          (refine any_take 16 ?_ (by rfl) (by kernel_rfl) (fun _ _ _ _ _ hx => hx.elim) (.inl ⟨by rfl, ?_⟩) (by exact bel_of) ?_; rotate_left; (intro X hX; obtain ⟨r1, r2⟩ := Below.rules hX; clear hX; go_simp; rfl); simp only [List.getElem_toArray, List.getElem_cons_succ, List.getElem_cons_zero, Act.put, List.setIfInBounds_toArray, List.set_cons_succ, List.set_cons_zero])
          (refine any_take 17 ?_ (by rfl) (by kernel_rfl) (fun _ _ _ _ _ hx => hx.elim) (.inl ⟨by rfl, ?_⟩) (by exact bel_of) ?_; rotate_left; (intro X hX; obtain ⟨r1, r2⟩ := Below.rules hX; clear hX; go_simp; rfl); simp only [List.getElem_toArray, List.getElem_cons_succ, List.getElem_cons_zero, Act.put, List.setIfInBounds_toArray, List.set_cons_succ, List.set_cons_zero])
          (refine any_take 18 ?_ (by rfl) (by kernel_rfl) (fun _ _ _ _ _ hx => hx.elim) (.inl ⟨by rfl, ?_⟩) (by exact bel_of) ?_; rotate_left; (intro X hX; obtain ⟨r1, r2⟩ := Below.rules hX; clear hX; go_simp; rfl); simp only [List.getElem_toArray, List.getElem_cons_succ, List.getElem_cons_zero, Act.put, List.setIfInBounds_toArray, List.set_cons_succ, List.set_cons_zero])
          (refine any_take 19 ?_ (by rfl) (by kernel_rfl) (fun _ _ _ _ _ hx => hx.elim) (.inl ⟨by rfl, ?_⟩) (by exact bel_of) ?_; rotate_left; (intro X hX; obtain ⟨r1, r2⟩ := Below.rules hX; clear hX; go_simp; rfl); simp only [List.getElem_toArray, List.getElem_cons_succ, List.getElem_cons_zero, Act.put, List.setIfInBounds_toArray, List.set_cons_succ, List.set_cons_zero])
          (refine any_take 20 ?_ (by rfl) (by kernel_rfl) (fun _ _ _ _ _ hx => hx.elim) (.inl ⟨by rfl, ?_⟩) (by exact bel_of) ?_; rotate_left; (intro X hX; obtain ⟨r1, r2⟩ := Below.rules hX; clear hX; go_simp; rfl); simp only [List.getElem_toArray, List.getElem_cons_succ, List.getElem_cons_zero, Act.put, List.setIfInBounds_toArray, List.set_cons_succ, List.set_cons_zero])
          (refine any_take 21 ?_ (by rfl) (by kernel_rfl) (fun _ _ _ _ _ hx => hx.elim) (.inl ⟨by rfl, ?_⟩) (by exact bel_of) ?_; rotate_left; (intro X hX; obtain ⟨r1, r2⟩ := Below.rules hX; clear hX; go_simp; rfl); simp only [List.getElem_toArray, List.getElem_cons_succ, List.getElem_cons_zero, Act.put, List.setIfInBounds_toArray, List.set_cons_succ, List.set_cons_zero])
          (refine any_take 22 ?_ (by rfl) (by kernel_rfl) (fun _ _ _ _ _ hx => hx.elim) (.inl ⟨by rfl, ?_⟩) (by exact bel_of) ?_; rotate_left; (intro X hX; obtain ⟨r1, r2⟩ := Below.rules hX; clear hX; go_simp; rfl); simp only [List.getElem_toArray, List.getElem_cons_succ, List.getElem_cons_zero, Act.put, List.setIfInBounds_toArray, List.set_cons_succ, List.set_cons_zero])
          (refine any_take 23 ?_ (by rfl) (by kernel_rfl) (fun _ _ _ _ _ hx => hx.elim) (.inl ⟨by rfl, ?_⟩) (by exact bel_of) ?_; rotate_left; (intro X hX; obtain ⟨r1, r2⟩ := Below.rules hX; clear hX; go_simp; rfl); simp only [List.getElem_toArray, List.getElem_cons_succ, List.getElem_cons_zero, Act.put, List.setIfInBounds_toArray, List.set_cons_succ, List.set_cons_zero])
          (refine any_take 24 ?_ (by rfl) (by kernel_rfl) (fun _ _ _ _ _ hx => hx.elim) (.inl ⟨by rfl, ?_⟩) (by exact bel_of) ?_; rotate_left; (intro X hX; obtain ⟨r1, r2⟩ := Below.rules hX; clear hX; go_simp; rfl); simp only [List.getElem_toArray, List.getElem_cons_succ, List.getElem_cons_zero, Act.put, List.setIfInBounds_toArray, List.set_cons_succ, List.set_cons_zero])
          have qz2 := ez1.size
          refine any_run1 (i := 25) (by kernel_rfl) (by rfl) (by kernel_rfl) ?_
          intro K hK
          go_wp2_with fail
          refine (mem_any (nthLi LP i) y _ _ HLPI.out ((RS.below hu_p ez1).more ez1.size)).mono ?_
          rintro e vz2 ⟨rfl, hb⟩
          rw [HMC.out]
          have ez2 : Below wb.heap.size wb vz2 := ez1.trans (hb.mono ez1.size)
          clear hb
          refine hK _ _ (fun _ => ez2) ?_
          clear hK K
          (refine any_take 26 ?_ (by rfl) (by kernel_rfl) (fun _ _ _ _ _ hx => hx.elim) (.inl ⟨by rfl, ?_⟩) (by exact bel_of) ?_; rotate_left; (intro X hX; obtain ⟨r1, r2⟩ := Below.rules hX; clear hX; go_simp; rfl); simp only [List.getElem_toArray, List.getElem_cons_succ, List.getElem_cons_zero, Act.put, List.setIfInBounds_toArray, List.set_cons_succ, List.set_cons_zero])
          (refine any_take 27 ?_ (by rfl) (by kernel_rfl) (fun _ _ _ _ _ hx => hx.elim) (.inl ⟨by rfl, ?_⟩) (by exact bel_of) ?_; rotate_left; (intro X hX; obtain ⟨r1, r2⟩ := Below.rules hX; clear hX; go_simp; rfl); simp only [List.getElem_toArray, List.getElem_cons_succ, List.getElem_cons_zero, Act.put, List.setIfInBounds_toArray, List.set_cons_succ, List.set_cons_zero])
          (refine any_take 28 ?_ (by rfl) (by kernel_rfl) (fun _ _ _ _ _ hx => hx.elim) (.inl ⟨by rfl, ?_⟩) (by exact bel_of) ?_; rotate_left; (intro X hX; obtain ⟨r1, r2⟩ := Below.rules hX; clear hX; go_simp; rfl); simp only [List.getElem_toArray, List.getElem_cons_succ, List.getElem_cons_zero, Act.put, List.setIfInBounds_toArray, List.set_cons_succ, List.set_cons_zero])
          refine any_done (by kernel_rfl) (NoPanic.normal ?_)
          have hb := ez2
          replace hC : Below n0 w vz2 := hC.trans (hb.mono (by have := hC.size; omega))
          replace hB := (RS.below hB hb).more hb.size
          replace hS := (RP.below hS hb).more hb.size
          replace bx := bx.below hb bx.lt
          replace hR := (RS.below hR hb).more hb.size
          replace wx := wx.below hb wx.lt
          replace hH := (RS.below hH hb).more hb.size
          replace mx := mx.below hb mx.lt
          replace hc := (RS.below hc hb).more hb.size
          replace hp := RLi.next hp hb
          replace hd := (RS.below hd hb).more hb.size
          replace hbk := hbk.trans (hb.mono hbk.size)
          clear hb
          clear lwx wxc0 wxc1
          clear d_h d_l0 d_l1 hb_h hb_l hkd hkd' d_y d_p hb_y hb_p hu_p d1 w1 w2 w3 hik hik' hiw hiw'
          go_wp2_with fail
          go_roundw
          case rel => exact ⟨k1 + 1, by omega, by go_num, hbk⟩
          case measure => simp [intOf]; omega
    have hlt' : ¬ (k : Int) < (hs.length : Int) := by omega
    clear hlt
    clear hH hd hbk hR wx
    clear HDI HDL HWC HBC
    have lbx := bx.lt
    have bxc0 := bx.cell 0
    have bxc1 := bx.cell 1
    simp at bxc0 bxc1
    go_wp2_with fail
    clear lbx bxc0 bxc1
    clear hlt'
    refine (recipes_any bars ss _ _ _ HV.out hB hS).mono ?_
    rintro e w11 ⟨v, rfl, hL, hb⟩
    replace hC : Below n0 w w11 := hC.trans (hb.mono (by have := hC.size; omega))
    replace hB := (RS.below hB hb).more hb.size
    replace hS := (RP.below hS hb).more hb.size
    replace bx := bx.below hb bx.lt
    replace mx := mx.below hb mx.lt
    replace hc := (RS.below hc hb).more hb.size
    replace hp := RLi.next hp hb
    clear hb
    obtain ⟨A1, c1, rfl⟩ := hL.slice
    have HLN := Lib.hid (fun r (hr : r ∈ recL bars.length ss) => recL_len1 (bars := bars) (ss := ss) (r := r) HV.out hr)
    have HOK := Lib.hid (fun r (hr : r ∈ recL bars.length ss) => recL_ok (bars := bars) (ss := ss) (r := r) HV.out hr)
    have HHR := Lib.hid (fun r (hr : r ∈ recL bars.length ss) => had_rec (bars := bars) (ss := ss) (m := ⟨ml, mh⟩) (r := r) HV.out HM.out hr)
    have HSY := Lib.hid (fun j k hk h => snL_yes (bars := bars) (ss := ss) (m := ⟨ml, mh⟩) (k := k) j hk h)
    have HSN := Lib.hid (fun j k hk h => snL_no (bars := bars) (ss := ss) (m := ⟨ml, mh⟩) (k := k) j hk h)
    have HMY := Lib.hid (fun k hk h => mkF_yes (bars := bars) (ss := ss) (m := ⟨ml, mh⟩) (k := k) hk h)
    have HMN := Lib.hid (fun k hk h => mkF_no (bars := bars) (ss := ss) (m := ⟨ml, mh⟩) (k := k) hk h)
    have HMK := Lib.hid (fun k hk h => rec_mk (bars := bars) (ss := ss) (m := ⟨ml, mh⟩) (k := k) hk h)
    have HSL := Lib.hid (fun j k => snL_len (bars := bars) (ss := ss) (m := ⟨ml, mh⟩) j k)
    have HML := Lib.hid (fun k => mkF_len (bars := bars) (ss := ss) (m := ⟨ml, mh⟩) k)
    have HSZ : Hid (∀ j, snL bars ss ⟨ml, mh⟩ j 0 = []) := Lib.hid (fun j => snL_zero j)
    have HMZ : Hid ((mkF bars ss ⟨ml, mh⟩ 0).length = 0) := Lib.hid (by rw [mkF_zero]; rfl)
    have HNE : Hid (((mkF bars ss ⟨ml, mh⟩ (recL bars.length ss).length).length : Int) = cn) := Lib.hid (by rw [mkF_all]; exact HCN.out)
    have HBR : Hid (∀ v ∈ LC, v ∈ snL bars ss ⟨ml, mh⟩ 0 (recL bars.length ss).length) := Lib.hid (fun v hv => by rw [snL_all]; rw [← HLC.out] at hv; exact bars_rec HV.out HM.out hv)
    have HWR : Hid (∀ i, i < ss.length → ∀ v ∈ nthLi LP i, v ∈ snL bars ss ⟨ml, mh⟩ (i + 1) (recL bars.length ss).length) := Lib.hid (fun i hi v hv => by rw [snL_all]; rw [← HLP.out] at hv; exact ways_rec HV.out HM.out hi hv)
    have HRB : Hid (∀ r ∈ mkL bars ⟨ml, mh⟩ ss, nthI r 0 ∈ LC) := Lib.hid (fun r hr => by rw [← HLC.out]; exact rec_bars HV.out HM.out hr)
    have HRW : Hid (∀ r ∈ mkL bars ⟨ml, mh⟩ ss, ∀ i, i < ss.length → nthI r (i + 1) ∈ nthLi LP i) := Lib.hid (fun r hr i hi => by rw [← HLP.out]; exact rec_ways HV.out HM.out hr hi)
    have h400 := recL_400 HV.out HNF.out
    obtain ⟨L, hLe⟩ : ∃ L, recL bars.length ss = L := ⟨_, rfl⟩
    rw [hLe] at hL HLN HOK HHR HSY HSN HMY HMN HMK HML HNE HBR HWR h400
    rw [hLe]
    obtain ⟨sn, hsn⟩ : ∃ f, snL bars ss ⟨ml, mh⟩ = f := ⟨_, rfl⟩
    obtain ⟨mk, hmk⟩ : ∃ f : Nat → Nat, (fun k => (mkF bars ss ⟨ml, mh⟩ k).length) = f := ⟨_, rfl⟩
    have hmk2 : ∀ k, (mkF bars ss ⟨ml, mh⟩ k).length = mk k := fun k => by rw [← hmk]
    simp only [hmk2] at HMY HMN HSL HML HMZ HNE
    rw [hsn] at HSY HSN HSZ HBR HWR HSL
    clear hLe hsn hmk hmk2
    have wn : IntKind.i64.wrap ((ss.length : Int) + 1) = (ss.length : Int) + 1 := by rw [IntKind.wrap_i64]; omega
    have hmk : (Instr.makeSlice 56 (.int .i64 ((ss.length : Int) + 1)) (.int .i64 ((ss.length : Int) + 1))).run Try.prog w11 = .ok (.slice (some ⟨w11.heap.size, 0, none⟩) (ss.length + 1) (ss.length + 1)) (w11.alloc (.cells (List.replicate (ss.length + 1) (Value.slice none 0 0)).toArray 40)) := make_li (ss.length + 1) (by omega) w11
    have hsm := SeenM.made w11 (ss.length + 1) 40 rfl
    have hbg : Below w11.heap.size w11 (w11.alloc (.cells (List.replicate (ss.length + 1) (Value.slice none 0 0)).toArray 40)) := Below.alloc (Below.refl _ _) (Nat.le_refl _) _
    obtain ⟨RL, hRL⟩ : ∃ a, (List.replicate (ss.length + 1) (Value.slice none 0 0)).toArray = a := ⟨_, rfl⟩
    rw [hRL] at hmk hsm hbg
    clear hRL
    have lbx := bx.lt
    have bxc0 := bx.cell 0
    have bxc1 := bx.cell 1
    simp at bxc0 bxc1
    go_upto_region 20 with fail
    clear lbx bxc0 bxc1
    clear wn hmk
    generalize w11.alloc (.cells RL 40) = Wg at *
    have HhB0 := Lib.hid hB
    have HhS0 := Lib.hid hS
    have Hbx0 := Lib.hid bx
    have Hmx0 := Lib.hid mx
    have Hhc0 := Lib.hid hc
    have Hhp0 := Lib.hid hp
    have HhL0 := Lib.hid hL
    have HC0 := Lib.hid hC
    have HNG : Hid (n0 ≤ w11.heap.size) := Lib.hid (by have := hC.size; omega)
    clear hC hB hS bx mx hc hp hL
    obtain ⟨gs, hgs⟩ : ∃ n, w11.heap.size = n := ⟨_, rfl⟩
    rw [hgs] at hsm hbg
    rw [hgs]
    have HG := Lib.hid hgs
    have HSM := Lib.hid hsm
    have HBG := Lib.hid hbg
    clear hgs hsm hbg
    go_wp2_with fail
    go_loopw [24, 25] (fun y z V => ∃ (k : Nat) (us : List Value), k ≤ L.length ∧ z = .int .i64 (k : Int) ∧ y = .int .i64 (mk k : Int) ∧ us.length = ss.length + 1 ∧ SeenM V gs us (fun j => sn j k) ∧ Below gs w11 V) (fun _ z _ => L.length - (intOf z).toNat)
    case atStart => exact ⟨0, _, Nat.zero_le _, rfl, by rw [HMZ.out] <;> rfl, List.length_replicate .., HSM.out.congr fun j _ => (HSZ.out j).symm, HBG.out⟩
    case round =>
      rename World => wk
      obtain ⟨k, us, hk, rfl, rfl, hus, hsm, hb⟩ := hrel
      have HBK := Lib.hid hb
      have HUS := Lib.hid hus
      rw [← HG.out] at hb
      clear hus
      by_cases hlt : k < L.length
      case pos =>
        have hC : Below n0 w wk := HC0.out.trans (hb.mono HNG.out)
        have hB := (RS.below HhB0.out hb).more hb.size
        have hS := (RP.below HhS0.out hb).more hb.size
        have bx := Hbx0.out.below hb Hbx0.out.lt
        have mx := Hmx0.out.below hb Hmx0.out.lt
        have hlt' : (k : Int) < (L.length : Int) := by omega
        obtain ⟨A', cap', bl, ol, hve, hA, hcc⟩ := RC.cells HhL0.out
        obtain ⟨rfl, hbl⟩ := hA (by omega)
        injection hve with q1 q2 q3
        subst q1 q3
        obtain ⟨u, e0, e1, hu⟩ := hcc k hlt
        obtain ⟨Aw, cw, rfl⟩ := own_slice hu
        rw [HG.out] at hbl
        have hl1 := HLN.out _ (mem_nthLi hlt)
        have hor := HOK.out _ (mem_nthLi hlt)
        have hhr := HHR.out _ (mem_nthLi hlt)
        have hsy := fun j => HSY.out j k hlt
        have hsn := fun j => HSN.out j k hlt
        have hmy := HMY.out k hlt
        have hmn := HMN.out k hlt
        have hmk := HMK.out k hlt
        obtain ⟨r, hr⟩ : ∃ r, nthLi L k = r := ⟨_, rfl⟩
        rw [hr] at e0 e1 hu hl1 hor hhr hsy hsn hmy hmn hmk
        obtain ⟨bb, t, rfl⟩ : ∃ bb t, r = bb :: t := by
          cases r with
          | nil => simp at hl1
          | cons b t => exact ⟨b, t, rfl⟩
        have d0k : w11.cell? ⟨bl, ol + k * 2, none⟩ = some (.int .i64 bb) := e0
        have d1k : w11.cell? ⟨bl, ol + k * 2 + 1, none⟩ = some (.slice Aw t.length cw) := e1
        have hut : RI w11 w11.heap.size (.slice Aw t.length cw) t := OwnI.ri hu
        have hor2 : OkRec bars ss bb t := hor
        have hhr2 : hadE bars ss bb t ⟨ml, mh⟩ = if madI bars ss ⟨ml, mh⟩ (bb :: t) = true then 0 else 17 := hhr
        have htl : t.length = ss.length := by rw [List.length_cons] at hl1; omega
        have HUT := Lib.hid hut
        have HTL := Lib.hid htl
        have HT7 := Lib.hid (show t.length ≤ 1000 by omega)
        have HD0 := Lib.hid d0k
        have HD1 := Lib.hid d1k
        have HBL := Lib.hid hbl
        have c0 : wk.cell? ⟨bl, ol + k * 2, none⟩ = some (.int .i64 bb) := (hb.cell (by show bl < w11.heap.size; rw [HG.out]; exact hbl)).trans d0k
        have c1 : wk.cell? ⟨bl, ol + k * 2 + 1, none⟩ = some (.slice Aw t.length cw) := (hb.cell (by show bl < w11.heap.size; rw [HG.out]; exact hbl)).trans d1k
        have hblk : bl < wk.heap.size := by have := hb.size; rw [HG.out] at this; omega
        have htk := (RS.below HUT.out hb).more hb.size
        have HSY2 := Lib.hid hsy
        have HSN2 := Lib.hid hsn
        have HMY2 := Lib.hid hmy
        have HMN2 := Lib.hid hmn
        have HMK2 := Lib.hid hmk
        clear hA hcc q2 e0 e1 hu hl1 hor hhr hsy hsn hmy hmn hmk hr d0k d1k hut htl hor2 hb
        rcases hq : madI bars ss ⟨ml, mh⟩ (bb :: t)
        case false =>
          have he : hadE bars ss bb t ⟨ml, mh⟩ = 17 := by rw [hhr2, hq]; rfl
          have HE := Lib.hid he
          clear he hhr2
          have lbx := bx.lt
          have bxc0 := bx.cell 0
          have bxc1 := bx.cell 1
          simp at bxc0 bxc1
          have lmx := mx.lt
          have mxc0 := mx.cell 0
          have mxc1 := mx.cell 1
          simp at mxc0 mxc1
          go_upto_region 24 with fail
          refine wp_region_noPanic (plain_any [0, 1, 2, 3, 4, 5, 7, 8, 9] (Below wk.heap.size wk) mixed ?_)
          (refine any_take 0 ?_ (by rfl) (by kernel_rfl) (fun _ _ _ _ _ hx => hx.elim) (.inl ⟨by rfl, ?_⟩) (by exact bel_of) ?_; rotate_left; (intro X hX; obtain ⟨r1, r2⟩ := Below.rules hX; clear hX; go_simp; rfl); simp only [List.getElem_toArray, List.getElem_cons_succ, List.getElem_cons_zero, Act.put, List.setIfInBounds_toArray, List.set_cons_succ, List.set_cons_zero])
          have d0z : Below wk.heap.size wk wk.drew := by exact bel_of
          (refine any_take 1 ?_ (by rfl) (by kernel_rfl) (fun _ _ _ _ _ hx => hx.elim) (.inl ⟨by rfl, ?_⟩) (by exact bel_of) ?_; rotate_left; (intro X hX; obtain ⟨r1, r2⟩ := Below.rules hX; clear hX; go_simp; rfl); simp only [List.getElem_toArray, List.getElem_cons_succ, List.getElem_cons_zero, Act.put, List.setIfInBounds_toArray, List.set_cons_succ, List.set_cons_zero])
          (refine any_take 2 ?_ (by rfl) (by kernel_rfl) (fun _ _ _ _ _ hx => hx.elim) (.inl ⟨by rfl, ?_⟩) (by exact bel_of) ?_; rotate_left; (intro X hX; obtain ⟨r1, r2⟩ := Below.rules hX; clear hX; go_simp; rfl); simp only [List.getElem_toArray, List.getElem_cons_succ, List.getElem_cons_zero, Act.put, List.setIfInBounds_toArray, List.set_cons_succ, List.set_cons_zero])
          (refine any_take 3 ?_ (by rfl) (by kernel_rfl) (fun _ _ _ _ _ hx => hx.elim) (.inl ⟨by rfl, ?_⟩) (by exact bel_of) ?_; rotate_left; (intro X hX; obtain ⟨r1, r2⟩ := Below.rules hX; clear hX; go_simp; rfl); simp only [List.getElem_toArray, List.getElem_cons_succ, List.getElem_cons_zero, Act.put, List.setIfInBounds_toArray, List.set_cons_succ, List.set_cons_zero])
          (refine any_take 4 ?_ (by rfl) (by kernel_rfl) (fun _ _ _ _ _ hx => hx.elim) (.inl ⟨by rfl, ?_⟩) (by exact bel_of) ?_; rotate_left; (intro X hX; obtain ⟨r1, r2⟩ := Below.rules hX; clear hX; go_simp; rfl); simp only [List.getElem_toArray, List.getElem_cons_succ, List.getElem_cons_zero, Act.put, List.setIfInBounds_toArray, List.set_cons_succ, List.set_cons_zero])
          (refine any_take 5 ?_ (by rfl) (by kernel_rfl) (fun _ _ _ _ _ hx => hx.elim) (.inl ⟨by rfl, ?_⟩) (by exact bel_of) ?_; rotate_left; (intro X hX; obtain ⟨r1, r2⟩ := Below.rules hX; clear hX; go_simp; rfl); simp only [List.getElem_toArray, List.getElem_cons_succ, List.getElem_cons_zero, Act.put, List.setIfInBounds_toArray, List.set_cons_succ, List.set_cons_zero])
          have qz1 := d0z.size
          refine any_run1 (i := 6) (by kernel_rfl) (by rfl) (by kernel_rfl) ?_
          intro K hK
          go_wp2_with fail
          refine (historyX_any bars ss bb t ⟨ml, mh⟩ _ _ _ _ HF.out HT7.out ((RS.below hB d0z).more d0z.size) ((RP.below hS d0z).more d0z.size) ((RS.below htk d0z).more d0z.size)).mono ?_
          rintro e vz1 ⟨vx, rfl, hY, hb⟩
          rw [HE.out]
          rw [histV_nil (by rw [HE.out]; decide)] at hY
          obtain ⟨Ax, cx, rfl⟩ := ri_slice hY
          simp only [List.length_nil]
          have ez1 : Below wk.heap.size wk vz1 := d0z.trans (hb.mono d0z.size)
          clear hb
          refine hK _ _ (fun _ => ez1) ?_
          clear hK K
          (refine any_take 7 ?_ (by rfl) (by kernel_rfl) (fun _ _ _ _ _ hx => hx.elim) (.inl ⟨by rfl, ?_⟩) (by exact bel_of) ?_; rotate_left; (intro X hX; obtain ⟨r1, r2⟩ := Below.rules hX; clear hX; go_simp; rfl); simp only [List.getElem_toArray, List.getElem_cons_succ, List.getElem_cons_zero, Act.put, List.setIfInBounds_toArray, List.set_cons_succ, List.set_cons_zero])
          (refine any_take 8 ?_ (by rfl) (by kernel_rfl) (fun _ _ _ _ _ hx => hx.elim) (.inl ⟨by rfl, ?_⟩) (by exact bel_of) ?_; rotate_left; (intro X hX; obtain ⟨r1, r2⟩ := Below.rules hX; clear hX; go_simp; rfl); simp only [List.getElem_toArray, List.getElem_cons_succ, List.getElem_cons_zero, Act.put, List.setIfInBounds_toArray, List.set_cons_succ, List.set_cons_zero])
          (refine any_take 9 ?_ (by rfl) (by kernel_rfl) (fun _ _ _ _ _ hx => hx.elim) (.inl ⟨by rfl, ?_⟩) (by exact bel_of) ?_; rotate_left; (intro X hX; obtain ⟨r1, r2⟩ := Below.rules hX; clear hX; go_simp; rfl); simp only [List.getElem_toArray, List.getElem_cons_succ, List.getElem_cons_zero, Act.put, List.setIfInBounds_toArray, List.set_cons_succ, List.set_cons_zero])
          refine any_run1 (i := 10) (by kernel_rfl) (by rfl) (by kernel_rfl) ?_
          intro K hK
          go_wp2_with fail
          refine hK _ _ (fun _ => ez1) ?_
          clear hK K
          refine any_run1 (i := 11) (by kernel_rfl) (by rfl) (by kernel_rfl) ?_
          intro K hK
          go_wp2_with fail
          refine hK _ _ (fun _ => ez1) ?_
          clear hK K
          refine any_done (by kernel_rfl) (NoPanic.normal ?_)
          have hb := ez1
          replace hC : Below n0 w vz1 := hC.trans (hb.mono (by have := hC.size; omega))
          replace hB := (RS.below hB hb).more hb.size
          replace hS := (RP.below hS hb).more hb.size
          replace bx := bx.below hb bx.lt
          replace mx := mx.below hb mx.lt
          replace htk := (RS.below htk hb).more hb.size
          replace hsm := SeenM.below hsm hb
          clear hb
          clear lbx bxc0 bxc1
          clear lmx mxc0 mxc1
          have hsm2 := hsm.congr (S' := fun j => sn j (k + 1)) fun j _ => (HSN2.out j hq).symm
          have hbv : Below gs w11 vz1 := HBK.out.trans (ez1.mono (by have := HBK.out.size; rw [HG.out] at this; exact this))
          have HS2 := Lib.hid hsm2
          have HBV := Lib.hid hbv
          clear hsm hsm2 hbv hB hS bx mx htk hY hC ez1 d0z c0 c1 hblk
          go_wp2_with fail
          go_roundw
          case rel => exact ⟨k + 1, us, by omega, by go_num, by rw [HMN2.out hq], HUS.out, HS2.out, HBV.out⟩
          case measure => simp [intOf]; omega
        case true =>
          have he : hadE bars ss bb t ⟨ml, mh⟩ = 0 := by rw [hhr2, hq]; rfl
          have HE := Lib.hid he
          clear he hhr2
          have lbx := bx.lt
          have bxc0 := bx.cell 0
          have bxc1 := bx.cell 1
          simp at bxc0 bxc1
          have lmx := mx.lt
          have mxc0 := mx.cell 0
          have mxc1 := mx.cell 1
          simp at mxc0 mxc1
          go_upto_region 24 with fail
          refine wp_region_noPanic (plain_any [0, 1, 2, 3, 4, 5, 7, 8, 9] (Below wk.heap.size wk) mixed ?_)
          (refine any_take 0 ?_ (by rfl) (by kernel_rfl) (fun _ _ _ _ _ hx => hx.elim) (.inl ⟨by rfl, ?_⟩) (by exact bel_of) ?_; rotate_left; (intro X hX; obtain ⟨r1, r2⟩ := Below.rules hX; clear hX; go_simp; rfl); simp only [List.getElem_toArray, List.getElem_cons_succ, List.getElem_cons_zero, Act.put, List.setIfInBounds_toArray, List.set_cons_succ, List.set_cons_zero])
          have d0z : Below wk.heap.size wk wk.drew := by exact bel_of
          (refine any_take 1 ?_ (by rfl) (by kernel_rfl) (fun _ _ _ _ _ hx => hx.elim) (.inl ⟨by rfl, ?_⟩) (by exact bel_of) ?_; rotate_left; (intro X hX; obtain ⟨r1, r2⟩ := Below.rules hX; clear hX; go_simp; rfl); simp only [List.getElem_toArray, List.getElem_cons_succ, List.getElem_cons_zero, Act.put, List.setIfInBounds_toArray, List.set_cons_succ, List.set_cons_zero])
          (refine any_take 2 ?_ (by rfl) (by kernel_rfl) (fun _ _ _ _ _ hx => hx.elim) (.inl ⟨by rfl, ?_⟩) (by exact bel_of) ?_; rotate_left; (intro X hX; obtain ⟨r1, r2⟩ := Below.rules hX; clear hX; go_simp; rfl); simp only [List.getElem_toArray, List.getElem_cons_succ, List.getElem_cons_zero, Act.put, List.setIfInBounds_toArray, List.set_cons_succ, List.set_cons_zero])
          (refine any_take 3 ?_ (by rfl) (by kernel_rfl) (fun _ _ _ _ _ hx => hx.elim) (.inl ⟨by rfl, ?_⟩) (by exact bel_of) ?_; rotate_left; (intro X hX; obtain ⟨r1, r2⟩ := Below.rules hX; clear hX; go_simp; rfl); simp only [List.getElem_toArray, List.getElem_cons_succ, List.getElem_cons_zero, Act.put, List.setIfInBounds_toArray, List.set_cons_succ, List.set_cons_zero])
          (refine any_take 4 ?_ (by rfl) (by kernel_rfl) (fun _ _ _ _ _ hx => hx.elim) (.inl ⟨by rfl, ?_⟩) (by exact bel_of) ?_; rotate_left; (intro X hX; obtain ⟨r1, r2⟩ := Below.rules hX; clear hX; go_simp; rfl); simp only [List.getElem_toArray, List.getElem_cons_succ, List.getElem_cons_zero, Act.put, List.setIfInBounds_toArray, List.set_cons_succ, List.set_cons_zero])
          (refine any_take 5 ?_ (by rfl) (by kernel_rfl) (fun _ _ _ _ _ hx => hx.elim) (.inl ⟨by rfl, ?_⟩) (by exact bel_of) ?_; rotate_left; (intro X hX; obtain ⟨r1, r2⟩ := Below.rules hX; clear hX; go_simp; rfl); simp only [List.getElem_toArray, List.getElem_cons_succ, List.getElem_cons_zero, Act.put, List.setIfInBounds_toArray, List.set_cons_succ, List.set_cons_zero])
          have qz1 := d0z.size
          refine any_run1 (i := 6) (by kernel_rfl) (by rfl) (by kernel_rfl) ?_
          intro K hK
          go_wp2_with fail
          refine (historyX_any bars ss bb t ⟨ml, mh⟩ _ _ _ _ HF.out HT7.out ((RS.below hB d0z).more d0z.size) ((RP.below hS d0z).more d0z.size) ((RS.below htk d0z).more d0z.size)).mono ?_
          rintro e vz1 ⟨vx, rfl, hY, hb⟩
          rw [HE.out]
          have hyl := histV_len' HE.out
          have hag := agree_histV HE.out
          obtain ⟨Ax, cx, rfl⟩ := ri_slice hY
          obtain ⟨Y, hYe⟩ : ∃ l, histV bars ss bb t ⟨ml, mh⟩ = l := ⟨_, rfl⟩
          rw [hYe] at hY hyl hag
          rw [hYe]
          have HAG := Lib.hid hag
          have HYL := Lib.hid (show Y.length ≤ 1000 by omega)
          clear hag hyl hYe
          have ez1 : Below wk.heap.size wk vz1 := d0z.trans (hb.mono d0z.size)
          clear hb
          refine hK _ _ (fun _ => ez1) ?_
          clear hK K
          (refine any_take 7 ?_ (by rfl) (by kernel_rfl) (fun _ _ _ _ _ hx => hx.elim) (.inl ⟨by rfl, ?_⟩) (by exact bel_of) ?_; rotate_left; (intro X hX; obtain ⟨r1, r2⟩ := Below.rules hX; clear hX; go_simp; rfl); simp only [List.getElem_toArray, List.getElem_cons_succ, List.getElem_cons_zero, Act.put, List.setIfInBounds_toArray, List.set_cons_succ, List.set_cons_zero])
          (refine any_take 8 ?_ (by rfl) (by kernel_rfl) (fun _ _ _ _ _ hx => hx.elim) (.inl ⟨by rfl, ?_⟩) (by exact bel_of) ?_; rotate_left; (intro X hX; obtain ⟨r1, r2⟩ := Below.rules hX; clear hX; go_simp; rfl); simp only [List.getElem_toArray, List.getElem_cons_succ, List.getElem_cons_zero, Act.put, List.setIfInBounds_toArray, List.set_cons_succ, List.set_cons_zero])
          (refine any_take 9 ?_ (by rfl) (by kernel_rfl) (fun _ _ _ _ _ hx => hx.elim) (.inl ⟨by rfl, ?_⟩) (by exact bel_of) ?_; rotate_left; (intro X hX; obtain ⟨r1, r2⟩ := Below.rules hX; clear hX; go_simp; rfl); simp only [List.getElem_toArray, List.getElem_cons_succ, List.getElem_cons_zero, Act.put, List.setIfInBounds_toArray, List.set_cons_succ, List.set_cons_zero])
          refine any_run1 (i := 10) (by kernel_rfl) (by rfl) (by kernel_rfl) ?_
          intro K hK
          go_wp2_with fail
          refine hK _ _ (fun _ => ez1) ?_
          clear hK K
          refine any_run1 (i := 11) (by kernel_rfl) (by rfl) (by kernel_rfl) ?_
          intro K hK
          go_wp2_with fail
          refine hK _ _ (fun _ => ez1) ?_
          clear hK K
          refine any_done (by kernel_rfl) (NoPanic.normal ?_)
          have hb := ez1
          replace hC : Below n0 w vz1 := hC.trans (hb.mono (by have := hC.size; omega))
          replace hB := (RS.below hB hb).more hb.size
          replace hS := (RP.below hS hb).more hb.size
          replace bx := bx.below hb bx.lt
          replace mx := mx.below hb mx.lt
          replace htk := (RS.below htk hb).more hb.size
          replace hsm := SeenM.below hsm hb
          clear hb
          clear lbx bxc0 bxc1
          clear lmx mxc0 mxc1
          clear c0 c1 hblk
          have hbv : Below gs w11 vz1 := HBK.out.trans (ez1.mono (by have := HBK.out.size; rw [HG.out] at this; exact this))
          have hbu := hbv
          rw [← HG.out] at hbu
          have hc := (RS.below Hhc0.out hbu).more hbu.size
          have c0 : vz1.cell? ⟨bl, ol + k * 2, none⟩ = some (.int .i64 bb) := (hbu.cell (by show bl < w11.heap.size; rw [HG.out]; exact HBL.out)).trans HD0.out
          have c1 : vz1.cell? ⟨bl, ol + k * 2 + 1, none⟩ = some (.slice Aw t.length cw) := (hbu.cell (by show bl < w11.heap.size; rw [HG.out]; exact HBL.out)).trans HD1.out
          have hblk : bl < vz1.heap.size := by have := hbu.size; rw [HG.out] at this; have := HBL.out; omega
          have HRB2 : Hid (decide (bb ∈ LC) = true) := Lib.hid (decide_eq_true (show bb ∈ LC from HRB.out _ (HMK2.out hq)))
          have HBV := Lib.hid hbv
          clear hbv hbu ez1 d0z qz1
          have lbx := bx.lt
          have bxc0 := bx.cell 0
          have bxc1 := bx.cell 1
          simp at bxc0 bxc1
          have lmx := mx.lt
          have mxc0 := mx.cell 0
          have mxc1 := mx.cell 1
          simp at mxc0 mxc1
          go_upto_region 28 with fail
          refine wp_region_noPanic (plain_any [0, 1, 2, 3, 4, 5, 6, 8, 9, 10, 11, 12, 13, 14, 15, 17, 18] (Below vz1.heap.size vz1) mixed ?_)
          (refine any_take 0 ?_ (by rfl) (by kernel_rfl) (fun _ _ _ _ _ hx => hx.elim) (.inl ⟨by rfl, ?_⟩) (by exact bel_of) ?_; rotate_left; (intro X hX; obtain ⟨r1, r2⟩ := Below.rules hX; clear hX; go_simp; rfl); simp only [List.getElem_toArray, List.getElem_cons_succ, List.getElem_cons_zero, Act.put, List.setIfInBounds_toArray, List.set_cons_succ, List.set_cons_zero])
          have d0zb : Below vz1.heap.size vz1 vz1.drew := by exact bel_of
          (refine any_take 1 ?_ (by rfl) (by kernel_rfl) (fun _ _ _ _ _ hx => hx.elim) (.inl ⟨by rfl, ?_⟩) (by exact bel_of) ?_; rotate_left; (intro X hX; obtain ⟨r1, r2⟩ := Below.rules hX; clear hX; go_simp; rfl); simp only [List.getElem_toArray, List.getElem_cons_succ, List.getElem_cons_zero, Act.put, List.setIfInBounds_toArray, List.set_cons_succ, List.set_cons_zero])
          (refine any_take 2 ?_ (by rfl) (by kernel_rfl) (fun _ _ _ _ _ hx => hx.elim) (.inl ⟨by rfl, ?_⟩) (by exact bel_of) ?_; rotate_left; (intro X hX; obtain ⟨r1, r2⟩ := Below.rules hX; clear hX; go_simp; rfl); simp only [List.getElem_toArray, List.getElem_cons_succ, List.getElem_cons_zero, Act.put, List.setIfInBounds_toArray, List.set_cons_succ, List.set_cons_zero])
          (refine any_take 3 ?_ (by rfl) (by kernel_rfl) (fun _ _ _ _ _ hx => hx.elim) (.inl ⟨by rfl, ?_⟩) (by exact bel_of) ?_; rotate_left; (intro X hX; obtain ⟨r1, r2⟩ := Below.rules hX; clear hX; go_simp; rfl); simp only [List.getElem_toArray, List.getElem_cons_succ, List.getElem_cons_zero, Act.put, List.setIfInBounds_toArray, List.set_cons_succ, List.set_cons_zero])
          (refine any_take 4 ?_ (by rfl) (by kernel_rfl) (fun _ _ _ _ _ hx => hx.elim) (.inl ⟨by rfl, ?_⟩) (by exact bel_of) ?_; rotate_left; (intro X hX; obtain ⟨r1, r2⟩ := Below.rules hX; clear hX; go_simp; rfl); simp only [List.getElem_toArray, List.getElem_cons_succ, List.getElem_cons_zero, Act.put, List.setIfInBounds_toArray, List.set_cons_succ, List.set_cons_zero])
          (refine any_take 5 ?_ (by rfl) (by kernel_rfl) (fun _ _ _ _ _ hx => hx.elim) (.inl ⟨by rfl, ?_⟩) (by exact bel_of) ?_; rotate_left; (intro X hX; obtain ⟨r1, r2⟩ := Below.rules hX; clear hX; go_simp; rfl); simp only [List.getElem_toArray, List.getElem_cons_succ, List.getElem_cons_zero, Act.put, List.setIfInBounds_toArray, List.set_cons_succ, List.set_cons_zero])
          (refine any_take 6 ?_ (by rfl) (by kernel_rfl) (fun _ _ _ _ _ hx => hx.elim) (.inl ⟨by rfl, ?_⟩) (by exact bel_of) ?_; rotate_left; (intro X hX; obtain ⟨r1, r2⟩ := Below.rules hX; clear hX; go_simp; rfl); simp only [List.getElem_toArray, List.getElem_cons_succ, List.getElem_cons_zero, Act.put, List.setIfInBounds_toArray, List.set_cons_succ, List.set_cons_zero])
          have qzb1 := d0zb.size
          refine any_run1 (i := 7) (by kernel_rfl) (by rfl) (by kernel_rfl) ?_
          intro K hK
          go_wp2_with fail
          refine (agrees_any bars ss bb t Y ⟨ml, mh⟩ _ _ _ _ _ HF.out HT7.out ((RS.below hB d0zb).more d0zb.size) ((RP.below hS d0zb).more d0zb.size) ((RS.below htk d0zb).more d0zb.size) ((RS.below hY d0zb).more d0zb.size) HYL.out).mono ?_
          rintro e vzb1 ⟨rfl, hb⟩
          rw [HAG.out]
          have ezb1 : Below vz1.heap.size vz1 vzb1 := d0zb.trans (hb.mono d0zb.size)
          clear hb
          refine hK _ _ (fun _ => ezb1) ?_
          clear hK K
          (refine any_take 8 ?_ (by rfl) (by kernel_rfl) (fun _ _ _ _ _ hx => hx.elim) (.inl ⟨by rfl, ?_⟩) (by exact bel_of) ?_; rotate_left; (intro X hX; obtain ⟨r1, r2⟩ := Below.rules hX; clear hX; go_simp; rfl); simp only [List.getElem_toArray, List.getElem_cons_succ, List.getElem_cons_zero, Act.put, List.setIfInBounds_toArray, List.set_cons_succ, List.set_cons_zero])
          (refine any_take 9 ?_ (by rfl) (by kernel_rfl) (fun _ _ _ _ _ hx => hx.elim) (.inl ⟨by rfl, ?_⟩) (by exact bel_of) ?_; rotate_left; (intro X hX; obtain ⟨r1, r2⟩ := Below.rules hX; clear hX; go_simp; rfl); simp only [List.getElem_toArray, List.getElem_cons_succ, List.getElem_cons_zero, Act.put, List.setIfInBounds_toArray, List.set_cons_succ, List.set_cons_zero])
          (refine any_take 10 ?_ (by rfl) (by kernel_rfl) (fun _ _ _ _ _ hx => hx.elim) (.inl ⟨by rfl, ?_⟩) (by exact bel_of) ?_; rotate_left; (intro X hX; obtain ⟨r1, r2⟩ := Below.rules hX; clear hX; go_simp; rfl); simp only [List.getElem_toArray, List.getElem_cons_succ, List.getElem_cons_zero, Act.put, List.setIfInBounds_toArray, List.set_cons_succ, List.set_cons_zero])
          (refine any_take 11 ?_ (by rfl) (by kernel_rfl) (fun _ _ _ _ _ hx => hx.elim) (.inl ⟨by rfl, ?_⟩) (by exact bel_of) ?_; rotate_left; (intro X hX; obtain ⟨r1, r2⟩ := Below.rules hX; clear hX; go_simp; rfl); simp only [List.getElem_toArray, List.getElem_cons_succ, List.getElem_cons_zero, Act.put, List.setIfInBounds_toArray, List.set_cons_succ, List.set_cons_zero])
          (refine any_take 12 ?_ (by rfl) (by kernel_rfl) (fun _ _ _ _ _ hx => hx.elim) (.inl ⟨by rfl, ?_⟩) (by exact bel_of) ?_; rotate_left; (intro X hX; obtain ⟨r1, r2⟩ := Below.rules hX; clear hX; go_simp; rfl); simp only [List.getElem_toArray, List.getElem_cons_succ, List.getElem_cons_zero, Act.put, List.setIfInBounds_toArray, List.set_cons_succ, List.set_cons_zero])
          (refine any_take 13 ?_ (by rfl) (by kernel_rfl) (fun _ _ _ _ _ hx => hx.elim) (.inl ⟨by rfl, ?_⟩) (by exact bel_of) ?_; rotate_left; (intro X hX; obtain ⟨r1, r2⟩ := Below.rules hX; clear hX; go_simp; rfl); simp only [List.getElem_toArray, List.getElem_cons_succ, List.getElem_cons_zero, Act.put, List.setIfInBounds_toArray, List.set_cons_succ, List.set_cons_zero])
          (refine any_take 14 ?_ (by rfl) (by kernel_rfl) (fun _ _ _ _ _ hx => hx.elim) (.inl ⟨by rfl, ?_⟩) (by exact bel_of) ?_; rotate_left; (intro X hX; obtain ⟨r1, r2⟩ := Below.rules hX; clear hX; go_simp; rfl); simp only [List.getElem_toArray, List.getElem_cons_succ, List.getElem_cons_zero, Act.put, List.setIfInBounds_toArray, List.set_cons_succ, List.set_cons_zero])
          (refine any_take 15 ?_ (by rfl) (by kernel_rfl) (fun _ _ _ _ _ hx => hx.elim) (.inl ⟨by rfl, ?_⟩) (by exact bel_of) ?_; rotate_left; (intro X hX; obtain ⟨r1, r2⟩ := Below.rules hX; clear hX; go_simp; rfl); simp only [List.getElem_toArray, List.getElem_cons_succ, List.getElem_cons_zero, Act.put, List.setIfInBounds_toArray, List.set_cons_succ, List.set_cons_zero])
          have qzb2 := ezb1.size
          refine any_run1 (i := 16) (by kernel_rfl) (by rfl) (by kernel_rfl) ?_
          intro K hK
          go_wp2_with fail
          refine (mem_any LC bb _ _ HLC7.out ((RS.below hc ezb1).more ezb1.size)).mono ?_
          rintro e vzb2 ⟨rfl, hb⟩
          rw [HRB2.out]
          have ezb2 : Below vz1.heap.size vz1 vzb2 := ezb1.trans (hb.mono ezb1.size)
          clear hb
          refine hK _ _ (fun _ => ezb2) ?_
          clear hK K
          (refine any_take 17 ?_ (by rfl) (by kernel_rfl) (fun _ _ _ _ _ hx => hx.elim) (.inl ⟨by rfl, ?_⟩) (by exact bel_of) ?_; rotate_left; (intro X hX; obtain ⟨r1, r2⟩ := Below.rules hX; clear hX; go_simp; rfl); simp only [List.getElem_toArray, List.getElem_cons_succ, List.getElem_cons_zero, Act.put, List.setIfInBounds_toArray, List.set_cons_succ, List.set_cons_zero])
          (refine any_take 18 ?_ (by rfl) (by kernel_rfl) (fun _ _ _ _ _ hx => hx.elim) (.inl ⟨by rfl, ?_⟩) (by exact bel_of) ?_; rotate_left; (intro X hX; obtain ⟨r1, r2⟩ := Below.rules hX; clear hX; go_simp; rfl); simp only [List.getElem_toArray, List.getElem_cons_succ, List.getElem_cons_zero, Act.put, List.setIfInBounds_toArray, List.set_cons_succ, List.set_cons_zero])
          refine any_done (by kernel_rfl) (NoPanic.normal ?_)
          have hb := ezb2
          replace hC : Below n0 w vzb2 := hC.trans (hb.mono (by have := hC.size; omega))
          replace hB := (RS.below hB hb).more hb.size
          replace hS := (RP.below hS hb).more hb.size
          replace bx := bx.below hb bx.lt
          replace mx := mx.below hb mx.lt
          replace htk := (RS.below htk hb).more hb.size
          replace hsm := SeenM.below hsm hb
          replace hY := (RS.below hY hb).more hb.size
          replace hc := (RS.below hc hb).more hb.size
          clear hb
          clear lbx bxc0 bxc1
          clear lmx mxc0 mxc1
          have hbv : Below gs w11 vzb2 := HBV.out.trans (ezb2.mono (by have := HBV.out.size; rw [HG.out] at this; exact this))
          clear c0 c1 hblk d0zb qzb1 qzb2 ezb1 ezb2 hB hS bx mx htk hY hc hC
          have hbu := hbv
          rw [← HG.out] at hbu
          have c0 : vzb2.cell? ⟨bl, ol + k * 2, none⟩ = some (.int .i64 bb) := (hbu.cell (by show bl < w11.heap.size; rw [HG.out]; exact HBL.out)).trans HD0.out
          have c1 : vzb2.cell? ⟨bl, ol + k * 2 + 1, none⟩ = some (.slice Aw t.length cw) := (hbu.cell (by show bl < w11.heap.size; rw [HG.out]; exact HBL.out)).trans HD1.out
          have hblk : bl < vzb2.heap.size := by have := hbu.size; rw [HG.out] at this; have := HBL.out; omega
          have HBV2 := Lib.hid hbv
          have hmb := HML.out k
          have wm : IntKind.i64.wrap ((mk k : Int) + 1) = (mk k : Int) + 1 := by rw [IntKind.wrap_i64]; omega
          have hg1 : gs < gs + 1 := Nat.lt_succ_self gs
          have hbl1 : bl < gs + 1 := by have := HBL.out; omega
          obtain ⟨uj, huj⟩ : ∃ u, us[0]? = some u := ⟨us[0]'(by have := HUS.out; omega), List.getElem?_eq_getElem _⟩
          have s0 := hsm.cell huj
          clear hbv hbu hmb
          go_upto_region 31 with fail
          clear wm
          refine wp_region_noPanic (plain_any [0, 1, 2, 3, 4, 5, 6, 7, 8, 11] (Below (gs + 1) vzb2) mixed ?_)
          have hdr : Below vzb2.heap.size vzb2 vzb2.drew := Below.drew (Below.refl _ _)
          have hsmd := hsm.below hdr
          have d0 : Below (gs + 1) vzb2 vzb2.drew := by exact bel_of
          clear hdr
          refine any_tg 0 ?_
          refine any_tg 1 ?_
          refine any_tg 2 ?_
          refine any_tg 3 ?_
          refine any_tg 4 ?_
          refine any_tg 5 ?_
          refine any_tg 6 ?_
          refine any_tg 7 ?_
          refine any_tg 8 ?_
          generalize vzb2.drew = Vd at *
          refine any_run1 (i := 9) (by kernel_rfl) (by rfl) (by kernel_rfl) ?_
          intro K hK
          have hle : gs + 1 ≤ Vd.heap.size := hsmd.1.lt
          have d1 : Below (gs + 1) vzb2 (Vd.alloc (.cells #[.int .i64 bb] 3)) := Below.alloc d0 hle _
          have k9 : BK (Vd.alloc (.cells #[.int .i64 bb] 3)) Vd.heap.size #[.int .i64 bb] 3 := BK.new _ _ _
          have hsm9 := hsmd.below (W' := (Vd.alloc (.cells #[.int .i64 bb] 3))) (Below.alloc (Below.refl _ _) (Nat.le_refl _) _)
          go_wp2_with fail
          refine hK _ _ (fun _ => d1) ?_
          clear hK K hle hsmd
          generalize Vd.alloc (.cells #[.int .i64 bb] 3) = W9 at *
          obtain ⟨g9, hg9⟩ : ∃ n, Vd.heap.size = n := ⟨_, rfl⟩
          rw [hg9] at k9
          try rw [hg9]
          clear hg9
          refine any_run1 (i := 10) (by kernel_rfl) (by rfl) (by kernel_rfl) ?_
          intro K hK
          obtain ⟨A9, n9, c9, w9, hrun, hbel, hsz, hbk, hsmn⟩ := SeenM.app hsm9 huj k9 (by show (sn 0 k).length ≤ 100000; have h1 := HSL.out 0 k; have h2 := HML.out k; omega)
          have d2 : Below (gs + 1) vzb2 w9 := hbel _ d1
          have HRUN := Lib.hid hrun
          clear hrun hbel hsz hsm9 k9
          refine wp_append_run (.tmp 232) (.tmp 238) 40 _ rfl HRUN.out ?_
          refine hK _ _ (fun _ => d2) ?_
          clear hK K HRUN d1
          simp only [List.getElem_toArray, List.getElem_cons_succ, List.getElem_cons_zero, Act.put, List.setIfInBounds_toArray, List.set_cons_succ, List.set_cons_zero]
          refine any_tg 11 ?_
          refine any_run1 (i := 12) (by kernel_rfl) (by rfl) (by kernel_rfl) ?_
          intro K hK
          have y1 := hbk.lt
          have y2 := hbk.frozen 0
          have y3 : w9.cell? ⟨gs, 0, none⟩ = some uj := by rw [hbk.cell 0]; simpa using huj
          have d3 : Below gs vzb2 (w9.setCell ⟨gs, 0, none⟩ (.slice A9 n9 c9)) := Below.setCell (d2.mono (Nat.le_succ _)) (Nat.le_refl _) _
          clear d2 hbk
          go_wp2_with fail
          refine hK _ _ (fun hx => (Bool.false_ne_true (hx.symm.trans (by kernel_rfl))).elim) ?_
          clear hK K y1 y2 y3
          refine any_done (by kernel_rfl) (NoPanic.normal ?_)
          generalize w9.setCell ⟨gs, 0, none⟩ (.slice A9 n9 c9) = VNa at *
          clear hsm d0
          have hbv : Below gs w11 VNa := HBV2.out.trans d3
          have hsm4 := hsmn.congr (S' := fun j => if j < 0 + 1 then sn j (k + 1) else sn j k) fun j _ => by
            by_cases h0 : j = 0
            · subst h0
              rw [if_pos rfl, if_pos (by omega)]
              exact (HSY2.out 0 hq).symm
            · rw [if_neg h0, if_neg (by omega)]
          have HS4 := Lib.hid hsm4
          have HB4 := Lib.hid hbv
          have HU4 : Hid ((us.set 0 (.slice A9 n9 c9)).length = ss.length + 1) := Lib.hid (by rw [List.length_set]; exact HUS.out)
          clear hsmn hsm4 hbv d3 huj s0 hg1 hbl1 c0 c1 hblk HUS
          have hlp6 : LP.length ≤ 6 := by have := HLPL.out; omega
          go_wp2_with fail
          go_loopw [28] (fun z V => ∃ (i : Nat) (us : List Value), i ≤ ss.length ∧ z = .int .i64 (i : Int) ∧ us.length = ss.length + 1 ∧ SeenM V gs us (fun j => if j < i + 1 then sn j (k + 1) else sn j k) ∧ Below gs w11 V) (fun z _ => ss.length - (intOf z).toNat)
          case atStart => exact ⟨0, _, Nat.zero_le _, rfl, HU4.out, HS4.out, HB4.out⟩
          case round =>
            rename World => wi
            obtain ⟨i, us2, hi, rfl, hus, hsm, hb⟩ := hrel
            have HBK3 := Lib.hid hb
            have HUS3 := Lib.hid hus
            rw [← HG.out] at hb
            clear hus
            by_cases his : i < ss.length
            case neg =>
              have hni : ¬ (i : Int) < (LP.length : Int) := by have := HLPL.out; omega
              have hsm5 := hsm.congr (S' := fun j => sn j (k + 1)) fun j hj => if_pos (by have := HUS3.out; omega)
              have HS5 := Lib.hid hsm5
              clear hsm hsm5 hb
              go_wp2_with fail
              go_roundw
              case rel => exact ⟨k + 1, us2, by omega, by go_num, by rw [HMY2.out hq]; go_num, HUS3.out, HS5.out, HBK3.out⟩
              case measure => simp [intOf]; omega
            have hip : i < LP.length := by have := HLPL.out; omega
            have hip' : (i : Int) < (LP.length : Int) := by omega
            have hit : i < t.length := by have := HTL.out; omega
            have hit' : (i : Int) < (t.length : Int) := by omega
            have hC : Below n0 w wi := HC0.out.trans (hb.mono HNG.out)
            have hp := RLi.next Hhp0.out hb
            obtain ⟨A_p, c_p, b_p, o_p, hve, hA, hcc⟩ := RLi.cells hp
            obtain ⟨rfl, hb_p⟩ := hA (by omega)
            injection hve with q1 q2 q3
            first | (subst q1; subst q3) | (injection q1 with q1; injection q1 with q4 q5; subst q4; subst q5; subst q3)
            obtain ⟨u_p, d_p, hu_p⟩ := hcc i hip
            obtain ⟨A_pu, c_pu, rfl⟩ := ri_slice hu_p
            clear hA hcc q2
            obtain ⟨A_y, c_y, b_y, o_y, hve, hA, hc⟩ := RI.cells HUT.out
            obtain ⟨rfl, hb_y⟩ := hA (by omega)
            injection hve with q1 q2 q3
            first | (subst q1; subst q3) | (injection q1 with q1; injection q1 with q4 q5; subst q4; subst q5; subst q3)
            have d_y := hc i hit
            clear hA hc q2
            obtain ⟨y, hy⟩ : ∃ y, nthI t i = y := ⟨_, rfl⟩
            have hmc : y ∈ nthLi LP i := by rw [← hy]; exact HRW.out _ (HMK2.out hq) i his
            rw [hy] at d_y
            have HY2 := Lib.hid hy
            have HDY := Lib.hid d_y
            have HLPI := Lib.hid (HLPf.out _ (mem_nthLi hip))
            have HMC := Lib.hid (decide_eq_true hmc)
            rw [HG.out] at hb_y
            have HBY := Lib.hid hb_y
            have hyk : wi.cell? ⟨b_y, o_y + i, none⟩ = some (.int .i64 y) := (hb.cell (by show b_y < w11.heap.size; rw [HG.out]; exact hb_y)).trans d_y
            have hbyk : b_y < wi.heap.size := by have := hb.size; rw [HG.out] at this; omega
            have c0 : wi.cell? ⟨bl, ol + k * 2, none⟩ = some (.int .i64 bb) := (hb.cell (by show bl < w11.heap.size; rw [HG.out]; exact HBL.out)).trans HD0.out
            have c1 : wi.cell? ⟨bl, ol + k * 2 + 1, none⟩ = some (.slice _ t.length cw) := (hb.cell (by show bl < w11.heap.size; rw [HG.out]; exact HBL.out)).trans HD1.out
            have hblk : bl < wi.heap.size := by have := hb.size; rw [HG.out] at this; have := HBL.out; omega
            clear hy hmc hb_y d_y hb
            go_upto_region 35 with fail
            refine wp_region_noPanic (plain_any [0, 1, 2, 3, 4, 5, 6, 7, 8, 9, 10, 11, 13] (Below wi.heap.size wi) mixed ?_)
            (refine any_take 0 ?_ (by rfl) (by kernel_rfl) (fun _ _ _ _ _ hx => hx.elim) (.inl ⟨by rfl, ?_⟩) (by exact bel_of) ?_; rotate_left; (intro X hX; obtain ⟨r1, r2⟩ := Below.rules hX; clear hX; go_simp; rfl); simp only [List.getElem_toArray, List.getElem_cons_succ, List.getElem_cons_zero, Act.put, List.setIfInBounds_toArray, List.set_cons_succ, List.set_cons_zero])
            have d0zc : Below wi.heap.size wi wi.drew := by exact bel_of
            (refine any_take 1 ?_ (by rfl) (by kernel_rfl) (fun _ _ _ _ _ hx => hx.elim) (.inl ⟨by rfl, ?_⟩) (by exact bel_of) ?_; rotate_left; (intro X hX; obtain ⟨r1, r2⟩ := Below.rules hX; clear hX; go_simp; rfl); simp only [List.getElem_toArray, List.getElem_cons_succ, List.getElem_cons_zero, Act.put, List.setIfInBounds_toArray, List.set_cons_succ, List.set_cons_zero])
            (refine any_take 2 ?_ (by rfl) (by kernel_rfl) (fun _ _ _ _ _ hx => hx.elim) (.inl ⟨by rfl, ?_⟩) (by exact bel_of) ?_; rotate_left; (intro X hX; obtain ⟨r1, r2⟩ := Below.rules hX; clear hX; go_simp; rfl); simp only [List.getElem_toArray, List.getElem_cons_succ, List.getElem_cons_zero, Act.put, List.setIfInBounds_toArray, List.set_cons_succ, List.set_cons_zero])
            (refine any_take 3 ?_ (by rfl) (by kernel_rfl) (fun _ _ _ _ _ hx => hx.elim) (.inl ⟨by rfl, ?_⟩) (by exact bel_of) ?_; rotate_left; (intro X hX; obtain ⟨r1, r2⟩ := Below.rules hX; clear hX; go_simp; rfl); simp only [List.getElem_toArray, List.getElem_cons_succ, List.getElem_cons_zero, Act.put, List.setIfInBounds_toArray, List.set_cons_succ, List.set_cons_zero])
            (refine any_take 4 ?_ (by rfl) (by kernel_rfl) (fun _ _ _ _ _ hx => hx.elim) (.inl ⟨by rfl, ?_⟩) (by exact bel_of) ?_; rotate_left; (intro X hX; obtain ⟨r1, r2⟩ := Below.rules hX; clear hX; go_simp; rfl); simp only [List.getElem_toArray, List.getElem_cons_succ, List.getElem_cons_zero, Act.put, List.setIfInBounds_toArray, List.set_cons_succ, List.set_cons_zero])
            (refine any_take 5 ?_ (by rfl) (by kernel_rfl) (fun _ _ _ _ _ hx => hx.elim) (.inl ⟨by rfl, ?_⟩) (by exact bel_of) ?_; rotate_left; (intro X hX; obtain ⟨r1, r2⟩ := Below.rules hX; clear hX; go_simp; rfl); simp only [List.getElem_toArray, List.getElem_cons_succ, List.getElem_cons_zero, Act.put, List.setIfInBounds_toArray, List.set_cons_succ, List.set_cons_zero])
            (refine any_take 6 ?_ (by rfl) (by kernel_rfl) (fun _ _ _ _ _ hx => hx.elim) (.inl ⟨by rfl, ?_⟩) (by exact bel_of) ?_; rotate_left; (intro X hX; obtain ⟨r1, r2⟩ := Below.rules hX; clear hX; go_simp; rfl); simp only [List.getElem_toArray, List.getElem_cons_succ, List.getElem_cons_zero, Act.put, List.setIfInBounds_toArray, List.set_cons_succ, List.set_cons_zero])
            (refine any_take 7 ?_ (by rfl) (by kernel_rfl) (fun _ _ _ _ _ hx => hx.elim) (.inl ⟨by rfl, ?_⟩) (by exact bel_of) ?_; rotate_left; (intro X hX; obtain ⟨r1, r2⟩ := Below.rules hX; clear hX; go_simp; rfl); simp only [List.getElem_toArray, List.getElem_cons_succ, List.getElem_cons_zero, Act.put, List.setIfInBounds_toArray, List.set_cons_succ, List.set_cons_zero])
            (refine any_take 8 ?_ (by rfl) (by kernel_rfl) (fun _ _ _ _ _ hx => hx.elim) (.inl ⟨by rfl, ?_⟩) (by exact bel_of) ?_; rotate_left; (intro X hX; obtain ⟨r1, r2⟩ := Below.rules hX; clear hX; go_simp; rfl); simp only [List.getElem_toArray, List.getElem_cons_succ, List.getElem_cons_zero, Act.put, List.setIfInBounds_toArray, List.set_cons_succ, List.set_cons_zero])
            (refine any_take 9 ?_ (by rfl) (by kernel_rfl) (fun _ _ _ _ _ hx => hx.elim) (.inl ⟨by rfl, ?_⟩) (by exact bel_of) ?_; rotate_left; (intro X hX; obtain ⟨r1, r2⟩ := Below.rules hX; clear hX; go_simp; rfl); simp only [List.getElem_toArray, List.getElem_cons_succ, List.getElem_cons_zero, Act.put, List.setIfInBounds_toArray, List.set_cons_succ, List.set_cons_zero])
            (refine any_take 10 ?_ (by rfl) (by kernel_rfl) (fun _ _ _ _ _ hx => hx.elim) (.inl ⟨by rfl, ?_⟩) (by exact bel_of) ?_; rotate_left; (intro X hX; obtain ⟨r1, r2⟩ := Below.rules hX; clear hX; go_simp; rfl); simp only [List.getElem_toArray, List.getElem_cons_succ, List.getElem_cons_zero, Act.put, List.setIfInBounds_toArray, List.set_cons_succ, List.set_cons_zero])
            (refine any_take 11 ?_ (by rfl) (by kernel_rfl) (fun _ _ _ _ _ hx => hx.elim) (.inl ⟨by rfl, ?_⟩) (by exact bel_of) ?_; rotate_left; (intro X hX; obtain ⟨r1, r2⟩ := Below.rules hX; clear hX; go_simp; rfl); simp only [List.getElem_toArray, List.getElem_cons_succ, List.getElem_cons_zero, Act.put, List.setIfInBounds_toArray, List.set_cons_succ, List.set_cons_zero])
            have qzc1 := d0zc.size
            refine any_run1 (i := 12) (by kernel_rfl) (by rfl) (by kernel_rfl) ?_
            intro K hK
            go_wp2_with fail
            refine (mem_any (nthLi LP i) y _ _ HLPI.out ((RS.below hu_p d0zc).more d0zc.size)).mono ?_
            rintro e vzc1 ⟨rfl, hb⟩
            rw [HMC.out]
            have ezc1 : Below wi.heap.size wi vzc1 := d0zc.trans (hb.mono d0zc.size)
            clear hb
            refine hK _ _ (fun _ => ezc1) ?_
            clear hK K
            (refine any_take 13 ?_ (by rfl) (by kernel_rfl) (fun _ _ _ _ _ hx => hx.elim) (.inl ⟨by rfl, ?_⟩) (by exact bel_of) ?_; rotate_left; (intro X hX; obtain ⟨r1, r2⟩ := Below.rules hX; clear hX; go_simp; rfl); simp only [List.getElem_toArray, List.getElem_cons_succ, List.getElem_cons_zero, Act.put, List.setIfInBounds_toArray, List.set_cons_succ, List.set_cons_zero])
            refine any_done (by kernel_rfl) (NoPanic.normal ?_)
            have hb := ezc1
            replace hC : Below n0 w vzc1 := hC.trans (hb.mono (by have := hC.size; omega))
            replace hp := RLi.next hp hb
            replace hsm := SeenM.below hsm hb
            clear hb
            have hbv : Below gs w11 vzc1 := HBK3.out.trans (ezc1.mono (by have := HBK3.out.size; rw [HG.out] at this; exact this))
            clear c0 c1 hblk d0zc qzc1 ezc1 hp hC d_p hb_p hu_p hyk hbyk
            have hbu := hbv
            rw [← HG.out] at hbu
            have hyk : vzc1.cell? ⟨b_y, o_y + i, none⟩ = some (.int .i64 y) := (hbu.cell (by show b_y < w11.heap.size; rw [HG.out]; exact HBY.out)).trans HDY.out
            have c0 : vzc1.cell? ⟨bl, ol + k * 2, none⟩ = some (.int .i64 bb) := (hbu.cell (by show bl < w11.heap.size; rw [HG.out]; exact HBL.out)).trans HD0.out
            have c1 : vzc1.cell? ⟨bl, ol + k * 2 + 1, none⟩ = some (.slice _ t.length cw) := (hbu.cell (by show bl < w11.heap.size; rw [HG.out]; exact HBL.out)).trans HD1.out
            have hblk : bl < vzc1.heap.size := by have := hbu.size; rw [HG.out] at this; have := HBL.out; omega
            have HBV5 := Lib.hid hbv
            have hg1 : gs < gs + 1 := Nat.lt_succ_self gs
            have hbl1 : bl < gs + 1 := by have := HBL.out; omega
            have hby1 : b_y < gs + 1 := by have := HBY.out; omega
            have hii : i + 1 < ss.length + 1 := by omega
            have hii' : (i : Int) + 1 < ((ss.length : Int) + 1) := by omega
            obtain ⟨uj, huj⟩ : ∃ u, us2[i + 1]? = some u := ⟨us2[i + 1]'(by have := HUS3.out; omega), List.getElem?_eq_getElem _⟩
            have s0 := hsm.cell huj
            have wi9 : IntKind.i64.wrap ((i : Int) + 1) = (i : Int) + 1 := by rw [IntKind.wrap_i64]; omega
            have HLN9 : Hid ((sn (i + 1) k).length ≤ 100000) := Lib.hid (by have h1 := HSL.out (i + 1) k; have h2 := HML.out k; omega)
            clear hbv hbu
            go_upto_region 37 with fail
            refine wp_region_noPanic (plain_any [0, 1, 2, 3, 4, 5, 6, 7, 8, 9, 10, 11, 12, 13, 14, 15, 18] (Below (gs + 1) vzc1) mixed ?_)
            have hdr : Below vzc1.heap.size vzc1 vzc1.drew := Below.drew (Below.refl _ _)
            have hsmd := hsm.below hdr
            have d0 : Below (gs + 1) vzc1 vzc1.drew := by exact bel_of
            clear hdr
            refine any_tg 0 ?_
            refine any_tg 1 ?_
            refine any_tg 2 ?_
            refine any_tg 3 ?_
            refine any_tg 4 ?_
            refine any_tg 5 ?_
            refine any_tg 6 ?_
            refine any_tg 7 ?_
            refine any_tg 8 ?_
            refine any_tg 9 ?_
            refine any_tg 10 ?_
            refine any_tg 11 ?_
            refine any_tg 12 ?_
            refine any_tg 13 ?_
            refine any_tg 14 ?_
            refine any_tg 15 ?_
            generalize vzc1.drew = Vd at *
            refine any_run1 (i := 16) (by kernel_rfl) (by rfl) (by kernel_rfl) ?_
            intro K hK
            have hle : gs + 1 ≤ Vd.heap.size := hsmd.1.lt
            have d1 : Below (gs + 1) vzc1 (Vd.alloc (.cells #[.int .i64 y] 3)) := Below.alloc d0 hle _
            have k9 : BK (Vd.alloc (.cells #[.int .i64 y] 3)) Vd.heap.size #[.int .i64 y] 3 := BK.new _ _ _
            have hsm9 := hsmd.below (W' := (Vd.alloc (.cells #[.int .i64 y] 3))) (Below.alloc (Below.refl _ _) (Nat.le_refl _) _)
            go_wp2_with fail
            refine hK _ _ (fun _ => d1) ?_
            clear hK K hle hsmd
            generalize Vd.alloc (.cells #[.int .i64 y] 3) = W9 at *
            obtain ⟨g9, hg9⟩ : ∃ n, Vd.heap.size = n := ⟨_, rfl⟩
            rw [hg9] at k9
            try rw [hg9]
            clear hg9
            refine any_run1 (i := 17) (by kernel_rfl) (by rfl) (by kernel_rfl) ?_
            intro K hK
            obtain ⟨A9, n9, c9, w9, hrun, hbel, hsz, hbk, hsmn⟩ := SeenM.app hsm9 huj k9 (Nat.le_trans (Nat.le_of_eq (congrArg List.length (if_neg (Nat.lt_irrefl _)))) HLN9.out)
            have d2 : Below (gs + 1) vzc1 w9 := hbel _ d1
            have HRUN := Lib.hid hrun
            clear hrun hbel hsz hsm9 k9
            refine wp_append_run (.tmp 268) (.tmp 277) 40 _ rfl HRUN.out ?_
            refine hK _ _ (fun _ => d2) ?_
            clear hK K HRUN d1
            simp only [List.getElem_toArray, List.getElem_cons_succ, List.getElem_cons_zero, Act.put, List.setIfInBounds_toArray, List.set_cons_succ, List.set_cons_zero]
            refine any_tg 18 ?_
            refine any_run1 (i := 19) (by kernel_rfl) (by rfl) (by kernel_rfl) ?_
            intro K hK
            have y1 := hbk.lt
            have y2 := hbk.frozen (i + 1)
            have y3 : w9.cell? ⟨gs, (i + 1), none⟩ = some uj := by rw [hbk.cell (i + 1)]; simpa using huj
            have d3 : Below gs vzc1 (w9.setCell ⟨gs, (i + 1), none⟩ (.slice A9 n9 c9)) := Below.setCell (d2.mono (Nat.le_succ _)) (Nat.le_refl _) _
            clear d2 hbk
            go_wp2_with fail
            refine hK _ _ (fun hx => (Bool.false_ne_true (hx.symm.trans (by kernel_rfl))).elim) ?_
            clear hK K y1 y2 y3
            refine any_done (by kernel_rfl) (NoPanic.normal ?_)
            generalize w9.setCell ⟨gs, (i + 1), none⟩ (.slice A9 n9 c9) = VNb at *
            clear hsm d0
            have hbv : Below gs w11 VNb := HBV5.out.trans d3
            have hsm4 := hsmn.congr (S' := fun j => if j < i + 1 + 1 then sn j (k + 1) else sn j k) fun j _ => by
              by_cases h0 : j = i + 1
              · subst h0
                rw [if_pos rfl, if_neg (Nat.lt_irrefl _), if_pos (Nat.lt_succ_self _), ← HY2.out]
                exact (HSY2.out (i + 1) hq).symm
              · rw [if_neg h0]
                by_cases h1 : j < i + 1
                · rw [if_pos h1, if_pos (by omega)]
                · rw [if_neg h1, if_neg (by omega)]
            have HS4' := Lib.hid hsm4
            have HB4' := Lib.hid hbv
            have HU4' : Hid ((us2.set (i + 1) (.slice A9 n9 c9)).length = ss.length + 1) := Lib.hid (by rw [List.length_set]; exact HUS3.out)
            clear hsmn hsm4 hbv d3 huj s0 hg1 hbl1 hby1 c0 c1 hblk hyk wi9
            go_wp2_with fail
            go_roundw
            case rel => exact ⟨i + 1, _, by omega, by go_num, HU4'.out, HS4'.out, HB4'.out⟩
            case measure => simp [intOf]; omega
      have hlt' : ¬ (k : Int) < (L.length : Int) := by omega
      obtain rfl : k = L.length := by omega
      clear hlt
      have hC : Below n0 w wk := HC0.out.trans (hb.mono HNG.out)
      have hc := (RS.below Hhc0.out hb).more hb.size
      have hp := RLi.next Hhp0.out hb
      have hml := HML.out L.length
      have HSLN : Hid (∀ j, (sn j L.length).length ≤ 1000) := Lib.hid (fun j => by have h1 := HSL.out j L.length; omega)
      have hlc7 := HLC7.out
      have hlp6 : LP.length ≤ 6 := by have := HLPL.out; omega
      clear hb hml
      go_wp2_with fail
      go_loopw [29] (fun z wr => ∃ k : Nat, k ≤ LC.length ∧ z = .int .i64 (k : Int) ∧ Below wk.heap.size wk wr) (fun z _ => LC.length - (intOf z).toNat)
      case atStart => exact ⟨0, Nat.zero_le _, rfl, Below.refl _ _⟩
      case round =>
        rename World => wl
        obtain ⟨i, hki, rfl, hb⟩ := hrel
        have hbi := hb
        replace hC : Below n0 w wl := hC.trans (hb.mono (by have := hC.size; omega))
        replace hc := (RS.below hc hb).more hb.size
        replace hp := RLi.next hp hb
        replace hsm := SeenM.below hsm hb
        clear hb
        by_cases hlt : i < LC.length
        case pos =>
          have hlt' : (i : Int) < (LC.length : Int) := by omega
          have hmem : nthI LC i ∈ LC := by unfold nthI; rw [List.getD_eq_getElem?_getD, List.getElem?_eq_getElem hlt]; exact List.getElem_mem _
          have hmc := HBR.out _ hmem
          obtain ⟨uj, huj⟩ : ∃ u, us[0]? = some u := ⟨us[0]'(by have := HUS.out; omega), List.getElem?_eq_getElem _⟩
          have s0 := hsm.cell huj
          have s1 := hsm.1.lt
          have hru : RI wl wl.heap.size uj (sn 0 L.length) := hsm.ri huj
          obtain ⟨A_d, c_d, b_d, o_d, hve, hA, hcl9⟩ := RI.cells hc
          obtain ⟨rfl, hb_d⟩ := hA (by omega)
          injection hve with q1 q2 q3
          first | (subst q1; subst q3) | (injection q1 with q1; injection q1 with q4 q5; subst q4; subst q5; subst q3)
          have d_d := hcl9 i hlt
          clear hA hcl9 q2
          obtain ⟨x, hx⟩ : ∃ x, nthI LC i = x := ⟨_, rfl⟩
          rw [hx] at d_d hmc
          have HMC := Lib.hid (decide_eq_true hmc)
          clear hmem hmc hx
          go_upto_region 41 with fail
          refine wp_region_noPanic (plain_any [0, 1, 2, 3, 4, 5, 6, 8] (Below wl.heap.size wl) mixed ?_)
          (refine any_take 0 ?_ (by rfl) (by kernel_rfl) (fun _ _ _ _ _ hx => hx.elim) (.inl ⟨by rfl, ?_⟩) (by exact bel_of) ?_; rotate_left; (intro X hX; obtain ⟨r1, r2⟩ := Below.rules hX; clear hX; go_simp; rfl); simp only [List.getElem_toArray, List.getElem_cons_succ, List.getElem_cons_zero, Act.put, List.setIfInBounds_toArray, List.set_cons_succ, List.set_cons_zero])
          have d0zd : Below wl.heap.size wl wl.drew := by exact bel_of
          (refine any_take 1 ?_ (by rfl) (by kernel_rfl) (fun _ _ _ _ _ hx => hx.elim) (.inl ⟨by rfl, ?_⟩) (by exact bel_of) ?_; rotate_left; (intro X hX; obtain ⟨r1, r2⟩ := Below.rules hX; clear hX; go_simp; rfl); simp only [List.getElem_toArray, List.getElem_cons_succ, List.getElem_cons_zero, Act.put, List.setIfInBounds_toArray, List.set_cons_succ, List.set_cons_zero])
          (refine any_take 2 ?_ (by rfl) (by kernel_rfl) (fun _ _ _ _ _ hx => hx.elim) (.inl ⟨by rfl, ?_⟩) (by exact bel_of) ?_; rotate_left; (intro X hX; obtain ⟨r1, r2⟩ := Below.rules hX; clear hX; go_simp; rfl); simp only [List.getElem_toArray, List.getElem_cons_succ, List.getElem_cons_zero, Act.put, List.setIfInBounds_toArray, List.set_cons_succ, List.set_cons_zero])
          (refine any_take 3 ?_ (by rfl) (by kernel_rfl) (fun _ _ _ _ _ hx => hx.elim) (.inl ⟨by rfl, ?_⟩) (by exact bel_of) ?_; rotate_left; (intro X hX; obtain ⟨r1, r2⟩ := Below.rules hX; clear hX; go_simp; rfl); simp only [List.getElem_toArray, List.getElem_cons_succ, List.getElem_cons_zero, Act.put, List.setIfInBounds_toArray, List.set_cons_succ, List.set_cons_zero])
          (refine any_take 4 ?_ (by rfl) (by kernel_rfl) (fun _ _ _ _ _ hx => hx.elim) (.inl ⟨by rfl, ?_⟩) (by exact bel_of) ?_; rotate_left; (intro X hX; obtain ⟨r1, r2⟩ := Below.rules hX; clear hX; go_simp; rfl); simp only [List.getElem_toArray, List.getElem_cons_succ, List.getElem_cons_zero, Act.put, List.setIfInBounds_toArray, List.set_cons_succ, List.set_cons_zero])
          (refine any_take 5 ?_ (by rfl) (by kernel_rfl) (fun _ _ _ _ _ hx => hx.elim) (.inl ⟨by rfl, ?_⟩) (by exact bel_of) ?_; rotate_left; (intro X hX; obtain ⟨r1, r2⟩ := Below.rules hX; clear hX; go_simp; rfl); simp only [List.getElem_toArray, List.getElem_cons_succ, List.getElem_cons_zero, Act.put, List.setIfInBounds_toArray, List.set_cons_succ, List.set_cons_zero])
          (refine any_take 6 ?_ (by rfl) (by kernel_rfl) (fun _ _ _ _ _ hx => hx.elim) (.inl ⟨by rfl, ?_⟩) (by exact bel_of) ?_; rotate_left; (intro X hX; obtain ⟨r1, r2⟩ := Below.rules hX; clear hX; go_simp; rfl); simp only [List.getElem_toArray, List.getElem_cons_succ, List.getElem_cons_zero, Act.put, List.setIfInBounds_toArray, List.set_cons_succ, List.set_cons_zero])
          have qzd1 := d0zd.size
          refine any_run1 (i := 7) (by kernel_rfl) (by rfl) (by kernel_rfl) ?_
          intro K hK
          go_wp2_with fail
          refine (mem_any (sn 0 L.length) x uj _ (HSLN.out 0) ((RS.below hru d0zd).more d0zd.size)).mono ?_
          rintro e vzd1 ⟨rfl, hb⟩
          rw [HMC.out]
          have ezd1 : Below wl.heap.size wl vzd1 := d0zd.trans (hb.mono d0zd.size)
          clear hb
          refine hK _ _ (fun _ => ezd1) ?_
          clear hK K
          (refine any_take 8 ?_ (by rfl) (by kernel_rfl) (fun _ _ _ _ _ hx => hx.elim) (.inl ⟨by rfl, ?_⟩) (by exact bel_of) ?_; rotate_left; (intro X hX; obtain ⟨r1, r2⟩ := Below.rules hX; clear hX; go_simp; rfl); simp only [List.getElem_toArray, List.getElem_cons_succ, List.getElem_cons_zero, Act.put, List.setIfInBounds_toArray, List.set_cons_succ, List.set_cons_zero])
          refine any_done (by kernel_rfl) (NoPanic.normal ?_)
          have hb := ezd1
          replace hC : Below n0 w vzd1 := hC.trans (hb.mono (by have := hC.size; omega))
          replace hc := (RS.below hc hb).more hb.size
          replace hp := RLi.next hp hb
          replace hsm := SeenM.below hsm hb
          replace hbi := hbi.trans (hb.mono hbi.size)
          clear hb
          clear d_d hb_d s0 s1 hru huj
          go_wp2_with fail
          go_roundw
          case rel => exact ⟨i + 1, by omega, by go_num, hbi⟩
          case measure => simp [intOf]; omega
        have hlt' : ¬ (i : Int) < (LC.length : Int) := by omega
        clear hlt
        clear hc hbi
        go_wp2_with fail
        clear hlt'
        go_loopw [30] (fun z wr => ∃ k : Nat, k ≤ LP.length ∧ z = .int .i64 (k : Int) ∧ Below wl.heap.size wl wr) (fun z _ => LP.length - (intOf z).toNat)
        case atStart => exact ⟨0, Nat.zero_le _, rfl, Below.refl _ _⟩
        case round =>
          rename World => wi
          obtain ⟨i2, hki2, rfl, hb⟩ := hrel
          have hbi := hb
          replace hC : Below n0 w wi := hC.trans (hb.mono (by have := hC.size; omega))
          replace hp := RLi.next hp hb
          replace hsm := SeenM.below hsm hb
          clear hb
          by_cases hlt : i2 < LP.length
          case neg =>
            have hlt' : ¬ (i2 : Int) < (LP.length : Int) := by omega
            have hne : (((mk L.length : Nat) : Int) == cn) = true := by rw [HNE.out]; simp
            clear hlt hp hsm hbi
            go_wp2_with fail
            refine (works_any _).mono ?_
            rintro e w12 ⟨rfl, hb⟩
            replace hC : Below n0 w w12 := hC.trans (hb.mono (by have := hC.size; omega))
            clear hb
            go_wp2_with fail
            exact bodyPost_ret (v := .bool true) (by simp [results, Try.results9, go_sem]) rfl ⟨rfl, by first | exact hC | (rw [hn0]; exact hC) | (with_reducible rw [hn0]; exact bel_of) | exact bel_of⟩
          have hlt' : (i2 : Int) < (LP.length : Int) := by omega
          have his : i2 < ss.length := by have := HLPL.out; omega
          have hlqi : (nthLi LP i2).length ≤ 1000 := HLPf.out _ (mem_nthLi hlt)
          go_wp2_with fail
          go_loopw [31] (fun z wr => ∃ k : Nat, k ≤ (nthLi LP i2).length ∧ z = .int .i64 (k : Int) ∧ Below wi.heap.size wi wr) (fun z _ => (nthLi LP i2).length - (intOf z).toNat)
          case atStart => exact ⟨0, Nat.zero_le _, rfl, Below.refl _ _⟩
          case round =>
            rename World => wj
            obtain ⟨j, hkj, rfl, hb⟩ := hrel
            have hbj := hb
            replace hC : Below n0 w wj := hC.trans (hb.mono (by have := hC.size; omega))
            replace hp := RLi.next hp hb
            replace hsm := SeenM.below hsm hb
            replace hbi := hbi.trans (hb.mono hbi.size)
            clear hb
            obtain ⟨A_q, c_q, b_q, o_q, hve, hA, hcc⟩ := RLi.cells hp
            obtain ⟨rfl, hb_q⟩ := hA (by omega)
            injection hve with q1 q2 q3
            first | (subst q1; subst q3) | (injection q1 with q1; injection q1 with q4 q5; subst q4; subst q5; subst q3)
            obtain ⟨u_q, d_q, hu_q⟩ := hcc i2 hlt
            obtain ⟨A_qu, c_qu, rfl⟩ := ri_slice hu_q
            clear hA hcc q2
            by_cases hlj : j < (nthLi LP i2).length
            case neg =>
              have hlj' : ¬ (j : Int) < ((nthLi LP i2).length : Int) := by omega
              clear hlj hu_q
              go_wp2_with fail
              go_roundw
              case rel => exact ⟨i2 + 1, by omega, by go_num, hbi⟩
              case measure => simp [intOf]; omega
            have hlj' : (j : Int) < ((nthLi LP i2).length : Int) := by omega
            have hmem : nthI (nthLi LP i2) j ∈ nthLi LP i2 := by unfold nthI; rw [List.getD_eq_getElem?_getD, List.getElem?_eq_getElem hlj]; exact List.getElem_mem _
            have hmc := HWR.out i2 his _ hmem
            obtain ⟨uj, huj⟩ : ∃ u, us[i2 + 1]? = some u := ⟨us[i2 + 1]'(by have := HUS.out; omega), List.getElem?_eq_getElem _⟩
            have s0 := hsm.cell huj
            have s1 := hsm.1.lt
            have hru : RI wj wj.heap.size uj (sn (i2 + 1) L.length) := hsm.ri huj
            have hii : i2 + 1 < ss.length + 1 := by omega
            have hii' : (i2 : Int) + 1 < ((ss.length : Int) + 1) := by omega
            have wi9 : IntKind.i64.wrap ((i2 : Int) + 1) = (i2 : Int) + 1 := by rw [IntKind.wrap_i64]; omega
            obtain ⟨A_x, c_x, b_x, o_x, hve, hA, hc⟩ := RI.cells hu_q
            obtain ⟨rfl, hb_x⟩ := hA (by omega)
            injection hve with q1 q2 q3
            first | (subst q1; subst q3) | (injection q1 with q1; injection q1 with q4 q5; subst q4; subst q5; subst q3)
            have d_x := hc j hlj
            clear hA hc q2
            obtain ⟨x, hx⟩ : ∃ x, nthI (nthLi LP i2) j = x := ⟨_, rfl⟩
            rw [hx] at d_x hmc
            have HMC := Lib.hid (decide_eq_true hmc)
            clear hmem hmc hx
            go_upto_region 49 with fail
            refine wp_region_noPanic (plain_any [0, 1, 2, 3, 4, 5, 6, 7, 8, 9, 10, 11, 13] (Below wj.heap.size wj) mixed ?_)
            (refine any_take 0 ?_ (by rfl) (by kernel_rfl) (fun _ _ _ _ _ hx => hx.elim) (.inl ⟨by rfl, ?_⟩) (by exact bel_of) ?_; rotate_left; (intro X hX; obtain ⟨r1, r2⟩ := Below.rules hX; clear hX; go_simp; rfl); simp only [List.getElem_toArray, List.getElem_cons_succ, List.getElem_cons_zero, Act.put, List.setIfInBounds_toArray, List.set_cons_succ, List.set_cons_zero])
            have d0ze : Below wj.heap.size wj wj.drew := by exact bel_of
            (refine any_take 1 ?_ (by rfl) (by kernel_rfl) (fun _ _ _ _ _ hx => hx.elim) (.inl ⟨by rfl, ?_⟩) (by exact bel_of) ?_; rotate_left; (intro X hX; obtain ⟨r1, r2⟩ := Below.rules hX; clear hX; go_simp; rfl); simp only [List.getElem_toArray, List.getElem_cons_succ, List.getElem_cons_zero, Act.put, List.setIfInBounds_toArray, List.set_cons_succ, List.set_cons_zero])
            (refine any_take 2 ?_ (by rfl) (by kernel_rfl) (fun _ _ _ _ _ hx => hx.elim) (.inl ⟨by rfl, ?_⟩) (by exact bel_of) ?_; rotate_left; (intro X hX; obtain ⟨r1, r2⟩ := Below.rules hX; clear hX; go_simp; rfl); simp only [List.getElem_toArray, List.getElem_cons_succ, List.getElem_cons_zero, Act.put, List.setIfInBounds_toArray, List.set_cons_succ, List.set_cons_zero])
            (refine any_take 3 ?_ (by rfl) (by kernel_rfl) (fun _ _ _ _ _ hx => hx.elim) (.inl ⟨by rfl, ?_⟩) (by exact bel_of) ?_; rotate_left; (intro X hX; obtain ⟨r1, r2⟩ := Below.rules hX; clear hX; go_simp; rfl); simp only [List.getElem_toArray, List.getElem_cons_succ, List.getElem_cons_zero, Act.put, List.setIfInBounds_toArray, List.set_cons_succ, List.set_cons_zero])
            (refine any_take 4 ?_ (by rfl) (by kernel_rfl) (fun _ _ _ _ _ hx => hx.elim) (.inl ⟨by rfl, ?_⟩) (by exact bel_of) ?_; rotate_left; (intro X hX; obtain ⟨r1, r2⟩ := Below.rules hX; clear hX; go_simp; rfl); simp only [List.getElem_toArray, List.getElem_cons_succ, List.getElem_cons_zero, Act.put, List.setIfInBounds_toArray, List.set_cons_succ, List.set_cons_zero])
            (refine any_take 5 ?_ (by rfl) (by kernel_rfl) (fun _ _ _ _ _ hx => hx.elim) (.inl ⟨by rfl, ?_⟩) (by exact bel_of) ?_; rotate_left; (intro X hX; obtain ⟨r1, r2⟩ := Below.rules hX; clear hX; go_simp; rfl); simp only [List.getElem_toArray, List.getElem_cons_succ, List.getElem_cons_zero, Act.put, List.setIfInBounds_toArray, List.set_cons_succ, List.set_cons_zero])
            (refine any_take 6 ?_ (by rfl) (by kernel_rfl) (fun _ _ _ _ _ hx => hx.elim) (.inl ⟨by rfl, ?_⟩) (by exact bel_of) ?_; rotate_left; (intro X hX; obtain ⟨r1, r2⟩ := Below.rules hX; clear hX; go_simp; rfl); simp only [List.getElem_toArray, List.getElem_cons_succ, List.getElem_cons_zero, Act.put, List.setIfInBounds_toArray, List.set_cons_succ, List.set_cons_zero])
            (refine any_take 7 ?_ (by rfl) (by kernel_rfl) (fun _ _ _ _ _ hx => hx.elim) (.inl ⟨by rfl, ?_⟩) (by exact bel_of) ?_; rotate_left; (intro X hX; obtain ⟨r1, r2⟩ := Below.rules hX; clear hX; go_simp; rfl); simp only [List.getElem_toArray, List.getElem_cons_succ, List.getElem_cons_zero, Act.put, List.setIfInBounds_toArray, List.set_cons_succ, List.set_cons_zero])
            (refine any_take 8 ?_ (by rfl) (by kernel_rfl) (fun _ _ _ _ _ hx => hx.elim) (.inl ⟨by rfl, ?_⟩) (by exact bel_of) ?_; rotate_left; (intro X hX; obtain ⟨r1, r2⟩ := Below.rules hX; clear hX; go_simp; rfl); simp only [List.getElem_toArray, List.getElem_cons_succ, List.getElem_cons_zero, Act.put, List.setIfInBounds_toArray, List.set_cons_succ, List.set_cons_zero])
            (refine any_take 9 ?_ (by rfl) (by kernel_rfl) (fun _ _ _ _ _ hx => hx.elim) (.inl ⟨by rfl, ?_⟩) (by exact bel_of) ?_; rotate_left; (intro X hX; obtain ⟨r1, r2⟩ := Below.rules hX; clear hX; go_simp; rfl); simp only [List.getElem_toArray, List.getElem_cons_succ, List.getElem_cons_zero, Act.put, List.setIfInBounds_toArray, List.set_cons_succ, List.set_cons_zero])
            (refine any_take 10 ?_ (by rfl) (by kernel_rfl) (fun _ _ _ _ _ hx => hx.elim) (.inl ⟨by rfl, ?_⟩) (by exact bel_of) ?_; rotate_left; (intro X hX; obtain ⟨r1, r2⟩ := Below.rules hX; clear hX; go_simp; rfl); simp only [List.getElem_toArray, List.getElem_cons_succ, List.getElem_cons_zero, Act.put, List.setIfInBounds_toArray, List.set_cons_succ, List.set_cons_zero])
            (refine any_take 11 ?_ (by rfl) (by kernel_rfl) (fun _ _ _ _ _ hx => hx.elim) (.inl ⟨by rfl, ?_⟩) (by exact bel_of) ?_; rotate_left; (intro X hX; obtain ⟨r1, r2⟩ := Below.rules hX; clear hX; go_simp; rfl); simp only [List.getElem_toArray, List.getElem_cons_succ, List.getElem_cons_zero, Act.put, List.setIfInBounds_toArray, List.set_cons_succ, List.set_cons_zero])
            have qze1 := d0ze.size
            refine any_run1 (i := 12) (by kernel_rfl) (by rfl) (by kernel_rfl) ?_
            intro K hK
            go_wp2_with fail
            refine (mem_any (sn (i2 + 1) L.length) x uj _ (HSLN.out (i2 + 1)) ((RS.below hru d0ze).more d0ze.size)).mono ?_
            rintro e vze1 ⟨rfl, hb⟩
            rw [HMC.out]
            have eze1 : Below wj.heap.size wj vze1 := d0ze.trans (hb.mono d0ze.size)
            clear hb
            refine hK _ _ (fun _ => eze1) ?_
            clear hK K
            (refine any_take 13 ?_ (by rfl) (by kernel_rfl) (fun _ _ _ _ _ hx => hx.elim) (.inl ⟨by rfl, ?_⟩) (by exact bel_of) ?_; rotate_left; (intro X hX; obtain ⟨r1, r2⟩ := Below.rules hX; clear hX; go_simp; rfl); simp only [List.getElem_toArray, List.getElem_cons_succ, List.getElem_cons_zero, Act.put, List.setIfInBounds_toArray, List.set_cons_succ, List.set_cons_zero])
            refine any_done (by kernel_rfl) (NoPanic.normal ?_)
            have hb := eze1
            replace hC : Below n0 w vze1 := hC.trans (hb.mono (by have := hC.size; omega))
            replace hp := RLi.next hp hb
            replace hsm := SeenM.below hsm hb
            replace hbi := hbi.trans (hb.mono hbi.size)
            replace hbj := hbj.trans (hb.mono hbj.size)
            clear hb
            clear d_x d_q hb_x hb_q s0 s1 hru huj hii hii' wi9
            go_wp2_with fail
            go_roundw
            case rel => exact ⟨j + 1, by omega, by go_num, hbj⟩
            case measure => simp [intOf]; omega
end Go.Proofs.Ytkibdciomheekaa

namespace Go.Proofs.Ytkibdciomheekaa.heatBlamed
open Go.ChangeShapes Go.WideShapes Go.ChangeAt Go.RowKit Go.Deep

set_option maxRecDepth 100000 in
theorem lifted (os : Os) (started : os.Started) (H : Type) (enc : TypeId × Value → H) :
    ReturnsInHanded {} Try.checked os 9 .any (Rows.heatBlamedSpec.pre6 enc Try.prog Try.f9 Rows.heatBlamedRow.domain false) (Rows.heatBlamedSpec.post enc Try.prog Try.f9 false true false false) := by
  refine returnsInHanded_of_change (C := Try.checked) own started (by kernel_rfl) Try.func9
    (ChangeSpec.witness6 (enc := enc) (C := Try.checked) false ⟨#[], #[.agg #[.slice none 0 0, .slice none 0 0], .slice none 0 0, .slice none 0 0, .agg #[.int .u8 0, .int .u8 0]], []⟩ 8 (by kernel_rfl) (by kernel_rfl) (by kernel_rfl) (by kernel_rfl)) ?_
  intro W base args ds gs before hval0 hW hcnd _
  have hval : ∀ (j : Nat) t v, Try.f9.params[j]? = some t → args[j]? = some v → Value.okWide Try.prog W .any base t v := hval0
  have hW2 : DataW.Whole enc Try.prog Try.f9.params.toList Rows.heatBlamedSpec.vars false W args.toList ds gs before := hW
  obtain ⟨p, q, hA0, hV, rfl, hfz, hnd⟩ := hW
  have hA : DataW.TrodAll enc Try.prog W 0 (fun _ => true) true Try.f9.params.toList args.toList ds p := hA0
  rw [Try.params9] at hA hval
  obtain ⟨v0, vs0, d0, ds0, p0, q0, hargs, rfl, rfl, h0, r0⟩ := trodAll_cons hA
  obtain ⟨v1, vs1, d1, ds1, p1, q1, rfl, rfl, rfl, h1, r1⟩ := trodAll_cons r0
  obtain ⟨v2, vs2, d2, ds2, p2, q2, rfl, rfl, rfl, h2, r2⟩ := trodAll_cons r1
  obtain ⟨v3, vs3, d3, ds3, p3, q3, rfl, rfl, rfl, h3, r3⟩ := trodAll_cons r2
  obtain ⟨rfl, rfl, rfl⟩ := trodAll_nil r3
  obtain rfl : args = #[v0, v1, v2, v3] := by cases args; simp_all
  obtain ⟨rfl, rfl⟩ := trodVars_none hV
  obtain ⟨vb0, vs0_, bars0, ss0, rfl, hB0, hS0⟩ := open_works (hval 0 25 v0 rfl rfl) h0
  obtain ⟨l1, g1, k1⟩ := open_u8s (hval 1 66 v1 rfl rfl) h1
  obtain ⟨l2, g2, k2⟩ := open_u32s (hval 2 67 v2 rfl rfl) h2
  obtain ⟨x3, y3, rfl, g3⟩ := open_a8 (hval 3 75 v3 rfl rfl) h3
  refine (heatBlamed_any (bars := bars0) (ss := ss0) (vb := vb0) (vs := vs0_) (hB := hB0) (hS := hS0) (us := l1) (vu := v1) (hU := g1) (hu := k1) (ys := l2) (vy := v2) (hY := g2) (hy := k2) (x2 := x3) (y2 := y3) (h2 := g3) (w := W)).mono fun e W' ⟨he, hg⟩ => ?_
  subst he
  exact ⟨_, rfl, law_done hW2 rfl rfl rfl (by rw [Try.params9]; decide +kernel) hg⟩

theorem over : Rows.heatBlamedRow.holds Try.pinned (OpenSpec.ofChange Rows.heatBlamedSpec) :=
  OpenClaim.holds_of_wide 9 Try.f9 rfl rfl rfl rfl rfl rfl rfl ⟨rfl, rfl, rfl, rfl, rfl⟩ rfl rfl rfl rfl rfl (by kernel_rfl) Try.func9 (by kernel_rfl)
    (of_decide_eq_true (by kernel_rfl)) (by unfold Func.isWrapper; first | (rw [if_pos (by decide +kernel)]; kernel_rfl) | (rw [if_neg (by decide +kernel)]; exact ⟨rfl, rfl⟩))
    (fun os started H enc _ => lifted os started H enc)

theorem proved : Rows.HeatBlamedSaid :=
  over
end Go.Proofs.Ytkibdciomheekaa.heatBlamed
namespace Go.Proofs.Ytkibdciomheekaa
theorem heatBlamed_proved : Rows.HeatBlamedSaid := heatBlamed.proved
#print axioms heatBlamed_proved
end Go.Proofs.Ytkibdciomheekaa
