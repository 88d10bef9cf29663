/- HeatMakers: the walk. Which bars and ways can have made a blade, and how many recipes, are what the definitions say, or the error; for every works of at most 400 recipes, and anything that was measured. -/
import Derived.Test.YtkibdciomheekaaQ6a
import Derived.Test.YtkibdciomheekaaP24
import Derived.Test.YtkibdciomheekaaRows
import Derived.Test.YtkibdciomheekaaP29
set_option linter.all false
set_option linter.unnecessarySimpa false
set_option linter.unusedSimpArgs false
set_option linter.unusedVariables false
set_option linter.unusedSectionVars false

set_option linter.all false
namespace Go.Proofs.Ytkibdciomheekaa
open Go.RowKit Hp

set_option maxHeartbeats 8000000 in
set_option maxRecDepth 100000 in
theorem heatMakers_any (bars : List Rg) (ss : List Stp) (vb vs : Value) (lo hi : Int) (w : World) (hB : RR w w.heap.size vb bars) (hS : RP w w.heap.size vs ss) :
    Calls Try.prog 6 #[.agg #[vb, vs], .agg #[.int .i64 lo, .int .i64 hi]] w fun x w' => x = .returned (.bool true) ∧ Below w.heap.size w w' := by
  obtain ⟨Ab, cb, rfl⟩ := hB.slice
  obtain ⟨As, cs, rfl⟩ := hS.slice
  obtain ⟨n0, hn0⟩ : ∃ n, w.heap.size = n := ⟨_, rfl⟩
  have hC : Below n0 w w := Below.refl _ _
  go_enter Try.func6, Try.ntmps6
  go_upto_region 1 with fail
  have hqbx : n0 ≤ n0 := by have := hC.size; omega
  have bx : BK (w.alloc (.cells #[.slice Ab bars.length cb, .slice As ss.length cs] 25)) (n0) #[.slice Ab bars.length cb, .slice As ss.length cs] 25 := BK.new' _ _ _ (n0) hn0
  have hsbx : (w.alloc (.cells #[.slice Ab bars.length cb, .slice As ss.length cs] 25)).heap.size = n0 + 1 := by simp [hn0]
  replace hC : Below n0 w (w.alloc (.cells #[.slice Ab bars.length cb, .slice As ss.length cs] 25)) := Below.alloc hC (by have := hC.size; omega) _
  replace hB := (RS.below hB (w' := (w.alloc (.cells #[.slice Ab bars.length cb, .slice As ss.length cs] 25))) (Below.alloc (Below.refl _ _) (Nat.le_refl _) _)).more (B' := (w.alloc (.cells #[.slice Ab bars.length cb, .slice As ss.length cs] 25)).heap.size) (by simp)
  replace hS := (RP.below hS (w' := (w.alloc (.cells #[.slice Ab bars.length cb, .slice As ss.length cs] 25))) (Below.alloc (Below.refl _ _) (Nat.le_refl _) _)).more (B' := (w.alloc (.cells #[.slice Ab bars.length cb, .slice As ss.length cs] 25)).heap.size) (by simp)
  generalize (w.alloc (.cells #[.slice Ab bars.length cb, .slice As ss.length cs] 25)) = Wbx at *
  have hqbz : n0 ≤ n0 + 1 := by have := hC.size; omega
  have bz : BK (Wbx.alloc (.cells #[.int .i64 lo, .int .i64 hi] 33)) (n0 + 1) #[.int .i64 lo, .int .i64 hi] 33 := BK.new' _ _ _ (n0 + 1) hsbx
  have hsbz : (Wbx.alloc (.cells #[.int .i64 lo, .int .i64 hi] 33)).heap.size = n0 + 1 + 1 := by simp [hsbx]
  replace hC : Below n0 w (Wbx.alloc (.cells #[.int .i64 lo, .int .i64 hi] 33)) := Below.alloc hC (by have := hC.size; omega) _
  replace hB := (RS.below hB (w' := (Wbx.alloc (.cells #[.int .i64 lo, .int .i64 hi] 33))) (Below.alloc (Below.refl _ _) (Nat.le_refl _) _)).more (B' := (Wbx.alloc (.cells #[.int .i64 lo, .int .i64 hi] 33)).heap.size) (by simp)
  replace hS := (RP.below hS (w' := (Wbx.alloc (.cells #[.int .i64 lo, .int .i64 hi] 33))) (Below.alloc (Below.refl _ _) (Nat.le_refl _) _)).more (B' := (Wbx.alloc (.cells #[.int .i64 lo, .int .i64 hi] 33)).heap.size) (by simp)
  replace bx := bx.alloc (.cells #[.int .i64 lo, .int .i64 hi] 33)
  generalize (Wbx.alloc (.cells #[.int .i64 lo, .int .i64 hi] 33)) = Wbz at *
  clear hsbx
  have lbx := bx.lt
  have bxc0 := bx.cell 0
  have bxc1 := bx.cell 1
  simp at bxc0 bxc1
  go_wp2_with fail
  clear lbx bxc0 bxc1
  clear hsbz
  refine (great_any bars ss _ _ _ hB hS).mono ?_
  rintro e w1 ⟨q, rfl, hq, hb⟩
  replace hC : Below n0 w w1 := hC.trans (hb.mono (by have := hC.size; omega))
  replace hB := (RS.below hB hb).more hb.size
  replace hS := (RP.below hS hb).more hb.size
  replace bx := bx.below hb bx.lt
  replace bz := bz.below hb bz.lt
  clear hb
  cases q
  case true =>
    clear hq
    go_wp2_with fail
    refine (works_any _).mono ?_
    rintro e w2 ⟨rfl, hb⟩
    replace hC : Below n0 w w2 := hC.trans (hb.mono (by have := hC.size; omega))
    replace hB := (RS.below hB hb).more hb.size
    replace hS := (RP.below hS hb).more hb.size
    replace bx := bx.below hb bx.lt
    replace bz := bz.below hb bz.lt
    clear hb
    go_wp2_with fail
    exact bodyPost_ret (v := .bool true) (by simp [results, Try.results6, go_sem]) rfl ⟨rfl, by first | exact hC | (rw [hn0]; exact hC) | (with_reducible rw [hn0]; exact bel_of) | exact bel_of⟩
  have HF := Lib.hid (great_fit (show ¬ greatP bars ss from fun h => Bool.noConfusion (hq.2 h)))
  clear hq
  have lbx := bx.lt
  have bxc0 := bx.cell 0
  have bxc1 := bx.cell 1
  simp at bxc0 bxc1
  go_wp2_with fail
  clear lbx bxc0 bxc1
  refine (full_any bars ss _ _ _ HF.out hB hS).mono ?_
  rintro e w2 ⟨q, rfl, hq, hb⟩
  replace hC : Below n0 w w2 := hC.trans (hb.mono (by have := hC.size; omega))
  replace hB := (RS.below hB hb).more hb.size
  replace hS := (RP.below hS hb).more hb.size
  replace bx := bx.below hb bx.lt
  replace bz := bz.below hb bz.lt
  clear hb
  cases q
  case true =>
    clear hq
    go_wp2_with fail
    refine (works_any _).mono ?_
    rintro e w3 ⟨rfl, hb⟩
    replace hC : Below n0 w w3 := hC.trans (hb.mono (by have := hC.size; omega))
    replace hB := (RS.below hB hb).more hb.size
    replace hS := (RP.below hS hb).more hb.size
    replace bx := bx.below hb bx.lt
    replace bz := bz.below hb bz.lt
    clear hb
    go_wp2_with fail
    exact bodyPost_ret (v := .bool true) (by simp [results, Try.results6, go_sem]) rfl ⟨rfl, by first | exact hC | (rw [hn0]; exact hC) | (with_reducible rw [hn0]; exact bel_of) | exact bel_of⟩
  clear hq
  have lbx := bx.lt
  have bxc0 := bx.cell 0
  have bxc1 := bx.cell 1
  simp at bxc0 bxc1
  have lbz := bz.lt
  have bzc0 := bz.cell 0
  have bzc1 := bz.cell 1
  simp at bzc0 bzc1
  go_wp2_with fail
  clear lbx bxc0 bxc1
  clear lbz bzc0 bzc1
  refine (barsF_any bars ss ⟨lo, hi⟩ _ _ _ HF.out hB hS).mono ?_
  rintro e w3 ⟨v1, rfl, hv1, hb⟩
  replace hC : Below n0 w w3 := hC.trans (hb.mono (by have := hC.size; omega))
  replace hB := (RS.below hB hb).more hb.size
  replace hS := (RP.below hS hb).more hb.size
  replace bx := bx.below hb bx.lt
  replace bz := bz.below hb bz.lt
  clear hb
  rw [show (if barsE bars ss ⟨lo, hi⟩ = 0 then someV bars ⟨lo, hi⟩ ss (-1) else []) = barsL bars ss ⟨lo, hi⟩ from rfl] at hv1
  obtain ⟨A1, c1, rfl⟩ := ri_slice hv1
  obtain ⟨be, hbe⟩ : ∃ e, barsE bars ss ⟨lo, hi⟩ = e := ⟨_, rfl⟩
  rw [hbe]
  have HBE := Lib.hid hbe
  clear hbe
  have lbx := bx.lt
  have bxc0 := bx.cell 0
  have bxc1 := bx.cell 1
  simp at bxc0 bxc1
  have lbz := bz.lt
  have bzc0 := bz.cell 0
  have bzc1 := bz.cell 1
  simp at bzc0 bzc1
  go_wp2_with fail
  clear lbx bxc0 bxc1
  clear lbz bzc0 bzc1
  refine (barsR_any bars ss ⟨lo, hi⟩ _ _ _ HF.out hB hS).mono ?_
  rintro e w4 ⟨v2, rfl, hv2, hb⟩
  replace hC : Below n0 w w4 := hC.trans (hb.mono (by have := hC.size; omega))
  replace hB := (RS.below hB hb).more hb.size
  replace hS := (RP.below hS hb).more hb.size
  replace bx := bx.below hb bx.lt
  replace bz := bz.below hb bz.lt
  replace hv1 := (RS.below hv1 hb).more hb.size
  clear hb
  rw [show (if barsE bars ss ⟨lo, hi⟩ = 0 then someV bars ⟨lo, hi⟩ ss (-1) else []) = barsL bars ss ⟨lo, hi⟩ from rfl] at hv2
  obtain ⟨A2, c2, rfl⟩ := ri_slice hv2
  rw [HBE.out]
  have lbx := bx.lt
  have bxc0 := bx.cell 0
  have bxc1 := bx.cell 1
  simp at bxc0 bxc1
  have lbz := bz.lt
  have bzc0 := bz.cell 0
  have bzc1 := bz.cell 1
  simp at bzc0 bzc1
  go_wp2_with fail
  clear lbx bxc0 bxc1
  clear lbz bzc0 bzc1
  refine (waysF_any bars ss ⟨lo, hi⟩ _ _ _ HF.out hB hS).mono ?_
  rintro e w5 ⟨v3, rfl, hv3, hb⟩
  replace hC : Below n0 w w5 := hC.trans (hb.mono (by have := hC.size; omega))
  replace hB := (RS.below hB hb).more hb.size
  replace hS := (RP.below hS hb).more hb.size
  replace bx := bx.below hb bx.lt
  replace bz := bz.below hb bz.lt
  replace hv1 := (RS.below hv1 hb).more hb.size
  replace hv2 := (RS.below hv2 hb).more hb.size
  clear hb
  rw [show (if barsE bars ss ⟨lo, hi⟩ = 0 then wysL bars ⟨lo, hi⟩ ss ss.length else []) = waysL bars ss ⟨lo, hi⟩ from rfl] at hv3
  obtain ⟨A3, c3, rfl⟩ := hv3.slice
  rw [HBE.out]
  have lbx := bx.lt
  have bxc0 := bx.cell 0
  have bxc1 := bx.cell 1
  simp at bxc0 bxc1
  have lbz := bz.lt
  have bzc0 := bz.cell 0
  have bzc1 := bz.cell 1
  simp at bzc0 bzc1
  go_wp2_with fail
  clear lbx bxc0 bxc1
  clear lbz bzc0 bzc1
  refine (waysR_any bars ss ⟨lo, hi⟩ _ _ _ HF.out hB hS).mono ?_
  rintro e w6 ⟨v4, rfl, hv4, hb⟩
  replace hC : Below n0 w w6 := hC.trans (hb.mono (by have := hC.size; omega))
  replace hB := (RS.below hB hb).more hb.size
  replace hS := (RP.below hS hb).more hb.size
  replace bx := bx.below hb bx.lt
  replace bz := bz.below hb bz.lt
  replace hv1 := (RS.below hv1 hb).more hb.size
  replace hv2 := (RS.below hv2 hb).more hb.size
  replace hv3 := RLi.next hv3 hb
  clear hb
  rw [show (if barsE bars ss ⟨lo, hi⟩ = 0 then wysL bars ⟨lo, hi⟩ ss ss.length else []) = waysL bars ss ⟨lo, hi⟩ from rfl] at hv4
  obtain ⟨A4, c4, rfl⟩ := hv4.slice
  rw [HBE.out]
  have lbx := bx.lt
  have bxc0 := bx.cell 0
  have bxc1 := bx.cell 1
  simp at bxc0 bxc1
  have lbz := bz.lt
  have bzc0 := bz.cell 0
  have bzc1 := bz.cell 1
  simp at bzc0 bzc1
  go_wp2_with fail
  clear lbx bxc0 bxc1
  clear lbz bzc0 bzc1
  refine (countF_any bars ss ⟨lo, hi⟩ _ _ _ HF.out hB hS cnt_few).mono ?_
  rintro e w7 ⟨rfl, hb⟩
  replace hC : Below n0 w w7 := hC.trans (hb.mono (by have := hC.size; omega))
  replace hB := (RS.below hB hb).more hb.size
  replace hS := (RP.below hS hb).more hb.size
  replace bx := bx.below hb bx.lt
  replace bz := bz.below hb bz.lt
  replace hv1 := (RS.below hv1 hb).more hb.size
  replace hv2 := (RS.below hv2 hb).more hb.size
  replace hv3 := RLi.next hv3 hb
  replace hv4 := RLi.next hv4 hb
  clear hb
  obtain ⟨me, hme⟩ : ∃ e, measE bars ss ⟨lo, hi⟩ = e := ⟨_, rfl⟩
  obtain ⟨cn, hcn⟩ : ∃ e, (if measE bars ss ⟨lo, hi⟩ = 0 then ((mkL bars ⟨lo, hi⟩ ss).length : Int) else 0) = e := ⟨_, rfl⟩
  rw [hcn, hme]
  have HME := Lib.hid hme
  have HCN := Lib.hid hcn
  clear hme hcn
  have lbx := bx.lt
  have bxc0 := bx.cell 0
  have bxc1 := bx.cell 1
  simp at bxc0 bxc1
  have lbz := bz.lt
  have bzc0 := bz.cell 0
  have bzc1 := bz.cell 1
  simp at bzc0 bzc1
  go_wp2_with fail
  clear lbx bxc0 bxc1
  clear lbz bzc0 bzc1
  refine (countR_any bars ss ⟨lo, hi⟩ _ _ _ HF.out hB hS).mono ?_
  rintro e w8 ⟨rfl, hb⟩
  replace hC : Below n0 w w8 := hC.trans (hb.mono (by have := hC.size; omega))
  replace hB := (RS.below hB hb).more hb.size
  replace hS := (RP.below hS hb).more hb.size
  replace bx := bx.below hb bx.lt
  replace bz := bz.below hb bz.lt
  replace hv1 := (RS.below hv1 hb).more hb.size
  replace hv2 := (RS.below hv2 hb).more hb.size
  replace hv3 := RLi.next hv3 hb
  replace hv4 := RLi.next hv4 hb
  clear hb
  rw [HCN.out, HME.out]
  have n1 : (be == be) = true := by simp
  have n2 : (cn == cn) = true := by simp
  have n3 : (me == me) = true := by simp
  have lbx := bx.lt
  have bxc0 := bx.cell 0
  have bxc1 := bx.cell 1
  simp at bxc0 bxc1
  have lbz := bz.lt
  have bzc0 := bz.cell 0
  have bzc1 := bz.cell 1
  simp at bzc0 bzc1
  go_wp2_with fail
  clear lbx bxc0 bxc1
  clear lbz bzc0 bzc1
  refine (ints_any _ _ _ _ _ barsL_len barsL_len hv1 hv2).mono ?_
  rintro e w9 ⟨rfl, hb⟩
  replace hC : Below n0 w w9 := hC.trans (hb.mono (by have := hC.size; omega))
  replace hB := (RS.below hB hb).more hb.size
  replace hS := (RP.below hS hb).more hb.size
  replace bx := bx.below hb bx.lt
  replace bz := bz.below hb bz.lt
  replace hv1 := (RS.below hv1 hb).more hb.size
  replace hv2 := (RS.below hv2 hb).more hb.size
  replace hv3 := RLi.next hv3 hb
  replace hv4 := RLi.next hv4 hb
  clear hb
  rw [decide_eq_true rfl]
  go_wp2_with fail
  refine (lists_any _ _ _ _ _ waysL_len waysL_len waysL_few waysL_few hv3 hv4).mono ?_
  rintro e w10 ⟨rfl, hb⟩
  replace hC : Below n0 w w10 := hC.trans (hb.mono (by have := hC.size; omega))
  replace hB := (RS.below hB hb).more hb.size
  replace hS := (RP.below hS hb).more hb.size
  replace bx := bx.below hb bx.lt
  replace bz := bz.below hb bz.lt
  replace hv1 := (RS.below hv1 hb).more hb.size
  replace hv2 := (RS.below hv2 hb).more hb.size
  replace hv3 := RLi.next hv3 hb
  replace hv4 := RLi.next hv4 hb
  clear hb
  rw [decide_eq_true rfl]
  go_wp2_with fail
  refine (works_any _).mono ?_
  rintro e w11 ⟨rfl, hb⟩
  replace hC : Below n0 w w11 := hC.trans (hb.mono (by have := hC.size; omega))
  replace hB := (RS.below hB hb).more hb.size
  replace hS := (RP.below hS hb).more hb.size
  replace bx := bx.below hb bx.lt
  replace bz := bz.below hb bz.lt
  replace hv1 := (RS.below hv1 hb).more hb.size
  replace hv2 := (RS.below hv2 hb).more hb.size
  replace hv3 := RLi.next hv3 hb
  replace hv4 := RLi.next hv4 hb
  clear hb
  go_wp2_with fail
  exact bodyPost_ret (v := .bool true) (by simp [results, Try.results6, go_sem]) rfl ⟨rfl, by first | exact hC | (rw [hn0]; exact hC) | (with_reducible rw [hn0]; exact bel_of) | exact bel_of⟩
end Go.Proofs.Ytkibdciomheekaa

namespace Go.Proofs.Ytkibdciomheekaa.heatMakers
open Go.ChangeShapes Go.WideShapes Go.ChangeAt Go.RowKit Go.Deep

set_option maxRecDepth 100000 in
theorem lifted (os : Os) (started : os.Started) (H : Type) (enc : TypeId × Value → H) :
    ReturnsInHanded {} Try.checked os 6 .any (Rows.heatMakersSpec.pre6 enc Try.prog Try.f6 Rows.heatMakersRow.domain false) (Rows.heatMakersSpec.post enc Try.prog Try.f6 false true false false) := by
  refine returnsInHanded_of_change (C := Try.checked) own started (by kernel_rfl) Try.func6
    (ChangeSpec.witness6 (enc := enc) (C := Try.checked) false ⟨#[], #[.agg #[.slice none 0 0, .slice none 0 0], .agg #[.int .i64 0, .int .i64 0]], []⟩ 8 (by kernel_rfl) (by kernel_rfl) (by kernel_rfl) (by kernel_rfl)) ?_
  intro W base args ds gs before hval0 hW hcnd _
  have hval : ∀ (j : Nat) t v, Try.f6.params[j]? = some t → args[j]? = some v → Value.okWide Try.prog W .any base t v := hval0
  have hW2 : DataW.Whole enc Try.prog Try.f6.params.toList Rows.heatMakersSpec.vars false W args.toList ds gs before := hW
  obtain ⟨p, q, hA0, hV, rfl, hfz, hnd⟩ := hW
  have hA : DataW.TrodAll enc Try.prog W 0 (fun _ => true) true Try.f6.params.toList args.toList ds p := hA0
  rw [Try.params6] at hA hval
  obtain ⟨v0, vs0, d0, ds0, p0, q0, hargs, rfl, rfl, h0, r0⟩ := trodAll_cons hA
  obtain ⟨v1, vs1, d1, ds1, p1, q1, rfl, rfl, rfl, h1, r1⟩ := trodAll_cons r0
  obtain ⟨rfl, rfl, rfl⟩ := trodAll_nil r1
  obtain rfl : args = #[v0, v1] := by cases args; simp_all
  obtain ⟨rfl, rfl⟩ := trodVars_none hV
  obtain ⟨vb0, vs0_, bars0, ss0, rfl, hB0, hS0⟩ := open_works (hval 0 25 v0 rfl rfl) h0
  obtain ⟨lo1, hi1, rfl⟩ := open_rg (hval 1 33 v1 rfl rfl) h1
  refine (heatMakers_any (bars := bars0) (ss := ss0) (vb := vb0) (vs := vs0_) (hB := hB0) (hS := hS0) (lo := lo1) (hi := hi1) (w := W)).mono fun e W' ⟨he, hg⟩ => ?_
  subst he
  exact ⟨_, rfl, law_done hW2 rfl rfl rfl (by rw [Try.params6]; decide +kernel) hg⟩

theorem over : Rows.heatMakersRow.holds Try.pinned (OpenSpec.ofChange Rows.heatMakersSpec) :=
  OpenClaim.holds_of_wide 6 Try.f6 rfl rfl rfl rfl rfl rfl rfl ⟨rfl, rfl, rfl, rfl, rfl⟩ rfl rfl rfl rfl rfl (by kernel_rfl) Try.func6 (by kernel_rfl)
    (of_decide_eq_true (by kernel_rfl)) (by unfold Func.isWrapper; first | (rw [if_pos (by decide +kernel)]; kernel_rfl) | (rw [if_neg (by decide +kernel)]; exact ⟨rfl, rfl⟩))
    (fun os started H enc _ => lifted os started H enc)

theorem proved : Rows.HeatMakersSaid :=
  over
end Go.Proofs.Ytkibdciomheekaa.heatMakers
namespace Go.Proofs.Ytkibdciomheekaa
theorem heatMakers_proved : Rows.HeatMakersSaid := heatMakers.proved
#print axioms heatMakers_proved
end Go.Proofs.Ytkibdciomheekaa
