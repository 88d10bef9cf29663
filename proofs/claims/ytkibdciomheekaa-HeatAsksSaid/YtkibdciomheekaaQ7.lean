/- HeatAsks: the walk. What to ask for, and how many recipes are left at worst then, are what the definitions say, or the error; for every works of at most 400 recipes, and anything that was measured. -/
import Derived.Test.YtkibdciomheekaaQ7a
import Derived.Test.YtkibdciomheekaaRows
import Derived.Test.YtkibdciomheekaaP29
set_option linter.all false
set_option linter.unnecessarySimpa false
set_option linter.unusedSimpArgs false
set_option linter.unusedVariables false
set_option linter.unusedSectionVars false

set_option linter.all false
namespace Go.Proofs.Ytkibdciomheekaa
open Go.RowKit Hp

set_option maxHeartbeats 8000000 in
set_option maxRecDepth 100000 in
theorem heatAsks_any (bars : List Rg) (ss : List Stp) (vb vs : Value) (lo hi : Int) (w : World) (hB : RR w w.heap.size vb bars) (hS : RP w w.heap.size vs ss) :
    Calls Try.prog 7 #[.agg #[vb, vs], .agg #[.int .i64 lo, .int .i64 hi]] w fun x w' => x = .returned (.bool true) ∧ Below w.heap.size w w' := by
  obtain ⟨Ab, cb, rfl⟩ := hB.slice
  obtain ⟨As, cs, rfl⟩ := hS.slice
  obtain ⟨n0, hn0⟩ : ∃ n, w.heap.size = n := ⟨_, rfl⟩
  have hC : Below n0 w w := Below.refl _ _
  go_enter Try.func7, Try.ntmps7
  go_upto_region 1 with fail
  have hqbx : n0 ≤ n0 := by have := hC.size; omega
  have bx : BK (w.alloc (.cells #[.slice Ab bars.length cb, .slice As ss.length cs] 25)) (n0) #[.slice Ab bars.length cb, .slice As ss.length cs] 25 := BK.new' _ _ _ (n0) hn0
  have hsbx : (w.alloc (.cells #[.slice Ab bars.length cb, .slice As ss.length cs] 25)).heap.size = n0 + 1 := by simp [hn0]
  replace hC : Below n0 w (w.alloc (.cells #[.slice Ab bars.length cb, .slice As ss.length cs] 25)) := Below.alloc hC (by have := hC.size; omega) _
  replace hB := (RS.below hB (w' := (w.alloc (.cells #[.slice Ab bars.length cb, .slice As ss.length cs] 25))) (Below.alloc (Below.refl _ _) (Nat.le_refl _) _)).more (B' := (w.alloc (.cells #[.slice Ab bars.length cb, .slice As ss.length cs] 25)).heap.size) (by simp)
  replace hS := (RP.below hS (w' := (w.alloc (.cells #[.slice Ab bars.length cb, .slice As ss.length cs] 25))) (Below.alloc (Below.refl _ _) (Nat.le_refl _) _)).more (B' := (w.alloc (.cells #[.slice Ab bars.length cb, .slice As ss.length cs] 25)).heap.size) (by simp)
  generalize (w.alloc (.cells #[.slice Ab bars.length cb, .slice As ss.length cs] 25)) = Wbx at *
  have hqbz : n0 ≤ n0 + 1 := by have := hC.size; omega
  have bz : BK (Wbx.alloc (.cells #[.int .i64 lo, .int .i64 hi] 33)) (n0 + 1) #[.int .i64 lo, .int .i64 hi] 33 := BK.new' _ _ _ (n0 + 1) hsbx
  have hsbz : (Wbx.alloc (.cells #[.int .i64 lo, .int .i64 hi] 33)).heap.size = n0 + 1 + 1 := by simp [hsbx]
  replace hC : Below n0 w (Wbx.alloc (.cells #[.int .i64 lo, .int .i64 hi] 33)) := Below.alloc hC (by have := hC.size; omega) _
  replace hB := (RS.below hB (w' := (Wbx.alloc (.cells #[.int .i64 lo, .int .i64 hi] 33))) (Below.alloc (Below.refl _ _) (Nat.le_refl _) _)).more (B' := (Wbx.alloc (.cells #[.int .i64 lo, .int .i64 hi] 33)).heap.size) (by simp)
  replace hS := (RP.below hS (w' := (Wbx.alloc (.cells #[.int .i64 lo, .int .i64 hi] 33))) (Below.alloc (Below.refl _ _) (Nat.le_refl _) _)).more (B' := (Wbx.alloc (.cells #[.int .i64 lo, .int .i64 hi] 33)).heap.size) (by simp)
  replace bx := bx.alloc (.cells #[.int .i64 lo, .int .i64 hi] 33)
  generalize (Wbx.alloc (.cells #[.int .i64 lo, .int .i64 hi] 33)) = Wbz at *
  clear hsbx
  have lbx := bx.lt
  have bxc0 := bx.cell 0
  have bxc1 := bx.cell 1
  simp at bxc0 bxc1
  go_wp2_with fail
  clear lbx bxc0 bxc1
  clear hsbz
  refine (great_any bars ss _ _ _ hB hS).mono ?_
  rintro e w1 ⟨q, rfl, hq, hb⟩
  replace hC : Below n0 w w1 := hC.trans (hb.mono (by have := hC.size; omega))
  replace hB := (RS.below hB hb).more hb.size
  replace hS := (RP.below hS hb).more hb.size
  replace bx := bx.below hb bx.lt
  replace bz := bz.below hb bz.lt
  clear hb
  cases q
  case true =>
    clear hq
    go_wp2_with fail
    refine (works_any _).mono ?_
    rintro e w2 ⟨rfl, hb⟩
    replace hC : Below n0 w w2 := hC.trans (hb.mono (by have := hC.size; omega))
    replace hB := (RS.below hB hb).more hb.size
    replace hS := (RP.below hS hb).more hb.size
    replace bx := bx.below hb bx.lt
    replace bz := bz.below hb bz.lt
    clear hb
    go_wp2_with fail
    exact bodyPost_ret (v := .bool true) (by simp [results, Try.results7, go_sem]) rfl ⟨rfl, by first | exact hC | (rw [hn0]; exact hC) | (with_reducible rw [hn0]; exact bel_of) | exact bel_of⟩
  have HF := Lib.hid (great_fit (show ¬ greatP bars ss from fun h => Bool.noConfusion (hq.2 h)))
  clear hq
  have lbx := bx.lt
  have bxc0 := bx.cell 0
  have bxc1 := bx.cell 1
  simp at bxc0 bxc1
  go_wp2_with fail
  clear lbx bxc0 bxc1
  refine (full_any bars ss _ _ _ HF.out hB hS).mono ?_
  rintro e w2 ⟨q, rfl, hq, hb⟩
  replace hC : Below n0 w w2 := hC.trans (hb.mono (by have := hC.size; omega))
  replace hB := (RS.below hB hb).more hb.size
  replace hS := (RP.below hS hb).more hb.size
  replace bx := bx.below hb bx.lt
  replace bz := bz.below hb bz.lt
  clear hb
  cases q
  case true =>
    clear hq
    go_wp2_with fail
    refine (works_any _).mono ?_
    rintro e w3 ⟨rfl, hb⟩
    replace hC : Below n0 w w3 := hC.trans (hb.mono (by have := hC.size; omega))
    replace hB := (RS.below hB hb).more hb.size
    replace hS := (RP.below hS hb).more hb.size
    replace bx := bx.below hb bx.lt
    replace bz := bz.below hb bz.lt
    clear hb
    go_wp2_with fail
    exact bodyPost_ret (v := .bool true) (by simp [results, Try.results7, go_sem]) rfl ⟨rfl, by first | exact hC | (rw [hn0]; exact hC) | (with_reducible rw [hn0]; exact bel_of) | exact bel_of⟩
  clear hq
  have lbx := bx.lt
  have bxc0 := bx.cell 0
  have bxc1 := bx.cell 1
  simp at bxc0 bxc1
  have lbz := bz.lt
  have bzc0 := bz.cell 0
  have bzc1 := bz.cell 1
  simp at bzc0 bzc1
  go_wp2_with fail
  clear lbx bxc0 bxc1
  clear lbz bzc0 bzc1
  refine (askF_any bars ss ⟨lo, hi⟩ _ _ _ HF.out hB hS).mono ?_
  rintro e w3 ⟨rfl, hb⟩
  replace hC : Below n0 w w3 := hC.trans (hb.mono (by have := hC.size; omega))
  replace hB := (RS.below hB hb).more hb.size
  replace hS := (RP.below hS hb).more hb.size
  replace bx := bx.below hb bx.lt
  replace bz := bz.below hb bz.lt
  clear hb
  obtain ⟨be, hbe⟩ : ∃ e, barsE bars ss ⟨lo, hi⟩ = e := ⟨_, rfl⟩
  obtain ⟨⟨ql, qh⟩, hq⟩ : ∃ q, askQ bars ss ⟨lo, hi⟩ = q := ⟨_, rfl⟩
  rw [hbe, hq]
  have HBE := Lib.hid hbe
  have HQ := Lib.hid hq
  clear hbe hq
  have lbx := bx.lt
  have bxc0 := bx.cell 0
  have bxc1 := bx.cell 1
  simp at bxc0 bxc1
  have lbz := bz.lt
  have bzc0 := bz.cell 0
  have bzc1 := bz.cell 1
  simp at bzc0 bzc1
  go_wp2_with fail
  clear lbx bxc0 bxc1
  clear lbz bzc0 bzc1
  refine (askR_any bars ss ⟨lo, hi⟩ _ _ _ HF.out hB hS).mono ?_
  rintro e w4 ⟨rfl, hb⟩
  replace hC : Below n0 w w4 := hC.trans (hb.mono (by have := hC.size; omega))
  replace hB := (RS.below hB hb).more hb.size
  replace hS := (RP.below hS hb).more hb.size
  replace bx := bx.below hb bx.lt
  replace bz := bz.below hb bz.lt
  clear hb
  rw [HBE.out, HQ.out]
  have n1 : (be == be) = true := by simp
  have n2 : (ql == ql) = true := by simp
  have n3 : (qh == qh) = true := by simp
  have lbx := bx.lt
  have bxc0 := bx.cell 0
  have bxc1 := bx.cell 1
  simp at bxc0 bxc1
  have lbz := bz.lt
  have bzc0 := bz.cell 0
  have bzc1 := bz.cell 1
  simp at bzc0 bzc1
  go_wp2_with fail
  clear lbx bxc0 bxc1
  clear lbz bzc0 bzc1
  refine (works_any _).mono ?_
  rintro e w5 ⟨rfl, hb⟩
  replace hC : Below n0 w w5 := hC.trans (hb.mono (by have := hC.size; omega))
  replace hB := (RS.below hB hb).more hb.size
  replace hS := (RP.below hS hb).more hb.size
  replace bx := bx.below hb bx.lt
  replace bz := bz.below hb bz.lt
  clear hb
  go_wp2_with fail
  exact bodyPost_ret (v := .bool true) (by simp [results, Try.results7, go_sem]) rfl ⟨rfl, by first | exact hC | (rw [hn0]; exact hC) | (with_reducible rw [hn0]; exact bel_of) | exact bel_of⟩
end Go.Proofs.Ytkibdciomheekaa

namespace Go.Proofs.Ytkibdciomheekaa.heatAsks
open Go.ChangeShapes Go.WideShapes Go.ChangeAt Go.RowKit Go.Deep

set_option maxRecDepth 100000 in
theorem lifted (os : Os) (started : os.Started) (H : Type) (enc : TypeId × Value → H) :
    ReturnsInHanded {} Try.checked os 7 .any (Rows.heatAsksSpec.pre6 enc Try.prog Try.f7 Rows.heatAsksRow.domain false) (Rows.heatAsksSpec.post enc Try.prog Try.f7 false true false false) := by
  refine returnsInHanded_of_change (C := Try.checked) own started (by kernel_rfl) Try.func7
    (ChangeSpec.witness6 (enc := enc) (C := Try.checked) false ⟨#[], #[.agg #[.slice none 0 0, .slice none 0 0], .agg #[.int .i64 0, .int .i64 0]], []⟩ 8 (by kernel_rfl) (by kernel_rfl) (by kernel_rfl) (by kernel_rfl)) ?_
  intro W base args ds gs before hval0 hW hcnd _
  have hval : ∀ (j : Nat) t v, Try.f7.params[j]? = some t → args[j]? = some v → Value.okWide Try.prog W .any base t v := hval0
  have hW2 : DataW.Whole enc Try.prog Try.f7.params.toList Rows.heatAsksSpec.vars false W args.toList ds gs before := hW
  obtain ⟨p, q, hA0, hV, rfl, hfz, hnd⟩ := hW
  have hA : DataW.TrodAll enc Try.prog W 0 (fun _ => true) true Try.f7.params.toList args.toList ds p := hA0
  rw [Try.params7] at hA hval
  obtain ⟨v0, vs0, d0, ds0, p0, q0, hargs, rfl, rfl, h0, r0⟩ := trodAll_cons hA
  obtain ⟨v1, vs1, d1, ds1, p1, q1, rfl, rfl, rfl, h1, r1⟩ := trodAll_cons r0
  obtain ⟨rfl, rfl, rfl⟩ := trodAll_nil r1
  obtain rfl : args = #[v0, v1] := by cases args; simp_all
  obtain ⟨rfl, rfl⟩ := trodVars_none hV
  obtain ⟨vb0, vs0_, bars0, ss0, rfl, hB0, hS0⟩ := open_works (hval 0 25 v0 rfl rfl) h0
  obtain ⟨lo1, hi1, rfl⟩ := open_rg (hval 1 33 v1 rfl rfl) h1
  refine (heatAsks_any (bars := bars0) (ss := ss0) (vb := vb0) (vs := vs0_) (hB := hB0) (hS := hS0) (lo := lo1) (hi := hi1) (w := W)).mono fun e W' ⟨he, hg⟩ => ?_
  subst he
  exact ⟨_, rfl, law_done hW2 rfl rfl rfl (by rw [Try.params7]; decide +kernel) hg⟩

theorem over : Rows.heatAsksRow.holds Try.pinned (OpenSpec.ofChange Rows.heatAsksSpec) :=
  OpenClaim.holds_of_wide 7 Try.f7 rfl rfl rfl rfl rfl rfl rfl ⟨rfl, rfl, rfl, rfl, rfl⟩ rfl rfl rfl rfl rfl (by kernel_rfl) Try.func7 (by kernel_rfl)
    (of_decide_eq_true (by kernel_rfl)) (by unfold Func.isWrapper; first | (rw [if_pos (by decide +kernel)]; kernel_rfl) | (rw [if_neg (by decide +kernel)]; exact ⟨rfl, rfl⟩))
    (fun os started H enc _ => lifted os started H enc)

theorem proved : Rows.HeatAsksSaid :=
  over
end Go.Proofs.Ytkibdciomheekaa.heatAsks
namespace Go.Proofs.Ytkibdciomheekaa
theorem heatAsks_proved : Rows.HeatAsksSaid := heatAsks.proved
#print axioms heatAsks_proved
end Go.Proofs.Ytkibdciomheekaa
