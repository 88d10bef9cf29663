/- KeenSharps: the walk. KeenSharps: the row. -/
import Derived.Test.YtkljdbgkhghiaaaP27
import Derived.Test.YtkljdbgkhghiaaaP28
import Derived.Test.YtkljdbgkhghiaaaP24
import Derived.Test.YtkljdbgkhghiaaaP21
import Derived.Test.YtkljdbgkhghiaaaP15
import Derived.Test.YtkljdbgkhghiaaaP26
import Derived.Test.YtkljdbgkhghiaaaRows
set_option linter.all false
set_option linter.unnecessarySimpa false
set_option linter.unusedSimpArgs false
set_option linter.unusedVariables false
set_option linter.unusedSectionVars false

set_option linter.all false
namespace Go.Proofs.Ytkljdbgkhghiaaa
open Go.RowKit Kp

set_option maxHeartbeats 8000000 in
set_option maxRecDepth 100000 in
theorem keenSharps_any (E : Int) (ts : List Kt) (v : Value) (n1 : Int) (w : World) (h : RT w w.heap.size v ts) (hE : okI E) (hts : ∀ t ∈ ts, okT t) (hl : ts.length ≤ maxLen) (hn1 : okI n1) :
    Calls Try.prog 5 #[.agg #[.int .i64 E, v], .int .i64 n1] w fun x w' => x = .returned (.bool true) ∧ Below w.heap.size w w' := by
  obtain ⟨b, off, cap, A, rfl, hAx⟩ := h.slice
  clear hAx
  have hR := h
  clear h
  obtain ⟨n0, hn0⟩ : ∃ n, w.heap.size = n := ⟨_, rfl⟩
  have hC : Below n0 w w := Below.refl _ _
  clear hE hts
  go_enter Try.func5, Try.ntmps5
  go_wp2_with fail
  have hqbx : n0 ≤ n0 := by have := hC.size; omega
  have bx : BK (w.alloc (.cells #[.int .i64 E, .slice A ts.length cap] 24)) (n0) #[.int .i64 E, .slice A ts.length cap] 24 := BK.new' _ _ _ (n0) hn0
  have hsbx : (w.alloc (.cells #[.int .i64 E, .slice A ts.length cap] 24)).heap.size = n0 + 1 := by simp [hn0]
  replace hC : Below n0 w (w.alloc (.cells #[.int .i64 E, .slice A ts.length cap] 24)) := Below.alloc hC (by have := hC.size; omega) _
  replace hR := (RS.below hR (w' := (w.alloc (.cells #[.int .i64 E, .slice A ts.length cap] 24))) (Below.alloc (Below.refl _ _) (Nat.le_refl _) _)).more (B' := (w.alloc (.cells #[.int .i64 E, .slice A ts.length cap] 24)).heap.size) (by simp)
  generalize (w.alloc (.cells #[.int .i64 E, .slice A ts.length cap] 24)) = Wbx at *
  clear hsbx
  refine (great_any E ts _ _ hl hR).mono ?_
  rintro e w1 ⟨rfl, hb⟩
  replace hC : Below n0 w w1 := hC.trans (hb.mono (by have := hC.size; omega))
  replace hR := (RS.below hR hb).more hb.size
  replace bx := bx.below hb bx.lt
  clear hb
  by_cases h5 : 50 < ts.length
  case pos =>
    rw [decide_eq_true h5]
    clear h5
    go_wp2_with fail
    refine (works_any _).mono ?_
    rintro e w2 ⟨rfl, hb⟩
    replace hC : Below n0 w w2 := hC.trans (hb.mono (by have := hC.size; omega))
    replace hR := (RS.below hR hb).more hb.size
    replace bx := bx.below hb bx.lt
    clear hb
    go_wp2_with fail
    exact bodyPost_ret (v := .bool true) (by simp [results, Try.results5, go_sem]) rfl ⟨rfl, by first | exact hC | (rw [hn0]; exact hC) | (with_reducible rw [hn0]; exact bel_of) | exact bel_of⟩
  rw [decide_eq_false h5]
  have hl50 : ts.length ≤ 50 := by omega
  clear h5
  have lbx := bx.lt
  have bxc0 := bx.cell 0
  have bxc1 := bx.cell 1
  simp at bxc0 bxc1
  go_wp2_with fail
  clear lbx bxc0 bxc1
  refine (leastP_any E ts _ _ (by omega) hR).mono ?_
  rintro e w2 ⟨v1, rfl, hv1, hb⟩
  replace hC : Below n0 w w2 := hC.trans (hb.mono (by have := hC.size; omega))
  replace hR := (RS.below hR hb).more hb.size
  replace bx := bx.below hb bx.lt
  clear hb
  obtain ⟨A_1, c_1, rfl⟩ := ri_slice hv1
  have lbx := bx.lt
  have bxc0 := bx.cell 0
  have bxc1 := bx.cell 1
  simp at bxc0 bxc1
  go_wp2_with fail
  clear lbx bxc0 bxc1
  refine (leastR_any E ts _ _ (by omega) hR).mono ?_
  rintro e w3 ⟨v2, rfl, hv2, hb⟩
  replace hC : Below n0 w w3 := hC.trans (hb.mono (by have := hC.size; omega))
  replace hR := (RS.below hR hb).more hb.size
  replace bx := bx.below hb bx.lt
  replace hv1 := (RS.below hv1 hb).more hb.size
  clear hb
  obtain ⟨A_2, c_2, rfl⟩ := ri_slice hv2
  have lbx := bx.lt
  have bxc0 := bx.cell 0
  have bxc1 := bx.cell 1
  simp at bxc0 bxc1
  go_wp2_with fail
  clear lbx bxc0 bxc1
  all_goals skip
  refine (sharpP_any E n1 ts _ _ (by omega) hR).mono ?_
  rintro e w4 ⟨rfl, hb⟩
  replace hC : Below n0 w w4 := hC.trans (hb.mono (by have := hC.size; omega))
  replace hR := (RS.below hR hb).more hb.size
  replace bx := bx.below hb bx.lt
  replace hv1 := (RS.below hv1 hb).more hb.size
  replace hv2 := (RS.below hv2 hb).more hb.size
  clear hb
  obtain ⟨x1, y1, e1, hx1⟩ := spanE_form E ts n1.toNat E.toNat (openE E ts (oneE E n1))
  rw [hx1]
  have HX := Lib.hid hx1
  clear hx1
  have lbx := bx.lt
  have bxc0 := bx.cell 0
  have bxc1 := bx.cell 1
  simp at bxc0 bxc1
  go_wp2_with fail
  clear lbx bxc0 bxc1
  obtain ⟨m1, hm1⟩ : ∃ n, w4.heap.size = n := ⟨_, rfl⟩
  try rw [hm1]
  have hqr1 : n0 ≤ m1 := by have := hC.size; omega
  have r1 : BK (w4.alloc (.cells #[.int .i64 x1, .int .i64 y1] 36)) (m1) #[.int .i64 x1, .int .i64 y1] 36 := BK.new' _ _ _ (m1) hm1
  have hsr1 : (w4.alloc (.cells #[.int .i64 x1, .int .i64 y1] 36)).heap.size = m1 + 1 := by simp [hm1]
  replace hC : Below n0 w (w4.alloc (.cells #[.int .i64 x1, .int .i64 y1] 36)) := Below.alloc hC (by have := hC.size; omega) _
  replace hR := (RS.below hR (w' := (w4.alloc (.cells #[.int .i64 x1, .int .i64 y1] 36))) (Below.alloc (Below.refl _ _) (Nat.le_refl _) _)).more (B' := (w4.alloc (.cells #[.int .i64 x1, .int .i64 y1] 36)).heap.size) (by simp)
  replace bx := bx.alloc (.cells #[.int .i64 x1, .int .i64 y1] 36)
  replace hv1 := (RS.below hv1 (w' := (w4.alloc (.cells #[.int .i64 x1, .int .i64 y1] 36))) (Below.alloc (Below.refl _ _) (Nat.le_refl _) _)).more (B' := (w4.alloc (.cells #[.int .i64 x1, .int .i64 y1] 36)).heap.size) (by simp)
  replace hv2 := (RS.below hv2 (w' := (w4.alloc (.cells #[.int .i64 x1, .int .i64 y1] 36))) (Below.alloc (Below.refl _ _) (Nat.le_refl _) _)).more (B' := (w4.alloc (.cells #[.int .i64 x1, .int .i64 y1] 36)).heap.size) (by simp)
  generalize (w4.alloc (.cells #[.int .i64 x1, .int .i64 y1] 36)) = Wr1 at *
  clear hm1
  clear hsr1
  refine (sharpR_any E n1 ts _ _ (by omega) hR).mono ?_
  rintro e w5 ⟨rfl, hb⟩
  replace hC : Below n0 w w5 := hC.trans (hb.mono (by have := hC.size; omega))
  replace hR := (RS.below hR hb).more hb.size
  replace bx := bx.below hb bx.lt
  replace hv1 := (RS.below hv1 hb).more hb.size
  replace hv2 := (RS.below hv2 hb).more hb.size
  replace r1 := r1.below hb r1.lt
  clear hb
  rw [HX.out]
  have lbx := bx.lt
  have bxc0 := bx.cell 0
  have bxc1 := bx.cell 1
  simp at bxc0 bxc1
  go_upto_region 7 with fail
  clear lbx bxc0 bxc1
  obtain ⟨m2, hm2⟩ : ∃ n, w5.heap.size = n := ⟨_, rfl⟩
  try rw [hm2]
  have hqr2 : n0 ≤ m2 := by have := hC.size; omega
  have r2 : BK (w5.alloc (.cells #[.int .i64 x1, .int .i64 y1] 36)) (m2) #[.int .i64 x1, .int .i64 y1] 36 := BK.new' _ _ _ (m2) hm2
  have hsr2 : (w5.alloc (.cells #[.int .i64 x1, .int .i64 y1] 36)).heap.size = m2 + 1 := by simp [hm2]
  replace hC : Below n0 w (w5.alloc (.cells #[.int .i64 x1, .int .i64 y1] 36)) := Below.alloc hC (by have := hC.size; omega) _
  replace hR := (RS.below hR (w' := (w5.alloc (.cells #[.int .i64 x1, .int .i64 y1] 36))) (Below.alloc (Below.refl _ _) (Nat.le_refl _) _)).more (B' := (w5.alloc (.cells #[.int .i64 x1, .int .i64 y1] 36)).heap.size) (by simp)
  replace bx := bx.alloc (.cells #[.int .i64 x1, .int .i64 y1] 36)
  replace hv1 := (RS.below hv1 (w' := (w5.alloc (.cells #[.int .i64 x1, .int .i64 y1] 36))) (Below.alloc (Below.refl _ _) (Nat.le_refl _) _)).more (B' := (w5.alloc (.cells #[.int .i64 x1, .int .i64 y1] 36)).heap.size) (by simp)
  replace hv2 := (RS.below hv2 (w' := (w5.alloc (.cells #[.int .i64 x1, .int .i64 y1] 36))) (Below.alloc (Below.refl _ _) (Nat.le_refl _) _)).more (B' := (w5.alloc (.cells #[.int .i64 x1, .int .i64 y1] 36)).heap.size) (by simp)
  replace r1 := r1.alloc (.cells #[.int .i64 x1, .int .i64 y1] 36)
  generalize (w5.alloc (.cells #[.int .i64 x1, .int .i64 y1] 36)) = Wr2 at *
  clear hm2
  go_wp2_with fail
  clear hsr2
  refine (longs_any _ _ _ _ _ (listE_len leastP_len) (listE_len leastP_len) hv1 hv2).mono ?_
  rintro e w6 ⟨rfl, hb⟩
  replace hC : Below n0 w w6 := hC.trans (hb.mono (by have := hC.size; omega))
  replace hR := (RS.below hR hb).more hb.size
  replace bx := bx.below hb bx.lt
  replace hv1 := (RS.below hv1 hb).more hb.size
  replace hv2 := (RS.below hv2 hb).more hb.size
  replace r1 := r1.below hb r1.lt
  replace r2 := r2.below hb r2.lt
  clear hb
  rw [decide_eq_true rfl]
  have lr1 := r1.lt
  have r1c0 := r1.cell 0
  have r1c1 := r1.cell 1
  simp at r1c0 r1c1
  have lr2 := r2.lt
  have r2c0 := r2.cell 0
  have r2c1 := r2.cell 1
  simp at r2c0 r2c1
  go_wp2_with fail
  clear lr1 r1c0 r1c1
  clear lr2 r2c0 r2c1
  refine (works_any _).mono ?_
  rintro e w7 ⟨rfl, hb⟩
  replace hC : Below n0 w w7 := hC.trans (hb.mono (by have := hC.size; omega))
  replace hR := (RS.below hR hb).more hb.size
  replace bx := bx.below hb bx.lt
  replace hv1 := (RS.below hv1 hb).more hb.size
  replace hv2 := (RS.below hv2 hb).more hb.size
  replace r1 := r1.below hb r1.lt
  replace r2 := r2.below hb r2.lt
  clear hb
  go_wp2_with fail
  exact bodyPost_ret (v := .bool true) (by simp [results, Try.results5, go_sem]) rfl ⟨rfl, by first | exact hC | (rw [hn0]; exact hC) | (with_reducible rw [hn0]; exact bel_of) | exact bel_of⟩
end Go.Proofs.Ytkljdbgkhghiaaa

namespace Go.Proofs.Ytkljdbgkhghiaaa.keenSharps
open Go.ChangeShapes Go.WideShapes Go.ChangeAt Go.RowKit Go.Deep

set_option maxRecDepth 100000 in
theorem lifted (os : Os) (started : os.Started) (H : Type) (enc : TypeId × Value → H) :
    ReturnsInHanded {} Try.checked os 5 .any (Rows.keenSharpsSpec.pre6 enc Try.prog Try.f5 Rows.keenSharpsRow.domain false) (Rows.keenSharpsSpec.post enc Try.prog Try.f5 false true false false) := by
  refine returnsInHanded_of_change (C := Try.checked) own started (by kernel_rfl) Try.func5
    (ChangeSpec.witness6 (enc := enc) (C := Try.checked) false ⟨#[], #[.agg #[.int .i64 0, .slice none 0 0], .int .i64 0], []⟩ 8 (by kernel_rfl) (by kernel_rfl) (by kernel_rfl) (by kernel_rfl)) ?_
  intro W base args ds gs before hval0 hW hcnd _
  have hval : ∀ (j : Nat) t v, Try.f5.params[j]? = some t → args[j]? = some v → Value.okWide Try.prog W .any base t v := hval0
  have hW2 : DataW.Whole enc Try.prog Try.f5.params.toList Rows.keenSharpsSpec.vars false W args.toList ds gs before := hW
  obtain ⟨p, q, hA0, hV, rfl, hfz, hnd⟩ := hW
  have hA : DataW.TrodAll enc Try.prog W 0 (fun _ => true) true Try.f5.params.toList args.toList ds p := hA0
  rw [Try.params5] at hA hval
  obtain ⟨v0, vs0, d0, ds0, p0, q0, hargs, rfl, rfl, h0, r0⟩ := trodAll_cons hA
  obtain ⟨v1, vs1, d1, ds1, p1, q1, rfl, rfl, rfl, h1, r1⟩ := trodAll_cons r0
  obtain ⟨rfl, rfl, rfl⟩ := trodAll_nil r1
  obtain rfl : args = #[v0, v1] := by cases args; simp_all
  obtain ⟨rfl, rfl⟩ := trodVars_none hV
  obtain ⟨E0, s0, l0, rfl, g0, k0, n0, m0⟩ := open_book (hval 0 24 v0 rfl rfl) h0
  obtain ⟨l1, rfl, rfl, rfl, g1⟩ := open_int Try.underlying3 (hval 1 3 v1 rfl rfl) h1
  refine (keenSharps_any (E := E0) (ts := l0) (v := s0) (h := g0) (hE := k0) (hts := n0) (hl := m0) (n1 := l1) (hn1 := okI_wf g1) (w := W)).mono fun e W' ⟨he, hg⟩ => ?_
  subst he
  exact ⟨_, rfl, law_done hW2 rfl rfl rfl (by rw [Try.params5]; decide +kernel) hg⟩

theorem over : Rows.keenSharpsRow.holds Try.pinned (OpenSpec.ofChange Rows.keenSharpsSpec) :=
  OpenClaim.holds_of_wide 5 Try.f5 rfl rfl rfl rfl rfl rfl rfl ⟨rfl, rfl, rfl, rfl, rfl⟩ rfl rfl rfl rfl rfl (by kernel_rfl) Try.func5 (by kernel_rfl)
    (of_decide_eq_true (by kernel_rfl)) (by unfold Func.isWrapper; first | (rw [if_pos (by decide +kernel)]; kernel_rfl) | (rw [if_neg (by decide +kernel)]; exact ⟨rfl, rfl⟩))
    (fun os started H enc _ => lifted os started H enc)

theorem proved : Rows.KeenSharpsSaid :=
  over
end Go.Proofs.Ytkljdbgkhghiaaa.keenSharps
namespace Go.Proofs.Ytkljdbgkhghiaaa
theorem keenSharps_proved : Rows.KeenSharpsSaid := keenSharps.proved
#print axioms keenSharps_proved
end Go.Proofs.Ytkljdbgkhghiaaa
