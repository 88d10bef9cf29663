/- What has been had after each step (Had), for the program. What was measured, and whether a recipe can have made a blade, for the reference. -/
import Derived.Test.YtkibdciomheekaaP13
set_option linter.all false
set_option linter.unnecessarySimpa false
set_option linter.unusedSimpArgs false
set_option linter.unusedVariables false
set_option linter.unusedSectionVars false

set_option linter.all false
namespace Go.Proofs.Ytkibdciomheekaa
open Go.RowKit Hp

/-- The error of what has been had: of the recipe, of what was measured, or that it cannot be. -/
def hadE (bars : List Rg) (ss : List Stp) (b : Int) (ks : List Int) (m : Rg) : Int :=
  if recE bars ss b ks ≠ 0 then recE bars ss b ks else if hard m = false then 2 else if meets (endR (nthB bars b.toNat) (pick ss (nats ks))) m then 0 else 17
def hadV (bars : List Rg) (ss : List Stp) (b : Int) (ks : List Int) (m : Rg) : List Rg := if hadE bars ss b ks m = 0 then hadL (nthB bars b.toNat) (pick ss (nats ks)) m else []
theorem hadE_rec {bars : List Rg} {ss : List Stp} {b e : Int} {ks : List Int} {m : Rg} (h : recE bars ss b ks = e) (h0 : e ≠ 0) : hadE bars ss b ks m = e := by unfold hadE; rw [h, if_pos h0]
theorem hadE_hard {bars : List Rg} {ss : List Stp} {b : Int} {ks : List Int} {m : Rg} (h : recE bars ss b ks = 0) (h2 : hard m = false) : hadE bars ss b ks m = 2 := by unfold hadE; rw [h, if_neg (by simp), if_pos h2]
theorem hadE_soft {bars : List Rg} {ss : List Stp} {b : Int} {ks : List Int} {m : Rg} (h : recE bars ss b ks = 0) (h2 : hard m = true) (h3 : meets (endR (nthB bars b.toNat) (pick ss (nats ks))) m = false) : hadE bars ss b ks m = 17 := by unfold hadE; rw [h, if_neg (by simp), if_neg (by rw [h2]; simp), if_neg (by rw [h3]; simp)]
theorem hadE_ok {bars : List Rg} {ss : List Stp} {b : Int} {ks : List Int} {m : Rg} (h : recE bars ss b ks = 0) (h2 : hard m = true) (h3 : meets (endR (nthB bars b.toNat) (pick ss (nats ks))) m = true) : hadE bars ss b ks m = 0 := by unfold hadE; rw [h, if_neg (by simp), if_neg (by rw [h2]; simp), if_pos h3]
theorem of_hadE {bars : List Rg} {ss : List Stp} {b : Int} {ks : List Int} {m : Rg} (h : hadE bars ss b ks m = 0) : OkRec bars ss b ks ∧ OkR m ∧ meets (endR (nthB bars b.toNat) (pick ss (nats ks))) m = true := by
  unfold hadE at h
  split at h
  · rename_i h1; exact absurd h h1
  · rename_i h1
    split at h
    · cases h
    · rename_i h2
      split at h
      · rename_i h3; exact ⟨okRec_of (by omega), hard_iff.1 (by simpa using h2), h3⟩
      · cases h
def HadXPost (bars : List Rg) (ss : List Stp) (b : Int) (ks : List Int) (m : Rg) (w : World) (e : Ending) (w' : World) : Prop :=
  ∃ v, e = .returned (.tuple #[v, .int .i64 (hadE bars ss b ks m)]) ∧ RR w' w'.heap.size v (hadV bars ss b ks m) ∧ Below w.heap.size w w'
theorem HadXPost.no {bars : List Rg} {ss : List Stp} {b e : Int} {ks : List Int} {m : Rg} {w w' : World} (h : hadE bars ss b ks m = e) (h0 : e ≠ 0) (hb : Below w.heap.size w w') : HadXPost bars ss b ks m w (.returned (.tuple #[.slice none 0 0, .int .i64 e])) w' :=
  ⟨_, by rw [h], by unfold hadV; rw [if_neg (by rw [h]; exact h0)]; exact rr_nil _ _, hb⟩
theorem HadXPost.yes {bars : List Rg} {ss : List Stp} {b : Int} {ks : List Int} {m : Rg} {w w' : World} {v : Value} (h : hadE bars ss b ks m = 0) (hr : RR w' w'.heap.size v (hadL (nthB bars b.toNat) (pick ss (nats ks)) m)) (hb : Below w.heap.size w w') : HadXPost bars ss b ks m w (.returned (.tuple #[v, .int .i64 0])) w' :=
  ⟨v, by rw [h], by unfold hadV; rw [if_pos h]; exact hr, hb⟩

set_option maxHeartbeats 8000000 in
set_option maxRecDepth 100000 in
theorem hadX_any (bars : List Rg) (ss : List Stp) (b : Int) (ks : List Int) (m : Rg) (vb vs vk : Value) (w : World) (hf : Fit bars ss) (hkl : ks.length ≤ 1000) (hB : RR w w.heap.size vb bars) (hS : RP w w.heap.size vs ss) (hR : RI w w.heap.size vk ks) :
    Calls Try.prog 28 #[.agg #[vb, vs], .agg #[.int .i64 b, vk], rV m] w (HadXPost bars ss b ks m w) := by
  have HF := Lib.hid hf
  have hfb := hf.b
  have hfs := hf.s
  clear hf
  obtain ⟨Ab, cb, rfl⟩ := hB.slice
  obtain ⟨As, cs, rfl⟩ := hS.slice
  obtain ⟨Ak, ck, rfl⟩ : ∃ A c, vk = .slice A ks.length c := by
    obtain ⟨A, c, b, o, hv, _⟩ := hR
    exact ⟨A, c, hv⟩
  obtain ⟨mlo, mhi⟩ := m
  unfold rV
  obtain ⟨n0, hn0⟩ : ∃ n, w.heap.size = n := ⟨_, rfl⟩
  have hC : Below n0 w w := Below.refl _ _
  go_enter Try.func28, Try.ntmps28
  go_upto_region 1 with fail
  have hqbx : n0 ≤ n0 := by have := hC.size; omega
  have bx : BK (w.alloc (.cells #[.slice Ab bars.length cb, .slice As ss.length cs] 25)) (n0) #[.slice Ab bars.length cb, .slice As ss.length cs] 25 := BK.new' _ _ _ (n0) hn0
  have hsbx : (w.alloc (.cells #[.slice Ab bars.length cb, .slice As ss.length cs] 25)).heap.size = n0 + 1 := by simp [hn0]
  replace hC : Below n0 w (w.alloc (.cells #[.slice Ab bars.length cb, .slice As ss.length cs] 25)) := Below.alloc hC (by have := hC.size; omega) _
  replace hB := (RS.below hB (w' := (w.alloc (.cells #[.slice Ab bars.length cb, .slice As ss.length cs] 25))) (Below.alloc (Below.refl _ _) (Nat.le_refl _) _)).more (B' := (w.alloc (.cells #[.slice Ab bars.length cb, .slice As ss.length cs] 25)).heap.size) (by simp)
  replace hS := (RP.below hS (w' := (w.alloc (.cells #[.slice Ab bars.length cb, .slice As ss.length cs] 25))) (Below.alloc (Below.refl _ _) (Nat.le_refl _) _)).more (B' := (w.alloc (.cells #[.slice Ab bars.length cb, .slice As ss.length cs] 25)).heap.size) (by simp)
  replace hR := (RS.below hR (w' := (w.alloc (.cells #[.slice Ab bars.length cb, .slice As ss.length cs] 25))) (Below.alloc (Below.refl _ _) (Nat.le_refl _) _)).more (B' := (w.alloc (.cells #[.slice Ab bars.length cb, .slice As ss.length cs] 25)).heap.size) (by simp)
  generalize (w.alloc (.cells #[.slice Ab bars.length cb, .slice As ss.length cs] 25)) = Wbx at *
  have hqcx : n0 ≤ n0 + 1 := by have := hC.size; omega
  have cx : BK (Wbx.alloc (.cells #[.int .i64 b, .slice Ak ks.length ck] 42)) (n0 + 1) #[.int .i64 b, .slice Ak ks.length ck] 42 := BK.new' _ _ _ (n0 + 1) hsbx
  have hscx : (Wbx.alloc (.cells #[.int .i64 b, .slice Ak ks.length ck] 42)).heap.size = n0 + 1 + 1 := by simp [hsbx]
  replace hC : Below n0 w (Wbx.alloc (.cells #[.int .i64 b, .slice Ak ks.length ck] 42)) := Below.alloc hC (by have := hC.size; omega) _
  replace hB := (RS.below hB (w' := (Wbx.alloc (.cells #[.int .i64 b, .slice Ak ks.length ck] 42))) (Below.alloc (Below.refl _ _) (Nat.le_refl _) _)).more (B' := (Wbx.alloc (.cells #[.int .i64 b, .slice Ak ks.length ck] 42)).heap.size) (by simp)
  replace hS := (RP.below hS (w' := (Wbx.alloc (.cells #[.int .i64 b, .slice Ak ks.length ck] 42))) (Below.alloc (Below.refl _ _) (Nat.le_refl _) _)).more (B' := (Wbx.alloc (.cells #[.int .i64 b, .slice Ak ks.length ck] 42)).heap.size) (by simp)
  replace hR := (RS.below hR (w' := (Wbx.alloc (.cells #[.int .i64 b, .slice Ak ks.length ck] 42))) (Below.alloc (Below.refl _ _) (Nat.le_refl _) _)).more (B' := (Wbx.alloc (.cells #[.int .i64 b, .slice Ak ks.length ck] 42)).heap.size) (by simp)
  replace bx := bx.alloc (.cells #[.int .i64 b, .slice Ak ks.length ck] 42)
  generalize (Wbx.alloc (.cells #[.int .i64 b, .slice Ak ks.length ck] 42)) = Wcx at *
  clear hsbx
  have hqmx : n0 ≤ n0 + 1 + 1 := by have := hC.size; omega
  have mx : BK (Wcx.alloc (.cells #[.int .i64 mlo, .int .i64 mhi] 33)) (n0 + 1 + 1) #[.int .i64 mlo, .int .i64 mhi] 33 := BK.new' _ _ _ (n0 + 1 + 1) hscx
  have hsmx : (Wcx.alloc (.cells #[.int .i64 mlo, .int .i64 mhi] 33)).heap.size = n0 + 1 + 1 + 1 := by simp [hscx]
  replace hC : Below n0 w (Wcx.alloc (.cells #[.int .i64 mlo, .int .i64 mhi] 33)) := Below.alloc hC (by have := hC.size; omega) _
  replace hB := (RS.below hB (w' := (Wcx.alloc (.cells #[.int .i64 mlo, .int .i64 mhi] 33))) (Below.alloc (Below.refl _ _) (Nat.le_refl _) _)).more (B' := (Wcx.alloc (.cells #[.int .i64 mlo, .int .i64 mhi] 33)).heap.size) (by simp)
  replace hS := (RP.below hS (w' := (Wcx.alloc (.cells #[.int .i64 mlo, .int .i64 mhi] 33))) (Below.alloc (Below.refl _ _) (Nat.le_refl _) _)).more (B' := (Wcx.alloc (.cells #[.int .i64 mlo, .int .i64 mhi] 33)).heap.size) (by simp)
  replace hR := (RS.below hR (w' := (Wcx.alloc (.cells #[.int .i64 mlo, .int .i64 mhi] 33))) (Below.alloc (Below.refl _ _) (Nat.le_refl _) _)).more (B' := (Wcx.alloc (.cells #[.int .i64 mlo, .int .i64 mhi] 33)).heap.size) (by simp)
  replace bx := bx.alloc (.cells #[.int .i64 mlo, .int .i64 mhi] 33)
  replace cx := cx.alloc (.cells #[.int .i64 mlo, .int .i64 mhi] 33)
  generalize (Wcx.alloc (.cells #[.int .i64 mlo, .int .i64 mhi] 33)) = Wmx at *
  clear hscx
  have lbx := bx.lt
  have bxc0 := bx.cell 0
  have bxc1 := bx.cell 1
  simp at bxc0 bxc1
  have lcx := cx.lt
  have cxc0 := cx.cell 0
  have cxc1 := cx.cell 1
  simp at cxc0 cxc1
  go_wp2_with fail
  clear lbx bxc0 bxc1
  clear lcx cxc0 cxc1
  clear hsmx
  refine (open_any bars ss b ks _ _ _ _ HF.out hkl hB hS hR).mono ?_
  rintro e w1 ⟨v, rfl, hv, hv0, hb⟩
  replace hC : Below n0 w w1 := hC.trans (hb.mono (by have := hC.size; omega))
  replace hB := (RS.below hB hb).more hb.size
  replace hS := (RP.below hS hb).more hb.size
  replace hR := (RS.below hR hb).more hb.size
  replace bx := bx.below hb bx.lt
  replace cx := cx.below hb cx.lt
  replace mx := mx.below hb mx.lt
  clear hb
  obtain ⟨e, he⟩ : ∃ e, recE bars ss b ks = e := ⟨_, rfl⟩
  rw [he] at hv hv0 ⊢
  by_cases e0 : e = 0
  case neg =>
    obtain rfl := hv0 e0
    have HE := Lib.hid (hadE_rec (m := ⟨mlo, mhi⟩) he e0)
    have E0 := Lib.hid e0
    have b1 : (e != 0) = true := by simp [e0]
    clear he e0 hv hv0
    go_wp2_with fail
    go_ret2
    exact HadXPost.no HE.out E0.out (by (try rw [hn0]); exact hC)
  subst e0
  have HE0 := Lib.hid he
  have OR := okRec_of he
  have hw := hv rfl
  have HOK := Lib.hid (pick_ok OR.works.sok OR.ways)
  have HL := Lib.hid (pick_len OR.ways)
  have hb0 := OR.blo
  have hb1 := OR.bhi
  have HBR := Lib.hid (OR.works.bok _ (nthB_mem hb1))
  clear he hv hv0 OR
  obtain ⟨Aw, cw, rfl⟩ := hw.slice
  have lmx := mx.lt
  have mxc0 := mx.cell 0
  have mxc1 := mx.cell 1
  simp at mxc0 mxc1
  go_wp2_with fail
  clear lmx mxc0 mxc1
  refine (isHard_any ⟨mlo, mhi⟩ _).mono ?_
  rintro e w2 ⟨rfl, hb⟩
  replace hC : Below n0 w w2 := hC.trans (hb.mono (by have := hC.size; omega))
  replace hB := (RS.below hB hb).more hb.size
  replace hS := (RP.below hS hb).more hb.size
  replace hR := (RS.below hR hb).more hb.size
  replace bx := bx.below hb bx.lt
  replace cx := cx.below hb cx.lt
  replace mx := mx.below hb mx.lt
  replace hw := (RW.below hw hb).more hb.size
  clear hb
  obtain ⟨q, hq⟩ : ∃ q, hard ⟨mlo, mhi⟩ = q := ⟨_, rfl⟩
  rw [hq]
  have HQ := Lib.hid hq
  clear hq
  cases q
  case false =>
    have HE := Lib.hid (hadE_hard HE0.out HQ.out)
    go_wp2_with fail
    go_ret2
    exact HadXPost.no (e := 2) HE.out (by decide) (by (try rw [hn0]); exact hC)
  obtain ⟨A', cap', bb, off, hve, hA, hc⟩ := RR.cells hB
  obtain ⟨rfl, hbb⟩ := hA (by omega)
  injection hve with q1 q2 q3
  subst q1 q3
  obtain ⟨d0, d1⟩ := hc b.toNat hb1
  obtain ⟨n, rfl⟩ : ∃ n : Nat, b = n := ⟨b.toNat, by omega⟩
  rw [Int.toNat_natCast] at d0 d1 hb1 HBR
  have hb2 : (n : Int) < (bars.length : Int) := by omega
  obtain ⟨⟨lo, hi⟩, hr⟩ : ∃ r, nthB bars n = r := ⟨_, rfl⟩
  rw [hr] at d0 d1 HBR
  have HR := Lib.hid hr
  dsimp only at d0 d1
  clear hA hc q2 hr
  have lbx := bx.lt
  have bxc0 := bx.cell 0
  have bxc1 := bx.cell 1
  simp at bxc0 bxc1
  have lcx := cx.lt
  have cxc0 := cx.cell 0
  have cxc1 := cx.cell 1
  simp at cxc0 cxc1
  have lmx := mx.lt
  have mxc0 := mx.cell 0
  have mxc1 := mx.cell 1
  simp at mxc0 mxc1
  go_upto_region 6 with fail
  refine wp_region_noPanic (plain_any [0, 1, 2, 3, 4, 5, 6, 7, 9, 10, 11] (Below w2.heap.size w2) mixed ?_)
  refine any_tk 0 ?_
  have d0z : Below w2.heap.size w2 w2.drew := by exact bel_of
  refine any_tk 1 ?_
  refine any_tk 2 ?_
  refine any_tk 3 ?_
  refine any_tk 4 ?_
  refine any_tk 5 ?_
  refine any_tk 6 ?_
  refine any_tk 7 ?_
  have qz1 := d0z.size
  refine any_run1 (i := 8) (by kernel_rfl) (by rfl) (by kernel_rfl) ?_
  intro K hK
  go_wp2_with fail
  refine (hadP_any ⟨lo, hi⟩ (pick ss (nats ks)) ⟨mlo, mhi⟩ _ _ HBR.out (hard_iff.1 HQ.out) HOK.out (by rw [HL.out]; omega) ((RW.below hw d0z).more d0z.size)).mono ?_
  rintro e vz1 ⟨v2, rfl, ho, ho2, hb⟩
  obtain ⟨q, hq⟩ : ∃ q, meets (endR ⟨lo, hi⟩ (pick ss (nats ks))) ⟨mlo, mhi⟩ = q := ⟨_, rfl⟩
  rw [hq] at ho ho2 ⊢
  have HM := Lib.hid hq
  clear hq
  have ez1 : Below w2.heap.size w2 vz1 := d0z.trans (hb.mono d0z.size)
  clear hb
  refine hK _ _ (fun _ => ez1) ?_
  clear hK K
  refine any_tk 9 ?_
  refine any_tk 10 ?_
  refine any_tk 11 ?_
  refine any_run1 (i := 12) (by kernel_rfl) (by rfl) (by kernel_rfl) ?_
  intro K hK
  go_wp2_with fail
  refine hK _ _ (fun _ => ez1) ?_
  clear hK K
  refine any_run1 (i := 13) (by kernel_rfl) (by rfl) (by kernel_rfl) ?_
  intro K hK
  go_wp2_with fail
  refine hK _ _ (fun _ => ez1) ?_
  clear hK K
  refine any_done (by kernel_rfl) (NoPanic.normal ?_)
  clear lbx bxc0 bxc1
  clear lcx cxc0 cxc1
  clear lmx mxc0 mxc1
  clear d0 d1 hbb
  have hb := ez1
  replace hC : Below n0 w vz1 := hC.trans (hb.mono (by have := hC.size; omega))
  replace hB := (RS.below hB hb).more hb.size
  replace hS := (RP.below hS hb).more hb.size
  replace hR := (RS.below hR hb).more hb.size
  replace bx := bx.below hb bx.lt
  replace cx := cx.below hb cx.lt
  replace mx := mx.below hb mx.lt
  replace hw := (RW.below hw hb).more hb.size
  clear hb
  cases q
  case false =>
    obtain rfl := ho2 rfl
    have HE := Lib.hid (hadE_soft HE0.out HQ.out (by rw [Int.toNat_natCast, HR.out]; exact HM.out))
    clear ho ho2
    go_wp2_with fail
    go_ret2
    exact HadXPost.no (e := 17) HE.out (by decide) (by (try rw [hn0]); first | exact hC | exact bel_of)
  have ho3 := ho rfl
  have HE := Lib.hid (hadE_ok HE0.out HQ.out (by rw [Int.toNat_natCast, HR.out]; exact HM.out))
  have HO := Lib.hid (OwnR.ri ho3)
  obtain ⟨Av, cv, rfl⟩ := own_slice ho3
  clear ho ho2 ho3
  go_wp2_with fail
  go_ret2
  exact HadXPost.yes HE.out (by rw [Int.toNat_natCast, HR.out]; exact HO.out) (by (try rw [hn0]); first | exact hC | exact bel_of)
end Go.Proofs.Ytkibdciomheekaa

set_option linter.all false
namespace Go.Proofs.Ytkibdciomheekaa
open Go.RowKit Hp

end Go.Proofs.Ytkibdciomheekaa
