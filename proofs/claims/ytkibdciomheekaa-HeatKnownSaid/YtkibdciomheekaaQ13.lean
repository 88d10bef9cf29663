/- HeatKnown: the walk. The examples of the chapter hold. -/
import Derived.Test.YtkibdciomheekaaP29
import Derived.Test.YtkibdciomheekaaRows
import Derived.Test.YtkibdciomheekaaP30
set_option linter.all false
set_option linter.unnecessarySimpa false
set_option linter.unusedSimpArgs false
set_option linter.unusedVariables false
set_option linter.unusedSectionVars false

set_option linter.all false
namespace Go.Proofs.Ytkibdciomheekaa
open Go.RowKit Hp

theorem kn_a1 : afterR (nthW (nthS houseS 1) 0) 419 = ⟨200, 300⟩ ∧ afterE (nthW (nthS houseS 1) 0) 419 = 0 := by decide +kernel
theorem kn_a2 : afterR (nthW (nthS houseS 1) 0) 1000 = ⟨350, 480⟩ ∧ afterE (nthW (nthS houseS 1) 0) 1000 = 0 := by decide +kernel
theorem kn_rec : recE houseB houseS 0 [0, 0] = 0 := by decide +kernel
theorem kn_rng : rngL houseB houseS 0 [0, 0] = [⟨100, 170⟩, ⟨400, 500⟩, ⟨200, 400⟩] := by decide +kernel
theorem kn_meas : measE houseB houseS ⟨481, 500⟩ = 0 := by decide +kernel
theorem kn_ok : OkR (⟨481, 500⟩ : Rg) := by unfold OkR; decide
theorem kn_makers : makers houseB houseS ⟨481, 500⟩ = [] := by decide +kernel
theorem kn_mkL : mkL houseB ⟨481, 500⟩ houseS = [] := by
  unfold mkL
  rw [kn_makers]
  rfl
theorem kn_bars : someV houseB ⟨481, 500⟩ houseS (-1) = [] := by
  rw [someV_bars ex_okV kn_ok, kn_makers]
  decide
theorem kn_barsE : barsE houseB houseS ⟨481, 500⟩ = 17 := by
  unfold barsE
  rw [kn_meas, kn_bars]
  decide
set_option maxHeartbeats 8000000 in
set_option maxRecDepth 100000 in
theorem heatKnown_any (w : World) : Calls Try.prog 13 #[] w fun e w' => e = .returned (.bool true) ∧ Below w.heap.size w w' := by
  obtain ⟨n0, hn0⟩ : ∃ n, w.heap.size = n := ⟨_, rfl⟩
  have hC : Below n0 w w := Below.refl _ _
  go_enter Try.func13, Try.ntmps13
  go_wp2_with fail
  refine (house_any _).mono ?_
  rintro e w1 ⟨A, D, rfl, hB, hS, hb⟩
  replace hC : Below n0 w w1 := hC.trans (hb.mono (by have := hC.size; omega))
  clear hb
  go_upto_region 2 with fail
  obtain ⟨m1, hm1⟩ : ∃ n, w1.heap.size = n := ⟨_, rfl⟩
  try rw [hm1]
  have hqbx : n0 ≤ m1 := by have := hC.size; omega
  have bx : BK (w1.alloc (.cells #[.slice A 2 2, .slice D 2 2] 25)) (m1) #[.slice A 2 2, .slice D 2 2] 25 := BK.new' _ _ _ (m1) hm1
  have hsbx : (w1.alloc (.cells #[.slice A 2 2, .slice D 2 2] 25)).heap.size = m1 + 1 := by simp [hm1]
  replace hC : Below n0 w (w1.alloc (.cells #[.slice A 2 2, .slice D 2 2] 25)) := Below.alloc hC (by have := hC.size; omega) _
  replace hB := (RS.below hB (w' := (w1.alloc (.cells #[.slice A 2 2, .slice D 2 2] 25))) (Below.alloc (Below.refl _ _) (Nat.le_refl _) _)).more (B' := (w1.alloc (.cells #[.slice A 2 2, .slice D 2 2] 25)).heap.size) (by simp)
  replace hS := (RP.below hS (w' := (w1.alloc (.cells #[.slice A 2 2, .slice D 2 2] 25))) (Below.alloc (Below.refl _ _) (Nat.le_refl _) _)).more (B' := (w1.alloc (.cells #[.slice A 2 2, .slice D 2 2] 25)).heap.size) (by simp)
  generalize (w1.alloc (.cells #[.slice A 2 2, .slice D 2 2] 25)) = Wbx at *
  clear hm1
  clear hsbx
  obtain ⟨A1, c1, b1, o1, hv1, hA1, hc1⟩ := RP.cells hS
  obtain ⟨rfl, hb1⟩ := hA1 (by decide)
  injection hv1 with q1 q2 q3
  subst q1
  clear q2 q3
  obtain ⟨A1, c1, b1', o1', hv1, hA1, hc1⟩ := RP.cells hS
  have q5 := (hA1 (by decide)).1
  have hb1 := (hA1 (by decide)).2
  injection hv1 with q1 q2 q3
  have q6 := q1.trans q5
  injection q6 with q6
  injection q6 with q7 q8
  subst q7 q8
  clear q1 q2 q3 q5
  obtain ⟨u1, d1, hu1⟩ := hc1 1 (by decide)
  obtain ⟨A2, c2, b2, o2, rfl, hA2, hc2⟩ := RW.cells hu1
  obtain ⟨rfl, hb2⟩ := hA2 (by decide)
  obtain ⟨u2, d2, hu2⟩ := hc2 0 (by decide)
  obtain ⟨A3, c3, rfl⟩ := hu2.slice
  rw [show (nthS houseS 1).length = 1 from rfl] at d1
  rw [Nat.add_zero] at d2
  clear hA1 hc1 hA2 hc2 hu1
  have lbx := bx.lt
  have bxc0 := bx.cell 0
  have bxc1 := bx.cell 1
  simp at bxc0 bxc1
  go_wp2_with fail
  clear lbx bxc0 bxc1
  clear d1 d2 hb1 hb2
  refine (afterX_any (nthW (nthS houseS 1) 0) _ 419 _ (by decide) hu2).mono ?_
  rintro e w2 ⟨rfl, hb⟩
  replace hC : Below n0 w w2 := hC.trans (hb.mono (by have := hC.size; omega))
  replace hB := (RS.below hB hb).more hb.size
  replace hS := (RP.below hS hb).more hb.size
  replace bx := bx.below hb bx.lt
  replace hu2 := (RK.below hu2 hb).more hb.size
  clear hb
  rw [kn_a1.1, kn_a1.2]
  unfold rV
  clear hu2
  go_upto_region 3 with fail
  obtain ⟨m2, hm2⟩ : ∃ n, w2.heap.size = n := ⟨_, rfl⟩
  try rw [hm2]
  have hqax : n0 ≤ m2 := by have := hC.size; omega
  have ax : BK (w2.alloc (.cells #[.int .i64 200, .int .i64 300] 33)) (m2) #[.int .i64 200, .int .i64 300] 33 := BK.new' _ _ _ (m2) hm2
  have hsax : (w2.alloc (.cells #[.int .i64 200, .int .i64 300] 33)).heap.size = m2 + 1 := by simp [hm2]
  replace hC : Below n0 w (w2.alloc (.cells #[.int .i64 200, .int .i64 300] 33)) := Below.alloc hC (by have := hC.size; omega) _
  replace hB := (RS.below hB (w' := (w2.alloc (.cells #[.int .i64 200, .int .i64 300] 33))) (Below.alloc (Below.refl _ _) (Nat.le_refl _) _)).more (B' := (w2.alloc (.cells #[.int .i64 200, .int .i64 300] 33)).heap.size) (by simp)
  replace hS := (RP.below hS (w' := (w2.alloc (.cells #[.int .i64 200, .int .i64 300] 33))) (Below.alloc (Below.refl _ _) (Nat.le_refl _) _)).more (B' := (w2.alloc (.cells #[.int .i64 200, .int .i64 300] 33)).heap.size) (by simp)
  replace bx := bx.alloc (.cells #[.int .i64 200, .int .i64 300] 33)
  generalize (w2.alloc (.cells #[.int .i64 200, .int .i64 300] 33)) = Wax at *
  clear hm2
  clear hsax
  obtain ⟨A1, c1, b1', o1', hv1, hA1, hc1⟩ := RP.cells hS
  have q5 := (hA1 (by decide)).1
  have hb1 := (hA1 (by decide)).2
  injection hv1 with q1 q2 q3
  have q6 := q1.trans q5
  injection q6 with q6
  injection q6 with q7 q8
  subst q7 q8
  clear q1 q2 q3 q5
  obtain ⟨u1, d1, hu1⟩ := hc1 1 (by decide)
  obtain ⟨A2, c2, b2, o2, rfl, hA2, hc2⟩ := RW.cells hu1
  obtain ⟨rfl, hb2⟩ := hA2 (by decide)
  obtain ⟨u2, d2, hu2⟩ := hc2 0 (by decide)
  obtain ⟨A3, c3, rfl⟩ := hu2.slice
  rw [show (nthS houseS 1).length = 1 from rfl] at d1
  rw [Nat.add_zero] at d2
  clear hA1 hc1 hA2 hc2 hu1
  have lbx := bx.lt
  have bxc0 := bx.cell 0
  have bxc1 := bx.cell 1
  simp at bxc0 bxc1
  go_wp2_with fail
  clear lbx bxc0 bxc1
  clear d1 d2 hb1 hb2
  refine (afterX_any (nthW (nthS houseS 1) 0) _ 1000 _ (by decide) hu2).mono ?_
  rintro e w3 ⟨rfl, hb⟩
  replace hC : Below n0 w w3 := hC.trans (hb.mono (by have := hC.size; omega))
  replace hB := (RS.below hB hb).more hb.size
  replace hS := (RP.below hS hb).more hb.size
  replace bx := bx.below hb bx.lt
  replace ax := ax.below hb ax.lt
  replace hu2 := (RK.below hu2 hb).more hb.size
  clear hb
  rw [kn_a2.1, kn_a2.2]
  unfold rV
  clear hu2
  go_upto_region 4 with fail
  obtain ⟨m3, hm3⟩ : ∃ n, w3.heap.size = n := ⟨_, rfl⟩
  try rw [hm3]
  have hqay : n0 ≤ m3 := by have := hC.size; omega
  have ay : BK (w3.alloc (.cells #[.int .i64 350, .int .i64 480] 33)) (m3) #[.int .i64 350, .int .i64 480] 33 := BK.new' _ _ _ (m3) hm3
  have hsay : (w3.alloc (.cells #[.int .i64 350, .int .i64 480] 33)).heap.size = m3 + 1 := by simp [hm3]
  replace hC : Below n0 w (w3.alloc (.cells #[.int .i64 350, .int .i64 480] 33)) := Below.alloc hC (by have := hC.size; omega) _
  replace hB := (RS.below hB (w' := (w3.alloc (.cells #[.int .i64 350, .int .i64 480] 33))) (Below.alloc (Below.refl _ _) (Nat.le_refl _) _)).more (B' := (w3.alloc (.cells #[.int .i64 350, .int .i64 480] 33)).heap.size) (by simp)
  replace hS := (RP.below hS (w' := (w3.alloc (.cells #[.int .i64 350, .int .i64 480] 33))) (Below.alloc (Below.refl _ _) (Nat.le_refl _) _)).more (B' := (w3.alloc (.cells #[.int .i64 350, .int .i64 480] 33)).heap.size) (by simp)
  replace bx := bx.alloc (.cells #[.int .i64 350, .int .i64 480] 33)
  replace ax := ax.alloc (.cells #[.int .i64 350, .int .i64 480] 33)
  generalize (w3.alloc (.cells #[.int .i64 350, .int .i64 480] 33)) = Way at *
  clear hm3
  clear hsay
  have lbx := bx.lt
  have bxc0 := bx.cell 0
  have bxc1 := bx.cell 1
  simp at bxc0 bxc1
  refine wp_region_noPanic (plain_any [0, 4, 5, 6] (Below Way.heap.size Way) mixed ?_)
  (refine any_take 0 ?_ (by rfl) (by kernel_rfl) (fun _ _ _ _ _ hx => hx.elim) (.inl ⟨by rfl, ?_⟩) (by exact bel_of) ?_; rotate_left; (intro X hX; obtain ⟨r1, r2⟩ := Below.rules hX; clear hX; go_simp; rfl); simp only [List.getElem_toArray, List.getElem_cons_succ, List.getElem_cons_zero, Act.put, List.setIfInBounds_toArray, List.set_cons_succ, List.set_cons_zero])
  have d0za : Below Way.heap.size Way Way.drew := by exact bel_of
  have qza1 := d0za.size
  have eza1 : Below Way.heap.size Way (Way.drew.alloc (.cells #[.int .i64 0, .int .i64 0] 3)) := by exact bel_of
  refine any_run1 (i := 1) (by kernel_rfl) (by rfl) (by kernel_rfl) ?_
  intro K hK
  go_wp2_with fail
  refine hK _ _ (fun _ => eza1) ?_
  clear hK K
  have hri : RI (Way.drew.alloc (.cells #[.int .i64 0, .int .i64 0] 3)) ((Way.drew.alloc (.cells #[.int .i64 0, .int .i64 0] 3))).heap.size (.slice (some ⟨_, 0, none⟩) 2 2) [0, 0] := rs_ri2 (BK.new _ _ _)
  have qza2 := eza1.size
  refine any_run1 (i := 2) (by kernel_rfl) (by rfl) (by kernel_rfl) ?_
  intro K hK
  go_wp2_with fail
  refine (recipe_any 0 _ _ _ _).mono ?_
  rintro e vza2 ⟨rfl, hb⟩
  replace hri := RS.more (RS.below hri hb) hb.size
  have eza2 : Below Way.heap.size Way vza2 := eza1.trans (hb.mono eza1.size)
  clear hb
  refine hK _ _ (fun _ => eza2) ?_
  clear hK K
  have qza3 := eza2.size
  refine any_run1 (i := 3) (by kernel_rfl) (by rfl) (by kernel_rfl) ?_
  intro K hK
  go_wp2_with fail
  refine (ranges_any houseB houseS 0 [0, 0] _ _ _ _ ex_fit (by decide) ((RS.below hB eza2).more eza2.size) ((RP.below hS eza2).more eza2.size) hri).mono ?_
  rintro e vza3 ⟨vr, rfl, hr, hb⟩
  rw [kn_rec]
  rw [kn_rng] at hr
  clear hri
  have eza3 : Below Way.heap.size Way vza3 := eza2.trans (hb.mono eza2.size)
  clear hb
  refine hK _ _ (fun _ => eza3) ?_
  clear hK K
  (refine any_take 4 ?_ (by rfl) (by kernel_rfl) (fun _ _ _ _ _ hx => hx.elim) (.inl ⟨by rfl, ?_⟩) (by exact bel_of) ?_; rotate_left; (intro X hX; obtain ⟨r1, r2⟩ := Below.rules hX; clear hX; go_simp; rfl); simp only [List.getElem_toArray, List.getElem_cons_succ, List.getElem_cons_zero, Act.put, List.setIfInBounds_toArray, List.set_cons_succ, List.set_cons_zero])
  (refine any_take 5 ?_ (by rfl) (by kernel_rfl) (fun _ _ _ _ _ hx => hx.elim) (.inl ⟨by rfl, ?_⟩) (by exact bel_of) ?_; rotate_left; (intro X hX; obtain ⟨r1, r2⟩ := Below.rules hX; clear hX; go_simp; rfl); simp only [List.getElem_toArray, List.getElem_cons_succ, List.getElem_cons_zero, Act.put, List.setIfInBounds_toArray, List.set_cons_succ, List.set_cons_zero])
  (refine any_take 6 ?_ (by rfl) (by kernel_rfl) (fun _ _ _ _ _ hx => hx.elim) (.inl ⟨by rfl, ?_⟩) (by exact bel_of) ?_; rotate_left; (intro X hX; obtain ⟨r1, r2⟩ := Below.rules hX; clear hX; go_simp; rfl); simp only [List.getElem_toArray, List.getElem_cons_succ, List.getElem_cons_zero, Act.put, List.setIfInBounds_toArray, List.set_cons_succ, List.set_cons_zero])
  refine any_run1 (i := 7) (by kernel_rfl) (by rfl) (by kernel_rfl) ?_
  intro K hK
  go_wp2_with fail
  refine hK _ _ (fun _ => eza3) ?_
  clear hK K
  refine any_run1 (i := 8) (by kernel_rfl) (by rfl) (by kernel_rfl) ?_
  intro K hK
  go_wp2_with fail
  refine hK _ _ (fun _ => eza3) ?_
  clear hK K
  refine any_done (by kernel_rfl) (NoPanic.normal ?_)
  have hb := eza3
  replace hC : Below n0 w vza3 := hC.trans (hb.mono (by have := hC.size; omega))
  replace hB := (RS.below hB hb).more hb.size
  replace hS := (RP.below hS hb).more hb.size
  replace bx := bx.below hb bx.lt
  replace ax := ax.below hb ax.lt
  replace ay := ay.below hb ay.lt
  clear hb
  clear lbx bxc0 bxc1
  go_upto_region 5 with fail
  have lbx := bx.lt
  have bxc0 := bx.cell 0
  have bxc1 := bx.cell 1
  simp at bxc0 bxc1
  refine wp_region_noPanic (plain_any [0, 3, 4, 5] (Below vza3.heap.size vza3) mixed ?_)
  (refine any_take 0 ?_ (by rfl) (by kernel_rfl) (fun _ _ _ _ _ hx => hx.elim) (.inl ⟨by rfl, ?_⟩) (by exact bel_of) ?_; rotate_left; (intro X hX; obtain ⟨r1, r2⟩ := Below.rules hX; clear hX; go_simp; rfl); simp only [List.getElem_toArray, List.getElem_cons_succ, List.getElem_cons_zero, Act.put, List.setIfInBounds_toArray, List.set_cons_succ, List.set_cons_zero])
  have d0zb : Below vza3.heap.size vza3 vza3.drew := by exact bel_of
  have qzb1 := d0zb.size
  refine any_run1 (i := 1) (by kernel_rfl) (by rfl) (by kernel_rfl) ?_
  intro K hK
  go_wp2_with fail
  refine (rg_any 481 500 _).mono ?_
  rintro e vzb1 ⟨rfl, hb⟩
  have ezb1 : Below vza3.heap.size vza3 vzb1 := d0zb.trans (hb.mono d0zb.size)
  clear hb
  refine hK _ _ (fun _ => ezb1) ?_
  clear hK K
  have qzb2 := ezb1.size
  refine any_run1 (i := 2) (by kernel_rfl) (by rfl) (by kernel_rfl) ?_
  intro K hK
  go_wp2_with fail
  refine (countF_any houseB houseS ⟨481, 500⟩ _ _ _ ex_fit ((RS.below hB ezb1).more ezb1.size) ((RP.below hS ezb1).more ezb1.size) (fun _ => by rw [kn_mkL]; decide)).mono ?_
  rintro e vzb2 ⟨rfl, hb⟩
  rw [if_pos kn_meas, kn_meas, kn_mkL]
  rw [show ((([] : List (List Int)).length : Nat) : Int) = 0 from rfl]
  have ezb2 : Below vza3.heap.size vza3 vzb2 := ezb1.trans (hb.mono ezb1.size)
  clear hb
  refine hK _ _ (fun _ => ezb2) ?_
  clear hK K
  (refine any_take 3 ?_ (by rfl) (by kernel_rfl) (fun _ _ _ _ _ hx => hx.elim) (.inl ⟨by rfl, ?_⟩) (by exact bel_of) ?_; rotate_left; (intro X hX; obtain ⟨r1, r2⟩ := Below.rules hX; clear hX; go_simp; rfl); simp only [List.getElem_toArray, List.getElem_cons_succ, List.getElem_cons_zero, Act.put, List.setIfInBounds_toArray, List.set_cons_succ, List.set_cons_zero])
  (refine any_take 4 ?_ (by rfl) (by kernel_rfl) (fun _ _ _ _ _ hx => hx.elim) (.inl ⟨by rfl, ?_⟩) (by exact bel_of) ?_; rotate_left; (intro X hX; obtain ⟨r1, r2⟩ := Below.rules hX; clear hX; go_simp; rfl); simp only [List.getElem_toArray, List.getElem_cons_succ, List.getElem_cons_zero, Act.put, List.setIfInBounds_toArray, List.set_cons_succ, List.set_cons_zero])
  (refine any_take 5 ?_ (by rfl) (by kernel_rfl) (fun _ _ _ _ _ hx => hx.elim) (.inl ⟨by rfl, ?_⟩) (by exact bel_of) ?_; rotate_left; (intro X hX; obtain ⟨r1, r2⟩ := Below.rules hX; clear hX; go_simp; rfl); simp only [List.getElem_toArray, List.getElem_cons_succ, List.getElem_cons_zero, Act.put, List.setIfInBounds_toArray, List.set_cons_succ, List.set_cons_zero])
  refine any_run1 (i := 6) (by kernel_rfl) (by rfl) (by kernel_rfl) ?_
  intro K hK
  go_wp2_with fail
  refine hK _ _ (fun _ => ezb2) ?_
  clear hK K
  refine any_run1 (i := 7) (by kernel_rfl) (by rfl) (by kernel_rfl) ?_
  intro K hK
  go_wp2_with fail
  refine hK _ _ (fun _ => ezb2) ?_
  clear hK K
  refine any_done (by kernel_rfl) (NoPanic.normal ?_)
  have hb := ezb2
  replace hC : Below n0 w vzb2 := hC.trans (hb.mono (by have := hC.size; omega))
  replace hB := (RS.below hB hb).more hb.size
  replace hS := (RP.below hS hb).more hb.size
  replace bx := bx.below hb bx.lt
  replace ax := ax.below hb ax.lt
  replace ay := ay.below hb ay.lt
  replace hr := (RS.below hr hb).more hb.size
  clear hb
  clear lbx bxc0 bxc1
  go_upto_region 6 with fail
  have lbx := bx.lt
  have bxc0 := bx.cell 0
  have bxc1 := bx.cell 1
  simp at bxc0 bxc1
  refine wp_region_noPanic (plain_any [0, 3, 4, 5] (Below vzb2.heap.size vzb2) mixed ?_)
  (refine any_take 0 ?_ (by rfl) (by kernel_rfl) (fun _ _ _ _ _ hx => hx.elim) (.inl ⟨by rfl, ?_⟩) (by exact bel_of) ?_; rotate_left; (intro X hX; obtain ⟨r1, r2⟩ := Below.rules hX; clear hX; go_simp; rfl); simp only [List.getElem_toArray, List.getElem_cons_succ, List.getElem_cons_zero, Act.put, List.setIfInBounds_toArray, List.set_cons_succ, List.set_cons_zero])
  have d0zc : Below vzb2.heap.size vzb2 vzb2.drew := by exact bel_of
  have qzc1 := d0zc.size
  refine any_run1 (i := 1) (by kernel_rfl) (by rfl) (by kernel_rfl) ?_
  intro K hK
  go_wp2_with fail
  refine (rg_any 481 500 _).mono ?_
  rintro e vzc1 ⟨rfl, hb⟩
  have ezc1 : Below vzb2.heap.size vzb2 vzc1 := d0zc.trans (hb.mono d0zc.size)
  clear hb
  refine hK _ _ (fun _ => ezc1) ?_
  clear hK K
  have qzc2 := ezc1.size
  refine any_run1 (i := 2) (by kernel_rfl) (by rfl) (by kernel_rfl) ?_
  intro K hK
  go_wp2_with fail
  refine (barsF_any houseB houseS ⟨481, 500⟩ _ _ _ ex_fit ((RS.below hB ezc1).more ezc1.size) ((RP.below hS ezc1).more ezc1.size)).mono ?_
  rintro e vzc2 ⟨v9, rfl, h9, hb⟩
  clear h9
  rw [kn_barsE]
  have ezc2 : Below vzb2.heap.size vzb2 vzc2 := ezc1.trans (hb.mono ezc1.size)
  clear hb
  refine hK _ _ (fun _ => ezc2) ?_
  clear hK K
  (refine any_take 3 ?_ (by rfl) (by kernel_rfl) (fun _ _ _ _ _ hx => hx.elim) (.inl ⟨by rfl, ?_⟩) (by exact bel_of) ?_; rotate_left; (intro X hX; obtain ⟨r1, r2⟩ := Below.rules hX; clear hX; go_simp; rfl); simp only [List.getElem_toArray, List.getElem_cons_succ, List.getElem_cons_zero, Act.put, List.setIfInBounds_toArray, List.set_cons_succ, List.set_cons_zero])
  (refine any_take 4 ?_ (by rfl) (by kernel_rfl) (fun _ _ _ _ _ hx => hx.elim) (.inl ⟨by rfl, ?_⟩) (by exact bel_of) ?_; rotate_left; (intro X hX; obtain ⟨r1, r2⟩ := Below.rules hX; clear hX; go_simp; rfl); simp only [List.getElem_toArray, List.getElem_cons_succ, List.getElem_cons_zero, Act.put, List.setIfInBounds_toArray, List.set_cons_succ, List.set_cons_zero])
  (refine any_take 5 ?_ (by rfl) (by kernel_rfl) (fun _ _ _ _ _ hx => hx.elim) (.inl ⟨by rfl, ?_⟩) (by exact bel_of) ?_; rotate_left; (intro X hX; obtain ⟨r1, r2⟩ := Below.rules hX; clear hX; go_simp; rfl); simp only [List.getElem_toArray, List.getElem_cons_succ, List.getElem_cons_zero, Act.put, List.setIfInBounds_toArray, List.set_cons_succ, List.set_cons_zero])
  refine any_run1 (i := 6) (by kernel_rfl) (by rfl) (by kernel_rfl) ?_
  intro K hK
  go_wp2_with fail
  refine hK _ _ (fun _ => ezc2) ?_
  clear hK K
  refine any_run1 (i := 7) (by kernel_rfl) (by rfl) (by kernel_rfl) ?_
  intro K hK
  go_wp2_with fail
  refine hK _ _ (fun _ => ezc2) ?_
  clear hK K
  refine any_done (by kernel_rfl) (NoPanic.normal ?_)
  have hb := ezc2
  replace hC : Below n0 w vzc2 := hC.trans (hb.mono (by have := hC.size; omega))
  replace hB := (RS.below hB hb).more hb.size
  replace hS := (RP.below hS hb).more hb.size
  replace bx := bx.below hb bx.lt
  replace ax := ax.below hb ax.lt
  replace ay := ay.below hb ay.lt
  replace hr := (RS.below hr hb).more hb.size
  clear hb
  clear lbx bxc0 bxc1
  go_upto_region 7 with fail
  try simp only [List.append_eq, List.cons_append, List.nil_append]
  have lax := ax.lt
  have axc0 := ax.cell 0
  have axc1 := ax.cell 1
  simp at axc0 axc1
  have lay := ay.lt
  have ayc0 := ay.cell 0
  have ayc1 := ay.cell 1
  simp at ayc0 ayc1
  refine wp_region_noPanic (plain_any [0, 1, 2, 3, 4, 5, 6, 7, 8, 9, 10, 11, 12, 13, 14, 15, 16, 17, 18, 19, 21, 22, 23, 24, 26, 27, 28, 29, 35, 36, 37, 38, 39, 40, 42] (Below vzc2.heap.size vzc2) mixed ?_)
  (refine any_take 0 ?_ (by rfl) (by kernel_rfl) (fun _ _ _ _ _ hx => hx.elim) (.inl ⟨by rfl, ?_⟩) (by exact bel_of) ?_; rotate_left; (intro X hX; obtain ⟨r1, r2⟩ := Below.rules hX; clear hX; go_simp; rfl); simp only [List.getElem_toArray, List.getElem_cons_succ, List.getElem_cons_zero, Act.put, List.setIfInBounds_toArray, List.set_cons_succ, List.set_cons_zero])
  have d0zd : Below vzc2.heap.size vzc2 vzc2.drew := by exact bel_of
  (refine any_take 1 ?_ (by rfl) (by kernel_rfl) (fun _ _ _ _ _ hx => hx.elim) (.inl ⟨by rfl, ?_⟩) (by exact bel_of) ?_; rotate_left; (intro X hX; obtain ⟨r1, r2⟩ := Below.rules hX; clear hX; go_simp; rfl); simp only [List.getElem_toArray, List.getElem_cons_succ, List.getElem_cons_zero, Act.put, List.setIfInBounds_toArray, List.set_cons_succ, List.set_cons_zero])
  (refine any_take 2 ?_ (by rfl) (by kernel_rfl) (fun _ _ _ _ _ hx => hx.elim) (.inl ⟨by rfl, ?_⟩) (by exact bel_of) ?_; rotate_left; (intro X hX; obtain ⟨r1, r2⟩ := Below.rules hX; clear hX; go_simp; rfl); simp only [List.getElem_toArray, List.getElem_cons_succ, List.getElem_cons_zero, Act.put, List.setIfInBounds_toArray, List.set_cons_succ, List.set_cons_zero])
  (refine any_take 3 ?_ (by rfl) (by kernel_rfl) (fun _ _ _ _ _ hx => hx.elim) (.inl ⟨by rfl, ?_⟩) (by exact bel_of) ?_; rotate_left; (intro X hX; obtain ⟨r1, r2⟩ := Below.rules hX; clear hX; go_simp; rfl); simp only [List.getElem_toArray, List.getElem_cons_succ, List.getElem_cons_zero, Act.put, List.setIfInBounds_toArray, List.set_cons_succ, List.set_cons_zero])
  (refine any_take 4 ?_ (by rfl) (by kernel_rfl) (fun _ _ _ _ _ hx => hx.elim) (.inl ⟨by rfl, ?_⟩) (by exact bel_of) ?_; rotate_left; (intro X hX; obtain ⟨r1, r2⟩ := Below.rules hX; clear hX; go_simp; rfl); simp only [List.getElem_toArray, List.getElem_cons_succ, List.getElem_cons_zero, Act.put, List.setIfInBounds_toArray, List.set_cons_succ, List.set_cons_zero])
  (refine any_take 5 ?_ (by rfl) (by kernel_rfl) (fun _ _ _ _ _ hx => hx.elim) (.inl ⟨by rfl, ?_⟩) (by exact bel_of) ?_; rotate_left; (intro X hX; obtain ⟨r1, r2⟩ := Below.rules hX; clear hX; go_simp; rfl); simp only [List.getElem_toArray, List.getElem_cons_succ, List.getElem_cons_zero, Act.put, List.setIfInBounds_toArray, List.set_cons_succ, List.set_cons_zero])
  (refine any_take 6 ?_ (by rfl) (by kernel_rfl) (fun _ _ _ _ _ hx => hx.elim) (.inl ⟨by rfl, ?_⟩) (by exact bel_of) ?_; rotate_left; (intro X hX; obtain ⟨r1, r2⟩ := Below.rules hX; clear hX; go_simp; rfl); simp only [List.getElem_toArray, List.getElem_cons_succ, List.getElem_cons_zero, Act.put, List.setIfInBounds_toArray, List.set_cons_succ, List.set_cons_zero])
  (refine any_take 7 ?_ (by rfl) (by kernel_rfl) (fun _ _ _ _ _ hx => hx.elim) (.inl ⟨by rfl, ?_⟩) (by exact bel_of) ?_; rotate_left; (intro X hX; obtain ⟨r1, r2⟩ := Below.rules hX; clear hX; go_simp; rfl); simp only [List.getElem_toArray, List.getElem_cons_succ, List.getElem_cons_zero, Act.put, List.setIfInBounds_toArray, List.set_cons_succ, List.set_cons_zero])
  (refine any_take 8 ?_ (by rfl) (by kernel_rfl) (fun _ _ _ _ _ hx => hx.elim) (.inl ⟨by rfl, ?_⟩) (by exact bel_of) ?_; rotate_left; (intro X hX; obtain ⟨r1, r2⟩ := Below.rules hX; clear hX; go_simp; rfl); simp only [List.getElem_toArray, List.getElem_cons_succ, List.getElem_cons_zero, Act.put, List.setIfInBounds_toArray, List.set_cons_succ, List.set_cons_zero])
  (refine any_take 9 ?_ (by rfl) (by kernel_rfl) (fun _ _ _ _ _ hx => hx.elim) (.inl ⟨by rfl, ?_⟩) (by exact bel_of) ?_; rotate_left; (intro X hX; obtain ⟨r1, r2⟩ := Below.rules hX; clear hX; go_simp; rfl); simp only [List.getElem_toArray, List.getElem_cons_succ, List.getElem_cons_zero, Act.put, List.setIfInBounds_toArray, List.set_cons_succ, List.set_cons_zero])
  (refine any_take 10 ?_ (by rfl) (by kernel_rfl) (fun _ _ _ _ _ hx => hx.elim) (.inl ⟨by rfl, ?_⟩) (by exact bel_of) ?_; rotate_left; (intro X hX; obtain ⟨r1, r2⟩ := Below.rules hX; clear hX; go_simp; rfl); simp only [List.getElem_toArray, List.getElem_cons_succ, List.getElem_cons_zero, Act.put, List.setIfInBounds_toArray, List.set_cons_succ, List.set_cons_zero])
  (refine any_take 11 ?_ (by rfl) (by kernel_rfl) (fun _ _ _ _ _ hx => hx.elim) (.inl ⟨by rfl, ?_⟩) (by exact bel_of) ?_; rotate_left; (intro X hX; obtain ⟨r1, r2⟩ := Below.rules hX; clear hX; go_simp; rfl); simp only [List.getElem_toArray, List.getElem_cons_succ, List.getElem_cons_zero, Act.put, List.setIfInBounds_toArray, List.set_cons_succ, List.set_cons_zero])
  (refine any_take 12 ?_ (by rfl) (by kernel_rfl) (fun _ _ _ _ _ hx => hx.elim) (.inl ⟨by rfl, ?_⟩) (by exact bel_of) ?_; rotate_left; (intro X hX; obtain ⟨r1, r2⟩ := Below.rules hX; clear hX; go_simp; rfl); simp only [List.getElem_toArray, List.getElem_cons_succ, List.getElem_cons_zero, Act.put, List.setIfInBounds_toArray, List.set_cons_succ, List.set_cons_zero])
  (refine any_take 13 ?_ (by rfl) (by kernel_rfl) (fun _ _ _ _ _ hx => hx.elim) (.inl ⟨by rfl, ?_⟩) (by exact bel_of) ?_; rotate_left; (intro X hX; obtain ⟨r1, r2⟩ := Below.rules hX; clear hX; go_simp; rfl); simp only [List.getElem_toArray, List.getElem_cons_succ, List.getElem_cons_zero, Act.put, List.setIfInBounds_toArray, List.set_cons_succ, List.set_cons_zero])
  (refine any_take 14 ?_ (by rfl) (by kernel_rfl) (fun _ _ _ _ _ hx => hx.elim) (.inl ⟨by rfl, ?_⟩) (by exact bel_of) ?_; rotate_left; (intro X hX; obtain ⟨r1, r2⟩ := Below.rules hX; clear hX; go_simp; rfl); simp only [List.getElem_toArray, List.getElem_cons_succ, List.getElem_cons_zero, Act.put, List.setIfInBounds_toArray, List.set_cons_succ, List.set_cons_zero])
  (refine any_take 15 ?_ (by rfl) (by kernel_rfl) (fun _ _ _ _ _ hx => hx.elim) (.inl ⟨by rfl, ?_⟩) (by exact bel_of) ?_; rotate_left; (intro X hX; obtain ⟨r1, r2⟩ := Below.rules hX; clear hX; go_simp; rfl); simp only [List.getElem_toArray, List.getElem_cons_succ, List.getElem_cons_zero, Act.put, List.setIfInBounds_toArray, List.set_cons_succ, List.set_cons_zero])
  (refine any_take 16 ?_ (by rfl) (by kernel_rfl) (fun _ _ _ _ _ hx => hx.elim) (.inl ⟨by rfl, ?_⟩) (by exact bel_of) ?_; rotate_left; (intro X hX; obtain ⟨r1, r2⟩ := Below.rules hX; clear hX; go_simp; rfl); simp only [List.getElem_toArray, List.getElem_cons_succ, List.getElem_cons_zero, Act.put, List.setIfInBounds_toArray, List.set_cons_succ, List.set_cons_zero])
  (refine any_take 17 ?_ (by rfl) (by kernel_rfl) (fun _ _ _ _ _ hx => hx.elim) (.inl ⟨by rfl, ?_⟩) (by exact bel_of) ?_; rotate_left; (intro X hX; obtain ⟨r1, r2⟩ := Below.rules hX; clear hX; go_simp; rfl); simp only [List.getElem_toArray, List.getElem_cons_succ, List.getElem_cons_zero, Act.put, List.setIfInBounds_toArray, List.set_cons_succ, List.set_cons_zero])
  (refine any_take 18 ?_ (by rfl) (by kernel_rfl) (fun _ _ _ _ _ hx => hx.elim) (.inl ⟨by rfl, ?_⟩) (by exact bel_of) ?_; rotate_left; (intro X hX; obtain ⟨r1, r2⟩ := Below.rules hX; clear hX; go_simp; rfl); simp only [List.getElem_toArray, List.getElem_cons_succ, List.getElem_cons_zero, Act.put, List.setIfInBounds_toArray, List.set_cons_succ, List.set_cons_zero])
  (refine any_take 19 ?_ (by rfl) (by kernel_rfl) (fun _ _ _ _ _ hx => hx.elim) (.inl ⟨by rfl, ?_⟩) (by exact bel_of) ?_; rotate_left; (intro X hX; obtain ⟨r1, r2⟩ := Below.rules hX; clear hX; go_simp; rfl); simp only [List.getElem_toArray, List.getElem_cons_succ, List.getElem_cons_zero, Act.put, List.setIfInBounds_toArray, List.set_cons_succ, List.set_cons_zero])
  have qzd1 := d0zd.size
  refine any_run1 (i := 20) (by kernel_rfl) (by rfl) (by kernel_rfl) ?_
  intro K hK
  go_wp2_with fail
  refine (rg_any 200 300 _).mono ?_
  rintro e vzd1 ⟨rfl, hb⟩
  have ezd1 : Below vzc2.heap.size vzc2 vzd1 := d0zd.trans (hb.mono d0zd.size)
  clear hb
  refine hK _ _ (fun _ => ezd1) ?_
  clear hK K
  (refine any_take 21 ?_ (by rfl) (by kernel_rfl) (fun _ _ _ _ _ hx => hx.elim) (.inl ⟨by rfl, ?_⟩) (by exact bel_of) ?_; rotate_left; (intro X hX; obtain ⟨r1, r2⟩ := Below.rules hX; clear hX; go_simp; rfl); simp only [List.getElem_toArray, List.getElem_cons_succ, List.getElem_cons_zero, Act.put, List.setIfInBounds_toArray, List.set_cons_succ, List.set_cons_zero])
  (refine any_take 22 ?_ (by rfl) (by kernel_rfl) (fun _ _ _ _ _ hx => hx.elim) (.inl ⟨by rfl, ?_⟩) (by exact bel_of) ?_; rotate_left; (intro X hX; obtain ⟨r1, r2⟩ := Below.rules hX; clear hX; go_simp; rfl); simp only [List.getElem_toArray, List.getElem_cons_succ, List.getElem_cons_zero, Act.put, List.setIfInBounds_toArray, List.set_cons_succ, List.set_cons_zero])
  (refine any_take 23 ?_ (by rfl) (by kernel_rfl) (fun _ _ _ _ _ hx => hx.elim) (.inl ⟨by rfl, ?_⟩) (by exact bel_of) ?_; rotate_left; (intro X hX; obtain ⟨r1, r2⟩ := Below.rules hX; clear hX; go_simp; rfl); simp only [List.getElem_toArray, List.getElem_cons_succ, List.getElem_cons_zero, Act.put, List.setIfInBounds_toArray, List.set_cons_succ, List.set_cons_zero])
  (refine any_take 24 ?_ (by rfl) (by kernel_rfl) (fun _ _ _ _ _ hx => hx.elim) (.inl ⟨by rfl, ?_⟩) (by exact bel_of) ?_; rotate_left; (intro X hX; obtain ⟨r1, r2⟩ := Below.rules hX; clear hX; go_simp; rfl); simp only [List.getElem_toArray, List.getElem_cons_succ, List.getElem_cons_zero, Act.put, List.setIfInBounds_toArray, List.set_cons_succ, List.set_cons_zero])
  have qzd2 := ezd1.size
  refine any_run1 (i := 25) (by kernel_rfl) (by rfl) (by kernel_rfl) ?_
  intro K hK
  go_wp2_with fail
  refine (rg_any 350 480 _).mono ?_
  rintro e vzd2 ⟨rfl, hb⟩
  have ezd2 : Below vzc2.heap.size vzc2 vzd2 := ezd1.trans (hb.mono ezd1.size)
  clear hb
  refine hK _ _ (fun _ => ezd2) ?_
  clear hK K
  (refine any_take 26 ?_ (by rfl) (by kernel_rfl) (fun _ _ _ _ _ hx => hx.elim) (.inl ⟨by rfl, ?_⟩) (by exact bel_of) ?_; rotate_left; (intro X hX; obtain ⟨r1, r2⟩ := Below.rules hX; clear hX; go_simp; rfl); simp only [List.getElem_toArray, List.getElem_cons_succ, List.getElem_cons_zero, Act.put, List.setIfInBounds_toArray, List.set_cons_succ, List.set_cons_zero])
  (refine any_take 27 ?_ (by rfl) (by kernel_rfl) (fun _ _ _ _ _ hx => hx.elim) (.inl ⟨by rfl, ?_⟩) (by exact bel_of) ?_; rotate_left; (intro X hX; obtain ⟨r1, r2⟩ := Below.rules hX; clear hX; go_simp; rfl); simp only [List.getElem_toArray, List.getElem_cons_succ, List.getElem_cons_zero, Act.put, List.setIfInBounds_toArray, List.set_cons_succ, List.set_cons_zero])
  (refine any_take 28 ?_ (by rfl) (by kernel_rfl) (fun _ _ _ _ _ hx => hx.elim) (.inl ⟨by rfl, ?_⟩) (by exact bel_of) ?_; rotate_left; (intro X hX; obtain ⟨r1, r2⟩ := Below.rules hX; clear hX; go_simp; rfl); simp only [List.getElem_toArray, List.getElem_cons_succ, List.getElem_cons_zero, Act.put, List.setIfInBounds_toArray, List.set_cons_succ, List.set_cons_zero])
  (refine any_take 29 ?_ (by rfl) (by kernel_rfl) (fun _ _ _ _ _ hx => hx.elim) (.inl ⟨by rfl, ?_⟩) (by exact bel_of) ?_; rotate_left; (intro X hX; obtain ⟨r1, r2⟩ := Below.rules hX; clear hX; go_simp; rfl); simp only [List.getElem_toArray, List.getElem_cons_succ, List.getElem_cons_zero, Act.put, List.setIfInBounds_toArray, List.set_cons_succ, List.set_cons_zero])
  have qzd3 := ezd2.size
  refine any_run1 (i := 30) (by kernel_rfl) (by rfl) (by kernel_rfl) ?_
  intro K hK
  go_wp2_with fail
  refine (rg_any 100 170 _).mono ?_
  rintro e vzd3 ⟨rfl, hb⟩
  have ezd3 : Below vzc2.heap.size vzc2 vzd3 := ezd2.trans (hb.mono ezd2.size)
  clear hb
  refine hK _ _ (fun _ => ezd3) ?_
  clear hK K
  have qzd4 := ezd3.size
  refine any_run1 (i := 31) (by kernel_rfl) (by rfl) (by kernel_rfl) ?_
  intro K hK
  go_wp2_with fail
  refine (rg_any 400 500 _).mono ?_
  rintro e vzd4 ⟨rfl, hb⟩
  have ezd4 : Below vzc2.heap.size vzc2 vzd4 := ezd3.trans (hb.mono ezd3.size)
  clear hb
  refine hK _ _ (fun _ => ezd4) ?_
  clear hK K
  have qzd5 := ezd4.size
  refine any_run1 (i := 32) (by kernel_rfl) (by rfl) (by kernel_rfl) ?_
  intro K hK
  go_wp2_with fail
  refine (rg_any 200 400 _).mono ?_
  rintro e vzd5 ⟨rfl, hb⟩
  have ezd5 : Below vzc2.heap.size vzc2 vzd5 := ezd4.trans (hb.mono ezd4.size)
  clear hb
  refine hK _ _ (fun _ => ezd5) ?_
  clear hK K
  have qzd6 := ezd5.size
  have ezd6 : Below vzc2.heap.size vzc2 (vzd5.alloc (.cells #[.int .i64 100, .int .i64 170, .int .i64 400, .int .i64 500, .int .i64 200, .int .i64 400] 33)) := by exact bel_of
  refine any_run1 (i := 33) (by kernel_rfl) (by rfl) (by kernel_rfl) ?_
  intro K hK
  go_wp2_with fail
  refine hK _ _ (fun _ => ezd6) ?_
  clear hK K
  have qzd7 := ezd6.size
  refine any_run1 (i := 34) (by kernel_rfl) (by rfl) (by kernel_rfl) ?_
  intro K hK
  go_wp2_with fail
  refine (rangesL_any [⟨100, 170⟩, ⟨400, 500⟩, ⟨200, 400⟩] [⟨100, 170⟩, ⟨400, 500⟩, ⟨200, 400⟩] _ _ _ (by decide) (by decide) ((RS.below hr ezd6).more ezd6.size) (rs_new (BK.new _ _ _) (BK.new _ _ _).lt rfl)).mono ?_
  rintro e vzd7 ⟨rfl, hb⟩
  rw [decide_eq_true (show ([⟨100, 170⟩, ⟨400, 500⟩, ⟨200, 400⟩] : List Rg) = [⟨100, 170⟩, ⟨400, 500⟩, ⟨200, 400⟩] from rfl)]
  have ezd7 : Below vzc2.heap.size vzc2 vzd7 := ezd6.trans (hb.mono ezd6.size)
  clear hb
  refine hK _ _ (fun _ => ezd7) ?_
  clear hK K
  (refine any_take 35 ?_ (by rfl) (by kernel_rfl) (fun _ _ _ _ _ hx => hx.elim) (.inl ⟨by rfl, ?_⟩) (by exact bel_of) ?_; rotate_left; (intro X hX; obtain ⟨r1, r2⟩ := Below.rules hX; clear hX; go_simp; rfl); simp only [List.getElem_toArray, List.getElem_cons_succ, List.getElem_cons_zero, Act.put, List.setIfInBounds_toArray, List.set_cons_succ, List.set_cons_zero])
  (refine any_take 36 ?_ (by rfl) (by kernel_rfl) (fun _ _ _ _ _ hx => hx.elim) (.inl ⟨by rfl, ?_⟩) (by exact bel_of) ?_; rotate_left; (intro X hX; obtain ⟨r1, r2⟩ := Below.rules hX; clear hX; go_simp; rfl); simp only [List.getElem_toArray, List.getElem_cons_succ, List.getElem_cons_zero, Act.put, List.setIfInBounds_toArray, List.set_cons_succ, List.set_cons_zero])
  (refine any_take 37 ?_ (by rfl) (by kernel_rfl) (fun _ _ _ _ _ hx => hx.elim) (.inl ⟨by rfl, ?_⟩) (by exact bel_of) ?_; rotate_left; (intro X hX; obtain ⟨r1, r2⟩ := Below.rules hX; clear hX; go_simp; rfl); simp only [List.getElem_toArray, List.getElem_cons_succ, List.getElem_cons_zero, Act.put, List.setIfInBounds_toArray, List.set_cons_succ, List.set_cons_zero])
  (refine any_take 38 ?_ (by rfl) (by kernel_rfl) (fun _ _ _ _ _ hx => hx.elim) (.inl ⟨by rfl, ?_⟩) (by exact bel_of) ?_; rotate_left; (intro X hX; obtain ⟨r1, r2⟩ := Below.rules hX; clear hX; go_simp; rfl); simp only [List.getElem_toArray, List.getElem_cons_succ, List.getElem_cons_zero, Act.put, List.setIfInBounds_toArray, List.set_cons_succ, List.set_cons_zero])
  (refine any_take 39 ?_ (by rfl) (by kernel_rfl) (fun _ _ _ _ _ hx => hx.elim) (.inl ⟨by rfl, ?_⟩) (by exact bel_of) ?_; rotate_left; (intro X hX; obtain ⟨r1, r2⟩ := Below.rules hX; clear hX; go_simp; rfl); simp only [List.getElem_toArray, List.getElem_cons_succ, List.getElem_cons_zero, Act.put, List.setIfInBounds_toArray, List.set_cons_succ, List.set_cons_zero])
  (refine any_take 40 ?_ (by rfl) (by kernel_rfl) (fun _ _ _ _ _ hx => hx.elim) (.inl ⟨by rfl, ?_⟩) (by exact bel_of) ?_; rotate_left; (intro X hX; obtain ⟨r1, r2⟩ := Below.rules hX; clear hX; go_simp; rfl); simp only [List.getElem_toArray, List.getElem_cons_succ, List.getElem_cons_zero, Act.put, List.setIfInBounds_toArray, List.set_cons_succ, List.set_cons_zero])
  have qzd8 := ezd7.size
  refine any_run1 (i := 41) (by kernel_rfl) (by rfl) (by kernel_rfl) ?_
  intro K hK
  go_wp2_with fail
  refine (works_any _).mono ?_
  rintro e vzd8 ⟨rfl, hb⟩
  have ezd8 : Below vzc2.heap.size vzc2 vzd8 := ezd7.trans (hb.mono ezd7.size)
  clear hb
  refine hK _ _ (fun _ => ezd8) ?_
  clear hK K
  (refine any_take 42 ?_ (by rfl) (by kernel_rfl) (fun _ _ _ _ _ hx => hx.elim) (.inl ⟨by rfl, ?_⟩) (by exact bel_of) ?_; rotate_left; (intro X hX; obtain ⟨r1, r2⟩ := Below.rules hX; clear hX; go_simp; rfl); simp only [List.getElem_toArray, List.getElem_cons_succ, List.getElem_cons_zero, Act.put, List.setIfInBounds_toArray, List.set_cons_succ, List.set_cons_zero])
  refine any_run1 (i := 43) (by kernel_rfl) (by rfl) (by kernel_rfl) ?_
  intro K hK
  go_wp2_with fail
  refine hK _ _ (fun _ => ezd8) ?_
  clear hK K
  refine any_done (by kernel_rfl) (NoPanic.normal ?_)
  have hb := ezd8
  replace hC : Below n0 w vzd8 := hC.trans (hb.mono (by have := hC.size; omega))
  replace hB := (RS.below hB hb).more hb.size
  replace hS := (RP.below hS hb).more hb.size
  replace bx := bx.below hb bx.lt
  replace ax := ax.below hb ax.lt
  replace ay := ay.below hb ay.lt
  replace hr := (RS.below hr hb).more hb.size
  clear hb
  go_wp2_with fail
  exact bodyPost_ret (v := .bool true) (by simp [results, Try.results13, go_sem]) rfl ⟨rfl, by first | exact hC | (rw [hn0]; exact hC) | (with_reducible rw [hn0]; exact bel_of) | exact bel_of⟩
end Go.Proofs.Ytkibdciomheekaa

namespace Go.Proofs.Ytkibdciomheekaa.heatKnown
open Go.ChangeShapes Go.WideShapes Go.ChangeAt Go.RowKit Go.Deep

set_option maxRecDepth 100000 in
theorem lifted (os : Os) (started : os.Started) (H : Type) (enc : TypeId × Value → H) :
    ReturnsInHanded {} Try.checked os 13 .any (Rows.heatKnownSpec.pre6 enc Try.prog Try.f13 Rows.heatKnownRow.domain false) (Rows.heatKnownSpec.post enc Try.prog Try.f13 false true false false) := by
  refine returnsInHanded_of_change (C := Try.checked) own started (by kernel_rfl) Try.func13
    (ChangeSpec.witness6 (enc := enc) (C := Try.checked) false ⟨#[], #[], []⟩ 8 (by kernel_rfl) (by kernel_rfl) (by kernel_rfl) (by kernel_rfl)) ?_
  intro W base args ds gs before hval0 hW hcnd _
  have hval : ∀ (j : Nat) t v, Try.f13.params[j]? = some t → args[j]? = some v → Value.okWide Try.prog W .any base t v := hval0
  have hW2 : DataW.Whole enc Try.prog Try.f13.params.toList Rows.heatKnownSpec.vars false W args.toList ds gs before := hW
  obtain ⟨p, q, hA0, hV, rfl, hfz, hnd⟩ := hW
  have hA : DataW.TrodAll enc Try.prog W 0 (fun _ => true) true Try.f13.params.toList args.toList ds p := hA0
  rw [Try.params13] at hA hval
  obtain ⟨rfl, rfl, rfl⟩ := trodAll_none hA
  obtain ⟨rfl, rfl⟩ := trodVars_none hV
  refine (heatKnown_any  (w := W)).mono fun e W' ⟨he, hg⟩ => ?_
  subst he
  exact ⟨_, rfl, law_done hW2 rfl rfl rfl (by rw [Try.params13]; decide +kernel) hg⟩

theorem over : Rows.heatKnownRow.holds Try.pinned (OpenSpec.ofChange Rows.heatKnownSpec) :=
  OpenClaim.holds_of_wide 13 Try.f13 rfl rfl rfl rfl rfl rfl rfl ⟨rfl, rfl, rfl, rfl, rfl⟩ rfl rfl rfl rfl rfl (by kernel_rfl) Try.func13 (by kernel_rfl)
    (of_decide_eq_true (by kernel_rfl)) (by unfold Func.isWrapper; first | (rw [if_pos (by decide +kernel)]; kernel_rfl) | (rw [if_neg (by decide +kernel)]; exact ⟨rfl, rfl⟩))
    (fun os started H enc _ => lifted os started H enc)

theorem proved : Rows.HeatKnownSaid :=
  over
end Go.Proofs.Ytkibdciomheekaa.heatKnown
namespace Go.Proofs.Ytkibdciomheekaa
theorem heatKnown_proved : Rows.HeatKnownSaid := heatKnown.proved
#print axioms heatKnown_proved
end Go.Proofs.Ytkibdciomheekaa
