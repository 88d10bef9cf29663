/- The examples of the chapter hold. -/
import Derived.Test.YtkljdbgkhghiaaaP26
set_option linter.all false
set_option linter.unnecessarySimpa false
set_option linter.unusedSimpArgs false
set_option linter.unusedVariables false
set_option linter.unusedSectionVars false

set_option linter.all false
namespace Go.Proofs.Ytkljdbgkhghiaaa
open Go.RowKit Kp

set_option maxHeartbeats 8000000 in
set_option maxRecDepth 100000 in
theorem works_any (w : World) : Calls Try.prog 17 #[] w fun e w' => e = .returned (.bool true) ∧ Below w.heap.size w w' := by
  obtain ⟨n0, hn0⟩ : ∃ n, w.heap.size = n := ⟨_, rfl⟩
  have hC : Below n0 w w := Below.refl _ _
  go_enter Try.func17, Try.ntmps17
  go_wp2_with fail
  refine (book_any _).mono ?_
  rintro e w1 ⟨v, rfl, hT, hb⟩
  replace hC : Below n0 w w1 := hC.trans (hb.mono (by have := hC.size; omega))
  clear hb
  obtain ⟨A, c0, rfl⟩ := own_slice hT
  have hR := OwnT.ri hT
  clear hT
  have hl4 : bookT.length = 4 := rfl
  rw [hl4] at hR ⊢
  clear hl4
  go_wp2_with fail
  obtain ⟨m1, hm1⟩ : ∃ n, w1.heap.size = n := ⟨_, rfl⟩
  try rw [hm1]
  have hqbb : n0 ≤ m1 := by have := hC.size; omega
  have bb : BK (w1.alloc (.cells #[.int .i64 4, .slice A 4 c0] 24)) (m1) #[.int .i64 4, .slice A 4 c0] 24 := BK.new' _ _ _ (m1) hm1
  have hsbb : (w1.alloc (.cells #[.int .i64 4, .slice A 4 c0] 24)).heap.size = m1 + 1 := by simp [hm1]
  replace hC : Below n0 w (w1.alloc (.cells #[.int .i64 4, .slice A 4 c0] 24)) := Below.alloc hC (by have := hC.size; omega) _
  replace hR := (RS.below hR (w' := (w1.alloc (.cells #[.int .i64 4, .slice A 4 c0] 24))) (Below.alloc (Below.refl _ _) (Nat.le_refl _) _)).more (B' := (w1.alloc (.cells #[.int .i64 4, .slice A 4 c0] 24)).heap.size) (by simp)
  generalize (w1.alloc (.cells #[.int .i64 4, .slice A 4 c0] 24)) = Wbb at *
  clear hm1
  clear hsbb
  refine (spanP_any 4 0 1 bookT _ _ (by decide) hR).mono ?_
  rintro e w2 ⟨rfl, hb⟩
  replace hC : Below n0 w w2 := hC.trans (hb.mono (by have := hC.size; omega))
  replace hR := (RS.below hR hb).more hb.size
  replace bb := bb.below hb bb.lt
  clear hb
  rw [ex_span]
  have lbb := bb.lt
  have bbc0 := bb.cell 0
  have bbc1 := bb.cell 1
  simp at bbc0 bbc1
  go_wp2_with fail
  clear lbb bbc0 bbc1
  obtain ⟨m2, hm2⟩ : ∃ n, w2.heap.size = n := ⟨_, rfl⟩
  try rw [hm2]
  have hqbr : n0 ≤ m2 := by have := hC.size; omega
  have br : BK (w2.alloc (.cells #[.int .i64 15, .int .i64 30] 36)) (m2) #[.int .i64 15, .int .i64 30] 36 := BK.new' _ _ _ (m2) hm2
  have hsbr : (w2.alloc (.cells #[.int .i64 15, .int .i64 30] 36)).heap.size = m2 + 1 := by simp [hm2]
  replace hC : Below n0 w (w2.alloc (.cells #[.int .i64 15, .int .i64 30] 36)) := Below.alloc hC (by have := hC.size; omega) _
  replace hR := (RS.below hR (w' := (w2.alloc (.cells #[.int .i64 15, .int .i64 30] 36))) (Below.alloc (Below.refl _ _) (Nat.le_refl _) _)).more (B' := (w2.alloc (.cells #[.int .i64 15, .int .i64 30] 36)).heap.size) (by simp)
  replace bb := bb.alloc (.cells #[.int .i64 15, .int .i64 30] 36)
  generalize (w2.alloc (.cells #[.int .i64 15, .int .i64 30] 36)) = Wbr at *
  clear hm2
  clear hsbr
  refine (leastP_any 4 bookT _ _ (by decide) hR).mono ?_
  rintro e w3 ⟨vl, rfl, hL, hb⟩
  replace hC : Below n0 w w3 := hC.trans (hb.mono (by have := hC.size; omega))
  replace hR := (RS.below hR hb).more hb.size
  replace bb := bb.below hb bb.lt
  replace br := br.below hb br.lt
  clear hb
  rw [ex_least] at hL
  rw [ex_open0]
  have lbb := bb.lt
  have bbc0 := bb.cell 0
  have bbc1 := bb.cell 1
  simp at bbc0 bbc1
  go_wp2_with fail
  clear lbb bbc0 bbc1
  refine (sharpP_any 4 3 bookT _ _ (by decide) hR).mono ?_
  rintro e w4 ⟨rfl, hb⟩
  replace hC : Below n0 w w4 := hC.trans (hb.mono (by have := hC.size; omega))
  replace hR := (RS.below hR hb).more hb.size
  replace bb := bb.below hb bb.lt
  replace br := br.below hb br.lt
  replace hL := (RS.below hL hb).more hb.size
  clear hb
  rw [ex_sharp]
  have lbb := bb.lt
  have bbc0 := bb.cell 0
  have bbc1 := bb.cell 1
  simp at bbc0 bbc1
  go_upto_region 5 with fail
  obtain ⟨m3, hm3⟩ : ∃ n, w4.heap.size = n := ⟨_, rfl⟩
  try rw [hm3]
  have hqbs : n0 ≤ m3 := by have := hC.size; omega
  have bs : BK (w4.alloc (.cells #[.int .i64 0, .int .i64 990] 36)) (m3) #[.int .i64 0, .int .i64 990] 36 := BK.new' _ _ _ (m3) hm3
  have hsbs : (w4.alloc (.cells #[.int .i64 0, .int .i64 990] 36)).heap.size = m3 + 1 := by simp [hm3]
  replace hC : Below n0 w (w4.alloc (.cells #[.int .i64 0, .int .i64 990] 36)) := Below.alloc hC (by have := hC.size; omega) _
  replace hR := (RS.below hR (w' := (w4.alloc (.cells #[.int .i64 0, .int .i64 990] 36))) (Below.alloc (Below.refl _ _) (Nat.le_refl _) _)).more (B' := (w4.alloc (.cells #[.int .i64 0, .int .i64 990] 36)).heap.size) (by simp)
  replace bb := bb.alloc (.cells #[.int .i64 0, .int .i64 990] 36)
  replace br := br.alloc (.cells #[.int .i64 0, .int .i64 990] 36)
  replace hL := (RS.below hL (w' := (w4.alloc (.cells #[.int .i64 0, .int .i64 990] 36))) (Below.alloc (Below.refl _ _) (Nat.le_refl _) _)).more (B' := (w4.alloc (.cells #[.int .i64 0, .int .i64 990] 36)).heap.size) (by simp)
  generalize (w4.alloc (.cells #[.int .i64 0, .int .i64 990] 36)) = Wbs at *
  clear hm3
  clear lbb bbc0 bbc1
  have lbb := bb.lt
  have bbc0 := bb.cell 0
  have bbc1 := bb.cell 1
  simp at bbc0 bbc1
  clear hsbs
  refine wp_region_noPanic (plain_any [0, 5, 6, 7] (Below Wbs.heap.size Wbs) mixed ?_)
  (refine any_take 0 ?_ (by rfl) (by kernel_rfl) (fun _ _ _ _ _ hx => hx.elim) (.inl ⟨by rfl, ?_⟩) (by exact bel_of) ?_; rotate_left; (intro X hX; obtain ⟨r1, r2⟩ := Below.rules hX; clear hX; go_simp; rfl); simp only [List.getElem_toArray, List.getElem_cons_succ, List.getElem_cons_zero, Act.put, List.setIfInBounds_toArray, List.set_cons_succ, List.set_cons_zero])
  have d0z5 : Below Wbs.heap.size Wbs Wbs.drew := by exact bel_of
  have qz51 := d0z5.size
  refine any_run1 (i := 1) (by kernel_rfl) (by rfl) (by kernel_rfl) ?_
  intro K hK
  go_wp2_with fail
  refine (link_any 2 1 1 _).mono ?_
  rintro e vz51 ⟨rfl, hb⟩
  unfold klV
  have ez51 : Below Wbs.heap.size Wbs vz51 := d0z5.trans (hb.mono d0z5.size)
  clear hb
  refine hK _ _ (fun _ => ez51) ?_
  clear hK K
  have qz52 := ez51.size
  refine any_run1 (i := 2) (by kernel_rfl) (by rfl) (by kernel_rfl) ?_
  intro K hK
  go_wp2_with fail
  refine (link_any 1 0 0 _).mono ?_
  rintro e vz52 ⟨rfl, hb⟩
  unfold klV
  have ez52 : Below Wbs.heap.size Wbs vz52 := ez51.trans (hb.mono ez51.size)
  clear hb
  refine hK _ _ (fun _ => ez52) ?_
  clear hK K
  have qz53 := ez52.size
  have ez53 : Below Wbs.heap.size Wbs (vz52.alloc (.cells #[.int .i64 2, .int .i64 1, .int .i64 1, .int .i64 1, .int .i64 0, .int .i64 0] 44)) := by exact bel_of
  refine any_run1 (i := 3) (by kernel_rfl) (by rfl) (by kernel_rfl) ?_
  intro K hK
  go_wp2_with fail
  refine hK _ _ (fun _ => ez53) ?_
  clear hK K
  have qz54 := ez53.size
  refine any_run1 (i := 4) (by kernel_rfl) (by rfl) (by kernel_rfl) ?_
  intro K hK
  go_wp2_with fail
  refine (checkChain_any 4 bookT [⟨2, 1, 1⟩, ⟨1, 0, 0⟩] _ _ _ (by decide) (by decide) ((RS.below hR ez53).more ez53.size) (rl_new (BK.new _ _ _) rfl 2 rfl)).mono ?_
  rintro e vz54 ⟨rfl, hb⟩
  rw [ex_chain1]
  unfold resV
  have ez54 : Below Wbs.heap.size Wbs vz54 := ez53.trans (hb.mono ez53.size)
  clear hb
  refine hK _ _ (fun _ => ez54) ?_
  clear hK K
  (refine any_take 5 ?_ (by rfl) (by kernel_rfl) (fun _ _ _ _ _ hx => hx.elim) (.inl ⟨by rfl, ?_⟩) (by exact bel_of) ?_; rotate_left; (intro X hX; obtain ⟨r1, r2⟩ := Below.rules hX; clear hX; go_simp; rfl); simp only [List.getElem_toArray, List.getElem_cons_succ, List.getElem_cons_zero, Act.put, List.setIfInBounds_toArray, List.set_cons_succ, List.set_cons_zero])
  (refine any_take 6 ?_ (by rfl) (by kernel_rfl) (fun _ _ _ _ _ hx => hx.elim) (.inl ⟨by rfl, ?_⟩) (by exact bel_of) ?_; rotate_left; (intro X hX; obtain ⟨r1, r2⟩ := Below.rules hX; clear hX; go_simp; rfl); simp only [List.getElem_toArray, List.getElem_cons_succ, List.getElem_cons_zero, Act.put, List.setIfInBounds_toArray, List.set_cons_succ, List.set_cons_zero])
  (refine any_take 7 ?_ (by rfl) (by kernel_rfl) (fun _ _ _ _ _ hx => hx.elim) (.inl ⟨by rfl, ?_⟩) (by exact bel_of) ?_; rotate_left; (intro X hX; obtain ⟨r1, r2⟩ := Below.rules hX; clear hX; go_simp; rfl); simp only [List.getElem_toArray, List.getElem_cons_succ, List.getElem_cons_zero, Act.put, List.setIfInBounds_toArray, List.set_cons_succ, List.set_cons_zero])
  refine any_run1 (i := 8) (by kernel_rfl) (by rfl) (by kernel_rfl) ?_
  intro K hK
  go_wp2_with fail
  refine hK _ _ (fun _ => ez54) ?_
  clear hK K
  refine any_run1 (i := 9) (by kernel_rfl) (by rfl) (by kernel_rfl) ?_
  intro K hK
  go_wp2_with fail
  refine hK _ _ (fun _ => ez54) ?_
  clear hK K
  refine any_done (by kernel_rfl) (NoPanic.normal ?_)
  have hb := ez54
  replace hC : Below n0 w vz54 := hC.trans (hb.mono (by have := hC.size; omega))
  replace hR := (RS.below hR hb).more hb.size
  replace bb := bb.below hb bb.lt
  replace br := br.below hb br.lt
  replace hL := (RS.below hL hb).more hb.size
  replace bs := bs.below hb bs.lt
  clear hb
  clear lbb bbc0 bbc1
  have lbb := bb.lt
  have bbc0 := bb.cell 0
  have bbc1 := bb.cell 1
  simp at bbc0 bbc1
  go_upto_region 6 with fail
  refine wp_region_noPanic (plain_any [0, 5, 6, 7] (Below vz54.heap.size vz54) mixed ?_)
  (refine any_take 0 ?_ (by rfl) (by kernel_rfl) (fun _ _ _ _ _ hx => hx.elim) (.inl ⟨by rfl, ?_⟩) (by exact bel_of) ?_; rotate_left; (intro X hX; obtain ⟨r1, r2⟩ := Below.rules hX; clear hX; go_simp; rfl); simp only [List.getElem_toArray, List.getElem_cons_succ, List.getElem_cons_zero, Act.put, List.setIfInBounds_toArray, List.set_cons_succ, List.set_cons_zero])
  have d0z6 : Below vz54.heap.size vz54 vz54.drew := by exact bel_of
  have qz61 := d0z6.size
  refine any_run1 (i := 1) (by kernel_rfl) (by rfl) (by kernel_rfl) ?_
  intro K hK
  go_wp2_with fail
  refine (link_any 2 1 1 _).mono ?_
  rintro e vz61 ⟨rfl, hb⟩
  unfold klV
  have ez61 : Below vz54.heap.size vz54 vz61 := d0z6.trans (hb.mono d0z6.size)
  clear hb
  refine hK _ _ (fun _ => ez61) ?_
  clear hK K
  have qz62 := ez61.size
  refine any_run1 (i := 2) (by kernel_rfl) (by rfl) (by kernel_rfl) ?_
  intro K hK
  go_wp2_with fail
  refine (link_any 0 1 0 _).mono ?_
  rintro e vz62 ⟨rfl, hb⟩
  unfold klV
  have ez62 : Below vz54.heap.size vz54 vz62 := ez61.trans (hb.mono ez61.size)
  clear hb
  refine hK _ _ (fun _ => ez62) ?_
  clear hK K
  have qz63 := ez62.size
  have ez63 : Below vz54.heap.size vz54 (vz62.alloc (.cells #[.int .i64 2, .int .i64 1, .int .i64 1, .int .i64 0, .int .i64 1, .int .i64 0] 44)) := by exact bel_of
  refine any_run1 (i := 3) (by kernel_rfl) (by rfl) (by kernel_rfl) ?_
  intro K hK
  go_wp2_with fail
  refine hK _ _ (fun _ => ez63) ?_
  clear hK K
  have qz64 := ez63.size
  refine any_run1 (i := 4) (by kernel_rfl) (by rfl) (by kernel_rfl) ?_
  intro K hK
  go_wp2_with fail
  refine (checkChain_any 4 bookT [⟨2, 1, 1⟩, ⟨0, 1, 0⟩] _ _ _ (by decide) (by decide) ((RS.below hR ez63).more ez63.size) (rl_new (BK.new _ _ _) rfl 2 rfl)).mono ?_
  rintro e vz64 ⟨rfl, hb⟩
  rw [ex_chain2]
  unfold resV
  have ez64 : Below vz54.heap.size vz54 vz64 := ez63.trans (hb.mono ez63.size)
  clear hb
  refine hK _ _ (fun _ => ez64) ?_
  clear hK K
  (refine any_take 5 ?_ (by rfl) (by kernel_rfl) (fun _ _ _ _ _ hx => hx.elim) (.inl ⟨by rfl, ?_⟩) (by exact bel_of) ?_; rotate_left; (intro X hX; obtain ⟨r1, r2⟩ := Below.rules hX; clear hX; go_simp; rfl); simp only [List.getElem_toArray, List.getElem_cons_succ, List.getElem_cons_zero, Act.put, List.setIfInBounds_toArray, List.set_cons_succ, List.set_cons_zero])
  (refine any_take 6 ?_ (by rfl) (by kernel_rfl) (fun _ _ _ _ _ hx => hx.elim) (.inl ⟨by rfl, ?_⟩) (by exact bel_of) ?_; rotate_left; (intro X hX; obtain ⟨r1, r2⟩ := Below.rules hX; clear hX; go_simp; rfl); simp only [List.getElem_toArray, List.getElem_cons_succ, List.getElem_cons_zero, Act.put, List.setIfInBounds_toArray, List.set_cons_succ, List.set_cons_zero])
  (refine any_take 7 ?_ (by rfl) (by kernel_rfl) (fun _ _ _ _ _ hx => hx.elim) (.inl ⟨by rfl, ?_⟩) (by exact bel_of) ?_; rotate_left; (intro X hX; obtain ⟨r1, r2⟩ := Below.rules hX; clear hX; go_simp; rfl); simp only [List.getElem_toArray, List.getElem_cons_succ, List.getElem_cons_zero, Act.put, List.setIfInBounds_toArray, List.set_cons_succ, List.set_cons_zero])
  refine any_run1 (i := 8) (by kernel_rfl) (by rfl) (by kernel_rfl) ?_
  intro K hK
  go_wp2_with fail
  refine hK _ _ (fun _ => ez64) ?_
  clear hK K
  refine any_run1 (i := 9) (by kernel_rfl) (by rfl) (by kernel_rfl) ?_
  intro K hK
  go_wp2_with fail
  refine hK _ _ (fun _ => ez64) ?_
  clear hK K
  refine any_done (by kernel_rfl) (NoPanic.normal ?_)
  have hb := ez64
  replace hC : Below n0 w vz64 := hC.trans (hb.mono (by have := hC.size; omega))
  replace hR := (RS.below hR hb).more hb.size
  replace bb := bb.below hb bb.lt
  replace br := br.below hb br.lt
  replace hL := (RS.below hL hb).more hb.size
  replace bs := bs.below hb bs.lt
  clear hb
  clear lbb bbc0 bbc1
  have lbb := bb.lt
  have bbc0 := bb.cell 0
  have bbc1 := bb.cell 1
  simp at bbc0 bbc1
  go_wp2_with fail
  clear lbb bbc0 bbc1
  refine (mayP_any 4 bookT _ _ (by decide) hR).mono ?_
  rintro e w5 ⟨vm, rfl, hM, hb⟩
  replace hC : Below n0 w w5 := hC.trans (hb.mono (by have := hC.size; omega))
  replace hR := (RS.below hR hb).more hb.size
  replace bb := bb.below hb bb.lt
  replace br := br.below hb br.lt
  replace hL := (RS.below hL hb).more hb.size
  replace bs := bs.below hb bs.lt
  clear hb
  rw [ex_may] at hM
  rw [ex_open0]
  have lbb := bb.lt
  have bbc0 := bb.cell 0
  have bbc1 := bb.cell 1
  simp at bbc0 bbc1
  go_wp2_with fail
  clear lbb bbc0 bbc1
  refine (sureP_any 4 bookT _ _ (by decide) hR).mono ?_
  rintro e w6 ⟨vu, rfl, hU, hb⟩
  replace hC : Below n0 w w6 := hC.trans (hb.mono (by have := hC.size; omega))
  replace hR := (RS.below hR hb).more hb.size
  replace bb := bb.below hb bb.lt
  replace br := br.below hb br.lt
  replace hL := (RS.below hL hb).more hb.size
  replace bs := bs.below hb bs.lt
  replace hM := (RS.below hM hb).more hb.size
  clear hb
  rw [ex_sure] at hU
  rw [ex_open0]
  have lbb := bb.lt
  have bbc0 := bb.cell 0
  have bbc1 := bb.cell 1
  simp at bbc0 bbc1
  go_wp2_with fail
  clear lbb bbc0 bbc1
  refine (widestP_any 4 bookT _ _ (by decide) hR).mono ?_
  rintro e w7 ⟨rfl, hb⟩
  replace hC : Below n0 w w7 := hC.trans (hb.mono (by have := hC.size; omega))
  replace hR := (RS.below hR hb).more hb.size
  replace bb := bb.below hb bb.lt
  replace br := br.below hb br.lt
  replace hL := (RS.below hL hb).more hb.size
  replace bs := bs.below hb bs.lt
  replace hM := (RS.below hM hb).more hb.size
  replace hU := (RS.below hU hb).more hb.size
  clear hb
  rw [ex_widest]
  have lbb := bb.lt
  have bbc0 := bb.cell 0
  have bbc1 := bb.cell 1
  simp at bbc0 bbc1
  go_upto_region 10 with fail
  refine wp_region_noPanic (plain_any [0, 3, 4, 5] (Below w7.heap.size w7) mixed ?_)
  (refine any_take 0 ?_ (by rfl) (by kernel_rfl) (fun _ _ _ _ _ hx => hx.elim) (.inl ⟨by rfl, ?_⟩) (by exact bel_of) ?_; rotate_left; (intro X hX; obtain ⟨r1, r2⟩ := Below.rules hX; clear hX; go_simp; rfl); simp only [List.getElem_toArray, List.getElem_cons_succ, List.getElem_cons_zero, Act.put, List.setIfInBounds_toArray, List.set_cons_succ, List.set_cons_zero])
  have d0zt : Below w7.heap.size w7 w7.drew := by exact bel_of
  have qzt1 := d0zt.size
  refine any_run1 (i := 1) (by kernel_rfl) (by rfl) (by kernel_rfl) ?_
  intro K hK
  go_wp2_with fail
  refine (test_any 3 2 26 30 _).mono ?_
  rintro e vzt1 ⟨rfl, hb⟩
  have ezt1 : Below w7.heap.size w7 vzt1 := d0zt.trans (hb.mono d0zt.size)
  clear hb
  refine hK _ _ (fun _ => ezt1) ?_
  clear hK K
  have qzt2 := ezt1.size
  refine any_run1 (i := 2) (by kernel_rfl) (by rfl) (by kernel_rfl) ?_
  intro K hK
  go_wp2_with fail
  refine (tellsP_any 4 bookT ⟨3, 2, 26, 30⟩ _ _ (by decide) ((RS.below hR ezt1).more ezt1.size)).mono ?_
  rintro e vzt2 ⟨rfl, hb⟩
  rw [ex_tells]
  have ezt2 : Below w7.heap.size w7 vzt2 := ezt1.trans (hb.mono ezt1.size)
  clear hb
  refine hK _ _ (fun _ => ezt2) ?_
  clear hK K
  (refine any_take 3 ?_ (by rfl) (by kernel_rfl) (fun _ _ _ _ _ hx => hx.elim) (.inl ⟨by rfl, ?_⟩) (by exact bel_of) ?_; rotate_left; (intro X hX; obtain ⟨r1, r2⟩ := Below.rules hX; clear hX; go_simp; rfl); simp only [List.getElem_toArray, List.getElem_cons_succ, List.getElem_cons_zero, Act.put, List.setIfInBounds_toArray, List.set_cons_succ, List.set_cons_zero])
  (refine any_take 4 ?_ (by rfl) (by kernel_rfl) (fun _ _ _ _ _ hx => hx.elim) (.inl ⟨by rfl, ?_⟩) (by exact bel_of) ?_; rotate_left; (intro X hX; obtain ⟨r1, r2⟩ := Below.rules hX; clear hX; go_simp; rfl); simp only [List.getElem_toArray, List.getElem_cons_succ, List.getElem_cons_zero, Act.put, List.setIfInBounds_toArray, List.set_cons_succ, List.set_cons_zero])
  (refine any_take 5 ?_ (by rfl) (by kernel_rfl) (fun _ _ _ _ _ hx => hx.elim) (.inl ⟨by rfl, ?_⟩) (by exact bel_of) ?_; rotate_left; (intro X hX; obtain ⟨r1, r2⟩ := Below.rules hX; clear hX; go_simp; rfl); simp only [List.getElem_toArray, List.getElem_cons_succ, List.getElem_cons_zero, Act.put, List.setIfInBounds_toArray, List.set_cons_succ, List.set_cons_zero])
  refine any_run1 (i := 6) (by kernel_rfl) (by rfl) (by kernel_rfl) ?_
  intro K hK
  go_wp2_with fail
  refine hK _ _ (fun _ => ezt2) ?_
  clear hK K
  refine any_run1 (i := 7) (by kernel_rfl) (by rfl) (by kernel_rfl) ?_
  intro K hK
  go_wp2_with fail
  refine hK _ _ (fun _ => ezt2) ?_
  clear hK K
  refine any_done (by kernel_rfl) (NoPanic.normal ?_)
  have hb := ezt2
  replace hC : Below n0 w vzt2 := hC.trans (hb.mono (by have := hC.size; omega))
  replace hR := (RS.below hR hb).more hb.size
  replace bb := bb.below hb bb.lt
  replace br := br.below hb br.lt
  replace hL := (RS.below hL hb).more hb.size
  replace bs := bs.below hb bs.lt
  replace hM := (RS.below hM hb).more hb.size
  replace hU := (RS.below hU hb).more hb.size
  clear hb
  clear lbb bbc0 bbc1
  have lbb := bb.lt
  have bbc0 := bb.cell 0
  have bbc1 := bb.cell 1
  simp at bbc0 bbc1
  go_wp2_with fail
  clear lbb bbc0 bbc1
  refine (circleP_any 4 bookT _ _ (by decide) hR).mono ?_
  rintro e w8 ⟨vc, c1, rfl, hc1, _, _, hb⟩
  replace hC : Below n0 w w8 := hC.trans (hb.mono (by have := hC.size; omega))
  replace hR := (RS.below hR hb).more hb.size
  replace bb := bb.below hb bb.lt
  replace br := br.below hb br.lt
  replace hL := (RS.below hL hb).more hb.size
  replace bs := bs.below hb bs.lt
  replace hM := (RS.below hM hb).more hb.size
  replace hU := (RS.below hU hb).more hb.size
  clear hb
  clear hc1
  rw [ex_circle]
  have lbb := bb.lt
  have bbc0 := bb.cell 0
  have bbc1 := bb.cell 1
  simp at bbc0 bbc1
  go_wp2_with fail
  clear lbb bbc0 bbc1
  refine (wrong_any _).mono ?_
  rintro e w9 ⟨vw, rfl, hW, hb⟩
  replace hC : Below n0 w w9 := hC.trans (hb.mono (by have := hC.size; omega))
  replace hR := (RS.below hR hb).more hb.size
  replace bb := bb.below hb bb.lt
  replace br := br.below hb br.lt
  replace hL := (RS.below hL hb).more hb.size
  replace bs := bs.below hb bs.lt
  replace hM := (RS.below hM hb).more hb.size
  replace hU := (RS.below hU hb).more hb.size
  clear hb
  have hW2 := OwnT.ri hW
  clear hW
  go_wp2_with fail
  refine (circleP_any 4 wrongT _ _ (by decide) hW2).mono ?_
  rintro e w10 ⟨vx, c2, rfl, hX, _, hcc, hb⟩
  replace hC : Below n0 w w10 := hC.trans (hb.mono (by have := hC.size; omega))
  replace hR := (RS.below hR hb).more hb.size
  replace bb := bb.below hb bb.lt
  replace br := br.below hb br.lt
  replace hL := (RS.below hL hb).more hb.size
  replace bs := bs.below hb bs.lt
  replace hM := (RS.below hM hb).more hb.size
  replace hU := (RS.below hU hb).more hb.size
  clear hb
  clear hW2
  have hc2 := hcc ex_circle2
  clear hcc
  have HC2 := Lib.hid hc2
  clear hc2
  rw [ex_circle2]
  go_wp2_with fail
  refine (wrong_any _).mono ?_
  rintro e w11 ⟨vw2, rfl, hW, hb⟩
  replace hC : Below n0 w w11 := hC.trans (hb.mono (by have := hC.size; omega))
  replace hR := (RS.below hR hb).more hb.size
  replace bb := bb.below hb bb.lt
  replace br := br.below hb br.lt
  replace hL := (RS.below hL hb).more hb.size
  replace bs := bs.below hb bs.lt
  replace hM := (RS.below hM hb).more hb.size
  replace hU := (RS.below hU hb).more hb.size
  replace hX := (RS.below hX hb).more hb.size
  clear hb
  have hW2 := OwnT.ri hW
  clear hW
  go_wp2_with fail
  refine (spanP_any 4 0 1 wrongT _ _ (by decide) hW2).mono ?_
  rintro e w12 ⟨rfl, hb⟩
  replace hC : Below n0 w w12 := hC.trans (hb.mono (by have := hC.size; omega))
  replace hR := (RS.below hR hb).more hb.size
  replace bb := bb.below hb bb.lt
  replace br := br.below hb br.lt
  replace hL := (RS.below hL hb).more hb.size
  replace bs := bs.below hb bs.lt
  replace hM := (RS.below hM hb).more hb.size
  replace hU := (RS.below hU hb).more hb.size
  replace hX := (RS.below hX hb).more hb.size
  clear hb
  clear hW2
  rw [ex_span2]
  have lbb := bb.lt
  have bbc0 := bb.cell 0
  have bbc1 := bb.cell 1
  simp at bbc0 bbc1
  go_wp2_with fail
  clear lbb bbc0 bbc1
  obtain ⟨m4, hm4⟩ : ∃ n, w12.heap.size = n := ⟨_, rfl⟩
  try rw [hm4]
  have hqbz : n0 ≤ m4 := by have := hC.size; omega
  have bz : BK (w12.alloc (.cells #[.int .i64 0, .int .i64 0] 36)) (m4) #[.int .i64 0, .int .i64 0] 36 := BK.new' _ _ _ (m4) hm4
  have hsbz : (w12.alloc (.cells #[.int .i64 0, .int .i64 0] 36)).heap.size = m4 + 1 := by simp [hm4]
  replace hC : Below n0 w (w12.alloc (.cells #[.int .i64 0, .int .i64 0] 36)) := Below.alloc hC (by have := hC.size; omega) _
  replace hR := (RS.below hR (w' := (w12.alloc (.cells #[.int .i64 0, .int .i64 0] 36))) (Below.alloc (Below.refl _ _) (Nat.le_refl _) _)).more (B' := (w12.alloc (.cells #[.int .i64 0, .int .i64 0] 36)).heap.size) (by simp)
  replace bb := bb.alloc (.cells #[.int .i64 0, .int .i64 0] 36)
  replace br := br.alloc (.cells #[.int .i64 0, .int .i64 0] 36)
  replace hL := (RS.below hL (w' := (w12.alloc (.cells #[.int .i64 0, .int .i64 0] 36))) (Below.alloc (Below.refl _ _) (Nat.le_refl _) _)).more (B' := (w12.alloc (.cells #[.int .i64 0, .int .i64 0] 36)).heap.size) (by simp)
  replace bs := bs.alloc (.cells #[.int .i64 0, .int .i64 0] 36)
  replace hM := (RS.below hM (w' := (w12.alloc (.cells #[.int .i64 0, .int .i64 0] 36))) (Below.alloc (Below.refl _ _) (Nat.le_refl _) _)).more (B' := (w12.alloc (.cells #[.int .i64 0, .int .i64 0] 36)).heap.size) (by simp)
  replace hU := (RS.below hU (w' := (w12.alloc (.cells #[.int .i64 0, .int .i64 0] 36))) (Below.alloc (Below.refl _ _) (Nat.le_refl _) _)).more (B' := (w12.alloc (.cells #[.int .i64 0, .int .i64 0] 36)).heap.size) (by simp)
  replace hX := (RS.below hX (w' := (w12.alloc (.cells #[.int .i64 0, .int .i64 0] 36))) (Below.alloc (Below.refl _ _) (Nat.le_refl _) _)).more (B' := (w12.alloc (.cells #[.int .i64 0, .int .i64 0] 36)).heap.size) (by simp)
  generalize (w12.alloc (.cells #[.int .i64 0, .int .i64 0] 36)) = Wbz at *
  clear hm4
  clear hsbz
  refine (chain_any 4 0 2 bookT _ _ (by decide) hR).mono ?_
  rintro e w13 ⟨vy, c3, rfl, hY, _, hok, hb⟩
  replace hC : Below n0 w w13 := hC.trans (hb.mono (by have := hC.size; omega))
  replace hR := (RS.below hR hb).more hb.size
  replace bb := bb.below hb bb.lt
  replace br := br.below hb br.lt
  replace hL := (RS.below hL hb).more hb.size
  replace bs := bs.below hb bs.lt
  replace hM := (RS.below hM hb).more hb.size
  replace hU := (RS.below hU hb).more hb.size
  replace hX := (RS.below hX hb).more hb.size
  replace bz := bz.below hb bz.lt
  clear hb
  have hk := hok ex_two
  clear hok
  have HK := Lib.hid hk
  clear hk
  rw [ex_two]
  have lbb := bb.lt
  have bbc0 := bb.cell 0
  have bbc1 := bb.cell 1
  simp at bbc0 bbc1
  go_wp2_with fail
  clear lbb bbc0 bbc1
  refine (reach_any 4 0 2 bookT _ _ (by decide) hR).mono ?_
  rintro e w14 ⟨vz, rfl, hZ, hb⟩
  replace hC : Below n0 w w14 := hC.trans (hb.mono (by have := hC.size; omega))
  replace hR := (RS.below hR hb).more hb.size
  replace bb := bb.below hb bb.lt
  replace br := br.below hb br.lt
  replace hL := (RS.below hL hb).more hb.size
  replace bs := bs.below hb bs.lt
  replace hM := (RS.below hM hb).more hb.size
  replace hU := (RS.below hU hb).more hb.size
  replace hX := (RS.below hX hb).more hb.size
  replace bz := bz.below hb bz.lt
  replace hY := (RS.below hY hb).more hb.size
  clear hb
  rw [if_pos ex_two] at hZ
  have hre : reachL (4 : Int).toNat bookT (2 : Int).toNat = [35, 5, 0, 25] := ex_reach
  rw [hre] at hZ
  clear hre
  rw [ex_two]
  have lbb := bb.lt
  have bbc0 := bb.cell 0
  have bbc1 := bb.cell 1
  simp at bbc0 bbc1
  go_wp2_with fail
  clear lbb bbc0 bbc1
  have hck : chainR 4 bookT c3 = (35, 0) := by have := HK.out.1; rw [show D (4 : Int).toNat bookT (2 : Int).toNat (0 : Int).toNat = 35 from ex_D] at this; exact this
  have hc40 : c3.length ≤ 1000 := by have := HK.out.2.2.1; omega
  have HCK := Lib.hid hck
  clear hck
  refine (refChain_any 4 bookT c3 _ _ _ (by decide) hc40 hR hY).mono ?_
  rintro e w15 ⟨rfl, hb⟩
  replace hC : Below n0 w w15 := hC.trans (hb.mono (by have := hC.size; omega))
  replace hR := (RS.below hR hb).more hb.size
  replace bb := bb.below hb bb.lt
  replace br := br.below hb br.lt
  replace hL := (RS.below hL hb).more hb.size
  replace bs := bs.below hb bs.lt
  replace hM := (RS.below hM hb).more hb.size
  replace hU := (RS.below hU hb).more hb.size
  replace hX := (RS.below hX hb).more hb.size
  replace bz := bz.below hb bz.lt
  replace hY := (RS.below hY hb).more hb.size
  replace hZ := (RS.below hZ hb).more hb.size
  clear hb
  rw [HCK.out]
  unfold resV
  obtain ⟨A2, k2, b2, o2, rfl, hA2, hcz⟩ := RI.cells hZ
  obtain ⟨rfl, hb2⟩ := hA2 (by decide)
  have z0 := (hcz 0 (by decide)).trans (show some (Value.int .i64 (nthI [35, 5, 0, 25] 0)) = some (.int .i64 35) from rfl)
  have z2 := (hcz 2 (by decide)).trans (show some (Value.int .i64 (nthI [35, 5, 0, 25] 2)) = some (.int .i64 0) from rfl)
  clear hcz hA2
  have hl4 : ([35, 5, 0, 25] : List Int).length = 4 := rfl
  rw [hl4] at hZ ⊢
  clear hl4
  rw [Nat.add_zero] at z0
  have lbb := bb.lt
  have bbc0 := bb.cell 0
  have bbc1 := bb.cell 1
  simp at bbc0 bbc1
  have lbr := br.lt
  have brc0 := br.cell 0
  have brc1 := br.cell 1
  simp at brc0 brc1
  have lbs := bs.lt
  have bsc0 := bs.cell 0
  have bsc1 := bs.cell 1
  simp at bsc0 bsc1
  go_upto_region 19 with fail
  simp only [List.append_eq, List.cons_append, List.nil_append]
  refine wp_region_noPanic (plain_any [0, 1, 2, 3, 4, 5, 6, 7, 8, 9, 10, 11, 12, 13, 14, 15, 16, 18, 19, 20, 21, 22, 23, 24, 25, 26, 27, 28, 29, 30, 31, 33, 34, 35, 36, 39, 40, 41, 43, 44, 45, 46, 47, 48, 49, 50, 53, 54, 55, 58, 59, 60, 61, 62, 63, 64, 65, 66, 67, 68, 69, 70, 71, 73, 75] (Below w15.heap.size w15) mixed ?_)
  (refine any_take 0 ?_ (by rfl) (by kernel_rfl) (fun _ _ _ _ _ hx => hx.elim) (.inl ⟨by rfl, ?_⟩) (by exact bel_of) ?_; rotate_left; (intro X hX; obtain ⟨r1, r2⟩ := Below.rules hX; clear hX; go_simp; rfl); simp only [List.getElem_toArray, List.getElem_cons_succ, List.getElem_cons_zero, Act.put, List.setIfInBounds_toArray, List.set_cons_succ, List.set_cons_zero])
  have d0zf : Below w15.heap.size w15 w15.drew := by exact bel_of
  (refine any_take 1 ?_ (by rfl) (by kernel_rfl) (fun _ _ _ _ _ hx => hx.elim) (.inl ⟨by rfl, ?_⟩) (by exact bel_of) ?_; rotate_left; (intro X hX; obtain ⟨r1, r2⟩ := Below.rules hX; clear hX; go_simp; rfl); simp only [List.getElem_toArray, List.getElem_cons_succ, List.getElem_cons_zero, Act.put, List.setIfInBounds_toArray, List.set_cons_succ, List.set_cons_zero])
  (refine any_take 2 ?_ (by rfl) (by kernel_rfl) (fun _ _ _ _ _ hx => hx.elim) (.inl ⟨by rfl, ?_⟩) (by exact bel_of) ?_; rotate_left; (intro X hX; obtain ⟨r1, r2⟩ := Below.rules hX; clear hX; go_simp; rfl); simp only [List.getElem_toArray, List.getElem_cons_succ, List.getElem_cons_zero, Act.put, List.setIfInBounds_toArray, List.set_cons_succ, List.set_cons_zero])
  (refine any_take 3 ?_ (by rfl) (by kernel_rfl) (fun _ _ _ _ _ hx => hx.elim) (.inl ⟨by rfl, ?_⟩) (by exact bel_of) ?_; rotate_left; (intro X hX; obtain ⟨r1, r2⟩ := Below.rules hX; clear hX; go_simp; rfl); simp only [List.getElem_toArray, List.getElem_cons_succ, List.getElem_cons_zero, Act.put, List.setIfInBounds_toArray, List.set_cons_succ, List.set_cons_zero])
  (refine any_take 4 ?_ (by rfl) (by kernel_rfl) (fun _ _ _ _ _ hx => hx.elim) (.inl ⟨by rfl, ?_⟩) (by exact bel_of) ?_; rotate_left; (intro X hX; obtain ⟨r1, r2⟩ := Below.rules hX; clear hX; go_simp; rfl); simp only [List.getElem_toArray, List.getElem_cons_succ, List.getElem_cons_zero, Act.put, List.setIfInBounds_toArray, List.set_cons_succ, List.set_cons_zero])
  (refine any_take 5 ?_ (by rfl) (by kernel_rfl) (fun _ _ _ _ _ hx => hx.elim) (.inl ⟨by rfl, ?_⟩) (by exact bel_of) ?_; rotate_left; (intro X hX; obtain ⟨r1, r2⟩ := Below.rules hX; clear hX; go_simp; rfl); simp only [List.getElem_toArray, List.getElem_cons_succ, List.getElem_cons_zero, Act.put, List.setIfInBounds_toArray, List.set_cons_succ, List.set_cons_zero])
  (refine any_take 6 ?_ (by rfl) (by kernel_rfl) (fun _ _ _ _ _ hx => hx.elim) (.inl ⟨by rfl, ?_⟩) (by exact bel_of) ?_; rotate_left; (intro X hX; obtain ⟨r1, r2⟩ := Below.rules hX; clear hX; go_simp; rfl); simp only [List.getElem_toArray, List.getElem_cons_succ, List.getElem_cons_zero, Act.put, List.setIfInBounds_toArray, List.set_cons_succ, List.set_cons_zero])
  (refine any_take 7 ?_ (by rfl) (by kernel_rfl) (fun _ _ _ _ _ hx => hx.elim) (.inl ⟨by rfl, ?_⟩) (by exact bel_of) ?_; rotate_left; (intro X hX; obtain ⟨r1, r2⟩ := Below.rules hX; clear hX; go_simp; rfl); simp only [List.getElem_toArray, List.getElem_cons_succ, List.getElem_cons_zero, Act.put, List.setIfInBounds_toArray, List.set_cons_succ, List.set_cons_zero])
  (refine any_take 8 ?_ (by rfl) (by kernel_rfl) (fun _ _ _ _ _ hx => hx.elim) (.inl ⟨by rfl, ?_⟩) (by exact bel_of) ?_; rotate_left; (intro X hX; obtain ⟨r1, r2⟩ := Below.rules hX; clear hX; go_simp; rfl); simp only [List.getElem_toArray, List.getElem_cons_succ, List.getElem_cons_zero, Act.put, List.setIfInBounds_toArray, List.set_cons_succ, List.set_cons_zero])
  (refine any_take 9 ?_ (by rfl) (by kernel_rfl) (fun _ _ _ _ _ hx => hx.elim) (.inl ⟨by rfl, ?_⟩) (by exact bel_of) ?_; rotate_left; (intro X hX; obtain ⟨r1, r2⟩ := Below.rules hX; clear hX; go_simp; rfl); simp only [List.getElem_toArray, List.getElem_cons_succ, List.getElem_cons_zero, Act.put, List.setIfInBounds_toArray, List.set_cons_succ, List.set_cons_zero])
  (refine any_take 10 ?_ (by rfl) (by kernel_rfl) (fun _ _ _ _ _ hx => hx.elim) (.inl ⟨by rfl, ?_⟩) (by exact bel_of) ?_; rotate_left; (intro X hX; obtain ⟨r1, r2⟩ := Below.rules hX; clear hX; go_simp; rfl); simp only [List.getElem_toArray, List.getElem_cons_succ, List.getElem_cons_zero, Act.put, List.setIfInBounds_toArray, List.set_cons_succ, List.set_cons_zero])
  (refine any_take 11 ?_ (by rfl) (by kernel_rfl) (fun _ _ _ _ _ hx => hx.elim) (.inl ⟨by rfl, ?_⟩) (by exact bel_of) ?_; rotate_left; (intro X hX; obtain ⟨r1, r2⟩ := Below.rules hX; clear hX; go_simp; rfl); simp only [List.getElem_toArray, List.getElem_cons_succ, List.getElem_cons_zero, Act.put, List.setIfInBounds_toArray, List.set_cons_succ, List.set_cons_zero])
  (refine any_take 12 ?_ (by rfl) (by kernel_rfl) (fun _ _ _ _ _ hx => hx.elim) (.inl ⟨by rfl, ?_⟩) (by exact bel_of) ?_; rotate_left; (intro X hX; obtain ⟨r1, r2⟩ := Below.rules hX; clear hX; go_simp; rfl); simp only [List.getElem_toArray, List.getElem_cons_succ, List.getElem_cons_zero, Act.put, List.setIfInBounds_toArray, List.set_cons_succ, List.set_cons_zero])
  (refine any_take 13 ?_ (by rfl) (by kernel_rfl) (fun _ _ _ _ _ hx => hx.elim) (.inl ⟨by rfl, ?_⟩) (by exact bel_of) ?_; rotate_left; (intro X hX; obtain ⟨r1, r2⟩ := Below.rules hX; clear hX; go_simp; rfl); simp only [List.getElem_toArray, List.getElem_cons_succ, List.getElem_cons_zero, Act.put, List.setIfInBounds_toArray, List.set_cons_succ, List.set_cons_zero])
  (refine any_take 14 ?_ (by rfl) (by kernel_rfl) (fun _ _ _ _ _ hx => hx.elim) (.inl ⟨by rfl, ?_⟩) (by exact bel_of) ?_; rotate_left; (intro X hX; obtain ⟨r1, r2⟩ := Below.rules hX; clear hX; go_simp; rfl); simp only [List.getElem_toArray, List.getElem_cons_succ, List.getElem_cons_zero, Act.put, List.setIfInBounds_toArray, List.set_cons_succ, List.set_cons_zero])
  (refine any_take 15 ?_ (by rfl) (by kernel_rfl) (fun _ _ _ _ _ hx => hx.elim) (.inl ⟨by rfl, ?_⟩) (by exact bel_of) ?_; rotate_left; (intro X hX; obtain ⟨r1, r2⟩ := Below.rules hX; clear hX; go_simp; rfl); simp only [List.getElem_toArray, List.getElem_cons_succ, List.getElem_cons_zero, Act.put, List.setIfInBounds_toArray, List.set_cons_succ, List.set_cons_zero])
  (refine any_take 16 ?_ (by rfl) (by kernel_rfl) (fun _ _ _ _ _ hx => hx.elim) (.inl ⟨by rfl, ?_⟩) (by exact bel_of) ?_; rotate_left; (intro X hX; obtain ⟨r1, r2⟩ := Below.rules hX; clear hX; go_simp; rfl); simp only [List.getElem_toArray, List.getElem_cons_succ, List.getElem_cons_zero, Act.put, List.setIfInBounds_toArray, List.set_cons_succ, List.set_cons_zero])
  have qzf1 := d0zf.size
  refine any_run1 (i := 17) (by kernel_rfl) (by rfl) (by kernel_rfl) ?_
  intro K hK
  go_wp2_with fail
  refine (refTruth_any 4 bookT [35, 5, 0, 25] _ _ _ (by decide) (by decide) ((RS.below hR d0zf).more d0zf.size) ((RS.below hZ d0zf).more d0zf.size)).mono ?_
  rintro e vzf1 ⟨rfl, hb⟩
  rw [ex_truth]
  have ezf1 : Below w15.heap.size w15 vzf1 := d0zf.trans (hb.mono d0zf.size)
  clear hb
  refine hK _ _ (fun _ => ezf1) ?_
  clear hK K
  (refine any_take 18 ?_ (by rfl) (by kernel_rfl) (fun _ _ _ _ _ hx => hx.elim) (.inl ⟨by rfl, ?_⟩) (by exact bel_of) ?_; rotate_left; (intro X hX; obtain ⟨r1, r2⟩ := Below.rules hX; clear hX; go_simp; rfl); simp only [List.getElem_toArray, List.getElem_cons_succ, List.getElem_cons_zero, Act.put, List.setIfInBounds_toArray, List.set_cons_succ, List.set_cons_zero])
  (refine any_take 19 ?_ (by rfl) (by kernel_rfl) (fun _ _ _ _ _ hx => hx.elim) (.inl ⟨by rfl, ?_⟩) (by exact bel_of) ?_; rotate_left; (intro X hX; obtain ⟨r1, r2⟩ := Below.rules hX; clear hX; go_simp; rfl); simp only [List.getElem_toArray, List.getElem_cons_succ, List.getElem_cons_zero, Act.put, List.setIfInBounds_toArray, List.set_cons_succ, List.set_cons_zero])
  (refine any_take 20 ?_ (by rfl) (by kernel_rfl) (fun _ _ _ _ _ hx => hx.elim) (.inl ⟨by rfl, ?_⟩) (by exact bel_of) ?_; rotate_left; (intro X hX; obtain ⟨r1, r2⟩ := Below.rules hX; clear hX; go_simp; rfl); simp only [List.getElem_toArray, List.getElem_cons_succ, List.getElem_cons_zero, Act.put, List.setIfInBounds_toArray, List.set_cons_succ, List.set_cons_zero])
  (refine any_take 21 ?_ (by rfl) (by kernel_rfl) (fun _ _ _ _ _ hx => hx.elim) (.inl ⟨by rfl, ?_⟩) (by exact bel_of) ?_; rotate_left; (intro X hX; obtain ⟨r1, r2⟩ := Below.rules hX; clear hX; go_simp; rfl); simp only [List.getElem_toArray, List.getElem_cons_succ, List.getElem_cons_zero, Act.put, List.setIfInBounds_toArray, List.set_cons_succ, List.set_cons_zero])
  (refine any_take 22 ?_ (by rfl) (by kernel_rfl) (fun _ _ _ _ _ hx => hx.elim) (.inl ⟨by rfl, ?_⟩) (by exact bel_of) ?_; rotate_left; (intro X hX; obtain ⟨r1, r2⟩ := Below.rules hX; clear hX; go_simp; rfl); simp only [List.getElem_toArray, List.getElem_cons_succ, List.getElem_cons_zero, Act.put, List.setIfInBounds_toArray, List.set_cons_succ, List.set_cons_zero])
  (refine any_take 23 ?_ (by rfl) (by kernel_rfl) (fun _ _ _ _ _ hx => hx.elim) (.inl ⟨by rfl, ?_⟩) (by exact bel_of) ?_; rotate_left; (intro X hX; obtain ⟨r1, r2⟩ := Below.rules hX; clear hX; go_simp; rfl); simp only [List.getElem_toArray, List.getElem_cons_succ, List.getElem_cons_zero, Act.put, List.setIfInBounds_toArray, List.set_cons_succ, List.set_cons_zero])
  (refine any_take 24 ?_ (by rfl) (by kernel_rfl) (fun _ _ _ _ _ hx => hx.elim) (.inl ⟨by rfl, ?_⟩) (by exact bel_of) ?_; rotate_left; (intro X hX; obtain ⟨r1, r2⟩ := Below.rules hX; clear hX; go_simp; rfl); simp only [List.getElem_toArray, List.getElem_cons_succ, List.getElem_cons_zero, Act.put, List.setIfInBounds_toArray, List.set_cons_succ, List.set_cons_zero])
  (refine any_take 25 ?_ (by rfl) (by kernel_rfl) (fun _ _ _ _ _ hx => hx.elim) (.inl ⟨by rfl, ?_⟩) (by exact bel_of) ?_; rotate_left; (intro X hX; obtain ⟨r1, r2⟩ := Below.rules hX; clear hX; go_simp; rfl); simp only [List.getElem_toArray, List.getElem_cons_succ, List.getElem_cons_zero, Act.put, List.setIfInBounds_toArray, List.set_cons_succ, List.set_cons_zero])
  (refine any_take 26 ?_ (by rfl) (by kernel_rfl) (fun _ _ _ _ _ hx => hx.elim) (.inl ⟨by rfl, ?_⟩) (by exact bel_of) ?_; rotate_left; (intro X hX; obtain ⟨r1, r2⟩ := Below.rules hX; clear hX; go_simp; rfl); simp only [List.getElem_toArray, List.getElem_cons_succ, List.getElem_cons_zero, Act.put, List.setIfInBounds_toArray, List.set_cons_succ, List.set_cons_zero])
  (refine any_take 27 ?_ (by rfl) (by kernel_rfl) (fun _ _ _ _ _ hx => hx.elim) (.inl ⟨by rfl, ?_⟩) (by exact bel_of) ?_; rotate_left; (intro X hX; obtain ⟨r1, r2⟩ := Below.rules hX; clear hX; go_simp; rfl); simp only [List.getElem_toArray, List.getElem_cons_succ, List.getElem_cons_zero, Act.put, List.setIfInBounds_toArray, List.set_cons_succ, List.set_cons_zero])
  (refine any_take 28 ?_ (by rfl) (by kernel_rfl) (fun _ _ _ _ _ hx => hx.elim) (.inl ⟨by rfl, ?_⟩) (by exact bel_of) ?_; rotate_left; (intro X hX; obtain ⟨r1, r2⟩ := Below.rules hX; clear hX; go_simp; rfl); simp only [List.getElem_toArray, List.getElem_cons_succ, List.getElem_cons_zero, Act.put, List.setIfInBounds_toArray, List.set_cons_succ, List.set_cons_zero])
  (refine any_take 29 ?_ (by rfl) (by kernel_rfl) (fun _ _ _ _ _ hx => hx.elim) (.inl ⟨by rfl, ?_⟩) (by exact bel_of) ?_; rotate_left; (intro X hX; obtain ⟨r1, r2⟩ := Below.rules hX; clear hX; go_simp; rfl); simp only [List.getElem_toArray, List.getElem_cons_succ, List.getElem_cons_zero, Act.put, List.setIfInBounds_toArray, List.set_cons_succ, List.set_cons_zero])
  (refine any_take 30 ?_ (by rfl) (by kernel_rfl) (fun _ _ _ _ _ hx => hx.elim) (.inl ⟨by rfl, ?_⟩) (by exact bel_of) ?_; rotate_left; (intro X hX; obtain ⟨r1, r2⟩ := Below.rules hX; clear hX; go_simp; rfl); simp only [List.getElem_toArray, List.getElem_cons_succ, List.getElem_cons_zero, Act.put, List.setIfInBounds_toArray, List.set_cons_succ, List.set_cons_zero])
  (refine any_take 31 ?_ (by rfl) (by kernel_rfl) (fun _ _ _ _ _ hx => hx.elim) (.inl ⟨by rfl, ?_⟩) (by exact bel_of) ?_; rotate_left; (intro X hX; obtain ⟨r1, r2⟩ := Below.rules hX; clear hX; go_simp; rfl); simp only [List.getElem_toArray, List.getElem_cons_succ, List.getElem_cons_zero, Act.put, List.setIfInBounds_toArray, List.set_cons_succ, List.set_cons_zero])
  have qzf2 := ezf1.size
  refine any_run1 (i := 32) (by kernel_rfl) (by rfl) (by kernel_rfl) ?_
  intro K hK
  go_wp2_with fail
  refine (rg_any 15 30 _).mono ?_
  rintro e vzf2 ⟨rfl, hb⟩
  have ezf2 : Below w15.heap.size w15 vzf2 := ezf1.trans (hb.mono ezf1.size)
  clear hb
  refine hK _ _ (fun _ => ezf2) ?_
  clear hK K
  (refine any_take 33 ?_ (by rfl) (by kernel_rfl) (fun _ _ _ _ _ hx => hx.elim) (.inl ⟨by rfl, ?_⟩) (by exact bel_of) ?_; rotate_left; (intro X hX; obtain ⟨r1, r2⟩ := Below.rules hX; clear hX; go_simp; rfl); simp only [List.getElem_toArray, List.getElem_cons_succ, List.getElem_cons_zero, Act.put, List.setIfInBounds_toArray, List.set_cons_succ, List.set_cons_zero])
  (refine any_take 34 ?_ (by rfl) (by kernel_rfl) (fun _ _ _ _ _ hx => hx.elim) (.inl ⟨by rfl, ?_⟩) (by exact bel_of) ?_; rotate_left; (intro X hX; obtain ⟨r1, r2⟩ := Below.rules hX; clear hX; go_simp; rfl); simp only [List.getElem_toArray, List.getElem_cons_succ, List.getElem_cons_zero, Act.put, List.setIfInBounds_toArray, List.set_cons_succ, List.set_cons_zero])
  (refine any_take 35 ?_ (by rfl) (by kernel_rfl) (fun _ _ _ _ _ hx => hx.elim) (.inl ⟨by rfl, ?_⟩) (by exact bel_of) ?_; rotate_left; (intro X hX; obtain ⟨r1, r2⟩ := Below.rules hX; clear hX; go_simp; rfl); simp only [List.getElem_toArray, List.getElem_cons_succ, List.getElem_cons_zero, Act.put, List.setIfInBounds_toArray, List.set_cons_succ, List.set_cons_zero])
  (refine any_take 36 ?_ (by rfl) (by kernel_rfl) (fun _ _ _ _ _ hx => hx.elim) (.inl ⟨by rfl, ?_⟩) (by exact bel_of) ?_; rotate_left; (intro X hX; obtain ⟨r1, r2⟩ := Below.rules hX; clear hX; go_simp; rfl); simp only [List.getElem_toArray, List.getElem_cons_succ, List.getElem_cons_zero, Act.put, List.setIfInBounds_toArray, List.set_cons_succ, List.set_cons_zero])
  have qzf3 := ezf2.size
  have ezf3 : Below w15.heap.size w15 (vzf2.alloc (.cells #[.int .i64 20, .int .i64 0, .int .i64 0, .int .i64 0] 2)) := by exact bel_of
  refine any_run1 (i := 37) (by kernel_rfl) (by rfl) (by kernel_rfl) ?_
  intro K hK
  go_wp2_with fail
  refine hK _ _ (fun _ => ezf3) ?_
  clear hK K
  have qzf4 := ezf3.size
  refine any_run1 (i := 38) (by kernel_rfl) (by rfl) (by kernel_rfl) ?_
  intro K hK
  go_wp2_with fail
  refine (longs_any [20, 0, 0, 0] [20, 0, 0, 0] _ _ _ (by decide) (by decide) ((RS.below hL ezf3).more ezf3.size) (ri_new (BK.new _ _ _) rfl 4 rfl)).mono ?_
  rintro e vzf4 ⟨rfl, hb⟩
  rw [show decide (([20, 0, 0, 0] : List Int) = [20, 0, 0, 0]) = true from by decide]
  have ezf4 : Below w15.heap.size w15 vzf4 := ezf3.trans (hb.mono ezf3.size)
  clear hb
  refine hK _ _ (fun _ => ezf4) ?_
  clear hK K
  (refine any_take 39 ?_ (by rfl) (by kernel_rfl) (fun _ _ _ _ _ hx => hx.elim) (.inl ⟨by rfl, ?_⟩) (by exact bel_of) ?_; rotate_left; (intro X hX; obtain ⟨r1, r2⟩ := Below.rules hX; clear hX; go_simp; rfl); simp only [List.getElem_toArray, List.getElem_cons_succ, List.getElem_cons_zero, Act.put, List.setIfInBounds_toArray, List.set_cons_succ, List.set_cons_zero])
  (refine any_take 40 ?_ (by rfl) (by kernel_rfl) (fun _ _ _ _ _ hx => hx.elim) (.inl ⟨by rfl, ?_⟩) (by exact bel_of) ?_; rotate_left; (intro X hX; obtain ⟨r1, r2⟩ := Below.rules hX; clear hX; go_simp; rfl); simp only [List.getElem_toArray, List.getElem_cons_succ, List.getElem_cons_zero, Act.put, List.setIfInBounds_toArray, List.set_cons_succ, List.set_cons_zero])
  (refine any_take 41 ?_ (by rfl) (by kernel_rfl) (fun _ _ _ _ _ hx => hx.elim) (.inl ⟨by rfl, ?_⟩) (by exact bel_of) ?_; rotate_left; (intro X hX; obtain ⟨r1, r2⟩ := Below.rules hX; clear hX; go_simp; rfl); simp only [List.getElem_toArray, List.getElem_cons_succ, List.getElem_cons_zero, Act.put, List.setIfInBounds_toArray, List.set_cons_succ, List.set_cons_zero])
  have qzf5 := ezf4.size
  refine any_run1 (i := 42) (by kernel_rfl) (by rfl) (by kernel_rfl) ?_
  intro K hK
  go_wp2_with fail
  refine (rg_any 0 990 _).mono ?_
  rintro e vzf5 ⟨rfl, hb⟩
  have ezf5 : Below w15.heap.size w15 vzf5 := ezf4.trans (hb.mono ezf4.size)
  clear hb
  refine hK _ _ (fun _ => ezf5) ?_
  clear hK K
  (refine any_take 43 ?_ (by rfl) (by kernel_rfl) (fun _ _ _ _ _ hx => hx.elim) (.inl ⟨by rfl, ?_⟩) (by exact bel_of) ?_; rotate_left; (intro X hX; obtain ⟨r1, r2⟩ := Below.rules hX; clear hX; go_simp; rfl); simp only [List.getElem_toArray, List.getElem_cons_succ, List.getElem_cons_zero, Act.put, List.setIfInBounds_toArray, List.set_cons_succ, List.set_cons_zero])
  (refine any_take 44 ?_ (by rfl) (by kernel_rfl) (fun _ _ _ _ _ hx => hx.elim) (.inl ⟨by rfl, ?_⟩) (by exact bel_of) ?_; rotate_left; (intro X hX; obtain ⟨r1, r2⟩ := Below.rules hX; clear hX; go_simp; rfl); simp only [List.getElem_toArray, List.getElem_cons_succ, List.getElem_cons_zero, Act.put, List.setIfInBounds_toArray, List.set_cons_succ, List.set_cons_zero])
  (refine any_take 45 ?_ (by rfl) (by kernel_rfl) (fun _ _ _ _ _ hx => hx.elim) (.inl ⟨by rfl, ?_⟩) (by exact bel_of) ?_; rotate_left; (intro X hX; obtain ⟨r1, r2⟩ := Below.rules hX; clear hX; go_simp; rfl); simp only [List.getElem_toArray, List.getElem_cons_succ, List.getElem_cons_zero, Act.put, List.setIfInBounds_toArray, List.set_cons_succ, List.set_cons_zero])
  (refine any_take 46 ?_ (by rfl) (by kernel_rfl) (fun _ _ _ _ _ hx => hx.elim) (.inl ⟨by rfl, ?_⟩) (by exact bel_of) ?_; rotate_left; (intro X hX; obtain ⟨r1, r2⟩ := Below.rules hX; clear hX; go_simp; rfl); simp only [List.getElem_toArray, List.getElem_cons_succ, List.getElem_cons_zero, Act.put, List.setIfInBounds_toArray, List.set_cons_succ, List.set_cons_zero])
  (refine any_take 47 ?_ (by rfl) (by kernel_rfl) (fun _ _ _ _ _ hx => hx.elim) (.inl ⟨by rfl, ?_⟩) (by exact bel_of) ?_; rotate_left; (intro X hX; obtain ⟨r1, r2⟩ := Below.rules hX; clear hX; go_simp; rfl); simp only [List.getElem_toArray, List.getElem_cons_succ, List.getElem_cons_zero, Act.put, List.setIfInBounds_toArray, List.set_cons_succ, List.set_cons_zero])
  (refine any_take 48 ?_ (by rfl) (by kernel_rfl) (fun _ _ _ _ _ hx => hx.elim) (.inl ⟨by rfl, ?_⟩) (by exact bel_of) ?_; rotate_left; (intro X hX; obtain ⟨r1, r2⟩ := Below.rules hX; clear hX; go_simp; rfl); simp only [List.getElem_toArray, List.getElem_cons_succ, List.getElem_cons_zero, Act.put, List.setIfInBounds_toArray, List.set_cons_succ, List.set_cons_zero])
  (refine any_take 49 ?_ (by rfl) (by kernel_rfl) (fun _ _ _ _ _ hx => hx.elim) (.inl ⟨by rfl, ?_⟩) (by exact bel_of) ?_; rotate_left; (intro X hX; obtain ⟨r1, r2⟩ := Below.rules hX; clear hX; go_simp; rfl); simp only [List.getElem_toArray, List.getElem_cons_succ, List.getElem_cons_zero, Act.put, List.setIfInBounds_toArray, List.set_cons_succ, List.set_cons_zero])
  (refine any_take 50 ?_ (by rfl) (by kernel_rfl) (fun _ _ _ _ _ hx => hx.elim) (.inl ⟨by rfl, ?_⟩) (by exact bel_of) ?_; rotate_left; (intro X hX; obtain ⟨r1, r2⟩ := Below.rules hX; clear hX; go_simp; rfl); simp only [List.getElem_toArray, List.getElem_cons_succ, List.getElem_cons_zero, Act.put, List.setIfInBounds_toArray, List.set_cons_succ, List.set_cons_zero])
  have qzf6 := ezf5.size
  have ezf6 : Below w15.heap.size w15 (vzf5.alloc (.cells #[.int .i64 0] 3)) := by exact bel_of
  refine any_run1 (i := 51) (by kernel_rfl) (by rfl) (by kernel_rfl) ?_
  intro K hK
  go_wp2_with fail
  refine hK _ _ (fun _ => ezf6) ?_
  clear hK K
  have qzf7 := ezf6.size
  refine any_run1 (i := 52) (by kernel_rfl) (by rfl) (by kernel_rfl) ?_
  intro K hK
  go_wp2_with fail
  refine (ints_any [0] [0] _ _ _ (by decide) (by decide) ((RS.below hM ezf6).more ezf6.size) (ri_new (BK.new _ _ _) rfl 1 rfl)).mono ?_
  rintro e vzf7 ⟨rfl, hb⟩
  rw [show decide (([0] : List Int) = [0]) = true from by decide]
  have ezf7 : Below w15.heap.size w15 vzf7 := ezf6.trans (hb.mono ezf6.size)
  clear hb
  refine hK _ _ (fun _ => ezf7) ?_
  clear hK K
  (refine any_take 53 ?_ (by rfl) (by kernel_rfl) (fun _ _ _ _ _ hx => hx.elim) (.inl ⟨by rfl, ?_⟩) (by exact bel_of) ?_; rotate_left; (intro X hX; obtain ⟨r1, r2⟩ := Below.rules hX; clear hX; go_simp; rfl); simp only [List.getElem_toArray, List.getElem_cons_succ, List.getElem_cons_zero, Act.put, List.setIfInBounds_toArray, List.set_cons_succ, List.set_cons_zero])
  (refine any_take 54 ?_ (by rfl) (by kernel_rfl) (fun _ _ _ _ _ hx => hx.elim) (.inl ⟨by rfl, ?_⟩) (by exact bel_of) ?_; rotate_left; (intro X hX; obtain ⟨r1, r2⟩ := Below.rules hX; clear hX; go_simp; rfl); simp only [List.getElem_toArray, List.getElem_cons_succ, List.getElem_cons_zero, Act.put, List.setIfInBounds_toArray, List.set_cons_succ, List.set_cons_zero])
  (refine any_take 55 ?_ (by rfl) (by kernel_rfl) (fun _ _ _ _ _ hx => hx.elim) (.inl ⟨by rfl, ?_⟩) (by exact bel_of) ?_; rotate_left; (intro X hX; obtain ⟨r1, r2⟩ := Below.rules hX; clear hX; go_simp; rfl); simp only [List.getElem_toArray, List.getElem_cons_succ, List.getElem_cons_zero, Act.put, List.setIfInBounds_toArray, List.set_cons_succ, List.set_cons_zero])
  have qzf8 := ezf7.size
  have ezf8 : Below w15.heap.size w15 (vzf7.alloc (.cells #[.int .i64 0] 3)) := by exact bel_of
  refine any_run1 (i := 56) (by kernel_rfl) (by rfl) (by kernel_rfl) ?_
  intro K hK
  go_wp2_with fail
  refine hK _ _ (fun _ => ezf8) ?_
  clear hK K
  have qzf9 := ezf8.size
  refine any_run1 (i := 57) (by kernel_rfl) (by rfl) (by kernel_rfl) ?_
  intro K hK
  go_wp2_with fail
  refine (ints_any [0] [0] _ _ _ (by decide) (by decide) ((RS.below hU ezf8).more ezf8.size) (ri_new (BK.new _ _ _) rfl 1 rfl)).mono ?_
  rintro e vzf9 ⟨rfl, hb⟩
  rw [show decide (([0] : List Int) = [0]) = true from by decide]
  have ezf9 : Below w15.heap.size w15 vzf9 := ezf8.trans (hb.mono ezf8.size)
  clear hb
  refine hK _ _ (fun _ => ezf9) ?_
  clear hK K
  (refine any_take 58 ?_ (by rfl) (by kernel_rfl) (fun _ _ _ _ _ hx => hx.elim) (.inl ⟨by rfl, ?_⟩) (by exact bel_of) ?_; rotate_left; (intro X hX; obtain ⟨r1, r2⟩ := Below.rules hX; clear hX; go_simp; rfl); simp only [List.getElem_toArray, List.getElem_cons_succ, List.getElem_cons_zero, Act.put, List.setIfInBounds_toArray, List.set_cons_succ, List.set_cons_zero])
  (refine any_take 59 ?_ (by rfl) (by kernel_rfl) (fun _ _ _ _ _ hx => hx.elim) (.inl ⟨by rfl, ?_⟩) (by exact bel_of) ?_; rotate_left; (intro X hX; obtain ⟨r1, r2⟩ := Below.rules hX; clear hX; go_simp; rfl); simp only [List.getElem_toArray, List.getElem_cons_succ, List.getElem_cons_zero, Act.put, List.setIfInBounds_toArray, List.set_cons_succ, List.set_cons_zero])
  (refine any_take 60 ?_ (by rfl) (by kernel_rfl) (fun _ _ _ _ _ hx => hx.elim) (.inl ⟨by rfl, ?_⟩) (by exact bel_of) ?_; rotate_left; (intro X hX; obtain ⟨r1, r2⟩ := Below.rules hX; clear hX; go_simp; rfl); simp only [List.getElem_toArray, List.getElem_cons_succ, List.getElem_cons_zero, Act.put, List.setIfInBounds_toArray, List.set_cons_succ, List.set_cons_zero])
  (refine any_take 61 ?_ (by rfl) (by kernel_rfl) (fun _ _ _ _ _ hx => hx.elim) (.inl ⟨by rfl, ?_⟩) (by exact bel_of) ?_; rotate_left; (intro X hX; obtain ⟨r1, r2⟩ := Below.rules hX; clear hX; go_simp; rfl); simp only [List.getElem_toArray, List.getElem_cons_succ, List.getElem_cons_zero, Act.put, List.setIfInBounds_toArray, List.set_cons_succ, List.set_cons_zero])
  (refine any_take 62 ?_ (by rfl) (by kernel_rfl) (fun _ _ _ _ _ hx => hx.elim) (.inl ⟨by rfl, ?_⟩) (by exact bel_of) ?_; rotate_left; (intro X hX; obtain ⟨r1, r2⟩ := Below.rules hX; clear hX; go_simp; rfl); simp only [List.getElem_toArray, List.getElem_cons_succ, List.getElem_cons_zero, Act.put, List.setIfInBounds_toArray, List.set_cons_succ, List.set_cons_zero])
  (refine any_take 63 ?_ (by rfl) (by kernel_rfl) (fun _ _ _ _ _ hx => hx.elim) (.inl ⟨by rfl, ?_⟩) (by exact bel_of) ?_; rotate_left; (intro X hX; obtain ⟨r1, r2⟩ := Below.rules hX; clear hX; go_simp; rfl); simp only [List.getElem_toArray, List.getElem_cons_succ, List.getElem_cons_zero, Act.put, List.setIfInBounds_toArray, List.set_cons_succ, List.set_cons_zero])
  (refine any_take 64 ?_ (by rfl) (by kernel_rfl) (fun _ _ _ _ _ hx => hx.elim) (.inl ⟨by rfl, ?_⟩) (by exact bel_of) ?_; rotate_left; (intro X hX; obtain ⟨r1, r2⟩ := Below.rules hX; clear hX; go_simp; rfl); simp only [List.getElem_toArray, List.getElem_cons_succ, List.getElem_cons_zero, Act.put, List.setIfInBounds_toArray, List.set_cons_succ, List.set_cons_zero])
  (refine any_take 65 ?_ (by rfl) (by kernel_rfl) (fun _ _ _ _ _ hx => hx.elim) (.inl ⟨by rfl, ?_⟩) (by exact bel_of) ?_; rotate_left; (intro X hX; obtain ⟨r1, r2⟩ := Below.rules hX; clear hX; go_simp; rfl); simp only [List.getElem_toArray, List.getElem_cons_succ, List.getElem_cons_zero, Act.put, List.setIfInBounds_toArray, List.set_cons_succ, List.set_cons_zero])
  (refine any_take 66 ?_ (by rfl) (by kernel_rfl) (fun _ _ _ _ _ hx => hx.elim) (.inl ⟨by rfl, ?_⟩) (by exact bel_of) ?_; rotate_left; (intro X hX; obtain ⟨r1, r2⟩ := Below.rules hX; clear hX; go_simp; rfl); simp only [List.getElem_toArray, List.getElem_cons_succ, List.getElem_cons_zero, Act.put, List.setIfInBounds_toArray, List.set_cons_succ, List.set_cons_zero])
  (refine any_take 67 ?_ (by rfl) (by kernel_rfl) (fun _ _ _ _ _ hx => hx.elim) (.inl ⟨by rfl, ?_⟩) (by exact bel_of) ?_; rotate_left; (intro X hX; obtain ⟨r1, r2⟩ := Below.rules hX; clear hX; go_simp; rfl); simp only [List.getElem_toArray, List.getElem_cons_succ, List.getElem_cons_zero, Act.put, List.setIfInBounds_toArray, List.set_cons_succ, List.set_cons_zero])
  (refine any_take 68 ?_ (by rfl) (by kernel_rfl) (fun _ _ _ _ _ hx => hx.elim) (.inl ⟨by rfl, ?_⟩) (by exact bel_of) ?_; rotate_left; (intro X hX; obtain ⟨r1, r2⟩ := Below.rules hX; clear hX; go_simp; rfl); simp only [List.getElem_toArray, List.getElem_cons_succ, List.getElem_cons_zero, Act.put, List.setIfInBounds_toArray, List.set_cons_succ, List.set_cons_zero])
  (refine any_take 69 ?_ (by rfl) (by kernel_rfl) (fun _ _ _ _ _ hx => hx.elim) (.inl ⟨by rfl, ?_⟩) (by exact bel_of) ?_; rotate_left; (intro X hX; obtain ⟨r1, r2⟩ := Below.rules hX; clear hX; go_simp; rfl); simp only [List.getElem_toArray, List.getElem_cons_succ, List.getElem_cons_zero, Act.put, List.setIfInBounds_toArray, List.set_cons_succ, List.set_cons_zero])
  (refine any_take 70 ?_ (by rfl) (by kernel_rfl) (fun _ _ _ _ _ hx => hx.elim) (.inl ⟨by rfl, ?_⟩) (by exact bel_of) ?_; rotate_left; (intro X hX; obtain ⟨r1, r2⟩ := Below.rules hX; clear hX; go_simp; rfl); simp only [List.getElem_toArray, List.getElem_cons_succ, List.getElem_cons_zero, Act.put, List.setIfInBounds_toArray, List.set_cons_succ, List.set_cons_zero])
  (refine any_take 71 ?_ (by rfl) (by kernel_rfl) (fun _ _ _ _ _ hx => hx.elim) (.inl ⟨by rfl, ?_⟩) (by exact bel_of) ?_; rotate_left; (intro X hX; obtain ⟨r1, r2⟩ := Below.rules hX; clear hX; go_simp; rfl); simp only [List.getElem_toArray, List.getElem_cons_succ, List.getElem_cons_zero, Act.put, List.setIfInBounds_toArray, List.set_cons_succ, List.set_cons_zero])
  (refine any_take 73 ?_ (by rfl) (by kernel_rfl) (fun _ _ _ _ _ hx => hx.elim) (.inl ⟨by rfl, ?_⟩) (by exact bel_of) ?_; rotate_left; (intro X hX; obtain ⟨r1, r2⟩ := Below.rules hX; clear hX; go_simp; rfl); simp only [List.getElem_toArray, List.getElem_cons_succ, List.getElem_cons_zero, Act.put, List.setIfInBounds_toArray, List.set_cons_succ, List.set_cons_zero])
  have qzf10 := ezf9.size
  refine any_run1 (i := 72) (by kernel_rfl) (by rfl) (by kernel_rfl) ?_
  intro K hK
  go_wp2_with fail
  refine (wrong_any _).mono ?_
  rintro e vzf10 ⟨vw3, rfl, hW, hb⟩
  have hW2 := OwnT.ri hW
  clear hW
  have ezf10 : Below w15.heap.size w15 vzf10 := ezf9.trans (hb.mono ezf9.size)
  clear hb
  refine hK _ _ (fun _ => ezf10) ?_
  clear hK K
  have qzf11 := ezf10.size
  refine any_run1 (i := 74) (by kernel_rfl) (by rfl) (by kernel_rfl) ?_
  intro K hK
  go_wp2_with fail
  refine (isCircle_any 4 wrongT c2 _ _ _ (by decide) (Nat.le_trans HC2.out.1.few (by decide)) hW2 ((RS.below hX ezf10).more ezf10.size)).mono ?_
  rintro e vzf11 ⟨rfl, hb⟩
  rw [show circB 4 wrongT c2 = true from circ_circB (N := 4) ex_book HC2.out.1 HC2.out.2.1]
  have ezf11 : Below w15.heap.size w15 vzf11 := ezf10.trans (hb.mono ezf10.size)
  clear hb
  refine hK _ _ (fun _ => ezf11) ?_
  clear hK K
  (refine any_take 75 ?_ (by rfl) (by kernel_rfl) (fun _ _ _ _ _ hx => hx.elim) (.inl ⟨by rfl, ?_⟩) (by exact bel_of) ?_; rotate_left; (intro X hX; obtain ⟨r1, r2⟩ := Below.rules hX; clear hX; go_simp; rfl); simp only [List.getElem_toArray, List.getElem_cons_succ, List.getElem_cons_zero, Act.put, List.setIfInBounds_toArray, List.set_cons_succ, List.set_cons_zero])
  refine any_run1 (i := 76) (by kernel_rfl) (by rfl) (by kernel_rfl) ?_
  intro K hK
  go_wp2_with fail
  refine hK _ _ (fun _ => ezf11) ?_
  clear hK K
  refine any_done (by kernel_rfl) (NoPanic.normal ?_)
  have hb := ezf11
  replace hC : Below n0 w vzf11 := hC.trans (hb.mono (by have := hC.size; omega))
  replace hR := (RS.below hR hb).more hb.size
  replace bb := bb.below hb bb.lt
  replace br := br.below hb br.lt
  replace hL := (RS.below hL hb).more hb.size
  replace bs := bs.below hb bs.lt
  replace hM := (RS.below hM hb).more hb.size
  replace hU := (RS.below hU hb).more hb.size
  replace hX := (RS.below hX hb).more hb.size
  replace bz := bz.below hb bz.lt
  replace hY := (RS.below hY hb).more hb.size
  replace hZ := (RS.below hZ hb).more hb.size
  clear hb
  go_wp2_with fail
  exact bodyPost_ret (v := .bool true) (by simp [results, Try.results17, go_sem]) rfl ⟨rfl, by first | exact hC | (rw [hn0]; exact hC) | (with_reducible rw [hn0]; exact bel_of) | exact bel_of⟩
end Go.Proofs.Ytkljdbgkhghiaaa
