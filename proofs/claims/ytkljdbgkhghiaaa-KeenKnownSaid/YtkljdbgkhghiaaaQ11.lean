/- The values of the further examples; KeenKnown: the walk. KeenKnown: the row. -/
import Derived.Test.YtkljdbgkhghiaaaP27
import Derived.Test.YtkljdbgkhghiaaaP26
import Derived.Test.YtkljdbgkhghiaaaP28
import Derived.Test.YtkljdbgkhghiaaaRows
set_option linter.all false
set_option linter.unnecessarySimpa false
set_option linter.unusedSimpArgs false
set_option linter.unusedVariables false
set_option linter.unusedSectionVars false

set_option linter.all false
namespace Go.Proofs.Ytkljdbgkhghiaaa
open Go.RowKit Kp
set_option maxRecDepth 100000

theorem ex_s32 : spanE 4 bookT (3 : Int).toNat (2 : Int).toNat (openE 4 bookT (twoE 4 3 2)) = .tuple #[.agg #[.int .i64 0, .int .i64 25], .int .i64 0] := by kernel_rfl
theorem ex_s13 : spanE 4 bookT (1 : Int).toNat (3 : Int).toNat (openE 4 bookT (twoE 4 1 3)) = .tuple #[.agg #[.int .i64 (-20), .int .i64 5], .int .i64 0] := by kernel_rfl
theorem ex_sh0 : spanE 4 bookT (0 : Int).toNat (4 : Int).toNat (openE 4 bookT (oneE 4 0)) = .tuple #[.agg #[.int .i64 20, .int .i64 1000], .int .i64 0] := by kernel_rfl
theorem ex_k1 : chainR 4 bookT [⟨0, 1, 0⟩] = (-10, 0) := by kernel_rfl
theorem ex_k2 : chainR 4 bookT [⟨0, -1, -1⟩, ⟨-1, 1, -1⟩] = (1000, 0) := by kernel_rfl
theorem ex_k3 : chainR 4 bookT [⟨2, 1, 0⟩] = (0, 16) := by kernel_rfl
theorem ex_t1 : tellsV 4 bookT ⟨1, 2, 0, 9⟩ (openE 4 bookT (testE 4 ⟨1, 2, 0, 9⟩)) = .tuple #[.int .i64 1, .int .i64 0] := by kernel_rfl
theorem ex_t2 : tellsV 4 bookT ⟨3, 2, 0, 25⟩ (openE 4 bookT (testE 4 ⟨3, 2, 0, 25⟩)) = .tuple #[.int .i64 0, .int .i64 0] := by kernel_rfl
theorem ex_k4 : chainR 4 wrongT [⟨0, 2, 2⟩, ⟨2, 0, 4⟩] = (-25, 0) := by kernel_rfl

set_option maxHeartbeats 8000000 in
set_option maxRecDepth 100000 in
theorem keenKnown_any (w : World) : Calls Try.prog 11 #[] w fun e w' => e = .returned (.bool true) ∧ Below w.heap.size w w' := by
  obtain ⟨n0, hn0⟩ : ∃ n, w.heap.size = n := ⟨_, rfl⟩
  have hC : Below n0 w w := Below.refl _ _
  go_enter Try.func11, Try.ntmps11
  go_wp2_with fail
  refine (book_any _).mono ?_
  rintro e w1 ⟨v, rfl, hT, hb⟩
  replace hC : Below n0 w w1 := hC.trans (hb.mono (by have := hC.size; omega))
  clear hb
  obtain ⟨A, c0, rfl⟩ := own_slice hT
  have hR := OwnT.ri hT
  clear hT
  have hl4 : bookT.length = 4 := rfl
  rw [hl4] at hR ⊢
  clear hl4
  go_wp2_with fail
  obtain ⟨m1, hm1⟩ : ∃ n, w1.heap.size = n := ⟨_, rfl⟩
  try rw [hm1]
  have hqbb : n0 ≤ m1 := by have := hC.size; omega
  have bb : BK (w1.alloc (.cells #[.int .i64 4, .slice A 4 c0] 24)) (m1) #[.int .i64 4, .slice A 4 c0] 24 := BK.new' _ _ _ (m1) hm1
  have hsbb : (w1.alloc (.cells #[.int .i64 4, .slice A 4 c0] 24)).heap.size = m1 + 1 := by simp [hm1]
  replace hC : Below n0 w (w1.alloc (.cells #[.int .i64 4, .slice A 4 c0] 24)) := Below.alloc hC (by have := hC.size; omega) _
  replace hR := (RS.below hR (w' := (w1.alloc (.cells #[.int .i64 4, .slice A 4 c0] 24))) (Below.alloc (Below.refl _ _) (Nat.le_refl _) _)).more (B' := (w1.alloc (.cells #[.int .i64 4, .slice A 4 c0] 24)).heap.size) (by simp)
  generalize (w1.alloc (.cells #[.int .i64 4, .slice A 4 c0] 24)) = Wbb at *
  clear hm1
  clear hsbb
  refine (spanP_any 4 3 2 bookT _ _ (by decide) hR).mono ?_
  rintro e w2 ⟨rfl, hb⟩
  replace hC : Below n0 w w2 := hC.trans (hb.mono (by have := hC.size; omega))
  replace hR := (RS.below hR hb).more hb.size
  replace bb := bb.below hb bb.lt
  clear hb
  rw [ex_s32]
  have lbb := bb.lt
  have bbc0 := bb.cell 0
  have bbc1 := bb.cell 1
  simp at bbc0 bbc1
  go_wp2_with fail
  clear lbb bbc0 bbc1
  obtain ⟨m2, hm2⟩ : ∃ n, w2.heap.size = n := ⟨_, rfl⟩
  try rw [hm2]
  have hqb1 : n0 ≤ m2 := by have := hC.size; omega
  have b1 : BK (w2.alloc (.cells #[.int .i64 0, .int .i64 25] 36)) (m2) #[.int .i64 0, .int .i64 25] 36 := BK.new' _ _ _ (m2) hm2
  have hsb1 : (w2.alloc (.cells #[.int .i64 0, .int .i64 25] 36)).heap.size = m2 + 1 := by simp [hm2]
  replace hC : Below n0 w (w2.alloc (.cells #[.int .i64 0, .int .i64 25] 36)) := Below.alloc hC (by have := hC.size; omega) _
  replace hR := (RS.below hR (w' := (w2.alloc (.cells #[.int .i64 0, .int .i64 25] 36))) (Below.alloc (Below.refl _ _) (Nat.le_refl _) _)).more (B' := (w2.alloc (.cells #[.int .i64 0, .int .i64 25] 36)).heap.size) (by simp)
  replace bb := bb.alloc (.cells #[.int .i64 0, .int .i64 25] 36)
  generalize (w2.alloc (.cells #[.int .i64 0, .int .i64 25] 36)) = Wb1 at *
  clear hm2
  clear hsb1
  refine (spanP_any 4 1 3 bookT _ _ (by decide) hR).mono ?_
  rintro e w3 ⟨rfl, hb⟩
  replace hC : Below n0 w w3 := hC.trans (hb.mono (by have := hC.size; omega))
  replace hR := (RS.below hR hb).more hb.size
  replace bb := bb.below hb bb.lt
  replace b1 := b1.below hb b1.lt
  clear hb
  rw [ex_s13]
  have lbb := bb.lt
  have bbc0 := bb.cell 0
  have bbc1 := bb.cell 1
  simp at bbc0 bbc1
  go_wp2_with fail
  clear lbb bbc0 bbc1
  obtain ⟨m3, hm3⟩ : ∃ n, w3.heap.size = n := ⟨_, rfl⟩
  try rw [hm3]
  have hqb2 : n0 ≤ m3 := by have := hC.size; omega
  have b2 : BK (w3.alloc (.cells #[.int .i64 (-20), .int .i64 5] 36)) (m3) #[.int .i64 (-20), .int .i64 5] 36 := BK.new' _ _ _ (m3) hm3
  have hsb2 : (w3.alloc (.cells #[.int .i64 (-20), .int .i64 5] 36)).heap.size = m3 + 1 := by simp [hm3]
  replace hC : Below n0 w (w3.alloc (.cells #[.int .i64 (-20), .int .i64 5] 36)) := Below.alloc hC (by have := hC.size; omega) _
  replace hR := (RS.below hR (w' := (w3.alloc (.cells #[.int .i64 (-20), .int .i64 5] 36))) (Below.alloc (Below.refl _ _) (Nat.le_refl _) _)).more (B' := (w3.alloc (.cells #[.int .i64 (-20), .int .i64 5] 36)).heap.size) (by simp)
  replace bb := bb.alloc (.cells #[.int .i64 (-20), .int .i64 5] 36)
  replace b1 := b1.alloc (.cells #[.int .i64 (-20), .int .i64 5] 36)
  generalize (w3.alloc (.cells #[.int .i64 (-20), .int .i64 5] 36)) = Wb2 at *
  clear hm3
  clear hsb2
  refine (sharpP_any 4 0 bookT _ _ (by decide) hR).mono ?_
  rintro e w4 ⟨rfl, hb⟩
  replace hC : Below n0 w w4 := hC.trans (hb.mono (by have := hC.size; omega))
  replace hR := (RS.below hR hb).more hb.size
  replace bb := bb.below hb bb.lt
  replace b1 := b1.below hb b1.lt
  replace b2 := b2.below hb b2.lt
  clear hb
  rw [ex_sh0]
  have lbb := bb.lt
  have bbc0 := bb.cell 0
  have bbc1 := bb.cell 1
  simp at bbc0 bbc1
  go_upto_region 5 with fail
  clear lbb bbc0 bbc1
  obtain ⟨m4, hm4⟩ : ∃ n, w4.heap.size = n := ⟨_, rfl⟩
  try rw [hm4]
  have hqb3 : n0 ≤ m4 := by have := hC.size; omega
  have b3 : BK (w4.alloc (.cells #[.int .i64 20, .int .i64 1000] 36)) (m4) #[.int .i64 20, .int .i64 1000] 36 := BK.new' _ _ _ (m4) hm4
  have hsb3 : (w4.alloc (.cells #[.int .i64 20, .int .i64 1000] 36)).heap.size = m4 + 1 := by simp [hm4]
  replace hC : Below n0 w (w4.alloc (.cells #[.int .i64 20, .int .i64 1000] 36)) := Below.alloc hC (by have := hC.size; omega) _
  replace hR := (RS.below hR (w' := (w4.alloc (.cells #[.int .i64 20, .int .i64 1000] 36))) (Below.alloc (Below.refl _ _) (Nat.le_refl _) _)).more (B' := (w4.alloc (.cells #[.int .i64 20, .int .i64 1000] 36)).heap.size) (by simp)
  replace bb := bb.alloc (.cells #[.int .i64 20, .int .i64 1000] 36)
  replace b1 := b1.alloc (.cells #[.int .i64 20, .int .i64 1000] 36)
  replace b2 := b2.alloc (.cells #[.int .i64 20, .int .i64 1000] 36)
  generalize (w4.alloc (.cells #[.int .i64 20, .int .i64 1000] 36)) = Wb3 at *
  clear hm4
  have lbb := bb.lt
  have bbc0 := bb.cell 0
  have bbc1 := bb.cell 1
  simp at bbc0 bbc1
  clear hsb3
  refine wp_region_noPanic (plain_any [0, 4, 5, 6] (Below Wb3.heap.size Wb3) mixed ?_)
  (refine any_take 0 ?_ (by rfl) (by kernel_rfl) (fun _ _ _ _ _ hx => hx.elim) (.inl ⟨by rfl, ?_⟩) (by exact bel_of) ?_; rotate_left; (intro X hX; obtain ⟨r1, r2⟩ := Below.rules hX; clear hX; go_simp; rfl); simp only [List.getElem_toArray, List.getElem_cons_succ, List.getElem_cons_zero, Act.put, List.setIfInBounds_toArray, List.set_cons_succ, List.set_cons_zero])
  have d0z5 : Below Wb3.heap.size Wb3 Wb3.drew := by exact bel_of
  have qz51 := d0z5.size
  refine any_run1 (i := 1) (by kernel_rfl) (by rfl) (by kernel_rfl) ?_
  intro K hK
  go_wp2_with fail
  refine (link_any (0) (1) (0) _).mono ?_
  rintro e vz51 ⟨rfl, hb⟩
  unfold klV
  have ez51 : Below Wb3.heap.size Wb3 vz51 := d0z5.trans (hb.mono d0z5.size)
  clear hb
  refine hK _ _ (fun _ => ez51) ?_
  clear hK K
  have qz52 := ez51.size
  have ez52 : Below Wb3.heap.size Wb3 (vz51.alloc (.cells #[.int .i64 0, .int .i64 1, .int .i64 0] 44)) := by exact bel_of
  refine any_run1 (i := 2) (by kernel_rfl) (by rfl) (by kernel_rfl) ?_
  intro K hK
  go_wp2_with fail
  refine hK _ _ (fun _ => ez52) ?_
  clear hK K
  have qz53 := ez52.size
  refine any_run1 (i := 3) (by kernel_rfl) (by rfl) (by kernel_rfl) ?_
  intro K hK
  go_wp2_with fail
  refine (checkChain_any 4 bookT [⟨0, 1, 0⟩] _ _ _ (by decide) (by decide) ((RS.below hR ez52).more ez52.size) (rl_new (BK.new _ _ _) rfl 1 rfl)).mono ?_
  rintro e vz53 ⟨rfl, hb⟩
  rw [ex_k1]
  unfold resV
  have ez53 : Below Wb3.heap.size Wb3 vz53 := ez52.trans (hb.mono ez52.size)
  clear hb
  refine hK _ _ (fun _ => ez53) ?_
  clear hK K
  (refine any_take 4 ?_ (by rfl) (by kernel_rfl) (fun _ _ _ _ _ hx => hx.elim) (.inl ⟨by rfl, ?_⟩) (by exact bel_of) ?_; rotate_left; (intro X hX; obtain ⟨r1, r2⟩ := Below.rules hX; clear hX; go_simp; rfl); simp only [List.getElem_toArray, List.getElem_cons_succ, List.getElem_cons_zero, Act.put, List.setIfInBounds_toArray, List.set_cons_succ, List.set_cons_zero])
  (refine any_take 5 ?_ (by rfl) (by kernel_rfl) (fun _ _ _ _ _ hx => hx.elim) (.inl ⟨by rfl, ?_⟩) (by exact bel_of) ?_; rotate_left; (intro X hX; obtain ⟨r1, r2⟩ := Below.rules hX; clear hX; go_simp; rfl); simp only [List.getElem_toArray, List.getElem_cons_succ, List.getElem_cons_zero, Act.put, List.setIfInBounds_toArray, List.set_cons_succ, List.set_cons_zero])
  (refine any_take 6 ?_ (by rfl) (by kernel_rfl) (fun _ _ _ _ _ hx => hx.elim) (.inl ⟨by rfl, ?_⟩) (by exact bel_of) ?_; rotate_left; (intro X hX; obtain ⟨r1, r2⟩ := Below.rules hX; clear hX; go_simp; rfl); simp only [List.getElem_toArray, List.getElem_cons_succ, List.getElem_cons_zero, Act.put, List.setIfInBounds_toArray, List.set_cons_succ, List.set_cons_zero])
  refine any_run1 (i := 7) (by kernel_rfl) (by rfl) (by kernel_rfl) ?_
  intro K hK
  go_wp2_with fail
  refine hK _ _ (fun _ => ez53) ?_
  clear hK K
  refine any_run1 (i := 8) (by kernel_rfl) (by rfl) (by kernel_rfl) ?_
  intro K hK
  go_wp2_with fail
  refine hK _ _ (fun _ => ez53) ?_
  clear hK K
  refine any_done (by kernel_rfl) (NoPanic.normal ?_)
  have hb := ez53
  replace hC : Below n0 w vz53 := hC.trans (hb.mono (by have := hC.size; omega))
  replace hR := (RS.below hR hb).more hb.size
  replace bb := bb.below hb bb.lt
  replace b1 := b1.below hb b1.lt
  replace b2 := b2.below hb b2.lt
  replace b3 := b3.below hb b3.lt
  clear hb
  clear lbb bbc0 bbc1
  have lbb := bb.lt
  have bbc0 := bb.cell 0
  have bbc1 := bb.cell 1
  simp at bbc0 bbc1
  go_upto_region 6 with fail
  refine wp_region_noPanic (plain_any [0, 5, 6, 7] (Below vz53.heap.size vz53) mixed ?_)
  (refine any_take 0 ?_ (by rfl) (by kernel_rfl) (fun _ _ _ _ _ hx => hx.elim) (.inl ⟨by rfl, ?_⟩) (by exact bel_of) ?_; rotate_left; (intro X hX; obtain ⟨r1, r2⟩ := Below.rules hX; clear hX; go_simp; rfl); simp only [List.getElem_toArray, List.getElem_cons_succ, List.getElem_cons_zero, Act.put, List.setIfInBounds_toArray, List.set_cons_succ, List.set_cons_zero])
  have d0z6 : Below vz53.heap.size vz53 vz53.drew := by exact bel_of
  have qz61 := d0z6.size
  refine any_run1 (i := 1) (by kernel_rfl) (by rfl) (by kernel_rfl) ?_
  intro K hK
  go_wp2_with fail
  refine (link_any (0) (-1) (-1) _).mono ?_
  rintro e vz61 ⟨rfl, hb⟩
  unfold klV
  have ez61 : Below vz53.heap.size vz53 vz61 := d0z6.trans (hb.mono d0z6.size)
  clear hb
  refine hK _ _ (fun _ => ez61) ?_
  clear hK K
  have qz62 := ez61.size
  refine any_run1 (i := 2) (by kernel_rfl) (by rfl) (by kernel_rfl) ?_
  intro K hK
  go_wp2_with fail
  refine (link_any (-1) (1) (-1) _).mono ?_
  rintro e vz62 ⟨rfl, hb⟩
  unfold klV
  have ez62 : Below vz53.heap.size vz53 vz62 := ez61.trans (hb.mono ez61.size)
  clear hb
  refine hK _ _ (fun _ => ez62) ?_
  clear hK K
  have qz63 := ez62.size
  have ez63 : Below vz53.heap.size vz53 (vz62.alloc (.cells #[.int .i64 0, .int .i64 (-1), .int .i64 (-1), .int .i64 (-1), .int .i64 1, .int .i64 (-1)] 44)) := by exact bel_of
  refine any_run1 (i := 3) (by kernel_rfl) (by rfl) (by kernel_rfl) ?_
  intro K hK
  go_wp2_with fail
  refine hK _ _ (fun _ => ez63) ?_
  clear hK K
  have qz64 := ez63.size
  refine any_run1 (i := 4) (by kernel_rfl) (by rfl) (by kernel_rfl) ?_
  intro K hK
  go_wp2_with fail
  refine (checkChain_any 4 bookT [⟨0, -1, -1⟩, ⟨-1, 1, -1⟩] _ _ _ (by decide) (by decide) ((RS.below hR ez63).more ez63.size) (rl_new (BK.new _ _ _) rfl 2 rfl)).mono ?_
  rintro e vz64 ⟨rfl, hb⟩
  rw [ex_k2]
  unfold resV
  have ez64 : Below vz53.heap.size vz53 vz64 := ez63.trans (hb.mono ez63.size)
  clear hb
  refine hK _ _ (fun _ => ez64) ?_
  clear hK K
  (refine any_take 5 ?_ (by rfl) (by kernel_rfl) (fun _ _ _ _ _ hx => hx.elim) (.inl ⟨by rfl, ?_⟩) (by exact bel_of) ?_; rotate_left; (intro X hX; obtain ⟨r1, r2⟩ := Below.rules hX; clear hX; go_simp; rfl); simp only [List.getElem_toArray, List.getElem_cons_succ, List.getElem_cons_zero, Act.put, List.setIfInBounds_toArray, List.set_cons_succ, List.set_cons_zero])
  (refine any_take 6 ?_ (by rfl) (by kernel_rfl) (fun _ _ _ _ _ hx => hx.elim) (.inl ⟨by rfl, ?_⟩) (by exact bel_of) ?_; rotate_left; (intro X hX; obtain ⟨r1, r2⟩ := Below.rules hX; clear hX; go_simp; rfl); simp only [List.getElem_toArray, List.getElem_cons_succ, List.getElem_cons_zero, Act.put, List.setIfInBounds_toArray, List.set_cons_succ, List.set_cons_zero])
  (refine any_take 7 ?_ (by rfl) (by kernel_rfl) (fun _ _ _ _ _ hx => hx.elim) (.inl ⟨by rfl, ?_⟩) (by exact bel_of) ?_; rotate_left; (intro X hX; obtain ⟨r1, r2⟩ := Below.rules hX; clear hX; go_simp; rfl); simp only [List.getElem_toArray, List.getElem_cons_succ, List.getElem_cons_zero, Act.put, List.setIfInBounds_toArray, List.set_cons_succ, List.set_cons_zero])
  refine any_run1 (i := 8) (by kernel_rfl) (by rfl) (by kernel_rfl) ?_
  intro K hK
  go_wp2_with fail
  refine hK _ _ (fun _ => ez64) ?_
  clear hK K
  refine any_run1 (i := 9) (by kernel_rfl) (by rfl) (by kernel_rfl) ?_
  intro K hK
  go_wp2_with fail
  refine hK _ _ (fun _ => ez64) ?_
  clear hK K
  refine any_done (by kernel_rfl) (NoPanic.normal ?_)
  have hb := ez64
  replace hC : Below n0 w vz64 := hC.trans (hb.mono (by have := hC.size; omega))
  replace hR := (RS.below hR hb).more hb.size
  replace bb := bb.below hb bb.lt
  replace b1 := b1.below hb b1.lt
  replace b2 := b2.below hb b2.lt
  replace b3 := b3.below hb b3.lt
  clear hb
  clear lbb bbc0 bbc1
  have lbb := bb.lt
  have bbc0 := bb.cell 0
  have bbc1 := bb.cell 1
  simp at bbc0 bbc1
  go_upto_region 7 with fail
  refine wp_region_noPanic (plain_any [0, 4, 5, 6] (Below vz64.heap.size vz64) mixed ?_)
  (refine any_take 0 ?_ (by rfl) (by kernel_rfl) (fun _ _ _ _ _ hx => hx.elim) (.inl ⟨by rfl, ?_⟩) (by exact bel_of) ?_; rotate_left; (intro X hX; obtain ⟨r1, r2⟩ := Below.rules hX; clear hX; go_simp; rfl); simp only [List.getElem_toArray, List.getElem_cons_succ, List.getElem_cons_zero, Act.put, List.setIfInBounds_toArray, List.set_cons_succ, List.set_cons_zero])
  have d0z7 : Below vz64.heap.size vz64 vz64.drew := by exact bel_of
  have qz71 := d0z7.size
  refine any_run1 (i := 1) (by kernel_rfl) (by rfl) (by kernel_rfl) ?_
  intro K hK
  go_wp2_with fail
  refine (link_any (2) (1) (0) _).mono ?_
  rintro e vz71 ⟨rfl, hb⟩
  unfold klV
  have ez71 : Below vz64.heap.size vz64 vz71 := d0z7.trans (hb.mono d0z7.size)
  clear hb
  refine hK _ _ (fun _ => ez71) ?_
  clear hK K
  have qz72 := ez71.size
  have ez72 : Below vz64.heap.size vz64 (vz71.alloc (.cells #[.int .i64 2, .int .i64 1, .int .i64 0] 44)) := by exact bel_of
  refine any_run1 (i := 2) (by kernel_rfl) (by rfl) (by kernel_rfl) ?_
  intro K hK
  go_wp2_with fail
  refine hK _ _ (fun _ => ez72) ?_
  clear hK K
  have qz73 := ez72.size
  refine any_run1 (i := 3) (by kernel_rfl) (by rfl) (by kernel_rfl) ?_
  intro K hK
  go_wp2_with fail
  refine (checkChain_any 4 bookT [⟨2, 1, 0⟩] _ _ _ (by decide) (by decide) ((RS.below hR ez72).more ez72.size) (rl_new (BK.new _ _ _) rfl 1 rfl)).mono ?_
  rintro e vz73 ⟨rfl, hb⟩
  rw [ex_k3]
  unfold resV
  have ez73 : Below vz64.heap.size vz64 vz73 := ez72.trans (hb.mono ez72.size)
  clear hb
  refine hK _ _ (fun _ => ez73) ?_
  clear hK K
  (refine any_take 4 ?_ (by rfl) (by kernel_rfl) (fun _ _ _ _ _ hx => hx.elim) (.inl ⟨by rfl, ?_⟩) (by exact bel_of) ?_; rotate_left; (intro X hX; obtain ⟨r1, r2⟩ := Below.rules hX; clear hX; go_simp; rfl); simp only [List.getElem_toArray, List.getElem_cons_succ, List.getElem_cons_zero, Act.put, List.setIfInBounds_toArray, List.set_cons_succ, List.set_cons_zero])
  (refine any_take 5 ?_ (by rfl) (by kernel_rfl) (fun _ _ _ _ _ hx => hx.elim) (.inl ⟨by rfl, ?_⟩) (by exact bel_of) ?_; rotate_left; (intro X hX; obtain ⟨r1, r2⟩ := Below.rules hX; clear hX; go_simp; rfl); simp only [List.getElem_toArray, List.getElem_cons_succ, List.getElem_cons_zero, Act.put, List.setIfInBounds_toArray, List.set_cons_succ, List.set_cons_zero])
  (refine any_take 6 ?_ (by rfl) (by kernel_rfl) (fun _ _ _ _ _ hx => hx.elim) (.inl ⟨by rfl, ?_⟩) (by exact bel_of) ?_; rotate_left; (intro X hX; obtain ⟨r1, r2⟩ := Below.rules hX; clear hX; go_simp; rfl); simp only [List.getElem_toArray, List.getElem_cons_succ, List.getElem_cons_zero, Act.put, List.setIfInBounds_toArray, List.set_cons_succ, List.set_cons_zero])
  refine any_run1 (i := 7) (by kernel_rfl) (by rfl) (by kernel_rfl) ?_
  intro K hK
  go_wp2_with fail
  refine hK _ _ (fun _ => ez73) ?_
  clear hK K
  refine any_run1 (i := 8) (by kernel_rfl) (by rfl) (by kernel_rfl) ?_
  intro K hK
  go_wp2_with fail
  refine hK _ _ (fun _ => ez73) ?_
  clear hK K
  refine any_done (by kernel_rfl) (NoPanic.normal ?_)
  have hb := ez73
  replace hC : Below n0 w vz73 := hC.trans (hb.mono (by have := hC.size; omega))
  replace hR := (RS.below hR hb).more hb.size
  replace bb := bb.below hb bb.lt
  replace b1 := b1.below hb b1.lt
  replace b2 := b2.below hb b2.lt
  replace b3 := b3.below hb b3.lt
  clear hb
  clear lbb bbc0 bbc1
  have lbb := bb.lt
  have bbc0 := bb.cell 0
  have bbc1 := bb.cell 1
  simp at bbc0 bbc1
  go_upto_region 8 with fail
  refine wp_region_noPanic (plain_any [0, 3, 4, 5] (Below vz73.heap.size vz73) mixed ?_)
  (refine any_take 0 ?_ (by rfl) (by kernel_rfl) (fun _ _ _ _ _ hx => hx.elim) (.inl ⟨by rfl, ?_⟩) (by exact bel_of) ?_; rotate_left; (intro X hX; obtain ⟨r1, r2⟩ := Below.rules hX; clear hX; go_simp; rfl); simp only [List.getElem_toArray, List.getElem_cons_succ, List.getElem_cons_zero, Act.put, List.setIfInBounds_toArray, List.set_cons_succ, List.set_cons_zero])
  have d0zt8 : Below vz73.heap.size vz73 vz73.drew := by exact bel_of
  have qzt81 := d0zt8.size
  refine any_run1 (i := 1) (by kernel_rfl) (by rfl) (by kernel_rfl) ?_
  intro K hK
  go_wp2_with fail
  refine (test_any 1 2 0 9 _).mono ?_
  rintro e vzt81 ⟨rfl, hb⟩
  have ezt81 : Below vz73.heap.size vz73 vzt81 := d0zt8.trans (hb.mono d0zt8.size)
  clear hb
  refine hK _ _ (fun _ => ezt81) ?_
  clear hK K
  have qzt82 := ezt81.size
  refine any_run1 (i := 2) (by kernel_rfl) (by rfl) (by kernel_rfl) ?_
  intro K hK
  go_wp2_with fail
  refine (tellsP_any 4 bookT ⟨1, 2, 0, 9⟩ _ _ (by decide) ((RS.below hR ezt81).more ezt81.size)).mono ?_
  rintro e vzt82 ⟨rfl, hb⟩
  rw [ex_t1]
  have ezt82 : Below vz73.heap.size vz73 vzt82 := ezt81.trans (hb.mono ezt81.size)
  clear hb
  refine hK _ _ (fun _ => ezt82) ?_
  clear hK K
  (refine any_take 3 ?_ (by rfl) (by kernel_rfl) (fun _ _ _ _ _ hx => hx.elim) (.inl ⟨by rfl, ?_⟩) (by exact bel_of) ?_; rotate_left; (intro X hX; obtain ⟨r1, r2⟩ := Below.rules hX; clear hX; go_simp; rfl); simp only [List.getElem_toArray, List.getElem_cons_succ, List.getElem_cons_zero, Act.put, List.setIfInBounds_toArray, List.set_cons_succ, List.set_cons_zero])
  (refine any_take 4 ?_ (by rfl) (by kernel_rfl) (fun _ _ _ _ _ hx => hx.elim) (.inl ⟨by rfl, ?_⟩) (by exact bel_of) ?_; rotate_left; (intro X hX; obtain ⟨r1, r2⟩ := Below.rules hX; clear hX; go_simp; rfl); simp only [List.getElem_toArray, List.getElem_cons_succ, List.getElem_cons_zero, Act.put, List.setIfInBounds_toArray, List.set_cons_succ, List.set_cons_zero])
  (refine any_take 5 ?_ (by rfl) (by kernel_rfl) (fun _ _ _ _ _ hx => hx.elim) (.inl ⟨by rfl, ?_⟩) (by exact bel_of) ?_; rotate_left; (intro X hX; obtain ⟨r1, r2⟩ := Below.rules hX; clear hX; go_simp; rfl); simp only [List.getElem_toArray, List.getElem_cons_succ, List.getElem_cons_zero, Act.put, List.setIfInBounds_toArray, List.set_cons_succ, List.set_cons_zero])
  refine any_run1 (i := 6) (by kernel_rfl) (by rfl) (by kernel_rfl) ?_
  intro K hK
  go_wp2_with fail
  refine hK _ _ (fun _ => ezt82) ?_
  clear hK K
  refine any_run1 (i := 7) (by kernel_rfl) (by rfl) (by kernel_rfl) ?_
  intro K hK
  go_wp2_with fail
  refine hK _ _ (fun _ => ezt82) ?_
  clear hK K
  refine any_done (by kernel_rfl) (NoPanic.normal ?_)
  have hb := ezt82
  replace hC : Below n0 w vzt82 := hC.trans (hb.mono (by have := hC.size; omega))
  replace hR := (RS.below hR hb).more hb.size
  replace bb := bb.below hb bb.lt
  replace b1 := b1.below hb b1.lt
  replace b2 := b2.below hb b2.lt
  replace b3 := b3.below hb b3.lt
  clear hb
  clear lbb bbc0 bbc1
  have lbb := bb.lt
  have bbc0 := bb.cell 0
  have bbc1 := bb.cell 1
  simp at bbc0 bbc1
  go_upto_region 9 with fail
  refine wp_region_noPanic (plain_any [0, 3, 4, 5] (Below vzt82.heap.size vzt82) mixed ?_)
  (refine any_take 0 ?_ (by rfl) (by kernel_rfl) (fun _ _ _ _ _ hx => hx.elim) (.inl ⟨by rfl, ?_⟩) (by exact bel_of) ?_; rotate_left; (intro X hX; obtain ⟨r1, r2⟩ := Below.rules hX; clear hX; go_simp; rfl); simp only [List.getElem_toArray, List.getElem_cons_succ, List.getElem_cons_zero, Act.put, List.setIfInBounds_toArray, List.set_cons_succ, List.set_cons_zero])
  have d0zt9 : Below vzt82.heap.size vzt82 vzt82.drew := by exact bel_of
  have qzt91 := d0zt9.size
  refine any_run1 (i := 1) (by kernel_rfl) (by rfl) (by kernel_rfl) ?_
  intro K hK
  go_wp2_with fail
  refine (test_any 3 2 0 25 _).mono ?_
  rintro e vzt91 ⟨rfl, hb⟩
  have ezt91 : Below vzt82.heap.size vzt82 vzt91 := d0zt9.trans (hb.mono d0zt9.size)
  clear hb
  refine hK _ _ (fun _ => ezt91) ?_
  clear hK K
  have qzt92 := ezt91.size
  refine any_run1 (i := 2) (by kernel_rfl) (by rfl) (by kernel_rfl) ?_
  intro K hK
  go_wp2_with fail
  refine (tellsP_any 4 bookT ⟨3, 2, 0, 25⟩ _ _ (by decide) ((RS.below hR ezt91).more ezt91.size)).mono ?_
  rintro e vzt92 ⟨rfl, hb⟩
  rw [ex_t2]
  have ezt92 : Below vzt82.heap.size vzt82 vzt92 := ezt91.trans (hb.mono ezt91.size)
  clear hb
  refine hK _ _ (fun _ => ezt92) ?_
  clear hK K
  (refine any_take 3 ?_ (by rfl) (by kernel_rfl) (fun _ _ _ _ _ hx => hx.elim) (.inl ⟨by rfl, ?_⟩) (by exact bel_of) ?_; rotate_left; (intro X hX; obtain ⟨r1, r2⟩ := Below.rules hX; clear hX; go_simp; rfl); simp only [List.getElem_toArray, List.getElem_cons_succ, List.getElem_cons_zero, Act.put, List.setIfInBounds_toArray, List.set_cons_succ, List.set_cons_zero])
  (refine any_take 4 ?_ (by rfl) (by kernel_rfl) (fun _ _ _ _ _ hx => hx.elim) (.inl ⟨by rfl, ?_⟩) (by exact bel_of) ?_; rotate_left; (intro X hX; obtain ⟨r1, r2⟩ := Below.rules hX; clear hX; go_simp; rfl); simp only [List.getElem_toArray, List.getElem_cons_succ, List.getElem_cons_zero, Act.put, List.setIfInBounds_toArray, List.set_cons_succ, List.set_cons_zero])
  (refine any_take 5 ?_ (by rfl) (by kernel_rfl) (fun _ _ _ _ _ hx => hx.elim) (.inl ⟨by rfl, ?_⟩) (by exact bel_of) ?_; rotate_left; (intro X hX; obtain ⟨r1, r2⟩ := Below.rules hX; clear hX; go_simp; rfl); simp only [List.getElem_toArray, List.getElem_cons_succ, List.getElem_cons_zero, Act.put, List.setIfInBounds_toArray, List.set_cons_succ, List.set_cons_zero])
  refine any_run1 (i := 6) (by kernel_rfl) (by rfl) (by kernel_rfl) ?_
  intro K hK
  go_wp2_with fail
  refine hK _ _ (fun _ => ezt92) ?_
  clear hK K
  refine any_run1 (i := 7) (by kernel_rfl) (by rfl) (by kernel_rfl) ?_
  intro K hK
  go_wp2_with fail
  refine hK _ _ (fun _ => ezt92) ?_
  clear hK K
  refine any_done (by kernel_rfl) (NoPanic.normal ?_)
  have hb := ezt92
  replace hC : Below n0 w vzt92 := hC.trans (hb.mono (by have := hC.size; omega))
  replace hR := (RS.below hR hb).more hb.size
  replace bb := bb.below hb bb.lt
  replace b1 := b1.below hb b1.lt
  replace b2 := b2.below hb b2.lt
  replace b3 := b3.below hb b3.lt
  clear hb
  clear lbb bbc0 bbc1
  have lbb := bb.lt
  have bbc0 := bb.cell 0
  have bbc1 := bb.cell 1
  simp at bbc0 bbc1
  clear lbb bbc0 bbc1
  go_wp2_with fail
  refine (wrong_any _).mono ?_
  rintro e w5 ⟨vw, rfl, hW, hb⟩
  replace hC : Below n0 w w5 := hC.trans (hb.mono (by have := hC.size; omega))
  replace hR := (RS.below hR hb).more hb.size
  replace bb := bb.below hb bb.lt
  replace b1 := b1.below hb b1.lt
  replace b2 := b2.below hb b2.lt
  replace b3 := b3.below hb b3.lt
  clear hb
  have hW2 := OwnT.ri hW
  clear hW
  go_wp2_with fail
  refine (link_any 0 2 2 _).mono ?_
  rintro e w6 ⟨rfl, hb⟩
  replace hC : Below n0 w w6 := hC.trans (hb.mono (by have := hC.size; omega))
  replace hR := (RS.below hR hb).more hb.size
  replace bb := bb.below hb bb.lt
  replace b1 := b1.below hb b1.lt
  replace b2 := b2.below hb b2.lt
  replace b3 := b3.below hb b3.lt
  replace hW2 := (RS.below hW2 hb).more hb.size
  clear hb
  unfold klV
  go_wp2_with fail
  refine (link_any 2 0 4 _).mono ?_
  rintro e w7 ⟨rfl, hb⟩
  replace hC : Below n0 w w7 := hC.trans (hb.mono (by have := hC.size; omega))
  replace hR := (RS.below hR hb).more hb.size
  replace bb := bb.below hb bb.lt
  replace b1 := b1.below hb b1.lt
  replace b2 := b2.below hb b2.lt
  replace b3 := b3.below hb b3.lt
  replace hW2 := (RS.below hW2 hb).more hb.size
  clear hb
  unfold klV
  go_wp2_with fail
  obtain ⟨m5, hm5⟩ : ∃ n, w7.heap.size = n := ⟨_, rfl⟩
  try rw [hm5]
  have hqb4 : n0 ≤ m5 := by have := hC.size; omega
  have b4 : BK (w7.alloc (.cells #[.int .i64 0, .int .i64 2, .int .i64 2, .int .i64 2, .int .i64 0, .int .i64 4] 44)) (m5) #[.int .i64 0, .int .i64 2, .int .i64 2, .int .i64 2, .int .i64 0, .int .i64 4] 44 := BK.new' _ _ _ (m5) hm5
  have hsb4 : (w7.alloc (.cells #[.int .i64 0, .int .i64 2, .int .i64 2, .int .i64 2, .int .i64 0, .int .i64 4] 44)).heap.size = m5 + 1 := by simp [hm5]
  replace hC : Below n0 w (w7.alloc (.cells #[.int .i64 0, .int .i64 2, .int .i64 2, .int .i64 2, .int .i64 0, .int .i64 4] 44)) := Below.alloc hC (by have := hC.size; omega) _
  replace hR := (RS.below hR (w' := (w7.alloc (.cells #[.int .i64 0, .int .i64 2, .int .i64 2, .int .i64 2, .int .i64 0, .int .i64 4] 44))) (Below.alloc (Below.refl _ _) (Nat.le_refl _) _)).more (B' := (w7.alloc (.cells #[.int .i64 0, .int .i64 2, .int .i64 2, .int .i64 2, .int .i64 0, .int .i64 4] 44)).heap.size) (by simp)
  replace bb := bb.alloc (.cells #[.int .i64 0, .int .i64 2, .int .i64 2, .int .i64 2, .int .i64 0, .int .i64 4] 44)
  replace b1 := b1.alloc (.cells #[.int .i64 0, .int .i64 2, .int .i64 2, .int .i64 2, .int .i64 0, .int .i64 4] 44)
  replace b2 := b2.alloc (.cells #[.int .i64 0, .int .i64 2, .int .i64 2, .int .i64 2, .int .i64 0, .int .i64 4] 44)
  replace b3 := b3.alloc (.cells #[.int .i64 0, .int .i64 2, .int .i64 2, .int .i64 2, .int .i64 0, .int .i64 4] 44)
  replace hW2 := (RS.below hW2 (w' := (w7.alloc (.cells #[.int .i64 0, .int .i64 2, .int .i64 2, .int .i64 2, .int .i64 0, .int .i64 4] 44))) (Below.alloc (Below.refl _ _) (Nat.le_refl _) _)).more (B' := (w7.alloc (.cells #[.int .i64 0, .int .i64 2, .int .i64 2, .int .i64 2, .int .i64 0, .int .i64 4] 44)).heap.size) (by simp)
  generalize (w7.alloc (.cells #[.int .i64 0, .int .i64 2, .int .i64 2, .int .i64 2, .int .i64 0, .int .i64 4] 44)) = Wb4 at *
  clear hm5
  clear hsb4
  refine (checkChain_any 4 wrongT [⟨0, 2, 2⟩, ⟨2, 0, 4⟩] _ _ _ (by decide) (by decide) hW2 (rl_new b4 rfl 2 rfl)).mono ?_
  rintro e w8 ⟨rfl, hb⟩
  replace hC : Below n0 w w8 := hC.trans (hb.mono (by have := hC.size; omega))
  replace hR := (RS.below hR hb).more hb.size
  replace bb := bb.below hb bb.lt
  replace b1 := b1.below hb b1.lt
  replace b2 := b2.below hb b2.lt
  replace b3 := b3.below hb b3.lt
  replace hW2 := (RS.below hW2 hb).more hb.size
  replace b4 := b4.below hb b4.lt
  clear hb
  rw [ex_k4]
  unfold resV
  have lb1 := b1.lt
  have b1c0 := b1.cell 0
  have b1c1 := b1.cell 1
  simp at b1c0 b1c1
  have lb2 := b2.lt
  have b2c0 := b2.cell 0
  have b2c1 := b2.cell 1
  simp at b2c0 b2c1
  have lb3 := b3.lt
  have b3c0 := b3.cell 0
  have b3c1 := b3.cell 1
  simp at b3c0 b3c1
  go_upto_region 11 with fail
  simp only [List.append_eq, List.cons_append, List.nil_append]
  refine wp_region_noPanic (plain_any [0, 1, 2, 3, 4, 5, 6, 7, 8, 9, 10, 11, 12, 13, 14, 15, 16, 17, 18, 19, 20, 21, 22, 23, 24, 25, 26, 27, 28, 29, 30, 31, 32, 33, 34, 35, 37, 38, 39, 40, 42, 43, 44, 45, 47, 48, 49, 50, 51, 52, 53, 54, 55, 56, 57, 58, 59, 60, 61, 62, 63, 64, 65, 66, 67, 68, 69, 71] (Below w8.heap.size w8) mixed ?_)
  (refine any_take 0 ?_ (by rfl) (by kernel_rfl) (fun _ _ _ _ _ hx => hx.elim) (.inl ⟨by rfl, ?_⟩) (by exact bel_of) ?_; rotate_left; (intro X hX; obtain ⟨r1, r2⟩ := Below.rules hX; clear hX; go_simp; rfl); simp only [List.getElem_toArray, List.getElem_cons_succ, List.getElem_cons_zero, Act.put, List.setIfInBounds_toArray, List.set_cons_succ, List.set_cons_zero])
  have d0zf : Below w8.heap.size w8 w8.drew := by exact bel_of
  (refine any_take 1 ?_ (by rfl) (by kernel_rfl) (fun _ _ _ _ _ hx => hx.elim) (.inl ⟨by rfl, ?_⟩) (by exact bel_of) ?_; rotate_left; (intro X hX; obtain ⟨r1, r2⟩ := Below.rules hX; clear hX; go_simp; rfl); simp only [List.getElem_toArray, List.getElem_cons_succ, List.getElem_cons_zero, Act.put, List.setIfInBounds_toArray, List.set_cons_succ, List.set_cons_zero])
  (refine any_take 2 ?_ (by rfl) (by kernel_rfl) (fun _ _ _ _ _ hx => hx.elim) (.inl ⟨by rfl, ?_⟩) (by exact bel_of) ?_; rotate_left; (intro X hX; obtain ⟨r1, r2⟩ := Below.rules hX; clear hX; go_simp; rfl); simp only [List.getElem_toArray, List.getElem_cons_succ, List.getElem_cons_zero, Act.put, List.setIfInBounds_toArray, List.set_cons_succ, List.set_cons_zero])
  (refine any_take 3 ?_ (by rfl) (by kernel_rfl) (fun _ _ _ _ _ hx => hx.elim) (.inl ⟨by rfl, ?_⟩) (by exact bel_of) ?_; rotate_left; (intro X hX; obtain ⟨r1, r2⟩ := Below.rules hX; clear hX; go_simp; rfl); simp only [List.getElem_toArray, List.getElem_cons_succ, List.getElem_cons_zero, Act.put, List.setIfInBounds_toArray, List.set_cons_succ, List.set_cons_zero])
  (refine any_take 4 ?_ (by rfl) (by kernel_rfl) (fun _ _ _ _ _ hx => hx.elim) (.inl ⟨by rfl, ?_⟩) (by exact bel_of) ?_; rotate_left; (intro X hX; obtain ⟨r1, r2⟩ := Below.rules hX; clear hX; go_simp; rfl); simp only [List.getElem_toArray, List.getElem_cons_succ, List.getElem_cons_zero, Act.put, List.setIfInBounds_toArray, List.set_cons_succ, List.set_cons_zero])
  (refine any_take 5 ?_ (by rfl) (by kernel_rfl) (fun _ _ _ _ _ hx => hx.elim) (.inl ⟨by rfl, ?_⟩) (by exact bel_of) ?_; rotate_left; (intro X hX; obtain ⟨r1, r2⟩ := Below.rules hX; clear hX; go_simp; rfl); simp only [List.getElem_toArray, List.getElem_cons_succ, List.getElem_cons_zero, Act.put, List.setIfInBounds_toArray, List.set_cons_succ, List.set_cons_zero])
  (refine any_take 6 ?_ (by rfl) (by kernel_rfl) (fun _ _ _ _ _ hx => hx.elim) (.inl ⟨by rfl, ?_⟩) (by exact bel_of) ?_; rotate_left; (intro X hX; obtain ⟨r1, r2⟩ := Below.rules hX; clear hX; go_simp; rfl); simp only [List.getElem_toArray, List.getElem_cons_succ, List.getElem_cons_zero, Act.put, List.setIfInBounds_toArray, List.set_cons_succ, List.set_cons_zero])
  (refine any_take 7 ?_ (by rfl) (by kernel_rfl) (fun _ _ _ _ _ hx => hx.elim) (.inl ⟨by rfl, ?_⟩) (by exact bel_of) ?_; rotate_left; (intro X hX; obtain ⟨r1, r2⟩ := Below.rules hX; clear hX; go_simp; rfl); simp only [List.getElem_toArray, List.getElem_cons_succ, List.getElem_cons_zero, Act.put, List.setIfInBounds_toArray, List.set_cons_succ, List.set_cons_zero])
  (refine any_take 8 ?_ (by rfl) (by kernel_rfl) (fun _ _ _ _ _ hx => hx.elim) (.inl ⟨by rfl, ?_⟩) (by exact bel_of) ?_; rotate_left; (intro X hX; obtain ⟨r1, r2⟩ := Below.rules hX; clear hX; go_simp; rfl); simp only [List.getElem_toArray, List.getElem_cons_succ, List.getElem_cons_zero, Act.put, List.setIfInBounds_toArray, List.set_cons_succ, List.set_cons_zero])
  (refine any_take 9 ?_ (by rfl) (by kernel_rfl) (fun _ _ _ _ _ hx => hx.elim) (.inl ⟨by rfl, ?_⟩) (by exact bel_of) ?_; rotate_left; (intro X hX; obtain ⟨r1, r2⟩ := Below.rules hX; clear hX; go_simp; rfl); simp only [List.getElem_toArray, List.getElem_cons_succ, List.getElem_cons_zero, Act.put, List.setIfInBounds_toArray, List.set_cons_succ, List.set_cons_zero])
  (refine any_take 10 ?_ (by rfl) (by kernel_rfl) (fun _ _ _ _ _ hx => hx.elim) (.inl ⟨by rfl, ?_⟩) (by exact bel_of) ?_; rotate_left; (intro X hX; obtain ⟨r1, r2⟩ := Below.rules hX; clear hX; go_simp; rfl); simp only [List.getElem_toArray, List.getElem_cons_succ, List.getElem_cons_zero, Act.put, List.setIfInBounds_toArray, List.set_cons_succ, List.set_cons_zero])
  (refine any_take 11 ?_ (by rfl) (by kernel_rfl) (fun _ _ _ _ _ hx => hx.elim) (.inl ⟨by rfl, ?_⟩) (by exact bel_of) ?_; rotate_left; (intro X hX; obtain ⟨r1, r2⟩ := Below.rules hX; clear hX; go_simp; rfl); simp only [List.getElem_toArray, List.getElem_cons_succ, List.getElem_cons_zero, Act.put, List.setIfInBounds_toArray, List.set_cons_succ, List.set_cons_zero])
  (refine any_take 12 ?_ (by rfl) (by kernel_rfl) (fun _ _ _ _ _ hx => hx.elim) (.inl ⟨by rfl, ?_⟩) (by exact bel_of) ?_; rotate_left; (intro X hX; obtain ⟨r1, r2⟩ := Below.rules hX; clear hX; go_simp; rfl); simp only [List.getElem_toArray, List.getElem_cons_succ, List.getElem_cons_zero, Act.put, List.setIfInBounds_toArray, List.set_cons_succ, List.set_cons_zero])
  (refine any_take 13 ?_ (by rfl) (by kernel_rfl) (fun _ _ _ _ _ hx => hx.elim) (.inl ⟨by rfl, ?_⟩) (by exact bel_of) ?_; rotate_left; (intro X hX; obtain ⟨r1, r2⟩ := Below.rules hX; clear hX; go_simp; rfl); simp only [List.getElem_toArray, List.getElem_cons_succ, List.getElem_cons_zero, Act.put, List.setIfInBounds_toArray, List.set_cons_succ, List.set_cons_zero])
  (refine any_take 14 ?_ (by rfl) (by kernel_rfl) (fun _ _ _ _ _ hx => hx.elim) (.inl ⟨by rfl, ?_⟩) (by exact bel_of) ?_; rotate_left; (intro X hX; obtain ⟨r1, r2⟩ := Below.rules hX; clear hX; go_simp; rfl); simp only [List.getElem_toArray, List.getElem_cons_succ, List.getElem_cons_zero, Act.put, List.setIfInBounds_toArray, List.set_cons_succ, List.set_cons_zero])
  (refine any_take 15 ?_ (by rfl) (by kernel_rfl) (fun _ _ _ _ _ hx => hx.elim) (.inl ⟨by rfl, ?_⟩) (by exact bel_of) ?_; rotate_left; (intro X hX; obtain ⟨r1, r2⟩ := Below.rules hX; clear hX; go_simp; rfl); simp only [List.getElem_toArray, List.getElem_cons_succ, List.getElem_cons_zero, Act.put, List.setIfInBounds_toArray, List.set_cons_succ, List.set_cons_zero])
  (refine any_take 16 ?_ (by rfl) (by kernel_rfl) (fun _ _ _ _ _ hx => hx.elim) (.inl ⟨by rfl, ?_⟩) (by exact bel_of) ?_; rotate_left; (intro X hX; obtain ⟨r1, r2⟩ := Below.rules hX; clear hX; go_simp; rfl); simp only [List.getElem_toArray, List.getElem_cons_succ, List.getElem_cons_zero, Act.put, List.setIfInBounds_toArray, List.set_cons_succ, List.set_cons_zero])
  (refine any_take 17 ?_ (by rfl) (by kernel_rfl) (fun _ _ _ _ _ hx => hx.elim) (.inl ⟨by rfl, ?_⟩) (by exact bel_of) ?_; rotate_left; (intro X hX; obtain ⟨r1, r2⟩ := Below.rules hX; clear hX; go_simp; rfl); simp only [List.getElem_toArray, List.getElem_cons_succ, List.getElem_cons_zero, Act.put, List.setIfInBounds_toArray, List.set_cons_succ, List.set_cons_zero])
  (refine any_take 18 ?_ (by rfl) (by kernel_rfl) (fun _ _ _ _ _ hx => hx.elim) (.inl ⟨by rfl, ?_⟩) (by exact bel_of) ?_; rotate_left; (intro X hX; obtain ⟨r1, r2⟩ := Below.rules hX; clear hX; go_simp; rfl); simp only [List.getElem_toArray, List.getElem_cons_succ, List.getElem_cons_zero, Act.put, List.setIfInBounds_toArray, List.set_cons_succ, List.set_cons_zero])
  (refine any_take 19 ?_ (by rfl) (by kernel_rfl) (fun _ _ _ _ _ hx => hx.elim) (.inl ⟨by rfl, ?_⟩) (by exact bel_of) ?_; rotate_left; (intro X hX; obtain ⟨r1, r2⟩ := Below.rules hX; clear hX; go_simp; rfl); simp only [List.getElem_toArray, List.getElem_cons_succ, List.getElem_cons_zero, Act.put, List.setIfInBounds_toArray, List.set_cons_succ, List.set_cons_zero])
  (refine any_take 20 ?_ (by rfl) (by kernel_rfl) (fun _ _ _ _ _ hx => hx.elim) (.inl ⟨by rfl, ?_⟩) (by exact bel_of) ?_; rotate_left; (intro X hX; obtain ⟨r1, r2⟩ := Below.rules hX; clear hX; go_simp; rfl); simp only [List.getElem_toArray, List.getElem_cons_succ, List.getElem_cons_zero, Act.put, List.setIfInBounds_toArray, List.set_cons_succ, List.set_cons_zero])
  (refine any_take 21 ?_ (by rfl) (by kernel_rfl) (fun _ _ _ _ _ hx => hx.elim) (.inl ⟨by rfl, ?_⟩) (by exact bel_of) ?_; rotate_left; (intro X hX; obtain ⟨r1, r2⟩ := Below.rules hX; clear hX; go_simp; rfl); simp only [List.getElem_toArray, List.getElem_cons_succ, List.getElem_cons_zero, Act.put, List.setIfInBounds_toArray, List.set_cons_succ, List.set_cons_zero])
  (refine any_take 22 ?_ (by rfl) (by kernel_rfl) (fun _ _ _ _ _ hx => hx.elim) (.inl ⟨by rfl, ?_⟩) (by exact bel_of) ?_; rotate_left; (intro X hX; obtain ⟨r1, r2⟩ := Below.rules hX; clear hX; go_simp; rfl); simp only [List.getElem_toArray, List.getElem_cons_succ, List.getElem_cons_zero, Act.put, List.setIfInBounds_toArray, List.set_cons_succ, List.set_cons_zero])
  (refine any_take 23 ?_ (by rfl) (by kernel_rfl) (fun _ _ _ _ _ hx => hx.elim) (.inl ⟨by rfl, ?_⟩) (by exact bel_of) ?_; rotate_left; (intro X hX; obtain ⟨r1, r2⟩ := Below.rules hX; clear hX; go_simp; rfl); simp only [List.getElem_toArray, List.getElem_cons_succ, List.getElem_cons_zero, Act.put, List.setIfInBounds_toArray, List.set_cons_succ, List.set_cons_zero])
  (refine any_take 24 ?_ (by rfl) (by kernel_rfl) (fun _ _ _ _ _ hx => hx.elim) (.inl ⟨by rfl, ?_⟩) (by exact bel_of) ?_; rotate_left; (intro X hX; obtain ⟨r1, r2⟩ := Below.rules hX; clear hX; go_simp; rfl); simp only [List.getElem_toArray, List.getElem_cons_succ, List.getElem_cons_zero, Act.put, List.setIfInBounds_toArray, List.set_cons_succ, List.set_cons_zero])
  (refine any_take 25 ?_ (by rfl) (by kernel_rfl) (fun _ _ _ _ _ hx => hx.elim) (.inl ⟨by rfl, ?_⟩) (by exact bel_of) ?_; rotate_left; (intro X hX; obtain ⟨r1, r2⟩ := Below.rules hX; clear hX; go_simp; rfl); simp only [List.getElem_toArray, List.getElem_cons_succ, List.getElem_cons_zero, Act.put, List.setIfInBounds_toArray, List.set_cons_succ, List.set_cons_zero])
  (refine any_take 26 ?_ (by rfl) (by kernel_rfl) (fun _ _ _ _ _ hx => hx.elim) (.inl ⟨by rfl, ?_⟩) (by exact bel_of) ?_; rotate_left; (intro X hX; obtain ⟨r1, r2⟩ := Below.rules hX; clear hX; go_simp; rfl); simp only [List.getElem_toArray, List.getElem_cons_succ, List.getElem_cons_zero, Act.put, List.setIfInBounds_toArray, List.set_cons_succ, List.set_cons_zero])
  (refine any_take 27 ?_ (by rfl) (by kernel_rfl) (fun _ _ _ _ _ hx => hx.elim) (.inl ⟨by rfl, ?_⟩) (by exact bel_of) ?_; rotate_left; (intro X hX; obtain ⟨r1, r2⟩ := Below.rules hX; clear hX; go_simp; rfl); simp only [List.getElem_toArray, List.getElem_cons_succ, List.getElem_cons_zero, Act.put, List.setIfInBounds_toArray, List.set_cons_succ, List.set_cons_zero])
  (refine any_take 28 ?_ (by rfl) (by kernel_rfl) (fun _ _ _ _ _ hx => hx.elim) (.inl ⟨by rfl, ?_⟩) (by exact bel_of) ?_; rotate_left; (intro X hX; obtain ⟨r1, r2⟩ := Below.rules hX; clear hX; go_simp; rfl); simp only [List.getElem_toArray, List.getElem_cons_succ, List.getElem_cons_zero, Act.put, List.setIfInBounds_toArray, List.set_cons_succ, List.set_cons_zero])
  (refine any_take 29 ?_ (by rfl) (by kernel_rfl) (fun _ _ _ _ _ hx => hx.elim) (.inl ⟨by rfl, ?_⟩) (by exact bel_of) ?_; rotate_left; (intro X hX; obtain ⟨r1, r2⟩ := Below.rules hX; clear hX; go_simp; rfl); simp only [List.getElem_toArray, List.getElem_cons_succ, List.getElem_cons_zero, Act.put, List.setIfInBounds_toArray, List.set_cons_succ, List.set_cons_zero])
  (refine any_take 30 ?_ (by rfl) (by kernel_rfl) (fun _ _ _ _ _ hx => hx.elim) (.inl ⟨by rfl, ?_⟩) (by exact bel_of) ?_; rotate_left; (intro X hX; obtain ⟨r1, r2⟩ := Below.rules hX; clear hX; go_simp; rfl); simp only [List.getElem_toArray, List.getElem_cons_succ, List.getElem_cons_zero, Act.put, List.setIfInBounds_toArray, List.set_cons_succ, List.set_cons_zero])
  (refine any_take 31 ?_ (by rfl) (by kernel_rfl) (fun _ _ _ _ _ hx => hx.elim) (.inl ⟨by rfl, ?_⟩) (by exact bel_of) ?_; rotate_left; (intro X hX; obtain ⟨r1, r2⟩ := Below.rules hX; clear hX; go_simp; rfl); simp only [List.getElem_toArray, List.getElem_cons_succ, List.getElem_cons_zero, Act.put, List.setIfInBounds_toArray, List.set_cons_succ, List.set_cons_zero])
  (refine any_take 32 ?_ (by rfl) (by kernel_rfl) (fun _ _ _ _ _ hx => hx.elim) (.inl ⟨by rfl, ?_⟩) (by exact bel_of) ?_; rotate_left; (intro X hX; obtain ⟨r1, r2⟩ := Below.rules hX; clear hX; go_simp; rfl); simp only [List.getElem_toArray, List.getElem_cons_succ, List.getElem_cons_zero, Act.put, List.setIfInBounds_toArray, List.set_cons_succ, List.set_cons_zero])
  (refine any_take 33 ?_ (by rfl) (by kernel_rfl) (fun _ _ _ _ _ hx => hx.elim) (.inl ⟨by rfl, ?_⟩) (by exact bel_of) ?_; rotate_left; (intro X hX; obtain ⟨r1, r2⟩ := Below.rules hX; clear hX; go_simp; rfl); simp only [List.getElem_toArray, List.getElem_cons_succ, List.getElem_cons_zero, Act.put, List.setIfInBounds_toArray, List.set_cons_succ, List.set_cons_zero])
  (refine any_take 34 ?_ (by rfl) (by kernel_rfl) (fun _ _ _ _ _ hx => hx.elim) (.inl ⟨by rfl, ?_⟩) (by exact bel_of) ?_; rotate_left; (intro X hX; obtain ⟨r1, r2⟩ := Below.rules hX; clear hX; go_simp; rfl); simp only [List.getElem_toArray, List.getElem_cons_succ, List.getElem_cons_zero, Act.put, List.setIfInBounds_toArray, List.set_cons_succ, List.set_cons_zero])
  (refine any_take 35 ?_ (by rfl) (by kernel_rfl) (fun _ _ _ _ _ hx => hx.elim) (.inl ⟨by rfl, ?_⟩) (by exact bel_of) ?_; rotate_left; (intro X hX; obtain ⟨r1, r2⟩ := Below.rules hX; clear hX; go_simp; rfl); simp only [List.getElem_toArray, List.getElem_cons_succ, List.getElem_cons_zero, Act.put, List.setIfInBounds_toArray, List.set_cons_succ, List.set_cons_zero])
  have qzf1 := d0zf.size
  refine any_run1 (i := 36) (by kernel_rfl) (by rfl) (by kernel_rfl) ?_
  intro K hK
  go_wp2_with fail
  refine (rg_any 0 25 _).mono ?_
  rintro e vzf1 ⟨rfl, hb⟩
  have ezf1 : Below w8.heap.size w8 vzf1 := d0zf.trans (hb.mono d0zf.size)
  clear hb
  refine hK _ _ (fun _ => ezf1) ?_
  clear hK K
  (refine any_take 37 ?_ (by rfl) (by kernel_rfl) (fun _ _ _ _ _ hx => hx.elim) (.inl ⟨by rfl, ?_⟩) (by exact bel_of) ?_; rotate_left; (intro X hX; obtain ⟨r1, r2⟩ := Below.rules hX; clear hX; go_simp; rfl); simp only [List.getElem_toArray, List.getElem_cons_succ, List.getElem_cons_zero, Act.put, List.setIfInBounds_toArray, List.set_cons_succ, List.set_cons_zero])
  (refine any_take 38 ?_ (by rfl) (by kernel_rfl) (fun _ _ _ _ _ hx => hx.elim) (.inl ⟨by rfl, ?_⟩) (by exact bel_of) ?_; rotate_left; (intro X hX; obtain ⟨r1, r2⟩ := Below.rules hX; clear hX; go_simp; rfl); simp only [List.getElem_toArray, List.getElem_cons_succ, List.getElem_cons_zero, Act.put, List.setIfInBounds_toArray, List.set_cons_succ, List.set_cons_zero])
  (refine any_take 39 ?_ (by rfl) (by kernel_rfl) (fun _ _ _ _ _ hx => hx.elim) (.inl ⟨by rfl, ?_⟩) (by exact bel_of) ?_; rotate_left; (intro X hX; obtain ⟨r1, r2⟩ := Below.rules hX; clear hX; go_simp; rfl); simp only [List.getElem_toArray, List.getElem_cons_succ, List.getElem_cons_zero, Act.put, List.setIfInBounds_toArray, List.set_cons_succ, List.set_cons_zero])
  (refine any_take 40 ?_ (by rfl) (by kernel_rfl) (fun _ _ _ _ _ hx => hx.elim) (.inl ⟨by rfl, ?_⟩) (by exact bel_of) ?_; rotate_left; (intro X hX; obtain ⟨r1, r2⟩ := Below.rules hX; clear hX; go_simp; rfl); simp only [List.getElem_toArray, List.getElem_cons_succ, List.getElem_cons_zero, Act.put, List.setIfInBounds_toArray, List.set_cons_succ, List.set_cons_zero])
  have qzf2 := ezf1.size
  refine any_run1 (i := 41) (by kernel_rfl) (by rfl) (by kernel_rfl) ?_
  intro K hK
  go_wp2_with fail
  refine (rg_any (-20) 5 _).mono ?_
  rintro e vzf2 ⟨rfl, hb⟩
  have ezf2 : Below w8.heap.size w8 vzf2 := ezf1.trans (hb.mono ezf1.size)
  clear hb
  refine hK _ _ (fun _ => ezf2) ?_
  clear hK K
  (refine any_take 42 ?_ (by rfl) (by kernel_rfl) (fun _ _ _ _ _ hx => hx.elim) (.inl ⟨by rfl, ?_⟩) (by exact bel_of) ?_; rotate_left; (intro X hX; obtain ⟨r1, r2⟩ := Below.rules hX; clear hX; go_simp; rfl); simp only [List.getElem_toArray, List.getElem_cons_succ, List.getElem_cons_zero, Act.put, List.setIfInBounds_toArray, List.set_cons_succ, List.set_cons_zero])
  (refine any_take 43 ?_ (by rfl) (by kernel_rfl) (fun _ _ _ _ _ hx => hx.elim) (.inl ⟨by rfl, ?_⟩) (by exact bel_of) ?_; rotate_left; (intro X hX; obtain ⟨r1, r2⟩ := Below.rules hX; clear hX; go_simp; rfl); simp only [List.getElem_toArray, List.getElem_cons_succ, List.getElem_cons_zero, Act.put, List.setIfInBounds_toArray, List.set_cons_succ, List.set_cons_zero])
  (refine any_take 44 ?_ (by rfl) (by kernel_rfl) (fun _ _ _ _ _ hx => hx.elim) (.inl ⟨by rfl, ?_⟩) (by exact bel_of) ?_; rotate_left; (intro X hX; obtain ⟨r1, r2⟩ := Below.rules hX; clear hX; go_simp; rfl); simp only [List.getElem_toArray, List.getElem_cons_succ, List.getElem_cons_zero, Act.put, List.setIfInBounds_toArray, List.set_cons_succ, List.set_cons_zero])
  (refine any_take 45 ?_ (by rfl) (by kernel_rfl) (fun _ _ _ _ _ hx => hx.elim) (.inl ⟨by rfl, ?_⟩) (by exact bel_of) ?_; rotate_left; (intro X hX; obtain ⟨r1, r2⟩ := Below.rules hX; clear hX; go_simp; rfl); simp only [List.getElem_toArray, List.getElem_cons_succ, List.getElem_cons_zero, Act.put, List.setIfInBounds_toArray, List.set_cons_succ, List.set_cons_zero])
  have qzf3 := ezf2.size
  refine any_run1 (i := 46) (by kernel_rfl) (by rfl) (by kernel_rfl) ?_
  intro K hK
  go_wp2_with fail
  refine (rg_any 20 1000 _).mono ?_
  rintro e vzf3 ⟨rfl, hb⟩
  have ezf3 : Below w8.heap.size w8 vzf3 := ezf2.trans (hb.mono ezf2.size)
  clear hb
  refine hK _ _ (fun _ => ezf3) ?_
  clear hK K
  (refine any_take 47 ?_ (by rfl) (by kernel_rfl) (fun _ _ _ _ _ hx => hx.elim) (.inl ⟨by rfl, ?_⟩) (by exact bel_of) ?_; rotate_left; (intro X hX; obtain ⟨r1, r2⟩ := Below.rules hX; clear hX; go_simp; rfl); simp only [List.getElem_toArray, List.getElem_cons_succ, List.getElem_cons_zero, Act.put, List.setIfInBounds_toArray, List.set_cons_succ, List.set_cons_zero])
  (refine any_take 48 ?_ (by rfl) (by kernel_rfl) (fun _ _ _ _ _ hx => hx.elim) (.inl ⟨by rfl, ?_⟩) (by exact bel_of) ?_; rotate_left; (intro X hX; obtain ⟨r1, r2⟩ := Below.rules hX; clear hX; go_simp; rfl); simp only [List.getElem_toArray, List.getElem_cons_succ, List.getElem_cons_zero, Act.put, List.setIfInBounds_toArray, List.set_cons_succ, List.set_cons_zero])
  (refine any_take 49 ?_ (by rfl) (by kernel_rfl) (fun _ _ _ _ _ hx => hx.elim) (.inl ⟨by rfl, ?_⟩) (by exact bel_of) ?_; rotate_left; (intro X hX; obtain ⟨r1, r2⟩ := Below.rules hX; clear hX; go_simp; rfl); simp only [List.getElem_toArray, List.getElem_cons_succ, List.getElem_cons_zero, Act.put, List.setIfInBounds_toArray, List.set_cons_succ, List.set_cons_zero])
  (refine any_take 50 ?_ (by rfl) (by kernel_rfl) (fun _ _ _ _ _ hx => hx.elim) (.inl ⟨by rfl, ?_⟩) (by exact bel_of) ?_; rotate_left; (intro X hX; obtain ⟨r1, r2⟩ := Below.rules hX; clear hX; go_simp; rfl); simp only [List.getElem_toArray, List.getElem_cons_succ, List.getElem_cons_zero, Act.put, List.setIfInBounds_toArray, List.set_cons_succ, List.set_cons_zero])
  (refine any_take 51 ?_ (by rfl) (by kernel_rfl) (fun _ _ _ _ _ hx => hx.elim) (.inl ⟨by rfl, ?_⟩) (by exact bel_of) ?_; rotate_left; (intro X hX; obtain ⟨r1, r2⟩ := Below.rules hX; clear hX; go_simp; rfl); simp only [List.getElem_toArray, List.getElem_cons_succ, List.getElem_cons_zero, Act.put, List.setIfInBounds_toArray, List.set_cons_succ, List.set_cons_zero])
  (refine any_take 52 ?_ (by rfl) (by kernel_rfl) (fun _ _ _ _ _ hx => hx.elim) (.inl ⟨by rfl, ?_⟩) (by exact bel_of) ?_; rotate_left; (intro X hX; obtain ⟨r1, r2⟩ := Below.rules hX; clear hX; go_simp; rfl); simp only [List.getElem_toArray, List.getElem_cons_succ, List.getElem_cons_zero, Act.put, List.setIfInBounds_toArray, List.set_cons_succ, List.set_cons_zero])
  (refine any_take 53 ?_ (by rfl) (by kernel_rfl) (fun _ _ _ _ _ hx => hx.elim) (.inl ⟨by rfl, ?_⟩) (by exact bel_of) ?_; rotate_left; (intro X hX; obtain ⟨r1, r2⟩ := Below.rules hX; clear hX; go_simp; rfl); simp only [List.getElem_toArray, List.getElem_cons_succ, List.getElem_cons_zero, Act.put, List.setIfInBounds_toArray, List.set_cons_succ, List.set_cons_zero])
  (refine any_take 54 ?_ (by rfl) (by kernel_rfl) (fun _ _ _ _ _ hx => hx.elim) (.inl ⟨by rfl, ?_⟩) (by exact bel_of) ?_; rotate_left; (intro X hX; obtain ⟨r1, r2⟩ := Below.rules hX; clear hX; go_simp; rfl); simp only [List.getElem_toArray, List.getElem_cons_succ, List.getElem_cons_zero, Act.put, List.setIfInBounds_toArray, List.set_cons_succ, List.set_cons_zero])
  (refine any_take 55 ?_ (by rfl) (by kernel_rfl) (fun _ _ _ _ _ hx => hx.elim) (.inl ⟨by rfl, ?_⟩) (by exact bel_of) ?_; rotate_left; (intro X hX; obtain ⟨r1, r2⟩ := Below.rules hX; clear hX; go_simp; rfl); simp only [List.getElem_toArray, List.getElem_cons_succ, List.getElem_cons_zero, Act.put, List.setIfInBounds_toArray, List.set_cons_succ, List.set_cons_zero])
  (refine any_take 56 ?_ (by rfl) (by kernel_rfl) (fun _ _ _ _ _ hx => hx.elim) (.inl ⟨by rfl, ?_⟩) (by exact bel_of) ?_; rotate_left; (intro X hX; obtain ⟨r1, r2⟩ := Below.rules hX; clear hX; go_simp; rfl); simp only [List.getElem_toArray, List.getElem_cons_succ, List.getElem_cons_zero, Act.put, List.setIfInBounds_toArray, List.set_cons_succ, List.set_cons_zero])
  (refine any_take 57 ?_ (by rfl) (by kernel_rfl) (fun _ _ _ _ _ hx => hx.elim) (.inl ⟨by rfl, ?_⟩) (by exact bel_of) ?_; rotate_left; (intro X hX; obtain ⟨r1, r2⟩ := Below.rules hX; clear hX; go_simp; rfl); simp only [List.getElem_toArray, List.getElem_cons_succ, List.getElem_cons_zero, Act.put, List.setIfInBounds_toArray, List.set_cons_succ, List.set_cons_zero])
  (refine any_take 58 ?_ (by rfl) (by kernel_rfl) (fun _ _ _ _ _ hx => hx.elim) (.inl ⟨by rfl, ?_⟩) (by exact bel_of) ?_; rotate_left; (intro X hX; obtain ⟨r1, r2⟩ := Below.rules hX; clear hX; go_simp; rfl); simp only [List.getElem_toArray, List.getElem_cons_succ, List.getElem_cons_zero, Act.put, List.setIfInBounds_toArray, List.set_cons_succ, List.set_cons_zero])
  (refine any_take 59 ?_ (by rfl) (by kernel_rfl) (fun _ _ _ _ _ hx => hx.elim) (.inl ⟨by rfl, ?_⟩) (by exact bel_of) ?_; rotate_left; (intro X hX; obtain ⟨r1, r2⟩ := Below.rules hX; clear hX; go_simp; rfl); simp only [List.getElem_toArray, List.getElem_cons_succ, List.getElem_cons_zero, Act.put, List.setIfInBounds_toArray, List.set_cons_succ, List.set_cons_zero])
  (refine any_take 60 ?_ (by rfl) (by kernel_rfl) (fun _ _ _ _ _ hx => hx.elim) (.inl ⟨by rfl, ?_⟩) (by exact bel_of) ?_; rotate_left; (intro X hX; obtain ⟨r1, r2⟩ := Below.rules hX; clear hX; go_simp; rfl); simp only [List.getElem_toArray, List.getElem_cons_succ, List.getElem_cons_zero, Act.put, List.setIfInBounds_toArray, List.set_cons_succ, List.set_cons_zero])
  (refine any_take 61 ?_ (by rfl) (by kernel_rfl) (fun _ _ _ _ _ hx => hx.elim) (.inl ⟨by rfl, ?_⟩) (by exact bel_of) ?_; rotate_left; (intro X hX; obtain ⟨r1, r2⟩ := Below.rules hX; clear hX; go_simp; rfl); simp only [List.getElem_toArray, List.getElem_cons_succ, List.getElem_cons_zero, Act.put, List.setIfInBounds_toArray, List.set_cons_succ, List.set_cons_zero])
  (refine any_take 62 ?_ (by rfl) (by kernel_rfl) (fun _ _ _ _ _ hx => hx.elim) (.inl ⟨by rfl, ?_⟩) (by exact bel_of) ?_; rotate_left; (intro X hX; obtain ⟨r1, r2⟩ := Below.rules hX; clear hX; go_simp; rfl); simp only [List.getElem_toArray, List.getElem_cons_succ, List.getElem_cons_zero, Act.put, List.setIfInBounds_toArray, List.set_cons_succ, List.set_cons_zero])
  (refine any_take 63 ?_ (by rfl) (by kernel_rfl) (fun _ _ _ _ _ hx => hx.elim) (.inl ⟨by rfl, ?_⟩) (by exact bel_of) ?_; rotate_left; (intro X hX; obtain ⟨r1, r2⟩ := Below.rules hX; clear hX; go_simp; rfl); simp only [List.getElem_toArray, List.getElem_cons_succ, List.getElem_cons_zero, Act.put, List.setIfInBounds_toArray, List.set_cons_succ, List.set_cons_zero])
  (refine any_take 64 ?_ (by rfl) (by kernel_rfl) (fun _ _ _ _ _ hx => hx.elim) (.inl ⟨by rfl, ?_⟩) (by exact bel_of) ?_; rotate_left; (intro X hX; obtain ⟨r1, r2⟩ := Below.rules hX; clear hX; go_simp; rfl); simp only [List.getElem_toArray, List.getElem_cons_succ, List.getElem_cons_zero, Act.put, List.setIfInBounds_toArray, List.set_cons_succ, List.set_cons_zero])
  (refine any_take 65 ?_ (by rfl) (by kernel_rfl) (fun _ _ _ _ _ hx => hx.elim) (.inl ⟨by rfl, ?_⟩) (by exact bel_of) ?_; rotate_left; (intro X hX; obtain ⟨r1, r2⟩ := Below.rules hX; clear hX; go_simp; rfl); simp only [List.getElem_toArray, List.getElem_cons_succ, List.getElem_cons_zero, Act.put, List.setIfInBounds_toArray, List.set_cons_succ, List.set_cons_zero])
  (refine any_take 66 ?_ (by rfl) (by kernel_rfl) (fun _ _ _ _ _ hx => hx.elim) (.inl ⟨by rfl, ?_⟩) (by exact bel_of) ?_; rotate_left; (intro X hX; obtain ⟨r1, r2⟩ := Below.rules hX; clear hX; go_simp; rfl); simp only [List.getElem_toArray, List.getElem_cons_succ, List.getElem_cons_zero, Act.put, List.setIfInBounds_toArray, List.set_cons_succ, List.set_cons_zero])
  (refine any_take 67 ?_ (by rfl) (by kernel_rfl) (fun _ _ _ _ _ hx => hx.elim) (.inl ⟨by rfl, ?_⟩) (by exact bel_of) ?_; rotate_left; (intro X hX; obtain ⟨r1, r2⟩ := Below.rules hX; clear hX; go_simp; rfl); simp only [List.getElem_toArray, List.getElem_cons_succ, List.getElem_cons_zero, Act.put, List.setIfInBounds_toArray, List.set_cons_succ, List.set_cons_zero])
  (refine any_take 68 ?_ (by rfl) (by kernel_rfl) (fun _ _ _ _ _ hx => hx.elim) (.inl ⟨by rfl, ?_⟩) (by exact bel_of) ?_; rotate_left; (intro X hX; obtain ⟨r1, r2⟩ := Below.rules hX; clear hX; go_simp; rfl); simp only [List.getElem_toArray, List.getElem_cons_succ, List.getElem_cons_zero, Act.put, List.setIfInBounds_toArray, List.set_cons_succ, List.set_cons_zero])
  (refine any_take 69 ?_ (by rfl) (by kernel_rfl) (fun _ _ _ _ _ hx => hx.elim) (.inl ⟨by rfl, ?_⟩) (by exact bel_of) ?_; rotate_left; (intro X hX; obtain ⟨r1, r2⟩ := Below.rules hX; clear hX; go_simp; rfl); simp only [List.getElem_toArray, List.getElem_cons_succ, List.getElem_cons_zero, Act.put, List.setIfInBounds_toArray, List.set_cons_succ, List.set_cons_zero])
  have qzf4 := ezf3.size
  refine any_run1 (i := 70) (by kernel_rfl) (by rfl) (by kernel_rfl) ?_
  intro K hK
  go_wp2_with fail
  refine (works_any _).mono ?_
  rintro e vzf4 ⟨rfl, hb⟩
  have ezf4 : Below w8.heap.size w8 vzf4 := ezf3.trans (hb.mono ezf3.size)
  clear hb
  refine hK _ _ (fun _ => ezf4) ?_
  clear hK K
  (refine any_take 71 ?_ (by rfl) (by kernel_rfl) (fun _ _ _ _ _ hx => hx.elim) (.inl ⟨by rfl, ?_⟩) (by exact bel_of) ?_; rotate_left; (intro X hX; obtain ⟨r1, r2⟩ := Below.rules hX; clear hX; go_simp; rfl); simp only [List.getElem_toArray, List.getElem_cons_succ, List.getElem_cons_zero, Act.put, List.setIfInBounds_toArray, List.set_cons_succ, List.set_cons_zero])
  refine any_run1 (i := 72) (by kernel_rfl) (by rfl) (by kernel_rfl) ?_
  intro K hK
  go_wp2_with fail
  refine hK _ _ (fun _ => ezf4) ?_
  clear hK K
  refine any_done (by kernel_rfl) (NoPanic.normal ?_)
  have hb := ezf4
  replace hC : Below n0 w vzf4 := hC.trans (hb.mono (by have := hC.size; omega))
  replace hR := (RS.below hR hb).more hb.size
  replace bb := bb.below hb bb.lt
  replace b1 := b1.below hb b1.lt
  replace b2 := b2.below hb b2.lt
  replace b3 := b3.below hb b3.lt
  replace hW2 := (RS.below hW2 hb).more hb.size
  replace b4 := b4.below hb b4.lt
  clear hb
  go_wp2_with fail
  exact bodyPost_ret (v := .bool true) (by simp [results, Try.results11, go_sem]) rfl ⟨rfl, by first | exact hC | (rw [hn0]; exact hC) | (with_reducible rw [hn0]; exact bel_of) | exact bel_of⟩
end Go.Proofs.Ytkljdbgkhghiaaa

namespace Go.Proofs.Ytkljdbgkhghiaaa.keenKnown
open Go.ChangeShapes Go.WideShapes Go.ChangeAt Go.RowKit Go.Deep

set_option maxRecDepth 100000 in
theorem lifted (os : Os) (started : os.Started) (H : Type) (enc : TypeId × Value → H) :
    ReturnsInHanded {} Try.checked os 11 .any (Rows.keenKnownSpec.pre6 enc Try.prog Try.f11 Rows.keenKnownRow.domain false) (Rows.keenKnownSpec.post enc Try.prog Try.f11 false true false false) := by
  refine returnsInHanded_of_change (C := Try.checked) own started (by kernel_rfl) Try.func11
    (ChangeSpec.witness6 (enc := enc) (C := Try.checked) false ⟨#[], #[], []⟩ 8 (by kernel_rfl) (by kernel_rfl) (by kernel_rfl) (by kernel_rfl)) ?_
  intro W base args ds gs before hval0 hW hcnd _
  have hval : ∀ (j : Nat) t v, Try.f11.params[j]? = some t → args[j]? = some v → Value.okWide Try.prog W .any base t v := hval0
  have hW2 : DataW.Whole enc Try.prog Try.f11.params.toList Rows.keenKnownSpec.vars false W args.toList ds gs before := hW
  obtain ⟨p, q, hA0, hV, rfl, hfz, hnd⟩ := hW
  have hA : DataW.TrodAll enc Try.prog W 0 (fun _ => true) true Try.f11.params.toList args.toList ds p := hA0
  rw [Try.params11] at hA hval
  obtain ⟨rfl, rfl, rfl⟩ := trodAll_none hA
  obtain ⟨rfl, rfl⟩ := trodVars_none hV
  refine (keenKnown_any  (w := W)).mono fun e W' ⟨he, hg⟩ => ?_
  subst he
  exact ⟨_, rfl, law_done hW2 rfl rfl rfl (by rw [Try.params11]; decide +kernel) hg⟩

theorem over : Rows.keenKnownRow.holds Try.pinned (OpenSpec.ofChange Rows.keenKnownSpec) :=
  OpenClaim.holds_of_wide 11 Try.f11 rfl rfl rfl rfl rfl rfl rfl ⟨rfl, rfl, rfl, rfl, rfl⟩ rfl rfl rfl rfl rfl (by kernel_rfl) Try.func11 (by kernel_rfl)
    (of_decide_eq_true (by kernel_rfl)) (by unfold Func.isWrapper; first | (rw [if_pos (by decide +kernel)]; kernel_rfl) | (rw [if_neg (by decide +kernel)]; exact ⟨rfl, rfl⟩))
    (fun os started H enc _ => lifted os started H enc)

theorem proved : Rows.KeenKnownSaid :=
  over
end Go.Proofs.Ytkljdbgkhghiaaa.keenKnown
namespace Go.Proofs.Ytkljdbgkhghiaaa
theorem keenKnown_proved : Rows.KeenKnownSaid := keenKnown.proved
#print axioms keenKnown_proved
end Go.Proofs.Ytkljdbgkhghiaaa
