/- The examples of the chapter hold. -/
import Derived.Test.YtgbegdjakadbbaaP24
set_option linter.all false
set_option linter.unnecessarySimpa false
set_option linter.unusedSimpArgs false
set_option linter.unusedVariables false
set_option linter.unusedSectionVars false

set_option linter.all false
namespace Go.Proofs.Ytgbegdjakadbbaa
open Go.RowKit Vp

theorem ri_new {W : World} {g : Nat} {l : List Int} {t : TypeId} (h : BK W g (ofI l).toArray t) (n : Nat) (hn : l.length = n) : RI W W.heap.size (.slice (some ⟨g, 0, none⟩) n n) l := by
  subst hn
  exact ⟨_, l.length, g, 0, rfl, ⟨by simp [ofI], Nat.le_refl _⟩, fun _ => ⟨rfl, h.lt⟩, fun j hj => by rw [Nat.zero_add, h.cell, List.getElem?_toArray]⟩
theorem BlaPost.rt {W : World} {g : Nat} {h : Int} (hb : BK W g (ofG encS (exS h)).toArray 60) : RT W W.heap.size (.slice (some ⟨g, 0, none⟩) 4 4) (exS h) := OwnS.rt (BlaPost.own (base := 0) hb (Nat.zero_le _))
theorem ten : okI 10 := by unfold okI; omega
set_option maxHeartbeats 60000000 in
set_option maxRecDepth 100000 in
theorem works_any (w : World) : Calls Try.prog 15 #[] w fun e w' => e = .returned (.bool true) ∧ Below w.heap.size w w' := by
  obtain ⟨n0, hn0⟩ : ∃ n, w.heap.size = n := ⟨_, rfl⟩
  have hC : Below n0 w w := Below.refl _ _
  go_enter Try.func15, Try.ntmps15
  go_wp2_with fail
  refine (blade_any _).mono ?_
  rintro e w1 ⟨gB, rfl, -, hbk, hb⟩
  replace hC : Below n0 w w1 := hC.trans (hb.mono (by have := hC.size; omega))
  clear hb
  have hS := BlaPost.rt hbk
  clear hbk
  go_upto_region 2 with fail
  obtain ⟨m1, hm1⟩ : ∃ n, w1.heap.size = n := ⟨_, rfl⟩
  try rw [hm1]
  have hqbx : n0 ≤ m1 := by have := hC.size; omega
  have bx : BK (w1.alloc (.cells #[.slice (some ⟨gB, 0, none⟩) 4 4, .int .i64 10] 24)) (m1) #[.slice (some ⟨gB, 0, none⟩) 4 4, .int .i64 10] 24 := BK.new' _ _ _ (m1) hm1
  have hsbx : (w1.alloc (.cells #[.slice (some ⟨gB, 0, none⟩) 4 4, .int .i64 10] 24)).heap.size = m1 + 1 := by simp [hm1]
  replace hC : Below n0 w (w1.alloc (.cells #[.slice (some ⟨gB, 0, none⟩) 4 4, .int .i64 10] 24)) := Below.alloc hC (by have := hC.size; omega) _
  replace hS := (RS.below hS (w' := (w1.alloc (.cells #[.slice (some ⟨gB, 0, none⟩) 4 4, .int .i64 10] 24))) (Below.alloc (Below.refl _ _) (Nat.le_refl _) _)).more (B' := (w1.alloc (.cells #[.slice (some ⟨gB, 0, none⟩) 4 4, .int .i64 10] 24)).heap.size) (by simp)
  generalize (w1.alloc (.cells #[.slice (some ⟨gB, 0, none⟩) 4 4, .int .i64 10] 24)) = Wbx at *
  clear hm1
  clear hsbx
  have lbx := bx.lt
  have bxc0 := bx.cell 0
  have bxc1 := bx.cell 1
  simp at bxc0 bxc1
  go_wp2_with fail
  clear lbx bxc0 bxc1
  obtain ⟨m2, hm2⟩ : ∃ n, Wbx.heap.size = n := ⟨_, rfl⟩
  try rw [hm2]
  have hqs2 : n0 ≤ m2 := by have := hC.size; omega
  have s2 : BK (Wbx.alloc (.cells #[.int .i64 0, .int .i64 (-3), .int .i64 (-1), .int .i64 2] 2)) (m2) #[.int .i64 0, .int .i64 (-3), .int .i64 (-1), .int .i64 2] 2 := BK.new' _ _ _ (m2) hm2
  have hss2 : (Wbx.alloc (.cells #[.int .i64 0, .int .i64 (-3), .int .i64 (-1), .int .i64 2] 2)).heap.size = m2 + 1 := by simp [hm2]
  replace hC : Below n0 w (Wbx.alloc (.cells #[.int .i64 0, .int .i64 (-3), .int .i64 (-1), .int .i64 2] 2)) := Below.alloc hC (by have := hC.size; omega) _
  replace hS := (RS.below hS (w' := (Wbx.alloc (.cells #[.int .i64 0, .int .i64 (-3), .int .i64 (-1), .int .i64 2] 2))) (Below.alloc (Below.refl _ _) (Nat.le_refl _) _)).more (B' := (Wbx.alloc (.cells #[.int .i64 0, .int .i64 (-3), .int .i64 (-1), .int .i64 2] 2)).heap.size) (by simp)
  replace bx := bx.alloc (.cells #[.int .i64 0, .int .i64 (-3), .int .i64 (-1), .int .i64 2] 2)
  generalize (Wbx.alloc (.cells #[.int .i64 0, .int .i64 (-3), .int .i64 (-1), .int .i64 2] 2)) = Ws2 at *
  clear hm2
  clear hss2
  have hs2 := ri_new (l := [0, -3, -1, 2]) s2 4 rfl
  clear s2
  refine (after_any (exS 1) _ 10 [0, -3, -1, 2] _ _ (by decide) (by decide) hS hs2 ten).mono ?_
  rintro e w2 ⟨u2, rfl, hown, hb⟩
  replace hC : Below n0 w w2 := hC.trans (hb.mono (by have := hC.size; omega))
  replace hS := (RS.below hS hb).more hb.size
  replace bx := bx.below hb bx.lt
  replace hs2 := (RS.below hs2 hb).more hb.size
  clear hb
  rw [ex_aft.2] at hown
  rw [ex_aft.1]
  have hu2 := OwnI.ri hown
  clear hown
  clear hs2
  have lbx := bx.lt
  have bxc0 := bx.cell 0
  have bxc1 := bx.cell 1
  simp at bxc0 bxc1
  go_wp2_with fail
  clear lbx bxc0 bxc1
  obtain ⟨m3, hm3⟩ : ∃ n, w2.heap.size = n := ⟨_, rfl⟩
  try rw [hm3]
  have hqs3 : n0 ≤ m3 := by have := hC.size; omega
  have s3 : BK (w2.alloc (.cells #[.int .i64 0, .int .i64 (-3), .int .i64 (-1), .int .i64 2] 2)) (m3) #[.int .i64 0, .int .i64 (-3), .int .i64 (-1), .int .i64 2] 2 := BK.new' _ _ _ (m3) hm3
  have hss3 : (w2.alloc (.cells #[.int .i64 0, .int .i64 (-3), .int .i64 (-1), .int .i64 2] 2)).heap.size = m3 + 1 := by simp [hm3]
  replace hC : Below n0 w (w2.alloc (.cells #[.int .i64 0, .int .i64 (-3), .int .i64 (-1), .int .i64 2] 2)) := Below.alloc hC (by have := hC.size; omega) _
  replace hS := (RS.below hS (w' := (w2.alloc (.cells #[.int .i64 0, .int .i64 (-3), .int .i64 (-1), .int .i64 2] 2))) (Below.alloc (Below.refl _ _) (Nat.le_refl _) _)).more (B' := (w2.alloc (.cells #[.int .i64 0, .int .i64 (-3), .int .i64 (-1), .int .i64 2] 2)).heap.size) (by simp)
  replace bx := bx.alloc (.cells #[.int .i64 0, .int .i64 (-3), .int .i64 (-1), .int .i64 2] 2)
  replace hu2 := (RS.below hu2 (w' := (w2.alloc (.cells #[.int .i64 0, .int .i64 (-3), .int .i64 (-1), .int .i64 2] 2))) (Below.alloc (Below.refl _ _) (Nat.le_refl _) _)).more (B' := (w2.alloc (.cells #[.int .i64 0, .int .i64 (-3), .int .i64 (-1), .int .i64 2] 2)).heap.size) (by simp)
  generalize (w2.alloc (.cells #[.int .i64 0, .int .i64 (-3), .int .i64 (-1), .int .i64 2] 2)) = Ws3 at *
  clear hm3
  clear hss3
  have hs3 := ri_new (l := [0, -3, -1, 2]) s3 4 rfl
  clear s3
  refine (checkBlows_any (exS 1) _ 10 [0, -3, -1, 2] _ _ (by decide) (by decide) hS hs3 ten).mono ?_
  rintro e w3 ⟨rfl, hb⟩
  replace hC : Below n0 w w3 := hC.trans (hb.mono (by have := hC.size; omega))
  replace hS := (RS.below hS hb).more hb.size
  replace bx := bx.below hb bx.lt
  replace hu2 := (RS.below hu2 hb).more hb.size
  replace hs3 := (RS.below hs3 hb).more hb.size
  clear hb
  rw [ex_chk1.1, ex_chk1.2]
  clear hs3
  have lbx := bx.lt
  have bxc0 := bx.cell 0
  have bxc1 := bx.cell 1
  simp at bxc0 bxc1
  go_wp2_with fail
  clear lbx bxc0 bxc1
  obtain ⟨m4, hm4⟩ : ∃ n, w3.heap.size = n := ⟨_, rfl⟩
  try rw [hm4]
  have hqs4 : n0 ≤ m4 := by have := hC.size; omega
  have s4 : BK (w3.alloc (.cells #[.int .i64 0, .int .i64 (-3), .int .i64 0, .int .i64 0] 2)) (m4) #[.int .i64 0, .int .i64 (-3), .int .i64 0, .int .i64 0] 2 := BK.new' _ _ _ (m4) hm4
  have hss4 : (w3.alloc (.cells #[.int .i64 0, .int .i64 (-3), .int .i64 0, .int .i64 0] 2)).heap.size = m4 + 1 := by simp [hm4]
  replace hC : Below n0 w (w3.alloc (.cells #[.int .i64 0, .int .i64 (-3), .int .i64 0, .int .i64 0] 2)) := Below.alloc hC (by have := hC.size; omega) _
  replace hS := (RS.below hS (w' := (w3.alloc (.cells #[.int .i64 0, .int .i64 (-3), .int .i64 0, .int .i64 0] 2))) (Below.alloc (Below.refl _ _) (Nat.le_refl _) _)).more (B' := (w3.alloc (.cells #[.int .i64 0, .int .i64 (-3), .int .i64 0, .int .i64 0] 2)).heap.size) (by simp)
  replace bx := bx.alloc (.cells #[.int .i64 0, .int .i64 (-3), .int .i64 0, .int .i64 0] 2)
  replace hu2 := (RS.below hu2 (w' := (w3.alloc (.cells #[.int .i64 0, .int .i64 (-3), .int .i64 0, .int .i64 0] 2))) (Below.alloc (Below.refl _ _) (Nat.le_refl _) _)).more (B' := (w3.alloc (.cells #[.int .i64 0, .int .i64 (-3), .int .i64 0, .int .i64 0] 2)).heap.size) (by simp)
  generalize (w3.alloc (.cells #[.int .i64 0, .int .i64 (-3), .int .i64 0, .int .i64 0] 2)) = Ws4 at *
  clear hm4
  clear hss4
  have hs4 := ri_new (l := [0, -3, 0, 0]) s4 4 rfl
  clear s4
  refine (checkBlows_any (exS 1) _ 10 [0, -3, 0, 0] _ _ (by decide) (by decide) hS hs4 ten).mono ?_
  rintro e w4 ⟨rfl, hb⟩
  replace hC : Below n0 w w4 := hC.trans (hb.mono (by have := hC.size; omega))
  replace hS := (RS.below hS hb).more hb.size
  replace bx := bx.below hb bx.lt
  replace hu2 := (RS.below hu2 hb).more hb.size
  replace hs4 := (RS.below hs4 hb).more hb.size
  clear hb
  rw [ex_chk2.1, ex_chk2.2]
  clear hs4
  have lbx := bx.lt
  have bxc0 := bx.cell 0
  have bxc1 := bx.cell 1
  simp at bxc0 bxc1
  go_wp2_with fail
  clear lbx bxc0 bxc1
  refine (Best_any (exS 1) _ 10 _ (by decide) hS).mono ?_
  rintro e w5 ⟨u8, rfl, hown, hb⟩
  replace hC : Below n0 w w5 := hC.trans (hb.mono (by have := hC.size; omega))
  replace hS := (RS.below hS hb).more hb.size
  replace bx := bx.below hb bx.lt
  replace hu2 := (RS.below hu2 hb).more hb.size
  clear hb
  rw [ex_bst.1]
  have hu8 := OwnI.ri hown
  clear hown
  have lbx := bx.lt
  have bxc0 := bx.cell 0
  have bxc1 := bx.cell 1
  simp at bxc0 bxc1
  go_wp2_with fail
  clear lbx bxc0 bxc1
  refine (hard_any _).mono ?_
  rintro e w6 ⟨gH, rfl, -, hbk, hb⟩
  replace hC : Below n0 w w6 := hC.trans (hb.mono (by have := hC.size; omega))
  replace hS := (RS.below hS hb).more hb.size
  replace bx := bx.below hb bx.lt
  replace hu2 := (RS.below hu2 hb).more hb.size
  replace hu8 := (RS.below hu8 hb).more hb.size
  clear hb
  have hH := BlaPost.rt hbk
  clear hbk
  have lbx := bx.lt
  have bxc0 := bx.cell 0
  have bxc1 := bx.cell 1
  simp at bxc0 bxc1
  go_wp2_with fail
  clear lbx bxc0 bxc1
  refine (Best_any (exS 3) _ 10 _ (by decide) hH).mono ?_
  rintro e w7 ⟨u11, rfl, hown, hb⟩
  replace hC : Below n0 w w7 := hC.trans (hb.mono (by have := hC.size; omega))
  replace hS := (RS.below hS hb).more hb.size
  replace bx := bx.below hb bx.lt
  replace hu2 := (RS.below hu2 hb).more hb.size
  replace hu8 := (RS.below hu8 hb).more hb.size
  replace hH := (RS.below hH hb).more hb.size
  clear hb
  rw [ex_bst.2.1]
  clear hown hH
  have lbx := bx.lt
  have bxc0 := bx.cell 0
  have bxc1 := bx.cell 1
  simp at bxc0 bxc1
  go_wp2_with fail
  clear lbx bxc0 bxc1
  refine (stiff_any _).mono ?_
  rintro e w8 ⟨gC, rfl, -, hbk, hb⟩
  replace hC : Below n0 w w8 := hC.trans (hb.mono (by have := hC.size; omega))
  replace hS := (RS.below hS hb).more hb.size
  replace bx := bx.below hb bx.lt
  replace hu2 := (RS.below hu2 hb).more hb.size
  replace hu8 := (RS.below hu8 hb).more hb.size
  clear hb
  have hH := BlaPost.rt hbk
  clear hbk
  have lbx := bx.lt
  have bxc0 := bx.cell 0
  have bxc1 := bx.cell 1
  simp at bxc0 bxc1
  go_wp2_with fail
  clear lbx bxc0 bxc1
  refine (Best_any (exS 1) _ 1 _ (by decide) hH).mono ?_
  rintro e w9 ⟨u14, rfl, hown, hb⟩
  replace hC : Below n0 w w9 := hC.trans (hb.mono (by have := hC.size; omega))
  replace hS := (RS.below hS hb).more hb.size
  replace bx := bx.below hb bx.lt
  replace hu2 := (RS.below hu2 hb).more hb.size
  replace hu8 := (RS.below hu8 hb).more hb.size
  replace hH := (RS.below hH hb).more hb.size
  clear hb
  rw [ex_bst.2.2]
  clear hown hH
  have lbx := bx.lt
  have bxc0 := bx.cell 0
  have bxc1 := bx.cell 1
  simp at bxc0 bxc1
  go_wp2_with fail
  clear lbx bxc0 bxc1
  refine (stiff_any _).mono ?_
  rintro e w10 ⟨gD, rfl, -, hbk, hb⟩
  replace hC : Below n0 w w10 := hC.trans (hb.mono (by have := hC.size; omega))
  replace hS := (RS.below hS hb).more hb.size
  replace bx := bx.below hb bx.lt
  replace hu2 := (RS.below hu2 hb).more hb.size
  replace hu8 := (RS.below hu8 hb).more hb.size
  clear hb
  have hH := BlaPost.rt hbk
  clear hbk
  have lbx := bx.lt
  have bxc0 := bx.cell 0
  have bxc1 := bx.cell 1
  simp at bxc0 bxc1
  go_wp2_with fail
  clear lbx bxc0 bxc1
  refine (Clash_any (exS 1) _ 1 _ (by decide) hH).mono ?_
  rintro e w11 ⟨ca, cb, ce, rfl, hcl, hb⟩
  replace hC : Below n0 w w11 := hC.trans (hb.mono (by have := hC.size; omega))
  replace hS := (RS.below hS hb).more hb.size
  replace bx := bx.below hb bx.lt
  replace hu2 := (RS.below hu2 hb).more hb.size
  replace hu8 := (RS.below hu8 hb).more hb.size
  replace hH := (RS.below hH hb).more hb.size
  clear hb
  obtain ⟨rfl, rfl, rfl⟩ := ex_cls _ _ _ hcl
  clear hcl hH
  have lbx := bx.lt
  have bxc0 := bx.cell 0
  have bxc1 := bx.cell 1
  simp at bxc0 bxc1
  go_wp2_with fail
  clear lbx bxc0 bxc1
  refine (Bends_any (exS 1) _ 10 1 _ (by decide) hS).mono ?_
  rintro e w12 ⟨rfl, hb⟩
  replace hC : Below n0 w w12 := hC.trans (hb.mono (by have := hC.size; omega))
  replace hS := (RS.below hS hb).more hb.size
  replace bx := bx.below hb bx.lt
  replace hu2 := (RS.below hu2 hb).more hb.size
  replace hu8 := (RS.below hu8 hb).more hb.size
  clear hb
  rw [ex_bds1]
  go_upto_region 10 with fail
  obtain ⟨m5, hm5⟩ : ∃ n, w12.heap.size = n := ⟨_, rfl⟩
  try rw [hm5]
  have hqr9 : n0 ≤ m5 := by have := hC.size; omega
  have r9 : BK (w12.alloc (.cells #[.int .i64 (-5), .int .i64 (-3)] 42)) (m5) #[.int .i64 (-5), .int .i64 (-3)] 42 := BK.new' _ _ _ (m5) hm5
  have hsr9 : (w12.alloc (.cells #[.int .i64 (-5), .int .i64 (-3)] 42)).heap.size = m5 + 1 := by simp [hm5]
  replace hC : Below n0 w (w12.alloc (.cells #[.int .i64 (-5), .int .i64 (-3)] 42)) := Below.alloc hC (by have := hC.size; omega) _
  replace hS := (RS.below hS (w' := (w12.alloc (.cells #[.int .i64 (-5), .int .i64 (-3)] 42))) (Below.alloc (Below.refl _ _) (Nat.le_refl _) _)).more (B' := (w12.alloc (.cells #[.int .i64 (-5), .int .i64 (-3)] 42)).heap.size) (by simp)
  replace bx := bx.alloc (.cells #[.int .i64 (-5), .int .i64 (-3)] 42)
  replace hu2 := (RS.below hu2 (w' := (w12.alloc (.cells #[.int .i64 (-5), .int .i64 (-3)] 42))) (Below.alloc (Below.refl _ _) (Nat.le_refl _) _)).more (B' := (w12.alloc (.cells #[.int .i64 (-5), .int .i64 (-3)] 42)).heap.size) (by simp)
  replace hu8 := (RS.below hu8 (w' := (w12.alloc (.cells #[.int .i64 (-5), .int .i64 (-3)] 42))) (Below.alloc (Below.refl _ _) (Nat.le_refl _) _)).more (B' := (w12.alloc (.cells #[.int .i64 (-5), .int .i64 (-3)] 42)).heap.size) (by simp)
  generalize (w12.alloc (.cells #[.int .i64 (-5), .int .i64 (-3)] 42)) = Wr9 at *
  clear hm5
  clear hsr9
  have lbx := bx.lt
  have bxc0 := bx.cell 0
  have bxc1 := bx.cell 1
  simp at bxc0 bxc1
  go_wp2_with fail
  clear lbx bxc0 bxc1
  obtain ⟨m6, hm6⟩ : ∃ n, Wr9.heap.size = n := ⟨_, rfl⟩
  try rw [hm6]
  have hqs10 : n0 ≤ m6 := by have := hC.size; omega
  have s10 : BK (Wr9.alloc (.cells #[.int .i64 0, .int .i64 0, .int .i64 (-2), .int .i64 1] 2)) (m6) #[.int .i64 0, .int .i64 0, .int .i64 (-2), .int .i64 1] 2 := BK.new' _ _ _ (m6) hm6
  have hss10 : (Wr9.alloc (.cells #[.int .i64 0, .int .i64 0, .int .i64 (-2), .int .i64 1] 2)).heap.size = m6 + 1 := by simp [hm6]
  replace hC : Below n0 w (Wr9.alloc (.cells #[.int .i64 0, .int .i64 0, .int .i64 (-2), .int .i64 1] 2)) := Below.alloc hC (by have := hC.size; omega) _
  replace hS := (RS.below hS (w' := (Wr9.alloc (.cells #[.int .i64 0, .int .i64 0, .int .i64 (-2), .int .i64 1] 2))) (Below.alloc (Below.refl _ _) (Nat.le_refl _) _)).more (B' := (Wr9.alloc (.cells #[.int .i64 0, .int .i64 0, .int .i64 (-2), .int .i64 1] 2)).heap.size) (by simp)
  replace bx := bx.alloc (.cells #[.int .i64 0, .int .i64 0, .int .i64 (-2), .int .i64 1] 2)
  replace hu2 := (RS.below hu2 (w' := (Wr9.alloc (.cells #[.int .i64 0, .int .i64 0, .int .i64 (-2), .int .i64 1] 2))) (Below.alloc (Below.refl _ _) (Nat.le_refl _) _)).more (B' := (Wr9.alloc (.cells #[.int .i64 0, .int .i64 0, .int .i64 (-2), .int .i64 1] 2)).heap.size) (by simp)
  replace hu8 := (RS.below hu8 (w' := (Wr9.alloc (.cells #[.int .i64 0, .int .i64 0, .int .i64 (-2), .int .i64 1] 2))) (Below.alloc (Below.refl _ _) (Nat.le_refl _) _)).more (B' := (Wr9.alloc (.cells #[.int .i64 0, .int .i64 0, .int .i64 (-2), .int .i64 1] 2)).heap.size) (by simp)
  replace r9 := r9.alloc (.cells #[.int .i64 0, .int .i64 0, .int .i64 (-2), .int .i64 1] 2)
  generalize (Wr9.alloc (.cells #[.int .i64 0, .int .i64 0, .int .i64 (-2), .int .i64 1] 2)) = Ws10 at *
  clear hm6
  clear hss10
  have hs10 := ri_new (l := [0, 0, -2, 1]) s10 4 rfl
  clear s10
  refine (CheckPulls_any (exS 1) _ 10 [0, 0, -2, 1] _ _ (by decide) (by decide) hS hs10).mono ?_
  rintro e w13 ⟨rfl, hb⟩
  replace hC : Below n0 w w13 := hC.trans (hb.mono (by have := hC.size; omega))
  replace hS := (RS.below hS hb).more hb.size
  replace bx := bx.below hb bx.lt
  replace hu2 := (RS.below hu2 hb).more hb.size
  replace hu8 := (RS.below hu8 hb).more hb.size
  replace r9 := r9.below hb r9.lt
  replace hs10 := (RS.below hs10 hb).more hb.size
  clear hb
  rw [ex_chp.1, ex_chp.2]
  clear hs10
  have lbx := bx.lt
  have bxc0 := bx.cell 0
  have bxc1 := bx.cell 1
  simp at bxc0 bxc1
  go_wp2_with fail
  clear lbx bxc0 bxc1
  refine (Pulls_any (exS 1) _ 10 _ (by decide) hS).mono ?_
  rintro e w14 ⟨u24, rfl, hown, hb⟩
  replace hC : Below n0 w w14 := hC.trans (hb.mono (by have := hC.size; omega))
  replace hS := (RS.below hS hb).more hb.size
  replace bx := bx.below hb bx.lt
  replace hu2 := (RS.below hu2 hb).more hb.size
  replace hu8 := (RS.below hu8 hb).more hb.size
  replace r9 := r9.below hb r9.lt
  clear hb
  rw [show plsE (exS 1) 10 = 0 by decide +kernel]
  have hu24 := OwnI.ri hown
  clear hown
  have lbx := bx.lt
  have bxc0 := bx.cell 0
  have bxc1 := bx.cell 1
  simp at bxc0 bxc1
  go_wp2_with fail
  clear lbx bxc0 bxc1
  refine (Span_any (exS 1) _ 10 1 _ (by decide) hS).mono ?_
  rintro e w15 ⟨rfl, hb⟩
  replace hC : Below n0 w w15 := hC.trans (hb.mono (by have := hC.size; omega))
  replace hS := (RS.below hS hb).more hb.size
  replace bx := bx.below hb bx.lt
  replace hu2 := (RS.below hu2 hb).more hb.size
  replace hu8 := (RS.below hu8 hb).more hb.size
  replace r9 := r9.below hb r9.lt
  replace hu24 := (RS.below hu24 hb).more hb.size
  clear hb
  rw [ex_spn1]
  go_upto_region 13 with fail
  obtain ⟨m7, hm7⟩ : ∃ n, w15.heap.size = n := ⟨_, rfl⟩
  try rw [hm7]
  have hqr12 : n0 ≤ m7 := by have := hC.size; omega
  have r12 : BK (w15.alloc (.cells #[.int .i64 (-4), .int .i64 (-2)] 42)) (m7) #[.int .i64 (-4), .int .i64 (-2)] 42 := BK.new' _ _ _ (m7) hm7
  have hsr12 : (w15.alloc (.cells #[.int .i64 (-4), .int .i64 (-2)] 42)).heap.size = m7 + 1 := by simp [hm7]
  replace hC : Below n0 w (w15.alloc (.cells #[.int .i64 (-4), .int .i64 (-2)] 42)) := Below.alloc hC (by have := hC.size; omega) _
  replace hS := (RS.below hS (w' := (w15.alloc (.cells #[.int .i64 (-4), .int .i64 (-2)] 42))) (Below.alloc (Below.refl _ _) (Nat.le_refl _) _)).more (B' := (w15.alloc (.cells #[.int .i64 (-4), .int .i64 (-2)] 42)).heap.size) (by simp)
  replace bx := bx.alloc (.cells #[.int .i64 (-4), .int .i64 (-2)] 42)
  replace hu2 := (RS.below hu2 (w' := (w15.alloc (.cells #[.int .i64 (-4), .int .i64 (-2)] 42))) (Below.alloc (Below.refl _ _) (Nat.le_refl _) _)).more (B' := (w15.alloc (.cells #[.int .i64 (-4), .int .i64 (-2)] 42)).heap.size) (by simp)
  replace hu8 := (RS.below hu8 (w' := (w15.alloc (.cells #[.int .i64 (-4), .int .i64 (-2)] 42))) (Below.alloc (Below.refl _ _) (Nat.le_refl _) _)).more (B' := (w15.alloc (.cells #[.int .i64 (-4), .int .i64 (-2)] 42)).heap.size) (by simp)
  replace r9 := r9.alloc (.cells #[.int .i64 (-4), .int .i64 (-2)] 42)
  replace hu24 := (RS.below hu24 (w' := (w15.alloc (.cells #[.int .i64 (-4), .int .i64 (-2)] 42))) (Below.alloc (Below.refl _ _) (Nat.le_refl _) _)).more (B' := (w15.alloc (.cells #[.int .i64 (-4), .int .i64 (-2)] 42)).heap.size) (by simp)
  generalize (w15.alloc (.cells #[.int .i64 (-4), .int .i64 (-2)] 42)) = Wr12 at *
  clear hm7
  clear hsr12
  have lbx := bx.lt
  have bxc0 := bx.cell 0
  have bxc1 := bx.cell 1
  simp at bxc0 bxc1
  go_wp2_with fail
  clear lbx bxc0 bxc1
  refine (Least_any (exS 1) _ 10 0 1 _ (by decide) hS).mono ?_
  rintro e w16 ⟨rfl, hb⟩
  replace hC : Below n0 w w16 := hC.trans (hb.mono (by have := hC.size; omega))
  replace hS := (RS.below hS hb).more hb.size
  replace bx := bx.below hb bx.lt
  replace hu2 := (RS.below hu2 hb).more hb.size
  replace hu8 := (RS.below hu8 hb).more hb.size
  replace r9 := r9.below hb r9.lt
  replace hu24 := (RS.below hu24 hb).more hb.size
  replace r12 := r12.below hb r12.lt
  clear hb
  rw [ex_lst.1, ex_lst.2]
  have h6 : tgo 10 (exS 1) 0 < never := by rw [ex_tgo.1]; decide
  have hbs := bst_chk ex_ok.1 h6
  have hpl := pls_chp ex_ok.1 h6
  rw [ex_tgo.1] at hbs hpl
  have HX1 := Lib.hid (hbs.2.2)
  have HX2 := Lib.hid hpl.2
  have HXL := Lib.hid (show (bstX (exS 1) 10).length ≤ 1000 by have := Fe.length hbs.2.1; rw [this]; decide)
  have HXM := Lib.hid (show (plsX (exS 1) 10).length ≤ 1000 by rw [hpl.1]; decide)
  clear h6 hbs hpl
  generalize bstX (exS 1) 10 = X1 at *
  generalize plsX (exS 1) 10 = X2 at *
  have lbx := bx.lt
  have bxc0 := bx.cell 0
  have bxc1 := bx.cell 1
  simp at bxc0 bxc1
  go_wp2_with fail
  clear lbx bxc0 bxc1
  refine (checkBlowsR_any (exS 1) _ 10 X1 _ _ (by decide) HXL.out hS hu8 ten).mono ?_
  rintro e w17 ⟨rfl, hb⟩
  replace hC : Below n0 w w17 := hC.trans (hb.mono (by have := hC.size; omega))
  replace hS := (RS.below hS hb).more hb.size
  replace bx := bx.below hb bx.lt
  replace hu2 := (RS.below hu2 hb).more hb.size
  replace hu8 := (RS.below hu8 hb).more hb.size
  replace r9 := r9.below hb r9.lt
  replace hu24 := (RS.below hu24 hb).more hb.size
  replace r12 := r12.below hb r12.lt
  clear hb
  rw [HX1.out.1, HX1.out.2]
  have lbx := bx.lt
  have bxc0 := bx.cell 0
  have bxc1 := bx.cell 1
  simp at bxc0 bxc1
  go_wp2_with fail
  clear lbx bxc0 bxc1
  refine (checkPullsR_any (exS 1) _ 10 X2 _ _ (by decide) HXM.out hS hu24).mono ?_
  rintro e w18 ⟨rfl, hb⟩
  replace hC : Below n0 w w18 := hC.trans (hb.mono (by have := hC.size; omega))
  replace hS := (RS.below hS hb).more hb.size
  replace bx := bx.below hb bx.lt
  replace hu2 := (RS.below hu2 hb).more hb.size
  replace hu8 := (RS.below hu8 hb).more hb.size
  replace r9 := r9.below hb r9.lt
  replace hu24 := (RS.below hu24 hb).more hb.size
  replace r12 := r12.below hb r12.lt
  clear hb
  rw [HX2.out.1, HX2.out.2]
  have lbx := bx.lt
  have bxc0 := bx.cell 0
  have bxc1 := bx.cell 1
  simp at bxc0 bxc1
  have lr9 := r9.lt
  have r9c0 := r9.cell 0
  have r9c1 := r9.cell 1
  simp at r9c0 r9c1
  have lr12 := r12.lt
  have r12c0 := r12.cell 0
  have r12c1 := r12.cell 1
  simp at r12c0 r12c1
  go_wp2_with fail
  refine wp_region_noPanic (plain_any [0, 1, 2, 3, 4, 5, 6, 7, 8, 9, 10, 11, 12, 13, 14, 15, 18, 19, 20, 21, 22, 23, 24, 25, 26, 27, 28, 29, 30, 31, 32, 33, 34, 35, 36, 37, 38, 39, 40, 42, 43, 44, 45, 46, 47, 48, 49, 51, 52, 53, 54, 55, 56, 57] (Below w18.heap.size w18) mixed ?_)
  refine any_tk 0 ?_
  have d0z : Below w18.heap.size w18 w18.drew := by exact bel_of
  refine any_tk 1 ?_
  refine any_tk 2 ?_
  refine any_tk 3 ?_
  refine any_tk 4 ?_
  refine any_tk 5 ?_
  refine any_tk 6 ?_
  refine any_tk 7 ?_
  refine any_tk 8 ?_
  refine any_tk 9 ?_
  refine any_tk 10 ?_
  refine any_tk 11 ?_
  refine any_tk 12 ?_
  refine any_tk 13 ?_
  refine any_tk 14 ?_
  refine any_tk 15 ?_
  have qz1 := d0z.size
  have ez1 : Below w18.heap.size w18 (w18.drew.alloc (.cells #[.int .i64 0, .int .i64 1, .int .i64 1, .int .i64 (-1)] 2)) := by exact bel_of
  refine any_run1 (i := 16) (by kernel_rfl) (by rfl) (by kernel_rfl) ?_
  intro K hK
  go_wp2_with fail
  refine hK _ _ (fun _ => ez1) ?_
  clear hK K
  have qz2 := ez1.size
  refine any_run1 (i := 17) (by kernel_rfl) (by rfl) (by kernel_rfl) ?_
  intro K hK
  go_wp2_with fail
  refine (longs_any [0, 1, 1, -1] [0, 1, 1, -1] _ _ _ (by decide) (by decide) ((RS.below hu2 ez1).more ez1.size) (ri_new (l := [0, 1, 1, -1]) (BK.new _ _ _) 4 rfl)).mono ?_
  rintro e vz2 ⟨rfl, hb⟩
  rw [decide_eq_true (show ([0, 1, 1, -1] : List Int) = [0, 1, 1, -1] from rfl)]
  have ez2 : Below w18.heap.size w18 vz2 := ez1.trans (hb.mono ez1.size)
  clear hb
  refine hK _ _ (fun _ => ez2) ?_
  clear hK K
  refine any_tk 18 ?_
  refine any_tk 19 ?_
  refine any_tk 20 ?_
  refine any_tk 21 ?_
  refine any_tk 22 ?_
  refine any_tk 23 ?_
  refine any_tk 24 ?_
  refine any_tk 25 ?_
  refine any_tk 26 ?_
  refine any_tk 27 ?_
  refine any_tk 28 ?_
  refine any_tk 29 ?_
  refine any_tk 30 ?_
  refine any_tk 31 ?_
  refine any_tk 32 ?_
  refine any_tk 33 ?_
  refine any_tk 34 ?_
  refine any_tk 35 ?_
  refine any_tk 36 ?_
  refine any_tk 37 ?_
  refine any_tk 38 ?_
  refine any_tk 39 ?_
  refine any_tk 40 ?_
  have qz3 := ez2.size
  refine any_run1 (i := 41) (by kernel_rfl) (by rfl) (by kernel_rfl) ?_
  intro K hK
  go_wp2_with fail
  refine (rg_any (-5) (-3) _).mono ?_
  rintro e vz3 ⟨rfl, hb⟩
  have ez3 : Below w18.heap.size w18 vz3 := ez2.trans (hb.mono ez2.size)
  clear hb
  refine hK _ _ (fun _ => ez3) ?_
  clear hK K
  refine any_tk 42 ?_
  refine any_tk 43 ?_
  refine any_tk 44 ?_
  refine any_tk 45 ?_
  refine any_tk 46 ?_
  refine any_tk 47 ?_
  refine any_tk 48 ?_
  refine any_tk 49 ?_
  have qz4 := ez3.size
  refine any_run1 (i := 50) (by kernel_rfl) (by rfl) (by kernel_rfl) ?_
  intro K hK
  go_wp2_with fail
  refine (rg_any (-4) (-2) _).mono ?_
  rintro e vz4 ⟨rfl, hb⟩
  have ez4 : Below w18.heap.size w18 vz4 := ez3.trans (hb.mono ez3.size)
  clear hb
  refine hK _ _ (fun _ => ez4) ?_
  clear hK K
  refine any_tk 51 ?_
  refine any_tk 52 ?_
  refine any_tk 53 ?_
  refine any_tk 54 ?_
  refine any_tk 55 ?_
  refine any_tk 56 ?_
  refine any_tk 57 ?_
  refine any_done (by kernel_rfl) (NoPanic.normal ?_)
  have hb := ez4
  replace hC : Below n0 w vz4 := hC.trans (hb.mono (by have := hC.size; omega))
  replace hS := (RS.below hS hb).more hb.size
  replace bx := bx.below hb bx.lt
  replace hu2 := (RS.below hu2 hb).more hb.size
  replace hu8 := (RS.below hu8 hb).more hb.size
  replace r9 := r9.below hb r9.lt
  replace hu24 := (RS.below hu24 hb).more hb.size
  replace r12 := r12.below hb r12.lt
  clear hb
  go_wp2_with fail
  go_ret
  exact ⟨rfl, by first | exact hC | (rw [hn0]; exact hC) | (with_reducible rw [hn0]; exact bel_of) | exact bel_of⟩
end Go.Proofs.Ytgbegdjakadbbaa
