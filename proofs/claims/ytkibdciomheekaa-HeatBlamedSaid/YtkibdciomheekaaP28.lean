/- The examples of the chapter hold. -/
import Derived.Test.YtkibdciomheekaaP27
set_option linter.all false
set_option linter.unnecessarySimpa false
set_option linter.unusedSimpArgs false
set_option linter.unusedVariables false
set_option linter.unusedSectionVars false

set_option linter.all false
namespace Go.Proofs.Ytkibdciomheekaa
open Go.RowKit Hp

theorem RLi.below {w w' : World} {B : Nat} {v : Value} {l : List (List Int)} (h : RLi w B v l) (hb : Below B w w') : RLi w' B v l := RN.below (fun _ _ h => RS.below h hb) h hb
theorem RLi.more {w : World} {B B' : Nat} {v : Value} {l : List (List Int)} (h : RLi w B v l) (hB : B ≤ B') : RLi w B' v l := RN.more (fun _ _ h => RS.more h hB) h hB
theorem RLi.slice {w : World} {B : Nat} {v : Value} {l : List (List Int)} (h : RLi w B v l) : ∃ A c, v = .slice A l.length c := RN.slice h
def mkT196 (u : Nat → Value) : Array Value := #[u 0, u 1, u 2, u 3, u 4, u 5, u 6, u 7, u 8, u 9, u 10, u 11, u 12, u 13, u 14, u 15, u 16, u 17, u 18, u 19, u 20, u 21, u 22, u 23, u 24, u 25, u 26, u 27, u 28, u 29, u 30, u 31, u 32, u 33, u 34, u 35, u 36, u 37, u 38, u 39, u 40, u 41, u 42, u 43, u 44, u 45, u 46, u 47, u 48, u 49, u 50, u 51, u 52, u 53, u 54, u 55, u 56, u 57, u 58, u 59, u 60, u 61, u 62, u 63, u 64, u 65, u 66, u 67, u 68, u 69, u 70, u 71, u 72, u 73, u 74, u 75, u 76, u 77, u 78, u 79, u 80, u 81, u 82, u 83, u 84, u 85, u 86, u 87, u 88, u 89, u 90, u 91, u 92, u 93, u 94, u 95, u 96, u 97, u 98, u 99, u 100, u 101, u 102, u 103, u 104, u 105, u 106, u 107, u 108, u 109, u 110, u 111, u 112, u 113, u 114, u 115, u 116, u 117, u 118, u 119, u 120, u 121, u 122, u 123, u 124, u 125, u 126, u 127, u 128, u 129, u 130, u 131, u 132, u 133, u 134, u 135, u 136, u 137, u 138, u 139, u 140, u 141, u 142, u 143, u 144, u 145, u 146, u 147, u 148, u 149, u 150, u 151, u 152, u 153, u 154, u 155, u 156, u 157, u 158, u 159, u 160, u 161, u 162, u 163, u 164, u 165, u 166, u 167, u 168, u 169, u 170, u 171, u 172, u 173, u 174, u 175, u 176, u 177, u 178, u 179, u 180, u 181, u 182, u 183, u 184, u 185, u 186, u 187, u 188, u 189, u 190, u 191, u 192, u 193, u 194, u 195]
/-- What follows a region whose operations come in several orders, once. -/
theorem region_abs {P : Program} {Q : Exit → Act → World → Prop} {a : Act} {w : World} {id : Nat} {os : Array Oper} (mkT : (Nat → Value) → Array Value) (J : (Nat → Value) → World → Prop)
    (h1 : (Code.region id os true).wp P (fun e a' w' => e = .normal ∧ a'.tmps = mkT (fun j => a'.tmps.getD j undef) ∧ a'.defers = a.defers ∧ J (fun j => a'.tmps.getD j undef) w') a w)
    (h2 : ∀ u V, J u V → Q .normal { tmps := mkT u, defers := a.defers } V) : (Code.region id os true).wp P Q a w :=
  Code.wp_mono (fun e a' w' h => by
    obtain ⟨e1, e2, e3, e4⟩ := h
    subst e1
    have h5 := h2 _ _ e4
    rw [← e2, ← e3] at h5
    exact h5) h1
theorem rs_ri2 {W : World} {g : Nat} (h : BK W g #[.int .i64 0, .int .i64 0] 3) : RI W W.heap.size (.slice (some ⟨g, 0, none⟩) 2 2) [0, 0] := rs_new h h.lt rfl
set_option maxHeartbeats 60000000 in
set_option maxRecDepth 100000 in
theorem works_any (w : World) : Calls Try.prog 16 #[] w fun e w' => e = .returned (.bool true) ∧ Below w.heap.size w w' := by
  obtain ⟨n0, hn0⟩ : ∃ n, w.heap.size = n := ⟨_, rfl⟩
  have hC : Below n0 w w := Below.refl _ _
  go_enter Try.func16, Try.ntmps16
  go_wp2_with fail
  refine (house_any _).mono ?_
  rintro e w1 ⟨A, D, rfl, hB, hS, hb⟩
  replace hC : Below n0 w w1 := hC.trans (hb.mono (by have := hC.size; omega))
  clear hb
  go_wp2_with fail
  refine (rg_any 410 420 _).mono ?_
  rintro e w2 ⟨rfl, hb⟩
  replace hC : Below n0 w w2 := hC.trans (hb.mono (by have := hC.size; omega))
  replace hB := (RS.below hB hb).more hb.size
  replace hS := (RP.below hS hb).more hb.size
  clear hb
  go_upto_region 2 with fail
  obtain ⟨m1, hm1⟩ : ∃ n, w2.heap.size = n := ⟨_, rfl⟩
  try rw [hm1]
  have hqbx : n0 ≤ m1 := by have := hC.size; omega
  have bx : BK (w2.alloc (.cells #[.slice A 2 2, .slice D 2 2] 25)) (m1) #[.slice A 2 2, .slice D 2 2] 25 := BK.new' _ _ _ (m1) hm1
  have hsbx : (w2.alloc (.cells #[.slice A 2 2, .slice D 2 2] 25)).heap.size = m1 + 1 := by simp [hm1]
  replace hC : Below n0 w (w2.alloc (.cells #[.slice A 2 2, .slice D 2 2] 25)) := Below.alloc hC (by have := hC.size; omega) _
  replace hB := (RS.below hB (w' := (w2.alloc (.cells #[.slice A 2 2, .slice D 2 2] 25))) (Below.alloc (Below.refl _ _) (Nat.le_refl _) _)).more (B' := (w2.alloc (.cells #[.slice A 2 2, .slice D 2 2] 25)).heap.size) (by simp)
  replace hS := (RP.below hS (w' := (w2.alloc (.cells #[.slice A 2 2, .slice D 2 2] 25))) (Below.alloc (Below.refl _ _) (Nat.le_refl _) _)).more (B' := (w2.alloc (.cells #[.slice A 2 2, .slice D 2 2] 25)).heap.size) (by simp)
  generalize (w2.alloc (.cells #[.slice A 2 2, .slice D 2 2] 25)) = Wbx at *
  clear hm1
  have hqmx : n0 ≤ m1 + 1 := by have := hC.size; omega
  have mx : BK (Wbx.alloc (.cells #[.int .i64 410, .int .i64 420] 33)) (m1 + 1) #[.int .i64 410, .int .i64 420] 33 := BK.new' _ _ _ (m1 + 1) hsbx
  have hsmx : (Wbx.alloc (.cells #[.int .i64 410, .int .i64 420] 33)).heap.size = m1 + 1 + 1 := by simp [hsbx]
  replace hC : Below n0 w (Wbx.alloc (.cells #[.int .i64 410, .int .i64 420] 33)) := Below.alloc hC (by have := hC.size; omega) _
  replace hB := (RS.below hB (w' := (Wbx.alloc (.cells #[.int .i64 410, .int .i64 420] 33))) (Below.alloc (Below.refl _ _) (Nat.le_refl _) _)).more (B' := (Wbx.alloc (.cells #[.int .i64 410, .int .i64 420] 33)).heap.size) (by simp)
  replace hS := (RP.below hS (w' := (Wbx.alloc (.cells #[.int .i64 410, .int .i64 420] 33))) (Below.alloc (Below.refl _ _) (Nat.le_refl _) _)).more (B' := (Wbx.alloc (.cells #[.int .i64 410, .int .i64 420] 33)).heap.size) (by simp)
  replace bx := bx.alloc (.cells #[.int .i64 410, .int .i64 420] 33)
  generalize (Wbx.alloc (.cells #[.int .i64 410, .int .i64 420] 33)) = Wmx at *
  clear hsbx
  clear hsmx
  obtain ⟨A1, c1, b1, o1, hv1, hA1, hc1⟩ := RP.cells hS
  obtain ⟨rfl, hb1⟩ := hA1 (by decide)
  injection hv1 with q1 q2 q3
  subst q1
  clear q2 q3
  obtain ⟨u1, d1, hu1⟩ := hc1 1 (by decide)
  obtain ⟨A2, c2, b2, o2, rfl, hA2, hc2⟩ := RW.cells hu1
  obtain ⟨rfl, hb2⟩ := hA2 (by decide)
  obtain ⟨u2, d2, hu2⟩ := hc2 0 (by decide)
  obtain ⟨A3, c3, rfl⟩ := hu2.slice
  rw [show (nthS houseS 1).length = 1 from rfl] at d1
  rw [Nat.add_zero] at d2
  clear hA1 hc1 hA2 hc2 hu1
  have lbx := bx.lt
  have bxc0 := bx.cell 0
  have bxc1 := bx.cell 1
  simp at bxc0 bxc1
  go_wp2_with fail
  clear lbx bxc0 bxc1
  clear d1 d2 hb1 hb2
  refine (afterX_any (nthW (nthS houseS 1) 0) _ 420 _ (by decide) hu2).mono ?_
  rintro e w3 ⟨rfl, hb⟩
  replace hC : Below n0 w w3 := hC.trans (hb.mono (by have := hC.size; omega))
  replace hB := (RS.below hB hb).more hb.size
  replace hS := (RP.below hS hb).more hb.size
  replace bx := bx.below hb bx.lt
  replace mx := mx.below hb mx.lt
  replace hu2 := (RK.below hu2 hb).more hb.size
  clear hb
  rw [ex_after.1, ex_after.2]
  unfold rV
  clear hu2
  go_upto_region 3 with fail
  obtain ⟨m2, hm2⟩ : ∃ n, w3.heap.size = n := ⟨_, rfl⟩
  try rw [hm2]
  have hqax : n0 ≤ m2 := by have := hC.size; omega
  have ax : BK (w3.alloc (.cells #[.int .i64 280, .int .i64 400] 33)) (m2) #[.int .i64 280, .int .i64 400] 33 := BK.new' _ _ _ (m2) hm2
  have hsax : (w3.alloc (.cells #[.int .i64 280, .int .i64 400] 33)).heap.size = m2 + 1 := by simp [hm2]
  replace hC : Below n0 w (w3.alloc (.cells #[.int .i64 280, .int .i64 400] 33)) := Below.alloc hC (by have := hC.size; omega) _
  replace hB := (RS.below hB (w' := (w3.alloc (.cells #[.int .i64 280, .int .i64 400] 33))) (Below.alloc (Below.refl _ _) (Nat.le_refl _) _)).more (B' := (w3.alloc (.cells #[.int .i64 280, .int .i64 400] 33)).heap.size) (by simp)
  replace hS := (RP.below hS (w' := (w3.alloc (.cells #[.int .i64 280, .int .i64 400] 33))) (Below.alloc (Below.refl _ _) (Nat.le_refl _) _)).more (B' := (w3.alloc (.cells #[.int .i64 280, .int .i64 400] 33)).heap.size) (by simp)
  replace bx := bx.alloc (.cells #[.int .i64 280, .int .i64 400] 33)
  replace mx := mx.alloc (.cells #[.int .i64 280, .int .i64 400] 33)
  generalize (w3.alloc (.cells #[.int .i64 280, .int .i64 400] 33)) = Wax at *
  clear hm2
  clear hsax
  have lbx := bx.lt
  have bxc0 := bx.cell 0
  have bxc1 := bx.cell 1
  simp at bxc0 bxc1
  refine wp_region_noPanic (plain_any [0, 4, 5, 6] (Below Wax.heap.size Wax) mixed ?_)
  refine any_tk 0 ?_
  have d0za : Below Wax.heap.size Wax Wax.drew := by exact bel_of
  have qza1 := d0za.size
  have eza1 : Below Wax.heap.size Wax (Wax.drew.alloc (.cells #[.int .i64 0, .int .i64 0] 3)) := by exact bel_of
  refine any_run1 (i := 1) (by kernel_rfl) (by rfl) (by kernel_rfl) ?_
  intro K hK
  go_wp2_with fail
  refine hK _ _ (fun _ => eza1) ?_
  clear hK K
  have hri : RI (Wax.drew.alloc (.cells #[.int .i64 0, .int .i64 0] 3)) ((Wax.drew.alloc (.cells #[.int .i64 0, .int .i64 0] 3))).heap.size (.slice (some ⟨_, 0, none⟩) 2 2) [0, 0] := rs_ri2 (BK.new _ _ _)
  have qza2 := eza1.size
  refine any_run1 (i := 2) (by kernel_rfl) (by rfl) (by kernel_rfl) ?_
  intro K hK
  go_wp2_with fail
  refine (recipe_any 1 _ _ _ _).mono ?_
  rintro e vza2 ⟨rfl, hb⟩
  replace hri := RS.more (RS.below hri hb) hb.size
  have eza2 : Below Wax.heap.size Wax vza2 := eza1.trans (hb.mono eza1.size)
  clear hb
  refine hK _ _ (fun _ => eza2) ?_
  clear hK K
  have qza3 := eza2.size
  refine any_run1 (i := 3) (by kernel_rfl) (by rfl) (by kernel_rfl) ?_
  intro K hK
  go_wp2_with fail
  refine (ranges_any houseB houseS 1 [0, 0] _ _ _ _ ex_fit (by decide) ((RS.below hB eza2).more eza2.size) ((RP.below hS eza2).more eza2.size) hri).mono ?_
  rintro e vza3 ⟨vr, rfl, hr, hb⟩
  rw [ex_rec]
  rw [ex_rng] at hr
  have eza3 : Below Wax.heap.size Wax vza3 := eza2.trans (hb.mono eza2.size)
  clear hb
  refine hK _ _ (fun _ => eza3) ?_
  clear hK K
  refine any_tk 4 ?_
  refine any_tk 5 ?_
  refine any_tk 6 ?_
  refine any_run1 (i := 7) (by kernel_rfl) (by rfl) (by kernel_rfl) ?_
  intro K hK
  go_wp2_with fail
  refine hK _ _ (fun _ => eza3) ?_
  clear hK K
  refine any_run1 (i := 8) (by kernel_rfl) (by rfl) (by kernel_rfl) ?_
  intro K hK
  go_wp2_with fail
  refine hK _ _ (fun _ => eza3) ?_
  clear hK K
  refine any_done (by kernel_rfl) (NoPanic.normal ?_)
  have hb := eza3
  replace hC : Below n0 w vza3 := hC.trans (hb.mono (by have := hC.size; omega))
  replace hB := (RS.below hB hb).more hb.size
  replace hS := (RP.below hS hb).more hb.size
  replace bx := bx.below hb bx.lt
  replace mx := mx.below hb mx.lt
  replace ax := ax.below hb ax.lt
  clear hb
  clear lbx bxc0 bxc1
  clear hri
  go_upto_region 4 with fail
  have lbx := bx.lt
  have bxc0 := bx.cell 0
  have bxc1 := bx.cell 1
  simp at bxc0 bxc1
  refine region_abs mkT196 (fun u V => (u 1 = .pointer (some ⟨m1, 0, none⟩) ∧ u 2 = .pointer (some ⟨m1 + 1, 0, none⟩) ∧ u 3 = .pointer (some ⟨m2, 0, none⟩) ∧ u 4 = .int .i64 0 ∧ u 5 = vr ∧ u 6 = .int .i64 0 ∧ u 7 = .int .i64 0) ∧ Below vza3.heap.size vza3 V) ?_ ?_
  ·skip
   have d0y : Below vza3.heap.size vza3 vza3.drew := by exact bel_of
   refine wp_region_noPanic (plain_any [0] (Below vza3.heap.size vza3) mixed ?_)
   refine any_tk 0 ?_
   have dy1 : Below vza3.heap.size vza3 vza3.drew := by exact bel_of
   have hdr : Below vza3.heap.size vza3 vza3.drew := Below.drew (Below.refl _ _)
   clear hdr
   generalize vza3.drew = uy2 at *
   refine any_run2 (i := 1) (j := 3) (by kernel_rfl) (by rfl) (by rfl) (by rfl) (by rfl) ?_ ?_
   ·skip
    intro K hK
    have qy4 := dy1.size
    have ey3 : Below vza3.heap.size vza3 (uy2.alloc (.cells #[.int .i64 0, .int .i64 0] 3)) := Below.alloc dy1 dy1.size _
    have hnx : Below uy2.heap.size uy2 (uy2.alloc (.cells #[.int .i64 0, .int .i64 0] 3)) := Below.alloc (Below.refl _ _) (Nat.le_refl _) _
    go_wp2_with fail
    have ka : BK (uy2.alloc (.cells #[.int .i64 0, .int .i64 0] 3)) uy2.heap.size #[.int .i64 0, .int .i64 0] 3 := BK.new _ _ _
    refine hK _ _ (fun _ => ey3) ?_
    clear hK K hnx
    generalize (uy2.alloc (.cells #[.int .i64 0, .int .i64 0] 3)) = vy5 at *
    obtain ⟨gka, hgka⟩ : ∃ g, uy2.heap.size = g := ⟨_, rfl⟩
    have hqka : vza3.heap.size ≤ gka := by omega
    rw [hgka] at ka
    try rw [hgka]
    clear hgka
    refine any_run2 (i := 2) (j := 3) (by kernel_rfl) (by rfl) (by rfl) (by rfl) (by rfl) ?_ ?_
    ·skip
     intro K hK
     have qy8 := ey3.size
     go_wp2_with fail
     refine (recipe_any 1 _ _ _ _).mono ?_
     rintro e vy7 ⟨rfl, hb⟩
     have ey6 : Below vza3.heap.size vza3 vy7 := ey3.trans (hb.mono ey3.size)
     replace ka := ka.below hb ka.lt
     clear hb
     refine hK _ _ (fun _ => ey6) ?_
     clear hK K
     refine any_run1 (i := 3) (by kernel_rfl) (by rfl) (by kernel_rfl) ?_
     intro K hK
     have qy10 := ey6.size
     have ey9 : Below vza3.heap.size vza3 (vy7.alloc (.cells #[.int .i64 200, .int .i64 560, .int .i64 415] 2)) := Below.alloc ey6 ey6.size _
     have hnx : Below vy7.heap.size vy7 (vy7.alloc (.cells #[.int .i64 200, .int .i64 560, .int .i64 415] 2)) := Below.alloc (Below.refl _ _) (Nat.le_refl _) _
     go_wp2_with fail
     replace ka := ka.below hnx ka.lt
     have kb : BK (vy7.alloc (.cells #[.int .i64 200, .int .i64 560, .int .i64 415] 2)) vy7.heap.size #[.int .i64 200, .int .i64 560, .int .i64 415] 2 := BK.new _ _ _
     refine hK _ _ (fun _ => ey9) ?_
     clear hK K hnx
     generalize (vy7.alloc (.cells #[.int .i64 200, .int .i64 560, .int .i64 415] 2)) = vy11 at *
     obtain ⟨gkb, hgkb⟩ : ∃ g, vy7.heap.size = g := ⟨_, rfl⟩
     have hqkb : vza3.heap.size ≤ gkb := by omega
     rw [hgkb] at kb
     try rw [hgkb]
     clear hgkb
     refine any_run1 (i := 4) (by kernel_rfl) (by rfl) (by kernel_rfl) ?_
     intro K hK
     have qy14 := ey9.size
     go_wp2_with fail
     refine (history_any houseB houseS 1 [0, 0] [200, 560, 415] _ _ _ _ _ ex_fit (by decide) ((RS.below hB ey9).more ey9.size) ((RP.below hS ey9).more ey9.size) (rs_ri2 ka) (rs_new kb kb.lt rfl) (by decide)).mono ?_
     rintro e vy13 ⟨rfl, hb⟩
     rw [ex_hist1]
     have ey12 : Below vza3.heap.size vza3 vy13 := ey9.trans (hb.mono ey9.size)
     replace ka := ka.below hb ka.lt
     replace kb := kb.below hb kb.lt
     clear hb
     refine hK _ _ (fun _ => ey12) ?_
     clear hK K
     refine any_run1 (i := 5) (by kernel_rfl) (by rfl) (by kernel_rfl) ?_
     intro K hK
     go_wp2_with fail
     refine hK _ _ (fun _ => ey12) ?_
     clear hK K
     refine any_done (by kernel_rfl) (NoPanic.normal ?_)
     exact ⟨rfl, rfl, rfl, ⟨rfl, rfl, rfl, rfl, rfl, rfl, rfl⟩, ey12⟩
    ·skip
     intro K hK
     have qy16 := ey3.size
     have ey15 : Below vza3.heap.size vza3 (vy5.alloc (.cells #[.int .i64 200, .int .i64 560, .int .i64 415] 2)) := Below.alloc ey3 ey3.size _
     have hnx : Below vy5.heap.size vy5 (vy5.alloc (.cells #[.int .i64 200, .int .i64 560, .int .i64 415] 2)) := Below.alloc (Below.refl _ _) (Nat.le_refl _) _
     go_wp2_with fail
     replace ka := ka.below hnx ka.lt
     have kb : BK (vy5.alloc (.cells #[.int .i64 200, .int .i64 560, .int .i64 415] 2)) vy5.heap.size #[.int .i64 200, .int .i64 560, .int .i64 415] 2 := BK.new _ _ _
     refine hK _ _ (fun _ => ey15) ?_
     clear hK K hnx
     generalize (vy5.alloc (.cells #[.int .i64 200, .int .i64 560, .int .i64 415] 2)) = vy17 at *
     obtain ⟨gkb, hgkb⟩ : ∃ g, vy5.heap.size = g := ⟨_, rfl⟩
     have hqkb : vza3.heap.size ≤ gkb := by omega
     rw [hgkb] at kb
     try rw [hgkb]
     clear hgkb
     refine any_run1 (i := 2) (by kernel_rfl) (by rfl) (by kernel_rfl) ?_
     intro K hK
     have qy20 := ey15.size
     go_wp2_with fail
     refine (recipe_any 1 _ _ _ _).mono ?_
     rintro e vy19 ⟨rfl, hb⟩
     have ey18 : Below vza3.heap.size vza3 vy19 := ey15.trans (hb.mono ey15.size)
     replace ka := ka.below hb ka.lt
     replace kb := kb.below hb kb.lt
     clear hb
     refine hK _ _ (fun _ => ey18) ?_
     clear hK K
     refine any_run1 (i := 4) (by kernel_rfl) (by rfl) (by kernel_rfl) ?_
     intro K hK
     have qy23 := ey18.size
     go_wp2_with fail
     refine (history_any houseB houseS 1 [0, 0] [200, 560, 415] _ _ _ _ _ ex_fit (by decide) ((RS.below hB ey18).more ey18.size) ((RP.below hS ey18).more ey18.size) (rs_ri2 ka) (rs_new kb kb.lt rfl) (by decide)).mono ?_
     rintro e vy22 ⟨rfl, hb⟩
     rw [ex_hist1]
     have ey21 : Below vza3.heap.size vza3 vy22 := ey18.trans (hb.mono ey18.size)
     replace ka := ka.below hb ka.lt
     replace kb := kb.below hb kb.lt
     clear hb
     refine hK _ _ (fun _ => ey21) ?_
     clear hK K
     refine any_run1 (i := 5) (by kernel_rfl) (by rfl) (by kernel_rfl) ?_
     intro K hK
     go_wp2_with fail
     refine hK _ _ (fun _ => ey21) ?_
     clear hK K
     refine any_done (by kernel_rfl) (NoPanic.normal ?_)
     exact ⟨rfl, rfl, rfl, ⟨rfl, rfl, rfl, rfl, rfl, rfl, rfl⟩, ey21⟩
   ·skip
    intro K hK
    have qy25 := dy1.size
    have ey24 : Below vza3.heap.size vza3 (uy2.alloc (.cells #[.int .i64 200, .int .i64 560, .int .i64 415] 2)) := Below.alloc dy1 dy1.size _
    have hnx : Below uy2.heap.size uy2 (uy2.alloc (.cells #[.int .i64 200, .int .i64 560, .int .i64 415] 2)) := Below.alloc (Below.refl _ _) (Nat.le_refl _) _
    go_wp2_with fail
    have kb : BK (uy2.alloc (.cells #[.int .i64 200, .int .i64 560, .int .i64 415] 2)) uy2.heap.size #[.int .i64 200, .int .i64 560, .int .i64 415] 2 := BK.new _ _ _
    refine hK _ _ (fun _ => ey24) ?_
    clear hK K hnx
    generalize (uy2.alloc (.cells #[.int .i64 200, .int .i64 560, .int .i64 415] 2)) = vy26 at *
    obtain ⟨gkb, hgkb⟩ : ∃ g, uy2.heap.size = g := ⟨_, rfl⟩
    have hqkb : vza3.heap.size ≤ gkb := by omega
    rw [hgkb] at kb
    try rw [hgkb]
    clear hgkb
    refine any_run1 (i := 1) (by kernel_rfl) (by rfl) (by kernel_rfl) ?_
    intro K hK
    have qy28 := ey24.size
    have ey27 : Below vza3.heap.size vza3 (vy26.alloc (.cells #[.int .i64 0, .int .i64 0] 3)) := Below.alloc ey24 ey24.size _
    have hnx : Below vy26.heap.size vy26 (vy26.alloc (.cells #[.int .i64 0, .int .i64 0] 3)) := Below.alloc (Below.refl _ _) (Nat.le_refl _) _
    go_wp2_with fail
    replace kb := kb.below hnx kb.lt
    have ka : BK (vy26.alloc (.cells #[.int .i64 0, .int .i64 0] 3)) vy26.heap.size #[.int .i64 0, .int .i64 0] 3 := BK.new _ _ _
    refine hK _ _ (fun _ => ey27) ?_
    clear hK K hnx
    generalize (vy26.alloc (.cells #[.int .i64 0, .int .i64 0] 3)) = vy29 at *
    obtain ⟨gka, hgka⟩ : ∃ g, vy26.heap.size = g := ⟨_, rfl⟩
    have hqka : vza3.heap.size ≤ gka := by omega
    rw [hgka] at ka
    try rw [hgka]
    clear hgka
    refine any_run1 (i := 2) (by kernel_rfl) (by rfl) (by kernel_rfl) ?_
    intro K hK
    have qy32 := ey27.size
    go_wp2_with fail
    refine (recipe_any 1 _ _ _ _).mono ?_
    rintro e vy31 ⟨rfl, hb⟩
    have ey30 : Below vza3.heap.size vza3 vy31 := ey27.trans (hb.mono ey27.size)
    replace kb := kb.below hb kb.lt
    replace ka := ka.below hb ka.lt
    clear hb
    refine hK _ _ (fun _ => ey30) ?_
    clear hK K
    refine any_run1 (i := 4) (by kernel_rfl) (by rfl) (by kernel_rfl) ?_
    intro K hK
    have qy35 := ey30.size
    go_wp2_with fail
    refine (history_any houseB houseS 1 [0, 0] [200, 560, 415] _ _ _ _ _ ex_fit (by decide) ((RS.below hB ey30).more ey30.size) ((RP.below hS ey30).more ey30.size) (rs_ri2 ka) (rs_new kb kb.lt rfl) (by decide)).mono ?_
    rintro e vy34 ⟨rfl, hb⟩
    rw [ex_hist1]
    have ey33 : Below vza3.heap.size vza3 vy34 := ey30.trans (hb.mono ey30.size)
    replace kb := kb.below hb kb.lt
    replace ka := ka.below hb ka.lt
    clear hb
    refine hK _ _ (fun _ => ey33) ?_
    clear hK K
    refine any_run1 (i := 5) (by kernel_rfl) (by rfl) (by kernel_rfl) ?_
    intro K hK
    go_wp2_with fail
    refine hK _ _ (fun _ => ey33) ?_
    clear hK K
    refine any_done (by kernel_rfl) (NoPanic.normal ?_)
    exact ⟨rfl, rfl, rfl, ⟨rfl, rfl, rfl, rfl, rfl, rfl, rfl⟩, ey33⟩
  rintro u V ⟨⟨u1, u2, u3, u4, u5, u6, u7⟩, hbz⟩
  simp only [mkT196, u1, u2, u3, u4, u5, u6, u7]
  clear u1 u2 u3 u4 u5 u6 u7
  clear lbx bxc0 bxc1
  replace hC : Below n0 w V := hC.trans (hbz.mono (by have := hC.size; omega))
  replace hB := (RS.below hB hbz).more hbz.size
  replace hS := (RP.below hS hbz).more hbz.size
  replace bx := bx.below hbz bx.lt
  replace mx := mx.below hbz mx.lt
  replace ax := ax.below hbz ax.lt
  replace hr := (RS.below hr hbz).more hbz.size
  clear hbz
  generalize V = V7 at *
  go_upto_region 5 with fail
  have lbx := bx.lt
  have bxc0 := bx.cell 0
  have bxc1 := bx.cell 1
  simp at bxc0 bxc1
  refine region_abs mkT196 (fun u V => (u 1 = .pointer (some ⟨m1, 0, none⟩) ∧ u 2 = .pointer (some ⟨m1 + 1, 0, none⟩) ∧ u 3 = .pointer (some ⟨m2, 0, none⟩) ∧ u 4 = .int .i64 0 ∧ u 5 = vr ∧ u 6 = .int .i64 0 ∧ u 7 = .int .i64 0 ∧ u 8 = .int .i64 16) ∧ Below V7.heap.size V7 V) ?_ ?_
  ·skip
   have d0y : Below V7.heap.size V7 V7.drew := by exact bel_of
   refine wp_region_noPanic (plain_any [0] (Below V7.heap.size V7) mixed ?_)
   refine any_tk 0 ?_
   have dy1 : Below V7.heap.size V7 V7.drew := by exact bel_of
   have hdr : Below V7.heap.size V7 V7.drew := Below.drew (Below.refl _ _)
   clear hdr
   generalize V7.drew = uy2 at *
   refine any_run2 (i := 1) (j := 3) (by kernel_rfl) (by rfl) (by rfl) (by rfl) (by rfl) ?_ ?_
   ·skip
    intro K hK
    have qy4 := dy1.size
    have ey3 : Below V7.heap.size V7 (uy2.alloc (.cells #[.int .i64 0, .int .i64 0] 3)) := Below.alloc dy1 dy1.size _
    have hnx : Below uy2.heap.size uy2 (uy2.alloc (.cells #[.int .i64 0, .int .i64 0] 3)) := Below.alloc (Below.refl _ _) (Nat.le_refl _) _
    go_wp2_with fail
    have ka : BK (uy2.alloc (.cells #[.int .i64 0, .int .i64 0] 3)) uy2.heap.size #[.int .i64 0, .int .i64 0] 3 := BK.new _ _ _
    refine hK _ _ (fun _ => ey3) ?_
    clear hK K hnx
    generalize (uy2.alloc (.cells #[.int .i64 0, .int .i64 0] 3)) = vy5 at *
    obtain ⟨gka, hgka⟩ : ∃ g, uy2.heap.size = g := ⟨_, rfl⟩
    have hqka : V7.heap.size ≤ gka := by omega
    rw [hgka] at ka
    try rw [hgka]
    clear hgka
    refine any_run2 (i := 2) (j := 3) (by kernel_rfl) (by rfl) (by rfl) (by rfl) (by rfl) ?_ ?_
    ·skip
     intro K hK
     have qy8 := ey3.size
     go_wp2_with fail
     refine (recipe_any 1 _ _ _ _).mono ?_
     rintro e vy7 ⟨rfl, hb⟩
     have ey6 : Below V7.heap.size V7 vy7 := ey3.trans (hb.mono ey3.size)
     replace ka := ka.below hb ka.lt
     clear hb
     refine hK _ _ (fun _ => ey6) ?_
     clear hK K
     refine any_run1 (i := 3) (by kernel_rfl) (by rfl) (by kernel_rfl) ?_
     intro K hK
     have qy10 := ey6.size
     have ey9 : Below V7.heap.size V7 (vy7.alloc (.cells #[.int .i64 160, .int .i64 560, .int .i64 415] 2)) := Below.alloc ey6 ey6.size _
     have hnx : Below vy7.heap.size vy7 (vy7.alloc (.cells #[.int .i64 160, .int .i64 560, .int .i64 415] 2)) := Below.alloc (Below.refl _ _) (Nat.le_refl _) _
     go_wp2_with fail
     replace ka := ka.below hnx ka.lt
     have kb : BK (vy7.alloc (.cells #[.int .i64 160, .int .i64 560, .int .i64 415] 2)) vy7.heap.size #[.int .i64 160, .int .i64 560, .int .i64 415] 2 := BK.new _ _ _
     refine hK _ _ (fun _ => ey9) ?_
     clear hK K hnx
     generalize (vy7.alloc (.cells #[.int .i64 160, .int .i64 560, .int .i64 415] 2)) = vy11 at *
     obtain ⟨gkb, hgkb⟩ : ∃ g, vy7.heap.size = g := ⟨_, rfl⟩
     have hqkb : V7.heap.size ≤ gkb := by omega
     rw [hgkb] at kb
     try rw [hgkb]
     clear hgkb
     refine any_run1 (i := 4) (by kernel_rfl) (by rfl) (by kernel_rfl) ?_
     intro K hK
     have qy14 := ey9.size
     go_wp2_with fail
     refine (history_any houseB houseS 1 [0, 0] [160, 560, 415] _ _ _ _ _ ex_fit (by decide) ((RS.below hB ey9).more ey9.size) ((RP.below hS ey9).more ey9.size) (rs_ri2 ka) (rs_new kb kb.lt rfl) (by decide)).mono ?_
     rintro e vy13 ⟨rfl, hb⟩
     rw [ex_hist2]
     have ey12 : Below V7.heap.size V7 vy13 := ey9.trans (hb.mono ey9.size)
     replace ka := ka.below hb ka.lt
     replace kb := kb.below hb kb.lt
     clear hb
     refine hK _ _ (fun _ => ey12) ?_
     clear hK K
     refine any_run1 (i := 5) (by kernel_rfl) (by rfl) (by kernel_rfl) ?_
     intro K hK
     go_wp2_with fail
     refine hK _ _ (fun _ => ey12) ?_
     clear hK K
     refine any_done (by kernel_rfl) (NoPanic.normal ?_)
     exact ⟨rfl, rfl, rfl, ⟨rfl, rfl, rfl, rfl, rfl, rfl, rfl, rfl⟩, ey12⟩
    ·skip
     intro K hK
     have qy16 := ey3.size
     have ey15 : Below V7.heap.size V7 (vy5.alloc (.cells #[.int .i64 160, .int .i64 560, .int .i64 415] 2)) := Below.alloc ey3 ey3.size _
     have hnx : Below vy5.heap.size vy5 (vy5.alloc (.cells #[.int .i64 160, .int .i64 560, .int .i64 415] 2)) := Below.alloc (Below.refl _ _) (Nat.le_refl _) _
     go_wp2_with fail
     replace ka := ka.below hnx ka.lt
     have kb : BK (vy5.alloc (.cells #[.int .i64 160, .int .i64 560, .int .i64 415] 2)) vy5.heap.size #[.int .i64 160, .int .i64 560, .int .i64 415] 2 := BK.new _ _ _
     refine hK _ _ (fun _ => ey15) ?_
     clear hK K hnx
     generalize (vy5.alloc (.cells #[.int .i64 160, .int .i64 560, .int .i64 415] 2)) = vy17 at *
     obtain ⟨gkb, hgkb⟩ : ∃ g, vy5.heap.size = g := ⟨_, rfl⟩
     have hqkb : V7.heap.size ≤ gkb := by omega
     rw [hgkb] at kb
     try rw [hgkb]
     clear hgkb
     refine any_run1 (i := 2) (by kernel_rfl) (by rfl) (by kernel_rfl) ?_
     intro K hK
     have qy20 := ey15.size
     go_wp2_with fail
     refine (recipe_any 1 _ _ _ _).mono ?_
     rintro e vy19 ⟨rfl, hb⟩
     have ey18 : Below V7.heap.size V7 vy19 := ey15.trans (hb.mono ey15.size)
     replace ka := ka.below hb ka.lt
     replace kb := kb.below hb kb.lt
     clear hb
     refine hK _ _ (fun _ => ey18) ?_
     clear hK K
     refine any_run1 (i := 4) (by kernel_rfl) (by rfl) (by kernel_rfl) ?_
     intro K hK
     have qy23 := ey18.size
     go_wp2_with fail
     refine (history_any houseB houseS 1 [0, 0] [160, 560, 415] _ _ _ _ _ ex_fit (by decide) ((RS.below hB ey18).more ey18.size) ((RP.below hS ey18).more ey18.size) (rs_ri2 ka) (rs_new kb kb.lt rfl) (by decide)).mono ?_
     rintro e vy22 ⟨rfl, hb⟩
     rw [ex_hist2]
     have ey21 : Below V7.heap.size V7 vy22 := ey18.trans (hb.mono ey18.size)
     replace ka := ka.below hb ka.lt
     replace kb := kb.below hb kb.lt
     clear hb
     refine hK _ _ (fun _ => ey21) ?_
     clear hK K
     refine any_run1 (i := 5) (by kernel_rfl) (by rfl) (by kernel_rfl) ?_
     intro K hK
     go_wp2_with fail
     refine hK _ _ (fun _ => ey21) ?_
     clear hK K
     refine any_done (by kernel_rfl) (NoPanic.normal ?_)
     exact ⟨rfl, rfl, rfl, ⟨rfl, rfl, rfl, rfl, rfl, rfl, rfl, rfl⟩, ey21⟩
   ·skip
    intro K hK
    have qy25 := dy1.size
    have ey24 : Below V7.heap.size V7 (uy2.alloc (.cells #[.int .i64 160, .int .i64 560, .int .i64 415] 2)) := Below.alloc dy1 dy1.size _
    have hnx : Below uy2.heap.size uy2 (uy2.alloc (.cells #[.int .i64 160, .int .i64 560, .int .i64 415] 2)) := Below.alloc (Below.refl _ _) (Nat.le_refl _) _
    go_wp2_with fail
    have kb : BK (uy2.alloc (.cells #[.int .i64 160, .int .i64 560, .int .i64 415] 2)) uy2.heap.size #[.int .i64 160, .int .i64 560, .int .i64 415] 2 := BK.new _ _ _
    refine hK _ _ (fun _ => ey24) ?_
    clear hK K hnx
    generalize (uy2.alloc (.cells #[.int .i64 160, .int .i64 560, .int .i64 415] 2)) = vy26 at *
    obtain ⟨gkb, hgkb⟩ : ∃ g, uy2.heap.size = g := ⟨_, rfl⟩
    have hqkb : V7.heap.size ≤ gkb := by omega
    rw [hgkb] at kb
    try rw [hgkb]
    clear hgkb
    refine any_run1 (i := 1) (by kernel_rfl) (by rfl) (by kernel_rfl) ?_
    intro K hK
    have qy28 := ey24.size
    have ey27 : Below V7.heap.size V7 (vy26.alloc (.cells #[.int .i64 0, .int .i64 0] 3)) := Below.alloc ey24 ey24.size _
    have hnx : Below vy26.heap.size vy26 (vy26.alloc (.cells #[.int .i64 0, .int .i64 0] 3)) := Below.alloc (Below.refl _ _) (Nat.le_refl _) _
    go_wp2_with fail
    replace kb := kb.below hnx kb.lt
    have ka : BK (vy26.alloc (.cells #[.int .i64 0, .int .i64 0] 3)) vy26.heap.size #[.int .i64 0, .int .i64 0] 3 := BK.new _ _ _
    refine hK _ _ (fun _ => ey27) ?_
    clear hK K hnx
    generalize (vy26.alloc (.cells #[.int .i64 0, .int .i64 0] 3)) = vy29 at *
    obtain ⟨gka, hgka⟩ : ∃ g, vy26.heap.size = g := ⟨_, rfl⟩
    have hqka : V7.heap.size ≤ gka := by omega
    rw [hgka] at ka
    try rw [hgka]
    clear hgka
    refine any_run1 (i := 2) (by kernel_rfl) (by rfl) (by kernel_rfl) ?_
    intro K hK
    have qy32 := ey27.size
    go_wp2_with fail
    refine (recipe_any 1 _ _ _ _).mono ?_
    rintro e vy31 ⟨rfl, hb⟩
    have ey30 : Below V7.heap.size V7 vy31 := ey27.trans (hb.mono ey27.size)
    replace kb := kb.below hb kb.lt
    replace ka := ka.below hb ka.lt
    clear hb
    refine hK _ _ (fun _ => ey30) ?_
    clear hK K
    refine any_run1 (i := 4) (by kernel_rfl) (by rfl) (by kernel_rfl) ?_
    intro K hK
    have qy35 := ey30.size
    go_wp2_with fail
    refine (history_any houseB houseS 1 [0, 0] [160, 560, 415] _ _ _ _ _ ex_fit (by decide) ((RS.below hB ey30).more ey30.size) ((RP.below hS ey30).more ey30.size) (rs_ri2 ka) (rs_new kb kb.lt rfl) (by decide)).mono ?_
    rintro e vy34 ⟨rfl, hb⟩
    rw [ex_hist2]
    have ey33 : Below V7.heap.size V7 vy34 := ey30.trans (hb.mono ey30.size)
    replace kb := kb.below hb kb.lt
    replace ka := ka.below hb ka.lt
    clear hb
    refine hK _ _ (fun _ => ey33) ?_
    clear hK K
    refine any_run1 (i := 5) (by kernel_rfl) (by rfl) (by kernel_rfl) ?_
    intro K hK
    go_wp2_with fail
    refine hK _ _ (fun _ => ey33) ?_
    clear hK K
    refine any_done (by kernel_rfl) (NoPanic.normal ?_)
    exact ⟨rfl, rfl, rfl, ⟨rfl, rfl, rfl, rfl, rfl, rfl, rfl, rfl⟩, ey33⟩
  rintro u V ⟨⟨u1, u2, u3, u4, u5, u6, u7, u8⟩, hbz⟩
  simp only [mkT196, u1, u2, u3, u4, u5, u6, u7, u8]
  clear u1 u2 u3 u4 u5 u6 u7 u8
  clear lbx bxc0 bxc1
  replace hC : Below n0 w V := hC.trans (hbz.mono (by have := hC.size; omega))
  replace hB := (RS.below hB hbz).more hbz.size
  replace hS := (RP.below hS hbz).more hbz.size
  replace bx := bx.below hbz bx.lt
  replace mx := mx.below hbz mx.lt
  replace ax := ax.below hbz ax.lt
  replace hr := (RS.below hr hbz).more hbz.size
  clear hbz
  generalize V = V8 at *
  go_upto_region 6 with fail
  have lbx := bx.lt
  have bxc0 := bx.cell 0
  have bxc1 := bx.cell 1
  simp at bxc0 bxc1
  have lmx := mx.lt
  have mxc0 := mx.cell 0
  have mxc1 := mx.cell 1
  simp at mxc0 mxc1
  refine wp_region_noPanic (plain_any [0, 3, 5, 6, 7] (Below V8.heap.size V8) mixed ?_)
  refine any_tk 0 ?_
  have d0z6 : Below V8.heap.size V8 V8.drew := by exact bel_of
  refine any_tk 3 ?_
  have qz61 := d0z6.size
  have ez61 : Below V8.heap.size V8 (V8.drew.alloc (.cells #[.int .i64 0, .int .i64 0] 3)) := by exact bel_of
  refine any_run1 (i := 1) (by kernel_rfl) (by rfl) (by kernel_rfl) ?_
  intro K hK
  go_wp2_with fail
  refine hK _ _ (fun _ => ez61) ?_
  clear hK K
  have hri : RI (V8.drew.alloc (.cells #[.int .i64 0, .int .i64 0] 3)) ((V8.drew.alloc (.cells #[.int .i64 0, .int .i64 0] 3))).heap.size (.slice (some ⟨_, 0, none⟩) 2 2) [0, 0] := rs_ri2 (BK.new _ _ _)
  have qz62 := ez61.size
  refine any_run1 (i := 2) (by kernel_rfl) (by rfl) (by kernel_rfl) ?_
  intro K hK
  go_wp2_with fail
  refine (recipe_any 1 _ _ _ _).mono ?_
  rintro e vz62 ⟨rfl, hb⟩
  replace hri := RS.more (RS.below hri hb) hb.size
  have ez62 : Below V8.heap.size V8 vz62 := ez61.trans (hb.mono ez61.size)
  clear hb
  refine hK _ _ (fun _ => ez62) ?_
  clear hK K
  have qz63 := ez62.size
  refine any_run1 (i := 4) (by kernel_rfl) (by rfl) (by kernel_rfl) ?_
  intro K hK
  go_wp2_with fail
  refine (historyX_any houseB houseS 1 [0, 0] ⟨410, 420⟩ _ _ _ _ ex_fit (by decide) ((RS.below hB ez62).more ez62.size) ((RP.below hS ez62).more ez62.size) hri).mono ?_
  rintro e vz63 ⟨vh, rfl, hH, hb⟩
  rw [ex_had1]
  obtain ⟨hv, hhv⟩ : ∃ l, histV houseB houseS 1 [0, 0] ⟨410, 420⟩ = l := ⟨_, rfl⟩
  rw [hhv] at hH
  have HHV := Lib.hid hhv
  clear hhv
  have ez63 : Below V8.heap.size V8 vz63 := ez62.trans (hb.mono ez62.size)
  clear hb
  refine hK _ _ (fun _ => ez63) ?_
  clear hK K
  refine any_tk 5 ?_
  refine any_tk 6 ?_
  refine any_tk 7 ?_
  refine any_run1 (i := 8) (by kernel_rfl) (by rfl) (by kernel_rfl) ?_
  intro K hK
  go_wp2_with fail
  refine hK _ _ (fun _ => ez63) ?_
  clear hK K
  refine any_run1 (i := 9) (by kernel_rfl) (by rfl) (by kernel_rfl) ?_
  intro K hK
  go_wp2_with fail
  refine hK _ _ (fun _ => ez63) ?_
  clear hK K
  refine any_done (by kernel_rfl) (NoPanic.normal ?_)
  have hb := ez63
  replace hC : Below n0 w vz63 := hC.trans (hb.mono (by have := hC.size; omega))
  replace hB := (RS.below hB hb).more hb.size
  replace hS := (RP.below hS hb).more hb.size
  replace bx := bx.below hb bx.lt
  replace mx := mx.below hb mx.lt
  replace ax := ax.below hb ax.lt
  replace hr := (RS.below hr hb).more hb.size
  clear hb
  clear lbx bxc0 bxc1
  clear lmx mxc0 mxc1
  clear hri
  go_upto_region 7 with fail
  have lbx := bx.lt
  have bxc0 := bx.cell 0
  have bxc1 := bx.cell 1
  simp at bxc0 bxc1
  have lmx := mx.lt
  have mxc0 := mx.cell 0
  have mxc1 := mx.cell 1
  simp at mxc0 mxc1
  refine wp_region_noPanic (plain_any [0, 3, 5, 6, 7] (Below vz63.heap.size vz63) mixed ?_)
  refine any_tk 0 ?_
  have d0z7 : Below vz63.heap.size vz63 vz63.drew := by exact bel_of
  refine any_tk 3 ?_
  have qz71 := d0z7.size
  have ez71 : Below vz63.heap.size vz63 (vz63.drew.alloc (.cells #[.int .i64 0, .int .i64 0] 3)) := by exact bel_of
  refine any_run1 (i := 1) (by kernel_rfl) (by rfl) (by kernel_rfl) ?_
  intro K hK
  go_wp2_with fail
  refine hK _ _ (fun _ => ez71) ?_
  clear hK K
  have hri : RI (vz63.drew.alloc (.cells #[.int .i64 0, .int .i64 0] 3)) ((vz63.drew.alloc (.cells #[.int .i64 0, .int .i64 0] 3))).heap.size (.slice (some ⟨_, 0, none⟩) 2 2) [0, 0] := rs_ri2 (BK.new _ _ _)
  have qz72 := ez71.size
  refine any_run1 (i := 2) (by kernel_rfl) (by rfl) (by kernel_rfl) ?_
  intro K hK
  go_wp2_with fail
  refine (recipe_any 0 _ _ _ _).mono ?_
  rintro e vz72 ⟨rfl, hb⟩
  replace hri := RS.more (RS.below hri hb) hb.size
  have ez72 : Below vz63.heap.size vz63 vz72 := ez71.trans (hb.mono ez71.size)
  clear hb
  refine hK _ _ (fun _ => ez72) ?_
  clear hK K
  have qz73 := ez72.size
  refine any_run1 (i := 4) (by kernel_rfl) (by rfl) (by kernel_rfl) ?_
  intro K hK
  go_wp2_with fail
  refine (historyX_any houseB houseS 0 [0, 0] ⟨410, 420⟩ _ _ _ _ ex_fit (by decide) ((RS.below hB ez72).more ez72.size) ((RP.below hS ez72).more ez72.size) hri).mono ?_
  rintro e vz73 ⟨vz, rfl, hZ, hb⟩
  clear hZ
  rw [ex_had0]
  have ez73 : Below vz63.heap.size vz63 vz73 := ez72.trans (hb.mono ez72.size)
  clear hb
  refine hK _ _ (fun _ => ez73) ?_
  clear hK K
  refine any_tk 5 ?_
  refine any_tk 6 ?_
  refine any_tk 7 ?_
  refine any_run1 (i := 8) (by kernel_rfl) (by rfl) (by kernel_rfl) ?_
  intro K hK
  go_wp2_with fail
  refine hK _ _ (fun _ => ez73) ?_
  clear hK K
  refine any_run1 (i := 9) (by kernel_rfl) (by rfl) (by kernel_rfl) ?_
  intro K hK
  go_wp2_with fail
  refine hK _ _ (fun _ => ez73) ?_
  clear hK K
  refine any_done (by kernel_rfl) (NoPanic.normal ?_)
  have hb := ez73
  replace hC : Below n0 w vz73 := hC.trans (hb.mono (by have := hC.size; omega))
  replace hB := (RS.below hB hb).more hb.size
  replace hS := (RP.below hS hb).more hb.size
  replace bx := bx.below hb bx.lt
  replace mx := mx.below hb mx.lt
  replace ax := ax.below hb ax.lt
  replace hr := (RS.below hr hb).more hb.size
  replace hH := (RS.below hH hb).more hb.size
  clear hb
  clear lbx bxc0 bxc1
  clear lmx mxc0 mxc1
  clear hri
  go_upto_region 8 with fail
  have lbx := bx.lt
  have bxc0 := bx.cell 0
  have bxc1 := bx.cell 1
  simp at bxc0 bxc1
  have lmx := mx.lt
  have mxc0 := mx.cell 0
  have mxc1 := mx.cell 1
  simp at mxc0 mxc1
  refine wp_region_noPanic (plain_any [0, 3, 5, 6, 7] (Below vz73.heap.size vz73) mixed ?_)
  refine any_tk 0 ?_
  have d0z8 : Below vz73.heap.size vz73 vz73.drew := by exact bel_of
  refine any_tk 3 ?_
  have qz81 := d0z8.size
  have ez81 : Below vz73.heap.size vz73 (vz73.drew.alloc (.cells #[.int .i64 0, .int .i64 0] 3)) := by exact bel_of
  refine any_run1 (i := 1) (by kernel_rfl) (by rfl) (by kernel_rfl) ?_
  intro K hK
  go_wp2_with fail
  refine hK _ _ (fun _ => ez81) ?_
  clear hK K
  have hri : RI (vz73.drew.alloc (.cells #[.int .i64 0, .int .i64 0] 3)) ((vz73.drew.alloc (.cells #[.int .i64 0, .int .i64 0] 3))).heap.size (.slice (some ⟨_, 0, none⟩) 2 2) [0, 0] := rs_ri2 (BK.new _ _ _)
  have qz82 := ez81.size
  refine any_run1 (i := 2) (by kernel_rfl) (by rfl) (by kernel_rfl) ?_
  intro K hK
  go_wp2_with fail
  refine (recipe_any 1 _ _ _ _).mono ?_
  rintro e vz82 ⟨rfl, hb⟩
  replace hri := RS.more (RS.below hri hb) hb.size
  have ez82 : Below vz73.heap.size vz73 vz82 := ez81.trans (hb.mono ez81.size)
  clear hb
  refine hK _ _ (fun _ => ez82) ?_
  clear hK K
  have qz83 := ez82.size
  refine any_run1 (i := 4) (by kernel_rfl) (by rfl) (by kernel_rfl) ?_
  intro K hK
  go_wp2_with fail
  refine (hadX_any houseB houseS 1 [0, 0] ⟨410, 420⟩ _ _ _ _ ex_fit (by decide) ((RS.below hB ez82).more ez82.size) ((RP.below hS ez82).more ez82.size) hri).mono ?_
  rintro e vz83 ⟨vd, rfl, hd, hb⟩
  rw [ex_had1]
  rw [ex_hadV] at hd
  have ez83 : Below vz73.heap.size vz73 vz83 := ez82.trans (hb.mono ez82.size)
  clear hb
  refine hK _ _ (fun _ => ez83) ?_
  clear hK K
  refine any_tk 5 ?_
  refine any_tk 6 ?_
  refine any_tk 7 ?_
  refine any_run1 (i := 8) (by kernel_rfl) (by rfl) (by kernel_rfl) ?_
  intro K hK
  go_wp2_with fail
  refine hK _ _ (fun _ => ez83) ?_
  clear hK K
  refine any_run1 (i := 9) (by kernel_rfl) (by rfl) (by kernel_rfl) ?_
  intro K hK
  go_wp2_with fail
  refine hK _ _ (fun _ => ez83) ?_
  clear hK K
  refine any_done (by kernel_rfl) (NoPanic.normal ?_)
  have hb := ez83
  replace hC : Below n0 w vz83 := hC.trans (hb.mono (by have := hC.size; omega))
  replace hB := (RS.below hB hb).more hb.size
  replace hS := (RP.below hS hb).more hb.size
  replace bx := bx.below hb bx.lt
  replace mx := mx.below hb mx.lt
  replace ax := ax.below hb ax.lt
  replace hr := (RS.below hr hb).more hb.size
  replace hH := (RS.below hH hb).more hb.size
  clear hb
  clear lbx bxc0 bxc1
  clear lmx mxc0 mxc1
  clear hri
  have lbx := bx.lt
  have bxc0 := bx.cell 0
  have bxc1 := bx.cell 1
  simp at bxc0 bxc1
  have lmx := mx.lt
  have mxc0 := mx.cell 0
  have mxc1 := mx.cell 1
  simp at mxc0 mxc1
  go_wp2_with fail
  clear lbx bxc0 bxc1
  clear lmx mxc0 mxc1
  refine (barsF_any houseB houseS ⟨410, 420⟩ _ _ _ ex_fit hB hS).mono ?_
  rintro e w4 ⟨v9, rfl, h9, hb⟩
  replace hC : Below n0 w w4 := hC.trans (hb.mono (by have := hC.size; omega))
  replace hB := (RS.below hB hb).more hb.size
  replace hS := (RP.below hS hb).more hb.size
  replace bx := bx.below hb bx.lt
  replace mx := mx.below hb mx.lt
  replace ax := ax.below hb ax.lt
  replace hr := (RS.below hr hb).more hb.size
  replace hH := (RS.below hH hb).more hb.size
  replace hd := (RS.below hd hb).more hb.size
  clear hb
  rw [ex_barsE, if_pos rfl, ex_barsV] at h9
  rw [ex_barsE]
  have lbx := bx.lt
  have bxc0 := bx.cell 0
  have bxc1 := bx.cell 1
  simp at bxc0 bxc1
  have lmx := mx.lt
  have mxc0 := mx.cell 0
  have mxc1 := mx.cell 1
  simp at mxc0 mxc1
  go_wp2_with fail
  clear lbx bxc0 bxc1
  clear lmx mxc0 mxc1
  refine (waysF_any houseB houseS ⟨410, 420⟩ _ _ _ ex_fit hB hS).mono ?_
  rintro e w5 ⟨vw, rfl, hw, hb⟩
  replace hC : Below n0 w w5 := hC.trans (hb.mono (by have := hC.size; omega))
  replace hB := (RS.below hB hb).more hb.size
  replace hS := (RP.below hS hb).more hb.size
  replace bx := bx.below hb bx.lt
  replace mx := mx.below hb mx.lt
  replace ax := ax.below hb ax.lt
  replace hr := (RS.below hr hb).more hb.size
  replace hH := (RS.below hH hb).more hb.size
  replace hd := (RS.below hd hb).more hb.size
  replace h9 := (RS.below h9 hb).more hb.size
  clear hb
  rw [ex_barsE, if_pos rfl, ex_ways] at hw
  rw [ex_barsE]
  have lbx := bx.lt
  have bxc0 := bx.cell 0
  have bxc1 := bx.cell 1
  simp at bxc0 bxc1
  have lmx := mx.lt
  have mxc0 := mx.cell 0
  have mxc1 := mx.cell 1
  simp at mxc0 mxc1
  go_wp2_with fail
  clear lbx bxc0 bxc1
  clear lmx mxc0 mxc1
  refine (countF_any houseB houseS ⟨410, 420⟩ _ _ _ ex_fit hB hS (fun _ => by rw [ex_mkL]; decide)).mono ?_
  rintro e w6 ⟨rfl, hb⟩
  replace hC : Below n0 w w6 := hC.trans (hb.mono (by have := hC.size; omega))
  replace hB := (RS.below hB hb).more hb.size
  replace hS := (RP.below hS hb).more hb.size
  replace bx := bx.below hb bx.lt
  replace mx := mx.below hb mx.lt
  replace ax := ax.below hb ax.lt
  replace hr := (RS.below hr hb).more hb.size
  replace hH := (RS.below hH hb).more hb.size
  replace hd := (RS.below hd hb).more hb.size
  replace h9 := (RS.below h9 hb).more hb.size
  replace hw := (RLi.below hw hb).more hb.size
  clear hb
  rw [if_pos ex_meas, ex_meas, ex_mkL]
  rw [show ((([[0, 1, 0], [1, 0, 0], [1, 1, 0]] : List (List Int)).length : Nat) : Int) = 3 from rfl]
  have lbx := bx.lt
  have bxc0 := bx.cell 0
  have bxc1 := bx.cell 1
  simp at bxc0 bxc1
  have lmx := mx.lt
  have mxc0 := mx.cell 0
  have mxc1 := mx.cell 1
  simp at mxc0 mxc1
  go_wp2_with fail
  clear lbx bxc0 bxc1
  clear lmx mxc0 mxc1
  refine (askF_any houseB houseS ⟨410, 420⟩ _ _ _ ex_fit hB hS).mono ?_
  rintro e w7 ⟨rfl, hb⟩
  replace hC : Below n0 w w7 := hC.trans (hb.mono (by have := hC.size; omega))
  replace hB := (RS.below hB hb).more hb.size
  replace hS := (RP.below hS hb).more hb.size
  replace bx := bx.below hb bx.lt
  replace mx := mx.below hb mx.lt
  replace ax := ax.below hb ax.lt
  replace hr := (RS.below hr hb).more hb.size
  replace hH := (RS.below hH hb).more hb.size
  replace hd := (RS.below hd hb).more hb.size
  replace h9 := (RS.below h9 hb).more hb.size
  replace hw := (RLi.below hw hb).more hb.size
  clear hb
  rw [ex_ask, ex_barsE]
  go_upto_region 15 with fail
  try simp only [List.append_eq, List.cons_append, List.nil_append]
  have lax := ax.lt
  have axc0 := ax.cell 0
  have axc1 := ax.cell 1
  simp at axc0 axc1
  have lbx := bx.lt
  have bxc0 := bx.cell 0
  have bxc1 := bx.cell 1
  simp at bxc0 bxc1
  have lmx := mx.lt
  have mxc0 := mx.cell 0
  have mxc1 := mx.cell 1
  simp at mxc0 mxc1
  refine wp_region_noPanic (plain_any [0, 2, 3, 4, 10, 11, 12, 15, 16, 18, 19, 20, 23, 26, 27, 28, 31, 32, 33, 38, 39, 40, 41, 42, 43, 44, 45, 46, 47, 48, 49, 50] (Below w7.heap.size w7) mixed ?_)
  refine any_tk 0 ?_
  have d0zx : Below w7.heap.size w7 w7.drew := by exact bel_of
  have qzx1 := d0zx.size
  refine any_run1 (i := 1) (by kernel_rfl) (by rfl) (by kernel_rfl) ?_
  intro K hK
  go_wp2_with fail
  refine (rg_any 280 400 _).mono ?_
  rintro e vzx1 ⟨rfl, hb⟩
  have ezx1 : Below w7.heap.size w7 vzx1 := d0zx.trans (hb.mono d0zx.size)
  clear hb
  refine hK _ _ (fun _ => ezx1) ?_
  clear hK K
  refine any_tk 2 ?_
  refine any_tk 3 ?_
  refine any_tk 4 ?_
  have qzx2 := ezx1.size
  refine any_run1 (i := 5) (by kernel_rfl) (by rfl) (by kernel_rfl) ?_
  intro K hK
  go_wp2_with fail
  refine (rg_any 150 300 _).mono ?_
  rintro e vzx2 ⟨rfl, hb⟩
  have ezx2 : Below w7.heap.size w7 vzx2 := ezx1.trans (hb.mono ezx1.size)
  clear hb
  refine hK _ _ (fun _ => ezx2) ?_
  clear hK K
  have qzx3 := ezx2.size
  refine any_run1 (i := 6) (by kernel_rfl) (by rfl) (by kernel_rfl) ?_
  intro K hK
  go_wp2_with fail
  refine (rg_any 400 600 _).mono ?_
  rintro e vzx3 ⟨rfl, hb⟩
  have ezx3 : Below w7.heap.size w7 vzx3 := ezx2.trans (hb.mono ezx2.size)
  clear hb
  refine hK _ _ (fun _ => ezx3) ?_
  clear hK K
  have qzx4 := ezx3.size
  refine any_run1 (i := 7) (by kernel_rfl) (by rfl) (by kernel_rfl) ?_
  intro K hK
  go_wp2_with fail
  refine (rg_any 200 480 _).mono ?_
  rintro e vzx4 ⟨rfl, hb⟩
  have ezx4 : Below w7.heap.size w7 vzx4 := ezx3.trans (hb.mono ezx3.size)
  clear hb
  refine hK _ _ (fun _ => ezx4) ?_
  clear hK K
  have qzx5 := ezx4.size
  have ezx5 : Below w7.heap.size w7 (vzx4.alloc (.cells #[.int .i64 150, .int .i64 300, .int .i64 400, .int .i64 600, .int .i64 200, .int .i64 480] 33)) := by exact bel_of
  refine any_run1 (i := 8) (by kernel_rfl) (by rfl) (by kernel_rfl) ?_
  intro K hK
  go_wp2_with fail
  refine hK _ _ (fun _ => ezx5) ?_
  clear hK K
  have qzx6 := ezx5.size
  refine any_run1 (i := 9) (by kernel_rfl) (by rfl) (by kernel_rfl) ?_
  intro K hK
  go_wp2_with fail
  refine (rangesL_any [⟨150, 300⟩, ⟨400, 600⟩, ⟨200, 480⟩] [⟨150, 300⟩, ⟨400, 600⟩, ⟨200, 480⟩] _ _ _ (by decide) (by decide) ((RS.below hr ezx5).more ezx5.size) (rs_new (BK.new _ _ _) (BK.new _ _ _).lt rfl)).mono ?_
  rintro e vzx6 ⟨rfl, hb⟩
  rw [decide_eq_true (show ([⟨150, 300⟩, ⟨400, 600⟩, ⟨200, 480⟩] : List Rg) = [⟨150, 300⟩, ⟨400, 600⟩, ⟨200, 480⟩] from rfl)]
  have ezx6 : Below w7.heap.size w7 vzx6 := ezx5.trans (hb.mono ezx5.size)
  clear hb
  refine hK _ _ (fun _ => ezx6) ?_
  clear hK K
  refine any_tk 10 ?_
  refine any_tk 11 ?_
  refine any_tk 12 ?_
  refine any_tk 15 ?_
  refine any_tk 16 ?_
  have qzx7 := ezx6.size
  have ezx7 : Below w7.heap.size w7 (vzx6.alloc (.cells #[.int .i64 0, .int .i64 0] 3)) := by exact bel_of
  refine any_run1 (i := 13) (by kernel_rfl) (by rfl) (by kernel_rfl) ?_
  intro K hK
  go_wp2_with fail
  refine hK _ _ (fun _ => ezx7) ?_
  clear hK K
  have hri : RI (vzx6.alloc (.cells #[.int .i64 0, .int .i64 0] 3)) ((vzx6.alloc (.cells #[.int .i64 0, .int .i64 0] 3))).heap.size (.slice (some ⟨_, 0, none⟩) 2 2) [0, 0] := rs_ri2 (BK.new _ _ _)
  have qzx8 := ezx7.size
  refine any_run1 (i := 14) (by kernel_rfl) (by rfl) (by kernel_rfl) ?_
  intro K hK
  go_wp2_with fail
  refine (recipe_any 1 _ _ _ _).mono ?_
  rintro e vzx8 ⟨rfl, hb⟩
  replace hri := RS.more (RS.below hri hb) hb.size
  have ezx8 : Below w7.heap.size w7 vzx8 := ezx7.trans (hb.mono ezx7.size)
  clear hb
  refine hK _ _ (fun _ => ezx8) ?_
  clear hK K
  have qzx9 := ezx8.size
  refine any_run1 (i := 17) (by kernel_rfl) (by rfl) (by kernel_rfl) ?_
  intro K hK
  go_wp2_with fail
  refine (agrees_any houseB houseS 1 [0, 0] hv ⟨410, 420⟩ _ _ _ _ _ ex_fit (by decide) ((RS.below hB ezx8).more ezx8.size) ((RP.below hS ezx8).more ezx8.size) hri ((RS.below hH ezx8).more ezx8.size) (by rw [← HHV.out, ex_histV_len]; decide)).mono ?_
  rintro e vzx9 ⟨rfl, hb⟩
  rw [← HHV.out, ex_agrees]
  have ezx9 : Below w7.heap.size w7 vzx9 := ezx8.trans (hb.mono ezx8.size)
  clear hb
  refine hK _ _ (fun _ => ezx9) ?_
  clear hK K
  refine any_tk 18 ?_
  refine any_tk 19 ?_
  refine any_tk 20 ?_
  refine any_tk 23 ?_
  have qzx10 := ezx9.size
  refine any_run1 (i := 21) (by kernel_rfl) (by rfl) (by kernel_rfl) ?_
  intro K hK
  go_wp2_with fail
  refine (rg_any 180 300 _).mono ?_
  rintro e vzx10 ⟨rfl, hb⟩
  have ezx10 : Below w7.heap.size w7 vzx10 := ezx9.trans (hb.mono ezx9.size)
  clear hb
  refine hK _ _ (fun _ => ezx10) ?_
  clear hK K
  have qzx11 := ezx10.size
  refine any_run1 (i := 22) (by kernel_rfl) (by rfl) (by kernel_rfl) ?_
  intro K hK
  go_wp2_with fail
  refine (rg_any 550 600 _).mono ?_
  rintro e vzx11 ⟨rfl, hb⟩
  have ezx11 : Below w7.heap.size w7 vzx11 := ezx10.trans (hb.mono ezx10.size)
  clear hb
  refine hK _ _ (fun _ => ezx11) ?_
  clear hK K
  have qzx12 := ezx11.size
  have ezx12 : Below w7.heap.size w7 (vzx11.alloc (.cells #[.int .i64 180, .int .i64 300, .int .i64 550, .int .i64 600, .int .i64 410, .int .i64 420] 33)) := by exact bel_of
  refine any_run1 (i := 24) (by kernel_rfl) (by rfl) (by kernel_rfl) ?_
  intro K hK
  go_wp2_with fail
  refine hK _ _ (fun _ => ezx12) ?_
  clear hK K
  have qzx13 := ezx12.size
  refine any_run1 (i := 25) (by kernel_rfl) (by rfl) (by kernel_rfl) ?_
  intro K hK
  go_wp2_with fail
  refine (rangesL_any [⟨180, 300⟩, ⟨550, 600⟩, ⟨410, 420⟩] [⟨180, 300⟩, ⟨550, 600⟩, ⟨410, 420⟩] _ _ _ (by decide) (by decide) ((RS.below hd ezx12).more ezx12.size) (rs_new (BK.new _ _ _) (BK.new _ _ _).lt rfl)).mono ?_
  rintro e vzx13 ⟨rfl, hb⟩
  rw [decide_eq_true (show ([⟨180, 300⟩, ⟨550, 600⟩, ⟨410, 420⟩] : List Rg) = [⟨180, 300⟩, ⟨550, 600⟩, ⟨410, 420⟩] from rfl)]
  have ezx13 : Below w7.heap.size w7 vzx13 := ezx12.trans (hb.mono ezx12.size)
  clear hb
  refine hK _ _ (fun _ => ezx13) ?_
  clear hK K
  refine any_tk 26 ?_
  refine any_tk 27 ?_
  refine any_tk 28 ?_
  have qzx14 := ezx13.size
  have ezx14 : Below w7.heap.size w7 (vzx13.alloc (.cells #[.int .i64 0, .int .i64 1] 3)) := by exact bel_of
  refine any_run1 (i := 29) (by kernel_rfl) (by rfl) (by kernel_rfl) ?_
  intro K hK
  go_wp2_with fail
  refine hK _ _ (fun _ => ezx14) ?_
  clear hK K
  have qzx15 := ezx14.size
  refine any_run1 (i := 30) (by kernel_rfl) (by rfl) (by kernel_rfl) ?_
  intro K hK
  go_wp2_with fail
  refine (ints_any [0, 1] [0, 1] _ _ _ (by decide) (by decide) ((RS.below h9 ezx14).more ezx14.size) (rs_new (BK.new _ _ _) (BK.new _ _ _).lt rfl)).mono ?_
  rintro e vzx15 ⟨rfl, hb⟩
  rw [decide_eq_true (show ([0, 1] : List Int) = [0, 1] from rfl)]
  have ezx15 : Below w7.heap.size w7 vzx15 := ezx14.trans (hb.mono ezx14.size)
  clear hb
  refine hK _ _ (fun _ => ezx15) ?_
  clear hK K
  refine any_tk 31 ?_
  refine any_tk 32 ?_
  refine any_tk 33 ?_
  refine any_run2 (i := 34) (j := 35) (by kernel_rfl) (by rfl) (by rfl) (by rfl) (by rfl) ?_ ?_
  ·skip
   intro K hK
   go_wp2_with fail
   obtain ⟨g34, hg34⟩ : ∃ n, vzx15.heap.size = n := ⟨_, rfl⟩
   have d34 : Below w7.heap.size w7 (vzx15.alloc (.cells #[.int .i64 0, .int .i64 1] 3)) := Below.alloc ezx15 ezx15.size _
   have b34 : BK (vzx15.alloc (.cells #[.int .i64 0, .int .i64 1] 3)) g34 #[.int .i64 0, .int .i64 1] 3 := BK.new' _ _ _ _ hg34
   refine hK _ _ (fun _ => d34) ?_
   clear hK K
   rw [hg34]
   clear hg34
   generalize (vzx15.alloc (.cells #[.int .i64 0, .int .i64 1] 3)) = X34 at *
   refine any_run1 (i := 35) (by kernel_rfl) (by rfl) (by kernel_rfl) ?_
   intro K hK
   go_wp2_with fail
   obtain ⟨g35, hg35⟩ : ∃ n, X34.heap.size = n := ⟨_, rfl⟩
   have d35 : Below w7.heap.size w7 (X34.alloc (.cells #[.int .i64 0] 3)) := Below.alloc d34 d34.size _
   have b35 : BK (X34.alloc (.cells #[.int .i64 0] 3)) g35 #[.int .i64 0] 3 := BK.new' _ _ _ _ hg35
   replace b34 := b34.alloc (.cells #[.int .i64 0] 3)
   refine hK _ _ (fun _ => d35) ?_
   clear hK K
   rw [hg35]
   clear hg35
   generalize (X34.alloc (.cells #[.int .i64 0] 3)) = X35 at *
   refine any_run1 (i := 36) (by kernel_rfl) (by rfl) (by kernel_rfl) ?_
   intro K hK
   go_wp2_with fail
   have d36 : Below w7.heap.size w7 (X35.alloc (.cells #[.slice (some ⟨g34, 0, none⟩) 2 2, .slice (some ⟨g35, 0, none⟩) 1 1] 40)) := Below.alloc d35 d35.size _
   have c34 := b34.alloc (.cells #[.slice (some ⟨g34, 0, none⟩) 2 2, .slice (some ⟨g35, 0, none⟩) 1 1] 40)
   have c35 := b35.alloc (.cells #[.slice (some ⟨g34, 0, none⟩) 2 2, .slice (some ⟨g35, 0, none⟩) 1 1] 40)
   have hli : RLi (X35.alloc (.cells #[.slice (some ⟨g34, 0, none⟩) 2 2, .slice (some ⟨g35, 0, none⟩) 1 1] 40)) (X35.alloc (.cells #[.slice (some ⟨g34, 0, none⟩) 2 2, .slice (some ⟨g35, 0, none⟩) 1 1] 40)).heap.size (.slice (some ⟨X35.heap.size, 0, none⟩) 2 2) [[0, 1], [0]] := rn_new (BK.new _ _ _) (BK.new _ _ _).lt rfl (by
     intro k x hx
     rcases k with _ | _ | k
     · simp at hx; subst hx; exact ⟨_, rfl, rs_new c34 c34.lt rfl⟩
     · simp at hx; subst hx; exact ⟨_, rfl, rs_new c35 c35.lt rfl⟩
     · simp at hx)
   refine hK _ _ (fun _ => d36) ?_
   clear hK K
   have qzx16 := d36.size
   refine any_run1 (i := 37) (by kernel_rfl) (by rfl) (by kernel_rfl) ?_
   intro K hK
   go_wp2_with fail
   refine (lists_any [[0, 1], [0]] [[0, 1], [0]] _ _ _ (by decide) (by decide) (by decide) (by decide) ((RLi.below hw d36).more d36.size) hli).mono ?_
   rintro e vzx16 ⟨rfl, hb⟩
   rw [decide_eq_true (show ([[0, 1], [0]] : List (List Int)) = [[0, 1], [0]] from rfl)]
   have ezx16 : Below w7.heap.size w7 vzx16 := d36.trans (hb.mono d36.size)
   clear hb
   refine hK _ _ (fun _ => ezx16) ?_
   clear hK K
   refine any_tk 38 ?_
   refine any_tk 39 ?_
   refine any_tk 40 ?_
   refine any_tk 41 ?_
   refine any_tk 42 ?_
   refine any_tk 43 ?_
   refine any_tk 44 ?_
   refine any_tk 45 ?_
   refine any_tk 46 ?_
   refine any_tk 47 ?_
   refine any_tk 48 ?_
   refine any_tk 49 ?_
   refine any_tk 50 ?_
   refine any_run1 (i := 51) (by kernel_rfl) (by rfl) (by kernel_rfl) ?_
   intro K hK
   go_wp2_with fail
   refine hK _ _ (fun _ => ezx16) ?_
   clear hK K
   refine any_done (by kernel_rfl) (NoPanic.normal ?_)
   have hbf := hC.trans (ezx16.mono (by have := hC.size; omega))
   go_wp2_with fail
   go_ret
   exact ⟨rfl, by (try rw [hn0]); exact hbf⟩
  ·skip
   intro K hK
   go_wp2_with fail
   obtain ⟨g35, hg35⟩ : ∃ n, vzx15.heap.size = n := ⟨_, rfl⟩
   have d35 : Below w7.heap.size w7 (vzx15.alloc (.cells #[.int .i64 0] 3)) := Below.alloc ezx15 ezx15.size _
   have b35 : BK (vzx15.alloc (.cells #[.int .i64 0] 3)) g35 #[.int .i64 0] 3 := BK.new' _ _ _ _ hg35
   refine hK _ _ (fun _ => d35) ?_
   clear hK K
   rw [hg35]
   clear hg35
   generalize (vzx15.alloc (.cells #[.int .i64 0] 3)) = X35 at *
   refine any_run1 (i := 34) (by kernel_rfl) (by rfl) (by kernel_rfl) ?_
   intro K hK
   go_wp2_with fail
   obtain ⟨g34, hg34⟩ : ∃ n, X35.heap.size = n := ⟨_, rfl⟩
   have d34 : Below w7.heap.size w7 (X35.alloc (.cells #[.int .i64 0, .int .i64 1] 3)) := Below.alloc d35 d35.size _
   have b34 : BK (X35.alloc (.cells #[.int .i64 0, .int .i64 1] 3)) g34 #[.int .i64 0, .int .i64 1] 3 := BK.new' _ _ _ _ hg34
   replace b35 := b35.alloc (.cells #[.int .i64 0, .int .i64 1] 3)
   refine hK _ _ (fun _ => d34) ?_
   clear hK K
   rw [hg34]
   clear hg34
   generalize (X35.alloc (.cells #[.int .i64 0, .int .i64 1] 3)) = X34 at *
   refine any_run1 (i := 36) (by kernel_rfl) (by rfl) (by kernel_rfl) ?_
   intro K hK
   go_wp2_with fail
   have d36 : Below w7.heap.size w7 (X34.alloc (.cells #[.slice (some ⟨g34, 0, none⟩) 2 2, .slice (some ⟨g35, 0, none⟩) 1 1] 40)) := Below.alloc d34 d34.size _
   have c34 := b34.alloc (.cells #[.slice (some ⟨g34, 0, none⟩) 2 2, .slice (some ⟨g35, 0, none⟩) 1 1] 40)
   have c35 := b35.alloc (.cells #[.slice (some ⟨g34, 0, none⟩) 2 2, .slice (some ⟨g35, 0, none⟩) 1 1] 40)
   have hli : RLi (X34.alloc (.cells #[.slice (some ⟨g34, 0, none⟩) 2 2, .slice (some ⟨g35, 0, none⟩) 1 1] 40)) (X34.alloc (.cells #[.slice (some ⟨g34, 0, none⟩) 2 2, .slice (some ⟨g35, 0, none⟩) 1 1] 40)).heap.size (.slice (some ⟨X34.heap.size, 0, none⟩) 2 2) [[0, 1], [0]] := rn_new (BK.new _ _ _) (BK.new _ _ _).lt rfl (by
     intro k x hx
     rcases k with _ | _ | k
     · simp at hx; subst hx; exact ⟨_, rfl, rs_new c34 c34.lt rfl⟩
     · simp at hx; subst hx; exact ⟨_, rfl, rs_new c35 c35.lt rfl⟩
     · simp at hx)
   refine hK _ _ (fun _ => d36) ?_
   clear hK K
   have qzx16 := d36.size
   refine any_run1 (i := 37) (by kernel_rfl) (by rfl) (by kernel_rfl) ?_
   intro K hK
   go_wp2_with fail
   refine (lists_any [[0, 1], [0]] [[0, 1], [0]] _ _ _ (by decide) (by decide) (by decide) (by decide) ((RLi.below hw d36).more d36.size) hli).mono ?_
   rintro e vzx16 ⟨rfl, hb⟩
   rw [decide_eq_true (show ([[0, 1], [0]] : List (List Int)) = [[0, 1], [0]] from rfl)]
   have ezx16 : Below w7.heap.size w7 vzx16 := d36.trans (hb.mono d36.size)
   clear hb
   refine hK _ _ (fun _ => ezx16) ?_
   clear hK K
   refine any_tk 38 ?_
   refine any_tk 39 ?_
   refine any_tk 40 ?_
   refine any_tk 41 ?_
   refine any_tk 42 ?_
   refine any_tk 43 ?_
   refine any_tk 44 ?_
   refine any_tk 45 ?_
   refine any_tk 46 ?_
   refine any_tk 47 ?_
   refine any_tk 48 ?_
   refine any_tk 49 ?_
   refine any_tk 50 ?_
   refine any_run1 (i := 51) (by kernel_rfl) (by rfl) (by kernel_rfl) ?_
   intro K hK
   go_wp2_with fail
   refine hK _ _ (fun _ => ezx16) ?_
   clear hK K
   refine any_done (by kernel_rfl) (NoPanic.normal ?_)
   have hbf := hC.trans (ezx16.mono (by have := hC.size; omega))
   go_wp2_with fail
   go_ret
   exact ⟨rfl, by (try rw [hn0]); exact hbf⟩
end Go.Proofs.Ytkibdciomheekaa
