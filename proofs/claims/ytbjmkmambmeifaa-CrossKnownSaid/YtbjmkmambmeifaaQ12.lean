/- CrossKnown: the walk. CrossKnown answers true: the examples of the chapter hold. No condition. -/
import Derived.Test.YtbjmkmambmeifaaP24
import Derived.Test.YtbjmkmambmeifaaRows
import Derived.Test.YtbjmkmambmeifaaP23
set_option linter.all false
set_option linter.unnecessarySimpa false
set_option linter.unusedSimpArgs false
set_option linter.unusedVariables false
set_option linter.unusedSectionVars false

namespace Go.Proofs.Ytbjmkmambmeifaa
open Go.RowKit

theorem kn_contactE1 : contactErr pairQ [0, -1, 1, 9] ⟨0, 1⟩ = 0 := by kernel_rfl
theorem kn_contactE2 : contactErr pairQ [0, -1, 1, 9] ⟨2, 1⟩ = 0 := by kernel_rfl
theorem kn_contact1 : contactL pairQ [0, -1, 1, 9] ⟨0, 1⟩ = [1] := by kernel_rfl
theorem kn_contact2 : contactL pairQ [0, -1, 1, 9] ⟨2, 1⟩ = [3] := by kernel_rfl
theorem kn_kinds : kindsP pairP = [2, 0, 2, 2] := by kernel_rfl
theorem kn_ground1 : groundV pairQ 1 = .tuple #[.agg #[.int .i64 0, .int .i64 1, .int .i64 2, .int .i64 1], .int .i64 0] := by kernel_rfl
theorem kn_ground0 : groundV pairQ 0 = .tuple #[.agg #[.int .i64 0, .int .i64 1, .int .i64 0, .int .i64 1], .int .i64 0] := by kernel_rfl

set_option maxRecDepth 100000 in
set_option maxHeartbeats 8000000 in
theorem known_any (w : World) : Calls Try.prog 12 #[] w fun e w' => e = .returned (.bool true) ∧ Below w.heap.size w w' := by
  go_enter Try.func12, Try.ntmps12
  go_wp2_with fail
  refine (gaping_any _).mono ?_
  rintro e w1_ ⟨vp, rfl, hP, hb1⟩
  go_wp2_with fail
  refine (pair_ri _).mono ?_
  rintro e w2_ ⟨vq, rfl, hQ, hb2⟩
  have hB2 : Below w.heap.size w w2_ := hb1.trans (hb2.mono hb1.size)
  have hP2 := hP.below hb2
  have HP := Lib.hid (fun W (hb : Below w2_.heap.size w2_ W) => RS.more (RS.below (RS.more hP2 hb2.size) hb) hb.size)
  have HQ := Lib.hid (fun W (hb : Below w2_.heap.size w2_ W) => RS.more (RS.below hQ hb) hb.size)
  clear hP hQ hP2 hb1 hb2
  have hC : Below w2_.heap.size w2_ w2_ := Below.refl _ _
  go_wp2_with fail
  have bt : BK (w2_.alloc (.cells #[.int .i64 0, .int .i64 (-1), .int .i64 1, .int .i64 9] 2)) w2_.heap.size #[.int .i64 0, .int .i64 (-1), .int .i64 1, .int .i64 9] 2 := BK.new _ _ _
  have hC2 : Below w2_.heap.size w2_ (w2_.alloc (.cells #[.int .i64 0, .int .i64 (-1), .int .i64 1, .int .i64 9] 2)) := by have := hC.size; (repeat (first | with_reducible assumption | with_reducible exact Below.refl _ _ | (with_reducible refine Below.setCell ?_ (by first | omega | (simp; omega) | (simp; done)) _) | (with_reducible refine Below.alloc ?_ (by first | omega | (simp; omega) | (simp; done)) _) | (with_reducible refine Below.drew ?_) | (with_reducible refine belowN ?_ _) | assumption | exact Below.refl _ _ | (refine Below.alloc ?_ (by first | omega | (simp; omega) | (simp; done)) _) | (refine Below.drew ?_) | (refine belowN ?_ _) | (refine Below.setCell ?_ (by first | omega | (simp; omega) | (simp; done)) _)))
  clear hC; have hC := hC2; clear hC2
  generalize (w2_.alloc (.cells #[.int .i64 0, .int .i64 (-1), .int .i64 1, .int .i64 9] 2)) = Wbt at *
  obtain ⟨gbt, hgbt⟩ : ∃ g, w2_.heap.size = g := ⟨_, rfl⟩
  rw [hgbt] at bt
  try rw [hgbt]
  clear hgbt
  refine (of_any 0 1 _).mono ?_
  rintro e o1_ ⟨rfl, rfl⟩
  go_wp2_with fail
  have bo : BK (Wbt.alloc (.cells #[.int .i64 0, .int .i64 1] 25)) Wbt.heap.size #[.int .i64 0, .int .i64 1] 25 := BK.new _ _ _
  have hC2 : Below w2_.heap.size w2_ (Wbt.alloc (.cells #[.int .i64 0, .int .i64 1] 25)) := by have := hC.size; (repeat (first | with_reducible assumption | with_reducible exact Below.refl _ _ | (with_reducible refine Below.setCell ?_ (by first | omega | (simp; omega) | (simp; done)) _) | (with_reducible refine Below.alloc ?_ (by first | omega | (simp; omega) | (simp; done)) _) | (with_reducible refine Below.drew ?_) | (with_reducible refine belowN ?_ _) | assumption | exact Below.refl _ _ | (refine Below.alloc ?_ (by first | omega | (simp; omega) | (simp; done)) _) | (refine Below.drew ?_) | (refine belowN ?_ _) | (refine Below.setCell ?_ (by first | omega | (simp; omega) | (simp; done)) _)))
  clear hC; have hC := hC2; clear hC2
  have bt_ := bt.alloc (.cells #[.int .i64 0, .int .i64 1] 25); clear bt; have bt := bt_; clear bt_
  generalize (Wbt.alloc (.cells #[.int .i64 0, .int .i64 1] 25)) = Wbo at *
  obtain ⟨gbo, hgbo⟩ : ∃ g, Wbt.heap.size = g := ⟨_, rfl⟩
  rw [hgbo] at bo
  try rw [hgbo]
  clear hgbo
  refine (contactP_any pairQ [0, -1, 1, 9] ⟨0, 1⟩ vq (.slice (some ⟨gbt, 0, none⟩) 4 4) Wbo (by decide) (by decide) (HQ.out Wbo hC) (ri_new bt (by simp [ofI]) 4 rfl)).mono ?_
  rintro e w1 ⟨vx, rfl, hx, hb⟩
  have hC2 : Below w2_.heap.size w2_ w1 := hC.trans (hb.mono hC.size)
  clear hC; have hC := hC2; clear hC2
  have bt_ := bt.below hb bt.lt; clear bt; have bt := bt_; clear bt_
  have bo_ := bo.below hb bo.lt; clear bo; have bo := bo_; clear bo_
  clear hb
  rw [kn_contact1] at hx
  rw [kn_contactE1]
  go_wp2_with fail
  refine (of_any 2 1 _).mono ?_
  rintro e o2_ ⟨rfl, rfl⟩
  go_wp2_with fail
  have bp : BK (w1.alloc (.cells #[.int .i64 2, .int .i64 1] 25)) w1.heap.size #[.int .i64 2, .int .i64 1] 25 := BK.new _ _ _
  have hC2 : Below w2_.heap.size w2_ (w1.alloc (.cells #[.int .i64 2, .int .i64 1] 25)) := by have := hC.size; (repeat (first | with_reducible assumption | with_reducible exact Below.refl _ _ | (with_reducible refine Below.setCell ?_ (by first | omega | (simp; omega) | (simp; done)) _) | (with_reducible refine Below.alloc ?_ (by first | omega | (simp; omega) | (simp; done)) _) | (with_reducible refine Below.drew ?_) | (with_reducible refine belowN ?_ _) | assumption | exact Below.refl _ _ | (refine Below.alloc ?_ (by first | omega | (simp; omega) | (simp; done)) _) | (refine Below.drew ?_) | (refine belowN ?_ _) | (refine Below.setCell ?_ (by first | omega | (simp; omega) | (simp; done)) _)))
  clear hC; have hC := hC2; clear hC2
  have bt_ := bt.alloc (.cells #[.int .i64 2, .int .i64 1] 25); clear bt; have bt := bt_; clear bt_
  have bo_ := bo.alloc (.cells #[.int .i64 2, .int .i64 1] 25); clear bo; have bo := bo_; clear bo_
  have hx_ := (RS.below hx (w' := (w1.alloc (.cells #[.int .i64 2, .int .i64 1] 25))) (by (repeat (first | with_reducible assumption | with_reducible exact Below.refl _ _ | (with_reducible refine Below.setCell ?_ (by first | omega | (simp; omega) | (simp; done)) _) | (with_reducible refine Below.alloc ?_ (by first | omega | (simp; omega) | (simp; done)) _) | (with_reducible refine Below.drew ?_) | (with_reducible refine belowN ?_ _) | assumption | exact Below.refl _ _ | (refine Below.alloc ?_ (by first | omega | (simp; omega) | (simp; done)) _) | (refine Below.drew ?_) | (refine belowN ?_ _) | (refine Below.setCell ?_ (by first | omega | (simp; omega) | (simp; done)) _))))).more (B' := (w1.alloc (.cells #[.int .i64 2, .int .i64 1] 25)).heap.size) (by simp); clear hx; have hx := hx_; clear hx_
  generalize (w1.alloc (.cells #[.int .i64 2, .int .i64 1] 25)) = Wbp at *
  obtain ⟨gbp, hgbp⟩ : ∃ g, w1.heap.size = g := ⟨_, rfl⟩
  rw [hgbp] at bp
  try rw [hgbp]
  clear hgbp
  refine (contactP_any pairQ [0, -1, 1, 9] ⟨2, 1⟩ vq (.slice (some ⟨gbt, 0, none⟩) 4 4) Wbp (by decide) (by decide) (HQ.out Wbp hC) (ri_new bt (by simp [ofI]) 4 rfl)).mono ?_
  rintro e w2 ⟨vy, rfl, hy, hb⟩
  have hC2 : Below w2_.heap.size w2_ w2 := hC.trans (hb.mono hC.size)
  clear hC; have hC := hC2; clear hC2
  have bt_ := bt.below hb bt.lt; clear bt; have bt := bt_; clear bt_
  have bo_ := bo.below hb bo.lt; clear bo; have bo := bo_; clear bo_
  have hx_ := (RS.below hx hb).more hb.size; clear hx; have hx := hx_; clear hx_
  have bp_ := bp.below hb bp.lt; clear bp; have bp := bp_; clear bp_
  clear hb
  rw [kn_contact2] at hy
  rw [kn_contactE2]
  go_wp2_with fail
  refine (kindsP_any pairP vp w2 (by decide) (HP.out w2 hC)).mono ?_
  rintro e w3 ⟨vk, rfl, hk, hb⟩
  have hC2 : Below w2_.heap.size w2_ w3 := hC.trans (hb.mono hC.size)
  clear hC; have hC := hC2; clear hC2
  have bt_ := bt.below hb bt.lt; clear bt; have bt := bt_; clear bt_
  have bo_ := bo.below hb bo.lt; clear bo; have bo := bo_; clear bo_
  have hx_ := (RS.below hx hb).more hb.size; clear hx; have hx := hx_; clear hx_
  have bp_ := bp.below hb bp.lt; clear bp; have bp := bp_; clear bp_
  have hy_ := (RS.below hy hb).more hb.size; clear hy; have hy := hy_; clear hy_
  clear hb
  rw [kn_kinds] at hk
  rw [ex_pairP]
  go_wp2_with fail
  refine (groundP_any pairQ 1 vq w3 (by decide) (HQ.out w3 hC)).mono ?_
  rintro e w4 ⟨rfl, hb⟩
  have hC2 : Below w2_.heap.size w2_ w4 := hC.trans (hb.mono hC.size)
  clear hC; have hC := hC2; clear hC2
  have bt_ := bt.below hb bt.lt; clear bt; have bt := bt_; clear bt_
  have bo_ := bo.below hb bo.lt; clear bo; have bo := bo_; clear bo_
  have hx_ := (RS.below hx hb).more hb.size; clear hx; have hx := hx_; clear hx_
  have bp_ := bp.below hb bp.lt; clear bp; have bp := bp_; clear bp_
  have hy_ := (RS.below hy hb).more hb.size; clear hy; have hy := hy_; clear hy_
  have hk_ := (RS.below hk hb).more hb.size; clear hk; have hk := hk_; clear hk_
  clear hb
  rw [kn_ground1]
  go_wp2_with fail
  have bg : BK (w4.alloc (.cells #[.int .i64 0, .int .i64 1, .int .i64 2, .int .i64 1] 34)) w4.heap.size #[.int .i64 0, .int .i64 1, .int .i64 2, .int .i64 1] 34 := BK.new _ _ _
  have hC2 : Below w2_.heap.size w2_ (w4.alloc (.cells #[.int .i64 0, .int .i64 1, .int .i64 2, .int .i64 1] 34)) := by have := hC.size; (repeat (first | with_reducible assumption | with_reducible exact Below.refl _ _ | (with_reducible refine Below.setCell ?_ (by first | omega | (simp; omega) | (simp; done)) _) | (with_reducible refine Below.alloc ?_ (by first | omega | (simp; omega) | (simp; done)) _) | (with_reducible refine Below.drew ?_) | (with_reducible refine belowN ?_ _) | assumption | exact Below.refl _ _ | (refine Below.alloc ?_ (by first | omega | (simp; omega) | (simp; done)) _) | (refine Below.drew ?_) | (refine belowN ?_ _) | (refine Below.setCell ?_ (by first | omega | (simp; omega) | (simp; done)) _)))
  clear hC; have hC := hC2; clear hC2
  have bt_ := bt.alloc (.cells #[.int .i64 0, .int .i64 1, .int .i64 2, .int .i64 1] 34); clear bt; have bt := bt_; clear bt_
  have bo_ := bo.alloc (.cells #[.int .i64 0, .int .i64 1, .int .i64 2, .int .i64 1] 34); clear bo; have bo := bo_; clear bo_
  have hx_ := (RS.below hx (w' := (w4.alloc (.cells #[.int .i64 0, .int .i64 1, .int .i64 2, .int .i64 1] 34))) (by (repeat (first | with_reducible assumption | with_reducible exact Below.refl _ _ | (with_reducible refine Below.setCell ?_ (by first | omega | (simp; omega) | (simp; done)) _) | (with_reducible refine Below.alloc ?_ (by first | omega | (simp; omega) | (simp; done)) _) | (with_reducible refine Below.drew ?_) | (with_reducible refine belowN ?_ _) | assumption | exact Below.refl _ _ | (refine Below.alloc ?_ (by first | omega | (simp; omega) | (simp; done)) _) | (refine Below.drew ?_) | (refine belowN ?_ _) | (refine Below.setCell ?_ (by first | omega | (simp; omega) | (simp; done)) _))))).more (B' := (w4.alloc (.cells #[.int .i64 0, .int .i64 1, .int .i64 2, .int .i64 1] 34)).heap.size) (by simp); clear hx; have hx := hx_; clear hx_
  have bp_ := bp.alloc (.cells #[.int .i64 0, .int .i64 1, .int .i64 2, .int .i64 1] 34); clear bp; have bp := bp_; clear bp_
  have hy_ := (RS.below hy (w' := (w4.alloc (.cells #[.int .i64 0, .int .i64 1, .int .i64 2, .int .i64 1] 34))) (by (repeat (first | with_reducible assumption | with_reducible exact Below.refl _ _ | (with_reducible refine Below.setCell ?_ (by first | omega | (simp; omega) | (simp; done)) _) | (with_reducible refine Below.alloc ?_ (by first | omega | (simp; omega) | (simp; done)) _) | (with_reducible refine Below.drew ?_) | (with_reducible refine belowN ?_ _) | assumption | exact Below.refl _ _ | (refine Below.alloc ?_ (by first | omega | (simp; omega) | (simp; done)) _) | (refine Below.drew ?_) | (refine belowN ?_ _) | (refine Below.setCell ?_ (by first | omega | (simp; omega) | (simp; done)) _))))).more (B' := (w4.alloc (.cells #[.int .i64 0, .int .i64 1, .int .i64 2, .int .i64 1] 34)).heap.size) (by simp); clear hy; have hy := hy_; clear hy_
  have hk_ := (RS.below hk (w' := (w4.alloc (.cells #[.int .i64 0, .int .i64 1, .int .i64 2, .int .i64 1] 34))) (by (repeat (first | with_reducible assumption | with_reducible exact Below.refl _ _ | (with_reducible refine Below.setCell ?_ (by first | omega | (simp; omega) | (simp; done)) _) | (with_reducible refine Below.alloc ?_ (by first | omega | (simp; omega) | (simp; done)) _) | (with_reducible refine Below.drew ?_) | (with_reducible refine belowN ?_ _) | assumption | exact Below.refl _ _ | (refine Below.alloc ?_ (by first | omega | (simp; omega) | (simp; done)) _) | (refine Below.drew ?_) | (refine belowN ?_ _) | (refine Below.setCell ?_ (by first | omega | (simp; omega) | (simp; done)) _))))).more (B' := (w4.alloc (.cells #[.int .i64 0, .int .i64 1, .int .i64 2, .int .i64 1] 34)).heap.size) (by simp); clear hk; have hk := hk_; clear hk_
  generalize (w4.alloc (.cells #[.int .i64 0, .int .i64 1, .int .i64 2, .int .i64 1] 34)) = Wbg at *
  obtain ⟨gbg, hgbg⟩ : ∃ g, w4.heap.size = g := ⟨_, rfl⟩
  rw [hgbg] at bg
  try rw [hgbg]
  clear hgbg
  refine (groundP_any pairQ 0 vq Wbg (by decide) (HQ.out Wbg hC)).mono ?_
  rintro e w5 ⟨rfl, hb⟩
  have hC2 : Below w2_.heap.size w2_ w5 := hC.trans (hb.mono hC.size)
  clear hC; have hC := hC2; clear hC2
  have bt_ := bt.below hb bt.lt; clear bt; have bt := bt_; clear bt_
  have bo_ := bo.below hb bo.lt; clear bo; have bo := bo_; clear bo_
  have hx_ := (RS.below hx hb).more hb.size; clear hx; have hx := hx_; clear hx_
  have bp_ := bp.below hb bp.lt; clear bp; have bp := bp_; clear bp_
  have hy_ := (RS.below hy hb).more hb.size; clear hy; have hy := hy_; clear hy_
  have hk_ := (RS.below hk hb).more hb.size; clear hk; have hk := hk_; clear hk_
  have bg_ := bg.below hb bg.lt; clear bg; have bg := bg_; clear bg_
  clear hb
  rw [kn_ground0]
  go_wp2_with fail
  have bh : BK (w5.alloc (.cells #[.int .i64 0, .int .i64 1, .int .i64 0, .int .i64 1] 34)) w5.heap.size #[.int .i64 0, .int .i64 1, .int .i64 0, .int .i64 1] 34 := BK.new _ _ _
  have hC2 : Below w2_.heap.size w2_ (w5.alloc (.cells #[.int .i64 0, .int .i64 1, .int .i64 0, .int .i64 1] 34)) := by have := hC.size; (repeat (first | with_reducible assumption | with_reducible exact Below.refl _ _ | (with_reducible refine Below.setCell ?_ (by first | omega | (simp; omega) | (simp; done)) _) | (with_reducible refine Below.alloc ?_ (by first | omega | (simp; omega) | (simp; done)) _) | (with_reducible refine Below.drew ?_) | (with_reducible refine belowN ?_ _) | assumption | exact Below.refl _ _ | (refine Below.alloc ?_ (by first | omega | (simp; omega) | (simp; done)) _) | (refine Below.drew ?_) | (refine belowN ?_ _) | (refine Below.setCell ?_ (by first | omega | (simp; omega) | (simp; done)) _)))
  clear hC; have hC := hC2; clear hC2
  have bt_ := bt.alloc (.cells #[.int .i64 0, .int .i64 1, .int .i64 0, .int .i64 1] 34); clear bt; have bt := bt_; clear bt_
  have bo_ := bo.alloc (.cells #[.int .i64 0, .int .i64 1, .int .i64 0, .int .i64 1] 34); clear bo; have bo := bo_; clear bo_
  have hx_ := (RS.below hx (w' := (w5.alloc (.cells #[.int .i64 0, .int .i64 1, .int .i64 0, .int .i64 1] 34))) (by (repeat (first | with_reducible assumption | with_reducible exact Below.refl _ _ | (with_reducible refine Below.setCell ?_ (by first | omega | (simp; omega) | (simp; done)) _) | (with_reducible refine Below.alloc ?_ (by first | omega | (simp; omega) | (simp; done)) _) | (with_reducible refine Below.drew ?_) | (with_reducible refine belowN ?_ _) | assumption | exact Below.refl _ _ | (refine Below.alloc ?_ (by first | omega | (simp; omega) | (simp; done)) _) | (refine Below.drew ?_) | (refine belowN ?_ _) | (refine Below.setCell ?_ (by first | omega | (simp; omega) | (simp; done)) _))))).more (B' := (w5.alloc (.cells #[.int .i64 0, .int .i64 1, .int .i64 0, .int .i64 1] 34)).heap.size) (by simp); clear hx; have hx := hx_; clear hx_
  have bp_ := bp.alloc (.cells #[.int .i64 0, .int .i64 1, .int .i64 0, .int .i64 1] 34); clear bp; have bp := bp_; clear bp_
  have hy_ := (RS.below hy (w' := (w5.alloc (.cells #[.int .i64 0, .int .i64 1, .int .i64 0, .int .i64 1] 34))) (by (repeat (first | with_reducible assumption | with_reducible exact Below.refl _ _ | (with_reducible refine Below.setCell ?_ (by first | omega | (simp; omega) | (simp; done)) _) | (with_reducible refine Below.alloc ?_ (by first | omega | (simp; omega) | (simp; done)) _) | (with_reducible refine Below.drew ?_) | (with_reducible refine belowN ?_ _) | assumption | exact Below.refl _ _ | (refine Below.alloc ?_ (by first | omega | (simp; omega) | (simp; done)) _) | (refine Below.drew ?_) | (refine belowN ?_ _) | (refine Below.setCell ?_ (by first | omega | (simp; omega) | (simp; done)) _))))).more (B' := (w5.alloc (.cells #[.int .i64 0, .int .i64 1, .int .i64 0, .int .i64 1] 34)).heap.size) (by simp); clear hy; have hy := hy_; clear hy_
  have hk_ := (RS.below hk (w' := (w5.alloc (.cells #[.int .i64 0, .int .i64 1, .int .i64 0, .int .i64 1] 34))) (by (repeat (first | with_reducible assumption | with_reducible exact Below.refl _ _ | (with_reducible refine Below.setCell ?_ (by first | omega | (simp; omega) | (simp; done)) _) | (with_reducible refine Below.alloc ?_ (by first | omega | (simp; omega) | (simp; done)) _) | (with_reducible refine Below.drew ?_) | (with_reducible refine belowN ?_ _) | assumption | exact Below.refl _ _ | (refine Below.alloc ?_ (by first | omega | (simp; omega) | (simp; done)) _) | (refine Below.drew ?_) | (refine belowN ?_ _) | (refine Below.setCell ?_ (by first | omega | (simp; omega) | (simp; done)) _))))).more (B' := (w5.alloc (.cells #[.int .i64 0, .int .i64 1, .int .i64 0, .int .i64 1] 34)).heap.size) (by simp); clear hk; have hk := hk_; clear hk_
  have bg_ := bg.alloc (.cells #[.int .i64 0, .int .i64 1, .int .i64 0, .int .i64 1] 34); clear bg; have bg := bg_; clear bg_
  generalize (w5.alloc (.cells #[.int .i64 0, .int .i64 1, .int .i64 0, .int .i64 1] 34)) = Wbh at *
  obtain ⟨gbh, hgbh⟩ : ∃ g, w5.heap.size = g := ⟨_, rfl⟩
  rw [hgbh] at bh
  try rw [hgbh]
  clear hgbh
  have lbg := bg.lt
  have bgc0 := bg.cell 0
  have bgc1 := bg.cell 1
  have bgc2 := bg.cell 2
  have bgc3 := bg.cell 3
  simp at bgc0 bgc1 bgc2 bgc3
  have lbh := bh.lt
  have bhc0 := bh.cell 0
  have bhc1 := bh.cell 1
  have bhc2 := bh.cell 2
  have bhc3 := bh.cell 3
  simp at bhc0 bhc1 bhc2 bhc3
  refine wp_region_noPanic (plain_any [0, 1, 2, 3, 4, 5, 6, 7, 8, 9, 10, 11, 12, 13, 14, 15, 16, 17, 18, 19, 22, 23, 24, 27, 28, 29, 32, 33, 34, 36, 37, 38, 39, 41, 42, 43, 45] (Below Wbh.heap.size Wbh) mixed ?_)
  (refine any_take 0 ?_ (by rfl) (by kernel_rfl) (fun _ _ _ _ _ hx => hx.elim) (.inl ⟨by rfl, ?_⟩) (by (repeat (first | with_reducible assumption | with_reducible exact Below.refl _ _ | (with_reducible refine Below.setCell ?_ (by first | omega | (simp; omega) | (simp; done)) _) | (with_reducible refine Below.alloc ?_ (by first | omega | (simp; omega) | (simp; done)) _) | (with_reducible refine Below.drew ?_) | (with_reducible refine belowN ?_ _) | assumption | exact Below.refl _ _ | (refine Below.alloc ?_ (by first | omega | (simp; omega) | (simp; done)) _) | (refine Below.drew ?_) | (refine belowN ?_ _) | (refine Below.setCell ?_ (by first | omega | (simp; omega) | (simp; done)) _)))) ?_; rotate_left; (intro X hX; obtain ⟨r1, r2⟩ := Below.rules hX; clear hX; go_simp; rfl); simp only [List.getElem_toArray, List.getElem_cons_succ, List.getElem_cons_zero, Act.put, List.setIfInBounds_toArray, List.set_cons_succ, List.set_cons_zero])
  (refine any_take 1 ?_ (by rfl) (by kernel_rfl) (fun _ _ _ _ _ hx => hx.elim) (.inl ⟨by rfl, ?_⟩) (by (repeat (first | with_reducible assumption | with_reducible exact Below.refl _ _ | (with_reducible refine Below.setCell ?_ (by first | omega | (simp; omega) | (simp; done)) _) | (with_reducible refine Below.alloc ?_ (by first | omega | (simp; omega) | (simp; done)) _) | (with_reducible refine Below.drew ?_) | (with_reducible refine belowN ?_ _) | assumption | exact Below.refl _ _ | (refine Below.alloc ?_ (by first | omega | (simp; omega) | (simp; done)) _) | (refine Below.drew ?_) | (refine belowN ?_ _) | (refine Below.setCell ?_ (by first | omega | (simp; omega) | (simp; done)) _)))) ?_; rotate_left; (intro X hX; obtain ⟨r1, r2⟩ := Below.rules hX; clear hX; go_simp; rfl); simp only [List.getElem_toArray, List.getElem_cons_succ, List.getElem_cons_zero, Act.put, List.setIfInBounds_toArray, List.set_cons_succ, List.set_cons_zero])
  (refine any_take 2 ?_ (by rfl) (by kernel_rfl) (fun _ _ _ _ _ hx => hx.elim) (.inl ⟨by rfl, ?_⟩) (by (repeat (first | with_reducible assumption | with_reducible exact Below.refl _ _ | (with_reducible refine Below.setCell ?_ (by first | omega | (simp; omega) | (simp; done)) _) | (with_reducible refine Below.alloc ?_ (by first | omega | (simp; omega) | (simp; done)) _) | (with_reducible refine Below.drew ?_) | (with_reducible refine belowN ?_ _) | assumption | exact Below.refl _ _ | (refine Below.alloc ?_ (by first | omega | (simp; omega) | (simp; done)) _) | (refine Below.drew ?_) | (refine belowN ?_ _) | (refine Below.setCell ?_ (by first | omega | (simp; omega) | (simp; done)) _)))) ?_; rotate_left; (intro X hX; obtain ⟨r1, r2⟩ := Below.rules hX; clear hX; go_simp; rfl); simp only [List.getElem_toArray, List.getElem_cons_succ, List.getElem_cons_zero, Act.put, List.setIfInBounds_toArray, List.set_cons_succ, List.set_cons_zero])
  (refine any_take 3 ?_ (by rfl) (by kernel_rfl) (fun _ _ _ _ _ hx => hx.elim) (.inl ⟨by rfl, ?_⟩) (by (repeat (first | with_reducible assumption | with_reducible exact Below.refl _ _ | (with_reducible refine Below.setCell ?_ (by first | omega | (simp; omega) | (simp; done)) _) | (with_reducible refine Below.alloc ?_ (by first | omega | (simp; omega) | (simp; done)) _) | (with_reducible refine Below.drew ?_) | (with_reducible refine belowN ?_ _) | assumption | exact Below.refl _ _ | (refine Below.alloc ?_ (by first | omega | (simp; omega) | (simp; done)) _) | (refine Below.drew ?_) | (refine belowN ?_ _) | (refine Below.setCell ?_ (by first | omega | (simp; omega) | (simp; done)) _)))) ?_; rotate_left; (intro X hX; obtain ⟨r1, r2⟩ := Below.rules hX; clear hX; go_simp; rfl); simp only [List.getElem_toArray, List.getElem_cons_succ, List.getElem_cons_zero, Act.put, List.setIfInBounds_toArray, List.set_cons_succ, List.set_cons_zero])
  (refine any_take 4 ?_ (by rfl) (by kernel_rfl) (fun _ _ _ _ _ hx => hx.elim) (.inl ⟨by rfl, ?_⟩) (by (repeat (first | with_reducible assumption | with_reducible exact Below.refl _ _ | (with_reducible refine Below.setCell ?_ (by first | omega | (simp; omega) | (simp; done)) _) | (with_reducible refine Below.alloc ?_ (by first | omega | (simp; omega) | (simp; done)) _) | (with_reducible refine Below.drew ?_) | (with_reducible refine belowN ?_ _) | assumption | exact Below.refl _ _ | (refine Below.alloc ?_ (by first | omega | (simp; omega) | (simp; done)) _) | (refine Below.drew ?_) | (refine belowN ?_ _) | (refine Below.setCell ?_ (by first | omega | (simp; omega) | (simp; done)) _)))) ?_; rotate_left; (intro X hX; obtain ⟨r1, r2⟩ := Below.rules hX; clear hX; go_simp; rfl); simp only [List.getElem_toArray, List.getElem_cons_succ, List.getElem_cons_zero, Act.put, List.setIfInBounds_toArray, List.set_cons_succ, List.set_cons_zero])
  (refine any_take 5 ?_ (by rfl) (by kernel_rfl) (fun _ _ _ _ _ hx => hx.elim) (.inl ⟨by rfl, ?_⟩) (by (repeat (first | with_reducible assumption | with_reducible exact Below.refl _ _ | (with_reducible refine Below.setCell ?_ (by first | omega | (simp; omega) | (simp; done)) _) | (with_reducible refine Below.alloc ?_ (by first | omega | (simp; omega) | (simp; done)) _) | (with_reducible refine Below.drew ?_) | (with_reducible refine belowN ?_ _) | assumption | exact Below.refl _ _ | (refine Below.alloc ?_ (by first | omega | (simp; omega) | (simp; done)) _) | (refine Below.drew ?_) | (refine belowN ?_ _) | (refine Below.setCell ?_ (by first | omega | (simp; omega) | (simp; done)) _)))) ?_; rotate_left; (intro X hX; obtain ⟨r1, r2⟩ := Below.rules hX; clear hX; go_simp; rfl); simp only [List.getElem_toArray, List.getElem_cons_succ, List.getElem_cons_zero, Act.put, List.setIfInBounds_toArray, List.set_cons_succ, List.set_cons_zero])
  (refine any_take 6 ?_ (by rfl) (by kernel_rfl) (fun _ _ _ _ _ hx => hx.elim) (.inl ⟨by rfl, ?_⟩) (by (repeat (first | with_reducible assumption | with_reducible exact Below.refl _ _ | (with_reducible refine Below.setCell ?_ (by first | omega | (simp; omega) | (simp; done)) _) | (with_reducible refine Below.alloc ?_ (by first | omega | (simp; omega) | (simp; done)) _) | (with_reducible refine Below.drew ?_) | (with_reducible refine belowN ?_ _) | assumption | exact Below.refl _ _ | (refine Below.alloc ?_ (by first | omega | (simp; omega) | (simp; done)) _) | (refine Below.drew ?_) | (refine belowN ?_ _) | (refine Below.setCell ?_ (by first | omega | (simp; omega) | (simp; done)) _)))) ?_; rotate_left; (intro X hX; obtain ⟨r1, r2⟩ := Below.rules hX; clear hX; go_simp; rfl); simp only [List.getElem_toArray, List.getElem_cons_succ, List.getElem_cons_zero, Act.put, List.setIfInBounds_toArray, List.set_cons_succ, List.set_cons_zero])
  (refine any_take 7 ?_ (by rfl) (by kernel_rfl) (fun _ _ _ _ _ hx => hx.elim) (.inl ⟨by rfl, ?_⟩) (by (repeat (first | with_reducible assumption | with_reducible exact Below.refl _ _ | (with_reducible refine Below.setCell ?_ (by first | omega | (simp; omega) | (simp; done)) _) | (with_reducible refine Below.alloc ?_ (by first | omega | (simp; omega) | (simp; done)) _) | (with_reducible refine Below.drew ?_) | (with_reducible refine belowN ?_ _) | assumption | exact Below.refl _ _ | (refine Below.alloc ?_ (by first | omega | (simp; omega) | (simp; done)) _) | (refine Below.drew ?_) | (refine belowN ?_ _) | (refine Below.setCell ?_ (by first | omega | (simp; omega) | (simp; done)) _)))) ?_; rotate_left; (intro X hX; obtain ⟨r1, r2⟩ := Below.rules hX; clear hX; go_simp; rfl); simp only [List.getElem_toArray, List.getElem_cons_succ, List.getElem_cons_zero, Act.put, List.setIfInBounds_toArray, List.set_cons_succ, List.set_cons_zero])
  (refine any_take 8 ?_ (by rfl) (by kernel_rfl) (fun _ _ _ _ _ hx => hx.elim) (.inl ⟨by rfl, ?_⟩) (by (repeat (first | with_reducible assumption | with_reducible exact Below.refl _ _ | (with_reducible refine Below.setCell ?_ (by first | omega | (simp; omega) | (simp; done)) _) | (with_reducible refine Below.alloc ?_ (by first | omega | (simp; omega) | (simp; done)) _) | (with_reducible refine Below.drew ?_) | (with_reducible refine belowN ?_ _) | assumption | exact Below.refl _ _ | (refine Below.alloc ?_ (by first | omega | (simp; omega) | (simp; done)) _) | (refine Below.drew ?_) | (refine belowN ?_ _) | (refine Below.setCell ?_ (by first | omega | (simp; omega) | (simp; done)) _)))) ?_; rotate_left; (intro X hX; obtain ⟨r1, r2⟩ := Below.rules hX; clear hX; go_simp; rfl); simp only [List.getElem_toArray, List.getElem_cons_succ, List.getElem_cons_zero, Act.put, List.setIfInBounds_toArray, List.set_cons_succ, List.set_cons_zero])
  (refine any_take 9 ?_ (by rfl) (by kernel_rfl) (fun _ _ _ _ _ hx => hx.elim) (.inl ⟨by rfl, ?_⟩) (by (repeat (first | with_reducible assumption | with_reducible exact Below.refl _ _ | (with_reducible refine Below.setCell ?_ (by first | omega | (simp; omega) | (simp; done)) _) | (with_reducible refine Below.alloc ?_ (by first | omega | (simp; omega) | (simp; done)) _) | (with_reducible refine Below.drew ?_) | (with_reducible refine belowN ?_ _) | assumption | exact Below.refl _ _ | (refine Below.alloc ?_ (by first | omega | (simp; omega) | (simp; done)) _) | (refine Below.drew ?_) | (refine belowN ?_ _) | (refine Below.setCell ?_ (by first | omega | (simp; omega) | (simp; done)) _)))) ?_; rotate_left; (intro X hX; obtain ⟨r1, r2⟩ := Below.rules hX; clear hX; go_simp; rfl); simp only [List.getElem_toArray, List.getElem_cons_succ, List.getElem_cons_zero, Act.put, List.setIfInBounds_toArray, List.set_cons_succ, List.set_cons_zero])
  (refine any_take 10 ?_ (by rfl) (by kernel_rfl) (fun _ _ _ _ _ hx => hx.elim) (.inl ⟨by rfl, ?_⟩) (by (repeat (first | with_reducible assumption | with_reducible exact Below.refl _ _ | (with_reducible refine Below.setCell ?_ (by first | omega | (simp; omega) | (simp; done)) _) | (with_reducible refine Below.alloc ?_ (by first | omega | (simp; omega) | (simp; done)) _) | (with_reducible refine Below.drew ?_) | (with_reducible refine belowN ?_ _) | assumption | exact Below.refl _ _ | (refine Below.alloc ?_ (by first | omega | (simp; omega) | (simp; done)) _) | (refine Below.drew ?_) | (refine belowN ?_ _) | (refine Below.setCell ?_ (by first | omega | (simp; omega) | (simp; done)) _)))) ?_; rotate_left; (intro X hX; obtain ⟨r1, r2⟩ := Below.rules hX; clear hX; go_simp; rfl); simp only [List.getElem_toArray, List.getElem_cons_succ, List.getElem_cons_zero, Act.put, List.setIfInBounds_toArray, List.set_cons_succ, List.set_cons_zero])
  (refine any_take 11 ?_ (by rfl) (by kernel_rfl) (fun _ _ _ _ _ hx => hx.elim) (.inl ⟨by rfl, ?_⟩) (by (repeat (first | with_reducible assumption | with_reducible exact Below.refl _ _ | (with_reducible refine Below.setCell ?_ (by first | omega | (simp; omega) | (simp; done)) _) | (with_reducible refine Below.alloc ?_ (by first | omega | (simp; omega) | (simp; done)) _) | (with_reducible refine Below.drew ?_) | (with_reducible refine belowN ?_ _) | assumption | exact Below.refl _ _ | (refine Below.alloc ?_ (by first | omega | (simp; omega) | (simp; done)) _) | (refine Below.drew ?_) | (refine belowN ?_ _) | (refine Below.setCell ?_ (by first | omega | (simp; omega) | (simp; done)) _)))) ?_; rotate_left; (intro X hX; obtain ⟨r1, r2⟩ := Below.rules hX; clear hX; go_simp; rfl); simp only [List.getElem_toArray, List.getElem_cons_succ, List.getElem_cons_zero, Act.put, List.setIfInBounds_toArray, List.set_cons_succ, List.set_cons_zero])
  (refine any_take 12 ?_ (by rfl) (by kernel_rfl) (fun _ _ _ _ _ hx => hx.elim) (.inl ⟨by rfl, ?_⟩) (by (repeat (first | with_reducible assumption | with_reducible exact Below.refl _ _ | (with_reducible refine Below.setCell ?_ (by first | omega | (simp; omega) | (simp; done)) _) | (with_reducible refine Below.alloc ?_ (by first | omega | (simp; omega) | (simp; done)) _) | (with_reducible refine Below.drew ?_) | (with_reducible refine belowN ?_ _) | assumption | exact Below.refl _ _ | (refine Below.alloc ?_ (by first | omega | (simp; omega) | (simp; done)) _) | (refine Below.drew ?_) | (refine belowN ?_ _) | (refine Below.setCell ?_ (by first | omega | (simp; omega) | (simp; done)) _)))) ?_; rotate_left; (intro X hX; obtain ⟨r1, r2⟩ := Below.rules hX; clear hX; go_simp; rfl); simp only [List.getElem_toArray, List.getElem_cons_succ, List.getElem_cons_zero, Act.put, List.setIfInBounds_toArray, List.set_cons_succ, List.set_cons_zero])
  (refine any_take 13 ?_ (by rfl) (by kernel_rfl) (fun _ _ _ _ _ hx => hx.elim) (.inl ⟨by rfl, ?_⟩) (by (repeat (first | with_reducible assumption | with_reducible exact Below.refl _ _ | (with_reducible refine Below.setCell ?_ (by first | omega | (simp; omega) | (simp; done)) _) | (with_reducible refine Below.alloc ?_ (by first | omega | (simp; omega) | (simp; done)) _) | (with_reducible refine Below.drew ?_) | (with_reducible refine belowN ?_ _) | assumption | exact Below.refl _ _ | (refine Below.alloc ?_ (by first | omega | (simp; omega) | (simp; done)) _) | (refine Below.drew ?_) | (refine belowN ?_ _) | (refine Below.setCell ?_ (by first | omega | (simp; omega) | (simp; done)) _)))) ?_; rotate_left; (intro X hX; obtain ⟨r1, r2⟩ := Below.rules hX; clear hX; go_simp; rfl); simp only [List.getElem_toArray, List.getElem_cons_succ, List.getElem_cons_zero, Act.put, List.setIfInBounds_toArray, List.set_cons_succ, List.set_cons_zero])
  (refine any_take 14 ?_ (by rfl) (by kernel_rfl) (fun _ _ _ _ _ hx => hx.elim) (.inl ⟨by rfl, ?_⟩) (by (repeat (first | with_reducible assumption | with_reducible exact Below.refl _ _ | (with_reducible refine Below.setCell ?_ (by first | omega | (simp; omega) | (simp; done)) _) | (with_reducible refine Below.alloc ?_ (by first | omega | (simp; omega) | (simp; done)) _) | (with_reducible refine Below.drew ?_) | (with_reducible refine belowN ?_ _) | assumption | exact Below.refl _ _ | (refine Below.alloc ?_ (by first | omega | (simp; omega) | (simp; done)) _) | (refine Below.drew ?_) | (refine belowN ?_ _) | (refine Below.setCell ?_ (by first | omega | (simp; omega) | (simp; done)) _)))) ?_; rotate_left; (intro X hX; obtain ⟨r1, r2⟩ := Below.rules hX; clear hX; go_simp; rfl); simp only [List.getElem_toArray, List.getElem_cons_succ, List.getElem_cons_zero, Act.put, List.setIfInBounds_toArray, List.set_cons_succ, List.set_cons_zero])
  (refine any_take 15 ?_ (by rfl) (by kernel_rfl) (fun _ _ _ _ _ hx => hx.elim) (.inl ⟨by rfl, ?_⟩) (by (repeat (first | with_reducible assumption | with_reducible exact Below.refl _ _ | (with_reducible refine Below.setCell ?_ (by first | omega | (simp; omega) | (simp; done)) _) | (with_reducible refine Below.alloc ?_ (by first | omega | (simp; omega) | (simp; done)) _) | (with_reducible refine Below.drew ?_) | (with_reducible refine belowN ?_ _) | assumption | exact Below.refl _ _ | (refine Below.alloc ?_ (by first | omega | (simp; omega) | (simp; done)) _) | (refine Below.drew ?_) | (refine belowN ?_ _) | (refine Below.setCell ?_ (by first | omega | (simp; omega) | (simp; done)) _)))) ?_; rotate_left; (intro X hX; obtain ⟨r1, r2⟩ := Below.rules hX; clear hX; go_simp; rfl); simp only [List.getElem_toArray, List.getElem_cons_succ, List.getElem_cons_zero, Act.put, List.setIfInBounds_toArray, List.set_cons_succ, List.set_cons_zero])
  (refine any_take 16 ?_ (by rfl) (by kernel_rfl) (fun _ _ _ _ _ hx => hx.elim) (.inl ⟨by rfl, ?_⟩) (by (repeat (first | with_reducible assumption | with_reducible exact Below.refl _ _ | (with_reducible refine Below.setCell ?_ (by first | omega | (simp; omega) | (simp; done)) _) | (with_reducible refine Below.alloc ?_ (by first | omega | (simp; omega) | (simp; done)) _) | (with_reducible refine Below.drew ?_) | (with_reducible refine belowN ?_ _) | assumption | exact Below.refl _ _ | (refine Below.alloc ?_ (by first | omega | (simp; omega) | (simp; done)) _) | (refine Below.drew ?_) | (refine belowN ?_ _) | (refine Below.setCell ?_ (by first | omega | (simp; omega) | (simp; done)) _)))) ?_; rotate_left; (intro X hX; obtain ⟨r1, r2⟩ := Below.rules hX; clear hX; go_simp; rfl); simp only [List.getElem_toArray, List.getElem_cons_succ, List.getElem_cons_zero, Act.put, List.setIfInBounds_toArray, List.set_cons_succ, List.set_cons_zero])
  (refine any_take 17 ?_ (by rfl) (by kernel_rfl) (fun _ _ _ _ _ hx => hx.elim) (.inl ⟨by rfl, ?_⟩) (by (repeat (first | with_reducible assumption | with_reducible exact Below.refl _ _ | (with_reducible refine Below.setCell ?_ (by first | omega | (simp; omega) | (simp; done)) _) | (with_reducible refine Below.alloc ?_ (by first | omega | (simp; omega) | (simp; done)) _) | (with_reducible refine Below.drew ?_) | (with_reducible refine belowN ?_ _) | assumption | exact Below.refl _ _ | (refine Below.alloc ?_ (by first | omega | (simp; omega) | (simp; done)) _) | (refine Below.drew ?_) | (refine belowN ?_ _) | (refine Below.setCell ?_ (by first | omega | (simp; omega) | (simp; done)) _)))) ?_; rotate_left; (intro X hX; obtain ⟨r1, r2⟩ := Below.rules hX; clear hX; go_simp; rfl); simp only [List.getElem_toArray, List.getElem_cons_succ, List.getElem_cons_zero, Act.put, List.setIfInBounds_toArray, List.set_cons_succ, List.set_cons_zero])
  (refine any_take 18 ?_ (by rfl) (by kernel_rfl) (fun _ _ _ _ _ hx => hx.elim) (.inl ⟨by rfl, ?_⟩) (by (repeat (first | with_reducible assumption | with_reducible exact Below.refl _ _ | (with_reducible refine Below.setCell ?_ (by first | omega | (simp; omega) | (simp; done)) _) | (with_reducible refine Below.alloc ?_ (by first | omega | (simp; omega) | (simp; done)) _) | (with_reducible refine Below.drew ?_) | (with_reducible refine belowN ?_ _) | assumption | exact Below.refl _ _ | (refine Below.alloc ?_ (by first | omega | (simp; omega) | (simp; done)) _) | (refine Below.drew ?_) | (refine belowN ?_ _) | (refine Below.setCell ?_ (by first | omega | (simp; omega) | (simp; done)) _)))) ?_; rotate_left; (intro X hX; obtain ⟨r1, r2⟩ := Below.rules hX; clear hX; go_simp; rfl); simp only [List.getElem_toArray, List.getElem_cons_succ, List.getElem_cons_zero, Act.put, List.setIfInBounds_toArray, List.set_cons_succ, List.set_cons_zero])
  (refine any_take 19 ?_ (by rfl) (by kernel_rfl) (fun _ _ _ _ _ hx => hx.elim) (.inl ⟨by rfl, ?_⟩) (by (repeat (first | with_reducible assumption | with_reducible exact Below.refl _ _ | (with_reducible refine Below.setCell ?_ (by first | omega | (simp; omega) | (simp; done)) _) | (with_reducible refine Below.alloc ?_ (by first | omega | (simp; omega) | (simp; done)) _) | (with_reducible refine Below.drew ?_) | (with_reducible refine belowN ?_ _) | assumption | exact Below.refl _ _ | (refine Below.alloc ?_ (by first | omega | (simp; omega) | (simp; done)) _) | (refine Below.drew ?_) | (refine belowN ?_ _) | (refine Below.setCell ?_ (by first | omega | (simp; omega) | (simp; done)) _)))) ?_; rotate_left; (intro X hX; obtain ⟨r1, r2⟩ := Below.rules hX; clear hX; go_simp; rfl); simp only [List.getElem_toArray, List.getElem_cons_succ, List.getElem_cons_zero, Act.put, List.setIfInBounds_toArray, List.set_cons_succ, List.set_cons_zero])
  have d0z : Below Wbh.heap.size Wbh Wbh.drew := by (repeat (first | with_reducible assumption | with_reducible exact Below.refl _ _ | (with_reducible refine Below.setCell ?_ (by first | omega | (simp; omega) | (simp; done)) _) | (with_reducible refine Below.alloc ?_ (by first | omega | (simp; omega) | (simp; done)) _) | (with_reducible refine Below.drew ?_) | (with_reducible refine belowN ?_ _) | assumption | exact Below.refl _ _ | (refine Below.alloc ?_ (by first | omega | (simp; omega) | (simp; done)) _) | (refine Below.drew ?_) | (refine belowN ?_ _) | (refine Below.setCell ?_ (by first | omega | (simp; omega) | (simp; done)) _)))
  have qz1 := d0z.size
  have ez1 : Below Wbh.heap.size Wbh (Wbh.drew.alloc (.cells #[.int .i64 1] 3)) := by (repeat (first | with_reducible assumption | with_reducible exact Below.refl _ _ | (with_reducible refine Below.setCell ?_ (by first | omega | (simp; omega) | (simp; done)) _) | (with_reducible refine Below.alloc ?_ (by first | omega | (simp; omega) | (simp; done)) _) | (with_reducible refine Below.drew ?_) | (with_reducible refine belowN ?_ _) | assumption | exact Below.refl _ _ | (refine Below.alloc ?_ (by first | omega | (simp; omega) | (simp; done)) _) | (refine Below.drew ?_) | (refine belowN ?_ _) | (refine Below.setCell ?_ (by first | omega | (simp; omega) | (simp; done)) _)))
  refine any_run1 (i := 20) (by kernel_rfl) (by rfl) (by kernel_rfl) ?_
  intro K hK
  go_wp2_with fail
  refine hK _ _ (fun _ => ez1) ?_
  clear hK K
  have qz2 := ez1.size
  refine any_run1 (i := 21) (by kernel_rfl) (by rfl) (by kernel_rfl) ?_
  intro K hK
  go_wp2_with fail
  refine (ints_same [1] vx _ _ (by decide) ((RS.below hx ez1).more ez1.size) (ri_new (BK.new _ _ _) (by simp [ofI]) 1 rfl)).mono ?_
  rintro e vz2 ⟨rfl, hb⟩
  have ez2 : Below Wbh.heap.size Wbh vz2 := ez1.trans (hb.mono ez1.size)
  clear hb
  refine hK _ _ (fun _ => ez2) ?_
  clear hK K
  (refine any_take 22 ?_ (by rfl) (by kernel_rfl) (fun _ _ _ _ _ hx => hx.elim) (.inl ⟨by rfl, ?_⟩) (by (repeat (first | with_reducible assumption | with_reducible exact Below.refl _ _ | (with_reducible refine Below.setCell ?_ (by first | omega | (simp; omega) | (simp; done)) _) | (with_reducible refine Below.alloc ?_ (by first | omega | (simp; omega) | (simp; done)) _) | (with_reducible refine Below.drew ?_) | (with_reducible refine belowN ?_ _) | assumption | exact Below.refl _ _ | (refine Below.alloc ?_ (by first | omega | (simp; omega) | (simp; done)) _) | (refine Below.drew ?_) | (refine belowN ?_ _) | (refine Below.setCell ?_ (by first | omega | (simp; omega) | (simp; done)) _)))) ?_; rotate_left; (intro X hX; obtain ⟨r1, r2⟩ := Below.rules hX; clear hX; go_simp; rfl); simp only [List.getElem_toArray, List.getElem_cons_succ, List.getElem_cons_zero, Act.put, List.setIfInBounds_toArray, List.set_cons_succ, List.set_cons_zero])
  (refine any_take 23 ?_ (by rfl) (by kernel_rfl) (fun _ _ _ _ _ hx => hx.elim) (.inl ⟨by rfl, ?_⟩) (by (repeat (first | with_reducible assumption | with_reducible exact Below.refl _ _ | (with_reducible refine Below.setCell ?_ (by first | omega | (simp; omega) | (simp; done)) _) | (with_reducible refine Below.alloc ?_ (by first | omega | (simp; omega) | (simp; done)) _) | (with_reducible refine Below.drew ?_) | (with_reducible refine belowN ?_ _) | assumption | exact Below.refl _ _ | (refine Below.alloc ?_ (by first | omega | (simp; omega) | (simp; done)) _) | (refine Below.drew ?_) | (refine belowN ?_ _) | (refine Below.setCell ?_ (by first | omega | (simp; omega) | (simp; done)) _)))) ?_; rotate_left; (intro X hX; obtain ⟨r1, r2⟩ := Below.rules hX; clear hX; go_simp; rfl); simp only [List.getElem_toArray, List.getElem_cons_succ, List.getElem_cons_zero, Act.put, List.setIfInBounds_toArray, List.set_cons_succ, List.set_cons_zero])
  (refine any_take 24 ?_ (by rfl) (by kernel_rfl) (fun _ _ _ _ _ hx => hx.elim) (.inl ⟨by rfl, ?_⟩) (by (repeat (first | with_reducible assumption | with_reducible exact Below.refl _ _ | (with_reducible refine Below.setCell ?_ (by first | omega | (simp; omega) | (simp; done)) _) | (with_reducible refine Below.alloc ?_ (by first | omega | (simp; omega) | (simp; done)) _) | (with_reducible refine Below.drew ?_) | (with_reducible refine belowN ?_ _) | assumption | exact Below.refl _ _ | (refine Below.alloc ?_ (by first | omega | (simp; omega) | (simp; done)) _) | (refine Below.drew ?_) | (refine belowN ?_ _) | (refine Below.setCell ?_ (by first | omega | (simp; omega) | (simp; done)) _)))) ?_; rotate_left; (intro X hX; obtain ⟨r1, r2⟩ := Below.rules hX; clear hX; go_simp; rfl); simp only [List.getElem_toArray, List.getElem_cons_succ, List.getElem_cons_zero, Act.put, List.setIfInBounds_toArray, List.set_cons_succ, List.set_cons_zero])
  have qz3 := ez2.size
  have ez3 : Below Wbh.heap.size Wbh (vz2.alloc (.cells #[.int .i64 3] 3)) := by (repeat (first | with_reducible assumption | with_reducible exact Below.refl _ _ | (with_reducible refine Below.setCell ?_ (by first | omega | (simp; omega) | (simp; done)) _) | (with_reducible refine Below.alloc ?_ (by first | omega | (simp; omega) | (simp; done)) _) | (with_reducible refine Below.drew ?_) | (with_reducible refine belowN ?_ _) | assumption | exact Below.refl _ _ | (refine Below.alloc ?_ (by first | omega | (simp; omega) | (simp; done)) _) | (refine Below.drew ?_) | (refine belowN ?_ _) | (refine Below.setCell ?_ (by first | omega | (simp; omega) | (simp; done)) _)))
  refine any_run1 (i := 25) (by kernel_rfl) (by rfl) (by kernel_rfl) ?_
  intro K hK
  go_wp2_with fail
  refine hK _ _ (fun _ => ez3) ?_
  clear hK K
  have qz4 := ez3.size
  refine any_run1 (i := 26) (by kernel_rfl) (by rfl) (by kernel_rfl) ?_
  intro K hK
  go_wp2_with fail
  refine (ints_same [3] vy _ _ (by decide) ((RS.below hy ez3).more ez3.size) (ri_new (BK.new _ _ _) (by simp [ofI]) 1 rfl)).mono ?_
  rintro e vz4 ⟨rfl, hb⟩
  have ez4 : Below Wbh.heap.size Wbh vz4 := ez3.trans (hb.mono ez3.size)
  clear hb
  refine hK _ _ (fun _ => ez4) ?_
  clear hK K
  (refine any_take 27 ?_ (by rfl) (by kernel_rfl) (fun _ _ _ _ _ hx => hx.elim) (.inl ⟨by rfl, ?_⟩) (by (repeat (first | with_reducible assumption | with_reducible exact Below.refl _ _ | (with_reducible refine Below.setCell ?_ (by first | omega | (simp; omega) | (simp; done)) _) | (with_reducible refine Below.alloc ?_ (by first | omega | (simp; omega) | (simp; done)) _) | (with_reducible refine Below.drew ?_) | (with_reducible refine belowN ?_ _) | assumption | exact Below.refl _ _ | (refine Below.alloc ?_ (by first | omega | (simp; omega) | (simp; done)) _) | (refine Below.drew ?_) | (refine belowN ?_ _) | (refine Below.setCell ?_ (by first | omega | (simp; omega) | (simp; done)) _)))) ?_; rotate_left; (intro X hX; obtain ⟨r1, r2⟩ := Below.rules hX; clear hX; go_simp; rfl); simp only [List.getElem_toArray, List.getElem_cons_succ, List.getElem_cons_zero, Act.put, List.setIfInBounds_toArray, List.set_cons_succ, List.set_cons_zero])
  (refine any_take 28 ?_ (by rfl) (by kernel_rfl) (fun _ _ _ _ _ hx => hx.elim) (.inl ⟨by rfl, ?_⟩) (by (repeat (first | with_reducible assumption | with_reducible exact Below.refl _ _ | (with_reducible refine Below.setCell ?_ (by first | omega | (simp; omega) | (simp; done)) _) | (with_reducible refine Below.alloc ?_ (by first | omega | (simp; omega) | (simp; done)) _) | (with_reducible refine Below.drew ?_) | (with_reducible refine belowN ?_ _) | assumption | exact Below.refl _ _ | (refine Below.alloc ?_ (by first | omega | (simp; omega) | (simp; done)) _) | (refine Below.drew ?_) | (refine belowN ?_ _) | (refine Below.setCell ?_ (by first | omega | (simp; omega) | (simp; done)) _)))) ?_; rotate_left; (intro X hX; obtain ⟨r1, r2⟩ := Below.rules hX; clear hX; go_simp; rfl); simp only [List.getElem_toArray, List.getElem_cons_succ, List.getElem_cons_zero, Act.put, List.setIfInBounds_toArray, List.set_cons_succ, List.set_cons_zero])
  (refine any_take 29 ?_ (by rfl) (by kernel_rfl) (fun _ _ _ _ _ hx => hx.elim) (.inl ⟨by rfl, ?_⟩) (by (repeat (first | with_reducible assumption | with_reducible exact Below.refl _ _ | (with_reducible refine Below.setCell ?_ (by first | omega | (simp; omega) | (simp; done)) _) | (with_reducible refine Below.alloc ?_ (by first | omega | (simp; omega) | (simp; done)) _) | (with_reducible refine Below.drew ?_) | (with_reducible refine belowN ?_ _) | assumption | exact Below.refl _ _ | (refine Below.alloc ?_ (by first | omega | (simp; omega) | (simp; done)) _) | (refine Below.drew ?_) | (refine belowN ?_ _) | (refine Below.setCell ?_ (by first | omega | (simp; omega) | (simp; done)) _)))) ?_; rotate_left; (intro X hX; obtain ⟨r1, r2⟩ := Below.rules hX; clear hX; go_simp; rfl); simp only [List.getElem_toArray, List.getElem_cons_succ, List.getElem_cons_zero, Act.put, List.setIfInBounds_toArray, List.set_cons_succ, List.set_cons_zero])
  have qz5 := ez4.size
  have ez5 : Below Wbh.heap.size Wbh (vz4.alloc (.cells #[.int .i64 2, .int .i64 0, .int .i64 2, .int .i64 2] 3)) := by (repeat (first | with_reducible assumption | with_reducible exact Below.refl _ _ | (with_reducible refine Below.setCell ?_ (by first | omega | (simp; omega) | (simp; done)) _) | (with_reducible refine Below.alloc ?_ (by first | omega | (simp; omega) | (simp; done)) _) | (with_reducible refine Below.drew ?_) | (with_reducible refine belowN ?_ _) | assumption | exact Below.refl _ _ | (refine Below.alloc ?_ (by first | omega | (simp; omega) | (simp; done)) _) | (refine Below.drew ?_) | (refine belowN ?_ _) | (refine Below.setCell ?_ (by first | omega | (simp; omega) | (simp; done)) _)))
  refine any_run1 (i := 30) (by kernel_rfl) (by rfl) (by kernel_rfl) ?_
  intro K hK
  go_wp2_with fail
  refine hK _ _ (fun _ => ez5) ?_
  clear hK K
  have qz6 := ez5.size
  refine any_run1 (i := 31) (by kernel_rfl) (by rfl) (by kernel_rfl) ?_
  intro K hK
  go_wp2_with fail
  refine (ints_same [2, 0, 2, 2] vk _ _ (by decide) ((RS.below hk ez5).more ez5.size) (ri_new (BK.new _ _ _) (by simp [ofI]) 4 rfl)).mono ?_
  rintro e vz6 ⟨rfl, hb⟩
  have ez6 : Below Wbh.heap.size Wbh vz6 := ez5.trans (hb.mono ez5.size)
  clear hb
  refine hK _ _ (fun _ => ez6) ?_
  clear hK K
  (refine any_take 32 ?_ (by rfl) (by kernel_rfl) (fun _ _ _ _ _ hx => hx.elim) (.inl ⟨by rfl, ?_⟩) (by (repeat (first | with_reducible assumption | with_reducible exact Below.refl _ _ | (with_reducible refine Below.setCell ?_ (by first | omega | (simp; omega) | (simp; done)) _) | (with_reducible refine Below.alloc ?_ (by first | omega | (simp; omega) | (simp; done)) _) | (with_reducible refine Below.drew ?_) | (with_reducible refine belowN ?_ _) | assumption | exact Below.refl _ _ | (refine Below.alloc ?_ (by first | omega | (simp; omega) | (simp; done)) _) | (refine Below.drew ?_) | (refine belowN ?_ _) | (refine Below.setCell ?_ (by first | omega | (simp; omega) | (simp; done)) _)))) ?_; rotate_left; (intro X hX; obtain ⟨r1, r2⟩ := Below.rules hX; clear hX; go_simp; rfl); simp only [List.getElem_toArray, List.getElem_cons_succ, List.getElem_cons_zero, Act.put, List.setIfInBounds_toArray, List.set_cons_succ, List.set_cons_zero])
  (refine any_take 33 ?_ (by rfl) (by kernel_rfl) (fun _ _ _ _ _ hx => hx.elim) (.inl ⟨by rfl, ?_⟩) (by (repeat (first | with_reducible assumption | with_reducible exact Below.refl _ _ | (with_reducible refine Below.setCell ?_ (by first | omega | (simp; omega) | (simp; done)) _) | (with_reducible refine Below.alloc ?_ (by first | omega | (simp; omega) | (simp; done)) _) | (with_reducible refine Below.drew ?_) | (with_reducible refine belowN ?_ _) | assumption | exact Below.refl _ _ | (refine Below.alloc ?_ (by first | omega | (simp; omega) | (simp; done)) _) | (refine Below.drew ?_) | (refine belowN ?_ _) | (refine Below.setCell ?_ (by first | omega | (simp; omega) | (simp; done)) _)))) ?_; rotate_left; (intro X hX; obtain ⟨r1, r2⟩ := Below.rules hX; clear hX; go_simp; rfl); simp only [List.getElem_toArray, List.getElem_cons_succ, List.getElem_cons_zero, Act.put, List.setIfInBounds_toArray, List.set_cons_succ, List.set_cons_zero])
  (refine any_take 34 ?_ (by rfl) (by kernel_rfl) (fun _ _ _ _ _ hx => hx.elim) (.inl ⟨by rfl, ?_⟩) (by (repeat (first | with_reducible assumption | with_reducible exact Below.refl _ _ | (with_reducible refine Below.setCell ?_ (by first | omega | (simp; omega) | (simp; done)) _) | (with_reducible refine Below.alloc ?_ (by first | omega | (simp; omega) | (simp; done)) _) | (with_reducible refine Below.drew ?_) | (with_reducible refine belowN ?_ _) | assumption | exact Below.refl _ _ | (refine Below.alloc ?_ (by first | omega | (simp; omega) | (simp; done)) _) | (refine Below.drew ?_) | (refine belowN ?_ _) | (refine Below.setCell ?_ (by first | omega | (simp; omega) | (simp; done)) _)))) ?_; rotate_left; (intro X hX; obtain ⟨r1, r2⟩ := Below.rules hX; clear hX; go_simp; rfl); simp only [List.getElem_toArray, List.getElem_cons_succ, List.getElem_cons_zero, Act.put, List.setIfInBounds_toArray, List.set_cons_succ, List.set_cons_zero])
  have qz7 := ez6.size
  refine any_run1 (i := 35) (by kernel_rfl) (by rfl) (by kernel_rfl) ?_
  intro K hK
  go_wp2_with fail
  refine (lawSpan_any 0 1 2 1 _).mono ?_
  rintro e vz7 ⟨rfl, hb⟩
  have ez7 : Below Wbh.heap.size Wbh vz7 := by rw [← hb]; (repeat (first | with_reducible assumption | with_reducible exact Below.refl _ _ | (with_reducible refine Below.setCell ?_ (by first | omega | (simp; omega) | (simp; done)) _) | (with_reducible refine Below.alloc ?_ (by first | omega | (simp; omega) | (simp; done)) _) | (with_reducible refine Below.drew ?_) | (with_reducible refine belowN ?_ _) | assumption | exact Below.refl _ _ | (refine Below.alloc ?_ (by first | omega | (simp; omega) | (simp; done)) _) | (refine Below.drew ?_) | (refine belowN ?_ _) | (refine Below.setCell ?_ (by first | omega | (simp; omega) | (simp; done)) _)))
  clear hb
  refine hK _ _ (fun _ => ez7) ?_
  clear hK K
  (refine any_take 36 ?_ (by rfl) (by kernel_rfl) (fun _ _ _ _ _ hx => hx.elim) (.inl ⟨by rfl, ?_⟩) (by (repeat (first | with_reducible assumption | with_reducible exact Below.refl _ _ | (with_reducible refine Below.setCell ?_ (by first | omega | (simp; omega) | (simp; done)) _) | (with_reducible refine Below.alloc ?_ (by first | omega | (simp; omega) | (simp; done)) _) | (with_reducible refine Below.drew ?_) | (with_reducible refine belowN ?_ _) | assumption | exact Below.refl _ _ | (refine Below.alloc ?_ (by first | omega | (simp; omega) | (simp; done)) _) | (refine Below.drew ?_) | (refine belowN ?_ _) | (refine Below.setCell ?_ (by first | omega | (simp; omega) | (simp; done)) _)))) ?_; rotate_left; (intro X hX; obtain ⟨r1, r2⟩ := Below.rules hX; clear hX; go_simp; rfl); simp only [List.getElem_toArray, List.getElem_cons_succ, List.getElem_cons_zero, Act.put, List.setIfInBounds_toArray, List.set_cons_succ, List.set_cons_zero])
  (refine any_take 37 ?_ (by rfl) (by kernel_rfl) (fun _ _ _ _ _ hx => hx.elim) (.inl ⟨by rfl, ?_⟩) (by (repeat (first | with_reducible assumption | with_reducible exact Below.refl _ _ | (with_reducible refine Below.setCell ?_ (by first | omega | (simp; omega) | (simp; done)) _) | (with_reducible refine Below.alloc ?_ (by first | omega | (simp; omega) | (simp; done)) _) | (with_reducible refine Below.drew ?_) | (with_reducible refine belowN ?_ _) | assumption | exact Below.refl _ _ | (refine Below.alloc ?_ (by first | omega | (simp; omega) | (simp; done)) _) | (refine Below.drew ?_) | (refine belowN ?_ _) | (refine Below.setCell ?_ (by first | omega | (simp; omega) | (simp; done)) _)))) ?_; rotate_left; (intro X hX; obtain ⟨r1, r2⟩ := Below.rules hX; clear hX; go_simp; rfl); simp only [List.getElem_toArray, List.getElem_cons_succ, List.getElem_cons_zero, Act.put, List.setIfInBounds_toArray, List.set_cons_succ, List.set_cons_zero])
  (refine any_take 38 ?_ (by rfl) (by kernel_rfl) (fun _ _ _ _ _ hx => hx.elim) (.inl ⟨by rfl, ?_⟩) (by (repeat (first | with_reducible assumption | with_reducible exact Below.refl _ _ | (with_reducible refine Below.setCell ?_ (by first | omega | (simp; omega) | (simp; done)) _) | (with_reducible refine Below.alloc ?_ (by first | omega | (simp; omega) | (simp; done)) _) | (with_reducible refine Below.drew ?_) | (with_reducible refine belowN ?_ _) | assumption | exact Below.refl _ _ | (refine Below.alloc ?_ (by first | omega | (simp; omega) | (simp; done)) _) | (refine Below.drew ?_) | (refine belowN ?_ _) | (refine Below.setCell ?_ (by first | omega | (simp; omega) | (simp; done)) _)))) ?_; rotate_left; (intro X hX; obtain ⟨r1, r2⟩ := Below.rules hX; clear hX; go_simp; rfl); simp only [List.getElem_toArray, List.getElem_cons_succ, List.getElem_cons_zero, Act.put, List.setIfInBounds_toArray, List.set_cons_succ, List.set_cons_zero])
  (refine any_take 39 ?_ (by rfl) (by kernel_rfl) (fun _ _ _ _ _ hx => hx.elim) (.inl ⟨by rfl, ?_⟩) (by (repeat (first | with_reducible assumption | with_reducible exact Below.refl _ _ | (with_reducible refine Below.setCell ?_ (by first | omega | (simp; omega) | (simp; done)) _) | (with_reducible refine Below.alloc ?_ (by first | omega | (simp; omega) | (simp; done)) _) | (with_reducible refine Below.drew ?_) | (with_reducible refine belowN ?_ _) | assumption | exact Below.refl _ _ | (refine Below.alloc ?_ (by first | omega | (simp; omega) | (simp; done)) _) | (refine Below.drew ?_) | (refine belowN ?_ _) | (refine Below.setCell ?_ (by first | omega | (simp; omega) | (simp; done)) _)))) ?_; rotate_left; (intro X hX; obtain ⟨r1, r2⟩ := Below.rules hX; clear hX; go_simp; rfl); simp only [List.getElem_toArray, List.getElem_cons_succ, List.getElem_cons_zero, Act.put, List.setIfInBounds_toArray, List.set_cons_succ, List.set_cons_zero])
  have qz8 := ez7.size
  refine any_run1 (i := 40) (by kernel_rfl) (by rfl) (by kernel_rfl) ?_
  intro K hK
  go_wp2_with fail
  refine (lawSpan_any 0 1 0 1 _).mono ?_
  rintro e vz8 ⟨rfl, hb⟩
  have ez8 : Below Wbh.heap.size Wbh vz8 := by rw [← hb]; (repeat (first | with_reducible assumption | with_reducible exact Below.refl _ _ | (with_reducible refine Below.setCell ?_ (by first | omega | (simp; omega) | (simp; done)) _) | (with_reducible refine Below.alloc ?_ (by first | omega | (simp; omega) | (simp; done)) _) | (with_reducible refine Below.drew ?_) | (with_reducible refine belowN ?_ _) | assumption | exact Below.refl _ _ | (refine Below.alloc ?_ (by first | omega | (simp; omega) | (simp; done)) _) | (refine Below.drew ?_) | (refine belowN ?_ _) | (refine Below.setCell ?_ (by first | omega | (simp; omega) | (simp; done)) _)))
  clear hb
  refine hK _ _ (fun _ => ez8) ?_
  clear hK K
  (refine any_take 41 ?_ (by rfl) (by kernel_rfl) (fun _ _ _ _ _ hx => hx.elim) (.inl ⟨by rfl, ?_⟩) (by (repeat (first | with_reducible assumption | with_reducible exact Below.refl _ _ | (with_reducible refine Below.setCell ?_ (by first | omega | (simp; omega) | (simp; done)) _) | (with_reducible refine Below.alloc ?_ (by first | omega | (simp; omega) | (simp; done)) _) | (with_reducible refine Below.drew ?_) | (with_reducible refine belowN ?_ _) | assumption | exact Below.refl _ _ | (refine Below.alloc ?_ (by first | omega | (simp; omega) | (simp; done)) _) | (refine Below.drew ?_) | (refine belowN ?_ _) | (refine Below.setCell ?_ (by first | omega | (simp; omega) | (simp; done)) _)))) ?_; rotate_left; (intro X hX; obtain ⟨r1, r2⟩ := Below.rules hX; clear hX; go_simp; rfl); simp only [List.getElem_toArray, List.getElem_cons_succ, List.getElem_cons_zero, Act.put, List.setIfInBounds_toArray, List.set_cons_succ, List.set_cons_zero])
  (refine any_take 42 ?_ (by rfl) (by kernel_rfl) (fun _ _ _ _ _ hx => hx.elim) (.inl ⟨by rfl, ?_⟩) (by (repeat (first | with_reducible assumption | with_reducible exact Below.refl _ _ | (with_reducible refine Below.setCell ?_ (by first | omega | (simp; omega) | (simp; done)) _) | (with_reducible refine Below.alloc ?_ (by first | omega | (simp; omega) | (simp; done)) _) | (with_reducible refine Below.drew ?_) | (with_reducible refine belowN ?_ _) | assumption | exact Below.refl _ _ | (refine Below.alloc ?_ (by first | omega | (simp; omega) | (simp; done)) _) | (refine Below.drew ?_) | (refine belowN ?_ _) | (refine Below.setCell ?_ (by first | omega | (simp; omega) | (simp; done)) _)))) ?_; rotate_left; (intro X hX; obtain ⟨r1, r2⟩ := Below.rules hX; clear hX; go_simp; rfl); simp only [List.getElem_toArray, List.getElem_cons_succ, List.getElem_cons_zero, Act.put, List.setIfInBounds_toArray, List.set_cons_succ, List.set_cons_zero])
  (refine any_take 43 ?_ (by rfl) (by kernel_rfl) (fun _ _ _ _ _ hx => hx.elim) (.inl ⟨by rfl, ?_⟩) (by (repeat (first | with_reducible assumption | with_reducible exact Below.refl _ _ | (with_reducible refine Below.setCell ?_ (by first | omega | (simp; omega) | (simp; done)) _) | (with_reducible refine Below.alloc ?_ (by first | omega | (simp; omega) | (simp; done)) _) | (with_reducible refine Below.drew ?_) | (with_reducible refine belowN ?_ _) | assumption | exact Below.refl _ _ | (refine Below.alloc ?_ (by first | omega | (simp; omega) | (simp; done)) _) | (refine Below.drew ?_) | (refine belowN ?_ _) | (refine Below.setCell ?_ (by first | omega | (simp; omega) | (simp; done)) _)))) ?_; rotate_left; (intro X hX; obtain ⟨r1, r2⟩ := Below.rules hX; clear hX; go_simp; rfl); simp only [List.getElem_toArray, List.getElem_cons_succ, List.getElem_cons_zero, Act.put, List.setIfInBounds_toArray, List.set_cons_succ, List.set_cons_zero])
  have qz9 := ez8.size
  refine any_run1 (i := 44) (by kernel_rfl) (by rfl) (by kernel_rfl) ?_
  intro K hK
  go_wp2_with fail
  refine (works_any _).mono ?_
  rintro e vz9 ⟨rfl, hb⟩
  have ez9 : Below Wbh.heap.size Wbh vz9 := ez8.trans (hb.mono ez8.size)
  clear hb
  refine hK _ _ (fun _ => ez9) ?_
  clear hK K
  (refine any_take 45 ?_ (by rfl) (by kernel_rfl) (fun _ _ _ _ _ hx => hx.elim) (.inl ⟨by rfl, ?_⟩) (by (repeat (first | with_reducible assumption | with_reducible exact Below.refl _ _ | (with_reducible refine Below.setCell ?_ (by first | omega | (simp; omega) | (simp; done)) _) | (with_reducible refine Below.alloc ?_ (by first | omega | (simp; omega) | (simp; done)) _) | (with_reducible refine Below.drew ?_) | (with_reducible refine belowN ?_ _) | assumption | exact Below.refl _ _ | (refine Below.alloc ?_ (by first | omega | (simp; omega) | (simp; done)) _) | (refine Below.drew ?_) | (refine belowN ?_ _) | (refine Below.setCell ?_ (by first | omega | (simp; omega) | (simp; done)) _)))) ?_; rotate_left; (intro X hX; obtain ⟨r1, r2⟩ := Below.rules hX; clear hX; go_simp; rfl); simp only [List.getElem_toArray, List.getElem_cons_succ, List.getElem_cons_zero, Act.put, List.setIfInBounds_toArray, List.set_cons_succ, List.set_cons_zero])
  refine any_run1 (i := 46) (by kernel_rfl) (by rfl) (by kernel_rfl) ?_
  intro K hK
  go_wp2_with fail
  refine hK _ _ (fun _ => ez9) ?_
  clear hK K
  refine any_done (by kernel_rfl) (NoPanic.normal ?_)
  go_wp2_with fail
  go_ret
  exact ⟨rfl, hB2.trans ((hC.trans (ez9.mono hC.size)).mono hB2.size)⟩
theorem known_row (W : World) : Calls Try.prog 12 #[] W fun e w' => e = .returned (.bool true) ∧ Below W.heap.size W w' := known_any W
end Go.Proofs.Ytbjmkmambmeifaa

namespace Go.Proofs.Ytbjmkmambmeifaa.crossKnown
open Go.ChangeShapes Go.WideShapes Go.ChangeAt Go.RowKit Go.Deep

set_option maxRecDepth 100000 in
theorem lifted (os : Os) (started : os.Started) (H : Type) (enc : TypeId × Value → H) :
    ReturnsInHanded {} Try.checked os 12 .any (Rows.crossKnownSpec.pre6 enc Try.prog Try.f12 Rows.crossKnownRow.domain false) (Rows.crossKnownSpec.post enc Try.prog Try.f12 false true false false) := by
  refine returnsInHanded_of_change (C := Try.checked) own started (by kernel_rfl) Try.func12
    (ChangeSpec.witness6 (enc := enc) (C := Try.checked) false ⟨#[], #[], []⟩ 8 (by kernel_rfl) (by kernel_rfl) (by kernel_rfl) (by kernel_rfl)) ?_
  intro W base args ds gs before hval0 hW hcnd _
  have hval : ∀ (j : Nat) t v, Try.f12.params[j]? = some t → args[j]? = some v → Value.okWide Try.prog W .any base t v := hval0
  have hW2 : DataW.Whole enc Try.prog Try.f12.params.toList Rows.crossKnownSpec.vars false W args.toList ds gs before := hW
  obtain ⟨p, q, hA0, hV, rfl, hfz, hnd⟩ := hW
  have hA : DataW.TrodAll enc Try.prog W 0 (fun _ => true) true Try.f12.params.toList args.toList ds p := hA0
  rw [Try.params12] at hA hval
  obtain ⟨rfl, rfl, rfl⟩ := trodAll_none hA
  obtain ⟨rfl, rfl⟩ := trodVars_none hV
  refine (known_row  W).mono fun e W' ⟨he, hg⟩ => ?_
  subst he
  exact ⟨_, rfl, law_done hW2 rfl rfl rfl (by rw [Try.params12]; decide +kernel) hg⟩

theorem over : Rows.crossKnownRow.holds Try.pinned (OpenSpec.ofChange Rows.crossKnownSpec) :=
  OpenClaim.holds_of_wide 12 Try.f12 rfl rfl rfl rfl rfl rfl rfl ⟨rfl, rfl, rfl, rfl, rfl⟩ rfl rfl rfl rfl rfl (by kernel_rfl) Try.func12 (by kernel_rfl)
    (of_decide_eq_true (by kernel_rfl)) (by unfold Func.isWrapper; first | (rw [if_pos (by decide +kernel)]; kernel_rfl) | (rw [if_neg (by decide +kernel)]; exact ⟨rfl, rfl⟩))
    (fun os started H enc _ => lifted os started H enc)

theorem proved : Rows.CrossKnownSaid :=
  over
end Go.Proofs.Ytbjmkmambmeifaa.crossKnown
namespace Go.Proofs.Ytbjmkmambmeifaa
theorem crossKnown_proved : Rows.CrossKnownSaid := crossKnown.proved
#print axioms crossKnown_proved
end Go.Proofs.Ytbjmkmambmeifaa
