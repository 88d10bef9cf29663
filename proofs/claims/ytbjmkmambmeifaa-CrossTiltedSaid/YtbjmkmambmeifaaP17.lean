/- Works. -/
import Derived.Test.YtbjmkmambmeifaaP16
import Derived.Test.YtbjmkmambmeifaaP2
set_option linter.all false
set_option linter.unnecessarySimpa false
set_option linter.unusedSimpArgs false
set_option linter.unusedVariables false
set_option linter.unusedSectionVars false

namespace Go.Proofs.Ytbjmkmambmeifaa
open Go.RowKit

theorem pairQ_len : pairQ.length = 4 := rfl
theorem pairP_len : pairP.length = 4 := rfl
theorem ri_new {W : World} {g T : Nat} {l : List Int} {cs : Array Value} (hb : BK W g cs T) (hc : cs.toList = ofI l) (n : Nat) (hn : l.length = n) : RI W W.heap.size (.slice (some ⟨g, 0, none⟩) n n) l := by
  subst hn
  refine ⟨_, _, g, 0, rfl, ⟨by simp [ofI], Nat.le_refl _⟩, fun _ => ⟨rfl, hb.lt⟩, fun j hj => ?_⟩
  rw [Nat.zero_add, hb.cell, ← hc]; simp
theorem rra_new {W : World} {g T : Nat} {l : List Ra} {cs : Array Value} (hb : BK W g cs T) (hc : cs.toList = ofR l) (n : Nat) (hn : l.length = n) : RRa W W.heap.size (.slice (some ⟨g, 0, none⟩) n n) l := by
  subst hn
  refine ⟨_, _, g, 0, rfl, ⟨ofR_length l, Nat.le_refl _⟩, fun _ => ⟨rfl, hb.lt⟩, fun j hj => ?_⟩
  rw [Nat.zero_add, hb.cell, ← hc]; simp

set_option maxRecDepth 100000 in
set_option maxHeartbeats 8000000 in
theorem works_any (w : World) : Calls Try.prog 14 #[] w fun e w' => e = .returned (.bool true) ∧ Below w.heap.size w w' := by
  go_enter Try.func14, Try.ntmps14
  go_wp2_with fail
  refine (gaping_any _).mono ?_
  rintro e w1 ⟨vp, rfl, hP, hb1⟩
  go_wp2_with fail
  refine (pair_ri _).mono ?_
  rintro e w2 ⟨vq, rfl, hQ, hb2⟩
  have hB2 : Below w.heap.size w w2 := hb1.trans (hb2.mono hb1.size)
  have hP2 := hP.below hb2
  have HP := Lib.hid (fun W (hb : Below w2.heap.size w2 W) => RS.more (RS.below (RS.more hP2 hb2.size) hb) hb.size)
  have HQ := Lib.hid (fun W (hb : Below w2.heap.size w2 W) => RS.more (RS.below hQ hb) hb.size)
  clear hP hQ hP2 hb1 hb2
  go_wp2_with fail
  refine (wedgeP_any pairP vp w2 (by decide) (HP.out w2 (Below.refl _ _))).mono ?_
  rintro e w3 ⟨rfl, hb3⟩
  rw [ex_wedgeP]
  have hC : Below w2.heap.size w2 w3 := hb3
  clear hb3
  go_wp2_with fail
  have bw : BK (w3.alloc (.cells #[.int .i64 0, .int .i64 1, .int .i64 2] 44)) w3.heap.size #[.int .i64 0, .int .i64 1, .int .i64 2] 44 := BK.new _ _ _
  have hC2 : Below w2.heap.size w2 (w3.alloc (.cells #[.int .i64 0, .int .i64 1, .int .i64 2] 44)) := by have := hC.size; exact bel_of
  clear hC; have hC := hC2; clear hC2
  have hzbw : (w3.alloc (.cells #[.int .i64 0, .int .i64 1, .int .i64 2] 44)).heap.size = w3.heap.size + 1 := by simp
  generalize (w3.alloc (.cells #[.int .i64 0, .int .i64 1, .int .i64 2] 44)) = Wbw at *
  obtain ⟨gbw, hgbw⟩ : ∃ g, w3.heap.size = g := ⟨_, rfl⟩
  rw [hgbw] at bw hzbw
  try rw [hgbw]
  clear hgbw
  clear hzbw
  refine (wedgeP_any pairQ vq Wbw (by decide) (HQ.out Wbw hC)).mono ?_
  rintro e w4 ⟨rfl, hb⟩
  have hC2 : Below w2.heap.size w2 w4 := hC.trans (hb.mono hC.size)
  clear hC; have hC := hC2; clear hC2
  have bw_ := bw.below hb bw.lt; clear bw; have bw := bw_; clear bw_
  clear hb
  rw [ex_wedgeQ]
  go_wp2_with fail
  have bv : BK (w4.alloc (.cells #[.int .i64 0, .int .i64 0, .int .i64 0] 44)) w4.heap.size #[.int .i64 0, .int .i64 0, .int .i64 0] 44 := BK.new _ _ _
  have hC2 : Below w2.heap.size w2 (w4.alloc (.cells #[.int .i64 0, .int .i64 0, .int .i64 0] 44)) := by have := hC.size; exact bel_of
  clear hC; have hC := hC2; clear hC2
  have hzbv : (w4.alloc (.cells #[.int .i64 0, .int .i64 0, .int .i64 0] 44)).heap.size = w4.heap.size + 1 := by simp
  have bw_ := bw.alloc (.cells #[.int .i64 0, .int .i64 0, .int .i64 0] 44); clear bw; have bw := bw_; clear bw_
  generalize (w4.alloc (.cells #[.int .i64 0, .int .i64 0, .int .i64 0] 44)) = Wbv at *
  obtain ⟨gbv, hgbv⟩ : ∃ g, w4.heap.size = g := ⟨_, rfl⟩
  rw [hgbv] at bv hzbv
  try rw [hgbv]
  clear hgbv
  clear hzbv
  refine (kindsP_any pairQ vq Wbv (by decide) (HQ.out Wbv hC)).mono ?_
  rintro e w5 ⟨vk, rfl, hk, hb⟩
  have hC2 : Below w2.heap.size w2 w5 := hC.trans (hb.mono hC.size)
  clear hC; have hC := hC2; clear hC2
  have bw_ := bw.below hb bw.lt; clear bw; have bw := bw_; clear bw_
  have bv_ := bv.below hb bv.lt; clear bv; have bv := bv_; clear bv_
  clear hb
  rw [ex_kinds] at hk
  rw [ex_pairQ]
  go_wp2_with fail
  refine (heightsP_any pairP vp w5 (by decide) (HP.out w5 hC)).mono ?_
  rintro e w6 ⟨vh0, rfl, hh0, hb⟩
  have hC2 : Below w2.heap.size w2 w6 := hC.trans (hb.mono hC.size)
  clear hC; have hC := hC2; clear hC2
  have bw_ := bw.below hb bw.lt; clear bw; have bw := bw_; clear bw_
  have bv_ := bv.below hb bv.lt; clear bv; have bv := bv_; clear bv_
  have hk_ := (RS.below hk hb).more hb.size; clear hk; have hk := hk_; clear hk_
  clear hb
  clear hh0
  rw [ex_heightsP]
  go_wp2_with fail
  refine (heightsP_any pairQ vq w6 (by decide) (HQ.out w6 hC)).mono ?_
  rintro e w7 ⟨vh, rfl, hh, hb⟩
  have hC2 : Below w2.heap.size w2 w7 := hC.trans (hb.mono hC.size)
  clear hC; have hC := hC2; clear hC2
  have bw_ := bw.below hb bw.lt; clear bw; have bw := bw_; clear bw_
  have bv_ := bv.below hb bv.lt; clear bv; have bv := bv_; clear bv_
  have hk_ := (RS.below hk hb).more hb.size; clear hk; have hk := hk_; clear hk_
  clear hb
  rw [ex_heights] at hh
  rw [ex_heightsQ]
  go_wp2_with fail
  refine (canP_any pairQ 1 vq w7 (by decide) (HQ.out w7 hC)).mono ?_
  rintro e w8 ⟨rfl, hb⟩
  have hC2 : Below w2.heap.size w2 w8 := hC.trans (hb.mono hC.size)
  clear hC; have hC := hC2; clear hC2
  have bw_ := bw.below hb bw.lt; clear bw; have bw := bw_; clear bw_
  have bv_ := bv.below hb bv.lt; clear bv; have bv := bv_; clear bv_
  have hk_ := (RS.below hk hb).more hb.size; clear hk; have hk := hk_; clear hk_
  have hh_ := (RS.below hh hb).more hb.size; clear hh; have hh := hh_; clear hh_
  clear hb
  rw [ex_can]
  go_wp2_with fail
  have bc : BK (w8.alloc (.cells #[.int .i64 (-1), .int .i64 5, .int .i64 3, .int .i64 10] 34)) w8.heap.size #[.int .i64 (-1), .int .i64 5, .int .i64 3, .int .i64 10] 34 := BK.new _ _ _
  have hC2 : Below w2.heap.size w2 (w8.alloc (.cells #[.int .i64 (-1), .int .i64 5, .int .i64 3, .int .i64 10] 34)) := by have := hC.size; exact bel_of
  clear hC; have hC := hC2; clear hC2
  have hzbc : (w8.alloc (.cells #[.int .i64 (-1), .int .i64 5, .int .i64 3, .int .i64 10] 34)).heap.size = w8.heap.size + 1 := by simp
  have bw_ := bw.alloc (.cells #[.int .i64 (-1), .int .i64 5, .int .i64 3, .int .i64 10] 34); clear bw; have bw := bw_; clear bw_
  have bv_ := bv.alloc (.cells #[.int .i64 (-1), .int .i64 5, .int .i64 3, .int .i64 10] 34); clear bv; have bv := bv_; clear bv_
  have hk_ := (RS.below hk (w' := (w8.alloc (.cells #[.int .i64 (-1), .int .i64 5, .int .i64 3, .int .i64 10] 34))) (by exact bel_of)).more (B' := (w8.alloc (.cells #[.int .i64 (-1), .int .i64 5, .int .i64 3, .int .i64 10] 34)).heap.size) (by simp); clear hk; have hk := hk_; clear hk_
  have hh_ := (RS.below hh (w' := (w8.alloc (.cells #[.int .i64 (-1), .int .i64 5, .int .i64 3, .int .i64 10] 34))) (by exact bel_of)).more (B' := (w8.alloc (.cells #[.int .i64 (-1), .int .i64 5, .int .i64 3, .int .i64 10] 34)).heap.size) (by simp); clear hh; have hh := hh_; clear hh_
  generalize (w8.alloc (.cells #[.int .i64 (-1), .int .i64 5, .int .i64 3, .int .i64 10] 34)) = Wbc at *
  obtain ⟨gbc, hgbc⟩ : ∃ g, w8.heap.size = g := ⟨_, rfl⟩
  rw [hgbc] at bc hzbc
  try rw [hgbc]
  clear hgbc
  clear hzbc
  refine (sureP_any pairQ 2 vq Wbc (by decide) (HQ.out Wbc hC)).mono ?_
  rintro e w9 ⟨rfl, hb⟩
  have hC2 : Below w2.heap.size w2 w9 := hC.trans (hb.mono hC.size)
  clear hC; have hC := hC2; clear hC2
  have bw_ := bw.below hb bw.lt; clear bw; have bw := bw_; clear bw_
  have bv_ := bv.below hb bv.lt; clear bv; have bv := bv_; clear bv_
  have hk_ := (RS.below hk hb).more hb.size; clear hk; have hk := hk_; clear hk_
  have hh_ := (RS.below hh hb).more hb.size; clear hh; have hh := hh_; clear hh_
  have bc_ := bc.below hb bc.lt; clear bc; have bc := bc_; clear bc_
  clear hb
  rw [ex_sure2]
  go_wp2_with fail
  have bs : BK (w9.alloc (.cells #[.int .i64 3, .int .i64 10, .int .i64 7, .int .i64 20] 34)) w9.heap.size #[.int .i64 3, .int .i64 10, .int .i64 7, .int .i64 20] 34 := BK.new _ _ _
  have hC2 : Below w2.heap.size w2 (w9.alloc (.cells #[.int .i64 3, .int .i64 10, .int .i64 7, .int .i64 20] 34)) := by have := hC.size; exact bel_of
  clear hC; have hC := hC2; clear hC2
  have hzbs : (w9.alloc (.cells #[.int .i64 3, .int .i64 10, .int .i64 7, .int .i64 20] 34)).heap.size = w9.heap.size + 1 := by simp
  have bw_ := bw.alloc (.cells #[.int .i64 3, .int .i64 10, .int .i64 7, .int .i64 20] 34); clear bw; have bw := bw_; clear bw_
  have bv_ := bv.alloc (.cells #[.int .i64 3, .int .i64 10, .int .i64 7, .int .i64 20] 34); clear bv; have bv := bv_; clear bv_
  have hk_ := (RS.below hk (w' := (w9.alloc (.cells #[.int .i64 3, .int .i64 10, .int .i64 7, .int .i64 20] 34))) (by exact bel_of)).more (B' := (w9.alloc (.cells #[.int .i64 3, .int .i64 10, .int .i64 7, .int .i64 20] 34)).heap.size) (by simp); clear hk; have hk := hk_; clear hk_
  have hh_ := (RS.below hh (w' := (w9.alloc (.cells #[.int .i64 3, .int .i64 10, .int .i64 7, .int .i64 20] 34))) (by exact bel_of)).more (B' := (w9.alloc (.cells #[.int .i64 3, .int .i64 10, .int .i64 7, .int .i64 20] 34)).heap.size) (by simp); clear hh; have hh := hh_; clear hh_
  have bc_ := bc.alloc (.cells #[.int .i64 3, .int .i64 10, .int .i64 7, .int .i64 20] 34); clear bc; have bc := bc_; clear bc_
  generalize (w9.alloc (.cells #[.int .i64 3, .int .i64 10, .int .i64 7, .int .i64 20] 34)) = Wbs at *
  obtain ⟨gbs, hgbs⟩ : ∃ g, w9.heap.size = g := ⟨_, rfl⟩
  rw [hgbs] at bs hzbs
  try rw [hgbs]
  clear hgbs
  clear hzbs
  refine (sureP_any pairQ 1 vq Wbs (by decide) (HQ.out Wbs hC)).mono ?_
  rintro e w10 ⟨rfl, hb⟩
  have hC2 : Below w2.heap.size w2 w10 := hC.trans (hb.mono hC.size)
  clear hC; have hC := hC2; clear hC2
  have bw_ := bw.below hb bw.lt; clear bw; have bw := bw_; clear bw_
  have bv_ := bv.below hb bv.lt; clear bv; have bv := bv_; clear bv_
  have hk_ := (RS.below hk hb).more hb.size; clear hk; have hk := hk_; clear hk_
  have hh_ := (RS.below hh hb).more hb.size; clear hh; have hh := hh_; clear hh_
  have bc_ := bc.below hb bc.lt; clear bc; have bc := bc_; clear bc_
  have bs_ := bs.below hb bs.lt; clear bs; have bs := bs_; clear bs_
  clear hb
  rw [ex_sure1]
  unfold errV
  go_wp2_with fail
  have bz : BK (w10.alloc (.cells #[.int .i64 0, .int .i64 0, .int .i64 0, .int .i64 0] 34)) w10.heap.size #[.int .i64 0, .int .i64 0, .int .i64 0, .int .i64 0] 34 := BK.new _ _ _
  have hC2 : Below w2.heap.size w2 (w10.alloc (.cells #[.int .i64 0, .int .i64 0, .int .i64 0, .int .i64 0] 34)) := by have := hC.size; exact bel_of
  clear hC; have hC := hC2; clear hC2
  have hzbz : (w10.alloc (.cells #[.int .i64 0, .int .i64 0, .int .i64 0, .int .i64 0] 34)).heap.size = w10.heap.size + 1 := by simp
  have bw_ := bw.alloc (.cells #[.int .i64 0, .int .i64 0, .int .i64 0, .int .i64 0] 34); clear bw; have bw := bw_; clear bw_
  have bv_ := bv.alloc (.cells #[.int .i64 0, .int .i64 0, .int .i64 0, .int .i64 0] 34); clear bv; have bv := bv_; clear bv_
  have hk_ := (RS.below hk (w' := (w10.alloc (.cells #[.int .i64 0, .int .i64 0, .int .i64 0, .int .i64 0] 34))) (by exact bel_of)).more (B' := (w10.alloc (.cells #[.int .i64 0, .int .i64 0, .int .i64 0, .int .i64 0] 34)).heap.size) (by simp); clear hk; have hk := hk_; clear hk_
  have hh_ := (RS.below hh (w' := (w10.alloc (.cells #[.int .i64 0, .int .i64 0, .int .i64 0, .int .i64 0] 34))) (by exact bel_of)).more (B' := (w10.alloc (.cells #[.int .i64 0, .int .i64 0, .int .i64 0, .int .i64 0] 34)).heap.size) (by simp); clear hh; have hh := hh_; clear hh_
  have bc_ := bc.alloc (.cells #[.int .i64 0, .int .i64 0, .int .i64 0, .int .i64 0] 34); clear bc; have bc := bc_; clear bc_
  have bs_ := bs.alloc (.cells #[.int .i64 0, .int .i64 0, .int .i64 0, .int .i64 0] 34); clear bs; have bs := bs_; clear bs_
  generalize (w10.alloc (.cells #[.int .i64 0, .int .i64 0, .int .i64 0, .int .i64 0] 34)) = Wbz at *
  obtain ⟨gbz, hgbz⟩ : ∃ g, w10.heap.size = g := ⟨_, rfl⟩
  rw [hgbz] at bz hzbz
  try rw [hgbz]
  clear hgbz
  have bq : BK (Wbz.alloc (.cells #[.int .i64 0, .int .i64 (-1), .int .i64 1, .int .i64 9] 2)) Wbz.heap.size #[.int .i64 0, .int .i64 (-1), .int .i64 1, .int .i64 9] 2 := BK.new _ _ _
  have hC2 : Below w2.heap.size w2 (Wbz.alloc (.cells #[.int .i64 0, .int .i64 (-1), .int .i64 1, .int .i64 9] 2)) := by have := hC.size; exact bel_of
  clear hC; have hC := hC2; clear hC2
  have hzbq : (Wbz.alloc (.cells #[.int .i64 0, .int .i64 (-1), .int .i64 1, .int .i64 9] 2)).heap.size = Wbz.heap.size + 1 := by simp
  have bw_ := bw.alloc (.cells #[.int .i64 0, .int .i64 (-1), .int .i64 1, .int .i64 9] 2); clear bw; have bw := bw_; clear bw_
  have bv_ := bv.alloc (.cells #[.int .i64 0, .int .i64 (-1), .int .i64 1, .int .i64 9] 2); clear bv; have bv := bv_; clear bv_
  have hk_ := (RS.below hk (w' := (Wbz.alloc (.cells #[.int .i64 0, .int .i64 (-1), .int .i64 1, .int .i64 9] 2))) (by exact bel_of)).more (B' := (Wbz.alloc (.cells #[.int .i64 0, .int .i64 (-1), .int .i64 1, .int .i64 9] 2)).heap.size) (by simp); clear hk; have hk := hk_; clear hk_
  have hh_ := (RS.below hh (w' := (Wbz.alloc (.cells #[.int .i64 0, .int .i64 (-1), .int .i64 1, .int .i64 9] 2))) (by exact bel_of)).more (B' := (Wbz.alloc (.cells #[.int .i64 0, .int .i64 (-1), .int .i64 1, .int .i64 9] 2)).heap.size) (by simp); clear hh; have hh := hh_; clear hh_
  have bc_ := bc.alloc (.cells #[.int .i64 0, .int .i64 (-1), .int .i64 1, .int .i64 9] 2); clear bc; have bc := bc_; clear bc_
  have bs_ := bs.alloc (.cells #[.int .i64 0, .int .i64 (-1), .int .i64 1, .int .i64 9] 2); clear bs; have bs := bs_; clear bs_
  have bz_ := bz.alloc (.cells #[.int .i64 0, .int .i64 (-1), .int .i64 1, .int .i64 9] 2); clear bz; have bz := bz_; clear bz_
  generalize (Wbz.alloc (.cells #[.int .i64 0, .int .i64 (-1), .int .i64 1, .int .i64 9] 2)) = Wbq at *
  obtain ⟨gbq, hgbq⟩ : ∃ g, Wbz.heap.size = g := ⟨_, rfl⟩
  rw [hzbz] at hgbq
  rw [hzbz, hgbq] at bq hzbq
  rw [hgbq]
  clear hgbq
  clear hzbq
  clear hzbz
  refine (of_any 1 5 Wbq).mono ?_
  rintro e o1_ ⟨rfl, rfl⟩
  go_wp2_with fail
  have bo : BK (Wbq.alloc (.cells #[.int .i64 1, .int .i64 5] 25)) Wbq.heap.size #[.int .i64 1, .int .i64 5] 25 := BK.new _ _ _
  have hC2 : Below w2.heap.size w2 (Wbq.alloc (.cells #[.int .i64 1, .int .i64 5] 25)) := by have := hC.size; exact bel_of
  clear hC; have hC := hC2; clear hC2
  have hzbo : (Wbq.alloc (.cells #[.int .i64 1, .int .i64 5] 25)).heap.size = Wbq.heap.size + 1 := by simp
  have bw_ := bw.alloc (.cells #[.int .i64 1, .int .i64 5] 25); clear bw; have bw := bw_; clear bw_
  have bv_ := bv.alloc (.cells #[.int .i64 1, .int .i64 5] 25); clear bv; have bv := bv_; clear bv_
  have hk_ := (RS.below hk (w' := (Wbq.alloc (.cells #[.int .i64 1, .int .i64 5] 25))) (by exact bel_of)).more (B' := (Wbq.alloc (.cells #[.int .i64 1, .int .i64 5] 25)).heap.size) (by simp); clear hk; have hk := hk_; clear hk_
  have hh_ := (RS.below hh (w' := (Wbq.alloc (.cells #[.int .i64 1, .int .i64 5] 25))) (by exact bel_of)).more (B' := (Wbq.alloc (.cells #[.int .i64 1, .int .i64 5] 25)).heap.size) (by simp); clear hh; have hh := hh_; clear hh_
  have bc_ := bc.alloc (.cells #[.int .i64 1, .int .i64 5] 25); clear bc; have bc := bc_; clear bc_
  have bs_ := bs.alloc (.cells #[.int .i64 1, .int .i64 5] 25); clear bs; have bs := bs_; clear bs_
  have bz_ := bz.alloc (.cells #[.int .i64 1, .int .i64 5] 25); clear bz; have bz := bz_; clear bz_
  have bq_ := bq.alloc (.cells #[.int .i64 1, .int .i64 5] 25); clear bq; have bq := bq_; clear bq_
  generalize (Wbq.alloc (.cells #[.int .i64 1, .int .i64 5] 25)) = Wbo at *
  obtain ⟨gbo, hgbo⟩ : ∃ g, Wbq.heap.size = g := ⟨_, rfl⟩
  rw [hgbo] at bo hzbo
  try rw [hgbo]
  clear hgbo
  clear hzbo
  refine (contactP_any pairQ [0, -1, 1, 9] ⟨1, 5⟩ vq (.slice (some ⟨gbq, 0, none⟩) 4 4) Wbo (by decide) (by decide) (HQ.out Wbo hC) (ri_new bq (by simp [ofI]) 4 rfl)).mono ?_
  rintro e w11 ⟨vx, rfl, hx, hb⟩
  have hC2 : Below w2.heap.size w2 w11 := hC.trans (hb.mono hC.size)
  clear hC; have hC := hC2; clear hC2
  have bw_ := bw.below hb bw.lt; clear bw; have bw := bw_; clear bw_
  have bv_ := bv.below hb bv.lt; clear bv; have bv := bv_; clear bv_
  have hk_ := (RS.below hk hb).more hb.size; clear hk; have hk := hk_; clear hk_
  have hh_ := (RS.below hh hb).more hb.size; clear hh; have hh := hh_; clear hh_
  have bc_ := bc.below hb bc.lt; clear bc; have bc := bc_; clear bc_
  have bs_ := bs.below hb bs.lt; clear bs; have bs := bs_; clear bs_
  have bz_ := bz.below hb bz.lt; clear bz; have bz := bz_; clear bz_
  have bq_ := bq.below hb bq.lt; clear bq; have bq := bq_; clear bq_
  have bo_ := bo.below hb bo.lt; clear bo; have bo := bo_; clear bo_
  clear hb
  rw [ex_contact] at hx
  rw [ex_contactE]
  go_wp2_with fail
  have br : BK (w11.alloc (.cells #[.int .i64 0, .int .i64 (-1), .int .i64 1, .int .i64 9] 2)) w11.heap.size #[.int .i64 0, .int .i64 (-1), .int .i64 1, .int .i64 9] 2 := BK.new _ _ _
  have hC2 : Below w2.heap.size w2 (w11.alloc (.cells #[.int .i64 0, .int .i64 (-1), .int .i64 1, .int .i64 9] 2)) := by have := hC.size; exact bel_of
  clear hC; have hC := hC2; clear hC2
  have hzbr : (w11.alloc (.cells #[.int .i64 0, .int .i64 (-1), .int .i64 1, .int .i64 9] 2)).heap.size = w11.heap.size + 1 := by simp
  have bw_ := bw.alloc (.cells #[.int .i64 0, .int .i64 (-1), .int .i64 1, .int .i64 9] 2); clear bw; have bw := bw_; clear bw_
  have bv_ := bv.alloc (.cells #[.int .i64 0, .int .i64 (-1), .int .i64 1, .int .i64 9] 2); clear bv; have bv := bv_; clear bv_
  have hk_ := (RS.below hk (w' := (w11.alloc (.cells #[.int .i64 0, .int .i64 (-1), .int .i64 1, .int .i64 9] 2))) (by exact bel_of)).more (B' := (w11.alloc (.cells #[.int .i64 0, .int .i64 (-1), .int .i64 1, .int .i64 9] 2)).heap.size) (by simp); clear hk; have hk := hk_; clear hk_
  have hh_ := (RS.below hh (w' := (w11.alloc (.cells #[.int .i64 0, .int .i64 (-1), .int .i64 1, .int .i64 9] 2))) (by exact bel_of)).more (B' := (w11.alloc (.cells #[.int .i64 0, .int .i64 (-1), .int .i64 1, .int .i64 9] 2)).heap.size) (by simp); clear hh; have hh := hh_; clear hh_
  have bc_ := bc.alloc (.cells #[.int .i64 0, .int .i64 (-1), .int .i64 1, .int .i64 9] 2); clear bc; have bc := bc_; clear bc_
  have bs_ := bs.alloc (.cells #[.int .i64 0, .int .i64 (-1), .int .i64 1, .int .i64 9] 2); clear bs; have bs := bs_; clear bs_
  have bz_ := bz.alloc (.cells #[.int .i64 0, .int .i64 (-1), .int .i64 1, .int .i64 9] 2); clear bz; have bz := bz_; clear bz_
  have bq_ := bq.alloc (.cells #[.int .i64 0, .int .i64 (-1), .int .i64 1, .int .i64 9] 2); clear bq; have bq := bq_; clear bq_
  have bo_ := bo.alloc (.cells #[.int .i64 0, .int .i64 (-1), .int .i64 1, .int .i64 9] 2); clear bo; have bo := bo_; clear bo_
  have hx_ := (RS.below hx (w' := (w11.alloc (.cells #[.int .i64 0, .int .i64 (-1), .int .i64 1, .int .i64 9] 2))) (by exact bel_of)).more (B' := (w11.alloc (.cells #[.int .i64 0, .int .i64 (-1), .int .i64 1, .int .i64 9] 2)).heap.size) (by simp); clear hx; have hx := hx_; clear hx_
  generalize (w11.alloc (.cells #[.int .i64 0, .int .i64 (-1), .int .i64 1, .int .i64 9] 2)) = Wbr at *
  obtain ⟨gbr, hgbr⟩ : ∃ g, w11.heap.size = g := ⟨_, rfl⟩
  rw [hgbr] at br hzbr
  try rw [hgbr]
  clear hgbr
  clear hzbr
  refine (tilts_any pairQ [0, -1, 1, 9] 1 vq (.slice (some ⟨gbr, 0, none⟩) 4 4) Wbr (by decide) (by decide) (HQ.out Wbr hC) (ri_new br (by simp [ofI]) 4 rfl)).mono ?_
  rintro e w12 ⟨rfl, hb⟩
  have hC2 : Below w2.heap.size w2 w12 := hC.trans (hb.mono hC.size)
  clear hC; have hC := hC2; clear hC2
  have bw_ := bw.below hb bw.lt; clear bw; have bw := bw_; clear bw_
  have bv_ := bv.below hb bv.lt; clear bv; have bv := bv_; clear bv_
  have hk_ := (RS.below hk hb).more hb.size; clear hk; have hk := hk_; clear hk_
  have hh_ := (RS.below hh hb).more hb.size; clear hh; have hh := hh_; clear hh_
  have bc_ := bc.below hb bc.lt; clear bc; have bc := bc_; clear bc_
  have bs_ := bs.below hb bs.lt; clear bs; have bs := bs_; clear bs_
  have bz_ := bz.below hb bz.lt; clear bz; have bz := bz_; clear bz_
  have bq_ := bq.below hb bq.lt; clear bq; have bq := bq_; clear bq_
  have bo_ := bo.below hb bo.lt; clear bo; have bo := bo_; clear bo_
  have hx_ := (RS.below hx hb).more hb.size; clear hx; have hx := hx_; clear hx_
  have br_ := br.below hb br.lt; clear br; have br := br_; clear br_
  clear hb
  rw [ex_tilts]
  go_wp2_with fail
  have bt : BK (w12.alloc (.cells #[.int .i64 (-1), .int .i64 10, .int .i64 1, .int .i64 5] 34)) w12.heap.size #[.int .i64 (-1), .int .i64 10, .int .i64 1, .int .i64 5] 34 := BK.new _ _ _
  have hC2 : Below w2.heap.size w2 (w12.alloc (.cells #[.int .i64 (-1), .int .i64 10, .int .i64 1, .int .i64 5] 34)) := by have := hC.size; exact bel_of
  clear hC; have hC := hC2; clear hC2
  have hzbt : (w12.alloc (.cells #[.int .i64 (-1), .int .i64 10, .int .i64 1, .int .i64 5] 34)).heap.size = w12.heap.size + 1 := by simp
  have bw_ := bw.alloc (.cells #[.int .i64 (-1), .int .i64 10, .int .i64 1, .int .i64 5] 34); clear bw; have bw := bw_; clear bw_
  have bv_ := bv.alloc (.cells #[.int .i64 (-1), .int .i64 10, .int .i64 1, .int .i64 5] 34); clear bv; have bv := bv_; clear bv_
  have hk_ := (RS.below hk (w' := (w12.alloc (.cells #[.int .i64 (-1), .int .i64 10, .int .i64 1, .int .i64 5] 34))) (by exact bel_of)).more (B' := (w12.alloc (.cells #[.int .i64 (-1), .int .i64 10, .int .i64 1, .int .i64 5] 34)).heap.size) (by simp); clear hk; have hk := hk_; clear hk_
  have hh_ := (RS.below hh (w' := (w12.alloc (.cells #[.int .i64 (-1), .int .i64 10, .int .i64 1, .int .i64 5] 34))) (by exact bel_of)).more (B' := (w12.alloc (.cells #[.int .i64 (-1), .int .i64 10, .int .i64 1, .int .i64 5] 34)).heap.size) (by simp); clear hh; have hh := hh_; clear hh_
  have bc_ := bc.alloc (.cells #[.int .i64 (-1), .int .i64 10, .int .i64 1, .int .i64 5] 34); clear bc; have bc := bc_; clear bc_
  have bs_ := bs.alloc (.cells #[.int .i64 (-1), .int .i64 10, .int .i64 1, .int .i64 5] 34); clear bs; have bs := bs_; clear bs_
  have bz_ := bz.alloc (.cells #[.int .i64 (-1), .int .i64 10, .int .i64 1, .int .i64 5] 34); clear bz; have bz := bz_; clear bz_
  have bq_ := bq.alloc (.cells #[.int .i64 (-1), .int .i64 10, .int .i64 1, .int .i64 5] 34); clear bq; have bq := bq_; clear bq_
  have bo_ := bo.alloc (.cells #[.int .i64 (-1), .int .i64 10, .int .i64 1, .int .i64 5] 34); clear bo; have bo := bo_; clear bo_
  have hx_ := (RS.below hx (w' := (w12.alloc (.cells #[.int .i64 (-1), .int .i64 10, .int .i64 1, .int .i64 5] 34))) (by exact bel_of)).more (B' := (w12.alloc (.cells #[.int .i64 (-1), .int .i64 10, .int .i64 1, .int .i64 5] 34)).heap.size) (by simp); clear hx; have hx := hx_; clear hx_
  have br_ := br.alloc (.cells #[.int .i64 (-1), .int .i64 10, .int .i64 1, .int .i64 5] 34); clear br; have br := br_; clear br_
  generalize (w12.alloc (.cells #[.int .i64 (-1), .int .i64 10, .int .i64 1, .int .i64 5] 34)) = Wbt at *
  obtain ⟨gbt, hgbt⟩ : ∃ g, w12.heap.size = g := ⟨_, rfl⟩
  rw [hgbt] at bt hzbt
  try rw [hgbt]
  clear hgbt
  have bu : BK (Wbt.alloc (.cells #[.int .i64 0, .int .i64 2, .int .i64 1, .int .i64 9] 2)) Wbt.heap.size #[.int .i64 0, .int .i64 2, .int .i64 1, .int .i64 9] 2 := BK.new _ _ _
  have hC2 : Below w2.heap.size w2 (Wbt.alloc (.cells #[.int .i64 0, .int .i64 2, .int .i64 1, .int .i64 9] 2)) := by have := hC.size; exact bel_of
  clear hC; have hC := hC2; clear hC2
  have hzbu : (Wbt.alloc (.cells #[.int .i64 0, .int .i64 2, .int .i64 1, .int .i64 9] 2)).heap.size = Wbt.heap.size + 1 := by simp
  have bw_ := bw.alloc (.cells #[.int .i64 0, .int .i64 2, .int .i64 1, .int .i64 9] 2); clear bw; have bw := bw_; clear bw_
  have bv_ := bv.alloc (.cells #[.int .i64 0, .int .i64 2, .int .i64 1, .int .i64 9] 2); clear bv; have bv := bv_; clear bv_
  have hk_ := (RS.below hk (w' := (Wbt.alloc (.cells #[.int .i64 0, .int .i64 2, .int .i64 1, .int .i64 9] 2))) (by exact bel_of)).more (B' := (Wbt.alloc (.cells #[.int .i64 0, .int .i64 2, .int .i64 1, .int .i64 9] 2)).heap.size) (by simp); clear hk; have hk := hk_; clear hk_
  have hh_ := (RS.below hh (w' := (Wbt.alloc (.cells #[.int .i64 0, .int .i64 2, .int .i64 1, .int .i64 9] 2))) (by exact bel_of)).more (B' := (Wbt.alloc (.cells #[.int .i64 0, .int .i64 2, .int .i64 1, .int .i64 9] 2)).heap.size) (by simp); clear hh; have hh := hh_; clear hh_
  have bc_ := bc.alloc (.cells #[.int .i64 0, .int .i64 2, .int .i64 1, .int .i64 9] 2); clear bc; have bc := bc_; clear bc_
  have bs_ := bs.alloc (.cells #[.int .i64 0, .int .i64 2, .int .i64 1, .int .i64 9] 2); clear bs; have bs := bs_; clear bs_
  have bz_ := bz.alloc (.cells #[.int .i64 0, .int .i64 2, .int .i64 1, .int .i64 9] 2); clear bz; have bz := bz_; clear bz_
  have bq_ := bq.alloc (.cells #[.int .i64 0, .int .i64 2, .int .i64 1, .int .i64 9] 2); clear bq; have bq := bq_; clear bq_
  have bo_ := bo.alloc (.cells #[.int .i64 0, .int .i64 2, .int .i64 1, .int .i64 9] 2); clear bo; have bo := bo_; clear bo_
  have hx_ := (RS.below hx (w' := (Wbt.alloc (.cells #[.int .i64 0, .int .i64 2, .int .i64 1, .int .i64 9] 2))) (by exact bel_of)).more (B' := (Wbt.alloc (.cells #[.int .i64 0, .int .i64 2, .int .i64 1, .int .i64 9] 2)).heap.size) (by simp); clear hx; have hx := hx_; clear hx_
  have br_ := br.alloc (.cells #[.int .i64 0, .int .i64 2, .int .i64 1, .int .i64 9] 2); clear br; have br := br_; clear br_
  have bt_ := bt.alloc (.cells #[.int .i64 0, .int .i64 2, .int .i64 1, .int .i64 9] 2); clear bt; have bt := bt_; clear bt_
  generalize (Wbt.alloc (.cells #[.int .i64 0, .int .i64 2, .int .i64 1, .int .i64 9] 2)) = Wbu at *
  obtain ⟨gbu, hgbu⟩ : ∃ g, Wbt.heap.size = g := ⟨_, rfl⟩
  rw [hzbt] at hgbu
  rw [hzbt, hgbu] at bu hzbu
  rw [hgbu]
  clear hgbu
  clear hzbu
  clear hzbt
  refine (tilts_any pairQ [0, 2, 1, 9] 1 vq (.slice (some ⟨gbu, 0, none⟩) 4 4) Wbu (by decide) (by decide) (HQ.out Wbu hC) (ri_new bu (by simp [ofI]) 4 rfl)).mono ?_
  rintro e w13 ⟨rfl, hb⟩
  have hC2 : Below w2.heap.size w2 w13 := hC.trans (hb.mono hC.size)
  clear hC; have hC := hC2; clear hC2
  have bw_ := bw.below hb bw.lt; clear bw; have bw := bw_; clear bw_
  have bv_ := bv.below hb bv.lt; clear bv; have bv := bv_; clear bv_
  have hk_ := (RS.below hk hb).more hb.size; clear hk; have hk := hk_; clear hk_
  have hh_ := (RS.below hh hb).more hb.size; clear hh; have hh := hh_; clear hh_
  have bc_ := bc.below hb bc.lt; clear bc; have bc := bc_; clear bc_
  have bs_ := bs.below hb bs.lt; clear bs; have bs := bs_; clear bs_
  have bz_ := bz.below hb bz.lt; clear bz; have bz := bz_; clear bz_
  have bq_ := bq.below hb bq.lt; clear bq; have bq := bq_; clear bq_
  have bo_ := bo.below hb bo.lt; clear bo; have bo := bo_; clear bo_
  have hx_ := (RS.below hx hb).more hb.size; clear hx; have hx := hx_; clear hx_
  have br_ := br.below hb br.lt; clear br; have br := br_; clear br_
  have bt_ := bt.below hb bt.lt; clear bt; have bt := bt_; clear bt_
  have bu_ := bu.below hb bu.lt; clear bu; have bu := bu_; clear bu_
  clear hb
  rw [ex_tilts2]
  unfold errV
  go_wp2_with fail
  have bY : BK (w13.alloc (.cells #[.int .i64 0, .int .i64 0, .int .i64 0, .int .i64 0] 34)) w13.heap.size #[.int .i64 0, .int .i64 0, .int .i64 0, .int .i64 0] 34 := BK.new _ _ _
  have hC2 : Below w2.heap.size w2 (w13.alloc (.cells #[.int .i64 0, .int .i64 0, .int .i64 0, .int .i64 0] 34)) := by have := hC.size; exact bel_of
  clear hC; have hC := hC2; clear hC2
  have hzbY : (w13.alloc (.cells #[.int .i64 0, .int .i64 0, .int .i64 0, .int .i64 0] 34)).heap.size = w13.heap.size + 1 := by simp
  have bw_ := bw.alloc (.cells #[.int .i64 0, .int .i64 0, .int .i64 0, .int .i64 0] 34); clear bw; have bw := bw_; clear bw_
  have bv_ := bv.alloc (.cells #[.int .i64 0, .int .i64 0, .int .i64 0, .int .i64 0] 34); clear bv; have bv := bv_; clear bv_
  have hk_ := (RS.below hk (w' := (w13.alloc (.cells #[.int .i64 0, .int .i64 0, .int .i64 0, .int .i64 0] 34))) (by exact bel_of)).more (B' := (w13.alloc (.cells #[.int .i64 0, .int .i64 0, .int .i64 0, .int .i64 0] 34)).heap.size) (by simp); clear hk; have hk := hk_; clear hk_
  have hh_ := (RS.below hh (w' := (w13.alloc (.cells #[.int .i64 0, .int .i64 0, .int .i64 0, .int .i64 0] 34))) (by exact bel_of)).more (B' := (w13.alloc (.cells #[.int .i64 0, .int .i64 0, .int .i64 0, .int .i64 0] 34)).heap.size) (by simp); clear hh; have hh := hh_; clear hh_
  have bc_ := bc.alloc (.cells #[.int .i64 0, .int .i64 0, .int .i64 0, .int .i64 0] 34); clear bc; have bc := bc_; clear bc_
  have bs_ := bs.alloc (.cells #[.int .i64 0, .int .i64 0, .int .i64 0, .int .i64 0] 34); clear bs; have bs := bs_; clear bs_
  have bz_ := bz.alloc (.cells #[.int .i64 0, .int .i64 0, .int .i64 0, .int .i64 0] 34); clear bz; have bz := bz_; clear bz_
  have bq_ := bq.alloc (.cells #[.int .i64 0, .int .i64 0, .int .i64 0, .int .i64 0] 34); clear bq; have bq := bq_; clear bq_
  have bo_ := bo.alloc (.cells #[.int .i64 0, .int .i64 0, .int .i64 0, .int .i64 0] 34); clear bo; have bo := bo_; clear bo_
  have hx_ := (RS.below hx (w' := (w13.alloc (.cells #[.int .i64 0, .int .i64 0, .int .i64 0, .int .i64 0] 34))) (by exact bel_of)).more (B' := (w13.alloc (.cells #[.int .i64 0, .int .i64 0, .int .i64 0, .int .i64 0] 34)).heap.size) (by simp); clear hx; have hx := hx_; clear hx_
  have br_ := br.alloc (.cells #[.int .i64 0, .int .i64 0, .int .i64 0, .int .i64 0] 34); clear br; have br := br_; clear br_
  have bt_ := bt.alloc (.cells #[.int .i64 0, .int .i64 0, .int .i64 0, .int .i64 0] 34); clear bt; have bt := bt_; clear bt_
  have bu_ := bu.alloc (.cells #[.int .i64 0, .int .i64 0, .int .i64 0, .int .i64 0] 34); clear bu; have bu := bu_; clear bu_
  generalize (w13.alloc (.cells #[.int .i64 0, .int .i64 0, .int .i64 0, .int .i64 0] 34)) = WbY at *
  obtain ⟨gbY, hgbY⟩ : ∃ g, w13.heap.size = g := ⟨_, rfl⟩
  rw [hgbY] at bY hzbY
  try rw [hgbY]
  clear hgbY
  clear hzbY
  refine (groundP_any pairP 1 vp WbY (by decide) (HP.out WbY hC)).mono ?_
  rintro e w14 ⟨rfl, hb⟩
  have hC2 : Below w2.heap.size w2 w14 := hC.trans (hb.mono hC.size)
  clear hC; have hC := hC2; clear hC2
  have bw_ := bw.below hb bw.lt; clear bw; have bw := bw_; clear bw_
  have bv_ := bv.below hb bv.lt; clear bv; have bv := bv_; clear bv_
  have hk_ := (RS.below hk hb).more hb.size; clear hk; have hk := hk_; clear hk_
  have hh_ := (RS.below hh hb).more hb.size; clear hh; have hh := hh_; clear hh_
  have bc_ := bc.below hb bc.lt; clear bc; have bc := bc_; clear bc_
  have bs_ := bs.below hb bs.lt; clear bs; have bs := bs_; clear bs_
  have bz_ := bz.below hb bz.lt; clear bz; have bz := bz_; clear bz_
  have bq_ := bq.below hb bq.lt; clear bq; have bq := bq_; clear bq_
  have bo_ := bo.below hb bo.lt; clear bo; have bo := bo_; clear bo_
  have hx_ := (RS.below hx hb).more hb.size; clear hx; have hx := hx_; clear hx_
  have br_ := br.below hb br.lt; clear br; have br := br_; clear br_
  have bt_ := bt.below hb bt.lt; clear bt; have bt := bt_; clear bt_
  have bu_ := bu.below hb bu.lt; clear bu; have bu := bu_; clear bu_
  have bY_ := bY.below hb bY.lt; clear bY; have bY := bY_; clear bY_
  clear hb
  rw [ex_ground]
  go_wp2_with fail
  have bg : BK (w14.alloc (.cells #[.int .i64 1, .int .i64 2, .int .i64 2, .int .i64 1] 34)) w14.heap.size #[.int .i64 1, .int .i64 2, .int .i64 2, .int .i64 1] 34 := BK.new _ _ _
  have hC2 : Below w2.heap.size w2 (w14.alloc (.cells #[.int .i64 1, .int .i64 2, .int .i64 2, .int .i64 1] 34)) := by have := hC.size; exact bel_of
  clear hC; have hC := hC2; clear hC2
  have hzbg : (w14.alloc (.cells #[.int .i64 1, .int .i64 2, .int .i64 2, .int .i64 1] 34)).heap.size = w14.heap.size + 1 := by simp
  have bw_ := bw.alloc (.cells #[.int .i64 1, .int .i64 2, .int .i64 2, .int .i64 1] 34); clear bw; have bw := bw_; clear bw_
  have bv_ := bv.alloc (.cells #[.int .i64 1, .int .i64 2, .int .i64 2, .int .i64 1] 34); clear bv; have bv := bv_; clear bv_
  have hk_ := (RS.below hk (w' := (w14.alloc (.cells #[.int .i64 1, .int .i64 2, .int .i64 2, .int .i64 1] 34))) (by exact bel_of)).more (B' := (w14.alloc (.cells #[.int .i64 1, .int .i64 2, .int .i64 2, .int .i64 1] 34)).heap.size) (by simp); clear hk; have hk := hk_; clear hk_
  have hh_ := (RS.below hh (w' := (w14.alloc (.cells #[.int .i64 1, .int .i64 2, .int .i64 2, .int .i64 1] 34))) (by exact bel_of)).more (B' := (w14.alloc (.cells #[.int .i64 1, .int .i64 2, .int .i64 2, .int .i64 1] 34)).heap.size) (by simp); clear hh; have hh := hh_; clear hh_
  have bc_ := bc.alloc (.cells #[.int .i64 1, .int .i64 2, .int .i64 2, .int .i64 1] 34); clear bc; have bc := bc_; clear bc_
  have bs_ := bs.alloc (.cells #[.int .i64 1, .int .i64 2, .int .i64 2, .int .i64 1] 34); clear bs; have bs := bs_; clear bs_
  have bz_ := bz.alloc (.cells #[.int .i64 1, .int .i64 2, .int .i64 2, .int .i64 1] 34); clear bz; have bz := bz_; clear bz_
  have bq_ := bq.alloc (.cells #[.int .i64 1, .int .i64 2, .int .i64 2, .int .i64 1] 34); clear bq; have bq := bq_; clear bq_
  have bo_ := bo.alloc (.cells #[.int .i64 1, .int .i64 2, .int .i64 2, .int .i64 1] 34); clear bo; have bo := bo_; clear bo_
  have hx_ := (RS.below hx (w' := (w14.alloc (.cells #[.int .i64 1, .int .i64 2, .int .i64 2, .int .i64 1] 34))) (by exact bel_of)).more (B' := (w14.alloc (.cells #[.int .i64 1, .int .i64 2, .int .i64 2, .int .i64 1] 34)).heap.size) (by simp); clear hx; have hx := hx_; clear hx_
  have br_ := br.alloc (.cells #[.int .i64 1, .int .i64 2, .int .i64 2, .int .i64 1] 34); clear br; have br := br_; clear br_
  have bt_ := bt.alloc (.cells #[.int .i64 1, .int .i64 2, .int .i64 2, .int .i64 1] 34); clear bt; have bt := bt_; clear bt_
  have bu_ := bu.alloc (.cells #[.int .i64 1, .int .i64 2, .int .i64 2, .int .i64 1] 34); clear bu; have bu := bu_; clear bu_
  have bY_ := bY.alloc (.cells #[.int .i64 1, .int .i64 2, .int .i64 2, .int .i64 1] 34); clear bY; have bY := bY_; clear bY_
  generalize (w14.alloc (.cells #[.int .i64 1, .int .i64 2, .int .i64 2, .int .i64 1] 34)) = Wbg at *
  obtain ⟨gbg, hgbg⟩ : ∃ g, w14.heap.size = g := ⟨_, rfl⟩
  rw [hgbg] at bg hzbg
  try rw [hgbg]
  clear hgbg
  clear hzbg
  refine (checkHeightsP_any pairQ [⟨0, 1⟩, ⟨1, 2⟩, ⟨1, 1⟩, ⟨10, 1⟩] vq vh Wbg (by decide) (by decide) (HQ.out Wbg hC) hh).mono ?_
  rintro e w15 ⟨rfl, hb⟩
  have hC2 : Below w2.heap.size w2 w15 := hC.trans (hb.mono hC.size)
  clear hC; have hC := hC2; clear hC2
  have bw_ := bw.below hb bw.lt; clear bw; have bw := bw_; clear bw_
  have bv_ := bv.below hb bv.lt; clear bv; have bv := bv_; clear bv_
  have hk_ := (RS.below hk hb).more hb.size; clear hk; have hk := hk_; clear hk_
  have hh_ := (RS.below hh hb).more hb.size; clear hh; have hh := hh_; clear hh_
  have bc_ := bc.below hb bc.lt; clear bc; have bc := bc_; clear bc_
  have bs_ := bs.below hb bs.lt; clear bs; have bs := bs_; clear bs_
  have bz_ := bz.below hb bz.lt; clear bz; have bz := bz_; clear bz_
  have bq_ := bq.below hb bq.lt; clear bq; have bq := bq_; clear bq_
  have bo_ := bo.below hb bo.lt; clear bo; have bo := bo_; clear bo_
  have hx_ := (RS.below hx hb).more hb.size; clear hx; have hx := hx_; clear hx_
  have br_ := br.below hb br.lt; clear br; have br := br_; clear br_
  have bt_ := bt.below hb bt.lt; clear bt; have bt := bt_; clear bt_
  have bu_ := bu.below hb bu.lt; clear bu; have bu := bu_; clear bu_
  have bY_ := bY.below hb bY.lt; clear bY; have bY := bY_; clear bY_
  have bg_ := bg.below hb bg.lt; clear bg; have bg := bg_; clear bg_
  clear hb
  rw [ex_check]
  go_wp2_with fail
  refine (of_any 0 1 w15).mono ?_
  rintro e o2_ ⟨rfl, rfl⟩
  go_wp2_with fail
  have bo0 : BK (w15.alloc (.cells #[.int .i64 0, .int .i64 1] 25)) w15.heap.size #[.int .i64 0, .int .i64 1] 25 := BK.new _ _ _
  have hC2 : Below w2.heap.size w2 (w15.alloc (.cells #[.int .i64 0, .int .i64 1] 25)) := by have := hC.size; exact bel_of
  clear hC; have hC := hC2; clear hC2
  have hzbo0 : (w15.alloc (.cells #[.int .i64 0, .int .i64 1] 25)).heap.size = w15.heap.size + 1 := by simp
  have bw_ := bw.alloc (.cells #[.int .i64 0, .int .i64 1] 25); clear bw; have bw := bw_; clear bw_
  have bv_ := bv.alloc (.cells #[.int .i64 0, .int .i64 1] 25); clear bv; have bv := bv_; clear bv_
  have hk_ := (RS.below hk (w' := (w15.alloc (.cells #[.int .i64 0, .int .i64 1] 25))) (by exact bel_of)).more (B' := (w15.alloc (.cells #[.int .i64 0, .int .i64 1] 25)).heap.size) (by simp); clear hk; have hk := hk_; clear hk_
  have hh_ := (RS.below hh (w' := (w15.alloc (.cells #[.int .i64 0, .int .i64 1] 25))) (by exact bel_of)).more (B' := (w15.alloc (.cells #[.int .i64 0, .int .i64 1] 25)).heap.size) (by simp); clear hh; have hh := hh_; clear hh_
  have bc_ := bc.alloc (.cells #[.int .i64 0, .int .i64 1] 25); clear bc; have bc := bc_; clear bc_
  have bs_ := bs.alloc (.cells #[.int .i64 0, .int .i64 1] 25); clear bs; have bs := bs_; clear bs_
  have bz_ := bz.alloc (.cells #[.int .i64 0, .int .i64 1] 25); clear bz; have bz := bz_; clear bz_
  have bq_ := bq.alloc (.cells #[.int .i64 0, .int .i64 1] 25); clear bq; have bq := bq_; clear bq_
  have bo_ := bo.alloc (.cells #[.int .i64 0, .int .i64 1] 25); clear bo; have bo := bo_; clear bo_
  have hx_ := (RS.below hx (w' := (w15.alloc (.cells #[.int .i64 0, .int .i64 1] 25))) (by exact bel_of)).more (B' := (w15.alloc (.cells #[.int .i64 0, .int .i64 1] 25)).heap.size) (by simp); clear hx; have hx := hx_; clear hx_
  have br_ := br.alloc (.cells #[.int .i64 0, .int .i64 1] 25); clear br; have br := br_; clear br_
  have bt_ := bt.alloc (.cells #[.int .i64 0, .int .i64 1] 25); clear bt; have bt := bt_; clear bt_
  have bu_ := bu.alloc (.cells #[.int .i64 0, .int .i64 1] 25); clear bu; have bu := bu_; clear bu_
  have bY_ := bY.alloc (.cells #[.int .i64 0, .int .i64 1] 25); clear bY; have bY := bY_; clear bY_
  have bg_ := bg.alloc (.cells #[.int .i64 0, .int .i64 1] 25); clear bg; have bg := bg_; clear bg_
  generalize (w15.alloc (.cells #[.int .i64 0, .int .i64 1] 25)) = Wbo0 at *
  obtain ⟨gbo0, hgbo0⟩ : ∃ g, w15.heap.size = g := ⟨_, rfl⟩
  rw [hgbo0] at bo0 hzbo0
  try rw [hgbo0]
  clear hgbo0
  clear hzbo0
  refine (of_any 1 1 Wbo0).mono ?_
  rintro e o3_ ⟨rfl, rfl⟩
  go_wp2_with fail
  have bo1 : BK (Wbo0.alloc (.cells #[.int .i64 1, .int .i64 1] 25)) Wbo0.heap.size #[.int .i64 1, .int .i64 1] 25 := BK.new _ _ _
  have hC2 : Below w2.heap.size w2 (Wbo0.alloc (.cells #[.int .i64 1, .int .i64 1] 25)) := by have := hC.size; exact bel_of
  clear hC; have hC := hC2; clear hC2
  have hzbo1 : (Wbo0.alloc (.cells #[.int .i64 1, .int .i64 1] 25)).heap.size = Wbo0.heap.size + 1 := by simp
  have bw_ := bw.alloc (.cells #[.int .i64 1, .int .i64 1] 25); clear bw; have bw := bw_; clear bw_
  have bv_ := bv.alloc (.cells #[.int .i64 1, .int .i64 1] 25); clear bv; have bv := bv_; clear bv_
  have hk_ := (RS.below hk (w' := (Wbo0.alloc (.cells #[.int .i64 1, .int .i64 1] 25))) (by exact bel_of)).more (B' := (Wbo0.alloc (.cells #[.int .i64 1, .int .i64 1] 25)).heap.size) (by simp); clear hk; have hk := hk_; clear hk_
  have hh_ := (RS.below hh (w' := (Wbo0.alloc (.cells #[.int .i64 1, .int .i64 1] 25))) (by exact bel_of)).more (B' := (Wbo0.alloc (.cells #[.int .i64 1, .int .i64 1] 25)).heap.size) (by simp); clear hh; have hh := hh_; clear hh_
  have bc_ := bc.alloc (.cells #[.int .i64 1, .int .i64 1] 25); clear bc; have bc := bc_; clear bc_
  have bs_ := bs.alloc (.cells #[.int .i64 1, .int .i64 1] 25); clear bs; have bs := bs_; clear bs_
  have bz_ := bz.alloc (.cells #[.int .i64 1, .int .i64 1] 25); clear bz; have bz := bz_; clear bz_
  have bq_ := bq.alloc (.cells #[.int .i64 1, .int .i64 1] 25); clear bq; have bq := bq_; clear bq_
  have bo_ := bo.alloc (.cells #[.int .i64 1, .int .i64 1] 25); clear bo; have bo := bo_; clear bo_
  have hx_ := (RS.below hx (w' := (Wbo0.alloc (.cells #[.int .i64 1, .int .i64 1] 25))) (by exact bel_of)).more (B' := (Wbo0.alloc (.cells #[.int .i64 1, .int .i64 1] 25)).heap.size) (by simp); clear hx; have hx := hx_; clear hx_
  have br_ := br.alloc (.cells #[.int .i64 1, .int .i64 1] 25); clear br; have br := br_; clear br_
  have bt_ := bt.alloc (.cells #[.int .i64 1, .int .i64 1] 25); clear bt; have bt := bt_; clear bt_
  have bu_ := bu.alloc (.cells #[.int .i64 1, .int .i64 1] 25); clear bu; have bu := bu_; clear bu_
  have bY_ := bY.alloc (.cells #[.int .i64 1, .int .i64 1] 25); clear bY; have bY := bY_; clear bY_
  have bg_ := bg.alloc (.cells #[.int .i64 1, .int .i64 1] 25); clear bg; have bg := bg_; clear bg_
  have bo0_ := bo0.alloc (.cells #[.int .i64 1, .int .i64 1] 25); clear bo0; have bo0 := bo0_; clear bo0_
  generalize (Wbo0.alloc (.cells #[.int .i64 1, .int .i64 1] 25)) = Wbo1 at *
  obtain ⟨gbo1, hgbo1⟩ : ∃ g, Wbo0.heap.size = g := ⟨_, rfl⟩
  rw [hgbo1] at bo1 hzbo1
  try rw [hgbo1]
  clear hgbo1
  clear hzbo1
  refine (of_any 1 1 Wbo1).mono ?_
  rintro e o4_ ⟨rfl, rfl⟩
  go_wp2_with fail
  have bo2 : BK (Wbo1.alloc (.cells #[.int .i64 1, .int .i64 1] 25)) Wbo1.heap.size #[.int .i64 1, .int .i64 1] 25 := BK.new _ _ _
  have hC2 : Below w2.heap.size w2 (Wbo1.alloc (.cells #[.int .i64 1, .int .i64 1] 25)) := by have := hC.size; exact bel_of
  clear hC; have hC := hC2; clear hC2
  have hzbo2 : (Wbo1.alloc (.cells #[.int .i64 1, .int .i64 1] 25)).heap.size = Wbo1.heap.size + 1 := by simp
  have bw_ := bw.alloc (.cells #[.int .i64 1, .int .i64 1] 25); clear bw; have bw := bw_; clear bw_
  have bv_ := bv.alloc (.cells #[.int .i64 1, .int .i64 1] 25); clear bv; have bv := bv_; clear bv_
  have hk_ := (RS.below hk (w' := (Wbo1.alloc (.cells #[.int .i64 1, .int .i64 1] 25))) (by exact bel_of)).more (B' := (Wbo1.alloc (.cells #[.int .i64 1, .int .i64 1] 25)).heap.size) (by simp); clear hk; have hk := hk_; clear hk_
  have hh_ := (RS.below hh (w' := (Wbo1.alloc (.cells #[.int .i64 1, .int .i64 1] 25))) (by exact bel_of)).more (B' := (Wbo1.alloc (.cells #[.int .i64 1, .int .i64 1] 25)).heap.size) (by simp); clear hh; have hh := hh_; clear hh_
  have bc_ := bc.alloc (.cells #[.int .i64 1, .int .i64 1] 25); clear bc; have bc := bc_; clear bc_
  have bs_ := bs.alloc (.cells #[.int .i64 1, .int .i64 1] 25); clear bs; have bs := bs_; clear bs_
  have bz_ := bz.alloc (.cells #[.int .i64 1, .int .i64 1] 25); clear bz; have bz := bz_; clear bz_
  have bq_ := bq.alloc (.cells #[.int .i64 1, .int .i64 1] 25); clear bq; have bq := bq_; clear bq_
  have bo_ := bo.alloc (.cells #[.int .i64 1, .int .i64 1] 25); clear bo; have bo := bo_; clear bo_
  have hx_ := (RS.below hx (w' := (Wbo1.alloc (.cells #[.int .i64 1, .int .i64 1] 25))) (by exact bel_of)).more (B' := (Wbo1.alloc (.cells #[.int .i64 1, .int .i64 1] 25)).heap.size) (by simp); clear hx; have hx := hx_; clear hx_
  have br_ := br.alloc (.cells #[.int .i64 1, .int .i64 1] 25); clear br; have br := br_; clear br_
  have bt_ := bt.alloc (.cells #[.int .i64 1, .int .i64 1] 25); clear bt; have bt := bt_; clear bt_
  have bu_ := bu.alloc (.cells #[.int .i64 1, .int .i64 1] 25); clear bu; have bu := bu_; clear bu_
  have bY_ := bY.alloc (.cells #[.int .i64 1, .int .i64 1] 25); clear bY; have bY := bY_; clear bY_
  have bg_ := bg.alloc (.cells #[.int .i64 1, .int .i64 1] 25); clear bg; have bg := bg_; clear bg_
  have bo0_ := bo0.alloc (.cells #[.int .i64 1, .int .i64 1] 25); clear bo0; have bo0 := bo0_; clear bo0_
  have bo1_ := bo1.alloc (.cells #[.int .i64 1, .int .i64 1] 25); clear bo1; have bo1 := bo1_; clear bo1_
  generalize (Wbo1.alloc (.cells #[.int .i64 1, .int .i64 1] 25)) = Wbo2 at *
  obtain ⟨gbo2, hgbo2⟩ : ∃ g, Wbo1.heap.size = g := ⟨_, rfl⟩
  rw [hgbo2] at bo2 hzbo2
  try rw [hgbo2]
  clear hgbo2
  clear hzbo2
  refine (of_any 10 1 Wbo2).mono ?_
  rintro e o5_ ⟨rfl, rfl⟩
  go_wp2_with fail
  have bo3 : BK (Wbo2.alloc (.cells #[.int .i64 10, .int .i64 1] 25)) Wbo2.heap.size #[.int .i64 10, .int .i64 1] 25 := BK.new _ _ _
  have hC2 : Below w2.heap.size w2 (Wbo2.alloc (.cells #[.int .i64 10, .int .i64 1] 25)) := by have := hC.size; exact bel_of
  clear hC; have hC := hC2; clear hC2
  have hzbo3 : (Wbo2.alloc (.cells #[.int .i64 10, .int .i64 1] 25)).heap.size = Wbo2.heap.size + 1 := by simp
  have bw_ := bw.alloc (.cells #[.int .i64 10, .int .i64 1] 25); clear bw; have bw := bw_; clear bw_
  have bv_ := bv.alloc (.cells #[.int .i64 10, .int .i64 1] 25); clear bv; have bv := bv_; clear bv_
  have hk_ := (RS.below hk (w' := (Wbo2.alloc (.cells #[.int .i64 10, .int .i64 1] 25))) (by exact bel_of)).more (B' := (Wbo2.alloc (.cells #[.int .i64 10, .int .i64 1] 25)).heap.size) (by simp); clear hk; have hk := hk_; clear hk_
  have hh_ := (RS.below hh (w' := (Wbo2.alloc (.cells #[.int .i64 10, .int .i64 1] 25))) (by exact bel_of)).more (B' := (Wbo2.alloc (.cells #[.int .i64 10, .int .i64 1] 25)).heap.size) (by simp); clear hh; have hh := hh_; clear hh_
  have bc_ := bc.alloc (.cells #[.int .i64 10, .int .i64 1] 25); clear bc; have bc := bc_; clear bc_
  have bs_ := bs.alloc (.cells #[.int .i64 10, .int .i64 1] 25); clear bs; have bs := bs_; clear bs_
  have bz_ := bz.alloc (.cells #[.int .i64 10, .int .i64 1] 25); clear bz; have bz := bz_; clear bz_
  have bq_ := bq.alloc (.cells #[.int .i64 10, .int .i64 1] 25); clear bq; have bq := bq_; clear bq_
  have bo_ := bo.alloc (.cells #[.int .i64 10, .int .i64 1] 25); clear bo; have bo := bo_; clear bo_
  have hx_ := (RS.below hx (w' := (Wbo2.alloc (.cells #[.int .i64 10, .int .i64 1] 25))) (by exact bel_of)).more (B' := (Wbo2.alloc (.cells #[.int .i64 10, .int .i64 1] 25)).heap.size) (by simp); clear hx; have hx := hx_; clear hx_
  have br_ := br.alloc (.cells #[.int .i64 10, .int .i64 1] 25); clear br; have br := br_; clear br_
  have bt_ := bt.alloc (.cells #[.int .i64 10, .int .i64 1] 25); clear bt; have bt := bt_; clear bt_
  have bu_ := bu.alloc (.cells #[.int .i64 10, .int .i64 1] 25); clear bu; have bu := bu_; clear bu_
  have bY_ := bY.alloc (.cells #[.int .i64 10, .int .i64 1] 25); clear bY; have bY := bY_; clear bY_
  have bg_ := bg.alloc (.cells #[.int .i64 10, .int .i64 1] 25); clear bg; have bg := bg_; clear bg_
  have bo0_ := bo0.alloc (.cells #[.int .i64 10, .int .i64 1] 25); clear bo0; have bo0 := bo0_; clear bo0_
  have bo1_ := bo1.alloc (.cells #[.int .i64 10, .int .i64 1] 25); clear bo1; have bo1 := bo1_; clear bo1_
  have bo2_ := bo2.alloc (.cells #[.int .i64 10, .int .i64 1] 25); clear bo2; have bo2 := bo2_; clear bo2_
  generalize (Wbo2.alloc (.cells #[.int .i64 10, .int .i64 1] 25)) = Wbo3 at *
  obtain ⟨gbo3, hgbo3⟩ : ∃ g, Wbo2.heap.size = g := ⟨_, rfl⟩
  rw [hgbo3] at bo3 hzbo3
  try rw [hgbo3]
  clear hgbo3
  have bl : BK (Wbo3.alloc (.cells #[.int .i64 0, .int .i64 1, .int .i64 1, .int .i64 1, .int .i64 1, .int .i64 1, .int .i64 10, .int .i64 1] 25)) Wbo3.heap.size #[.int .i64 0, .int .i64 1, .int .i64 1, .int .i64 1, .int .i64 1, .int .i64 1, .int .i64 10, .int .i64 1] 25 := BK.new _ _ _
  have hC2 : Below w2.heap.size w2 (Wbo3.alloc (.cells #[.int .i64 0, .int .i64 1, .int .i64 1, .int .i64 1, .int .i64 1, .int .i64 1, .int .i64 10, .int .i64 1] 25)) := by have := hC.size; exact bel_of
  clear hC; have hC := hC2; clear hC2
  have hzbl : (Wbo3.alloc (.cells #[.int .i64 0, .int .i64 1, .int .i64 1, .int .i64 1, .int .i64 1, .int .i64 1, .int .i64 10, .int .i64 1] 25)).heap.size = Wbo3.heap.size + 1 := by simp
  have bw_ := bw.alloc (.cells #[.int .i64 0, .int .i64 1, .int .i64 1, .int .i64 1, .int .i64 1, .int .i64 1, .int .i64 10, .int .i64 1] 25); clear bw; have bw := bw_; clear bw_
  have bv_ := bv.alloc (.cells #[.int .i64 0, .int .i64 1, .int .i64 1, .int .i64 1, .int .i64 1, .int .i64 1, .int .i64 10, .int .i64 1] 25); clear bv; have bv := bv_; clear bv_
  have hk_ := (RS.below hk (w' := (Wbo3.alloc (.cells #[.int .i64 0, .int .i64 1, .int .i64 1, .int .i64 1, .int .i64 1, .int .i64 1, .int .i64 10, .int .i64 1] 25))) (by exact bel_of)).more (B' := (Wbo3.alloc (.cells #[.int .i64 0, .int .i64 1, .int .i64 1, .int .i64 1, .int .i64 1, .int .i64 1, .int .i64 10, .int .i64 1] 25)).heap.size) (by simp); clear hk; have hk := hk_; clear hk_
  have hh_ := (RS.below hh (w' := (Wbo3.alloc (.cells #[.int .i64 0, .int .i64 1, .int .i64 1, .int .i64 1, .int .i64 1, .int .i64 1, .int .i64 10, .int .i64 1] 25))) (by exact bel_of)).more (B' := (Wbo3.alloc (.cells #[.int .i64 0, .int .i64 1, .int .i64 1, .int .i64 1, .int .i64 1, .int .i64 1, .int .i64 10, .int .i64 1] 25)).heap.size) (by simp); clear hh; have hh := hh_; clear hh_
  have bc_ := bc.alloc (.cells #[.int .i64 0, .int .i64 1, .int .i64 1, .int .i64 1, .int .i64 1, .int .i64 1, .int .i64 10, .int .i64 1] 25); clear bc; have bc := bc_; clear bc_
  have bs_ := bs.alloc (.cells #[.int .i64 0, .int .i64 1, .int .i64 1, .int .i64 1, .int .i64 1, .int .i64 1, .int .i64 10, .int .i64 1] 25); clear bs; have bs := bs_; clear bs_
  have bz_ := bz.alloc (.cells #[.int .i64 0, .int .i64 1, .int .i64 1, .int .i64 1, .int .i64 1, .int .i64 1, .int .i64 10, .int .i64 1] 25); clear bz; have bz := bz_; clear bz_
  have bq_ := bq.alloc (.cells #[.int .i64 0, .int .i64 1, .int .i64 1, .int .i64 1, .int .i64 1, .int .i64 1, .int .i64 10, .int .i64 1] 25); clear bq; have bq := bq_; clear bq_
  have bo_ := bo.alloc (.cells #[.int .i64 0, .int .i64 1, .int .i64 1, .int .i64 1, .int .i64 1, .int .i64 1, .int .i64 10, .int .i64 1] 25); clear bo; have bo := bo_; clear bo_
  have hx_ := (RS.below hx (w' := (Wbo3.alloc (.cells #[.int .i64 0, .int .i64 1, .int .i64 1, .int .i64 1, .int .i64 1, .int .i64 1, .int .i64 10, .int .i64 1] 25))) (by exact bel_of)).more (B' := (Wbo3.alloc (.cells #[.int .i64 0, .int .i64 1, .int .i64 1, .int .i64 1, .int .i64 1, .int .i64 1, .int .i64 10, .int .i64 1] 25)).heap.size) (by simp); clear hx; have hx := hx_; clear hx_
  have br_ := br.alloc (.cells #[.int .i64 0, .int .i64 1, .int .i64 1, .int .i64 1, .int .i64 1, .int .i64 1, .int .i64 10, .int .i64 1] 25); clear br; have br := br_; clear br_
  have bt_ := bt.alloc (.cells #[.int .i64 0, .int .i64 1, .int .i64 1, .int .i64 1, .int .i64 1, .int .i64 1, .int .i64 10, .int .i64 1] 25); clear bt; have bt := bt_; clear bt_
  have bu_ := bu.alloc (.cells #[.int .i64 0, .int .i64 1, .int .i64 1, .int .i64 1, .int .i64 1, .int .i64 1, .int .i64 10, .int .i64 1] 25); clear bu; have bu := bu_; clear bu_
  have bY_ := bY.alloc (.cells #[.int .i64 0, .int .i64 1, .int .i64 1, .int .i64 1, .int .i64 1, .int .i64 1, .int .i64 10, .int .i64 1] 25); clear bY; have bY := bY_; clear bY_
  have bg_ := bg.alloc (.cells #[.int .i64 0, .int .i64 1, .int .i64 1, .int .i64 1, .int .i64 1, .int .i64 1, .int .i64 10, .int .i64 1] 25); clear bg; have bg := bg_; clear bg_
  have bo0_ := bo0.alloc (.cells #[.int .i64 0, .int .i64 1, .int .i64 1, .int .i64 1, .int .i64 1, .int .i64 1, .int .i64 10, .int .i64 1] 25); clear bo0; have bo0 := bo0_; clear bo0_
  have bo1_ := bo1.alloc (.cells #[.int .i64 0, .int .i64 1, .int .i64 1, .int .i64 1, .int .i64 1, .int .i64 1, .int .i64 10, .int .i64 1] 25); clear bo1; have bo1 := bo1_; clear bo1_
  have bo2_ := bo2.alloc (.cells #[.int .i64 0, .int .i64 1, .int .i64 1, .int .i64 1, .int .i64 1, .int .i64 1, .int .i64 10, .int .i64 1] 25); clear bo2; have bo2 := bo2_; clear bo2_
  have bo3_ := bo3.alloc (.cells #[.int .i64 0, .int .i64 1, .int .i64 1, .int .i64 1, .int .i64 1, .int .i64 1, .int .i64 10, .int .i64 1] 25); clear bo3; have bo3 := bo3_; clear bo3_
  generalize (Wbo3.alloc (.cells #[.int .i64 0, .int .i64 1, .int .i64 1, .int .i64 1, .int .i64 1, .int .i64 1, .int .i64 10, .int .i64 1] 25)) = Wbl at *
  obtain ⟨gbl, hgbl⟩ : ∃ g, Wbo3.heap.size = g := ⟨_, rfl⟩
  rw [hzbo3] at hgbl
  rw [hzbo3, hgbl] at bl hzbl
  rw [hgbl]
  clear hgbl
  clear hzbl
  clear hzbo3
  refine (checkHeightsP_any pairQ [⟨0, 1⟩, ⟨1, 1⟩, ⟨1, 1⟩, ⟨10, 1⟩] vq (.slice (some ⟨gbl, 0, none⟩) 4 4) Wbl (by decide) (by decide) (HQ.out Wbl hC) (rra_new bl (by simp [ofR]) 4 rfl)).mono ?_
  rintro e w16 ⟨rfl, hb⟩
  have hC2 : Below w2.heap.size w2 w16 := hC.trans (hb.mono hC.size)
  clear hC; have hC := hC2; clear hC2
  have bw_ := bw.below hb bw.lt; clear bw; have bw := bw_; clear bw_
  have bv_ := bv.below hb bv.lt; clear bv; have bv := bv_; clear bv_
  have hk_ := (RS.below hk hb).more hb.size; clear hk; have hk := hk_; clear hk_
  have hh_ := (RS.below hh hb).more hb.size; clear hh; have hh := hh_; clear hh_
  have bc_ := bc.below hb bc.lt; clear bc; have bc := bc_; clear bc_
  have bs_ := bs.below hb bs.lt; clear bs; have bs := bs_; clear bs_
  have bz_ := bz.below hb bz.lt; clear bz; have bz := bz_; clear bz_
  have bq_ := bq.below hb bq.lt; clear bq; have bq := bq_; clear bq_
  have bo_ := bo.below hb bo.lt; clear bo; have bo := bo_; clear bo_
  have hx_ := (RS.below hx hb).more hb.size; clear hx; have hx := hx_; clear hx_
  have br_ := br.below hb br.lt; clear br; have br := br_; clear br_
  have bt_ := bt.below hb bt.lt; clear bt; have bt := bt_; clear bt_
  have bu_ := bu.below hb bu.lt; clear bu; have bu := bu_; clear bu_
  have bY_ := bY.below hb bY.lt; clear bY; have bY := bY_; clear bY_
  have bg_ := bg.below hb bg.lt; clear bg; have bg := bg_; clear bg_
  have bo0_ := bo0.below hb bo0.lt; clear bo0; have bo0 := bo0_; clear bo0_
  have bo1_ := bo1.below hb bo1.lt; clear bo1; have bo1 := bo1_; clear bo1_
  have bo2_ := bo2.below hb bo2.lt; clear bo2; have bo2 := bo2_; clear bo2_
  have bo3_ := bo3.below hb bo3.lt; clear bo3; have bo3 := bo3_; clear bo3_
  have bl_ := bl.below hb bl.lt; clear bl; have bl := bl_; clear bl_
  clear hb
  rw [ex_check2]
  go_wp2_with fail
  have hCz := hC.size
  have lbw := bw.lt
  have bwc0 := bw.cell 0
  have bwc1 := bw.cell 1
  have bwc2 := bw.cell 2
  simp at bwc0 bwc1 bwc2
  have lbc := bc.lt
  have bcc0 := bc.cell 0
  have bcc1 := bc.cell 1
  have bcc2 := bc.cell 2
  have bcc3 := bc.cell 3
  simp at bcc0 bcc1 bcc2 bcc3
  have lbs := bs.lt
  have bsc0 := bs.cell 0
  have bsc1 := bs.cell 1
  have bsc2 := bs.cell 2
  have bsc3 := bs.cell 3
  simp at bsc0 bsc1 bsc2 bsc3
  have lbt := bt.lt
  have btc0 := bt.cell 0
  have btc1 := bt.cell 1
  have btc2 := bt.cell 2
  have btc3 := bt.cell 3
  simp at btc0 btc1 btc2 btc3
  have lbg := bg.lt
  have bgc0 := bg.cell 0
  have bgc1 := bg.cell 1
  have bgc2 := bg.cell 2
  have bgc3 := bg.cell 3
  simp at bgc0 bgc1 bgc2 bgc3
  refine wp_region_noPanic (plain_any [0, 1, 2, 3, 4, 7, 8, 9, 16, 17, 18, 20, 21, 22, 23, 25, 26, 27, 28, 31, 32, 33, 35, 36, 37, 38, 40, 41] (Below w16.heap.size w16) mixed ?_)
  (refine any_take 0 ?_ (by rfl) (by kernel_rfl) (fun _ _ _ _ _ hx => hx.elim) (.inl ⟨by rfl, ?_⟩) (by exact bel_of) ?_; rotate_left; (intro X hX; obtain ⟨r1, r2⟩ := Below.rules hX; clear hX; go_simp; rfl); simp only [Act.put, List.setIfInBounds_toArray, List.set_cons_succ, List.set_cons_zero])
  (refine any_take 1 ?_ (by rfl) (by kernel_rfl) (fun _ _ _ _ _ hx => hx.elim) (.inl ⟨by rfl, ?_⟩) (by exact bel_of) ?_; rotate_left; (intro X hX; obtain ⟨r1, r2⟩ := Below.rules hX; clear hX; go_simp; rfl); simp only [Act.put, List.setIfInBounds_toArray, List.set_cons_succ, List.set_cons_zero])
  (refine any_take 2 ?_ (by rfl) (by kernel_rfl) (fun _ _ _ _ _ hx => hx.elim) (.inl ⟨by rfl, ?_⟩) (by exact bel_of) ?_; rotate_left; (intro X hX; obtain ⟨r1, r2⟩ := Below.rules hX; clear hX; go_simp; rfl); simp only [Act.put, List.setIfInBounds_toArray, List.set_cons_succ, List.set_cons_zero])
  (refine any_take 3 ?_ (by rfl) (by kernel_rfl) (fun _ _ _ _ _ hx => hx.elim) (.inl ⟨by rfl, ?_⟩) (by exact bel_of) ?_; rotate_left; (intro X hX; obtain ⟨r1, r2⟩ := Below.rules hX; clear hX; go_simp; rfl); simp only [Act.put, List.setIfInBounds_toArray, List.set_cons_succ, List.set_cons_zero])
  (refine any_take 4 ?_ (by rfl) (by kernel_rfl) (fun _ _ _ _ _ hx => hx.elim) (.inl ⟨by rfl, ?_⟩) (by exact bel_of) ?_; rotate_left; (intro X hX; obtain ⟨r1, r2⟩ := Below.rules hX; clear hX; go_simp; rfl); simp only [Act.put, List.setIfInBounds_toArray, List.set_cons_succ, List.set_cons_zero])
  have d0 : Below w16.heap.size w16 w16.drew := by exact bel_of
  have hd1 : Below w16.heap.size w16 (w16.drew.alloc (.cells #[.int .i64 2, .int .i64 1, .int .i64 2, .int .i64 2] 3)) := by exact bel_of
  refine any_run1 (i := 5) (by kernel_rfl) (by rfl) (by kernel_rfl) ?_
  intro K hK
  go_wp2_with fail
  refine hK _ _ (fun _ => hd1) ?_
  clear hK K
  refine any_run1 (i := 6) (by kernel_rfl) (by rfl) (by kernel_rfl) ?_
  intro K hK
  go_wp2_with fail
  refine (ints_any [2, 1, 2, 2] [2, 1, 2, 2] vk _ _ (by decide) (by decide) ((RS.below hk hd1).more hd1.size) (ri_new (BK.new _ _ _) (by simp [ofI]) 4 rfl)).mono ?_
  rintro e v1 ⟨rfl, hb⟩
  rw [show decide (([2, 1, 2, 2] : List Int) = [2, 1, 2, 2]) = true from by decide]
  have e1 : Below w16.heap.size w16 v1 := hd1.trans (hb.mono hd1.size)
  clear hb
  refine hK _ _ (fun _ => e1) ?_
  clear hK K
  (refine any_take 7 ?_ (by rfl) (by kernel_rfl) (fun _ _ _ _ _ hx => hx.elim) (.inl ⟨by rfl, ?_⟩) (by exact bel_of) ?_; rotate_left; (intro X hX; obtain ⟨r1, r2⟩ := Below.rules hX; clear hX; go_simp; rfl); simp only [Act.put, List.setIfInBounds_toArray, List.set_cons_succ, List.set_cons_zero])
  (refine any_take 8 ?_ (by rfl) (by kernel_rfl) (fun _ _ _ _ _ hx => hx.elim) (.inl ⟨by rfl, ?_⟩) (by exact bel_of) ?_; rotate_left; (intro X hX; obtain ⟨r1, r2⟩ := Below.rules hX; clear hX; go_simp; rfl); simp only [Act.put, List.setIfInBounds_toArray, List.set_cons_succ, List.set_cons_zero])
  (refine any_take 9 ?_ (by rfl) (by kernel_rfl) (fun _ _ _ _ _ hx => hx.elim) (.inl ⟨by rfl, ?_⟩) (by exact bel_of) ?_; rotate_left; (intro X hX; obtain ⟨r1, r2⟩ := Below.rules hX; clear hX; go_simp; rfl); simp only [Act.put, List.setIfInBounds_toArray, List.set_cons_succ, List.set_cons_zero])
  have q2 := e1.size
  refine any_run1 (i := 10) (by kernel_rfl) (by rfl) (by kernel_rfl) ?_
  intro K hK
  go_wp2_with fail
  refine (of_any 0 1 _).mono ?_
  rintro e v2 ⟨rfl, hv⟩
  have e2 : Below w16.heap.size w16 v2 := by rw [← hv]; exact bel_of
  clear hv
  refine hK _ _ (fun _ => e2) ?_
  clear hK K
  have q3 := e2.size
  refine any_run1 (i := 11) (by kernel_rfl) (by rfl) (by kernel_rfl) ?_
  intro K hK
  go_wp2_with fail
  refine (of_any 1 2 _).mono ?_
  rintro e v3 ⟨rfl, hv⟩
  have e3 : Below w16.heap.size w16 v3 := by rw [← hv]; exact bel_of
  clear hv
  refine hK _ _ (fun _ => e3) ?_
  clear hK K
  have q4 := e3.size
  refine any_run1 (i := 12) (by kernel_rfl) (by rfl) (by kernel_rfl) ?_
  intro K hK
  go_wp2_with fail
  refine (of_any 1 1 _).mono ?_
  rintro e v4 ⟨rfl, hv⟩
  have e4 : Below w16.heap.size w16 v4 := by rw [← hv]; exact bel_of
  clear hv
  refine hK _ _ (fun _ => e4) ?_
  clear hK K
  have q5 := e4.size
  refine any_run1 (i := 13) (by kernel_rfl) (by rfl) (by kernel_rfl) ?_
  intro K hK
  go_wp2_with fail
  refine (of_any 10 1 _).mono ?_
  rintro e v5 ⟨rfl, hv⟩
  have e5 : Below w16.heap.size w16 v5 := by rw [← hv]; exact bel_of
  clear hv
  refine hK _ _ (fun _ => e5) ?_
  clear hK K
  have q6 := e5.size
  have e6 : Below w16.heap.size w16 (v5.alloc (.cells #[.int .i64 0, .int .i64 1, .int .i64 1, .int .i64 2, .int .i64 1, .int .i64 1, .int .i64 10, .int .i64 1] 25)) := by exact bel_of
  refine any_run1 (i := 14) (by kernel_rfl) (by rfl) (by kernel_rfl) ?_
  intro K hK
  go_wp2_with fail
  refine hK _ _ (fun _ => e6) ?_
  clear hK K
  refine any_run1 (i := 15) (by kernel_rfl) (by rfl) (by kernel_rfl) ?_
  intro K hK
  go_wp2_with fail
  refine (ratios_any [⟨0, 1⟩, ⟨1, 2⟩, ⟨1, 1⟩, ⟨10, 1⟩] [⟨0, 1⟩, ⟨1, 2⟩, ⟨1, 1⟩, ⟨10, 1⟩] vh _ _ (by decide) (by decide) ((RS.below hh e6).more e6.size) (rra_new (BK.new _ _ _) (by simp [ofR]) 4 rfl)).mono ?_
  rintro e v7 ⟨rfl, hb⟩
  rw [show decide (([⟨0, 1⟩, ⟨1, 2⟩, ⟨1, 1⟩, ⟨10, 1⟩] : List Ra) = [⟨0, 1⟩, ⟨1, 2⟩, ⟨1, 1⟩, ⟨10, 1⟩]) = true from by decide]
  have e7 : Below w16.heap.size w16 v7 := e6.trans (hb.mono e6.size)
  clear hb
  refine hK _ _ (fun _ => e7) ?_
  clear hK K
  (refine any_take 16 ?_ (by rfl) (by kernel_rfl) (fun _ _ _ _ _ hx => hx.elim) (.inl ⟨by rfl, ?_⟩) (by exact bel_of) ?_; rotate_left; (intro X hX; obtain ⟨r1, r2⟩ := Below.rules hX; clear hX; go_simp; rfl); simp only [Act.put, List.setIfInBounds_toArray, List.set_cons_succ, List.set_cons_zero])
  (refine any_take 17 ?_ (by rfl) (by kernel_rfl) (fun _ _ _ _ _ hx => hx.elim) (.inl ⟨by rfl, ?_⟩) (by exact bel_of) ?_; rotate_left; (intro X hX; obtain ⟨r1, r2⟩ := Below.rules hX; clear hX; go_simp; rfl); simp only [Act.put, List.setIfInBounds_toArray, List.set_cons_succ, List.set_cons_zero])
  (refine any_take 18 ?_ (by rfl) (by kernel_rfl) (fun _ _ _ _ _ hx => hx.elim) (.inl ⟨by rfl, ?_⟩) (by exact bel_of) ?_; rotate_left; (intro X hX; obtain ⟨r1, r2⟩ := Below.rules hX; clear hX; go_simp; rfl); simp only [Act.put, List.setIfInBounds_toArray, List.set_cons_succ, List.set_cons_zero])
  have q8 := e7.size
  refine any_run1 (i := 19) (by kernel_rfl) (by rfl) (by kernel_rfl) ?_
  intro K hK
  go_wp2_with fail
  refine (lawSpan_any (-1) 5 3 10 _).mono ?_
  rintro e v8 ⟨rfl, hv⟩
  have e8 : Below w16.heap.size w16 v8 := by rw [← hv]; exact bel_of
  clear hv
  refine hK _ _ (fun _ => e8) ?_
  clear hK K
  (refine any_take 20 ?_ (by rfl) (by kernel_rfl) (fun _ _ _ _ _ hx => hx.elim) (.inl ⟨by rfl, ?_⟩) (by exact bel_of) ?_; rotate_left; (intro X hX; obtain ⟨r1, r2⟩ := Below.rules hX; clear hX; go_simp; rfl); simp only [Act.put, List.setIfInBounds_toArray, List.set_cons_succ, List.set_cons_zero])
  (refine any_take 21 ?_ (by rfl) (by kernel_rfl) (fun _ _ _ _ _ hx => hx.elim) (.inl ⟨by rfl, ?_⟩) (by exact bel_of) ?_; rotate_left; (intro X hX; obtain ⟨r1, r2⟩ := Below.rules hX; clear hX; go_simp; rfl); simp only [Act.put, List.setIfInBounds_toArray, List.set_cons_succ, List.set_cons_zero])
  (refine any_take 22 ?_ (by rfl) (by kernel_rfl) (fun _ _ _ _ _ hx => hx.elim) (.inl ⟨by rfl, ?_⟩) (by exact bel_of) ?_; rotate_left; (intro X hX; obtain ⟨r1, r2⟩ := Below.rules hX; clear hX; go_simp; rfl); simp only [Act.put, List.setIfInBounds_toArray, List.set_cons_succ, List.set_cons_zero])
  (refine any_take 23 ?_ (by rfl) (by kernel_rfl) (fun _ _ _ _ _ hx => hx.elim) (.inl ⟨by rfl, ?_⟩) (by exact bel_of) ?_; rotate_left; (intro X hX; obtain ⟨r1, r2⟩ := Below.rules hX; clear hX; go_simp; rfl); simp only [Act.put, List.setIfInBounds_toArray, List.set_cons_succ, List.set_cons_zero])
  have q9 := e8.size
  refine any_run1 (i := 24) (by kernel_rfl) (by rfl) (by kernel_rfl) ?_
  intro K hK
  go_wp2_with fail
  refine (lawSpan_any 3 10 7 20 _).mono ?_
  rintro e v9 ⟨rfl, hv⟩
  have e9 : Below w16.heap.size w16 v9 := by rw [← hv]; exact bel_of
  clear hv
  refine hK _ _ (fun _ => e9) ?_
  clear hK K
  (refine any_take 25 ?_ (by rfl) (by kernel_rfl) (fun _ _ _ _ _ hx => hx.elim) (.inl ⟨by rfl, ?_⟩) (by exact bel_of) ?_; rotate_left; (intro X hX; obtain ⟨r1, r2⟩ := Below.rules hX; clear hX; go_simp; rfl); simp only [Act.put, List.setIfInBounds_toArray, List.set_cons_succ, List.set_cons_zero])
  (refine any_take 26 ?_ (by rfl) (by kernel_rfl) (fun _ _ _ _ _ hx => hx.elim) (.inl ⟨by rfl, ?_⟩) (by exact bel_of) ?_; rotate_left; (intro X hX; obtain ⟨r1, r2⟩ := Below.rules hX; clear hX; go_simp; rfl); simp only [Act.put, List.setIfInBounds_toArray, List.set_cons_succ, List.set_cons_zero])
  (refine any_take 27 ?_ (by rfl) (by kernel_rfl) (fun _ _ _ _ _ hx => hx.elim) (.inl ⟨by rfl, ?_⟩) (by exact bel_of) ?_; rotate_left; (intro X hX; obtain ⟨r1, r2⟩ := Below.rules hX; clear hX; go_simp; rfl); simp only [Act.put, List.setIfInBounds_toArray, List.set_cons_succ, List.set_cons_zero])
  (refine any_take 28 ?_ (by rfl) (by kernel_rfl) (fun _ _ _ _ _ hx => hx.elim) (.inl ⟨by rfl, ?_⟩) (by exact bel_of) ?_; rotate_left; (intro X hX; obtain ⟨r1, r2⟩ := Below.rules hX; clear hX; go_simp; rfl); simp only [Act.put, List.setIfInBounds_toArray, List.set_cons_succ, List.set_cons_zero])
  have q10 := e9.size
  have ea : Below w16.heap.size w16 (v9.alloc (.cells #[.int .i64 1, .int .i64 2] 3)) := by exact bel_of
  refine any_run1 (i := 29) (by kernel_rfl) (by rfl) (by kernel_rfl) ?_
  intro K hK
  go_wp2_with fail
  refine hK _ _ (fun _ => ea) ?_
  clear hK K
  refine any_run1 (i := 30) (by kernel_rfl) (by rfl) (by kernel_rfl) ?_
  intro K hK
  go_wp2_with fail
  refine (ints_any [1, 2] [1, 2] vx _ _ (by decide) (by decide) ((RS.below hx ea).more ea.size) (ri_new (BK.new _ _ _) (by simp [ofI]) 2 rfl)).mono ?_
  rintro e vb ⟨rfl, hb⟩
  rw [show decide (([1, 2] : List Int) = [1, 2]) = true from by decide]
  have eb : Below w16.heap.size w16 vb := ea.trans (hb.mono ea.size)
  clear hb
  refine hK _ _ (fun _ => eb) ?_
  clear hK K
  (refine any_take 31 ?_ (by rfl) (by kernel_rfl) (fun _ _ _ _ _ hx => hx.elim) (.inl ⟨by rfl, ?_⟩) (by exact bel_of) ?_; rotate_left; (intro X hX; obtain ⟨r1, r2⟩ := Below.rules hX; clear hX; go_simp; rfl); simp only [Act.put, List.setIfInBounds_toArray, List.set_cons_succ, List.set_cons_zero])
  (refine any_take 32 ?_ (by rfl) (by kernel_rfl) (fun _ _ _ _ _ hx => hx.elim) (.inl ⟨by rfl, ?_⟩) (by exact bel_of) ?_; rotate_left; (intro X hX; obtain ⟨r1, r2⟩ := Below.rules hX; clear hX; go_simp; rfl); simp only [Act.put, List.setIfInBounds_toArray, List.set_cons_succ, List.set_cons_zero])
  (refine any_take 33 ?_ (by rfl) (by kernel_rfl) (fun _ _ _ _ _ hx => hx.elim) (.inl ⟨by rfl, ?_⟩) (by exact bel_of) ?_; rotate_left; (intro X hX; obtain ⟨r1, r2⟩ := Below.rules hX; clear hX; go_simp; rfl); simp only [Act.put, List.setIfInBounds_toArray, List.set_cons_succ, List.set_cons_zero])
  have q11 := eb.size
  refine any_run1 (i := 34) (by kernel_rfl) (by rfl) (by kernel_rfl) ?_
  intro K hK
  go_wp2_with fail
  refine (lawSpan_any (-1) 10 1 5 _).mono ?_
  rintro e v11 ⟨rfl, hv⟩
  have e11 : Below w16.heap.size w16 v11 := by rw [← hv]; exact bel_of
  clear hv
  refine hK _ _ (fun _ => e11) ?_
  clear hK K
  (refine any_take 35 ?_ (by rfl) (by kernel_rfl) (fun _ _ _ _ _ hx => hx.elim) (.inl ⟨by rfl, ?_⟩) (by exact bel_of) ?_; rotate_left; (intro X hX; obtain ⟨r1, r2⟩ := Below.rules hX; clear hX; go_simp; rfl); simp only [Act.put, List.setIfInBounds_toArray, List.set_cons_succ, List.set_cons_zero])
  (refine any_take 36 ?_ (by rfl) (by kernel_rfl) (fun _ _ _ _ _ hx => hx.elim) (.inl ⟨by rfl, ?_⟩) (by exact bel_of) ?_; rotate_left; (intro X hX; obtain ⟨r1, r2⟩ := Below.rules hX; clear hX; go_simp; rfl); simp only [Act.put, List.setIfInBounds_toArray, List.set_cons_succ, List.set_cons_zero])
  (refine any_take 37 ?_ (by rfl) (by kernel_rfl) (fun _ _ _ _ _ hx => hx.elim) (.inl ⟨by rfl, ?_⟩) (by exact bel_of) ?_; rotate_left; (intro X hX; obtain ⟨r1, r2⟩ := Below.rules hX; clear hX; go_simp; rfl); simp only [Act.put, List.setIfInBounds_toArray, List.set_cons_succ, List.set_cons_zero])
  (refine any_take 38 ?_ (by rfl) (by kernel_rfl) (fun _ _ _ _ _ hx => hx.elim) (.inl ⟨by rfl, ?_⟩) (by exact bel_of) ?_; rotate_left; (intro X hX; obtain ⟨r1, r2⟩ := Below.rules hX; clear hX; go_simp; rfl); simp only [Act.put, List.setIfInBounds_toArray, List.set_cons_succ, List.set_cons_zero])
  have q12 := e11.size
  refine any_run1 (i := 39) (by kernel_rfl) (by rfl) (by kernel_rfl) ?_
  intro K hK
  go_wp2_with fail
  refine (lawSpan_any 1 2 2 1 _).mono ?_
  rintro e v12 ⟨rfl, hv⟩
  have e12 : Below w16.heap.size w16 v12 := by rw [← hv]; exact bel_of
  clear hv
  refine hK _ _ (fun _ => e12) ?_
  clear hK K
  (refine any_take 40 ?_ (by rfl) (by kernel_rfl) (fun _ _ _ _ _ hx => hx.elim) (.inl ⟨by rfl, ?_⟩) (by exact bel_of) ?_; rotate_left; (intro X hX; obtain ⟨r1, r2⟩ := Below.rules hX; clear hX; go_simp; rfl); simp only [Act.put, List.setIfInBounds_toArray, List.set_cons_succ, List.set_cons_zero])
  (refine any_take 41 ?_ (by rfl) (by kernel_rfl) (fun _ _ _ _ _ hx => hx.elim) (.inl ⟨by rfl, ?_⟩) (by exact bel_of) ?_; rotate_left; (intro X hX; obtain ⟨r1, r2⟩ := Below.rules hX; clear hX; go_simp; rfl); simp only [Act.put, List.setIfInBounds_toArray, List.set_cons_succ, List.set_cons_zero])
  refine any_run1 (i := 42) (by kernel_rfl) (by rfl) (by kernel_rfl) ?_
  intro K hK
  go_wp2_with fail
  refine hK _ _ (fun _ => e12) ?_
  clear hK K
  refine any_done (by kernel_rfl) (NoPanic.normal ?_)
  go_wp2_with fail
  go_ret
  exact ⟨rfl, hB2.trans ((hC.trans (e12.mono hC.size)).mono hB2.size)⟩
end Go.Proofs.Ytbjmkmambmeifaa
