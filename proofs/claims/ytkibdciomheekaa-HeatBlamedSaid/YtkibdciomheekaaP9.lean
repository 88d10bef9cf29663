/- The errors of a recipe, for the reference; a number in a range. The ranges of a bar through ways. The ranges of a recipe, for the program. -/
import Derived.Test.YtkibdciomheekaaP8
set_option linter.all false
set_option linter.unnecessarySimpa false
set_option linter.unusedSimpArgs false
set_option linter.unusedVariables false
set_option linter.unusedSectionVars false

set_option linter.all false
namespace Go.Proofs.Ytkibdciomheekaa
open Go.RowKit Hp

set_option maxHeartbeats 8000000 in
set_option maxRecDepth 100000 in
theorem in_any (n : Int) (r : Rg) (w : World) :
    Calls Try.prog 46 #[.int .i64 n, rV r] w fun e w' => e = .returned (.bool (inR n r)) ∧ Below w.heap.size w w' := by
  obtain ⟨lo, hi⟩ := r
  have HD := Lib.hid (show inR n ⟨lo, hi⟩ = (decide (lo ≤ n) && decide (n ≤ hi)) by unfold inR; simp)
  unfold rV
  go_enter Try.func46, Try.ntmps46
  by_cases h1 : lo ≤ n
  · have HB := Lib.hid (HD.out.trans (by rw [decide_eq_true h1] <;> rfl))
    clear HD
    go_wp2_with fail
    go_ret
    exact ⟨ret_bool HB.out.symm, by exact bel_of⟩
  · have HB := Lib.hid (HD.out.trans (by rw [decide_eq_false h1] <;> rfl))
    clear HD
    go_wp2_with fail
    go_ret
    exact ⟨ret_bool HB.out.symm, by exact bel_of⟩

set_option maxHeartbeats 8000000 in
set_option maxRecDepth 100000 in
theorem isRecipe_any (bars : List Rg) (ss : List Stp) (b : Int) (ks : List Int) (vb vs vk : Value) (w : World) (hf : Fit bars ss) (hkl : ks.length ≤ 1000) (hB : RR w w.heap.size vb bars) (hS : RP w w.heap.size vs ss) (hR : RI w w.heap.size vk ks) :
    Calls Try.prog 63 #[.agg #[vb, vs], .agg #[.int .i64 b, vk]] w fun e w' => e = .returned (.int .i64 (recE bars ss b ks)) ∧ Below w.heap.size w w' := by
  have HF := Lib.hid hf
  have hfb := hf.b
  have hfs := hf.s
  clear hf
  obtain ⟨Ab, cb, rfl⟩ := hB.slice
  obtain ⟨As, cs, rfl⟩ := hS.slice
  obtain ⟨Ak, ck, rfl⟩ : ∃ A c, vk = .slice A ks.length c := by
    obtain ⟨A, c, b, o, hv, _⟩ := hR
    exact ⟨A, c, hv⟩
  obtain ⟨n0, hn0⟩ : ∃ n, w.heap.size = n := ⟨_, rfl⟩
  have hC : Below n0 w w := Below.refl _ _
  go_enter Try.func63, Try.ntmps63
  go_upto_region 1 with fail
  have hqbx : n0 ≤ n0 := by have := hC.size; omega
  have bx : BK (w.alloc (.cells #[.slice Ab bars.length cb, .slice As ss.length cs] 25)) (n0) #[.slice Ab bars.length cb, .slice As ss.length cs] 25 := BK.new' _ _ _ (n0) hn0
  have hsbx : (w.alloc (.cells #[.slice Ab bars.length cb, .slice As ss.length cs] 25)).heap.size = n0 + 1 := by simp [hn0]
  replace hC : Below n0 w (w.alloc (.cells #[.slice Ab bars.length cb, .slice As ss.length cs] 25)) := Below.alloc hC (by have := hC.size; omega) _
  replace hB := (RS.below hB (w' := (w.alloc (.cells #[.slice Ab bars.length cb, .slice As ss.length cs] 25))) (Below.alloc (Below.refl _ _) (Nat.le_refl _) _)).more (B' := (w.alloc (.cells #[.slice Ab bars.length cb, .slice As ss.length cs] 25)).heap.size) (by simp)
  replace hS := (RP.below hS (w' := (w.alloc (.cells #[.slice Ab bars.length cb, .slice As ss.length cs] 25))) (Below.alloc (Below.refl _ _) (Nat.le_refl _) _)).more (B' := (w.alloc (.cells #[.slice Ab bars.length cb, .slice As ss.length cs] 25)).heap.size) (by simp)
  replace hR := (RS.below hR (w' := (w.alloc (.cells #[.slice Ab bars.length cb, .slice As ss.length cs] 25))) (Below.alloc (Below.refl _ _) (Nat.le_refl _) _)).more (B' := (w.alloc (.cells #[.slice Ab bars.length cb, .slice As ss.length cs] 25)).heap.size) (by simp)
  generalize (w.alloc (.cells #[.slice Ab bars.length cb, .slice As ss.length cs] 25)) = Wbx at *
  have hqcx : n0 ≤ n0 + 1 := by have := hC.size; omega
  have cx : BK (Wbx.alloc (.cells #[.int .i64 b, .slice Ak ks.length ck] 42)) (n0 + 1) #[.int .i64 b, .slice Ak ks.length ck] 42 := BK.new' _ _ _ (n0 + 1) hsbx
  have hscx : (Wbx.alloc (.cells #[.int .i64 b, .slice Ak ks.length ck] 42)).heap.size = n0 + 1 + 1 := by simp [hsbx]
  replace hC : Below n0 w (Wbx.alloc (.cells #[.int .i64 b, .slice Ak ks.length ck] 42)) := Below.alloc hC (by have := hC.size; omega) _
  replace hB := (RS.below hB (w' := (Wbx.alloc (.cells #[.int .i64 b, .slice Ak ks.length ck] 42))) (Below.alloc (Below.refl _ _) (Nat.le_refl _) _)).more (B' := (Wbx.alloc (.cells #[.int .i64 b, .slice Ak ks.length ck] 42)).heap.size) (by simp)
  replace hS := (RP.below hS (w' := (Wbx.alloc (.cells #[.int .i64 b, .slice Ak ks.length ck] 42))) (Below.alloc (Below.refl _ _) (Nat.le_refl _) _)).more (B' := (Wbx.alloc (.cells #[.int .i64 b, .slice Ak ks.length ck] 42)).heap.size) (by simp)
  replace hR := (RS.below hR (w' := (Wbx.alloc (.cells #[.int .i64 b, .slice Ak ks.length ck] 42))) (Below.alloc (Below.refl _ _) (Nat.le_refl _) _)).more (B' := (Wbx.alloc (.cells #[.int .i64 b, .slice Ak ks.length ck] 42)).heap.size) (by simp)
  replace bx := bx.alloc (.cells #[.int .i64 b, .slice Ak ks.length ck] 42)
  generalize (Wbx.alloc (.cells #[.int .i64 b, .slice Ak ks.length ck] 42)) = Wcx at *
  clear hsbx
  have lbx := bx.lt
  have bxc0 := bx.cell 0
  have bxc1 := bx.cell 1
  simp at bxc0 bxc1
  have lcx := cx.lt
  have cxc0 := cx.cell 0
  have cxc1 := cx.cell 1
  simp at cxc0 cxc1
  go_wp2_with fail
  clear lbx bxc0 bxc1
  clear lcx cxc0 cxc1
  clear hscx
  refine (checkWorksR_any bars ss _ _ _ HF.out hB hS).mono ?_
  rintro e w1 ⟨rfl, hb⟩
  replace hC : Below n0 w w1 := hC.trans (hb.mono (by have := hC.size; omega))
  replace hB := (RS.below hB hb).more hb.size
  replace hS := (RP.below hS hb).more hb.size
  replace hR := (RS.below hR hb).more hb.size
  replace bx := bx.below hb bx.lt
  replace cx := cx.below hb cx.lt
  clear hb
  obtain ⟨e, he⟩ : ∃ e, worksE bars ss = e := ⟨_, rfl⟩
  rw [he]
  by_cases e0 : e = 0
  case neg =>
    have HE := Lib.hid (recE_works (b := b) (ks := ks) he e0)
    have HX := Lib.hid he
    have b1 : (e != 0) = true := by simp [e0]
    clear he e0
    have lbx := bx.lt
    have bxc0 := bx.cell 0
    have bxc1 := bx.cell 1
    simp at bxc0 bxc1
    have lcx := cx.lt
    have cxc0 := cx.cell 0
    have cxc1 := cx.cell 1
    simp at cxc0 cxc1
    go_wp2_with fail
    clear lbx bxc0 bxc1
    clear lcx cxc0 cxc1
    refine (checkWorksR_any bars ss _ _ _ HF.out hB hS).mono ?_
    rintro e w2 ⟨rfl, hb⟩
    replace hC : Below n0 w w2 := hC.trans (hb.mono (by have := hC.size; omega))
    replace hB := (RS.below hB hb).more hb.size
    replace hS := (RP.below hS hb).more hb.size
    replace hR := (RS.below hR hb).more hb.size
    replace bx := bx.below hb bx.lt
    replace cx := cx.below hb cx.lt
    clear hb
    rw [HX.out]
    go_wp2_with fail
    go_ret
    exact ⟨ret_int HE.out.symm, by (try rw [hn0]); exact hC⟩
  subst e0
  have HE0 := Lib.hid he
  clear he
  by_cases h1 : ks.length = ss.length
  case neg =>
    have HE := Lib.hid (recE_len (b := b) HE0.out h1)
    have b1 : ((ks.length : Int) != (ss.length : Int)) = true := by simp; omega
    have b2 : ¬ (ks.length : Int) = (ss.length : Int) := by omega
    clear h1
    have lbx := bx.lt
    have bxc0 := bx.cell 0
    have bxc1 := bx.cell 1
    simp at bxc0 bxc1
    have lcx := cx.lt
    have cxc0 := cx.cell 0
    have cxc1 := cx.cell 1
    simp at cxc0 cxc1
    go_wp2_with fail
    go_ret
    exact ⟨ret_int HE.out.symm, by (try rw [hn0]); exact hC⟩
  have H1 := Lib.hid h1
  have h1' : (ks.length : Int) = (ss.length : Int) := by omega
  have b1 : ((ks.length : Int) != (ss.length : Int)) = false := by simp [h1]
  clear h1
  by_cases h2 : b < 0
  case pos =>
    have HE := Lib.hid (recE_bar HE0.out H1.out (.inl h2))
    have b2 : decide (b < 0) = true := decide_eq_true h2
    have lbx := bx.lt
    have bxc0 := bx.cell 0
    have bxc1 := bx.cell 1
    simp at bxc0 bxc1
    have lcx := cx.lt
    have cxc0 := cx.cell 0
    have cxc1 := cx.cell 1
    simp at cxc0 cxc1
    go_wp2_with fail
    go_ret
    exact ⟨ret_int HE.out.symm, by (try rw [hn0]); exact hC⟩
  have b2 : decide (b < 0) = false := decide_eq_false h2
  by_cases h3 : (bars.length : Int) ≤ b
  case pos =>
    have HE := Lib.hid (recE_bar HE0.out H1.out (.inr h3))
    have b3 : decide ((bars.length : Int) ≤ b) = true := decide_eq_true h3
    have lbx := bx.lt
    have bxc0 := bx.cell 0
    have bxc1 := bx.cell 1
    simp at bxc0 bxc1
    have lcx := cx.lt
    have cxc0 := cx.cell 0
    have cxc1 := cx.cell 1
    simp at cxc0 cxc1
    go_wp2_with fail
    go_ret
    exact ⟨ret_int HE.out.symm, by (try rw [hn0]); exact hC⟩
  have b3 : decide ((bars.length : Int) ≤ b) = false := decide_eq_false h3
  have HQ := Lib.hid (show ¬ (b < 0 ∨ (bars.length : Int) ≤ b) by omega)
  have lbx := bx.lt
  have bxc0 := bx.cell 0
  have bxc1 := bx.cell 1
  simp at bxc0 bxc1
  have lcx := cx.lt
  have cxc0 := cx.cell 0
  have cxc1 := cx.cell 1
  simp at cxc0 cxc1
  go_wp2_with fail
  clear h1' b1 b2 b3 h2 h3
  clear lbx bxc0 bxc1
  clear lcx cxc0 cxc1
  generalize w1 = W0 at *
  go_loopw [5] (fun i wr => ∃ k : Nat, k ≤ ks.length ∧ i = .int .i64 k ∧ (∀ j, j < k → badB ss ks j = false) ∧ Below W0.heap.size W0 wr) (fun i _ => ks.length - (intOf i).toNat)
  case atStart => exact ⟨0, Nat.zero_le _, rfl, fun j hj => absurd hj (by omega), Below.refl _ _⟩
  case round =>
    obtain ⟨k, hk, rfl, hall, hb⟩ := hrel
    have HALL := Lib.hid hall
    have hbr := Lib.hid hb
    clear hall
    replace hC : Below n0 w wr := hC.trans (hb.mono (by have := hC.size; omega))
    replace hB := (RS.below hB hb).more hb.size
    replace hS := (RP.below hS hb).more hb.size
    replace hR := (RS.below hR hb).more hb.size
    replace bx := bx.below hb bx.lt
    replace cx := cx.below hb cx.lt
    clear hb
    have lbx := bx.lt
    have bxc0 := bx.cell 0
    have bxc1 := bx.cell 1
    simp at bxc0 bxc1
    have lcx := cx.lt
    have cxc0 := cx.cell 0
    have cxc1 := cx.cell 1
    simp at cxc0 cxc1
    by_cases hlt : k < ks.length
    case neg =>
      have hlt' : ¬ (k : Int) < (ks.length : Int) := by omega
      have HE := Lib.hid (recE_ok HE0.out H1.out HQ.out fun j hj => HALL.out j (by omega))
      go_wp2_with fail
      go_ret
      exact ⟨ret_int HE.out.symm, by (try rw [hn0]); exact hC⟩
    have hlt' : (k : Int) < (ks.length : Int) := by omega
    have hks : k < ss.length := by have := H1.out; omega
    have hks' : (k : Int) < (ss.length : Int) := by omega
    obtain ⟨A', cap', bb, off, hve, hA, hc⟩ := RI.cells hR
    obtain ⟨rfl, hbb⟩ := hA (by omega)
    injection hve with q1 q2 q3
    subst q1 q3
    have d0 := hc k hlt
    clear hA hc q2
    obtain ⟨A', cap', bb', off', hve, hA, hc⟩ := RP.cells hS
    obtain ⟨rfl, hbb'⟩ := hA (by omega)
    injection hve with q1 q2 q3
    subst q1 q3
    obtain ⟨u, d1, hu⟩ := hc k hks
    have HQB := Lib.hid (badB_eq ss ks k)
    have HWY := Lib.hid (recE_way (b := b) HE0.out H1.out HQ.out hlt)
    obtain ⟨s, hs⟩ : ∃ s, nthS ss k = s := ⟨_, rfl⟩
    rw [hs] at hu HQB
    obtain ⟨x, hx⟩ : ∃ x, nthI ks k = x := ⟨_, rfl⟩
    rw [hx] at d0 HQB
    obtain ⟨Aw, cw, rfl⟩ := hu.slice
    clear hA hc q2 hs hx
    by_cases h1 : x < 0
    case pos =>
      have HE := Lib.hid (HWY.out (by rw [HQB.out]; exact decide_eq_true (by omega)))
      have b1 : decide (x < 0) = true := decide_eq_true h1
      clear h1
      go_upto_region 10 with fail
      go_quiet (fail)
      go_wp2_with fail
      go_ret
      exact ⟨ret_int HE.out.symm, by (try rw [hn0]); first | exact hC | exact bel_of⟩
    have b1 : decide (x < 0) = false := decide_eq_false h1
    by_cases h2 : (s.length : Int) ≤ x
    case pos =>
      have HE := Lib.hid (HWY.out (by rw [HQB.out]; exact decide_eq_true (by omega)))
      have b2 : decide ((s.length : Int) ≤ x) = true := decide_eq_true h2
      clear h2
      go_upto_region 10 with fail
      go_quiet (fail)
      go_wp2_with fail
      go_ret
      exact ⟨ret_int HE.out.symm, by (try rw [hn0]); first | exact hC | exact bel_of⟩
    have b2 : decide ((s.length : Int) ≤ x) = false := decide_eq_false h2
    have HALL2 := Lib.hid (show ∀ j, j < k + 1 → badB ss ks j = false from fun j hj => by
      rcases Nat.lt_succ_iff_lt_or_eq.1 hj with h1 | rfl
      · exact HALL.out j h1
      · rw [HQB.out]; exact decide_eq_false (by omega))
    clear h1 h2
    go_upto_region 10 with fail
    go_quiet (fail)
    go_wp2_with fail
    go_roundw
    case rel => exact ⟨k + 1, by omega, by go_num, HALL2.out, by first | exact hbr.out | (have := hbr.out; exact bel_of)⟩
    case measure => simp [intOf]; omega
end Go.Proofs.Ytkibdciomheekaa

set_option linter.all false
namespace Go.Proofs.Ytkibdciomheekaa
open Go.RowKit Hp

theorem own_one {W : World} {base g : Nat} {r : Rg} (h : BK W g #[.int .i64 r.lo, .int .i64 r.hi] 33) (hb : base ≤ g) : OwnR W base (.slice (some ⟨g, 0, none⟩) 1 1) [r] :=
  ⟨by simp [ofG, encR], .inr ⟨g, 1, _, rfl, hb, h, Nat.le_refl _, by unfold maxLen; omega, by simp, by simp [ofG, encR]⟩⟩
theorem thr_last' (r : Rg) (ws : List Wy) : nthB (thr r ws) ws.length = endR r ws := by
  have := thr_last ws r
  unfold nthB
  rw [List.getD_eq_getElem?_getD, this]; rfl

set_option maxHeartbeats 8000000 in
set_option maxRecDepth 100000 in
theorem through_any (r : Rg) (ws : Stp) (vw : Value) (w : World) (hr : OkR r) (ok : ∀ y ∈ ws, OkW y) (hl : ws.length ≤ 1000) (hW : RW w w.heap.size vw ws) :
    Calls Try.prog 62 #[rV r, vw] w fun e w' => ∃ v, e = .returned v ∧ OwnR w' w.heap.size v (thr r ws) ∧ Below w.heap.size w w' := by
  have HOK := Lib.hid ok
  have HR := Lib.hid hr
  clear ok hr
  obtain ⟨lo, hi⟩ := r
  unfold rV
  obtain ⟨Aw, cw, rfl⟩ := hW.slice
  obtain ⟨n0, hn0⟩ : ∃ n, w.heap.size = n := ⟨_, rfl⟩
  have hC : Below n0 w w := Below.refl _ _
  have hW0 := hW
  rw [hn0] at hW0
  have HW0 := Lib.hid hW0
  clear hW0
  go_enter Try.func62, Try.ntmps62
  go_upto_region 1 with fail
  have hqrx : n0 ≤ n0 := by have := hC.size; omega
  have rx : BK (w.alloc (.cells #[.int .i64 lo, .int .i64 hi] 33)) (n0) #[.int .i64 lo, .int .i64 hi] 33 := BK.new' _ _ _ (n0) hn0
  have hsrx : (w.alloc (.cells #[.int .i64 lo, .int .i64 hi] 33)).heap.size = n0 + 1 := by simp [hn0]
  replace hC : Below n0 w (w.alloc (.cells #[.int .i64 lo, .int .i64 hi] 33)) := Below.alloc hC (by have := hC.size; omega) _
  replace hW := (RW.below hW (w' := (w.alloc (.cells #[.int .i64 lo, .int .i64 hi] 33))) (Below.alloc (Below.refl _ _) (Nat.le_refl _) _)).more (B' := (w.alloc (.cells #[.int .i64 lo, .int .i64 hi] 33)).heap.size) (by simp)
  generalize (w.alloc (.cells #[.int .i64 lo, .int .i64 hi] 33)) = Wrx at *
  have lrx := rx.lt
  have rxc0 := rx.cell 0
  have rxc1 := rx.cell 1
  simp at rxc0 rxc1
  go_upto_region 2 with fail
  clear lrx rxc0 rxc1
  have hqox : n0 ≤ n0 + 1 := by have := hC.size; omega
  have ox : BK (Wrx.alloc (.cells #[.int .i64 lo, .int .i64 hi] 33)) (n0 + 1) #[.int .i64 lo, .int .i64 hi] 33 := BK.new' _ _ _ (n0 + 1) hsrx
  have hsox : (Wrx.alloc (.cells #[.int .i64 lo, .int .i64 hi] 33)).heap.size = n0 + 1 + 1 := by simp [hsrx]
  replace hC : Below n0 w (Wrx.alloc (.cells #[.int .i64 lo, .int .i64 hi] 33)) := Below.alloc hC (by have := hC.size; omega) _
  replace hW := (RW.below hW (w' := (Wrx.alloc (.cells #[.int .i64 lo, .int .i64 hi] 33))) (Below.alloc (Below.refl _ _) (Nat.le_refl _) _)).more (B' := (Wrx.alloc (.cells #[.int .i64 lo, .int .i64 hi] 33)).heap.size) (by simp)
  replace rx := rx.alloc (.cells #[.int .i64 lo, .int .i64 hi] 33)
  generalize (Wrx.alloc (.cells #[.int .i64 lo, .int .i64 hi] 33)) = Wox at *
  clear hsrx
  have hown : OwnR Wox n0 (.slice (some ⟨n0 + 1, 0, none⟩) 1 1) [⟨lo, hi⟩] := own_one ox (by omega)
  clear ox rx
  clear hsox
  go_wp2_with fail
  generalize Wox = W0 at *
  go_loopw [13, 5] (fun i acc wr => ∃ k : Nat, k ≤ ws.length ∧ i = .int .i64 k ∧ OwnR wr n0 acc (thr ⟨lo, hi⟩ (ws.take k)) ∧ Below n0 w wr) (fun i _ _ => ws.length - (intOf i).toNat)
  case atStart => exact ⟨0, Nat.zero_le _, rfl, by simpa [thr] using hown, hC⟩
  case round =>
    clear hown hC hW
    obtain ⟨k, hk, rfl, hown, hC2⟩ := hrel
    have hC := hC2
    have hW := RW.more (RW.below HW0.out hC2) (B' := wr.heap.size) (by have := hC2.size; omega)
    by_cases hlt : k < ws.length
    case neg =>
      have hlt' : ¬ (k : Int) < (ws.length : Int) := by omega
      rw [List.take_of_length_le (show ws.length ≤ k by omega)] at hown
      have HO := Lib.hid hown
      obtain ⟨Av, cv, rfl⟩ := own_slice hown
      clear hown hC
      go_wp2_with fail
      go_ret
      exact ⟨_, rfl, by (try rw [hn0]); exact HO.out, by (try rw [hn0]); exact hC2⟩
    have hlt' : (k : Int) < (ws.length : Int) := by omega
    obtain ⟨A', cap', bb, off, hve, hA, hc⟩ := RW.cells hW
    obtain ⟨rfl, hbb⟩ := hA (by omega)
    injection hve with q1 q2 q3
    subst q1 q3
    obtain ⟨u, d0, hu⟩ := hc k hlt
    have hoky := HOK.out _ (nthW_mem hlt)
    have hlt1 : (ws.take k).length = k := by rw [List.length_take]; omega
    have hlen : (thr ⟨lo, hi⟩ (ws.take k)).length = k + 1 := by rw [thr_len, hlt1]
    have hlst := thr_last' ⟨lo, hi⟩ (ws.take k)
    rw [hlt1] at hlst
    have hokr := endR_ok (ws := ws.take k) (fun y hy => HOK.out y (List.mem_of_mem_take hy)) HR.out
    have HTK := Lib.hid (show thr ⟨lo, hi⟩ (ws.take (k + 1)) = thr ⟨lo, hi⟩ (ws.take k) ++ [via (nthW ws k) (endR ⟨lo, hi⟩ (ws.take k))] by
      rw [List.take_add_one, List.getElem?_eq_getElem hlt, nthW_eq hlt]
      exact thr_snoc _ _ _)
    obtain ⟨y, hy⟩ : ∃ y, nthW ws k = y := ⟨_, rfl⟩
    rw [hy] at hu hoky HTK
    obtain ⟨⟨a, c⟩, he⟩ : ∃ e, endR ⟨lo, hi⟩ (ws.take k) = e := ⟨_, rfl⟩
    rw [he] at hlst hokr HTK
    obtain ⟨Ay, cy, rfl⟩ := hu.slice
    have HY := Lib.hid hoky
    have hya := hokr.2.1
    have hyc : 0 ≤ c := by have := hokr.1; dsimp only at *; omega
    dsimp only at hya
    obtain ⟨A2, c2, b2, o2, hv2, hA2, hc2⟩ := RR.cells (OwnR.ri hown)
    rw [hlen] at hv2 hA2 hc2
    obtain ⟨rfl, hbb2⟩ := hA2 (by omega)
    obtain ⟨e0, e1⟩ := hc2 k (by omega)
    rw [hlst] at e0 e1
    subst hv2
    dsimp only at e0 e1
    have HLEN := Lib.hid hlen
    clear hA hc q2 hy he hA2 hc2 hlst hlt1 hoky hokr hlen
    have hkk : (k : Int) < ((k + 1 : Nat) : Int) := by omega
    go_upto_region 5 with fail
    have hS0 := Lib.hid hC.size
    obtain ⟨m1, hm1⟩ : ∃ n, wr.heap.size = n := ⟨_, rfl⟩
    try rw [hm1]
    have hqyx : n0 ≤ m1 := by have := hC.size; omega
    have yx : BK (wr.alloc (.cells #[.slice Ay y.length cy] 28)) (m1) #[.slice Ay y.length cy] 28 := BK.new' _ _ _ (m1) hm1
    have hsyx : (wr.alloc (.cells #[.slice Ay y.length cy] 28)).heap.size = m1 + 1 := by simp [hm1]
    have hb7 : Below wr.heap.size wr (wr.alloc (.cells #[.slice Ay y.length cy] 28)) := Below.alloc (Below.refl _ _) (Nat.le_refl _) _
    rw [← hb7.cell (by exact hbb2)] at e0 e1
    have hbb3 : b2 < m1 := by omega
    clear hb7 d0 hbb
    replace hC : Below n0 w (wr.alloc (.cells #[.slice Ay y.length cy] 28)) := Below.alloc hC (by have := hC.size; omega) _
    replace hW := (RW.below hW (w' := (wr.alloc (.cells #[.slice Ay y.length cy] 28))) (Below.alloc (Below.refl _ _) (Nat.le_refl _) _)).more (B' := (wr.alloc (.cells #[.slice Ay y.length cy] 28)).heap.size) (by simp)
    replace hown := own_below hown (W' := (wr.alloc (.cells #[.slice Ay y.length cy] 28))) (Below.alloc (Below.refl _ _) (Nat.le_refl _) _)
    replace hu := (RK.below hu (w' := (wr.alloc (.cells #[.slice Ay y.length cy] 28))) (Below.alloc (Below.refl _ _) (Nat.le_refl _) _)).more (B' := (wr.alloc (.cells #[.slice Ay y.length cy] 28)).heap.size) (by simp)
    generalize (wr.alloc (.cells #[.slice Ay y.length cy] 28)) = Wyx at *
    clear hm1
    have hbb2x : b2 < Wyx.heap.size := by omega
    go_upto_region 6 with fail
    have hqzx : n0 ≤ m1 + 1 := by have := hC.size; omega
    have zx : BK (Wyx.alloc (.cells #[.int .i64 a, .int .i64 c] 33)) (m1 + 1) #[.int .i64 a, .int .i64 c] 33 := BK.new' _ _ _ (m1 + 1) hsyx
    have hszx : (Wyx.alloc (.cells #[.int .i64 a, .int .i64 c] 33)).heap.size = m1 + 1 + 1 := by simp [hsyx]
    clear e0 e1
    replace hC : Below n0 w (Wyx.alloc (.cells #[.int .i64 a, .int .i64 c] 33)) := Below.alloc hC (by have := hC.size; omega) _
    replace hW := (RW.below hW (w' := (Wyx.alloc (.cells #[.int .i64 a, .int .i64 c] 33))) (Below.alloc (Below.refl _ _) (Nat.le_refl _) _)).more (B' := (Wyx.alloc (.cells #[.int .i64 a, .int .i64 c] 33)).heap.size) (by simp)
    replace hown := own_below hown (W' := (Wyx.alloc (.cells #[.int .i64 a, .int .i64 c] 33))) (Below.alloc (Below.refl _ _) (Nat.le_refl _) _)
    replace hu := (RK.below hu (w' := (Wyx.alloc (.cells #[.int .i64 a, .int .i64 c] 33))) (Below.alloc (Below.refl _ _) (Nat.le_refl _) _)).more (B' := (Wyx.alloc (.cells #[.int .i64 a, .int .i64 c] 33)).heap.size) (by simp)
    replace yx := yx.alloc (.cells #[.int .i64 a, .int .i64 c] 33)
    generalize (Wyx.alloc (.cells #[.int .i64 a, .int .i64 c] 33)) = Wzx at *
    clear hsyx
    have lyx := yx.lt
    have yxc0 := yx.cell 0
    simp at yxc0
    have lzx := zx.lt
    have zxc0 := zx.cell 0
    have zxc1 := zx.cell 1
    simp at zxc0 zxc1
    clear hszx
    refine wp_region_noPanic (plain_any [0, 1, 2, 3, 5, 6, 7, 8, 10, 11] (Below Wzx.heap.size Wzx) mixed ?_)
    refine any_tk 0 ?_
    have d0z : Below Wzx.heap.size Wzx Wzx.drew := by exact bel_of
    refine any_tk 1 ?_
    refine any_tk 2 ?_
    refine any_tk 3 ?_
    refine any_tk 6 ?_
    refine any_tk 7 ?_
    refine any_tk 8 ?_
    have qz1 := d0z.size
    refine any_run1 (i := 4) (by kernel_rfl) (by rfl) (by kernel_rfl) ?_
    intro K hK
    go_wp2_with fail
    refine (after_any y _ a _ HY.out hya ((RS.below hu d0z).more d0z.size)).mono ?_
    rintro e vz1 ⟨rfl, hb⟩
    obtain ⟨⟨l1, m1⟩, hx1⟩ : ∃ x, aft y a = x := ⟨_, rfl⟩
    rw [hx1]
    unfold rV
    have ez1 : Below Wzx.heap.size Wzx vz1 := d0z.trans (hb.mono d0z.size)
    clear hb
    refine hK _ _ (fun _ => ez1) ?_
    clear hK K
    refine any_tk 5 ?_
    have qz2 := ez1.size
    refine any_run1 (i := 9) (by kernel_rfl) (by rfl) (by kernel_rfl) ?_
    intro K hK
    go_wp2_with fail
    refine (after_any y _ c _ HY.out hyc ((RS.below hu ez1).more ez1.size)).mono ?_
    rintro e vz2 ⟨rfl, hb⟩
    obtain ⟨⟨l2, m2⟩, hx2⟩ : ∃ x, aft y c = x := ⟨_, rfl⟩
    rw [hx2]
    unfold rV
    have ez2 : Below Wzx.heap.size Wzx vz2 := ez1.trans (hb.mono ez1.size)
    clear hb
    refine hK _ _ (fun _ => ez2) ?_
    clear hK K
    refine any_tk 10 ?_
    refine any_tk 11 ?_
    have qz3 := ez2.size
    have ez3 : Below Wzx.heap.size Wzx (vz2.alloc (.cells #[.int .i64 l1, .int .i64 m2] 33)) := by exact bel_of
    refine any_run1 (i := 12) (by kernel_rfl) (by rfl) (by kernel_rfl) ?_
    intro K hK
    go_wp2_with fail
    refine hK _ _ (fun _ => ez3) ?_
    clear hK K
    have b9 : BK (vz2.alloc (.cells #[.int .i64 l1, .int .i64 m2] 33)) (vz2.heap.size) #[.int .i64 (via y ⟨a, c⟩).lo, .int .i64 (via y ⟨a, c⟩).hi] 33 := by
      unfold via
      dsimp only
      rw [hx1, hx2]
      exact BK.new' _ _ _ _ rfl
    have o9 : OwnR (vz2.alloc (.cells #[.int .i64 l1, .int .i64 m2] 33)) n0 _ _ := own_below hown ez3
    obtain ⟨v9, w9, hrun, hown', hbel, hsz, _⟩ := app_b_rg o9 b9 (by rw [HLEN.out]; omega) (by have := hS0.out; have := ez3.size; have := hC.size; omega)
    have hC9 := hbel w (hC.trans (ez3.mono (by have := hC.size; omega)))
    rw [← HTK.out] at hown'
    have HO9 := Lib.hid hown'
    have HRUN := Lib.hid hrun
    have HC9 := Lib.hid hC9
    clear hrun hown' hbel b9 o9 hC9 hsz
    refine any_run1 (i := 13) (by kernel_rfl) (by rfl) (by kernel_rfl) ?_
    intro K hK
    refine wp_append_run (.tmp 22) (.tmp 34) 22 _ rfl HRUN.out ?_
    refine hK _ _ (fun hx => (Bool.false_ne_true (hx.symm.trans (by kernel_rfl))).elim) ?_
    clear hK K
    simp only [List.getElem_toArray, List.getElem_cons_succ, List.getElem_cons_zero, Act.put, List.setIfInBounds_toArray, List.set_cons_succ, List.set_cons_zero]
    refine any_run1 (i := 14) (by kernel_rfl) (by rfl) (by kernel_rfl) ?_
    intro K hK
    go_wp2_with fail
    refine hK _ _ (fun hx => (Bool.false_ne_true (hx.symm.trans (by kernel_rfl))).elim) ?_
    clear hK K
    refine any_done (by kernel_rfl) (NoPanic.normal ?_)
    clear lyx yxc0
    clear lzx zxc0 zxc1
    go_wp2_with fail
    go_roundw
    case rel => exact ⟨k + 1, by omega, by go_num, HO9.out, HC9.out⟩
    case measure => simp [intOf]; omega
end Go.Proofs.Ytkibdciomheekaa

set_option linter.all false
namespace Go.Proofs.Ytkibdciomheekaa
open Go.RowKit Hp

theorem own_far {W : World} {base e sz n : Nat} {v : Value} {xs : List Value} (h : W.ownsRow base e sz v n xs) {p : Addr} (hp : v.ownBlock ≠ some p.block) (u : Value) : (W.setCell p u).ownsRow base e sz v n xs := by
  obtain ⟨hl, h2⟩ := h
  refine ⟨hl, ?_⟩
  rcases h2 with h2 | ⟨g, cap, cur, hv, hb, hh, r⟩
  · exact .inl h2
  · refine .inr ⟨g, cap, cur, hv, hb, ?_, r⟩
    rw [Below.heap_setCell]
    · exact hh
    · rintro rfl
      exact hp (by rw [hv]; rfl)
def rngL (bars : List Rg) (ss : List Stp) (b : Int) (ks : List Int) : List Rg := if recE bars ss b ks = 0 then thr (nthB bars b.toNat) (pick ss (nats ks)) else []
def RangesPost (bars : List Rg) (ss : List Stp) (b : Int) (ks : List Int) (w : World) (e : Ending) (w' : World) : Prop :=
  ∃ v, e = .returned (.tuple #[v, .int .i64 (recE bars ss b ks)]) ∧ RR w' w'.heap.size v (rngL bars ss b ks) ∧ Below w.heap.size w w'
theorem rr_nil (W : World) (B : Nat) : RR W B (.slice none 0 0) [] := ⟨none, 0, 0, 0, rfl, ⟨by simp [ofG], Nat.le_refl _⟩, fun h => absurd rfl h, fun j hj => by simp [ofG] at hj⟩
theorem RangesPost.no {bars : List Rg} {ss : List Stp} {b e : Int} {ks : List Int} {w w' : World} (h : recE bars ss b ks = e) (h0 : e ≠ 0) (hb : Below w.heap.size w w') : RangesPost bars ss b ks w (.returned (.tuple #[.slice none 0 0, .int .i64 e])) w' :=
  ⟨_, by rw [h], by unfold rngL; rw [if_neg (by rw [h]; exact h0)]; exact rr_nil _ _, hb⟩
theorem RangesPost.yes {bars : List Rg} {ss : List Stp} {b : Int} {ks : List Int} {w w' : World} {v : Value} (h : recE bars ss b ks = 0) (hr : RR w' w'.heap.size v (thr (nthB bars b.toNat) (pick ss (nats ks)))) (hb : Below w.heap.size w w') : RangesPost bars ss b ks w (.returned (.tuple #[v, .int .i64 0])) w' :=
  ⟨v, by rw [h], by unfold rngL; rw [if_pos h]; exact hr, hb⟩

set_option maxHeartbeats 8000000 in
set_option maxRecDepth 100000 in
theorem ranges_any (bars : List Rg) (ss : List Stp) (b : Int) (ks : List Int) (vb vs vk : Value) (w : World) (hf : Fit bars ss) (hkl : ks.length ≤ 1000) (hB : RR w w.heap.size vb bars) (hS : RP w w.heap.size vs ss) (hR : RI w w.heap.size vk ks) :
    Calls Try.prog 23 #[.agg #[vb, vs], .agg #[.int .i64 b, vk]] w (RangesPost bars ss b ks w) := by
  have HF := Lib.hid hf
  have hfb := hf.b
  have hfs := hf.s
  clear hf
  obtain ⟨Ab, cb, rfl⟩ := hB.slice
  obtain ⟨As, cs, rfl⟩ := hS.slice
  obtain ⟨Ak, ck, rfl⟩ : ∃ A c, vk = .slice A ks.length c := by
    obtain ⟨A, c, b, o, hv, _⟩ := hR
    exact ⟨A, c, hv⟩
  obtain ⟨n0, hn0⟩ : ∃ n, w.heap.size = n := ⟨_, rfl⟩
  have hC : Below n0 w w := Below.refl _ _
  go_enter Try.func23, Try.ntmps23
  go_upto_region 1 with fail
  have hqbx : n0 ≤ n0 := by have := hC.size; omega
  have bx : BK (w.alloc (.cells #[.slice Ab bars.length cb, .slice As ss.length cs] 25)) (n0) #[.slice Ab bars.length cb, .slice As ss.length cs] 25 := BK.new' _ _ _ (n0) hn0
  have hsbx : (w.alloc (.cells #[.slice Ab bars.length cb, .slice As ss.length cs] 25)).heap.size = n0 + 1 := by simp [hn0]
  replace hC : Below n0 w (w.alloc (.cells #[.slice Ab bars.length cb, .slice As ss.length cs] 25)) := Below.alloc hC (by have := hC.size; omega) _
  replace hB := (RS.below hB (w' := (w.alloc (.cells #[.slice Ab bars.length cb, .slice As ss.length cs] 25))) (Below.alloc (Below.refl _ _) (Nat.le_refl _) _)).more (B' := (w.alloc (.cells #[.slice Ab bars.length cb, .slice As ss.length cs] 25)).heap.size) (by simp)
  replace hS := (RP.below hS (w' := (w.alloc (.cells #[.slice Ab bars.length cb, .slice As ss.length cs] 25))) (Below.alloc (Below.refl _ _) (Nat.le_refl _) _)).more (B' := (w.alloc (.cells #[.slice Ab bars.length cb, .slice As ss.length cs] 25)).heap.size) (by simp)
  replace hR := (RS.below hR (w' := (w.alloc (.cells #[.slice Ab bars.length cb, .slice As ss.length cs] 25))) (Below.alloc (Below.refl _ _) (Nat.le_refl _) _)).more (B' := (w.alloc (.cells #[.slice Ab bars.length cb, .slice As ss.length cs] 25)).heap.size) (by simp)
  generalize (w.alloc (.cells #[.slice Ab bars.length cb, .slice As ss.length cs] 25)) = Wbx at *
  have hqcx : n0 ≤ n0 + 1 := by have := hC.size; omega
  have cx : BK (Wbx.alloc (.cells #[.int .i64 b, .slice Ak ks.length ck] 42)) (n0 + 1) #[.int .i64 b, .slice Ak ks.length ck] 42 := BK.new' _ _ _ (n0 + 1) hsbx
  have hscx : (Wbx.alloc (.cells #[.int .i64 b, .slice Ak ks.length ck] 42)).heap.size = n0 + 1 + 1 := by simp [hsbx]
  replace hC : Below n0 w (Wbx.alloc (.cells #[.int .i64 b, .slice Ak ks.length ck] 42)) := Below.alloc hC (by have := hC.size; omega) _
  replace hB := (RS.below hB (w' := (Wbx.alloc (.cells #[.int .i64 b, .slice Ak ks.length ck] 42))) (Below.alloc (Below.refl _ _) (Nat.le_refl _) _)).more (B' := (Wbx.alloc (.cells #[.int .i64 b, .slice Ak ks.length ck] 42)).heap.size) (by simp)
  replace hS := (RP.below hS (w' := (Wbx.alloc (.cells #[.int .i64 b, .slice Ak ks.length ck] 42))) (Below.alloc (Below.refl _ _) (Nat.le_refl _) _)).more (B' := (Wbx.alloc (.cells #[.int .i64 b, .slice Ak ks.length ck] 42)).heap.size) (by simp)
  replace hR := (RS.below hR (w' := (Wbx.alloc (.cells #[.int .i64 b, .slice Ak ks.length ck] 42))) (Below.alloc (Below.refl _ _) (Nat.le_refl _) _)).more (B' := (Wbx.alloc (.cells #[.int .i64 b, .slice Ak ks.length ck] 42)).heap.size) (by simp)
  replace bx := bx.alloc (.cells #[.int .i64 b, .slice Ak ks.length ck] 42)
  generalize (Wbx.alloc (.cells #[.int .i64 b, .slice Ak ks.length ck] 42)) = Wcx at *
  clear hsbx
  have lbx := bx.lt
  have bxc0 := bx.cell 0
  have bxc1 := bx.cell 1
  simp at bxc0 bxc1
  have lcx := cx.lt
  have cxc0 := cx.cell 0
  have cxc1 := cx.cell 1
  simp at cxc0 cxc1
  go_wp2_with fail
  clear lbx bxc0 bxc1
  clear lcx cxc0 cxc1
  clear hscx
  refine (open_any bars ss b ks _ _ _ _ HF.out hkl hB hS hR).mono ?_
  rintro e w1 ⟨v, rfl, hv, hv0, hb⟩
  replace hC : Below n0 w w1 := hC.trans (hb.mono (by have := hC.size; omega))
  replace hB := (RS.below hB hb).more hb.size
  replace hS := (RP.below hS hb).more hb.size
  replace hR := (RS.below hR hb).more hb.size
  replace bx := bx.below hb bx.lt
  replace cx := cx.below hb cx.lt
  clear hb
  obtain ⟨e, he⟩ : ∃ e, recE bars ss b ks = e := ⟨_, rfl⟩
  rw [he] at hv hv0 ⊢
  by_cases e0 : e = 0
  case neg =>
    obtain rfl := hv0 e0
    have HE := Lib.hid he
    have E0 := Lib.hid e0
    have b1 : (e != 0) = true := by simp [e0]
    clear he e0 hv hv0
    go_wp2_with fail
    go_ret2
    exact RangesPost.no HE.out E0.out (by (try rw [hn0]); exact hC)
  subst e0
  have HE := Lib.hid he
  have OR := okRec_of he
  have hw := hv rfl
  have HOK := Lib.hid (pick_ok OR.works.sok OR.ways)
  have HL := Lib.hid (pick_len OR.ways)
  have hb0 := OR.blo
  have hb1 := OR.bhi
  have HBR := Lib.hid (OR.works.bok _ (nthB_mem hb1))
  clear he hv hv0 OR
  obtain ⟨Aw, cw, rfl⟩ := hw.slice
  obtain ⟨A', cap', bb, off, hve, hA, hc⟩ := RR.cells hB
  obtain ⟨rfl, hbb⟩ := hA (by omega)
  injection hve with q1 q2 q3
  subst q1 q3
  obtain ⟨d0, d1⟩ := hc b.toNat hb1
  obtain ⟨n, rfl⟩ : ∃ n : Nat, b = n := ⟨b.toNat, by omega⟩
  rw [Int.toNat_natCast] at d0 d1 hb1 HBR
  have hb2 : (n : Int) < (bars.length : Int) := by omega
  obtain ⟨⟨lo, hi⟩, hr⟩ : ∃ r, nthB bars n = r := ⟨_, rfl⟩
  rw [hr] at d0 d1 HBR
  have HR := Lib.hid hr
  dsimp only at d0 d1
  clear hA hc q2 hr
  have lbx := bx.lt
  have bxc0 := bx.cell 0
  have bxc1 := bx.cell 1
  simp at bxc0 bxc1
  have lcx := cx.lt
  have cxc0 := cx.cell 0
  have cxc1 := cx.cell 1
  simp at cxc0 cxc1
  go_wp2_with fail
  clear lbx bxc0 bxc1
  clear lcx cxc0 cxc1
  refine (through_any ⟨lo, hi⟩ _ _ _ HBR.out HOK.out (by rw [HL.out]; omega) hw).mono ?_
  rintro e w2 ⟨v2, rfl, ho, hb⟩
  replace hC : Below n0 w w2 := hC.trans (hb.mono (by have := hC.size; omega))
  replace hB := (RS.below hB hb).more hb.size
  replace hS := (RP.below hS hb).more hb.size
  replace hR := (RS.below hR hb).more hb.size
  replace bx := bx.below hb bx.lt
  replace cx := cx.below hb cx.lt
  replace hw := (RW.below hw hb).more hb.size
  clear hb
  have HO := Lib.hid (OwnR.ri ho)
  clear ho
  go_wp2_with fail
  go_ret2
  exact RangesPost.yes HE.out (by rw [Int.toNat_natCast, HR.out]; exact HO.out) (by (try rw [hn0]); exact hC)

end Go.Proofs.Ytkibdciomheekaa
