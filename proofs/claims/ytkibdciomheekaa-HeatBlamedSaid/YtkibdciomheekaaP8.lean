/- The ways of a recipe (open). -/
import Derived.Test.YtkibdciomheekaaP7
import Derived.Test.YtkibdciomheekaaP3
import Derived.Test.YtkibdciomheekaaP5
import Derived.Test.YtkibdciomheekaaP4
set_option linter.all false
set_option linter.unnecessarySimpa false
set_option linter.unusedSimpArgs false
set_option linter.unusedVariables false
set_option linter.unusedSectionVars false

set_option linter.all false
namespace Go.Proofs.Ytkibdciomheekaa
open Go.RowKit Hp

theorem pick_nil : ∀ ss : List Stp, pick ss [] = []
  | [] => rfl
  | _ :: _ => rfl
theorem pick_take : ∀ {ss : List Stp} {ks : List Nat} {k : Nat}, k < ss.length → k < ks.length → pick ss (ks.take (k + 1)) = pick ss (ks.take k) ++ [nthW (nthS ss k) (ks.getD k 0)]
  | [], _, _, h, _ => by simp at h
  | s :: ss, [], _, _, h => by simp at h
  | s :: ss, q :: ks, 0, _, _ => by
    show nthW s q :: pick ss [] = [] ++ [nthW s q]
    rw [pick_nil]; rfl
  | s :: ss, q :: ks, k + 1, h1, h2 => by
    show nthW s q :: pick ss (ks.take (k + 1)) = nthW s q :: pick ss (ks.take k) ++ [nthW (nthS ss k) (ks.getD k 0)]
    rw [pick_take (by simpa using h1) (by simpa using h2)]; rfl
theorem pick_take_len : ∀ {ss : List Stp} {ks : List Nat} {k : Nat}, k ≤ ss.length → k ≤ ks.length → (pick ss (ks.take k)).length = k
  | ss, ks, 0, _, _ => by rw [List.take_zero, pick_nil]; rfl
  | ss, ks, k + 1, h1, h2 => by rw [pick_take h1 h2, List.length_append, pick_take_len (by omega) (by omega)]; rfl
theorem nats_at (ks : List Int) (k : Nat) : (nats ks).getD k 0 = (nthI ks k).toNat := by
  unfold nats nthI
  by_cases h : k < ks.length <;> simp [h]
theorem recE_works {bars : List Rg} {ss : List Stp} {b e : Int} {ks : List Int} (h : worksE bars ss = e) (h0 : e ≠ 0) : recE bars ss b ks = e := by
  unfold recE; rw [h, if_pos h0]
theorem recE_len {bars : List Rg} {ss : List Stp} {b : Int} {ks : List Int} (h : worksE bars ss = 0) (h2 : ks.length ≠ ss.length) : recE bars ss b ks = 15 := by
  unfold recE; rw [h, if_neg (by simp), if_pos h2]
theorem recE_bar {bars : List Rg} {ss : List Stp} {b : Int} {ks : List Int} (h : worksE bars ss = 0) (h2 : ks.length = ss.length) (h3 : b < 0 ∨ (bars.length : Int) ≤ b) : recE bars ss b ks = 3 := by
  unfold recE; rw [h, if_neg (by simp), if_neg (by omega), if_pos h3]
theorem recE_way {bars : List Rg} {ss : List Stp} {b : Int} {ks : List Int} (h : worksE bars ss = 0) (h2 : ks.length = ss.length) (h3 : ¬ (b < 0 ∨ (bars.length : Int) ≤ b)) {k : Nat} (hk : k < ks.length) (h4 : badB ss ks k = true) : recE bars ss b ks = 3 := by
  unfold recE; rw [h, if_neg (by simp), if_neg (by omega), if_neg h3, if_pos (List.any_eq_true.2 ⟨k, List.mem_range.2 hk, h4⟩)]
theorem recE_ok {bars : List Rg} {ss : List Stp} {b : Int} {ks : List Int} (h : worksE bars ss = 0) (h2 : ks.length = ss.length) (h3 : ¬ (b < 0 ∨ (bars.length : Int) ≤ b)) (h4 : ∀ k, k < ks.length → badB ss ks k = false) : recE bars ss b ks = 0 := by
  unfold recE; rw [h, if_neg (by simp), if_neg (by omega), if_neg h3, if_neg]
  rw [Bool.not_eq_true, List.any_eq_false]
  intro k hk
  rw [h4 k (List.mem_range.1 hk)]; simp
theorem badB_eq (ss : List Stp) (ks : List Int) (k : Nat) : badB ss ks k = decide (nthI ks k < 0 ∨ ((nthS ss k).length : Int) ≤ nthI ks k) := rfl
def OpenPost (bars : List Rg) (ss : List Stp) (b : Int) (ks : List Int) (w : World) (e : Ending) (w' : World) : Prop :=
  ∃ v, e = .returned (.tuple #[v, .int .i64 (recE bars ss b ks)]) ∧ (recE bars ss b ks = 0 → RW w' w'.heap.size v (pick ss (nats ks))) ∧ (recE bars ss b ks ≠ 0 → v = .slice none 0 0) ∧ Below w.heap.size w w'
theorem OpenPost.no {bars : List Rg} {ss : List Stp} {b e : Int} {ks : List Int} {w w' : World} (h : recE bars ss b ks = e) (h0 : e ≠ 0) (hb : Below w.heap.size w w') : OpenPost bars ss b ks w (.returned (.tuple #[.slice none 0 0, .int .i64 e])) w' :=
  ⟨_, by rw [h], fun h1 => absurd (h.symm.trans h1) h0, fun _ => rfl, hb⟩
theorem OpenPost.yes {bars : List Rg} {ss : List Stp} {b : Int} {ks : List Int} {w w' : World} {v : Value} (h : recE bars ss b ks = 0) (hr : RW w' w'.heap.size v (pick ss (nats ks))) (hb : Below w.heap.size w w') : OpenPost bars ss b ks w (.returned (.tuple #[v, .int .i64 0])) w' :=
  ⟨v, by rw [h], fun _ => hr, fun h1 => absurd h h1, hb⟩

set_option maxHeartbeats 8000000 in
set_option maxRecDepth 100000 in
theorem open_any (bars : List Rg) (ss : List Stp) (b : Int) (ks : List Int) (vb vs vk : Value) (w : World) (hf : Fit bars ss) (hkl : ks.length ≤ 1000) (hB : RR w w.heap.size vb bars) (hS : RP w w.heap.size vs ss) (hR : RI w w.heap.size vk ks) :
    Calls Try.prog 61 #[.agg #[vb, vs], .agg #[.int .i64 b, vk]] w (OpenPost bars ss b ks w) := by
  have HF := Lib.hid hf
  have hfb := hf.b
  have hfs := hf.s
  clear hf
  obtain ⟨Ab, cb, rfl⟩ := hB.slice
  obtain ⟨As, cs, rfl⟩ := hS.slice
  obtain ⟨Ak, ck, rfl⟩ : ∃ A c, vk = .slice A ks.length c := by
    obtain ⟨A, c, b, o, hv, _⟩ := hR
    exact ⟨A, c, hv⟩
  obtain ⟨n0, hn0⟩ : ∃ n, w.heap.size = n := ⟨_, rfl⟩
  have hC : Below n0 w w := Below.refl _ _
  go_enter Try.func61, Try.ntmps61
  go_upto_region 1 with fail
  have hqbx : n0 ≤ n0 := by have := hC.size; omega
  have bx : BK (w.alloc (.cells #[.slice Ab bars.length cb, .slice As ss.length cs] 25)) (n0) #[.slice Ab bars.length cb, .slice As ss.length cs] 25 := BK.new' _ _ _ (n0) hn0
  have hsbx : (w.alloc (.cells #[.slice Ab bars.length cb, .slice As ss.length cs] 25)).heap.size = n0 + 1 := by simp [hn0]
  replace hC : Below n0 w (w.alloc (.cells #[.slice Ab bars.length cb, .slice As ss.length cs] 25)) := Below.alloc hC (by have := hC.size; omega) _
  replace hB := (RS.below hB (w' := (w.alloc (.cells #[.slice Ab bars.length cb, .slice As ss.length cs] 25))) (Below.alloc (Below.refl _ _) (Nat.le_refl _) _)).more (B' := (w.alloc (.cells #[.slice Ab bars.length cb, .slice As ss.length cs] 25)).heap.size) (by simp)
  replace hS := (RP.below hS (w' := (w.alloc (.cells #[.slice Ab bars.length cb, .slice As ss.length cs] 25))) (Below.alloc (Below.refl _ _) (Nat.le_refl _) _)).more (B' := (w.alloc (.cells #[.slice Ab bars.length cb, .slice As ss.length cs] 25)).heap.size) (by simp)
  replace hR := (RS.below hR (w' := (w.alloc (.cells #[.slice Ab bars.length cb, .slice As ss.length cs] 25))) (Below.alloc (Below.refl _ _) (Nat.le_refl _) _)).more (B' := (w.alloc (.cells #[.slice Ab bars.length cb, .slice As ss.length cs] 25)).heap.size) (by simp)
  generalize (w.alloc (.cells #[.slice Ab bars.length cb, .slice As ss.length cs] 25)) = Wbx at *
  have hqcx : n0 ≤ n0 + 1 := by have := hC.size; omega
  have cx : BK (Wbx.alloc (.cells #[.int .i64 b, .slice Ak ks.length ck] 42)) (n0 + 1) #[.int .i64 b, .slice Ak ks.length ck] 42 := BK.new' _ _ _ (n0 + 1) hsbx
  have hscx : (Wbx.alloc (.cells #[.int .i64 b, .slice Ak ks.length ck] 42)).heap.size = n0 + 1 + 1 := by simp [hsbx]
  replace hC : Below n0 w (Wbx.alloc (.cells #[.int .i64 b, .slice Ak ks.length ck] 42)) := Below.alloc hC (by have := hC.size; omega) _
  replace hB := (RS.below hB (w' := (Wbx.alloc (.cells #[.int .i64 b, .slice Ak ks.length ck] 42))) (Below.alloc (Below.refl _ _) (Nat.le_refl _) _)).more (B' := (Wbx.alloc (.cells #[.int .i64 b, .slice Ak ks.length ck] 42)).heap.size) (by simp)
  replace hS := (RP.below hS (w' := (Wbx.alloc (.cells #[.int .i64 b, .slice Ak ks.length ck] 42))) (Below.alloc (Below.refl _ _) (Nat.le_refl _) _)).more (B' := (Wbx.alloc (.cells #[.int .i64 b, .slice Ak ks.length ck] 42)).heap.size) (by simp)
  replace hR := (RS.below hR (w' := (Wbx.alloc (.cells #[.int .i64 b, .slice Ak ks.length ck] 42))) (Below.alloc (Below.refl _ _) (Nat.le_refl _) _)).more (B' := (Wbx.alloc (.cells #[.int .i64 b, .slice Ak ks.length ck] 42)).heap.size) (by simp)
  replace bx := bx.alloc (.cells #[.int .i64 b, .slice Ak ks.length ck] 42)
  generalize (Wbx.alloc (.cells #[.int .i64 b, .slice Ak ks.length ck] 42)) = Wcx at *
  clear hsbx
  have lbx := bx.lt
  have bxc0 := bx.cell 0
  have bxc1 := bx.cell 1
  simp at bxc0 bxc1
  have lcx := cx.lt
  have cxc0 := cx.cell 0
  have cxc1 := cx.cell 1
  simp at cxc0 cxc1
  go_wp2_with fail
  clear lbx bxc0 bxc1
  clear lcx cxc0 cxc1
  clear hscx
  refine (checkWorks_any bars ss _ _ _ HF.out hB hS).mono ?_
  rintro e w1 ⟨rfl, hb⟩
  replace hC : Below n0 w w1 := hC.trans (hb.mono (by have := hC.size; omega))
  replace hB := (RS.below hB hb).more hb.size
  replace hS := (RP.below hS hb).more hb.size
  replace hR := (RS.below hR hb).more hb.size
  replace bx := bx.below hb bx.lt
  replace cx := cx.below hb cx.lt
  clear hb
  obtain ⟨e, he⟩ : ∃ e, worksE bars ss = e := ⟨_, rfl⟩
  rw [he]
  by_cases e0 : e = 0
  case neg =>
    have HE := Lib.hid (recE_works (b := b) (ks := ks) he e0)
    have E0 := Lib.hid e0
    have b1 : (e != 0) = true := by simp [e0]
    clear he e0
    go_wp2_with fail
    go_ret2
    exact OpenPost.no (e := e) HE.out E0.out (by (try rw [hn0]); exact hC)
  subst e0
  have HE0 := Lib.hid he
  clear he
  by_cases h1 : ks.length = ss.length
  case neg =>
    have HE := Lib.hid (recE_len (b := b) HE0.out h1)
    have b1 : ((ks.length : Int) != (ss.length : Int)) = true := by simp; omega
    have b2 : ¬ (ks.length : Int) = (ss.length : Int) := by omega
    clear h1
    have lbx := bx.lt
    have bxc0 := bx.cell 0
    have bxc1 := bx.cell 1
    simp at bxc0 bxc1
    have lcx := cx.lt
    have cxc0 := cx.cell 0
    have cxc1 := cx.cell 1
    simp at cxc0 cxc1
    go_wp2_with fail
    go_ret2
    exact OpenPost.no (e := 15) HE.out (by decide) (by (try rw [hn0]); exact hC)
  have H1 := Lib.hid h1
  have h1' : (ks.length : Int) = (ss.length : Int) := by omega
  have b1 : ((ks.length : Int) != (ss.length : Int)) = false := by simp [h1]
  clear h1
  have wb : IntKind.i64.wrap ((bars.length : Int) - 1) = (bars.length : Int) - 1 := by rw [IntKind.wrap_i64]; omega
  have lbx := bx.lt
  have bxc0 := bx.cell 0
  have bxc1 := bx.cell 1
  simp at bxc0 bxc1
  have lcx := cx.lt
  have cxc0 := cx.cell 0
  have cxc1 := cx.cell 1
  simp at cxc0 cxc1
  clear h1'
  go_wp2_with fail
  clear lbx bxc0 bxc1
  clear lcx cxc0 cxc1
  clear b1 wb
  skip
  refine (within_1 _ _ _ _ _ (by simp)).mono ?_
  rintro e w9 ⟨rfl, hw9⟩
  have hb : Below w1.heap.size w1 w9 := by rw [← hw9]; exact bel_of
  clear hw9
  replace hC : Below n0 w w9 := hC.trans (hb.mono (by have := hC.size; omega))
  replace hB := (RS.below hB hb).more hb.size
  replace hS := (RP.below hS hb).more hb.size
  replace hR := (RS.below hR hb).more hb.size
  replace bx := bx.below hb bx.lt
  replace cx := cx.below hb cx.lt
  clear hb
  obtain ⟨q, hq⟩ : ∃ q, inB 0 ((bars.length : Int) - 1) b = q := ⟨_, rfl⟩
  rw [hq]
  cases q
  case false =>
    have hq2 : b < 0 ∨ (bars.length : Int) ≤ b := by
      unfold inB at hq
      simp at hq
      omega
    have HE := Lib.hid (recE_bar HE0.out H1.out hq2)
    clear hq hq2
    go_wp2_with fail
    go_ret2
    exact OpenPost.no (e := 3) HE.out (by decide) (by (try rw [hn0]); exact hC)
  have hq2 : ¬ (b < 0 ∨ (bars.length : Int) ≤ b) := by
    have := (inB_iff _ _ _).1 hq
    omega
  have HQ := Lib.hid hq2
  clear hq hq2
  have lbx := bx.lt
  have bxc0 := bx.cell 0
  have bxc1 := bx.cell 1
  simp at bxc0 bxc1
  have lcx := cx.lt
  have cxc0 := cx.cell 0
  have cxc1 := cx.cell 1
  simp at cxc0 cxc1
  go_wp2_with fail
  clear lbx bxc0 bxc1
  clear lcx cxc0 cxc1
  generalize w9 = W0 at *
  have hSB := hS
  have HL0 := Lib.hid (fun k (h1 : k ≤ ss.length) => pick_take_len (ss := ss) (ks := nats ks) (k := k) h1 (by simp [nats]; have := H1.out; omega))
  go_loopw [37, 7] (fun i acc wr => ∃ k : Nat, k ≤ ks.length ∧ i = .int .i64 k ∧ OwnW wr wr.heap.size W0.heap.size acc (pick ss ((nats ks).take k)) ∧ (∀ j, j < k → badB ss ks j = false) ∧ Below W0.heap.size W0 wr) (fun i _ _ => ks.length - (intOf i).toNat)
  case atStart => exact ⟨0, Nat.zero_le _, rfl, by rw [List.take_zero, pick_nil]; exact OwnW.nil _ _ _, fun j hj => absurd hj (by omega), Below.refl _ _⟩
  case round =>
    obtain ⟨k, hk, rfl, hown, hall, hb⟩ := hrel
    have HALL := Lib.hid hall
    have hbr := Lib.hid hb
    have HOWN := Lib.hid hown
    clear hall hown
    replace hC : Below n0 w wr := hC.trans (hb.mono (by have := hC.size; omega))
    replace hB := (RS.below hB hb).more hb.size
    replace hS := (RP.below hS hb).more hb.size
    replace hR := (RS.below hR hb).more hb.size
    replace bx := bx.below hb bx.lt
    replace cx := cx.below hb cx.lt
    clear hb
    by_cases hlt : k < ks.length
    case neg =>
      have hlt' : ¬ (k : Int) < (ks.length : Int) := by omega
      have HE := Lib.hid (recE_ok HE0.out H1.out HQ.out fun j hj => HALL.out j (by omega))
      have hr := OwnW.rw_ HOWN.out (Nat.le_refl _)
      rw [List.take_of_length_le (by simp [nats]; omega)] at hr
      have HR := Lib.hid hr
      clear hr
      go_wp2_with fail
      go_ret2
      exact OpenPost.yes HE.out HR.out (by (try rw [hn0]); exact hC)
    have hlt' : (k : Int) < (ks.length : Int) := by omega
    have hks : k < ss.length := by have := H1.out; omega
    have hks' : (k : Int) < (ss.length : Int) := by omega
    obtain ⟨A', cap', bb, off, hve, hA, hc⟩ := RI.cells hR
    obtain ⟨rfl, hbb⟩ := hA (by omega)
    injection hve with q1 q2 q3
    subst q1 q3
    have d0 := hc k hlt
    clear hA hc q2
    obtain ⟨A', cap', bb', off', hve, hA, hc⟩ := RP.cells hS
    obtain ⟨rfl, hbb'⟩ := hA (by omega)
    injection hve with q1 q2 q3
    subst q1 q3
    obtain ⟨u, d1, hu⟩ := hc k hks
    have HQB := Lib.hid (badB_eq ss ks k)
    have HTK := Lib.hid (pick_take (ss := ss) (ks := nats ks) (k := k) hks (by simp [nats]; omega))
    have HNA := Lib.hid (nats_at ks k)
    have HWY := Lib.hid (recE_way (b := b) HE0.out H1.out HQ.out hlt)
    obtain ⟨s, hs⟩ : ∃ s, nthS ss k = s := ⟨_, rfl⟩
    have HS := Lib.hid hs
    rw [hs] at hu HQB HTK
    obtain ⟨x, hx⟩ : ∃ x, nthI ks k = x := ⟨_, rfl⟩
    rw [hx] at d0 HQB HNA
    have hsl : s.length ≤ 1000 := by rw [← hs]; exact HF.out.w _ (nthS_mem hks)
    obtain ⟨Aw, cw, rfl⟩ := hu.slice
    clear hA hc q2 hs hx
    have lbx := bx.lt
    have bxc0 := bx.cell 0
    have bxc1 := bx.cell 1
    simp at bxc0 bxc1
    have lcx := cx.lt
    have cxc0 := cx.cell 0
    have cxc1 := cx.cell 1
    simp at cxc0 cxc1
    by_cases h1 : x < 0
    case pos =>
      have HE := Lib.hid (HWY.out (by rw [HQB.out]; exact decide_eq_true (by omega)))
      have b1 : decide (x < 0) = true := decide_eq_true h1
      clear h1
      go_wp2_with fail
      go_ret2
      exact OpenPost.no (e := 3) HE.out (by decide) (by (try rw [hn0]); exact hC)
    have b1 : decide (x < 0) = false := decide_eq_false h1
    by_cases h2 : (s.length : Int) ≤ x
    case pos =>
      have HE := Lib.hid (HWY.out (by rw [HQB.out]; exact decide_eq_true (by omega)))
      have b2 : decide ((s.length : Int) ≤ x) = true := decide_eq_true h2
      clear h2
      go_wp2_with fail
      go_ret2
      exact OpenPost.no (e := 3) HE.out (by decide) (by (try rw [hn0]); exact hC)
    have b2 : decide ((s.length : Int) ≤ x) = false := decide_eq_false h2
    have HGOOD := Lib.hid (show badB ss ks k = false by rw [HQB.out]; exact decide_eq_false (by omega))
    obtain ⟨n, rfl⟩ : ∃ n : Nat, x = n := ⟨x.toNat, by omega⟩
    rw [Int.toNat_natCast] at HNA
    rw [HNA.out] at HTK
    have hns : n < s.length := by omega
    have hns' : (n : Int) < (s.length : Int) := by omega
    clear h1 h2 HNA
    obtain ⟨A1, cap1, b1', off1, hve, hA, hc⟩ := RW.cells hu
    obtain ⟨rfl, hbb1⟩ := hA (by omega)
    injection hve with q1 q2 q3
    subst q1 q3
    obtain ⟨u, d2, hv⟩ := hc n hns
    obtain ⟨y, hy⟩ : ∃ y, nthW s n = y := ⟨_, rfl⟩
    rw [hy] at hv HTK
    clear hA hc q2 hy
    obtain ⟨Ay, cy, rfl⟩ := hv.slice
    go_upto_region 14 with fail
    clear b1 b2
    have hlen := HL0.out k (by omega)
    have hbk := Lib.hid hbr.out.size
    have b8 : BK ((wr.alloc (.cells #[.slice Ay y.length cy] 28)).drew) wr.heap.size #[.slice Ay y.length cy] 28 := (BK.new' _ _ _ _ rfl).drew
    have hb8 : Below wr.heap.size wr ((wr.alloc (.cells #[.slice Ay y.length cy] 28)).drew) := (Below.alloc (Below.refl _ _) (Nat.le_refl _) _).drew
    have o8 := OwnW.below HOWN.out (Nat.le_refl _) hb8
    have v8 := RK.below hv hb8
    obtain ⟨A2, c2, hu2, hc2, hA2, v', w9, hrun, hown', hbel, hb9⟩ := app_full_wy o8 v8 b8 (by rw [hlen]; omega) (Nat.le_trans hbk.out hb8.size) hb8.size
    rw [hlen] at hu2 hc2 hrun
    subst hu2
    have hb79 := hb8.trans (hb9.mono hb8.size)
    have hbr9 := Lib.hid (hbr.out.trans (hb79.mono hbr.out.size))
    have ho9 := OwnW.more hown' (Nat.le_trans hb8.size hb9.size)
    rw [← HTK.out] at ho9
    have HO9 := Lib.hid ho9
    have HRUN := Lib.hid hrun
    have HALL2 := Lib.hid (show ∀ j, j < k + 1 → badB ss ks j = false from fun j hj => by
      rcases Nat.lt_succ_iff_lt_or_eq.1 hj with h1 | rfl
      · exact HALL.out j h1
      · exact HGOOD.out)
    clear hrun hown' ho9 hbel o8 v8 b8 hv HOWN hlen hbk hb9
    have hjc : (k : Int) ≤ (c2 : Int) := by omega
    cases A2 with
    | none =>
      have h0 := hA2 rfl
      subst h0
      obtain rfl : k = 0 := by omega
      rw [Nat.add_zero] at d0 d1
      refine wp_region_noPanic (plain_any [0, 1, 2, 3, 4, 5, 6, 7, 8, 9, 10, 11, 12, 13, 14] (Below wr.heap.size wr) mixed ?_)
      refine any_tk 0 ?_
      refine any_tk 1 ?_
      refine any_tk 2 ?_
      refine any_tk 3 ?_
      refine any_tk 4 ?_
      refine any_tk 5 ?_
      refine any_tk 6 ?_
      refine any_tk 7 ?_
      refine any_tk 8 ?_
      refine any_tk 9 ?_
      refine any_tk 10 ?_
      refine any_tk 11 ?_
      refine any_tk 12 ?_
      refine any_tk 13 ?_
      refine any_tk 14 ?_
      refine any_run1 (i := 15) (by kernel_rfl) (by rfl) (by kernel_rfl) ?_
      intro K3 hK3
      go_wp2_with fail
      refine hK3 _ _ (fun _ => hb8) ?_
      clear hK3 K3
      refine any_run1 (i := 16) (by kernel_rfl) (by rfl) (by kernel_rfl) ?_
      intro K3 hK3
      refine wp_append_run (.tmp 60) (.tmp 70) 86 _ rfl HRUN.out ?_
      refine hK3 _ _ (fun _ => hb79) ?_
      clear hK3 K3
      simp only [List.getElem_toArray, List.getElem_cons_succ, List.getElem_cons_zero, Act.put, List.setIfInBounds_toArray, List.set_cons_succ, List.set_cons_zero]
      refine any_run1 (i := 17) (by kernel_rfl) (by rfl) (by kernel_rfl) ?_
      intro K3 hK3
      go_wp2_with fail
      refine hK3 _ _ (fun _ => hb79) ?_
      clear hK3 K3
      refine any_done (by kernel_rfl) (NoPanic.normal ?_)
      clear lbx bxc0 bxc1 lcx cxc0 cxc1 d0 d1 d2 hbb hbb' hbb1 hb8 hb79
      go_wp2_with fail
      go_roundw
      case rel => exact ⟨_, by omega, by go_num, HO9.out, HALL2.out, hbr9.out⟩
      case measure => simp [intOf]; omega
    | some ad =>
      refine wp_region_noPanic (plain_any [0, 1, 2, 3, 4, 5, 6, 7, 8, 9, 10, 11, 12, 13, 14] (Below wr.heap.size wr) mixed ?_)
      refine any_tk 0 ?_
      refine any_tk 1 ?_
      refine any_tk 2 ?_
      refine any_tk 3 ?_
      refine any_tk 4 ?_
      refine any_tk 5 ?_
      refine any_tk 6 ?_
      refine any_tk 7 ?_
      refine any_tk 8 ?_
      refine any_tk 9 ?_
      refine any_tk 10 ?_
      refine any_tk 11 ?_
      refine any_tk 12 ?_
      refine any_tk 13 ?_
      refine any_tk 14 ?_
      refine any_run1 (i := 15) (by kernel_rfl) (by rfl) (by kernel_rfl) ?_
      intro K3 hK3
      go_wp2_with fail
      refine hK3 _ _ (fun _ => hb8) ?_
      clear hK3 K3
      refine any_run1 (i := 16) (by kernel_rfl) (by rfl) (by kernel_rfl) ?_
      intro K3 hK3
      refine wp_append_run (.tmp 60) (.tmp 70) 86 _ rfl HRUN.out ?_
      refine hK3 _ _ (fun _ => hb79) ?_
      clear hK3 K3
      simp only [List.getElem_toArray, List.getElem_cons_succ, List.getElem_cons_zero, Act.put, List.setIfInBounds_toArray, List.set_cons_succ, List.set_cons_zero]
      refine any_run1 (i := 17) (by kernel_rfl) (by rfl) (by kernel_rfl) ?_
      intro K3 hK3
      go_wp2_with fail
      refine hK3 _ _ (fun _ => hb79) ?_
      clear hK3 K3
      refine any_done (by kernel_rfl) (NoPanic.normal ?_)
      clear lbx bxc0 bxc1 lcx cxc0 cxc1 d0 d1 d2 hbb hbb' hbb1 hb8 hb79
      go_wp2_with fail
      go_roundw
      case rel => exact ⟨_, by omega, by go_num, HO9.out, HALL2.out, hbr9.out⟩
      case measure => simp [intOf]; omega
end Go.Proofs.Ytkibdciomheekaa
