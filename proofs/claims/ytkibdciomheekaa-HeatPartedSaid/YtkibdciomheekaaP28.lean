/- Does a history agree with a recipe and with what was measured. Equal lists of ranges. The values of the examples. -/
import Derived.Test.YtkibdciomheekaaP11
import Derived.Test.YtkibdciomheekaaP9
import Derived.Test.YtkibdciomheekaaP25
import Derived.Test.YtkibdciomheekaaP4
import Derived.ChangeKeysEq
import Derived.Test.YtkibdciomheekaaP26
import Derived.Test.YtkibdciomheekaaP27
import Derived.Test.YtkibdciomheekaaP15
import Derived.Test.YtkibdciomheekaaP16
import Derived.Test.YtkibdciomheekaaP10
set_option linter.all false
set_option linter.unnecessarySimpa false
set_option linter.unusedSimpArgs false
set_option linter.unusedVariables false
set_option linter.unusedSectionVars false

set_option linter.all false
namespace Go.Proofs.Ytkibdciomheekaa
open Go.RowKit Hp

def agreeB (bars : List Rg) (ss : List Stp) (b : Int) (ks hs : List Int) (m : Rg) : Bool := decide (histE bars ss b ks hs = 0) && inR (nthI hs (hs.length - 1)) m
theorem histE_pos {bars : List Rg} {ss : List Stp} {b : Int} {ks hs : List Int} (h : histE bars ss b ks hs = 0) : 0 < hs.length := by
  unfold histE at h
  split at h
  · rename_i q
    exact (q h).elim
  · split at h
    · cases h
    · omega

set_option maxHeartbeats 8000000 in
set_option maxRecDepth 100000 in
theorem agrees_any (bars : List Rg) (ss : List Stp) (b : Int) (ks hs : List Int) (m : Rg) (vh vb vs vk : Value) (w : World) (hf : Fit bars ss) (hkl : ks.length ≤ 1000) (hB : RR w w.heap.size vb bars) (hS : RP w w.heap.size vs ss) (hR : RI w w.heap.size vk ks) (hH : RI w w.heap.size vh hs) (hhl : hs.length ≤ 1000) :
    Calls Try.prog 31 #[.agg #[vb, vs], .agg #[.int .i64 b, vk], vh, rV m] w fun e w' => e = .returned (.bool (agreeB bars ss b ks hs m)) ∧ Below w.heap.size w w' := by
  have HF := Lib.hid hf
  clear hf
  obtain ⟨Ab, cb, rfl⟩ := hB.slice
  obtain ⟨As, cs, rfl⟩ := hS.slice
  obtain ⟨Ak, ck, rfl⟩ : ∃ A c, vk = .slice A ks.length c := by
    obtain ⟨A, c, b, o, hv, _⟩ := hR
    exact ⟨A, c, hv⟩
  obtain ⟨Ah, ch, rfl⟩ : ∃ A c, vh = .slice A hs.length c := by
    obtain ⟨A, c, b, o, hv, _⟩ := hH
    exact ⟨A, c, hv⟩
  obtain ⟨mlo, mhi⟩ := m
  unfold rV
  obtain ⟨n0, hn0⟩ : ∃ n, w.heap.size = n := ⟨_, rfl⟩
  have hC : Below n0 w w := Below.refl _ _
  go_enter Try.func31, Try.ntmps31
  go_upto_region 1 with fail
  have hqbx : n0 ≤ n0 := by have := hC.size; omega
  have bx : BK (w.alloc (.cells #[.slice Ab bars.length cb, .slice As ss.length cs] 25)) (n0) #[.slice Ab bars.length cb, .slice As ss.length cs] 25 := BK.new' _ _ _ (n0) hn0
  have hsbx : (w.alloc (.cells #[.slice Ab bars.length cb, .slice As ss.length cs] 25)).heap.size = n0 + 1 := by simp [hn0]
  replace hC : Below n0 w (w.alloc (.cells #[.slice Ab bars.length cb, .slice As ss.length cs] 25)) := Below.alloc hC (by have := hC.size; omega) _
  replace hB := (RS.below hB (w' := (w.alloc (.cells #[.slice Ab bars.length cb, .slice As ss.length cs] 25))) (Below.alloc (Below.refl _ _) (Nat.le_refl _) _)).more (B' := (w.alloc (.cells #[.slice Ab bars.length cb, .slice As ss.length cs] 25)).heap.size) (by simp)
  replace hS := (RP.below hS (w' := (w.alloc (.cells #[.slice Ab bars.length cb, .slice As ss.length cs] 25))) (Below.alloc (Below.refl _ _) (Nat.le_refl _) _)).more (B' := (w.alloc (.cells #[.slice Ab bars.length cb, .slice As ss.length cs] 25)).heap.size) (by simp)
  replace hR := (RS.below hR (w' := (w.alloc (.cells #[.slice Ab bars.length cb, .slice As ss.length cs] 25))) (Below.alloc (Below.refl _ _) (Nat.le_refl _) _)).more (B' := (w.alloc (.cells #[.slice Ab bars.length cb, .slice As ss.length cs] 25)).heap.size) (by simp)
  replace hH := (RS.below hH (w' := (w.alloc (.cells #[.slice Ab bars.length cb, .slice As ss.length cs] 25))) (Below.alloc (Below.refl _ _) (Nat.le_refl _) _)).more (B' := (w.alloc (.cells #[.slice Ab bars.length cb, .slice As ss.length cs] 25)).heap.size) (by simp)
  generalize (w.alloc (.cells #[.slice Ab bars.length cb, .slice As ss.length cs] 25)) = Wbx at *
  have hqcx : n0 ≤ n0 + 1 := by have := hC.size; omega
  have cx : BK (Wbx.alloc (.cells #[.int .i64 b, .slice Ak ks.length ck] 42)) (n0 + 1) #[.int .i64 b, .slice Ak ks.length ck] 42 := BK.new' _ _ _ (n0 + 1) hsbx
  have hscx : (Wbx.alloc (.cells #[.int .i64 b, .slice Ak ks.length ck] 42)).heap.size = n0 + 1 + 1 := by simp [hsbx]
  replace hC : Below n0 w (Wbx.alloc (.cells #[.int .i64 b, .slice Ak ks.length ck] 42)) := Below.alloc hC (by have := hC.size; omega) _
  replace hB := (RS.below hB (w' := (Wbx.alloc (.cells #[.int .i64 b, .slice Ak ks.length ck] 42))) (Below.alloc (Below.refl _ _) (Nat.le_refl _) _)).more (B' := (Wbx.alloc (.cells #[.int .i64 b, .slice Ak ks.length ck] 42)).heap.size) (by simp)
  replace hS := (RP.below hS (w' := (Wbx.alloc (.cells #[.int .i64 b, .slice Ak ks.length ck] 42))) (Below.alloc (Below.refl _ _) (Nat.le_refl _) _)).more (B' := (Wbx.alloc (.cells #[.int .i64 b, .slice Ak ks.length ck] 42)).heap.size) (by simp)
  replace hR := (RS.below hR (w' := (Wbx.alloc (.cells #[.int .i64 b, .slice Ak ks.length ck] 42))) (Below.alloc (Below.refl _ _) (Nat.le_refl _) _)).more (B' := (Wbx.alloc (.cells #[.int .i64 b, .slice Ak ks.length ck] 42)).heap.size) (by simp)
  replace hH := (RS.below hH (w' := (Wbx.alloc (.cells #[.int .i64 b, .slice Ak ks.length ck] 42))) (Below.alloc (Below.refl _ _) (Nat.le_refl _) _)).more (B' := (Wbx.alloc (.cells #[.int .i64 b, .slice Ak ks.length ck] 42)).heap.size) (by simp)
  replace bx := bx.alloc (.cells #[.int .i64 b, .slice Ak ks.length ck] 42)
  generalize (Wbx.alloc (.cells #[.int .i64 b, .slice Ak ks.length ck] 42)) = Wcx at *
  clear hsbx
  have hqmx : n0 ≤ n0 + 1 + 1 := by have := hC.size; omega
  have mx : BK (Wcx.alloc (.cells #[.int .i64 mlo, .int .i64 mhi] 33)) (n0 + 1 + 1) #[.int .i64 mlo, .int .i64 mhi] 33 := BK.new' _ _ _ (n0 + 1 + 1) hscx
  have hsmx : (Wcx.alloc (.cells #[.int .i64 mlo, .int .i64 mhi] 33)).heap.size = n0 + 1 + 1 + 1 := by simp [hscx]
  replace hC : Below n0 w (Wcx.alloc (.cells #[.int .i64 mlo, .int .i64 mhi] 33)) := Below.alloc hC (by have := hC.size; omega) _
  replace hB := (RS.below hB (w' := (Wcx.alloc (.cells #[.int .i64 mlo, .int .i64 mhi] 33))) (Below.alloc (Below.refl _ _) (Nat.le_refl _) _)).more (B' := (Wcx.alloc (.cells #[.int .i64 mlo, .int .i64 mhi] 33)).heap.size) (by simp)
  replace hS := (RP.below hS (w' := (Wcx.alloc (.cells #[.int .i64 mlo, .int .i64 mhi] 33))) (Below.alloc (Below.refl _ _) (Nat.le_refl _) _)).more (B' := (Wcx.alloc (.cells #[.int .i64 mlo, .int .i64 mhi] 33)).heap.size) (by simp)
  replace hR := (RS.below hR (w' := (Wcx.alloc (.cells #[.int .i64 mlo, .int .i64 mhi] 33))) (Below.alloc (Below.refl _ _) (Nat.le_refl _) _)).more (B' := (Wcx.alloc (.cells #[.int .i64 mlo, .int .i64 mhi] 33)).heap.size) (by simp)
  replace hH := (RS.below hH (w' := (Wcx.alloc (.cells #[.int .i64 mlo, .int .i64 mhi] 33))) (Below.alloc (Below.refl _ _) (Nat.le_refl _) _)).more (B' := (Wcx.alloc (.cells #[.int .i64 mlo, .int .i64 mhi] 33)).heap.size) (by simp)
  replace bx := bx.alloc (.cells #[.int .i64 mlo, .int .i64 mhi] 33)
  replace cx := cx.alloc (.cells #[.int .i64 mlo, .int .i64 mhi] 33)
  generalize (Wcx.alloc (.cells #[.int .i64 mlo, .int .i64 mhi] 33)) = Wmx at *
  clear hscx
  clear hsmx
  generalize Wmx = W0 at *
  have lb := bx.lt
  have lc := cx.lt
  have lm := mx.lt
  have bx0 := bx.cell 0
  have bx1 := bx.cell 1
  simp at bx0 bx1
  have cx0 := cx.cell 0
  have cx1 := cx.cell 1
  simp at cx0 cx1
  have mx0 := mx.cell 0
  have mx1 := mx.cell 1
  simp at mx0 mx1
  refine wp_region_noPanic (plain_any [0, 1, 2, 4, 5, 6, 7, 8, 9, 10, 11, 12, 14, 15] (Below W0.heap.size W0) mixed ?_)
  (refine any_take 0 ?_ (by rfl) (by kernel_rfl) (fun _ _ _ _ _ hx => hx.elim) (.inl ⟨by rfl, ?_⟩) (by exact bel_of) ?_; rotate_left; (intro X hX; obtain ⟨r1, r2⟩ := Below.rules hX; clear hX; go_simp; rfl); simp only [List.getElem_toArray, List.getElem_cons_succ, List.getElem_cons_zero, Act.put, List.setIfInBounds_toArray, List.set_cons_succ, List.set_cons_zero])
  (refine any_take 1 ?_ (by rfl) (by kernel_rfl) (fun _ _ _ _ _ hx => hx.elim) (.inl ⟨by rfl, ?_⟩) (by exact bel_of) ?_; rotate_left; (intro X hX; obtain ⟨r1, r2⟩ := Below.rules hX; clear hX; go_simp; rfl); simp only [List.getElem_toArray, List.getElem_cons_succ, List.getElem_cons_zero, Act.put, List.setIfInBounds_toArray, List.set_cons_succ, List.set_cons_zero])
  (refine any_take 2 ?_ (by rfl) (by kernel_rfl) (fun _ _ _ _ _ hx => hx.elim) (.inl ⟨by rfl, ?_⟩) (by exact bel_of) ?_; rotate_left; (intro X hX; obtain ⟨r1, r2⟩ := Below.rules hX; clear hX; go_simp; rfl); simp only [List.getElem_toArray, List.getElem_cons_succ, List.getElem_cons_zero, Act.put, List.setIfInBounds_toArray, List.set_cons_succ, List.set_cons_zero])
  have hd0 : Below W0.heap.size W0 W0.drew := Below.drew (Below.refl _ _)
  refine any_run1 (i := 3) (by kernel_rfl) (by rfl) (by kernel_rfl) ?_
  intro K3 hK3
  go_wp2_with fail
  refine (historyR_any bars ss b ks hs _ _ _ _ _ HF.out hkl ((RS.below hB hd0).more hd0.size) ((RP.below hS hd0).more hd0.size) ((RS.below hR hd0).more hd0.size) ((RS.below hH hd0).more hd0.size) hhl).mono ?_
  rintro e V1 ⟨rfl, hb1⟩
  have hb01 : Below W0.heap.size W0 V1 := hd0.trans hb1
  refine hK3 _ _ (fun _ => hb01) ?_
  clear hK3 K3 hb1
  have hC1 := hC.trans (hb01.mono (by have := hC.size; omega))
  obtain ⟨e, he⟩ : ∃ e, histE bars ss b ks hs = e := ⟨_, rfl⟩
  rw [he]
  by_cases e0 : e = 0
  case neg =>
    have HE := Lib.hid (show agreeB bars ss b ks hs ⟨mlo, mhi⟩ = false by unfold agreeB; rw [he, decide_eq_false e0]; rfl)
    have b1 : (e == 0) = false := beq_eq_false_iff_ne.2 e0
    clear he e0
    (refine any_take 4 ?_ (by rfl) (by kernel_rfl) (fun _ _ _ _ _ hx => hx.elim) (.inl ⟨by rfl, ?_⟩) (by exact bel_of) ?_; rotate_left; (intro X hX; obtain ⟨r1, r2⟩ := Below.rules hX; clear hX; go_simp; rfl); simp only [List.getElem_toArray, List.getElem_cons_succ, List.getElem_cons_zero, Act.put, List.setIfInBounds_toArray, List.set_cons_succ, List.set_cons_zero])
    (refine any_take 5 ?_ (by rfl) (by kernel_rfl) (fun _ _ _ _ _ hx => hx.elim) (.inl ⟨by rfl, ?_⟩) (by exact bel_of) ?_; rotate_left; (intro X hX; obtain ⟨r1, r2⟩ := Below.rules hX; clear hX; go_simp; rfl); simp only [List.getElem_toArray, List.getElem_cons_succ, List.getElem_cons_zero, Act.put, List.setIfInBounds_toArray, List.set_cons_succ, List.set_cons_zero])
    (refine any_take 6 undef (by rfl) (by kernel_rfl) (fun _ _ _ _ _ hx => hx.elim) (.inr ⟨by rfl, by rfl⟩) (by exact bel_of) ?_; simp only [List.getElem_toArray, List.getElem_cons_succ, List.getElem_cons_zero, Act.put, List.setIfInBounds_toArray, List.set_cons_succ, List.set_cons_zero])
    (refine any_take 7 undef (by rfl) (by kernel_rfl) (fun _ _ _ _ _ hx => hx.elim) (.inr ⟨by rfl, by rfl⟩) (by exact bel_of) ?_; simp only [List.getElem_toArray, List.getElem_cons_succ, List.getElem_cons_zero, Act.put, List.setIfInBounds_toArray, List.set_cons_succ, List.set_cons_zero])
    (refine any_take 8 undef (by rfl) (by kernel_rfl) (fun _ _ _ _ _ hx => hx.elim) (.inr ⟨by rfl, by rfl⟩) (by exact bel_of) ?_; simp only [List.getElem_toArray, List.getElem_cons_succ, List.getElem_cons_zero, Act.put, List.setIfInBounds_toArray, List.set_cons_succ, List.set_cons_zero])
    (refine any_take 9 undef (by rfl) (by kernel_rfl) (fun _ _ _ _ _ hx => hx.elim) (.inr ⟨by rfl, by rfl⟩) (by exact bel_of) ?_; simp only [List.getElem_toArray, List.getElem_cons_succ, List.getElem_cons_zero, Act.put, List.setIfInBounds_toArray, List.set_cons_succ, List.set_cons_zero])
    (refine any_take 10 undef (by rfl) (by kernel_rfl) (fun _ _ _ _ _ hx => hx.elim) (.inr ⟨by rfl, by rfl⟩) (by exact bel_of) ?_; simp only [List.getElem_toArray, List.getElem_cons_succ, List.getElem_cons_zero, Act.put, List.setIfInBounds_toArray, List.set_cons_succ, List.set_cons_zero])
    (refine any_take 11 undef (by rfl) (by kernel_rfl) (fun _ _ _ _ _ hx => hx.elim) (.inr ⟨by rfl, by rfl⟩) (by exact bel_of) ?_; simp only [List.getElem_toArray, List.getElem_cons_succ, List.getElem_cons_zero, Act.put, List.setIfInBounds_toArray, List.set_cons_succ, List.set_cons_zero])
    (refine any_take 12 undef (by rfl) (by kernel_rfl) (fun _ _ _ _ _ hx => hx.elim) (.inr ⟨by rfl, by rfl⟩) (by exact bel_of) ?_; simp only [List.getElem_toArray, List.getElem_cons_succ, List.getElem_cons_zero, Act.put, List.setIfInBounds_toArray, List.set_cons_succ, List.set_cons_zero])
    (refine any_skip1 (i := 13) (by kernel_rfl) (by rfl) (by rfl) hb01 ?_; simp only [List.getElem_toArray, List.getElem_cons_succ, List.getElem_cons_zero, Act.put, List.setIfInBounds_toArray, List.set_cons_succ, List.set_cons_zero])
    (refine any_take 14 ?_ (by rfl) (by kernel_rfl) (fun _ _ _ _ _ hx => hx.elim) (.inl ⟨by rfl, ?_⟩) (by exact bel_of) ?_; rotate_left; (intro X hX; obtain ⟨r1, r2⟩ := Below.rules hX; clear hX; go_simp; rfl); simp only [List.getElem_toArray, List.getElem_cons_succ, List.getElem_cons_zero, Act.put, List.setIfInBounds_toArray, List.set_cons_succ, List.set_cons_zero])
    (refine any_take 15 ?_ (by rfl) (by kernel_rfl) (fun _ _ _ _ _ hx => hx.elim) (.inl ⟨by rfl, ?_⟩) (by exact bel_of) ?_; rotate_left; (intro X hX; obtain ⟨r1, r2⟩ := Below.rules hX; clear hX; go_simp; rfl); simp only [List.getElem_toArray, List.getElem_cons_succ, List.getElem_cons_zero, Act.put, List.setIfInBounds_toArray, List.set_cons_succ, List.set_cons_zero])
    refine any_done (by kernel_rfl) (NoPanic.normal ?_)
    go_wp2_with fail
    go_ret
    exact ⟨ret_bool HE.out.symm, by (try rw [hn0]); exact hC1⟩
  subst e0
  have hp := histE_pos he
  have HE := Lib.hid he
  clear he
  obtain ⟨A2, c2, bh, oh, hve, hA, hc⟩ := RI.cells hH
  obtain ⟨rfl, hbh⟩ := hA (by omega)
  injection hve with q1 q2 q3
  subst q1 q3
  have d0 := hc (hs.length - 1) (by omega)
  obtain ⟨n, hn⟩ : ∃ n, hs.length = n + 1 := ⟨hs.length - 1, by omega⟩
  have HV := Lib.hid (show agreeB bars ss b ks hs ⟨mlo, mhi⟩ = inR (nthI hs n) ⟨mlo, mhi⟩ by unfold agreeB; rw [HE.out, hn]; rfl)
  rw [show hs.length - 1 = n by omega] at d0
  rw [hn] at hhl ⊢
  clear hA hc q2 hn hp hH
  obtain ⟨x, hx⟩ : ∃ x, nthI hs n = x := ⟨_, rfl⟩
  rw [hx] at d0 HV
  clear hx
  have w1' : IntKind.i64.wrap (((n + 1 : Nat) : Int) - 1) = (n : Int) := by rw [IntKind.wrap_i64]; omega
  have w2' : IntKind.i64.wrap ((n : Int) + 1 - 1) = (n : Int) := by rw [IntKind.wrap_i64]; omega
  have w3' : IntKind.i64.wrap (n : Int) = (n : Int) := by rw [IntKind.wrap_i64]; omega
  have l1 : (n : Int) < ((n + 1 : Nat) : Int) := by omega
  have l2 : (n : Int) < (n : Int) + 1 := by omega
  (refine any_take 4 ?_ (by rfl) (by kernel_rfl) (fun _ _ _ _ _ hx => hx.elim) (.inl ⟨by rfl, ?_⟩) (by exact bel_of) ?_; rotate_left; (intro X hX; obtain ⟨r1, r2⟩ := Below.rules hX; clear hX; go_simp; rfl); simp only [List.getElem_toArray, List.getElem_cons_succ, List.getElem_cons_zero, Act.put, List.setIfInBounds_toArray, List.set_cons_succ, List.set_cons_zero])
  (refine any_take 5 ?_ (by rfl) (by kernel_rfl) (fun _ _ _ _ _ hx => hx.elim) (.inl ⟨by rfl, ?_⟩) (by exact bel_of) ?_; rotate_left; (intro X hX; obtain ⟨r1, r2⟩ := Below.rules hX; clear hX; go_simp; rfl); simp only [List.getElem_toArray, List.getElem_cons_succ, List.getElem_cons_zero, Act.put, List.setIfInBounds_toArray, List.set_cons_succ, List.set_cons_zero])
  (refine any_take 6 ?_ (by rfl) (by kernel_rfl) (fun _ _ _ _ _ hx => hx.elim) (.inl ⟨by rfl, ?_⟩) (by exact bel_of) ?_; rotate_left; (intro X hX; obtain ⟨r1, r2⟩ := Below.rules hX; clear hX; go_simp; rfl); simp only [List.getElem_toArray, List.getElem_cons_succ, List.getElem_cons_zero, Act.put, List.setIfInBounds_toArray, List.set_cons_succ, List.set_cons_zero])
  (refine any_take 7 ?_ (by rfl) (by kernel_rfl) (fun _ _ _ _ _ hx => hx.elim) (.inl ⟨by rfl, ?_⟩) (by exact bel_of) ?_; rotate_left; (intro X hX; obtain ⟨r1, r2⟩ := Below.rules hX; clear hX; go_simp; rfl); simp only [List.getElem_toArray, List.getElem_cons_succ, List.getElem_cons_zero, Act.put, List.setIfInBounds_toArray, List.set_cons_succ, List.set_cons_zero])
  (refine any_take 8 ?_ (by rfl) (by kernel_rfl) (fun _ _ _ _ _ hx => hx.elim) (.inl ⟨by rfl, ?_⟩) (by exact bel_of) ?_; rotate_left; (intro X hX; obtain ⟨r1, r2⟩ := Below.rules hX; clear hX; go_simp; rfl); simp only [List.getElem_toArray, List.getElem_cons_succ, List.getElem_cons_zero, Act.put, List.setIfInBounds_toArray, List.set_cons_succ, List.set_cons_zero])
  (refine any_take 9 ?_ (by rfl) (by kernel_rfl) (fun _ _ _ _ _ hx => hx.elim) (.inl ⟨by rfl, ?_⟩) (by exact bel_of) ?_; rotate_left; (intro X hX; obtain ⟨r1, r2⟩ := Below.rules hX; clear hX; go_simp; rfl); simp only [List.getElem_toArray, List.getElem_cons_succ, List.getElem_cons_zero, Act.put, List.setIfInBounds_toArray, List.set_cons_succ, List.set_cons_zero])
  (refine any_take 10 ?_ (by rfl) (by kernel_rfl) (fun _ _ _ _ _ hx => hx.elim) (.inl ⟨by rfl, ?_⟩) (by exact bel_of) ?_; rotate_left; (intro X hX; obtain ⟨r1, r2⟩ := Below.rules hX; clear hX; go_simp; rfl); simp only [List.getElem_toArray, List.getElem_cons_succ, List.getElem_cons_zero, Act.put, List.setIfInBounds_toArray, List.set_cons_succ, List.set_cons_zero])
  (refine any_take 11 ?_ (by rfl) (by kernel_rfl) (fun _ _ _ _ _ hx => hx.elim) (.inl ⟨by rfl, ?_⟩) (by exact bel_of) ?_; rotate_left; (intro X hX; obtain ⟨r1, r2⟩ := Below.rules hX; clear hX; go_simp; rfl); simp only [List.getElem_toArray, List.getElem_cons_succ, List.getElem_cons_zero, Act.put, List.setIfInBounds_toArray, List.set_cons_succ, List.set_cons_zero])
  (refine any_take 12 ?_ (by rfl) (by kernel_rfl) (fun _ _ _ _ _ hx => hx.elim) (.inl ⟨by rfl, ?_⟩) (by exact bel_of) ?_; rotate_left; (intro X hX; obtain ⟨r1, r2⟩ := Below.rules hX; clear hX; go_simp; rfl); simp only [List.getElem_toArray, List.getElem_cons_succ, List.getElem_cons_zero, Act.put, List.setIfInBounds_toArray, List.set_cons_succ, List.set_cons_zero])
  refine any_run1 (i := 13) (by kernel_rfl) (by rfl) (by kernel_rfl) ?_
  intro K3 hK3
  go_wp2_with fail
  refine (in_any x ⟨mlo, mhi⟩ _).mono ?_
  rintro e V2 ⟨rfl, hb2⟩
  have hb02 : Below W0.heap.size W0 V2 := hb01.trans (hb2.mono hb01.size)
  refine hK3 _ _ (fun _ => hb02) ?_
  clear hK3 K3 hb2
  have hC2 := hC.trans (hb02.mono (by have := hC.size; omega))
  obtain ⟨q, hq⟩ : ∃ q, inR x ⟨mlo, mhi⟩ = q := ⟨_, rfl⟩
  rw [hq] at HV ⊢
  clear hq w1' w2' w3' l1 l2
  (refine any_take 14 ?_ (by rfl) (by kernel_rfl) (fun _ _ _ _ _ hx => hx.elim) (.inl ⟨by rfl, ?_⟩) (by exact bel_of) ?_; rotate_left; (intro X hX; obtain ⟨r1, r2⟩ := Below.rules hX; clear hX; go_simp; rfl); simp only [List.getElem_toArray, List.getElem_cons_succ, List.getElem_cons_zero, Act.put, List.setIfInBounds_toArray, List.set_cons_succ, List.set_cons_zero])
  (refine any_take 15 ?_ (by rfl) (by kernel_rfl) (fun _ _ _ _ _ hx => hx.elim) (.inl ⟨by rfl, ?_⟩) (by exact bel_of) ?_; rotate_left; (intro X hX; obtain ⟨r1, r2⟩ := Below.rules hX; clear hX; go_simp; rfl); simp only [List.getElem_toArray, List.getElem_cons_succ, List.getElem_cons_zero, Act.put, List.setIfInBounds_toArray, List.set_cons_succ, List.set_cons_zero])
  refine any_done (by kernel_rfl) (NoPanic.normal ?_)
  go_wp2_with fail
  go_ret
  exact ⟨ret_bool HV.out.symm, by (try rw [hn0]); exact hC2⟩
end Go.Proofs.Ytkibdciomheekaa

set_option linter.all false
namespace Go.Proofs.Ytkibdciomheekaa
open Go.RowKit Hp

theorem eq_of_nthB {a b : List Rg} (h : a.length = b.length) (h2 : ∀ k, k < a.length → nthB a k = nthB b k) : a = b := by
  refine List.ext_getElem h fun i h3 h4 => ?_
  have := h2 i h3
  simpa [nthB, h3, h4] using this

set_option maxHeartbeats 2000000 in
theorem rangesL_any (a b : List Rg) (va vb : Value) (w : World) (hl : a.length ≤ 1000) (hl2 : b.length ≤ 1000) (h : RR w w.heap.size va a) (h' : RR w w.heap.size vb b) :
    Calls Try.prog 25 #[va, vb] w fun e w' => e = .returned (.bool (decide (a = b))) ∧ Below w.heap.size w w' := by
  obtain ⟨A, cap, bb, off, rfl, hA, hc⟩ := h.cells
  obtain ⟨A', cap', bb', off', rfl, hA', hc'⟩ := h'.cells
  have HC := Lib.hid hc; have HC' := Lib.hid hc'; have HA := Lib.hid hA; have HA' := Lib.hid hA'
  clear hc hc' hA hA' h h'
  by_cases hlen : a.length = b.length
  · have hb0 : b.length = a.length := hlen.symm
    rw [hb0] at HC' HA' hl2 ⊢
    have HLEN := Lib.hid hlen
    clear hlen hb0
    have hne : ((a.length : Int) != (a.length : Int)) = false := by simp
    go_enter Try.func25, Try.ntmps25
    go_wp2_with fail
    go_loopw [5] (fun i wr => ∃ k : Nat, k ≤ a.length ∧ i = .int .i64 k ∧ Below w.heap.size w wr ∧ ∀ j, j < k → nthB a j = nthB b j) (fun i _ => a.length - (intOf i).toNat)
    case atStart => exact ⟨0, Nat.zero_le _, rfl, by exact bel_of, fun j hj => absurd hj (by omega)⟩
    case round =>
      obtain ⟨k, hk, rfl, hbw, hall⟩ := hrel
      have HALL := Lib.hid hall; clear hall
      have hsz := hbw.size
      by_cases hlt : k < a.length
      · obtain ⟨rfl, hb⟩ := HA.out (by omega)
        obtain ⟨rfl, hb'⟩ := HA'.out (by omega)
        obtain ⟨c0, c2⟩ := HC.out k hlt
        obtain ⟨c1, c3⟩ := HC'.out k (by omega)
        rw [← hbw.cell (by exact hb)] at c0 c2
        rw [← hbw.cell (by exact hb')] at c1 c3
        have hbr : bb < wr.heap.size := by omega
        have hbr' : bb' < wr.heap.size := by omega
        by_cases he : nthB a k = nthB b k
        · have HE := Lib.hid he
          obtain ⟨⟨x1, x2⟩, hx⟩ : ∃ x, nthB a k = x := ⟨_, rfl⟩
          rw [← he, hx] at c1 c3
          rw [hx] at c0 c2
          dsimp only at c0 c1 c2 c3
          clear he hx
          go_wp2_with fail
          go_quiet (fail)
          go_wp2_with fail
          go_roundw
          case rel => exact ⟨k + 1, by omega, by go_num, by exact bel_of, fun j hj => by
            rcases Nat.lt_succ_iff_lt_or_eq.1 hj with h | rfl
            · exact HALL.out j h
            · exact HE.out⟩
          case measure => simp [intOf]; omega
        · have HE := Lib.hid (show a ≠ b by rintro rfl; exact he rfl)
          obtain ⟨⟨x1, x2⟩, hx⟩ : ∃ x, nthB a k = x := ⟨_, rfl⟩
          obtain ⟨⟨y1, y2⟩, hy⟩ : ∃ x, nthB b k = x := ⟨_, rfl⟩
          rw [hx] at c0 c2 he
          rw [hy] at c1 c3 he
          dsimp only at c0 c1 c2 c3
          have hne2 : x1 = y1 → x2 = y2 → False := fun p q => he (by rw [p, q])
          clear he hx hy
          by_cases h1 : x1 = y1
          · subst h1
            have d1 : (x2 == y2) = false := beq_eq_false_iff_ne.2 fun q => hne2 rfl q
            clear hne2
            go_wp2_with fail
            go_quiet (fail)
            go_wp2_with fail
            go_ret
            exact ⟨by rw [decide_eq_false HE.out]; rfl, by exact bel_of⟩

          · have d1 : (x1 == y1) = false := beq_eq_false_iff_ne.2 h1
            clear hne2 h1
            go_wp2_with fail
            go_quiet (fail)
            go_wp2_with fail
            go_ret
            exact ⟨by rw [decide_eq_false HE.out]; rfl, by exact bel_of⟩
      · have HE := Lib.hid (eq_of_nthB HLEN.out fun j hj => HALL.out j (by omega))
        clear HALL
        go_wp2_with fail
        go_ret
        exact ⟨by rw [decide_eq_true HE.out]; rfl, by exact bel_of⟩
  · have hne : ((a.length : Int) != (b.length : Int)) = true := by simp; omega
    have HE := Lib.hid (show a ≠ b by rintro rfl; exact hlen rfl)
    go_enter Try.func25, Try.ntmps25
    go_wp2_with fail
    go_ret
    exact ⟨by rw [decide_eq_false HE.out]; rfl, by exact bel_of⟩

end Go.Proofs.Ytkibdciomheekaa

set_option linter.all false
namespace Go.Proofs.Ytkibdciomheekaa
open Go.RowKit Hp

section
variable {bars : List Rg} {m : Rg} {ss : List Stp}
theorem someV_bars (h : OkV bars ss) (hm : OkR m) : someV bars m ss (-1) = (barsOf bars.length (makers bars ss m)).map Int.ofNat := by
  have e := empty_iff h.bok h.sok hm
  unfold someV
  split
  · rename_i q
    rw [e.1 q]
    simp [barsOf]
  · rw [if_pos (by decide), someB_eq h.bok h.sok hm]
theorem someV_ways (h : OkV bars ss) (hm : OkR m) {i : Nat} (hi : i < ss.length) : someV bars m ss (i : Int) = (waysOf (nthS ss i).length i (makers bars ss m)).map Int.ofNat := by
  have e := empty_iff h.bok h.sok hm
  unfold someV
  split
  · rename_i q
    rw [e.1 q]
    simp [waysOf]
  · rw [if_neg (by omega), Int.toNat_natCast, someW_eq h.bok h.sok hm hi]
end
theorem ex_works : worksE houseB houseS = 0 := by decide +kernel
theorem ex_okV : OkV houseB houseS := okV_of ex_works
theorem ex_okM : OkR (⟨410, 420⟩ : Rg) := by unfold OkR; decide
theorem ex_meas : measE houseB houseS ⟨410, 420⟩ = 0 := by decide +kernel
theorem ex_makers : makers houseB houseS ⟨410, 420⟩ = [(0, [1, 0]), (1, [0, 0]), (1, [1, 0])] := by decide +kernel
theorem ex_fit : Fit houseB houseS := ⟨by decide, by decide, by decide, by decide⟩
theorem ex_after : afterR (nthW (nthS houseS 1) 0) 420 = ⟨280, 400⟩ ∧ afterE (nthW (nthS houseS 1) 0) 420 = 0 := by decide +kernel
theorem ex_rec : recE houseB houseS 1 [0, 0] = 0 := by decide +kernel
theorem ex_rng : rngL houseB houseS 1 [0, 0] = [⟨150, 300⟩, ⟨400, 600⟩, ⟨200, 480⟩] := by decide +kernel
theorem ex_hist1 : histE houseB houseS 1 [0, 0] [200, 560, 415] = 0 := by decide +kernel
theorem ex_hist2 : histE houseB houseS 1 [0, 0] [160, 560, 415] = 16 := by decide +kernel
theorem ex_had1 : hadE houseB houseS 1 [0, 0] ⟨410, 420⟩ = 0 := by decide +kernel
theorem ex_had0 : hadE houseB houseS 0 [0, 0] ⟨410, 420⟩ = 17 := by decide +kernel
theorem ex_hadV : hadV houseB houseS 1 [0, 0] ⟨410, 420⟩ = [⟨180, 300⟩, ⟨550, 600⟩, ⟨410, 420⟩] := by decide +kernel
theorem ex_agrees : agreeB houseB houseS 1 [0, 0] (histV houseB houseS 1 [0, 0] ⟨410, 420⟩) ⟨410, 420⟩ = true := by decide +kernel
theorem ex_histV_len : (histV houseB houseS 1 [0, 0] ⟨410, 420⟩).length = 3 := by decide +kernel
theorem ex_barsV : someV houseB ⟨410, 420⟩ houseS (-1) = [0, 1] := by
  rw [someV_bars ex_okV ex_okM]
  show (barsOf 2 (makers houseB houseS ⟨410, 420⟩)).map Int.ofNat = _
  rw [ex_makers]
  decide
theorem ex_barsE : barsE houseB houseS ⟨410, 420⟩ = 0 := by
  unfold barsE
  rw [ex_meas, ex_barsV]
  decide
theorem ex_ways : wysL houseB ⟨410, 420⟩ houseS houseS.length = [[0, 1], [0]] := by
  show [someV houseB ⟨410, 420⟩ houseS ((0 : Nat) : Int), someV houseB ⟨410, 420⟩ houseS ((1 : Nat) : Int)] = _
  rw [someV_ways ex_okV ex_okM (i := 0) (by decide), someV_ways ex_okV ex_okM (i := 1) (by decide)]
  rw [show makers houseB houseS ⟨410, 420⟩ = _ from ex_makers]
  decide
theorem ex_mkL : mkL houseB ⟨410, 420⟩ houseS = [[0, 1, 0], [1, 0, 0], [1, 1, 0]] := by
  unfold mkL
  rw [ex_makers]
  rfl
theorem ex_ask : askQ houseB houseS ⟨410, 420⟩ = ⟨-1, 2⟩ := by
  unfold askQ
  rw [if_pos ex_barsE, ex_mkL]
  decide +kernel
end Go.Proofs.Ytkibdciomheekaa
