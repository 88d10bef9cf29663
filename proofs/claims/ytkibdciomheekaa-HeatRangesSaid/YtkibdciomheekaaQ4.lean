/- HeatRanges: the walk. The ranges of a recipe, and which hardnesses are a history of it, are what the definitions say, or the error; for every works, recipe and list of hardnesses. -/
import Derived.Test.YtkibdciomheekaaP29
import Derived.Test.YtkibdciomheekaaP30
import Derived.Test.YtkibdciomheekaaP10
import Derived.Test.YtkibdciomheekaaP11
import Derived.Test.YtkibdciomheekaaP28
import Derived.Test.YtkibdciomheekaaRows
set_option linter.all false
set_option linter.unnecessarySimpa false
set_option linter.unusedSimpArgs false
set_option linter.unusedVariables false
set_option linter.unusedSectionVars false

set_option linter.all false
namespace Go.Proofs.Ytkibdciomheekaa
open Go.RowKit Hp

set_option maxHeartbeats 8000000 in
set_option maxRecDepth 100000 in
theorem heatRanges_any (bars : List Rg) (ss : List Stp) (vb vs : Value) (b : Int) (ks : List Int) (vk : Value) (hs : List Int) (vh : Value) (w : World) (hB : RR w w.heap.size vb bars) (hS : RP w w.heap.size vs ss) (hR : RI w w.heap.size vk ks) (hH : RI w w.heap.size vh hs) :
    Calls Try.prog 4 #[.agg #[vb, vs], .agg #[.int .i64 b, vk], vh] w fun x w' => x = .returned (.bool true) ∧ Below w.heap.size w w' := by
  obtain ⟨Ab, cb, rfl⟩ := hB.slice
  obtain ⟨As, cs, rfl⟩ := hS.slice
  obtain ⟨Ar, cr, rfl⟩ := ri_slice hR
  obtain ⟨Ah, ch, rfl⟩ := ri_slice hH
  obtain ⟨n0, hn0⟩ : ∃ n, w.heap.size = n := ⟨_, rfl⟩
  have hC : Below n0 w w := Below.refl _ _
  go_enter Try.func4, Try.ntmps4
  go_upto_region 1 with fail
  have hqbx : n0 ≤ n0 := by have := hC.size; omega
  have bx : BK (w.alloc (.cells #[.slice Ab bars.length cb, .slice As ss.length cs] 25)) (n0) #[.slice Ab bars.length cb, .slice As ss.length cs] 25 := BK.new' _ _ _ (n0) hn0
  have hsbx : (w.alloc (.cells #[.slice Ab bars.length cb, .slice As ss.length cs] 25)).heap.size = n0 + 1 := by simp [hn0]
  replace hC : Below n0 w (w.alloc (.cells #[.slice Ab bars.length cb, .slice As ss.length cs] 25)) := Below.alloc hC (by have := hC.size; omega) _
  replace hB := (RS.below hB (w' := (w.alloc (.cells #[.slice Ab bars.length cb, .slice As ss.length cs] 25))) (Below.alloc (Below.refl _ _) (Nat.le_refl _) _)).more (B' := (w.alloc (.cells #[.slice Ab bars.length cb, .slice As ss.length cs] 25)).heap.size) (by simp)
  replace hS := (RP.below hS (w' := (w.alloc (.cells #[.slice Ab bars.length cb, .slice As ss.length cs] 25))) (Below.alloc (Below.refl _ _) (Nat.le_refl _) _)).more (B' := (w.alloc (.cells #[.slice Ab bars.length cb, .slice As ss.length cs] 25)).heap.size) (by simp)
  replace hR := (RS.below hR (w' := (w.alloc (.cells #[.slice Ab bars.length cb, .slice As ss.length cs] 25))) (Below.alloc (Below.refl _ _) (Nat.le_refl _) _)).more (B' := (w.alloc (.cells #[.slice Ab bars.length cb, .slice As ss.length cs] 25)).heap.size) (by simp)
  replace hH := (RS.below hH (w' := (w.alloc (.cells #[.slice Ab bars.length cb, .slice As ss.length cs] 25))) (Below.alloc (Below.refl _ _) (Nat.le_refl _) _)).more (B' := (w.alloc (.cells #[.slice Ab bars.length cb, .slice As ss.length cs] 25)).heap.size) (by simp)
  generalize (w.alloc (.cells #[.slice Ab bars.length cb, .slice As ss.length cs] 25)) = Wbx at *
  have hqwx : n0 ≤ n0 + 1 := by have := hC.size; omega
  have wx : BK (Wbx.alloc (.cells #[.int .i64 b, .slice Ar ks.length cr] 42)) (n0 + 1) #[.int .i64 b, .slice Ar ks.length cr] 42 := BK.new' _ _ _ (n0 + 1) hsbx
  have hswx : (Wbx.alloc (.cells #[.int .i64 b, .slice Ar ks.length cr] 42)).heap.size = n0 + 1 + 1 := by simp [hsbx]
  replace hC : Below n0 w (Wbx.alloc (.cells #[.int .i64 b, .slice Ar ks.length cr] 42)) := Below.alloc hC (by have := hC.size; omega) _
  replace hB := (RS.below hB (w' := (Wbx.alloc (.cells #[.int .i64 b, .slice Ar ks.length cr] 42))) (Below.alloc (Below.refl _ _) (Nat.le_refl _) _)).more (B' := (Wbx.alloc (.cells #[.int .i64 b, .slice Ar ks.length cr] 42)).heap.size) (by simp)
  replace hS := (RP.below hS (w' := (Wbx.alloc (.cells #[.int .i64 b, .slice Ar ks.length cr] 42))) (Below.alloc (Below.refl _ _) (Nat.le_refl _) _)).more (B' := (Wbx.alloc (.cells #[.int .i64 b, .slice Ar ks.length cr] 42)).heap.size) (by simp)
  replace hR := (RS.below hR (w' := (Wbx.alloc (.cells #[.int .i64 b, .slice Ar ks.length cr] 42))) (Below.alloc (Below.refl _ _) (Nat.le_refl _) _)).more (B' := (Wbx.alloc (.cells #[.int .i64 b, .slice Ar ks.length cr] 42)).heap.size) (by simp)
  replace hH := (RS.below hH (w' := (Wbx.alloc (.cells #[.int .i64 b, .slice Ar ks.length cr] 42))) (Below.alloc (Below.refl _ _) (Nat.le_refl _) _)).more (B' := (Wbx.alloc (.cells #[.int .i64 b, .slice Ar ks.length cr] 42)).heap.size) (by simp)
  replace bx := bx.alloc (.cells #[.int .i64 b, .slice Ar ks.length cr] 42)
  generalize (Wbx.alloc (.cells #[.int .i64 b, .slice Ar ks.length cr] 42)) = Wwx at *
  clear hsbx
  have lbx := bx.lt
  have bxc0 := bx.cell 0
  have bxc1 := bx.cell 1
  simp at bxc0 bxc1
  have lwx := wx.lt
  have wxc0 := wx.cell 0
  have wxc1 := wx.cell 1
  simp at wxc0 wxc1
  go_wp2_with fail
  clear lbx bxc0 bxc1
  clear lwx wxc0 wxc1
  clear hswx
  refine (great_any bars ss _ _ _ hB hS).mono ?_
  rintro e w1 ⟨q, rfl, hq, hb⟩
  replace hC : Below n0 w w1 := hC.trans (hb.mono (by have := hC.size; omega))
  replace hB := (RS.below hB hb).more hb.size
  replace hS := (RP.below hS hb).more hb.size
  replace hR := (RS.below hR hb).more hb.size
  replace hH := (RS.below hH hb).more hb.size
  replace bx := bx.below hb bx.lt
  replace wx := wx.below hb wx.lt
  clear hb
  cases q
  case true =>
    clear hq
    go_wp2_with fail
    refine (works_any _).mono ?_
    rintro e w2 ⟨rfl, hb⟩
    replace hC : Below n0 w w2 := hC.trans (hb.mono (by have := hC.size; omega))
    replace hB := (RS.below hB hb).more hb.size
    replace hS := (RP.below hS hb).more hb.size
    replace hR := (RS.below hR hb).more hb.size
    replace hH := (RS.below hH hb).more hb.size
    replace bx := bx.below hb bx.lt
    replace wx := wx.below hb wx.lt
    clear hb
    go_wp2_with fail
    exact bodyPost_ret (v := .bool true) (by simp [results, Try.results4, go_sem]) rfl ⟨rfl, by first | exact hC | (rw [hn0]; exact hC) | (with_reducible rw [hn0]; exact bel_of) | exact bel_of⟩
  have HF := Lib.hid (great_fit (show ¬ greatP bars ss from fun h => Bool.noConfusion (hq.2 h)))
  clear hq
  by_cases zhkl : 12 < ks.length
  case pos =>
    have zz : ((ks.length : Nat) : Int) > 12 := by omega
    clear zhkl
    have lbx := bx.lt
    have bxc0 := bx.cell 0
    have bxc1 := bx.cell 1
    simp at bxc0 bxc1
    have lwx := wx.lt
    have wxc0 := wx.cell 0
    have wxc1 := wx.cell 1
    simp at wxc0 wxc1
    go_wp2_with fail
    clear lbx bxc0 bxc1
    clear lwx wxc0 wxc1
    refine (works_any _).mono ?_
    rintro e w2 ⟨rfl, hb⟩
    replace hC : Below n0 w w2 := hC.trans (hb.mono (by have := hC.size; omega))
    replace hB := (RS.below hB hb).more hb.size
    replace hS := (RP.below hS hb).more hb.size
    replace hR := (RS.below hR hb).more hb.size
    replace hH := (RS.below hH hb).more hb.size
    replace bx := bx.below hb bx.lt
    replace wx := wx.below hb wx.lt
    clear hb
    go_wp2_with fail
    exact bodyPost_ret (v := .bool true) (by simp [results, Try.results4, go_sem]) rfl ⟨rfl, by first | exact hC | (rw [hn0]; exact hC) | (with_reducible rw [hn0]; exact bel_of) | exact bel_of⟩
  have hkl : ks.length ≤ 12 := by omega
  have zzhkl : ¬ ((ks.length : Nat) : Int) > 12 := by omega
  clear zhkl
  by_cases zhhl : 12 < hs.length
  case pos =>
    have zz : ((hs.length : Nat) : Int) > 12 := by omega
    clear zhhl
    have lbx := bx.lt
    have bxc0 := bx.cell 0
    have bxc1 := bx.cell 1
    simp at bxc0 bxc1
    have lwx := wx.lt
    have wxc0 := wx.cell 0
    have wxc1 := wx.cell 1
    simp at wxc0 wxc1
    go_wp2_with fail
    clear lbx bxc0 bxc1
    clear lwx wxc0 wxc1
    refine (works_any _).mono ?_
    rintro e w2 ⟨rfl, hb⟩
    replace hC : Below n0 w w2 := hC.trans (hb.mono (by have := hC.size; omega))
    replace hB := (RS.below hB hb).more hb.size
    replace hS := (RP.below hS hb).more hb.size
    replace hR := (RS.below hR hb).more hb.size
    replace hH := (RS.below hH hb).more hb.size
    replace bx := bx.below hb bx.lt
    replace wx := wx.below hb wx.lt
    clear hb
    go_wp2_with fail
    exact bodyPost_ret (v := .bool true) (by simp [results, Try.results4, go_sem]) rfl ⟨rfl, by first | exact hC | (rw [hn0]; exact hC) | (with_reducible rw [hn0]; exact bel_of) | exact bel_of⟩
  have hhl : hs.length ≤ 12 := by omega
  have zzhhl : ¬ ((hs.length : Nat) : Int) > 12 := by omega
  clear zhhl
  have lbx := bx.lt
  have bxc0 := bx.cell 0
  have bxc1 := bx.cell 1
  simp at bxc0 bxc1
  have lwx := wx.lt
  have wxc0 := wx.cell 0
  have wxc1 := wx.cell 1
  simp at wxc0 wxc1
  go_wp2_with fail
  clear lbx bxc0 bxc1
  clear lwx wxc0 wxc1
  clear zzhkl zzhhl
  have hkl2 : ks.length ≤ 1000 := by omega
  have HKL := Lib.hid hkl
  have HKL2 := Lib.hid hkl2
  have HHL := Lib.hid (show hs.length ≤ 1000 by omega)
  clear hkl hkl2 hhl
  refine (ranges_any bars ss b ks _ _ _ _ HF.out HKL2.out hB hS hR).mono ?_
  rintro e w2 ⟨v1, rfl, hv1, hb⟩
  replace hC : Below n0 w w2 := hC.trans (hb.mono (by have := hC.size; omega))
  replace hB := (RS.below hB hb).more hb.size
  replace hS := (RP.below hS hb).more hb.size
  replace hR := (RS.below hR hb).more hb.size
  replace hH := (RS.below hH hb).more hb.size
  replace bx := bx.below hb bx.lt
  replace wx := wx.below hb wx.lt
  clear hb
  obtain ⟨A1, c1, rfl⟩ := rr_slice hv1
  obtain ⟨re, he⟩ : ∃ r, recE bars ss b ks = r := ⟨_, rfl⟩
  rw [he]
  have HE := Lib.hid he
  clear he
  have lbx := bx.lt
  have bxc0 := bx.cell 0
  have bxc1 := bx.cell 1
  simp at bxc0 bxc1
  have lwx := wx.lt
  have wxc0 := wx.cell 0
  have wxc1 := wx.cell 1
  simp at wxc0 wxc1
  go_wp2_with fail
  clear lbx bxc0 bxc1
  clear lwx wxc0 wxc1
  refine (rangesR_any bars ss b ks _ _ _ _ HF.out HKL2.out hB hS hR).mono ?_
  rintro e w3 ⟨v2, rfl, hv2, hb⟩
  replace hC : Below n0 w w3 := hC.trans (hb.mono (by have := hC.size; omega))
  replace hB := (RS.below hB hb).more hb.size
  replace hS := (RP.below hS hb).more hb.size
  replace hR := (RS.below hR hb).more hb.size
  replace hH := (RS.below hH hb).more hb.size
  replace bx := bx.below hb bx.lt
  replace wx := wx.below hb wx.lt
  replace hv1 := (RS.below hv1 hb).more hb.size
  clear hb
  obtain ⟨A2, c2, rfl⟩ := rr_slice hv2
  rw [HE.out]
  have lbx := bx.lt
  have bxc0 := bx.cell 0
  have bxc1 := bx.cell 1
  simp at bxc0 bxc1
  have lwx := wx.lt
  have wxc0 := wx.cell 0
  have wxc1 := wx.cell 1
  simp at wxc0 wxc1
  go_upto_region 5 with fail
  refine wp_region_noPanic (plain_any [0, 1, 3, 4, 5, 6, 7, 8, 9, 10, 11, 13, 14, 15, 17, 18, 19, 21] (Below w3.heap.size w3) mixed ?_)
  (refine any_take 0 ?_ (by rfl) (by kernel_rfl) (fun _ _ _ _ _ hx => hx.elim) (.inl ⟨by rfl, ?_⟩) (by exact bel_of) ?_; rotate_left; (intro X hX; obtain ⟨r1, r2⟩ := Below.rules hX; clear hX; go_simp; rfl); simp only [List.getElem_toArray, List.getElem_cons_succ, List.getElem_cons_zero, Act.put, List.setIfInBounds_toArray, List.set_cons_succ, List.set_cons_zero])
  have d0z : Below w3.heap.size w3 w3.drew := by exact bel_of
  (refine any_take 1 ?_ (by rfl) (by kernel_rfl) (fun _ _ _ _ _ hx => hx.elim) (.inl ⟨by rfl, ?_⟩) (by exact bel_of) ?_; rotate_left; (intro X hX; obtain ⟨r1, r2⟩ := Below.rules hX; clear hX; go_simp; rfl); simp only [List.getElem_toArray, List.getElem_cons_succ, List.getElem_cons_zero, Act.put, List.setIfInBounds_toArray, List.set_cons_succ, List.set_cons_zero])
  have qz1 := d0z.size
  refine any_run1 (i := 2) (by kernel_rfl) (by rfl) (by kernel_rfl) ?_
  intro K hK
  go_wp2_with fail
  refine (rangesL_any _ _ _ _ _ rngL_len rngL_len ((RS.below hv1 d0z).more d0z.size) ((RS.below hv2 d0z).more d0z.size)).mono ?_
  rintro e vz1 ⟨rfl, hb⟩
  rw [decide_eq_true rfl]
  have ez1 : Below w3.heap.size w3 vz1 := d0z.trans (hb.mono d0z.size)
  clear hb
  refine hK _ _ (fun _ => ez1) ?_
  clear hK K
  (refine any_take 3 ?_ (by rfl) (by kernel_rfl) (fun _ _ _ _ _ hx => hx.elim) (.inl ⟨by rfl, ?_⟩) (by exact bel_of) ?_; rotate_left; (intro X hX; obtain ⟨r1, r2⟩ := Below.rules hX; clear hX; go_simp; rfl); simp only [List.getElem_toArray, List.getElem_cons_succ, List.getElem_cons_zero, Act.put, List.setIfInBounds_toArray, List.set_cons_succ, List.set_cons_zero])
  (refine any_take 4 ?_ (by rfl) (by kernel_rfl) (fun _ _ _ _ _ hx => hx.elim) (.inl ⟨by rfl, ?_⟩) (by exact bel_of) ?_; rotate_left; (intro X hX; obtain ⟨r1, r2⟩ := Below.rules hX; clear hX; go_simp; rfl); simp only [List.getElem_toArray, List.getElem_cons_succ, List.getElem_cons_zero, Act.put, List.setIfInBounds_toArray, List.set_cons_succ, List.set_cons_zero])
  (refine any_take 5 ?_ (by rfl) (by kernel_rfl) (fun _ _ _ _ _ hx => hx.elim) (.inl ⟨by rfl, ?_⟩) (by exact bel_of) ?_; rotate_left; (intro X hX; obtain ⟨r1, r2⟩ := Below.rules hX; clear hX; go_simp; rfl); simp only [List.getElem_toArray, List.getElem_cons_succ, List.getElem_cons_zero, Act.put, List.setIfInBounds_toArray, List.set_cons_succ, List.set_cons_zero])
  (refine any_take 6 ?_ (by rfl) (by kernel_rfl) (fun _ _ _ _ _ hx => hx.elim) (.inl ⟨by rfl, ?_⟩) (by exact bel_of) ?_; rotate_left; (intro X hX; obtain ⟨r1, r2⟩ := Below.rules hX; clear hX; go_simp; rfl); simp only [List.getElem_toArray, List.getElem_cons_succ, List.getElem_cons_zero, Act.put, List.setIfInBounds_toArray, List.set_cons_succ, List.set_cons_zero])
  (refine any_take 7 ?_ (by rfl) (by kernel_rfl) (fun _ _ _ _ _ hx => hx.elim) (.inl ⟨by rfl, ?_⟩) (by exact bel_of) ?_; rotate_left; (intro X hX; obtain ⟨r1, r2⟩ := Below.rules hX; clear hX; go_simp; rfl); simp only [List.getElem_toArray, List.getElem_cons_succ, List.getElem_cons_zero, Act.put, List.setIfInBounds_toArray, List.set_cons_succ, List.set_cons_zero])
  (refine any_take 8 ?_ (by rfl) (by kernel_rfl) (fun _ _ _ _ _ hx => hx.elim) (.inl ⟨by rfl, ?_⟩) (by exact bel_of) ?_; rotate_left; (intro X hX; obtain ⟨r1, r2⟩ := Below.rules hX; clear hX; go_simp; rfl); simp only [List.getElem_toArray, List.getElem_cons_succ, List.getElem_cons_zero, Act.put, List.setIfInBounds_toArray, List.set_cons_succ, List.set_cons_zero])
  (refine any_take 9 ?_ (by rfl) (by kernel_rfl) (fun _ _ _ _ _ hx => hx.elim) (.inl ⟨by rfl, ?_⟩) (by exact bel_of) ?_; rotate_left; (intro X hX; obtain ⟨r1, r2⟩ := Below.rules hX; clear hX; go_simp; rfl); simp only [List.getElem_toArray, List.getElem_cons_succ, List.getElem_cons_zero, Act.put, List.setIfInBounds_toArray, List.set_cons_succ, List.set_cons_zero])
  (refine any_take 10 ?_ (by rfl) (by kernel_rfl) (fun _ _ _ _ _ hx => hx.elim) (.inl ⟨by rfl, ?_⟩) (by exact bel_of) ?_; rotate_left; (intro X hX; obtain ⟨r1, r2⟩ := Below.rules hX; clear hX; go_simp; rfl); simp only [List.getElem_toArray, List.getElem_cons_succ, List.getElem_cons_zero, Act.put, List.setIfInBounds_toArray, List.set_cons_succ, List.set_cons_zero])
  (refine any_take 11 ?_ (by rfl) (by kernel_rfl) (fun _ _ _ _ _ hx => hx.elim) (.inl ⟨by rfl, ?_⟩) (by exact bel_of) ?_; rotate_left; (intro X hX; obtain ⟨r1, r2⟩ := Below.rules hX; clear hX; go_simp; rfl); simp only [List.getElem_toArray, List.getElem_cons_succ, List.getElem_cons_zero, Act.put, List.setIfInBounds_toArray, List.set_cons_succ, List.set_cons_zero])
  (refine any_take 13 ?_ (by rfl) (by kernel_rfl) (fun _ _ _ _ _ hx => hx.elim) (.inl ⟨by rfl, ?_⟩) (by exact bel_of) ?_; rotate_left; (intro X hX; obtain ⟨r1, r2⟩ := Below.rules hX; clear hX; go_simp; rfl); simp only [List.getElem_toArray, List.getElem_cons_succ, List.getElem_cons_zero, Act.put, List.setIfInBounds_toArray, List.set_cons_succ, List.set_cons_zero])
  (refine any_take 14 ?_ (by rfl) (by kernel_rfl) (fun _ _ _ _ _ hx => hx.elim) (.inl ⟨by rfl, ?_⟩) (by exact bel_of) ?_; rotate_left; (intro X hX; obtain ⟨r1, r2⟩ := Below.rules hX; clear hX; go_simp; rfl); simp only [List.getElem_toArray, List.getElem_cons_succ, List.getElem_cons_zero, Act.put, List.setIfInBounds_toArray, List.set_cons_succ, List.set_cons_zero])
  (refine any_take 15 ?_ (by rfl) (by kernel_rfl) (fun _ _ _ _ _ hx => hx.elim) (.inl ⟨by rfl, ?_⟩) (by exact bel_of) ?_; rotate_left; (intro X hX; obtain ⟨r1, r2⟩ := Below.rules hX; clear hX; go_simp; rfl); simp only [List.getElem_toArray, List.getElem_cons_succ, List.getElem_cons_zero, Act.put, List.setIfInBounds_toArray, List.set_cons_succ, List.set_cons_zero])
  have qz2 := ez1.size
  refine any_run1 (i := 12) (by kernel_rfl) (by rfl) (by kernel_rfl) ?_
  intro K hK
  go_wp2_with fail
  refine (history_any bars ss b ks hs _ _ _ _ _ HF.out HKL2.out ((RS.below hB ez1).more ez1.size) ((RP.below hS ez1).more ez1.size) ((RS.below hR ez1).more ez1.size) ((RS.below hH ez1).more ez1.size) HHL.out).mono ?_
  rintro e vz2 ⟨rfl, hb⟩
  have ez2 : Below w3.heap.size w3 vz2 := ez1.trans (hb.mono ez1.size)
  clear hb
  refine hK _ _ (fun _ => ez2) ?_
  clear hK K
  have qz3 := ez2.size
  refine any_run1 (i := 16) (by kernel_rfl) (by rfl) (by kernel_rfl) ?_
  intro K hK
  go_wp2_with fail
  refine (historyR_any bars ss b ks hs _ _ _ _ _ HF.out HKL2.out ((RS.below hB ez2).more ez2.size) ((RP.below hS ez2).more ez2.size) ((RS.below hR ez2).more ez2.size) ((RS.below hH ez2).more ez2.size) HHL.out).mono ?_
  rintro e vz3 ⟨rfl, hb⟩
  have ez3 : Below w3.heap.size w3 vz3 := ez2.trans (hb.mono ez2.size)
  clear hb
  refine hK _ _ (fun _ => ez3) ?_
  clear hK K
  (refine any_take 17 ?_ (by rfl) (by kernel_rfl) (fun _ _ _ _ _ hx => hx.elim) (.inl ⟨by rfl, ?_⟩) (by exact bel_of) ?_; rotate_left; (intro X hX; obtain ⟨r1, r2⟩ := Below.rules hX; clear hX; go_simp; rfl); simp only [List.getElem_toArray, List.getElem_cons_succ, List.getElem_cons_zero, Act.put, List.setIfInBounds_toArray, List.set_cons_succ, List.set_cons_zero])
  (refine any_take 18 ?_ (by rfl) (by kernel_rfl) (fun _ _ _ _ _ hx => hx.elim) (.inl ⟨by rfl, ?_⟩) (by exact bel_of) ?_; rotate_left; (intro X hX; obtain ⟨r1, r2⟩ := Below.rules hX; clear hX; go_simp; rfl); simp only [List.getElem_toArray, List.getElem_cons_succ, List.getElem_cons_zero, Act.put, List.setIfInBounds_toArray, List.set_cons_succ, List.set_cons_zero])
  (refine any_take 19 ?_ (by rfl) (by kernel_rfl) (fun _ _ _ _ _ hx => hx.elim) (.inl ⟨by rfl, ?_⟩) (by exact bel_of) ?_; rotate_left; (intro X hX; obtain ⟨r1, r2⟩ := Below.rules hX; clear hX; go_simp; rfl); simp only [List.getElem_toArray, List.getElem_cons_succ, List.getElem_cons_zero, Act.put, List.setIfInBounds_toArray, List.set_cons_succ, List.set_cons_zero])
  have qz4 := ez3.size
  refine any_run1 (i := 20) (by kernel_rfl) (by rfl) (by kernel_rfl) ?_
  intro K hK
  go_wp2_with fail
  refine (works_any _).mono ?_
  rintro e vz4 ⟨rfl, hb⟩
  have ez4 : Below w3.heap.size w3 vz4 := ez3.trans (hb.mono ez3.size)
  clear hb
  refine hK _ _ (fun _ => ez4) ?_
  clear hK K
  (refine any_take 21 ?_ (by rfl) (by kernel_rfl) (fun _ _ _ _ _ hx => hx.elim) (.inl ⟨by rfl, ?_⟩) (by exact bel_of) ?_; rotate_left; (intro X hX; obtain ⟨r1, r2⟩ := Below.rules hX; clear hX; go_simp; rfl); simp only [List.getElem_toArray, List.getElem_cons_succ, List.getElem_cons_zero, Act.put, List.setIfInBounds_toArray, List.set_cons_succ, List.set_cons_zero])
  refine any_run1 (i := 22) (by kernel_rfl) (by rfl) (by kernel_rfl) ?_
  intro K hK
  go_wp2_with fail
  refine hK _ _ (fun _ => ez4) ?_
  clear hK K
  refine any_done (by kernel_rfl) (NoPanic.normal ?_)
  have hb := ez4
  replace hC : Below n0 w vz4 := hC.trans (hb.mono (by have := hC.size; omega))
  replace hB := (RS.below hB hb).more hb.size
  replace hS := (RP.below hS hb).more hb.size
  replace hR := (RS.below hR hb).more hb.size
  replace hH := (RS.below hH hb).more hb.size
  replace bx := bx.below hb bx.lt
  replace wx := wx.below hb wx.lt
  replace hv1 := (RS.below hv1 hb).more hb.size
  replace hv2 := (RS.below hv2 hb).more hb.size
  clear hb
  go_wp2_with fail
  exact bodyPost_ret (v := .bool true) (by simp [results, Try.results4, go_sem]) rfl ⟨rfl, by first | exact hC | (rw [hn0]; exact hC) | (with_reducible rw [hn0]; exact bel_of) | exact bel_of⟩
end Go.Proofs.Ytkibdciomheekaa

namespace Go.Proofs.Ytkibdciomheekaa.heatRanges
open Go.ChangeShapes Go.WideShapes Go.ChangeAt Go.RowKit Go.Deep

set_option maxRecDepth 100000 in
theorem lifted (os : Os) (started : os.Started) (H : Type) (enc : TypeId × Value → H) :
    ReturnsInHanded {} Try.checked os 4 .any (Rows.heatRangesSpec.pre6 enc Try.prog Try.f4 Rows.heatRangesRow.domain false) (Rows.heatRangesSpec.post enc Try.prog Try.f4 false true false false) := by
  refine returnsInHanded_of_change (C := Try.checked) own started (by kernel_rfl) Try.func4
    (ChangeSpec.witness6 (enc := enc) (C := Try.checked) false ⟨#[], #[.agg #[.slice none 0 0, .slice none 0 0], .agg #[.int .i64 0, .slice none 0 0], .slice none 0 0], []⟩ 8 (by kernel_rfl) (by kernel_rfl) (by kernel_rfl) (by kernel_rfl)) ?_
  intro W base args ds gs before hval0 hW hcnd _
  have hval : ∀ (j : Nat) t v, Try.f4.params[j]? = some t → args[j]? = some v → Value.okWide Try.prog W .any base t v := hval0
  have hW2 : DataW.Whole enc Try.prog Try.f4.params.toList Rows.heatRangesSpec.vars false W args.toList ds gs before := hW
  obtain ⟨p, q, hA0, hV, rfl, hfz, hnd⟩ := hW
  have hA : DataW.TrodAll enc Try.prog W 0 (fun _ => true) true Try.f4.params.toList args.toList ds p := hA0
  rw [Try.params4] at hA hval
  obtain ⟨v0, vs0, d0, ds0, p0, q0, hargs, rfl, rfl, h0, r0⟩ := trodAll_cons hA
  obtain ⟨v1, vs1, d1, ds1, p1, q1, rfl, rfl, rfl, h1, r1⟩ := trodAll_cons r0
  obtain ⟨v2, vs2, d2, ds2, p2, q2, rfl, rfl, rfl, h2, r2⟩ := trodAll_cons r1
  obtain ⟨rfl, rfl, rfl⟩ := trodAll_nil r2
  obtain rfl : args = #[v0, v1, v2] := by cases args; simp_all
  obtain ⟨rfl, rfl⟩ := trodVars_none hV
  obtain ⟨vb0, vs0_, bars0, ss0, rfl, hB0, hS0⟩ := open_works (hval 0 25 v0 rfl rfl) h0
  obtain ⟨b1, vk1, ks1, rfl, g1, _⟩ := open_recipe (hval 1 42 v1 rfl rfl) h1
  obtain ⟨l2, g2⟩ := open_i64s (hval 2 43 v2 rfl rfl) h2
  refine (heatRanges_any (bars := bars0) (ss := ss0) (vb := vb0) (vs := vs0_) (hB := hB0) (hS := hS0) (b := b1) (ks := ks1) (vk := vk1) (hR := g1) (hs := l2) (vh := v2) (hH := g2) (w := W)).mono fun e W' ⟨he, hg⟩ => ?_
  subst he
  exact ⟨_, rfl, law_done hW2 rfl rfl rfl (by rw [Try.params4]; decide +kernel) hg⟩

theorem over : Rows.heatRangesRow.holds Try.pinned (OpenSpec.ofChange Rows.heatRangesSpec) :=
  OpenClaim.holds_of_wide 4 Try.f4 rfl rfl rfl rfl rfl rfl rfl ⟨rfl, rfl, rfl, rfl, rfl⟩ rfl rfl rfl rfl rfl (by kernel_rfl) Try.func4 (by kernel_rfl)
    (of_decide_eq_true (by kernel_rfl)) (by unfold Func.isWrapper; first | (rw [if_pos (by decide +kernel)]; kernel_rfl) | (rw [if_neg (by decide +kernel)]; exact ⟨rfl, rfl⟩))
    (fun os started H enc _ => lifted os started H enc)

theorem proved : Rows.HeatRangesSaid :=
  over
end Go.Proofs.Ytkibdciomheekaa.heatRanges
namespace Go.Proofs.Ytkibdciomheekaa
theorem heatRanges_proved : Rows.HeatRangesSaid := heatRanges.proved
#print axioms heatRanges_proved
end Go.Proofs.Ytkibdciomheekaa
