/- After of the program. -/
import Derived.Test.YtgbegdjakadbbaaP4
set_option linter.all false
set_option linter.unnecessarySimpa false
set_option linter.unusedSimpArgs false
set_option linter.unusedVariables false
set_option linter.unusedSectionVars false

set_option linter.all false
namespace Go.Proofs.Ytgbegdjakadbbaa
open Go.RowKit Vp

set_option maxHeartbeats 8000000 in
set_option maxRecDepth 100000 in
theorem after_any (l : List St) (v : Value) (m : Int) (bl : List Int) (vb : Value) (w : World) (hl : l.length ≤ 1000) (hbl : bl.length ≤ 1000) (hT : RT w w.heap.size v l) (hI : RI w w.heap.size vb bl) (hm : okI m) :
    Calls Try.prog 16 #[bV v m, vb] w fun e w' => ∃ u, e = .returned (.tuple #[u, .int .i64 (aftE l m bl)]) ∧ OwnI 2 w' w.heap.size u (aftL l m bl) ∧ Below w.heap.size w w' := by
  unfold bV
  obtain ⟨b, off, cap, A, rfl, -, hcap⟩ := hT.slice
  obtain ⟨bb, boff, bcap, Ab, rfl, -, hbcap⟩ := hI.slice
  obtain ⟨n0, hn0⟩ : ∃ n, w.heap.size = n := ⟨_, rfl⟩
  have hC : Below n0 w w := Below.refl _ _
  go_enter Try.func16, Try.ntmps16
  go_upto_region 1 with fail
  have hqbx : n0 ≤ n0 := by have := hC.size; omega
  have bx : BK (w.alloc (.cells #[.slice A l.length cap, .int .i64 m] 24)) (n0) #[.slice A l.length cap, .int .i64 m] 24 := BK.new' _ _ _ (n0) hn0
  have hsbx : (w.alloc (.cells #[.slice A l.length cap, .int .i64 m] 24)).heap.size = n0 + 1 := by simp [hn0]
  replace hC : Below n0 w (w.alloc (.cells #[.slice A l.length cap, .int .i64 m] 24)) := Below.alloc hC (by have := hC.size; omega) _
  replace hT := (RS.below hT (w' := (w.alloc (.cells #[.slice A l.length cap, .int .i64 m] 24))) (Below.alloc (Below.refl _ _) (Nat.le_refl _) _)).more (B' := (w.alloc (.cells #[.slice A l.length cap, .int .i64 m] 24)).heap.size) (by simp)
  replace hI := (RS.below hI (w' := (w.alloc (.cells #[.slice A l.length cap, .int .i64 m] 24))) (Below.alloc (Below.refl _ _) (Nat.le_refl _) _)).more (B' := (w.alloc (.cells #[.slice A l.length cap, .int .i64 m] 24)).heap.size) (by simp)
  generalize (w.alloc (.cells #[.slice A l.length cap, .int .i64 m] 24)) = Wbx at *
  have lbx := bx.lt
  have bxc0 := bx.cell 0
  have bxc1 := bx.cell 1
  simp at bxc0 bxc1
  go_wp2_with fail
  clear lbx bxc0 bxc1
  clear hsbx
  refine (check_any l _ m _ hl hT).mono ?_
  rintro e w1 ⟨rfl, hb⟩
  replace hC : Below n0 w w1 := hC.trans (hb.mono (by have := hC.size; omega))
  replace hT := (RS.below hT hb).more hb.size
  replace hI := (RS.below hI hb).more hb.size
  replace bx := bx.below hb bx.lt
  clear hb
  obtain ⟨e, he⟩ : ∃ e, blaE l m = e := ⟨_, rfl⟩
  rw [he]
  by_cases h0 : e = 0
  case neg =>
    have HE := Lib.hid ((aftE_bla (bl := bl) (by rw [he]; exact h0)).trans he)
    have b1 : (e != 0) = true := by simp [h0]
    have HN := Lib.hid h0
    clear he h0
    go_wp2_with fail
    exact bodyPost_ret (v := .tuple #[.slice none 0 0, .int .i64 e]) (by simp [results, Try.results16, go_sem]) rfl ⟨_, by rw [HE.out], by rw [aftL_no (by rw [HE.out]; exact HN.out)]; exact OwnI.nil _ _ _, by first | exact hC | (rw [hn0]; exact hC) | (with_reducible rw [hn0]; exact bel_of) | exact bel_of⟩
  subst h0
  have HB := Lib.hid he
  obtain ⟨-, h20, -, hm0, hm9⟩ := blaE_ok.1 he
  clear he
  by_cases h1 : bl.length = l.length
  case neg =>
    have HE := Lib.hid (aftE_len HB.out h1)
    have b1 : ((bl.length : Int) != (l.length : Int)) = true := by simp; omega
    clear h1
    have lbx := bx.lt
    have bxc0 := bx.cell 0
    have bxc1 := bx.cell 1
    simp at bxc0 bxc1
    go_wp2_with fail
    exact bodyPost_ret (v := .tuple #[.slice none 0 0, .int .i64 15]) (by simp [results, Try.results16, go_sem]) rfl ⟨_, by rw [HE.out], by rw [aftL_no (by rw [HE.out]; decide)]; exact OwnI.nil _ _ _, by first | exact hC | (rw [hn0]; exact hC) | (with_reducible rw [hn0]; exact bel_of) | exact bel_of⟩
  have b1 : ((bl.length : Int) != (l.length : Int)) = false := by simp; omega
  have H1 := Lib.hid h1
  have hb20 : bl.length ≤ 20 := by omega
  have wn : IntKind.i64.wrap (-m) = -m := by rw [IntKind.wrap_i64]; omega
  clear h1
  have lbx := bx.lt
  have bxc0 := bx.cell 0
  have bxc1 := bx.cell 1
  simp at bxc0 bxc1
  go_wp2_with fail
  clear lbx bxc0 bxc1
  clear b1 wn
  refine (within_any (-m) m bl _ _ _ (Nat.le_refl _) hbl hI).mono ?_
  rintro e w5 ⟨rfl, hw5⟩
  have hb : Below w1.heap.size w1 w5 := by rw [← hw5]; exact bel_of
  clear hw5
  replace hC : Below n0 w w5 := hC.trans (hb.mono (by have := hC.size; omega))
  replace hT := (RS.below hT hb).more hb.size
  replace hI := (RS.below hI hb).more hb.size
  replace bx := bx.below hb bx.lt
  clear hb
  cases hq : allIn (-m) m bl with
  | false =>
    have HE := Lib.hid (aftE_rng HB.out H1.out hq)
    clear hq
    go_wp2_with fail
    exact bodyPost_ret (v := .tuple #[.slice none 0 0, .int .i64 3]) (by simp [results, Try.results16, go_sem]) rfl ⟨_, by rw [HE.out], by rw [aftL_no (by rw [HE.out]; decide)]; exact OwnI.nil _ _ _, by first | exact hC | (rw [hn0]; exact hC) | (with_reducible rw [hn0]; exact bel_of) | exact bel_of⟩
  | true =>
    have HE := Lib.hid (aftE_zero.2 ⟨blaE_ok.1 HB.out, H1.out, hq⟩)
    have HQ := Lib.hid hq
    have HO := Lib.hid (blaE_ok.1 HB.out).all
    clear hq
    go_wp2_with fail
    go_loopw [7, 8, 35] (fun s acc iv wr => ∃ k : Nat, k ≤ bl.length ∧ iv = .int .i64 k ∧ s = .int .i64 (sumTo bl k) ∧ OwnI 2 wr w5.heap.size acc (turL l bl k) ∧ Below w5.heap.size w5 wr) (fun _ _ iv _ => bl.length - (intOf iv).toNat)
    case atStart => exact ⟨0, Nat.zero_le _, rfl, by rw [sumTo_zero], by simpa [turL] using OwnI.nil _ _ _, Below.refl _ _⟩
    case round =>
      obtain ⟨k, hk, rfl, rfl, hown, hbr⟩ := hrel
      by_cases hlt : k < bl.length
      case neg =>
        have hlt' : ¬ (k : Int) < (bl.length : Int) := by omega
        have hke : k = l.length := by have := H1.out; omega
        rw [hke, ← aftL_yes HE.out] at hown
        have hle : n0 ≤ w5.heap.size := by have := hC.size; omega
        have hCo : Below n0 w wr := hC.trans (hbr.mono hle)
        have HOW := Lib.hid (own_more hown hle)
        clear hown hke hbr
        go_wp2_with fail
        exact bodyPost_ret (v := .tuple #[u8, .int .i64 0]) (by simp [results, Try.results16, go_sem]) rfl ⟨_, by rw [HE.out], (by (try rw [hn0]); exact HOW.out), by first | exact hCo | (rw [hn0]; exact hCo)⟩
      have hlt' : (k : Int) < (bl.length : Int) := by omega
      have hkl : k < l.length := by have := H1.out; omega
      obtain ⟨Ac, cc, rfl⟩ := own_slice hown
      have hlj : (turL l bl k).length = k := turL_length _ _ _
      obtain ⟨hic, hA2⟩ : k ≤ cc ∧ (Ac = none → cc = 0) := by
        rcases hown.2 with ⟨hv, h0⟩ | ⟨g, cap, cur, hv, _, _, h3, _⟩
        · injection hv with q1 q2 q3
          rw [hlj] at q2
          exact ⟨by omega, fun _ => q3⟩
        · injection hv with q1 q2 q3
          rw [hlj] at h3
          subst q1; subst q3
          exact ⟨h3, fun h => by cases h⟩
      rw [hlj]
      rw [hlj] at hown
      have HOW := Lib.hid hown
      have HLJ := Lib.hid hlj
      have HS := Lib.hid (sumTo_succ hlt)
      have HTK := Lib.hid (turL_succ l bl k)
      have hsr := sumTo_few HQ.out ⟨hm0, hm9⟩ hb20 hk
      have hsr2 := sumTo_few HQ.out ⟨hm0, hm9⟩ hb20 (show k + 1 ≤ bl.length by omega)
      have hos := okS_at HO.out hkl
      rw [HS.out] at HTK hsr2
      have hbk := Lib.hid hbr
      replace hI := (RS.below hI hbr).more hbr.size
      replace hT := (RS.below hT hbr).more hbr.size
      replace bx := bx.below hbr bx.lt
      clear hown hlj
      obtain ⟨A', cap', b', off', hve, hA, hc⟩ := RT.cells hT
      obtain ⟨rfl, hbb⟩ := hA (by omega)
      injection hve with q1 q2 q3
      subst q1 q3
      obtain ⟨d0, -, -, -⟩ := hc k hkl
      clear hA hc q2
      obtain ⟨A', cap', b', off', hve, hA, hc⟩ := RI.cells hI
      obtain ⟨rfl, hbb2⟩ := hA (by omega)
      injection hve with q1 q2 q3
      subst q1 q3
      have d1 := hc k hlt
      clear hA hc q2
      obtain ⟨⟨a, lo, hi, hd⟩, hss⟩ : ∃ s, nthS l k = s := ⟨_, rfl⟩
      obtain ⟨x, hx⟩ : ∃ x, nthI bl k = x := ⟨_, rfl⟩
      obtain ⟨s, hs⟩ : ∃ x, sumTo bl k = x := ⟨_, rfl⟩
      rw [hss] at d0 HTK hos
      rw [hx] at d1 hsr2 HS HTK
      rw [hs] at hsr hsr2 HS HTK
      rw [hs]
      dsimp only at d0 HTK hos
      have ww1 : IntKind.i64.wrap (s + x) = s + x := by rw [IntKind.wrap_i64]; omega
      have ww2 : IntKind.i64.wrap (a + (s + x)) = a + (s + x) := by rw [IntKind.wrap_i64]; omega
      clear hss hx hs hsr hsr2 hos
      have lbx := bx.lt
      have bxc0 := bx.cell 0
      have bxc1 := bx.cell 1
      simp at bxc0 bxc1
      have hic2 : (k : Int) ≤ (cc : Int) := by omega
      have hkl2 : (k : Int) < (l.length : Int) := by omega
      go_upto_region 14 with fail
      cases Ac with
      | none =>
        have h0 := hA2 rfl
        subst h0
        obtain rfl : k = 0 := by omega
        rw [Nat.zero_mul, Nat.add_zero] at d0
        rw [Nat.add_zero] at d1
        refine wp_region_noPanic (plain_any [0, 1, 2, 3, 4, 5, 6, 7, 8, 9, 10, 11, 12, 13] (Below wr.heap.size wr) mixed ?_)
        refine any_tk 0 ?_
        refine any_tk 1 ?_
        refine any_tk 2 ?_
        refine any_tk 3 ?_
        refine any_tk 4 ?_
        refine any_tk 5 ?_
        refine any_tk 6 ?_
        refine any_tk 7 ?_
        refine any_tk 8 ?_
        refine any_tk 9 ?_
        refine any_tk 10 ?_
        refine any_tk 11 ?_
        refine any_tk 12 ?_
        refine any_tk 13 ?_
        have hd0 : Below wr.heap.size wr wr.drew := Below.drew (Below.refl _ _)
        have HOWD := Lib.hid (HOW.out.below hd0)
        generalize wr.drew = wd at *
        refine any_run1 (i := 14) (by kernel_rfl) (by rfl) (by kernel_rfl) ?_
        intro K3 hK3
        go_wp2_with fail
        obtain ⟨gv, hgv⟩ : ∃ n, wd.heap.size = n := ⟨_, rfl⟩
        have bX : BK (wd.alloc (.cells #[.int .i64 (a + (s + x))] 2)) gv #[.int .i64 (a + (s + x))] 2 := BK.new' _ _ _ gv hgv
        have hbX : Below wr.heap.size wr (wd.alloc (.cells #[.int .i64 (a + (s + x))] 2)) := Below.alloc hd0 hd0.size _
        refine hK3 _ _ (fun _ => hbX) ?_
        clear hK3 K3
        try rw [hgv]
        clear hgv
        obtain ⟨A2, c2, hu, hc2, hA2x, v', w9, hrun, hown', hbel, hb9⟩ := app_full_i i64_info i64_slice (HOWD.out.below (Below.alloc (Below.refl _ _) (Nat.le_refl _) _)) bX (by rw [HLJ.out]; omega) (Nat.le_trans hbk.out.size hbX.size)
        rw [HLJ.out] at hu hrun
        injection hu with hu1 _ hu3
        subst hu1
        rw [← HTK.out] at hown'
        have hb9' : Below wr.heap.size wr w9 := hbX.trans (hb9.mono hbX.size)
        have hbw9 := hbk.out.trans (hb9'.mono hbk.out.size)
        have HRUN := Lib.hid hrun
        have HO9 := Lib.hid hown'
        have HB9 := Lib.hid hbw9
        clear hrun hown' hbw9 hbel hb9 bX hc2 hA2x hu3
        generalize wd.alloc (.cells #[.int .i64 (a + (s + x))] 2) = VX at *
        refine any_run1 (i := 15) (by kernel_rfl) (by rfl) (by kernel_rfl) ?_
        intro K3 hK3
        refine wp_append_run (.tmp 48) (.tmp 57) 25 _ rfl HRUN.out ?_
        refine hK3 _ _ (fun _ => hb9') ?_
        clear hK3 K3
        simp only [List.getElem_toArray, List.getElem_cons_succ, List.getElem_cons_zero, Act.put, List.setIfInBounds_toArray, List.set_cons_succ, List.set_cons_zero]
        refine any_run1 (i := 16) (by kernel_rfl) (by rfl) (by kernel_rfl) ?_
        intro K3 hK3
        go_wp2_with fail
        refine hK3 _ _ (fun _ => hb9') ?_
        clear hK3 K3
        refine any_done (by kernel_rfl) (NoPanic.normal ?_)
        clear lbx bxc0 bxc1
        go_wp2_with fail
        go_roundw
        case rel => exact ⟨0 + 1, by omega, by go_num, by rw [HS.out], HO9.out, HB9.out⟩
        case measure => simp [intOf]; omega
      | some ad =>
        clear hA2
        refine wp_region_noPanic (plain_any [0, 1, 2, 3, 4, 5, 6, 7, 8, 9, 10, 11, 12, 13] (Below wr.heap.size wr) mixed ?_)
        refine any_tk 0 ?_
        refine any_tk 1 ?_
        refine any_tk 2 ?_
        refine any_tk 3 ?_
        refine any_tk 4 ?_
        refine any_tk 5 ?_
        refine any_tk 6 ?_
        refine any_tk 7 ?_
        refine any_tk 8 ?_
        refine any_tk 9 ?_
        refine any_tk 10 ?_
        refine any_tk 11 ?_
        refine any_tk 12 ?_
        refine any_tk 13 ?_
        have hd0 : Below wr.heap.size wr wr.drew := Below.drew (Below.refl _ _)
        have HOWD := Lib.hid (HOW.out.below hd0)
        generalize wr.drew = wd at *
        refine any_run1 (i := 14) (by kernel_rfl) (by rfl) (by kernel_rfl) ?_
        intro K3 hK3
        go_wp2_with fail
        obtain ⟨gv, hgv⟩ : ∃ n, wd.heap.size = n := ⟨_, rfl⟩
        have bX : BK (wd.alloc (.cells #[.int .i64 (a + (s + x))] 2)) gv #[.int .i64 (a + (s + x))] 2 := BK.new' _ _ _ gv hgv
        have hbX : Below wr.heap.size wr (wd.alloc (.cells #[.int .i64 (a + (s + x))] 2)) := Below.alloc hd0 hd0.size _
        refine hK3 _ _ (fun _ => hbX) ?_
        clear hK3 K3
        try rw [hgv]
        clear hgv
        obtain ⟨A2, c2, hu, hc2, hA2x, v', w9, hrun, hown', hbel, hb9⟩ := app_full_i i64_info i64_slice (HOWD.out.below (Below.alloc (Below.refl _ _) (Nat.le_refl _) _)) bX (by rw [HLJ.out]; omega) (Nat.le_trans hbk.out.size hbX.size)
        rw [HLJ.out] at hu hrun
        injection hu with hu1 _ hu3
        subst hu1
        rw [← HTK.out] at hown'
        have hb9' : Below wr.heap.size wr w9 := hbX.trans (hb9.mono hbX.size)
        have hbw9 := hbk.out.trans (hb9'.mono hbk.out.size)
        have HRUN := Lib.hid hrun
        have HO9 := Lib.hid hown'
        have HB9 := Lib.hid hbw9
        clear hrun hown' hbw9 hbel hb9 bX hc2 hA2x hu3
        generalize wd.alloc (.cells #[.int .i64 (a + (s + x))] 2) = VX at *
        refine any_run1 (i := 15) (by kernel_rfl) (by rfl) (by kernel_rfl) ?_
        intro K3 hK3
        refine wp_append_run (.tmp 48) (.tmp 57) 25 _ rfl HRUN.out ?_
        refine hK3 _ _ (fun _ => hb9') ?_
        clear hK3 K3
        simp only [List.getElem_toArray, List.getElem_cons_succ, List.getElem_cons_zero, Act.put, List.setIfInBounds_toArray, List.set_cons_succ, List.set_cons_zero]
        refine any_run1 (i := 16) (by kernel_rfl) (by rfl) (by kernel_rfl) ?_
        intro K3 hK3
        go_wp2_with fail
        refine hK3 _ _ (fun _ => hb9') ?_
        clear hK3 K3
        refine any_done (by kernel_rfl) (NoPanic.normal ?_)
        clear lbx bxc0 bxc1
        go_wp2_with fail
        go_roundw
        case rel => exact ⟨k + 1, by omega, by go_num, by rw [HS.out], HO9.out, HB9.out⟩
        case measure => simp [intOf]; omega
end Go.Proofs.Ytgbegdjakadbbaa
