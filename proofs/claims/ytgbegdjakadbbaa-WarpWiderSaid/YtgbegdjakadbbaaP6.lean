/- After of the reference. CheckBlows of the program. CheckBlows of the reference. A region that appends to a list: what stays but for the list's own block. The bench of a blade. -/
import Derived.Test.YtgbegdjakadbbaaP3
import Derived.Test.YtgbegdjakadbbaaP5
import Derived.BigRegion
import Derived.Great.BuildSlice
set_option linter.all false
set_option linter.unnecessarySimpa false
set_option linter.unusedSimpArgs false
set_option linter.unusedVariables false
set_option linter.unusedSectionVars false

set_option linter.all false
namespace Go.Proofs.Ytgbegdjakadbbaa
open Go.RowKit Vp

theorem inside_b {n lo hi : Int} {q : Bool} (h : inB lo hi n = q) (w : World) :
    Calls Try.prog 47 #[.int .i64 n, .int .i64 lo, .int .i64 hi] w fun e w' => e = .returned (.bool q) ∧ Below w.heap.size w w' :=
  (inside_q h w).mono fun e w' ⟨h1, h2⟩ => ⟨h1, by subst h2; exact Below.refl _ _⟩
theorem amount_b (n : Int) (w : World) (hn : -9223372036854775807 ≤ n ∧ n ≤ 9223372036854775807) :
    Calls Try.prog 48 #[.int .i64 n] w fun e w' => e = .returned (.int .i64 (max n (-n))) ∧ Below w.heap.size w w' :=
  (amount_any n w hn).mono fun e w' ⟨h1, h2⟩ => ⟨h1, by subst h2; exact Below.refl _ _⟩
theorem allIn_no {lo hi : Int} {l : List Int} {k : Nat} (hk : k < l.length) (h : inB lo hi (nthI l k) = false) : allIn lo hi l = false := by
  rw [← Bool.not_eq_true, allIn_iff]
  intro h2; rw [h2 k hk] at h; cases h
theorem less_succ {p : Nat → Prop} {k : Nat} (h : ∀ j, j < k → p j) (h2 : p k) : ∀ j, j < k + 1 → p j := fun j hj => by
  rcases Nat.lt_succ_iff_lt_or_eq.1 hj with h1 | rfl
  · exact h j h1
  · exact h2

set_option maxHeartbeats 8000000 in
set_option maxRecDepth 100000 in
theorem afterR_any (l : List St) (v : Value) (m : Int) (bl : List Int) (vb : Value) (w : World) (hl : l.length ≤ 1000) (hbl : bl.length ≤ 1000) (hT : RT w w.heap.size v l) (hI : RI w w.heap.size vb bl) (hm : okI m) :
    Calls Try.prog 17 #[bV v m, vb] w fun e w' => ∃ u, e = .returned (.tuple #[u, .int .i64 (aftE l m bl)]) ∧ OwnI 2 w' w.heap.size u (aftL l m bl) ∧ Below w.heap.size w w' := by
  unfold bV
  obtain ⟨b, off, cap, A, rfl, -, hcap⟩ := hT.slice
  obtain ⟨bb, boff, bcap, Ab, rfl, -, hbcap⟩ := hI.slice
  obtain ⟨n0, hn0⟩ : ∃ n, w.heap.size = n := ⟨_, rfl⟩
  have hC : Below n0 w w := Below.refl _ _
  go_enter Try.func17, Try.ntmps17
  go_upto_region 1 with fail
  have hqbx : n0 ≤ n0 := by have := hC.size; omega
  have bx : BK (w.alloc (.cells #[.slice A l.length cap, .int .i64 m] 24)) (n0) #[.slice A l.length cap, .int .i64 m] 24 := BK.new' _ _ _ (n0) hn0
  have hsbx : (w.alloc (.cells #[.slice A l.length cap, .int .i64 m] 24)).heap.size = n0 + 1 := by simp [hn0]
  replace hC : Below n0 w (w.alloc (.cells #[.slice A l.length cap, .int .i64 m] 24)) := Below.alloc hC (by have := hC.size; omega) _
  replace hT := (RS.below hT (w' := (w.alloc (.cells #[.slice A l.length cap, .int .i64 m] 24))) (Below.alloc (Below.refl _ _) (Nat.le_refl _) _)).more (B' := (w.alloc (.cells #[.slice A l.length cap, .int .i64 m] 24)).heap.size) (by simp)
  replace hI := (RS.below hI (w' := (w.alloc (.cells #[.slice A l.length cap, .int .i64 m] 24))) (Below.alloc (Below.refl _ _) (Nat.le_refl _) _)).more (B' := (w.alloc (.cells #[.slice A l.length cap, .int .i64 m] 24)).heap.size) (by simp)
  generalize (w.alloc (.cells #[.slice A l.length cap, .int .i64 m] 24)) = Wbx at *
  have lbx := bx.lt
  have bxc0 := bx.cell 0
  have bxc1 := bx.cell 1
  simp at bxc0 bxc1
  go_wp2_with fail
  clear lbx bxc0 bxc1
  clear hsbx
  refine (checkR_any l _ m _ hl hT).mono ?_
  rintro e w1 ⟨rfl, hb⟩
  replace hC : Below n0 w w1 := hC.trans (hb.mono (by have := hC.size; omega))
  replace hT := (RS.below hT hb).more hb.size
  replace hI := (RS.below hI hb).more hb.size
  replace bx := bx.below hb bx.lt
  clear hb
  obtain ⟨e, he⟩ : ∃ e, blaE l m = e := ⟨_, rfl⟩
  rw [he]
  by_cases h0 : e = 0
  case neg =>
    have HE0 := Lib.hid he
    have HE := Lib.hid ((aftE_bla (bl := bl) (by rw [he]; exact h0)).trans he)
    have b1 : (e != 0) = true := by simp [h0]
    have HN := Lib.hid h0
    clear he h0
    have lbx := bx.lt
    have bxc0 := bx.cell 0
    have bxc1 := bx.cell 1
    simp at bxc0 bxc1
    go_wp2_with fail
    clear lbx bxc0 bxc1
    refine (checkR_any l _ m _ hl hT).mono ?_
    rintro e w2 ⟨rfl, hb⟩
    replace hC : Below n0 w w2 := hC.trans (hb.mono (by have := hC.size; omega))
    replace hT := (RS.below hT hb).more hb.size
    replace hI := (RS.below hI hb).more hb.size
    replace bx := bx.below hb bx.lt
    clear hb
    rw [HE0.out]
    go_wp2_with fail
    exact bodyPost_ret (v := .tuple #[.slice none 0 0, .int .i64 e]) (by simp [results, Try.results17, go_sem]) rfl ⟨_, by rw [HE.out], by rw [aftL_no (by rw [HE.out]; exact HN.out)]; exact OwnI.nil _ _ _, by first | exact hC | (rw [hn0]; exact hC) | (with_reducible rw [hn0]; exact bel_of) | exact bel_of⟩
  subst h0
  have HB := Lib.hid he
  obtain ⟨-, h20, -, hm0, hm9⟩ := blaE_ok.1 he
  clear he
  by_cases h1 : bl.length = l.length
  case neg =>
    have HE := Lib.hid (aftE_len HB.out h1)
    have b1 : ((bl.length : Int) != (l.length : Int)) = true := by simp; omega
    clear h1
    have lbx := bx.lt
    have bxc0 := bx.cell 0
    have bxc1 := bx.cell 1
    simp at bxc0 bxc1
    go_wp2_with fail
    exact bodyPost_ret (v := .tuple #[.slice none 0 0, .int .i64 15]) (by simp [results, Try.results17, go_sem]) rfl ⟨_, by rw [HE.out], by rw [aftL_no (by rw [HE.out]; decide)]; exact OwnI.nil _ _ _, by first | exact hC | (rw [hn0]; exact hC) | (with_reducible rw [hn0]; exact bel_of) | exact bel_of⟩
  have b1 : ((bl.length : Int) != (l.length : Int)) = false := by simp; omega
  have H1 := Lib.hid h1
  have hb20 : bl.length ≤ 20 := by omega
  have wn : IntKind.i64.wrap (-m) = -m := by rw [IntKind.wrap_i64]; omega
  clear h1
  have lbx := bx.lt
  have bxc0 := bx.cell 0
  have bxc1 := bx.cell 1
  simp at bxc0 bxc1
  go_wp2_with fail
  clear lbx bxc0 bxc1
  clear b1
  go_loopw [6] (fun iv wr => ∃ k : Nat, k ≤ bl.length ∧ iv = .int .i64 k ∧ (∀ j, j < k → inB (-m) m (nthI bl j) = true) ∧ Below w1.heap.size w1 wr) (fun iv _ => bl.length - (intOf iv).toNat)
  case atStart => exact ⟨0, Nat.zero_le _, rfl, fun j hj => absurd hj (by omega), Below.refl _ _⟩
  case round =>
    obtain ⟨k, hk, rfl, hall, hbr⟩ := hrel
    have HALL := Lib.hid hall
    have HBR := Lib.hid hbr
    clear hall
    replace hC : Below n0 w wr := hC.trans (hbr.mono (by have := hC.size; omega))
    replace hT := (RS.below hT hbr).more hbr.size
    replace hI := (RS.below hI hbr).more hbr.size
    replace bx := bx.below hbr bx.lt
    clear hbr
    by_cases hlt : k < bl.length
    case pos =>
      have hlt' : (k : Int) < (bl.length : Int) := by omega
      obtain ⟨A', cap', b'', off'', hve, hA, hc⟩ := RI.cells hI
      obtain ⟨rfl, hbb2⟩ := hA (by omega)
      injection hve with q1 q2 q3
      subst q1 q3
      have e1 := hc k hlt
      clear hA hc q2
      have HNO := Lib.hid (fun (h : inB (-m) m (nthI bl k) = false) => aftE_rng HB.out H1.out (allIn_no hlt h))
      have HYES := Lib.hid (fun (h : inB (-m) m (nthI bl k) = true) => less_succ HALL.out h)
      obtain ⟨x, hx⟩ : ∃ x, nthI bl k = x := ⟨_, rfl⟩
      obtain ⟨q, hq⟩ : ∃ q, inB (-m) m x = q := ⟨_, rfl⟩
      rw [hx] at e1 HNO HYES
      rw [hq] at HNO HYES
      clear hx
      have lbx := bx.lt
      have bxc0 := bx.cell 0
      have bxc1 := bx.cell 1
      simp at bxc0 bxc1
      go_upto_region 8 with fail
      refine wp_region_noPanic (plain_any [0, 1, 2, 3, 4, 5, 6, 7, 8, 10] (Below wr.heap.size wr) mixed ?_)
      refine any_tk 0 ?_
      have d0z : Below wr.heap.size wr wr.drew := by exact bel_of
      refine any_tk 1 ?_
      refine any_tk 2 ?_
      refine any_tk 3 ?_
      refine any_tk 4 ?_
      refine any_tk 5 ?_
      refine any_tk 6 ?_
      refine any_tk 7 ?_
      refine any_tk 8 ?_
      have qz1 := d0z.size
      refine any_run1 (i := 9) (by kernel_rfl) (by rfl) (by kernel_rfl) ?_
      intro K hK
      go_wp2_with fail
      refine (inside_b hq _).mono ?_
      rintro e vz1 ⟨rfl, hb⟩
      have ez1 : Below wr.heap.size wr vz1 := d0z.trans (hb.mono d0z.size)
      clear hb
      refine hK _ _ (fun _ => ez1) ?_
      clear hK K
      refine any_tk 10 ?_
      refine any_done (by kernel_rfl) (NoPanic.normal ?_)
      have hb := ez1
      replace hC : Below n0 w vz1 := hC.trans (hb.mono (by have := hC.size; omega))
      replace hT := (RS.below hT hb).more hb.size
      replace hI := (RS.below hI hb).more hb.size
      replace bx := bx.below hb bx.lt
      clear hb
      clear hq lbx bxc0 bxc1 e1
      have HB8 := Lib.hid (HBR.out.trans (ez1.mono HBR.out.size))
      cases q
      case false =>
        have HE := Lib.hid (HNO.out rfl)
        go_wp2_with fail
        exact bodyPost_ret (v := .tuple #[.slice none 0 0, .int .i64 3]) (by simp [results, Try.results17, go_sem]) rfl ⟨_, by rw [HE.out], by rw [aftL_no (by rw [HE.out]; decide)]; exact OwnI.nil _ _ _, by first | exact hC | (rw [hn0]; exact hC) | (with_reducible rw [hn0]; exact bel_of) | exact bel_of⟩
      have HN := Lib.hid (HYES.out rfl)
      go_wp2_with fail
      go_roundw
      case rel => exact ⟨k + 1, by omega, by go_num, HN.out, HB8.out⟩
      case measure => simp [intOf]; omega
    have hlt' : ¬ (k : Int) < (bl.length : Int) := by omega
    have HQ := Lib.hid ((allIn_iff (-m) m bl).2 fun j hj => HALL.out j (by omega))
    have HE := Lib.hid (aftE_zero.2 ⟨blaE_ok.1 HB.out, H1.out, HQ.out⟩)
    have HO := Lib.hid (blaE_ok.1 HB.out).all
    clear hlt hk HBR
    go_wp2_with fail
    clear hlt'
    rename World => wa
    go_loopw [7, 8] (fun acc iv wr => ∃ k : Nat, k ≤ bl.length ∧ iv = .int .i64 k ∧ OwnI 2 wr wa.heap.size acc (turL l bl k) ∧ Below wa.heap.size wa wr) (fun _ iv _ => bl.length - (intOf iv).toNat)
    case atStart => exact ⟨0, Nat.zero_le _, rfl, by simpa [turL] using OwnI.nil _ _ _, Below.refl _ _⟩
    case round =>
      obtain ⟨i, hk, rfl, hown, hbr⟩ := hrel
      have HOW := Lib.hid hown
      have HBR := Lib.hid hbr
      have hle : n0 ≤ wa.heap.size := by have := hC.size; omega
      clear hown
      replace hC : Below n0 w wr := hC.trans (hbr.mono (by have := hC.size; omega))
      replace hT := (RS.below hT hbr).more hbr.size
      replace hI := (RS.below hI hbr).more hbr.size
      replace bx := bx.below hbr bx.lt
      clear hbr
      by_cases hlt : i < bl.length
      case neg =>
        have hlt' : ¬ (i : Int) < (bl.length : Int) := by omega
        have hown := HOW.out
        have hke : i = l.length := by have := H1.out; omega
        rw [hke, ← aftL_yes HE.out] at hown
        have HOW := Lib.hid (own_more hown hle)
        clear hown hke
        go_wp2_with fail
        exact bodyPost_ret (v := .tuple #[u7, .int .i64 0]) (by simp [results, Try.results17, go_sem]) rfl ⟨_, by rw [HE.out], (by (try rw [hn0]); exact HOW.out), by first | exact hC | (rw [hn0]; exact hC)⟩
      have hlt' : (i : Int) < (bl.length : Int) := by omega
      have hkl : i < l.length := by have := H1.out; omega
      have hkl' : (i : Int) < (l.length : Int) := by omega
      have HTK := Lib.hid (turL_succ l bl i)
      have hos := okS_at HO.out hkl
      obtain ⟨A', cap', b', off', hve, hA, hc⟩ := RT.cells hT
      obtain ⟨rfl, hbb⟩ := hA (by omega)
      injection hve with q1 q2 q3
      subst q1 q3
      obtain ⟨d0, d1, d2, d3⟩ := hc i hkl
      clear hA hc q2
      obtain ⟨⟨a, lo, hi, hd⟩, hss⟩ : ∃ s, nthS l i = s := ⟨_, rfl⟩
      rw [hss] at d0 HTK hos
      dsimp only at d0 HTK hos
      clear hss d1 d2 d3
      have lbx := bx.lt
      have bxc0 := bx.cell 0
      have bxc1 := bx.cell 1
      simp at bxc0 bxc1
      go_wp2_with fail
      clear lbx bxc0 bxc1 d0
      rename World => w7
      go_loopw [9, 10] (fun n iv wr => wr = w7 ∧ ∃ k : Nat, k ≤ i + 1 ∧ iv = .int .i64 k ∧ n = .int .i64 (a + sumTo bl k)) (fun _ iv _ => i + 1 - (intOf iv).toNat)
      case atStart => exact ⟨rfl, 0, Nat.zero_le _, rfl, by rw [sumTo_zero, Int.add_zero]⟩
      case round =>
        obtain ⟨rfl, k, hk2, rfl, rfl⟩ := hrel
        by_cases hlt2 : k < i + 1
        case pos =>
          have hlt3 : (k : Int) ≤ (i : Int) := by omega
          have hkb : k < bl.length := by omega
          have hkb' : (k : Int) < (bl.length : Int) := by omega
          have hsr := sumTo_few HQ.out ⟨hm0, hm9⟩ hb20 (show k ≤ bl.length by omega)
          have hsr2 := sumTo_few HQ.out ⟨hm0, hm9⟩ hb20 (show k + 1 ≤ bl.length by omega)
          have HS := Lib.hid (sumTo_succ hkb)
          rw [HS.out] at hsr2
          obtain ⟨A', cap', b'', off'', hve, hA, hc⟩ := RI.cells hI
          obtain ⟨rfl, hbb2⟩ := hA (by omega)
          injection hve with q1 q2 q3
          subst q1 q3
          have e1 := hc k hkb
          clear hA hc q2
          obtain ⟨x, hx⟩ : ∃ x, nthI bl k = x := ⟨_, rfl⟩
          obtain ⟨s, hs⟩ : ∃ x, sumTo bl k = x := ⟨_, rfl⟩
          rw [hx] at e1 hsr2 HS
          rw [hs] at hsr hsr2 HS
          rw [hs]
          have ww1 : IntKind.i64.wrap (a + s + x) = a + s + x := by rw [IntKind.wrap_i64]; omega
          clear hx hs hsr hsr2 hos
          go_wp2_with fail
          go_roundw
          case rel => exact ⟨by first | rfl | trivial, k + 1, by omega, by go_num, by rw [HS.out, Int.add_assoc]⟩
          case measure => simp [intOf]; omega
        have hlt3 : ¬ (k : Int) ≤ (i : Int) := by omega
        obtain rfl : k = i + 1 := by omega
        have hwz := HBR.out.size
        obtain ⟨v', w6, hrun, hown', hb', hs', _⟩ := app_i64 HOW.out (a + sumTo bl (i + 1)) (by rw [turL_length]; omega) hwz HBR.out wr.heap.size rfl
        rw [← HTK.out] at hown'
        have HO2 := Lib.hid hown'
        have HRUN := Lib.hid hrun
        have HB2 := Lib.hid hb'
        clear hown' hrun hb' hs' hos
        go_wp2_with (at_builtin; refine wpList_append_run rfl (.tmp 62) (.tmp 64) 25 _ rfl HRUN.out ?_)
        go_roundw
        case rel => exact ⟨i + 1, by omega, by go_num, HO2.out, HB2.out⟩
        case measure => simp [intOf]; omega
end Go.Proofs.Ytgbegdjakadbbaa

set_option linter.all false
namespace Go.Proofs.Ytgbegdjakadbbaa
open Go.RowKit Vp

set_option maxHeartbeats 8000000 in
set_option maxRecDepth 100000 in
theorem checkBlows_any (l : List St) (v : Value) (m : Int) (bl : List Int) (vb : Value) (w : World) (hl : l.length ≤ 1000) (hbl : bl.length ≤ 1000) (hT : RT w w.heap.size v l) (hI : RI w w.heap.size vb bl) (hm : okI m) :
    Calls Try.prog 18 #[bV v m, vb] w fun e w' => e = .returned (.tuple #[.int .i64 (chkV l m bl), .int .i64 (chkE l m bl)]) ∧ Below w.heap.size w w' := by
  unfold bV
  obtain ⟨b, off, cap, A, rfl, -, hcap⟩ := hT.slice
  obtain ⟨bb, boff, bcap, Ab, rfl, -, hbcap⟩ := hI.slice
  obtain ⟨n0, hn0⟩ : ∃ n, w.heap.size = n := ⟨_, rfl⟩
  have hC : Below n0 w w := Below.refl _ _
  go_enter Try.func18, Try.ntmps18
  go_upto_region 1 with fail
  have hqbx : n0 ≤ n0 := by have := hC.size; omega
  have bx : BK (w.alloc (.cells #[.slice A l.length cap, .int .i64 m] 24)) (n0) #[.slice A l.length cap, .int .i64 m] 24 := BK.new' _ _ _ (n0) hn0
  have hsbx : (w.alloc (.cells #[.slice A l.length cap, .int .i64 m] 24)).heap.size = n0 + 1 := by simp [hn0]
  replace hC : Below n0 w (w.alloc (.cells #[.slice A l.length cap, .int .i64 m] 24)) := Below.alloc hC (by have := hC.size; omega) _
  replace hT := (RS.below hT (w' := (w.alloc (.cells #[.slice A l.length cap, .int .i64 m] 24))) (Below.alloc (Below.refl _ _) (Nat.le_refl _) _)).more (B' := (w.alloc (.cells #[.slice A l.length cap, .int .i64 m] 24)).heap.size) (by simp)
  replace hI := (RS.below hI (w' := (w.alloc (.cells #[.slice A l.length cap, .int .i64 m] 24))) (Below.alloc (Below.refl _ _) (Nat.le_refl _) _)).more (B' := (w.alloc (.cells #[.slice A l.length cap, .int .i64 m] 24)).heap.size) (by simp)
  generalize (w.alloc (.cells #[.slice A l.length cap, .int .i64 m] 24)) = Wbx at *
  have lbx := bx.lt
  have bxc0 := bx.cell 0
  have bxc1 := bx.cell 1
  simp at bxc0 bxc1
  go_wp2_with fail
  clear lbx bxc0 bxc1
  clear hsbx
  refine (after_any l _ m bl _ _ hl hbl hT hI hm).mono ?_
  rintro e w1 ⟨u, rfl, hown, hb⟩
  replace hC : Below n0 w w1 := hC.trans (hb.mono (by have := hC.size; omega))
  replace hT := (RS.below hT hb).more hb.size
  replace hI := (RS.below hI hb).more hb.size
  replace bx := bx.below hb bx.lt
  clear hb
  obtain ⟨e, he⟩ : ∃ e, aftE l m bl = e := ⟨_, rfl⟩
  rw [he]
  by_cases h0 : e = 0
  case neg =>
    have HE := Lib.hid (chkE_aft (l := l) (m := m) (bl := bl) (by rw [he]; exact h0))
    have HE2 := Lib.hid he
    have b1 : (e != 0) = true := by simp [h0]
    clear he h0 hown
    go_wp2_with fail
    exact bodyPost_ret (v := .tuple #[.int .i64 0, .int .i64 e]) (by simp [results, Try.results18, go_sem]) rfl ⟨by rw [HE.out.1, HE.out.2, HE2.out], by first | exact hC | (rw [hn0]; exact hC) | (with_reducible rw [hn0]; exact bel_of) | exact bel_of⟩
  subst h0
  have HA := Lib.hid he
  rw [aftL_yes he] at hown
  have hu := OwnI.ri hown
  obtain ⟨hOK, hlen, hq⟩ := aftE_zero.1 he
  have HQ := Lib.hid hq
  have HOK := Lib.hid hOK
  obtain ⟨-, h20, hall0, hm0, hm9⟩ := hOK
  have HO := Lib.hid hall0
  have HTL := Lib.hid (turL_length l bl l.length)
  have HLEN := Lib.hid hlen
  clear he hq hown hall0 hlen
  have lbx := bx.lt
  have bxc0 := bx.cell 0
  have bxc1 := bx.cell 1
  simp at bxc0 bxc1
  go_wp2_with fail
  clear lbx bxc0 bxc1
  go_loopw [8, 23] (fun c iv wr => ∃ k : Nat, k ≤ l.length ∧ iv = .int .i64 k ∧ c = .int .i64 (costTo l bl k) ∧ (∀ j, j < k → okAt l bl j = true) ∧ Below w1.heap.size w1 wr) (fun _ iv _ => l.length - (intOf iv).toNat)
  case atStart => exact ⟨0, Nat.zero_le _, rfl, by rw [costTo_zero], fun j hj => absurd hj (by omega), Below.refl _ _⟩
  case round =>
    obtain ⟨k, hk, rfl, rfl, hall, hbr⟩ := hrel
    have HALL := Lib.hid hall
    have HBR := Lib.hid hbr
    clear hall
    replace hC : Below n0 w wr := hC.trans (hbr.mono (by have := hC.size; omega))
    replace hT := (RS.below hT hbr).more hbr.size
    replace hI := (RS.below hI hbr).more hbr.size
    replace bx := bx.below hbr bx.lt
    replace hu := (RS.below hu hbr).more hbr.size
    clear hbr
    by_cases hlt : k < l.length
    case neg =>
      have hlt' : ¬ (k : Int) < (l.length : Int) := by omega
      obtain rfl : k = l.length := by omega
      have HE := Lib.hid (chkE_good HA.out HALL.out)
      go_wp2_with fail
      exact bodyPost_ret (v := .tuple #[.int .i64 (costTo l bl l.length), .int .i64 0]) (by simp [results, Try.results18, go_sem]) rfl ⟨by rw [HE.out.1, HE.out.2], by first | exact hC | (rw [hn0]; exact hC) | (with_reducible rw [hn0]; exact bel_of) | exact bel_of⟩
    have hlt' : (k : Int) < (l.length : Int) := by omega
    have hkb : k < bl.length := by have := HLEN.out; omega
    have hkb' : (k : Int) < (bl.length : Int) := by omega
    have hkt : k < (turL l bl l.length).length := by rw [HTL.out]; exact hlt
    have hos := okS_at HO.out hlt
    have hbd := (inB_iff _ _ _).1 ((allIn_iff _ _ _).1 HQ.out k hkb)
    have hct := costTo_rng HOK.out HLEN.out HQ.out k hk
    have hct2 := costTo_rng HOK.out HLEN.out HQ.out (k + 1) hlt
    have HC := Lib.hid (costTo_succ l bl k)
    rw [HC.out] at hct2
    obtain ⟨A', cap', b', off', hve, hA, hc⟩ := RT.cells hT
    obtain ⟨rfl, hbb⟩ := hA (by omega)
    injection hve with q1 q2 q3
    subst q1 q3
    obtain ⟨d0, d1, d2, d3⟩ := hc k hlt
    clear hA hc q2
    obtain ⟨A', cap', b'', off'', hve, hA, hc⟩ := RI.cells hI
    obtain ⟨rfl, hbb2⟩ := hA (by omega)
    injection hve with q1 q2 q3
    subst q1 q3
    have e1 := hc k hkb
    clear hA hc q2
    have hoa : okAt l bl k = inB (nthS l k).lo (nthS l k).hi ((nthS l k).ang + sumTo bl (k + 1)) := rfl
    obtain ⟨Au, cu, bu, ou, hve, hA, hc⟩ := RI.cells hu
    obtain ⟨rfl, hbb3⟩ := hA (by omega)
    subst hve
    have t1 := hc k hkt
    rw [turL_at hlt] at t1
    rw [HTL.out]
    rw [HTL.out] at hkt
    have hkt' : (k : Int) < (l.length : Int) := hlt'
    clear hA hc
    have HBAD := Lib.hid (fun (h : okAt l bl k = false) => chkE_bad HA.out hlt h)
    have HNEXT := Lib.hid (fun (h : okAt l bl k = true) => less_succ HALL.out h)
    obtain ⟨q, hq⟩ : ∃ q, okAt l bl k = q := ⟨_, rfl⟩
    rw [hq] at hoa HBAD HNEXT
    obtain ⟨⟨a, lo, hi, hd⟩, hss⟩ : ∃ s, nthS l k = s := ⟨_, rfl⟩
    obtain ⟨x, hx⟩ : ∃ x, nthI bl k = x := ⟨_, rfl⟩
    rw [hss] at d0 d1 d2 d3 hoa HC hos hct2 t1
    rw [hx] at e1 HC hbd hct2
    dsimp only at d0 d1 d2 d3 hoa hos t1
    generalize costTo l bl k = ck at *
    unfold cst at HC hct2
    dsimp only at HC hct2
    have TK := Lib.hid (turL_at (l := l) (bl := bl) hlt)
    have XK := Lib.hid hx
    rw [hss] at TK
    dsimp only at TK
    generalize a + sumTo bl (k + 1) = tk at *
    clear hss hx hq
    have wx : IntKind.i64.wrap (-x) = -x := by rw [IntKind.wrap_i64]; omega
    obtain ⟨M, hM⟩ : ∃ M, max x (-x) = M := ⟨_, rfl⟩
    rw [hM] at HC hct2
    have hcl : 0 ≤ hd * M := Int.mul_nonneg (by omega) (by omega)
    have wm : IntKind.i64.wrap (hd * M) = hd * M := by rw [IntKind.wrap_i64]; omega
    have wc : IntKind.i64.wrap (ck + hd * M) = ck + hd * M := by rw [IntKind.wrap_i64]; omega
    clear hct hct2 hcl
    go_upto_region 8 with fail
    obtain ⟨m1, hm1⟩ : ∃ n, wr.heap.size = n := ⟨_, rfl⟩
    try rw [hm1]
    have hqsx : n0 ≤ m1 := by have := hC.size; omega
    have sx : BK (wr.alloc (.cells #[.int .i64 a, .int .i64 lo, .int .i64 hi, .int .i64 hd] 60)) (m1) #[.int .i64 a, .int .i64 lo, .int .i64 hi, .int .i64 hd] 60 := BK.new' _ _ _ (m1) hm1
    have hssx : (wr.alloc (.cells #[.int .i64 a, .int .i64 lo, .int .i64 hi, .int .i64 hd] 60)).heap.size = m1 + 1 := by simp [hm1]
    replace hC : Below n0 w (wr.alloc (.cells #[.int .i64 a, .int .i64 lo, .int .i64 hi, .int .i64 hd] 60)) := Below.alloc hC (by have := hC.size; omega) _
    replace hT := (RS.below hT (w' := (wr.alloc (.cells #[.int .i64 a, .int .i64 lo, .int .i64 hi, .int .i64 hd] 60))) (Below.alloc (Below.refl _ _) (Nat.le_refl _) _)).more (B' := (wr.alloc (.cells #[.int .i64 a, .int .i64 lo, .int .i64 hi, .int .i64 hd] 60)).heap.size) (by simp)
    replace hI := (RS.below hI (w' := (wr.alloc (.cells #[.int .i64 a, .int .i64 lo, .int .i64 hi, .int .i64 hd] 60))) (Below.alloc (Below.refl _ _) (Nat.le_refl _) _)).more (B' := (wr.alloc (.cells #[.int .i64 a, .int .i64 lo, .int .i64 hi, .int .i64 hd] 60)).heap.size) (by simp)
    replace bx := bx.alloc (.cells #[.int .i64 a, .int .i64 lo, .int .i64 hi, .int .i64 hd] 60)
    replace hu := (RS.below hu (w' := (wr.alloc (.cells #[.int .i64 a, .int .i64 lo, .int .i64 hi, .int .i64 hd] 60))) (Below.alloc (Below.refl _ _) (Nat.le_refl _) _)).more (B' := (wr.alloc (.cells #[.int .i64 a, .int .i64 lo, .int .i64 hi, .int .i64 hd] 60)).heap.size) (by simp)
    have hbo := Lib.hid (HBR.out.trans ((Below.alloc (Below.refl _ _) (Nat.le_refl _) _ : Below wr.heap.size wr (wr.alloc (.cells #[.int .i64 a, .int .i64 lo, .int .i64 hi, .int .i64 hd] 60))).mono HBR.out.size))
    generalize (wr.alloc (.cells #[.int .i64 a, .int .i64 lo, .int .i64 hi, .int .i64 hd] 60)) = Wsx at *
    clear hm1
    clear d0 d1 d2 d3 e1 t1 hbb hbb2 hbb3
    clear hssx
    obtain ⟨hbb3, t1⟩ := RI.at hu (k := k) (by rw [turL_length]; exact hlt)
    rw [TK.out] at t1
    obtain ⟨hbb2, e1⟩ := RI.at hI (k := k) hkb
    rw [XK.out] at e1
    have lsx := sx.lt
    have sxc0 := sx.cell 0
    have sxc1 := sx.cell 1
    have sxc2 := sx.cell 2
    have sxc3 := sx.cell 3
    simp at sxc0 sxc1 sxc2 sxc3
    refine wp_region_noPanic (plain_any [0, 1, 2, 3, 4, 5, 6, 7, 8, 9, 12] (Below Wsx.heap.size Wsx) mixed ?_)
    refine any_tk 0 ?_
    have d0z : Below Wsx.heap.size Wsx Wsx.drew := by exact bel_of
    refine any_tk 1 ?_
    refine any_tk 2 ?_
    refine any_tk 3 ?_
    refine any_tk 4 ?_
    refine any_tk 5 ?_
    refine any_tk 6 ?_
    refine any_tk 7 ?_
    refine any_tk 8 ?_
    refine any_tk 9 ?_
    have qz1 := d0z.size
    have ez1 : Below Wsx.heap.size Wsx (Wsx.drew.alloc (.cells #[.int .i64 tk] 2)) := by exact bel_of
    refine any_run1 (i := 10) (by kernel_rfl) (by rfl) (by kernel_rfl) ?_
    intro K hK
    go_wp2_with fail
    refine hK _ _ (fun _ => ez1) ?_
    clear hK K
    have qz2 := ez1.size
    refine any_run1 (i := 11) (by kernel_rfl) (by rfl) (by kernel_rfl) ?_
    intro K hK
    go_wp2_with fail
    refine (within_1c lo hi tk _ _ (by simp) (by simp)).mono ?_
    rintro e vz2 ⟨rfl, hb⟩
    rw [← hoa]
    clear hoa
    have ez2 : Below Wsx.heap.size Wsx vz2 := ez1.trans (hb.mono ez1.size)
    clear hb
    refine hK _ _ (fun _ => ez2) ?_
    clear hK K
    refine any_tk 12 ?_
    refine any_done (by kernel_rfl) (NoPanic.normal ?_)
    have hbo2 := Lib.hid (hbo.out.trans (ez2.mono hbo.out.size))
    have hb := ez2
    replace hC : Below n0 w vz2 := hC.trans (hb.mono (by have := hC.size; omega))
    replace hT := (RS.below hT hb).more hb.size
    replace hI := (RS.below hI hb).more hb.size
    replace bx := bx.below hb bx.lt
    replace hu := (RS.below hu hb).more hb.size
    replace sx := sx.below hb sx.lt
    clear hb
    clear t1 e1 lsx sxc0 sxc1 sxc2 sxc3 hbb2 hbb3
    cases q
    case false =>
      have HE := Lib.hid (HBAD.out rfl)
      go_wp2_with fail
      exact bodyPost_ret (v := .tuple #[.int .i64 0, .int .i64 18]) (by simp [results, Try.results18, go_sem]) rfl ⟨by rw [HE.out.1, HE.out.2], by first | exact hC | (rw [hn0]; exact hC) | (with_reducible rw [hn0]; exact bel_of) | exact bel_of⟩
    have HN := Lib.hid (HNEXT.out rfl)
    go_wp2_with fail
    obtain ⟨hbb2, e1⟩ := RI.at hI (k := k) hkb
    rw [XK.out] at e1
    have lsx := sx.lt
    have sxc0 := sx.cell 0
    have sxc1 := sx.cell 1
    have sxc2 := sx.cell 2
    have sxc3 := sx.cell 3
    simp at sxc0 sxc1 sxc2 sxc3
    have hmx : (if x < -x then -x else x) = M := by rw [← hM]; omega
    go_quiet (fail)
    go_wp2_with fail
    go_roundw
    case rel => exact ⟨k + 1, by omega, by go_num, by rw [HC.out], HN.out, belowN hbo2.out _⟩
    case measure => simp [intOf]; omega
end Go.Proofs.Ytgbegdjakadbbaa

set_option linter.all false
namespace Go.Proofs.Ytgbegdjakadbbaa
open Go.RowKit Vp

set_option maxHeartbeats 8000000 in
set_option maxRecDepth 100000 in
theorem checkBlowsR_any (l : List St) (v : Value) (m : Int) (bl : List Int) (vb : Value) (w : World) (hl : l.length ≤ 1000) (hbl : bl.length ≤ 1000) (hT : RT w w.heap.size v l) (hI : RI w w.heap.size vb bl) (hm : okI m) :
    Calls Try.prog 19 #[bV v m, vb] w fun e w' => e = .returned (.tuple #[.int .i64 (chkV l m bl), .int .i64 (chkE l m bl)]) ∧ Below w.heap.size w w' := by
  unfold bV
  obtain ⟨b, off, cap, A, rfl, -, hcap⟩ := hT.slice
  obtain ⟨bb, boff, bcap, Ab, rfl, -, hbcap⟩ := hI.slice
  obtain ⟨n0, hn0⟩ : ∃ n, w.heap.size = n := ⟨_, rfl⟩
  have hC : Below n0 w w := Below.refl _ _
  go_enter Try.func19, Try.ntmps19
  go_upto_region 1 with fail
  have hqbx : n0 ≤ n0 := by have := hC.size; omega
  have bx : BK (w.alloc (.cells #[.slice A l.length cap, .int .i64 m] 24)) (n0) #[.slice A l.length cap, .int .i64 m] 24 := BK.new' _ _ _ (n0) hn0
  have hsbx : (w.alloc (.cells #[.slice A l.length cap, .int .i64 m] 24)).heap.size = n0 + 1 := by simp [hn0]
  replace hC : Below n0 w (w.alloc (.cells #[.slice A l.length cap, .int .i64 m] 24)) := Below.alloc hC (by have := hC.size; omega) _
  replace hT := (RS.below hT (w' := (w.alloc (.cells #[.slice A l.length cap, .int .i64 m] 24))) (Below.alloc (Below.refl _ _) (Nat.le_refl _) _)).more (B' := (w.alloc (.cells #[.slice A l.length cap, .int .i64 m] 24)).heap.size) (by simp)
  replace hI := (RS.below hI (w' := (w.alloc (.cells #[.slice A l.length cap, .int .i64 m] 24))) (Below.alloc (Below.refl _ _) (Nat.le_refl _) _)).more (B' := (w.alloc (.cells #[.slice A l.length cap, .int .i64 m] 24)).heap.size) (by simp)
  generalize (w.alloc (.cells #[.slice A l.length cap, .int .i64 m] 24)) = Wbx at *
  have lbx := bx.lt
  have bxc0 := bx.cell 0
  have bxc1 := bx.cell 1
  simp at bxc0 bxc1
  go_wp2_with fail
  clear lbx bxc0 bxc1
  clear hsbx
  refine (afterR_any l _ m bl _ _ hl hbl hT hI hm).mono ?_
  rintro e w1 ⟨u, rfl, hown, hb⟩
  replace hC : Below n0 w w1 := hC.trans (hb.mono (by have := hC.size; omega))
  replace hT := (RS.below hT hb).more hb.size
  replace hI := (RS.below hI hb).more hb.size
  replace bx := bx.below hb bx.lt
  clear hb
  obtain ⟨e, he⟩ : ∃ e, aftE l m bl = e := ⟨_, rfl⟩
  rw [he]
  by_cases h0 : e = 0
  case neg =>
    have HE := Lib.hid (chkE_aft (l := l) (m := m) (bl := bl) (by rw [he]; exact h0))
    have HE2 := Lib.hid he
    have b1 : (e != 0) = true := by simp [h0]
    clear he h0 hown
    go_wp2_with fail
    exact bodyPost_ret (v := .tuple #[.int .i64 0, .int .i64 e]) (by simp [results, Try.results19, go_sem]) rfl ⟨by rw [HE.out.1, HE.out.2, HE2.out], by first | exact hC | (rw [hn0]; exact hC) | (with_reducible rw [hn0]; exact bel_of) | exact bel_of⟩
  subst h0
  have HA := Lib.hid he
  rw [aftL_yes he] at hown
  have hu := OwnI.ri hown
  obtain ⟨hOK, hlen, hq⟩ := aftE_zero.1 he
  have HQ := Lib.hid hq
  have HOK := Lib.hid hOK
  obtain ⟨-, h20, hall0, hm0, hm9⟩ := hOK
  have HO := Lib.hid hall0
  have HTL := Lib.hid (turL_length l bl l.length)
  have HLEN := Lib.hid hlen
  clear he hq hown hall0 hlen
  have lbx := bx.lt
  have bxc0 := bx.cell 0
  have bxc1 := bx.cell 1
  simp at bxc0 bxc1
  go_wp2_with fail
  clear lbx bxc0 bxc1
  go_loopw [8, 9] (fun c iv wr => ∃ k : Nat, k ≤ l.length ∧ iv = .int .i64 k ∧ c = .int .i64 (costTo l bl k) ∧ (∀ j, j < k → okAt l bl j = true) ∧ Below w1.heap.size w1 wr) (fun _ iv _ => l.length - (intOf iv).toNat)
  case atStart => exact ⟨0, Nat.zero_le _, rfl, by rw [costTo_zero], fun j hj => absurd hj (by omega), Below.refl _ _⟩
  case round =>
    obtain ⟨k, hk, rfl, rfl, hall, hbr⟩ := hrel
    have HALL := Lib.hid hall
    have HBR := Lib.hid hbr
    clear hall
    replace hC : Below n0 w wr := hC.trans (hbr.mono (by have := hC.size; omega))
    replace hT := (RS.below hT hbr).more hbr.size
    replace hI := (RS.below hI hbr).more hbr.size
    replace bx := bx.below hbr bx.lt
    replace hu := (RS.below hu hbr).more hbr.size
    clear hbr
    by_cases hlt : k < l.length
    case neg =>
      have hlt' : ¬ (k : Int) < (bl.length : Int) := by have := HLEN.out; omega
      obtain rfl : k = l.length := by omega
      have HE := Lib.hid (chkE_good HA.out HALL.out)
      go_wp2_with fail
      exact bodyPost_ret (v := .tuple #[.int .i64 (costTo l bl l.length), .int .i64 0]) (by simp [results, Try.results19, go_sem]) rfl ⟨by rw [HE.out.1, HE.out.2], by first | exact hC | (rw [hn0]; exact hC) | (with_reducible rw [hn0]; exact bel_of) | exact bel_of⟩
    have hlt' : (k : Int) < (l.length : Int) := by omega
    have hkb : k < bl.length := by have := HLEN.out; omega
    have hkb' : (k : Int) < (bl.length : Int) := by omega
    have hkt : k < (turL l bl l.length).length := by rw [HTL.out]; exact hlt
    have hos := okS_at HO.out hlt
    have hbd := (inB_iff _ _ _).1 ((allIn_iff _ _ _).1 HQ.out k hkb)
    have hct := costTo_rng HOK.out HLEN.out HQ.out k hk
    have hct2 := costTo_rng HOK.out HLEN.out HQ.out (k + 1) hlt
    have HC := Lib.hid ((costTo_succ l bl k).trans (by rw [show cst (nthS l k) (nthI bl k) = max (nthI bl k) (-nthI bl k) * (nthS l k).hard from Int.mul_comm _ _]))
    rw [HC.out] at hct2
    obtain ⟨A', cap', b', off', hve, hA, hc⟩ := RT.cells hT
    obtain ⟨rfl, hbb⟩ := hA (by omega)
    injection hve with q1 q2 q3
    subst q1 q3
    obtain ⟨d0, d1, d2, d3⟩ := hc k hlt
    clear hA hc q2
    obtain ⟨A', cap', b'', off'', hve, hA, hc⟩ := RI.cells hI
    obtain ⟨rfl, hbb2⟩ := hA (by omega)
    injection hve with q1 q2 q3
    subst q1 q3
    have e1 := hc k hkb
    clear hA hc q2
    have hoa : okAt l bl k = inB (nthS l k).lo (nthS l k).hi ((nthS l k).ang + sumTo bl (k + 1)) := rfl
    obtain ⟨Au, cu, bu, ou, hve, hA, hc⟩ := RI.cells hu
    obtain ⟨rfl, hbb3⟩ := hA (by omega)
    subst hve
    have t1 := hc k hkt
    rw [turL_at hlt] at t1
    rw [HTL.out]
    rw [HTL.out] at hkt
    have hkt' : (k : Int) < (l.length : Int) := hlt'
    clear hA hc
    have HBAD := Lib.hid (fun (h : okAt l bl k = false) => chkE_bad HA.out hlt h)
    have HNEXT := Lib.hid (fun (h : okAt l bl k = true) => less_succ HALL.out h)
    obtain ⟨q, hq⟩ : ∃ q, okAt l bl k = q := ⟨_, rfl⟩
    rw [hq] at hoa HBAD HNEXT
    obtain ⟨⟨a, lo, hi, hd⟩, hss⟩ : ∃ s, nthS l k = s := ⟨_, rfl⟩
    obtain ⟨x, hx⟩ : ∃ x, nthI bl k = x := ⟨_, rfl⟩
    rw [hss] at d0 d1 d2 d3 hoa HC hos hct2 t1
    rw [hx] at e1 HC hbd hct2
    dsimp only at d0 d1 d2 d3 hoa hos t1
    generalize costTo l bl k = ck at *
    have TK := Lib.hid (turL_at (l := l) (bl := bl) hlt)
    have XK := Lib.hid hx
    rw [hss] at TK
    dsimp only at TK
    generalize a + sumTo bl (k + 1) = tk at *
    dsimp only at HC hct2
    clear hss hx hq
    have wx : IntKind.i64.wrap (-x) = -x := by rw [IntKind.wrap_i64]; omega
    obtain ⟨M, hM⟩ : ∃ M, max x (-x) = M := ⟨_, rfl⟩
    rw [hM] at HC hct2
    have hcl : 0 ≤ M * hd := Int.mul_nonneg (by omega) (by omega)
    have wm : IntKind.i64.wrap (M * hd) = M * hd := by rw [IntKind.wrap_i64]; omega
    have wc : IntKind.i64.wrap (ck + M * hd) = ck + M * hd := by rw [IntKind.wrap_i64]; omega
    clear hct hct2 hcl
    have lbx := bx.lt
    have bxc0 := bx.cell 0
    have bxc1 := bx.cell 1
    simp at bxc0 bxc1
    go_upto_region 9 with fail
    clear lbx bxc0 bxc1
    obtain ⟨m1, hm1⟩ : ∃ n, wr.heap.size = n := ⟨_, rfl⟩
    try rw [hm1]
    have hqsx : n0 ≤ m1 := by have := hC.size; omega
    have sx : BK (wr.alloc (.cells #[.int .i64 a, .int .i64 lo, .int .i64 hi, .int .i64 hd] 60)) (m1) #[.int .i64 a, .int .i64 lo, .int .i64 hi, .int .i64 hd] 60 := BK.new' _ _ _ (m1) hm1
    have hssx : (wr.alloc (.cells #[.int .i64 a, .int .i64 lo, .int .i64 hi, .int .i64 hd] 60)).heap.size = m1 + 1 := by simp [hm1]
    replace hC : Below n0 w (wr.alloc (.cells #[.int .i64 a, .int .i64 lo, .int .i64 hi, .int .i64 hd] 60)) := Below.alloc hC (by have := hC.size; omega) _
    replace hT := (RS.below hT (w' := (wr.alloc (.cells #[.int .i64 a, .int .i64 lo, .int .i64 hi, .int .i64 hd] 60))) (Below.alloc (Below.refl _ _) (Nat.le_refl _) _)).more (B' := (wr.alloc (.cells #[.int .i64 a, .int .i64 lo, .int .i64 hi, .int .i64 hd] 60)).heap.size) (by simp)
    replace hI := (RS.below hI (w' := (wr.alloc (.cells #[.int .i64 a, .int .i64 lo, .int .i64 hi, .int .i64 hd] 60))) (Below.alloc (Below.refl _ _) (Nat.le_refl _) _)).more (B' := (wr.alloc (.cells #[.int .i64 a, .int .i64 lo, .int .i64 hi, .int .i64 hd] 60)).heap.size) (by simp)
    replace bx := bx.alloc (.cells #[.int .i64 a, .int .i64 lo, .int .i64 hi, .int .i64 hd] 60)
    replace hu := (RS.below hu (w' := (wr.alloc (.cells #[.int .i64 a, .int .i64 lo, .int .i64 hi, .int .i64 hd] 60))) (Below.alloc (Below.refl _ _) (Nat.le_refl _) _)).more (B' := (wr.alloc (.cells #[.int .i64 a, .int .i64 lo, .int .i64 hi, .int .i64 hd] 60)).heap.size) (by simp)
    have hbo := Lib.hid (HBR.out.trans ((Below.alloc (Below.refl _ _) (Nat.le_refl _) _ : Below wr.heap.size wr (wr.alloc (.cells #[.int .i64 a, .int .i64 lo, .int .i64 hi, .int .i64 hd] 60))).mono HBR.out.size))
    generalize (wr.alloc (.cells #[.int .i64 a, .int .i64 lo, .int .i64 hi, .int .i64 hd] 60)) = Wsx at *
    clear hm1
    clear d0 d1 d2 d3 e1 t1 hbb hbb2 hbb3
    clear hssx
    obtain ⟨hbb3, t1⟩ := RI.at hu (k := k) (by rw [turL_length]; exact hlt)
    rw [TK.out] at t1
    obtain ⟨hbb2, e1⟩ := RI.at hI (k := k) hkb
    rw [XK.out] at e1
    have lsx := sx.lt
    have sxc0 := sx.cell 0
    have sxc1 := sx.cell 1
    have sxc2 := sx.cell 2
    have sxc3 := sx.cell 3
    simp at sxc0 sxc1 sxc2 sxc3
    refine wp_region_noPanic (plain_any [0, 1, 2, 3, 4, 5, 6, 7, 8, 9, 11] (Below Wsx.heap.size Wsx) mixed ?_)
    refine any_tk 0 ?_
    have d0z : Below Wsx.heap.size Wsx Wsx.drew := by exact bel_of
    refine any_tk 1 ?_
    refine any_tk 2 ?_
    refine any_tk 3 ?_
    refine any_tk 4 ?_
    refine any_tk 5 ?_
    refine any_tk 6 ?_
    refine any_tk 7 ?_
    refine any_tk 8 ?_
    refine any_tk 9 ?_
    have qz1 := d0z.size
    refine any_run1 (i := 10) (by kernel_rfl) (by rfl) (by kernel_rfl) ?_
    intro K hK
    go_wp2_with fail
    refine (inside_b hoa.symm _).mono ?_
    rintro e vz1 ⟨rfl, hb⟩
    clear hoa
    have ez1 : Below Wsx.heap.size Wsx vz1 := d0z.trans (hb.mono d0z.size)
    clear hb
    refine hK _ _ (fun _ => ez1) ?_
    clear hK K
    refine any_tk 11 ?_
    refine any_done (by kernel_rfl) (NoPanic.normal ?_)
    have hbo2 := Lib.hid (hbo.out.trans (ez1.mono hbo.out.size))
    have hb := ez1
    replace hC : Below n0 w vz1 := hC.trans (hb.mono (by have := hC.size; omega))
    replace hT := (RS.below hT hb).more hb.size
    replace hI := (RS.below hI hb).more hb.size
    replace bx := bx.below hb bx.lt
    replace hu := (RS.below hu hb).more hb.size
    replace sx := sx.below hb sx.lt
    clear hb
    clear t1 e1 lsx sxc0 sxc1 sxc2 sxc3 hbb2 hbb3
    cases q
    case false =>
      have HE := Lib.hid (HBAD.out rfl)
      go_wp2_with fail
      exact bodyPost_ret (v := .tuple #[.int .i64 0, .int .i64 18]) (by simp [results, Try.results19, go_sem]) rfl ⟨by rw [HE.out.1, HE.out.2], by first | exact hC | (rw [hn0]; exact hC) | (with_reducible rw [hn0]; exact bel_of) | exact bel_of⟩
    have HN := Lib.hid (HNEXT.out rfl)
    go_wp2_with fail
    obtain ⟨hbb2, e1⟩ := RI.at hI (k := k) hkb
    rw [XK.out] at e1
    have lsx := sx.lt
    have sxc0 := sx.cell 0
    have sxc1 := sx.cell 1
    have sxc2 := sx.cell 2
    have sxc3 := sx.cell 3
    simp at sxc0 sxc1 sxc2 sxc3
    refine wp_region_noPanic (plain_any [0, 1, 2, 3, 4, 6, 7, 8, 9, 10] (Below vz1.heap.size vz1) mixed ?_)
    refine any_tk 0 ?_
    have d0y : Below vz1.heap.size vz1 vz1.drew := by exact bel_of
    refine any_tk 1 ?_
    refine any_tk 2 ?_
    refine any_tk 3 ?_
    refine any_tk 4 ?_
    refine any_tk 6 ?_
    refine any_tk 7 ?_
    have qy1 := d0y.size
    refine any_run1 (i := 5) (by kernel_rfl) (by rfl) (by kernel_rfl) ?_
    intro K hK
    go_wp2_with fail
    refine (amount_b x _ (by omega)).mono ?_
    rintro e vy1 ⟨rfl, hb⟩
    rw [hM]
    have ey1 : Below vz1.heap.size vz1 vy1 := d0y.trans (hb.mono d0y.size)
    clear hb
    refine hK _ _ (fun _ => ey1) ?_
    clear hK K
    refine any_tk 8 ?_
    refine any_tk 9 ?_
    refine any_tk 10 ?_
    refine any_done (by kernel_rfl) (NoPanic.normal ?_)
    have hbo3 := Lib.hid (hbo2.out.trans (ey1.mono hbo2.out.size))
    have hb := ey1
    replace hC : Below n0 w vy1 := hC.trans (hb.mono (by have := hC.size; omega))
    replace hT := (RS.below hT hb).more hb.size
    replace hI := (RS.below hI hb).more hb.size
    replace bx := bx.below hb bx.lt
    replace hu := (RS.below hu hb).more hb.size
    replace sx := sx.below hb sx.lt
    clear hb
    go_wp2_with fail
    go_roundw
    case rel => exact ⟨k + 1, by omega, by go_num, by rw [HC.out], HN.out, hbo3.out⟩
    case measure => simp [intOf]; omega
end Go.Proofs.Ytgbegdjakadbbaa

set_option linter.all false
namespace Go.Proofs.Ytgbegdjakadbbaa
open Go.RowKit Vp
theorem grown_of_below {W X : World} (hb : Below W.heap.size W X) (r : Option Nat) : W.grownBy X r := ⟨hb.os, hb.tape, hb.output, hb.size, fun k hk _ => hb.block k hk⟩
theorem grown_below {W X Y : World} {r : Option Nat} (h : W.grownBy X r) (hb : Below X.heap.size X Y) : W.grownBy Y r :=
  ⟨hb.os.trans h.os, hb.tape.trans h.tape, hb.output.trans h.output, Nat.le_trans h.size hb.size, fun k hk hr => (hb.block k (Nat.lt_of_lt_of_le hk h.size)).trans (h.block k hk hr)⟩
theorem grown_trans {W X Y : World} {r : Option Nat} (h : W.grownBy X r) (hb : X.grownBy Y r) : W.grownBy Y r :=
  ⟨hb.os.trans h.os, hb.tape.trans h.tape, hb.output.trans h.output, Nat.le_trans h.size hb.size, fun k hk hr => (hb.block k (Nat.lt_of_lt_of_le hk h.size) hr).trans (h.block k hk hr)⟩
theorem grown_rules {W X : World} {r : Option Nat} (h : W.grownBy X r) : (∀ b o, b < W.heap.size → some b ≠ r → X.cell? ⟨b, o, none⟩ = W.cell? ⟨b, o, none⟩) ∧ (∀ b o, b < W.heap.size → some b ≠ r → X.frozen? ⟨b, o, none⟩ = W.frozen? ⟨b, o, none⟩) := by
  refine ⟨fun b o hb hr => ?_, fun b o hb hr => ?_⟩
  · have := h.block b hb hr
    unfold World.cell?
    rw [this]
  · have := h.block b hb hr
    unfold World.frozen?
    rw [this]
theorem own_other {W : World} {base e sz n : Nat} {v : Value} {xs : List Value} (h : W.ownsRow base e sz v n xs) {g : Nat} {cs : Array Value} {t : TypeId} (hb : BK W g cs t) (hne : t ≠ e) : some g ≠ v.ownBlock := fun hq => by
  obtain ⟨c, hc⟩ := own_block h hq.symm
  unfold BK at hb
  rw [hb] at hc
  injection hc with hc
  injection hc with _ hc
  exact hne hc
section
variable {P : Program} {ops : Array Oper} {Q : Exit → Act → World → Prop} {md : Region.Mode} {E : List Nat}
/-- A read is taken while all stays but for one block. -/
theorem any_tr {W0 : World} {r : Option Nat} (i : Nat) {v : Value} {oi : Oper} {fuel : Nat} {listed : Array Bool} {a a' : Act} {w : World}
    (h : wpAnyF P md ops Q (fun X => W0.grownBy X r) E fuel (listed.setIfInBounds i true) a' w)
    (hi : ops[i]? = some oi := by rfl)
    (hB : takeB md ops E listed i = true := by kernel_rfl)
    (hQ : ∀ c (a : Act) d (v : Value) w, Q (.panic c) (a.put d v) w → Q (.panic c) a w := by exact fun _ _ _ _ _ hx => hx.elim)
    (hw : Region.wanted oi (yielded ops a.tmps) = true := by rfl)
    (hS : W0.grownBy w r := by with_reducible assumption)
    (hy : ∀ X, W0.grownBy X r → (execOp a.eval oi).run P X = .ok (.value v) X := by (intro X hX; obtain ⟨r1, r2⟩ := grown_rules hX; clear hX; go_simp; rfl))
    (ha : a.put oi.dst v = a' := by (simp only [List.getElem_toArray, List.getElem_cons_succ, List.getElem_cons_zero, Act.put, List.setIfInBounds_toArray, List.set_cons_succ, List.set_cons_zero]; rfl)) :
    wpAnyF P md ops Q (fun X => W0.grownBy X r) E (fuel + 1) listed a w := any_take i v hi hB hQ (.inl ⟨hw, hy⟩) hS (ha ▸ h)
end
theorem app_g {P : Program} {t e size bytes : Nat} {z : Value} (hinf : (P.info? e).map (fun i => (i.zero, i.size, i.bytes)) = some (some z, size, bytes)) (ht : P.underlying t = some (.slice e)) (hzs : z.cells.size = size) (hsz : 0 < size) (hb1 : bytes ≤ 1000)
    {base n : Nat} {W : World} {xs news : List Value} {v : Value} (hown : W.ownsRow base e size v n xs) {g tn : Nat} (hg : BK W g news.toArray tn) (hl : news.length = size) (h1 : ∀ u ∈ news, u.oneCell' = true) (hn : n ≤ 100000) (hbase : base ≤ W.heap.size) (ty : Nat) :
    ∃ v' w2, (Builtin.append_ #[t, t] ty #[v, .slice (some ⟨g, 0, none⟩) 1 1]).run P W = .ok v' w2 ∧ w2.ownsRow base e size v' (n + 1) (xs ++ news) ∧ W.grownBy w2 v.ownBlock ∧ (∀ w0, Below base w0 W → Below base w0 w2) ∧ (∀ k cs t, BK W k cs t → t ≠ e → BK w2 k cs t) := by
  obtain ⟨i0, hi0, hz0, hz1, hz2⟩ := info_parts hinf
  obtain ⟨g', cap', w2, hrun, hown', hgr, _⟩ := app1 (P := P) t ty e i0 z size bytes ht hi0 hz0 hz1 hz2 hzs hsz hb1 base W v n xs hown g news tn hg hl h1 hn hbase
  refine ⟨_, w2, hrun, hown', hgr, fun w0 hbw => Below.grown hbw hgr hbase fun k hk => (hown.lt k hk).1, ?_⟩
  intro k cs t hk hte
  exact hk.grown hgr (own_other hown hk hte)
theorem app_g_rg {W : World} {base g tn : Nat} {v : Value} {l : List Rg} {x : Rg} (h : OwnR W base v l) (hg : BK W g #[.int .i64 x.lo, .int .i64 x.hi] tn) (hn : l.length ≤ 100000) (hbase : base ≤ W.heap.size) :
    ∃ v' w2, (Builtin.append_ #[67, 67] 67 #[v, .slice (some ⟨g, 0, none⟩) 1 1]).run Try.prog W = .ok v' w2 ∧ OwnR w2 base v' (l ++ [x]) ∧ W.grownBy w2 v.ownBlock ∧ (∀ w0, Below base w0 W → Below base w0 w2) ∧ (∀ k cs t, BK W k cs t → t ≠ 42 → BK w2 k cs t) := by
  obtain ⟨v', w2, h1, h2, h3⟩ := app_g (news := encR x) rg_info rg_slice rfl (by decide) (by decide) h hg rfl (by intro u hu; simp [encR] at hu; rcases hu with rfl | rfl <;> rfl) hn hbase 67
  refine ⟨v', w2, h1, ?_, h3⟩
  unfold OwnR
  rw [← ofG_app, List.length_append]
  exact h2
end Go.Proofs.Ytgbegdjakadbbaa

set_option linter.all false
namespace Go.Proofs.Ytgbegdjakadbbaa
open Go.RowKit Vp

/-- The tubes of a blade, that of the beginning first. -/
def tubes (l : List St) : List Rg := ⟨0, 0⟩ :: l.map tub
theorem tubes_len (l : List St) : (tubes l).length = l.length + 1 := by simp [tubes]
theorem tubes_zero (l : List St) : nthB (tubes l) 0 = ⟨0, 0⟩ := rfl
theorem tubes_at {l : List St} {k : Nat} (h : k < l.length) : nthB (tubes l) (k + 1) = tub (nthS l k) := by simp [nthB, tubes, nthS, h]
theorem tubes_take (l : List St) (k : Nat) (h : k < l.length) : tubes (l.take k) ++ [tub (nthS l k)] = tubes (l.take (k + 1)) := by
  unfold tubes
  rw [List.take_succ_eq_append_getElem h, List.map_append, nthS_eq h]; rfl
/-- The block g is the bench of a blade. -/
def Bn (W : World) (B g : Nat) (l : List St) (m : Int) : Prop := ∃ vs vt, BK W g #[vs, .int .i64 m, vt] 75 ∧ g < B ∧ RT W B vs l ∧ RR W B vt (tubes l)
section
variable {W W' : World} {B B' g : Nat} {l : List St} {m : Int}
theorem Bn.below (h : Bn W B g l m) (hb : Below B W W') : Bn W' B g l m := by
  obtain ⟨vs, vt, h1, h2, h3, h4⟩ := h
  exact ⟨vs, vt, h1.below hb h2, h2, RS.below h3 hb, RS.below h4 hb⟩
theorem Bn.more (h : Bn W B g l m) (hB : B ≤ B') : Bn W B' g l m := by
  obtain ⟨vs, vt, h1, h2, h3, h4⟩ := h
  exact ⟨vs, vt, h1, Nat.lt_of_lt_of_le h2 hB, RS.more h3 hB, RS.more h4 hB⟩
theorem Bn.lt (h : Bn W B g l m) : g < B := by obtain ⟨vs, vt, h1, h2, h3, h4⟩ := h; exact h2
theorem Bn.adm {k : Nat} (h : Bn W B g l m) (ha : Adm k W W') : Bn W' B g l m := by
  obtain ⟨vs, vt, h1, h2, h3, h4⟩ := h
  exact ⟨vs, vt, ha.cells h1, h2, ha.rs h3, ha.rs h4⟩
end
theorem own_set {W : World} {base e sz n : Nat} {v : Value} {xs : List Value} (h : W.ownsRow base e sz v n xs) {g i : Nat} {u : Value} {cs : Array Value} {t : TypeId} (hb : BK W g cs t) (hne : t ≠ e) : (W.setCell ⟨g, i, none⟩ u).ownsRow base e sz v n xs := by
  obtain ⟨hl, h2⟩ := h
  refine ⟨hl, ?_⟩
  rcases h2 with h2 | ⟨g2, cap, cur, h3, h4, h5, h6⟩
  · exact .inl h2
  · refine .inr ⟨g2, cap, cur, h3, h4, ?_, h6⟩
    rw [Below.heap_setCell]
    · exact h5
    · rintro rfl
      unfold BK at hb
      rw [h5] at hb
      injection hb with hb
      injection hb with _ hb
      exact hne hb.symm
theorem own_new {W : World} {base e sz g : Nat} {cs : List Value} (hb : BK W g cs.toArray e) (hg : base ≤ g) (hl : cs.length = 1 * sz) : W.ownsRow base e sz (.slice (some ⟨g, 0, none⟩) 1 1) 1 cs :=
  ⟨hl, .inr ⟨g, 1, cs.toArray, rfl, hg, hb, Nat.le_refl _, by unfold maxLen; omega, by simpa using hl, by rw [← hl]; simp⟩⟩

set_option maxHeartbeats 8000000 in
set_option maxRecDepth 100000 in
theorem newBench_any (l : List St) (v : Value) (m : Int) (w : World) (ho : ∀ s ∈ l, okSB s = true) (hl : l.length ≤ 20) (hT : RT w w.heap.size v l) :
    Calls Try.prog 70 #[bV v m] w fun e w' => ∃ g, e = .returned (.pointer (some ⟨g, 0, none⟩)) ∧ w.heap.size ≤ g ∧ Bn w' w'.heap.size g l m ∧ Below w.heap.size w w' := by
  unfold bV
  obtain ⟨b, off, cap, A, rfl, -, hcap⟩ := hT.slice
  have hT0 := hT
  obtain ⟨n0, hn0⟩ : ∃ n, w.heap.size = n := ⟨_, rfl⟩
  have hC : Below n0 w w := Below.refl _ _
  go_enter Try.func70, Try.ntmps70
  go_upto_region 1 with fail
  have hqbx : n0 ≤ n0 := by have := hC.size; omega
  have bx : BK (w.alloc (.cells #[.slice A l.length cap, .int .i64 m] 24)) (n0) #[.slice A l.length cap, .int .i64 m] 24 := BK.new' _ _ _ (n0) hn0
  have hsbx : (w.alloc (.cells #[.slice A l.length cap, .int .i64 m] 24)).heap.size = n0 + 1 := by simp [hn0]
  replace hC : Below n0 w (w.alloc (.cells #[.slice A l.length cap, .int .i64 m] 24)) := Below.alloc hC (by have := hC.size; omega) _
  replace hT := (RS.below hT (w' := (w.alloc (.cells #[.slice A l.length cap, .int .i64 m] 24))) (Below.alloc (Below.refl _ _) (Nat.le_refl _) _)).more (B' := (w.alloc (.cells #[.slice A l.length cap, .int .i64 m] 24)).heap.size) (by simp)
  generalize (w.alloc (.cells #[.slice A l.length cap, .int .i64 m] 24)) = Wbx at *
  have lbx := bx.lt
  have bxc0 := bx.cell 0
  have bxc1 := bx.cell 1
  simp at bxc0 bxc1
  go_upto_region 2 with fail
  clear lbx bxc0 bxc1
  have hqtx : n0 ≤ n0 + 1 := by have := hC.size; omega
  have tx : BK (Wbx.alloc (.cells #[.int .i64 0, .int .i64 0] 42)) (n0 + 1) #[.int .i64 0, .int .i64 0] 42 := BK.new' _ _ _ (n0 + 1) hsbx
  have hstx : (Wbx.alloc (.cells #[.int .i64 0, .int .i64 0] 42)).heap.size = n0 + 1 + 1 := by simp [hsbx]
  replace hC : Below n0 w (Wbx.alloc (.cells #[.int .i64 0, .int .i64 0] 42)) := Below.alloc hC (by have := hC.size; omega) _
  replace hT := (RS.below hT (w' := (Wbx.alloc (.cells #[.int .i64 0, .int .i64 0] 42))) (Below.alloc (Below.refl _ _) (Nat.le_refl _) _)).more (B' := (Wbx.alloc (.cells #[.int .i64 0, .int .i64 0] 42)).heap.size) (by simp)
  replace bx := bx.alloc (.cells #[.int .i64 0, .int .i64 0] 42)
  generalize (Wbx.alloc (.cells #[.int .i64 0, .int .i64 0] 42)) = Wtx at *
  clear hsbx
  have hqex : n0 ≤ n0 + 1 + 1 := by have := hC.size; omega
  have ex : BK (Wtx.alloc (.cells #[.slice A l.length cap, .int .i64 m, .slice (some ⟨n0 + 1, 0, none⟩) 1 1] 75)) (n0 + 1 + 1) #[.slice A l.length cap, .int .i64 m, .slice (some ⟨n0 + 1, 0, none⟩) 1 1] 75 := BK.new' _ _ _ (n0 + 1 + 1) hstx
  have hsex : (Wtx.alloc (.cells #[.slice A l.length cap, .int .i64 m, .slice (some ⟨n0 + 1, 0, none⟩) 1 1] 75)).heap.size = n0 + 1 + 1 + 1 := by simp [hstx]
  replace hC : Below n0 w (Wtx.alloc (.cells #[.slice A l.length cap, .int .i64 m, .slice (some ⟨n0 + 1, 0, none⟩) 1 1] 75)) := Below.alloc hC (by have := hC.size; omega) _
  replace hT := (RS.below hT (w' := (Wtx.alloc (.cells #[.slice A l.length cap, .int .i64 m, .slice (some ⟨n0 + 1, 0, none⟩) 1 1] 75))) (Below.alloc (Below.refl _ _) (Nat.le_refl _) _)).more (B' := (Wtx.alloc (.cells #[.slice A l.length cap, .int .i64 m, .slice (some ⟨n0 + 1, 0, none⟩) 1 1] 75)).heap.size) (by simp)
  replace bx := bx.alloc (.cells #[.slice A l.length cap, .int .i64 m, .slice (some ⟨n0 + 1, 0, none⟩) 1 1] 75)
  replace tx := tx.alloc (.cells #[.slice A l.length cap, .int .i64 m, .slice (some ⟨n0 + 1, 0, none⟩) 1 1] 75)
  generalize (Wtx.alloc (.cells #[.slice A l.length cap, .int .i64 m, .slice (some ⟨n0 + 1, 0, none⟩) 1 1] 75)) = Wex at *
  clear hstx
  have H0 := Lib.hid (show RT w n0 (.slice A l.length cap) l by rw [← hn0]; exact hT0)
  clear hT0
  have hown : OwnR Wex n0 (.slice (some ⟨n0 + 1, 0, none⟩) 1 1) (tubes (l.take 0)) := own_new (cs := encR ⟨0, 0⟩) tx (by omega) rfl
  have HO := Lib.hid ho
  clear ho tx
  clear hsex
  clear hT
  have lbx := bx.lt
  have bxc0 := bx.cell 0
  have bxc1 := bx.cell 1
  simp at bxc0 bxc1
  go_wp2_with fail
  clear lbx bxc0 bxc1
  go_loopw [14] (fun iv wr => ∃ (k : Nat) (vt : Value), k ≤ l.length ∧ iv = .int .i64 k ∧ BK wr n0 #[.slice A l.length cap, .int .i64 m] 24 ∧ BK wr (n0 + 1 + 1) #[.slice A l.length cap, .int .i64 m, vt] 75 ∧ OwnR wr n0 vt (tubes (l.take k)) ∧ Below n0 w wr) (fun iv _ => l.length - (intOf iv).toNat)
  case atStart => exact ⟨0, _, Nat.zero_le _, rfl, bx, ex, hown, hC⟩
  case round =>
    clear bx ex hown hC
    obtain ⟨k, vt, hk, rfl, bx, ex, hown, hC⟩ := hrel
    have hT : RT wr n0 (.slice A l.length cap) l := RS.below H0.out hC
    by_cases hlt : k < l.length
    case neg =>
      have hlt' : ¬ (k : Int) < (l.length : Int) := by omega
      obtain rfl : k = l.length := by omega
      rw [List.take_of_length_le (Nat.le_refl _)] at hown
      have hBn : Bn wr wr.heap.size (n0 + 1 + 1) l m := ⟨_, vt, ex, ex.lt, RS.more hT (by have := hC.size; omega), RS.of_own hown⟩
      have HBn := Lib.hid hBn
      clear hBn hown ex
      go_wp2_with fail
      go_ret
      exact ⟨_, rfl, by omega, HBn.out, by (try rw [hn0]); exact hC⟩
    have hlt' : (k : Int) < (l.length : Int) := by omega
    have hos := okS_at HO.out hlt
    have hTK := tubes_take l k hlt
    unfold tub at hTK
    obtain ⟨A', cap', b', off', hve, hA, hc⟩ := RT.cells hT
    obtain ⟨rfl, hbb⟩ := hA (by omega)
    injection hve with q1 q2 q3
    subst q1 q3
    obtain ⟨d0, d1, d2, d3⟩ := hc k hlt
    clear hA hc q2
    obtain ⟨⟨a, lo, hi, hd⟩, hss⟩ : ∃ s, nthS l k = s := ⟨_, rfl⟩
    rw [hss] at d0 d1 d2 d3 hos hTK
    dsimp only at d0 d1 d2 d3 hos hTK
    have ww1 : IntKind.i64.wrap (lo - a) = lo - a := by rw [IntKind.wrap_i64]; omega
    have ww2 : IntKind.i64.wrap (hi - a) = hi - a := by rw [IntKind.wrap_i64]; omega
    have hn00 := hC.size
    have hbb2 : b' < wr.heap.size := by omega
    have HTK := Lib.hid hTK
    have hvl : (tubes (l.take k)).length ≤ 21 := by rw [tubes_len, List.length_take]; omega
    clear hss hos hTK hn00
    go_upto_region 5 with fail
    obtain ⟨m1, hm1⟩ : ∃ n, wr.heap.size = n := ⟨_, rfl⟩
    try rw [hm1]
    have hqsx : n0 ≤ m1 := by have := hC.size; omega
    have sx : BK (wr.alloc (.cells #[.int .i64 a, .int .i64 lo, .int .i64 hi, .int .i64 hd] 60)) (m1) #[.int .i64 a, .int .i64 lo, .int .i64 hi, .int .i64 hd] 60 := BK.new' _ _ _ (m1) hm1
    have hssx : (wr.alloc (.cells #[.int .i64 a, .int .i64 lo, .int .i64 hi, .int .i64 hd] 60)).heap.size = m1 + 1 := by simp [hm1]
    replace hC : Below n0 w (wr.alloc (.cells #[.int .i64 a, .int .i64 lo, .int .i64 hi, .int .i64 hd] 60)) := Below.alloc hC (by have := hC.size; omega) _
    replace bx := bx.alloc (.cells #[.int .i64 a, .int .i64 lo, .int .i64 hi, .int .i64 hd] 60)
    replace ex := ex.alloc (.cells #[.int .i64 a, .int .i64 lo, .int .i64 hi, .int .i64 hd] 60)
    replace hown := own_below hown (W' := (wr.alloc (.cells #[.int .i64 a, .int .i64 lo, .int .i64 hi, .int .i64 hd] 60))) (Below.alloc (Below.refl _ _) (Nat.le_refl _) _)
    generalize (wr.alloc (.cells #[.int .i64 a, .int .i64 lo, .int .i64 hi, .int .i64 hd] 60)) = Wsx at *
    clear hm1
    clear d0 d1 d2 d3 hbb hbb2
    have q1 := own_other hown ex (by decide)
    have q2 := own_other hown sx (by decide)
    have q3 := own_other hown bx (by decide)
    clear hssx
    have lbx := bx.lt
    have bxc0 := bx.cell 0
    have bxc1 := bx.cell 1
    simp at bxc0 bxc1
    have lex := ex.lt
    have exc0 := ex.cell 0
    have exc1 := ex.cell 1
    have exc2 := ex.cell 2
    simp at exc0 exc1 exc2
    have lsx := sx.lt
    have sxc0 := sx.cell 0
    have sxc1 := sx.cell 1
    have sxc2 := sx.cell 2
    have sxc3 := sx.cell 3
    simp at sxc0 sxc1 sxc2 sxc3
    have hgr : Wsx.grownBy Wsx.drew vt.ownBlock := grown_of_below (Below.drew (Below.refl _ _)) _
    have HOW := Lib.hid (own_below hown (W' := Wsx.drew) (Below.drew (Below.refl _ _)))
    have HEX := Lib.hid ex.drew
    have HBX := Lib.hid bx.drew
    have hCd : Below n0 w Wsx.drew := Below.drew hC
    clear hown
    refine wp_region_noPanic (plain_any [0, 1, 2, 3, 4, 5, 6, 7, 8, 9, 10, 11, 12, 13, 14, 15, 16, 17] (fun X => Wsx.grownBy X vt.ownBlock) mixed ?_)
    refine any_tr 0 ?_
    refine any_tr 1 ?_
    refine any_tr 2 ?_
    refine any_tr 3 ?_
    refine any_tr 4 ?_
    refine any_tr 5 ?_
    refine any_tr 6 ?_
    refine any_tr 7 ?_
    refine any_tr 8 ?_
    refine any_tr 9 ?_
    refine any_tr 10 ?_
    refine any_tr 11 ?_
    refine any_tr 12 ?_
    refine any_tr 13 ?_
    refine any_tr 14 ?_
    refine any_tr 15 ?_
    refine any_tr 16 ?_
    refine any_tr 17 ?_
    clear bx ex sx hC lbx bxc0 bxc1 lex exc0 exc1 exc2 lsx sxc0 sxc1 sxc2 sxc3
    generalize Wsx.drew = wd at *
    refine any_run1 (i := 18) (by kernel_rfl) (by rfl) (by kernel_rfl) ?_
    intro K3 hK3
    go_wp2_with fail
    obtain ⟨gv, hgv⟩ : ∃ n, wd.heap.size = n := ⟨_, rfl⟩
    have hb1 : Below wd.heap.size wd (wd.alloc (.cells #[.int .i64 (lo - a), .int .i64 (hi - a)] 42)) := Below.alloc (Below.refl _ _) (Nat.le_refl _) _
    have bX : BK (wd.alloc (.cells #[.int .i64 (lo - a), .int .i64 (hi - a)] 42)) gv #[.int .i64 (lo - a), .int .i64 (hi - a)] 42 := BK.new' _ _ _ gv hgv
    have hgr2 := grown_below hgr hb1
    have hC2 : Below n0 w (wd.alloc (.cells #[.int .i64 (lo - a), .int .i64 (hi - a)] 42)) := hCd.trans (hb1.mono (by have := hCd.size; omega))
    obtain ⟨v', w9, hrun, hown', hgr9, hC9, hkp⟩ := app_g_rg (x := ⟨lo - a, hi - a⟩) (own_below HOW.out hb1) bX (by omega) (by have := hC2.size; omega)
    rw [HTK.out] at hown'
    obtain ⟨Av, cv, rfl⟩ := own_slice hown'
    have ex9 := hkp _ _ _ (HEX.out.below hb1 HEX.out.lt) (by decide)
    have bx9 := hkp _ _ _ (HBX.out.below hb1 HBX.out.lt) (by decide)
    have hC9' := hC9 w hC2
    have hgr3 := grown_trans hgr2 hgr9
    refine hK3 _ _ (fun _ => hgr2) ?_
    clear hK3 K3
    try rw [hgv]
    have HRUN := Lib.hid hrun
    have HO9 := Lib.hid hown'
    clear hrun hown' hgr9 hC9 hkp bX hb1 hC2 hgv
    generalize wd.alloc (.cells #[.int .i64 (lo - a), .int .i64 (hi - a)] 42) = VX at *
    refine any_run1 (i := 19) (by kernel_rfl) (by rfl) (by kernel_rfl) ?_
    intro K3 hK3
    refine wp_append_run (.tmp 22) (.tmp 36) 67 _ rfl HRUN.out ?_
    refine hK3 _ _ (fun _ => hgr3) ?_
    clear hK3 K3
    simp only [List.getElem_toArray, List.getElem_cons_succ, List.getElem_cons_zero, Act.put, List.setIfInBounds_toArray, List.set_cons_succ, List.set_cons_zero]
    refine any_run1 (i := 20) (by kernel_rfl) (by rfl) (by kernel_rfl) ?_
    intro K3 hK3
    go_wp2_with fail
    refine hK3 _ _ (fun _ => hgr3) ?_
    clear hK3 K3
    refine any_run1 (i := 21) (by kernel_rfl) (by rfl) (by kernel_rfl) ?_
    intro K3 hK3
    go_wp2_with fail
    refine hK3 _ _ (fun _ => hgr3) ?_
    clear hK3 K3
    have l9 := ex9.lt
    have e2 := ex9.cell 2
    have f2 := ex9.frozen 2
    simp at e2
    refine any_run1 (i := 22) (by kernel_rfl) (by rfl) (by kernel_rfl) ?_
    intro K3 hK3
    go_wp2_with fail
    have ex10 := ex9.set 2 (.slice Av (tubes (l.take (k + 1))).length cv)
    simp at ex10
    have bx10 := bx9.far (p := ⟨n0 + 1 + 1, 2, none⟩) (by show n0 ≠ n0 + 1 + 1; omega) (.slice Av (tubes (l.take (k + 1))).length cv)
    have ho10 := own_set (i := 2) (u := (.slice Av (tubes (l.take (k + 1))).length cv)) HO9.out ex9 (by decide)
    have hC10 : Below n0 w (w9.setCell ⟨n0 + 1 + 1, 2, none⟩ (.slice Av (tubes (l.take (k + 1))).length cv)) := Below.setCell hC9' (by show n0 ≤ n0 + 1 + 1; omega) _
    refine hK3 _ _ (fun hx => (Bool.false_ne_true (hx.symm.trans (by kernel_rfl))).elim) ?_
    clear hK3 K3 l9 e2 f2 ex9 bx9 hC9'
    have HO10 := Lib.hid ho10
    clear ho10
    refine any_done (by kernel_rfl) (NoPanic.normal ?_)
    go_wp2_with fail
    go_roundw
    case rel => exact ⟨k + 1, _, by omega, by go_num, bx10, ex10, HO10.out, hC10⟩
    case measure => simp [intOf]; omega
end Go.Proofs.Ytgbegdjakadbbaa
