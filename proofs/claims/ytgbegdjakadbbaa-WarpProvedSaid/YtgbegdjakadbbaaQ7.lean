/- WarpProved: the walk. No blows that make a blade straight cost less than the bound of any pulls; the blows that are returned cost just the bound of the pulls that are returned; for every blade, blows and pulls. -/
import Derived.Test.YtgbegdjakadbbaaP27
import Derived.Test.YtgbegdjakadbbaaRows
import Derived.Test.YtgbegdjakadbbaaP26
set_option linter.all false
set_option linter.unnecessarySimpa false
set_option linter.unusedSimpArgs false
set_option linter.unusedVariables false
set_option linter.unusedSectionVars false

set_option linter.all false
namespace Go.Proofs.Ytgbegdjakadbbaa
open Go.RowKit Vp

set_option maxHeartbeats 16000000 in
set_option maxRecDepth 100000 in
theorem warpProved_any (l : List St) (vs : Value) (m : Int) (us : List Nat) (vu : Value) (xs : List Int) (vx : Value) (ys : List Int) (vy : Value) (w : World) (hT : RT w w.heap.size vs l) (hlM : l.length ≤ maxLen) (hmI : okI m) (hU : RU .u8 w w.heap.size vu us) (hu : ∀ x ∈ us, x ≤ 255) (huM : us.length ≤ maxLen) (hX : RI w w.heap.size vx xs) (hxM : xs.length ≤ maxLen) (hY : RI w w.heap.size vy ys) (hyM : ys.length ≤ maxLen) :
    Calls Try.prog 7 #[bV vs m, vu, vx, vy] w fun x w' => x = .returned (.bool true) ∧ Below w.heap.size w w' := by
  unfold bV
  obtain ⟨b, off, cap, A, rfl, -, hcap⟩ := hT.slice
  obtain ⟨Au, cu, rfl⟩ := ru_slice hU
  obtain ⟨bx0, ox0, cx, Ax, rfl, -, hxcap⟩ := hX.slice
  obtain ⟨by0, oy0, cy, Ay, rfl, -, hycap⟩ := hY.slice
  obtain ⟨n0, hn0⟩ : ∃ n, w.heap.size = n := ⟨_, rfl⟩
  have hC : Below n0 w w := Below.refl _ _
  go_enter Try.func7, Try.ntmps7
  go_upto_region 1 with fail
  have hqbx : n0 ≤ n0 := by have := hC.size; omega
  have bx : BK (w.alloc (.cells #[.slice A l.length cap, .int .i64 m] 24)) (n0) #[.slice A l.length cap, .int .i64 m] 24 := BK.new' _ _ _ (n0) hn0
  have hsbx : (w.alloc (.cells #[.slice A l.length cap, .int .i64 m] 24)).heap.size = n0 + 1 := by simp [hn0]
  replace hC : Below n0 w (w.alloc (.cells #[.slice A l.length cap, .int .i64 m] 24)) := Below.alloc hC (by have := hC.size; omega) _
  replace hT := (RS.below hT (w' := (w.alloc (.cells #[.slice A l.length cap, .int .i64 m] 24))) (Below.alloc (Below.refl _ _) (Nat.le_refl _) _)).more (B' := (w.alloc (.cells #[.slice A l.length cap, .int .i64 m] 24)).heap.size) (by simp)
  replace hU := (RU.below hU (w' := (w.alloc (.cells #[.slice A l.length cap, .int .i64 m] 24))) (Below.alloc (Below.refl _ _) (Nat.le_refl _) _)).more (B' := (w.alloc (.cells #[.slice A l.length cap, .int .i64 m] 24)).heap.size) (by simp)
  replace hX := (RS.below hX (w' := (w.alloc (.cells #[.slice A l.length cap, .int .i64 m] 24))) (Below.alloc (Below.refl _ _) (Nat.le_refl _) _)).more (B' := (w.alloc (.cells #[.slice A l.length cap, .int .i64 m] 24)).heap.size) (by simp)
  replace hY := (RS.below hY (w' := (w.alloc (.cells #[.slice A l.length cap, .int .i64 m] 24))) (Below.alloc (Below.refl _ _) (Nat.le_refl _) _)).more (B' := (w.alloc (.cells #[.slice A l.length cap, .int .i64 m] 24)).heap.size) (by simp)
  generalize (w.alloc (.cells #[.slice A l.length cap, .int .i64 m] 24)) = Wbx at *
  clear hsbx
  have HUB := Lib.hid hu
  clear hu
  have lbx := bx.lt
  have bxc0 := bx.cell 0
  have bxc1 := bx.cell 1
  simp at bxc0 bxc1
  go_wp2_with fail
  clear lbx bxc0 bxc1
  refine (fine_any l _ m _ hlM hT).mono ?_
  rintro e w1 ⟨rfl, hb⟩
  replace hC : Below n0 w w1 := hC.trans (hb.mono (by have := hC.size; omega))
  replace hT := (RS.below hT hb).more hb.size
  replace hU := (RU.below hU hb).more hb.size
  replace hX := (RS.below hX hb).more hb.size
  replace hY := (RS.below hY hb).more hb.size
  replace bx := bx.below hb bx.lt
  clear hb
  obtain ⟨q, hq⟩ : ∃ q, fineB l m = q := ⟨_, rfl⟩
  rw [hq]
  cases q
  case false =>
    clear hq
    go_wp2_with fail
    refine (works_any _).mono ?_
    rintro e w2 ⟨rfl, hb⟩
    replace hC : Below n0 w w2 := hC.trans (hb.mono (by have := hC.size; omega))
    replace hT := (RS.below hT hb).more hb.size
    replace hU := (RU.below hU hb).more hb.size
    replace hX := (RS.below hX hb).more hb.size
    replace hY := (RS.below hY hb).more hb.size
    replace bx := bx.below hb bx.lt
    clear hb
    go_wp2_with fail
    exact bodyPost_ret (v := .bool true) (by simp [results, Try.results7, go_sem]) rfl ⟨rfl, by first | exact hC | (rw [hn0]; exact hC) | (with_reducible rw [hn0]; exact bel_of) | exact bel_of⟩
  have HBE := Lib.hid (fineB_bla hq)
  have HOK := Lib.hid (fineB_ok hq)
  have hm0 := HOK.out.lo
  have hm1 := HOK.out.hi
  have h20 := HOK.out.few
  have hlk : l.length ≤ 1000 := by omega
  clear hq
  simp only [Bool.not_true]
  by_cases zhul : 40 < us.length
  case pos =>
    have zz : ((us.length : Nat) : Int) > 40 := by omega
    have zd : decide (40 < us.length) = true := decide_eq_true zhul
    clear zhul
    have lbx := bx.lt
    have bxc0 := bx.cell 0
    have bxc1 := bx.cell 1
    simp at bxc0 bxc1
    go_wp2_with fail
    clear lbx bxc0 bxc1
    refine (works_any _).mono ?_
    rintro e w2 ⟨rfl, hb⟩
    replace hC : Below n0 w w2 := hC.trans (hb.mono (by have := hC.size; omega))
    replace hT := (RS.below hT hb).more hb.size
    replace hU := (RU.below hU hb).more hb.size
    replace hX := (RS.below hX hb).more hb.size
    replace hY := (RS.below hY hb).more hb.size
    replace bx := bx.below hb bx.lt
    clear hb
    go_wp2_with fail
    exact bodyPost_ret (v := .bool true) (by simp [results, Try.results7, go_sem]) rfl ⟨rfl, by first | exact hC | (rw [hn0]; exact hC) | (with_reducible rw [hn0]; exact bel_of) | exact bel_of⟩
  have hul : us.length ≤ 40 := by omega
  have zzhul : ¬ ((us.length : Nat) : Int) > 40 := by omega
  have zdhul : decide (40 < us.length) = false := decide_eq_false zhul
  clear zhul
  by_cases zhxl : 40 < xs.length
  case pos =>
    have zz : ((xs.length : Nat) : Int) > 40 := by omega
    have zd : decide (40 < xs.length) = true := decide_eq_true zhxl
    clear zhxl
    have lbx := bx.lt
    have bxc0 := bx.cell 0
    have bxc1 := bx.cell 1
    simp at bxc0 bxc1
    go_wp2_with fail
    clear lbx bxc0 bxc1
    refine (works_any _).mono ?_
    rintro e w2 ⟨rfl, hb⟩
    replace hC : Below n0 w w2 := hC.trans (hb.mono (by have := hC.size; omega))
    replace hT := (RS.below hT hb).more hb.size
    replace hU := (RU.below hU hb).more hb.size
    replace hX := (RS.below hX hb).more hb.size
    replace hY := (RS.below hY hb).more hb.size
    replace bx := bx.below hb bx.lt
    clear hb
    go_wp2_with fail
    exact bodyPost_ret (v := .bool true) (by simp [results, Try.results7, go_sem]) rfl ⟨rfl, by first | exact hC | (rw [hn0]; exact hC) | (with_reducible rw [hn0]; exact bel_of) | exact bel_of⟩
  have hxl : xs.length ≤ 40 := by omega
  have zzhxl : ¬ ((xs.length : Nat) : Int) > 40 := by omega
  have zdhxl : decide (40 < xs.length) = false := decide_eq_false zhxl
  clear zhxl
  by_cases zhyl : 40 < ys.length
  case pos =>
    have zz : ((ys.length : Nat) : Int) > 40 := by omega
    have zd : decide (40 < ys.length) = true := decide_eq_true zhyl
    clear zhyl
    have lbx := bx.lt
    have bxc0 := bx.cell 0
    have bxc1 := bx.cell 1
    simp at bxc0 bxc1
    go_wp2_with fail
    clear lbx bxc0 bxc1
    refine (works_any _).mono ?_
    rintro e w2 ⟨rfl, hb⟩
    replace hC : Below n0 w w2 := hC.trans (hb.mono (by have := hC.size; omega))
    replace hT := (RS.below hT hb).more hb.size
    replace hU := (RU.below hU hb).more hb.size
    replace hX := (RS.below hX hb).more hb.size
    replace hY := (RS.below hY hb).more hb.size
    replace bx := bx.below hb bx.lt
    clear hb
    go_wp2_with fail
    exact bodyPost_ret (v := .bool true) (by simp [results, Try.results7, go_sem]) rfl ⟨rfl, by first | exact hC | (rw [hn0]; exact hC) | (with_reducible rw [hn0]; exact bel_of) | exact bel_of⟩
  have hyl : ys.length ≤ 40 := by omega
  have zzhyl : ¬ ((ys.length : Nat) : Int) > 40 := by omega
  have zdhyl : decide (40 < ys.length) = false := decide_eq_false zhyl
  clear zhyl
  have lbx := bx.lt
  have bxc0 := bx.cell 0
  have bxc1 := bx.cell 1
  simp at bxc0 bxc1
  go_wp2_with fail
  clear lbx bxc0 bxc1
  refine (Best_any l _ m _ hlk hT).mono ?_
  rintro e w2 ⟨u_xb, rfl, hown, hb⟩
  replace hC : Below n0 w w2 := hC.trans (hb.mono (by have := hC.size; omega))
  replace hT := (RS.below hT hb).more hb.size
  replace hU := (RU.below hU hb).more hb.size
  replace hX := (RS.below hX hb).more hb.size
  replace hY := (RS.below hY hb).more hb.size
  replace bx := bx.below hb bx.lt
  clear hb
  have hxb := OwnI.ri hown
  clear hown
  clear zzhul zdhul zzhxl zdhxl zzhyl zdhyl
  by_cases hft : tgo m l 0 < never
  case neg =>
    have hno := bst_no HBE.out hft
    rw [hno.1]
    rw [hno.2.1] at hxb
    have HPE := Lib.hid hno.2.2.1
    have HPX := Lib.hid hno.2.2.2
    have HNF := Lib.hid hft
    obtain ⟨Ab, cb, rfl⟩ := ri_slice hxb
    simp only [List.length_nil] at hxb ⊢
    clear hno hft
    have lbx := bx.lt
    have bxc0 := bx.cell 0
    have bxc1 := bx.cell 1
    simp at bxc0 bxc1
    go_wp2_with fail
    clear lbx bxc0 bxc1
    refine (Pulls_any l _ m _ hlk hT).mono ?_
    rintro e w3 ⟨u_p, rfl, hown, hb⟩
    replace hC : Below n0 w w3 := hC.trans (hb.mono (by have := hC.size; omega))
    replace hT := (RS.below hT hb).more hb.size
    replace hU := (RU.below hU hb).more hb.size
    replace hX := (RS.below hX hb).more hb.size
    replace hY := (RS.below hY hb).more hb.size
    replace bx := bx.below hb bx.lt
    replace hxb := (RS.below hxb hb).more hb.size
    clear hb
    have hp := OwnI.ri hown
    clear hown
    rw [HPE.out]
    rw [HPX.out] at hp
    obtain ⟨Ap, cp, rfl⟩ := ri_slice hp
    simp only [List.length_nil] at hp ⊢
    have lbx := bx.lt
    have bxc0 := bx.cell 0
    have bxc1 := bx.cell 1
    simp at bxc0 bxc1
    go_wp2_with fail
    clear lbx bxc0 bxc1
    refine (CheckPulls_any l _ m ys _ _ hlk (by omega) hT hY).mono ?_
    rintro e w4 ⟨rfl, hb⟩
    replace hC : Below n0 w w4 := hC.trans (hb.mono (by have := hC.size; omega))
    replace hT := (RS.below hT hb).more hb.size
    replace hU := (RU.below hU hb).more hb.size
    replace hX := (RS.below hX hb).more hb.size
    replace hY := (RS.below hY hb).more hb.size
    replace bx := bx.below hb bx.lt
    replace hxb := (RS.below hxb hb).more hb.size
    replace hp := (RS.below hp hb).more hb.size
    clear hb
    obtain ⟨e1, he1⟩ : ∃ e, chpE l m ys = e := ⟨_, rfl⟩
    obtain ⟨bd, hbd⟩ : ∃ e, chpV l m ys = e := ⟨_, rfl⟩
    rw [he1, hbd]
    have HE1 := Lib.hid (And.intro he1 hbd)
    clear he1 hbd
    have lbx := bx.lt
    have bxc0 := bx.cell 0
    have bxc1 := bx.cell 1
    simp at bxc0 bxc1
    go_wp2_with fail
    clear lbx bxc0 bxc1
    refine (blowsL_any l _ m us _ _ HOK.out.all ⟨hm0, hm1⟩ h20 hul HUB.out hT hU).mono ?_
    rintro e w5 ⟨u_w, rfl, hown, hb⟩
    replace hC : Below n0 w w5 := hC.trans (hb.mono (by have := hC.size; omega))
    replace hT := (RS.below hT hb).more hb.size
    replace hU := (RU.below hU hb).more hb.size
    replace hX := (RS.below hX hb).more hb.size
    replace hY := (RS.below hY hb).more hb.size
    replace bx := bx.below hb bx.lt
    replace hxb := (RS.below hxb hb).more hb.size
    replace hp := (RS.below hp hb).more hb.size
    clear hb
    have hw := OwnI.ri hown
    clear hown
    obtain ⟨W0, hW0⟩ : ∃ W, blwL m l us l.length = W := ⟨_, rfl⟩
    have HWL := Lib.hid (show W0.length ≤ 1000 by rw [← hW0, blwL_length]; omega)
    rw [hW0] at hw
    clear hW0
    obtain ⟨Aw, cw, rfl⟩ := ri_slice hw
    go_upto_region 9 with fail
    obtain ⟨m1, hm1⟩ : ∃ n, w5.heap.size = n := ⟨_, rfl⟩
    try rw [hm1]
    have hqkl : n0 ≤ m1 := by have := hC.size; omega
    have kl : BK (w5.alloc (.cells #[.slice Aw W0.length cw, .slice Ax xs.length cx] 25)) (m1) #[.slice Aw W0.length cw, .slice Ax xs.length cx] 25 := BK.new' _ _ _ (m1) hm1
    have hskl : (w5.alloc (.cells #[.slice Aw W0.length cw, .slice Ax xs.length cx] 25)).heap.size = m1 + 1 := by simp [hm1]
    replace hC : Below n0 w (w5.alloc (.cells #[.slice Aw W0.length cw, .slice Ax xs.length cx] 25)) := Below.alloc hC (by have := hC.size; omega) _
    replace hT := (RS.below hT (w' := (w5.alloc (.cells #[.slice Aw W0.length cw, .slice Ax xs.length cx] 25))) (Below.alloc (Below.refl _ _) (Nat.le_refl _) _)).more (B' := (w5.alloc (.cells #[.slice Aw W0.length cw, .slice Ax xs.length cx] 25)).heap.size) (by simp)
    replace hU := (RU.below hU (w' := (w5.alloc (.cells #[.slice Aw W0.length cw, .slice Ax xs.length cx] 25))) (Below.alloc (Below.refl _ _) (Nat.le_refl _) _)).more (B' := (w5.alloc (.cells #[.slice Aw W0.length cw, .slice Ax xs.length cx] 25)).heap.size) (by simp)
    replace hX := (RS.below hX (w' := (w5.alloc (.cells #[.slice Aw W0.length cw, .slice Ax xs.length cx] 25))) (Below.alloc (Below.refl _ _) (Nat.le_refl _) _)).more (B' := (w5.alloc (.cells #[.slice Aw W0.length cw, .slice Ax xs.length cx] 25)).heap.size) (by simp)
    replace hY := (RS.below hY (w' := (w5.alloc (.cells #[.slice Aw W0.length cw, .slice Ax xs.length cx] 25))) (Below.alloc (Below.refl _ _) (Nat.le_refl _) _)).more (B' := (w5.alloc (.cells #[.slice Aw W0.length cw, .slice Ax xs.length cx] 25)).heap.size) (by simp)
    replace bx := bx.alloc (.cells #[.slice Aw W0.length cw, .slice Ax xs.length cx] 25)
    replace hxb := (RS.below hxb (w' := (w5.alloc (.cells #[.slice Aw W0.length cw, .slice Ax xs.length cx] 25))) (Below.alloc (Below.refl _ _) (Nat.le_refl _) _)).more (B' := (w5.alloc (.cells #[.slice Aw W0.length cw, .slice Ax xs.length cx] 25)).heap.size) (by simp)
    replace hp := (RS.below hp (w' := (w5.alloc (.cells #[.slice Aw W0.length cw, .slice Ax xs.length cx] 25))) (Below.alloc (Below.refl _ _) (Nat.le_refl _) _)).more (B' := (w5.alloc (.cells #[.slice Aw W0.length cw, .slice Ax xs.length cx] 25)).heap.size) (by simp)
    replace hw := (RS.below hw (w' := (w5.alloc (.cells #[.slice Aw W0.length cw, .slice Ax xs.length cx] 25))) (Below.alloc (Below.refl _ _) (Nat.le_refl _) _)).more (B' := (w5.alloc (.cells #[.slice Aw W0.length cw, .slice Ax xs.length cx] 25)).heap.size) (by simp)
    generalize (w5.alloc (.cells #[.slice Aw W0.length cw, .slice Ax xs.length cx] 25)) = Wkl at *
    clear hm1
    clear hskl
    go_wp2_with fail
    go_loopw [17] (fun iv wr => ∃ k : Nat, k ≤ 2 ∧ iv = .int .i64 k ∧ Below Wkl.heap.size Wkl wr) (fun iv _ => 2 - (intOf iv).toNat)
    case atStart => exact ⟨0, by decide, rfl, Below.refl _ _⟩
    case round =>
      obtain ⟨k, hk, rfl, hbr⟩ := hrel
      have HBR := Lib.hid hbr
      replace hC : Below n0 w wr := hC.trans (hbr.mono (by have := hC.size; omega))
      replace hT := (RS.below hT hbr).more hbr.size
      replace hU := (RU.below hU hbr).more hbr.size
      replace hX := (RS.below hX hbr).more hbr.size
      replace hY := (RS.below hY hbr).more hbr.size
      replace bx := bx.below hbr bx.lt
      replace hxb := (RS.below hxb hbr).more hbr.size
      replace hp := (RS.below hp hbr).more hbr.size
      replace hw := (RS.below hw hbr).more hbr.size
      replace kl := kl.below hbr kl.lt
      clear hbr
      by_cases hk2 : k = 2
      case neg =>
        have hk3 : (k : Int) < 2 := by omega
        by_cases hk0 : k = 0
        case pos =>
          obtain rfl : k = 0 := by omega
          clear hk hk2 hk3 hk0
          have lbx := bx.lt
          have bxc0 := bx.cell 0
          have bxc1 := bx.cell 1
          simp at bxc0 bxc1
          have lkl := kl.lt
          have klc0 := kl.cell 0
          have klc1 := kl.cell 1
          simp at klc0 klc1
          go_wp2_with fail
          refine wp_region_noPanic (plain_any [0, 1, 2, 3, 4, 6, 7, 8, 9, 10] (Below wr.heap.size wr) mixed ?_)
          refine any_tk 0 ?_
          have d0z : Below wr.heap.size wr wr.drew := by exact bel_of
          refine any_tk 1 ?_
          refine any_tk 2 ?_
          refine any_tk 3 ?_
          refine any_tk 4 ?_
          have qz1 := d0z.size
          refine any_run1 (i := 5) (by kernel_rfl) (by rfl) (by kernel_rfl) ?_
          intro K hK
          go_wp2_with fail
          refine (checkBlows_any l _ m W0 _ _ hlk HWL.out ((RS.below hT d0z).more d0z.size) ((RS.below hw d0z).more d0z.size) hmI).mono ?_
          rintro e vz1 ⟨rfl, hb⟩
          obtain ⟨e2, he2⟩ : ∃ e, chkE l m W0 = e := ⟨_, rfl⟩
          obtain ⟨v2, hv2⟩ : ∃ e, chkV l m W0 = e := ⟨_, rfl⟩
          rw [he2, hv2]
          have ez1 : Below wr.heap.size wr vz1 := d0z.trans (hb.mono d0z.size)
          clear hb
          refine hK _ _ (fun _ => ez1) ?_
          clear hK K
          refine any_tk 6 ?_
          refine any_tk 7 ?_
          refine any_tk 8 ?_
          refine any_tk 9 ?_
          refine any_tk 10 ?_
          refine any_done (by kernel_rfl) (NoPanic.normal ?_)
          have HBR2 := Lib.hid (HBR.out.trans (ez1.mono HBR.out.size))
          have hb := ez1
          replace hC : Below n0 w vz1 := hC.trans (hb.mono (by have := hC.size; omega))
          replace hT := (RS.below hT hb).more hb.size
          replace hU := (RU.below hU hb).more hb.size
          replace hX := (RS.below hX hb).more hb.size
          replace hY := (RS.below hY hb).more hb.size
          replace bx := bx.below hb bx.lt
          replace hxb := (RS.below hxb hb).more hb.size
          replace hp := (RS.below hp hb).more hb.size
          replace hw := (RS.below hw hb).more hb.size
          replace kl := kl.below hb kl.lt
          clear hb
          clear lbx bxc0 bxc1
          clear lkl klc0 klc1
          have h2 : e2 ≠ 0 := fun h => absurd (chk_ge HOK.out (he2.trans h)).1 (by have := HNF.out; omega)
          have q2 : (e2 == 0) = false := beq_eq_false_iff_ne.2 h2
          clear he2 hv2 h2
          go_wp2_with fail
          go_roundw
          case rel => exact ⟨0 + 1, by decide, by go_num, HBR2.out⟩
          case measure => simp [intOf]
        case neg =>
          obtain rfl : k = 1 := by omega
          clear hk hk2 hk3 hk0
          have lbx := bx.lt
          have bxc0 := bx.cell 0
          have bxc1 := bx.cell 1
          simp at bxc0 bxc1
          have lkl := kl.lt
          have klc0 := kl.cell 0
          have klc1 := kl.cell 1
          simp at klc0 klc1
          go_wp2_with fail
          refine wp_region_noPanic (plain_any [0, 1, 2, 3, 4, 6, 7, 8, 9, 10] (Below wr.heap.size wr) mixed ?_)
          refine any_tk 0 ?_
          have d0z : Below wr.heap.size wr wr.drew := by exact bel_of
          refine any_tk 1 ?_
          refine any_tk 2 ?_
          refine any_tk 3 ?_
          refine any_tk 4 ?_
          have qz1 := d0z.size
          refine any_run1 (i := 5) (by kernel_rfl) (by rfl) (by kernel_rfl) ?_
          intro K hK
          go_wp2_with fail
          refine (checkBlows_any l _ m xs _ _ hlk (by omega) ((RS.below hT d0z).more d0z.size) ((RS.below hX d0z).more d0z.size) hmI).mono ?_
          rintro e vz1 ⟨rfl, hb⟩
          obtain ⟨e2, he2⟩ : ∃ e, chkE l m xs = e := ⟨_, rfl⟩
          obtain ⟨v2, hv2⟩ : ∃ e, chkV l m xs = e := ⟨_, rfl⟩
          rw [he2, hv2]
          have ez1 : Below wr.heap.size wr vz1 := d0z.trans (hb.mono d0z.size)
          clear hb
          refine hK _ _ (fun _ => ez1) ?_
          clear hK K
          refine any_tk 6 ?_
          refine any_tk 7 ?_
          refine any_tk 8 ?_
          refine any_tk 9 ?_
          refine any_tk 10 ?_
          refine any_done (by kernel_rfl) (NoPanic.normal ?_)
          have HBR2 := Lib.hid (HBR.out.trans (ez1.mono HBR.out.size))
          have hb := ez1
          replace hC : Below n0 w vz1 := hC.trans (hb.mono (by have := hC.size; omega))
          replace hT := (RS.below hT hb).more hb.size
          replace hU := (RU.below hU hb).more hb.size
          replace hX := (RS.below hX hb).more hb.size
          replace hY := (RS.below hY hb).more hb.size
          replace bx := bx.below hb bx.lt
          replace hxb := (RS.below hxb hb).more hb.size
          replace hp := (RS.below hp hb).more hb.size
          replace hw := (RS.below hw hb).more hb.size
          replace kl := kl.below hb kl.lt
          clear hb
          clear lbx bxc0 bxc1
          clear lkl klc0 klc1
          have h2 : e2 ≠ 0 := fun h => absurd (chk_ge HOK.out (he2.trans h)).1 (by have := HNF.out; omega)
          have q2 : (e2 == 0) = false := beq_eq_false_iff_ne.2 h2
          clear he2 hv2 h2
          go_wp2_with fail
          go_roundw
          case rel => exact ⟨1 + 1, by decide, by go_num, HBR2.out⟩
          case measure => simp [intOf]
      subst hk2
      clear hk
      go_wp2_with fail
      refine (works_any _).mono ?_
      rintro e w6 ⟨rfl, hb⟩
      replace hC : Below n0 w w6 := hC.trans (hb.mono (by have := hC.size; omega))
      replace hT := (RS.below hT hb).more hb.size
      replace hU := (RU.below hU hb).more hb.size
      replace hX := (RS.below hX hb).more hb.size
      replace hY := (RS.below hY hb).more hb.size
      replace bx := bx.below hb bx.lt
      replace hxb := (RS.below hxb hb).more hb.size
      replace hp := (RS.below hp hb).more hb.size
      replace hw := (RS.below hw hb).more hb.size
      replace kl := kl.below hb kl.lt
      clear hb
      go_wp2_with fail
      exact bodyPost_ret (v := .bool true) (by simp [results, Try.results7, go_sem]) rfl ⟨rfl, by first | exact hC | (rw [hn0]; exact hC) | (with_reducible rw [hn0]; exact bel_of) | exact bel_of⟩
  have hbs := bst_chk HBE.out hft
  have hpl := pls_chp HBE.out hft
  rw [bst_yes HBE.out hft]
  have hbd0 := fun (ps : List Int) h => chp_bst (ps := ps) HBE.out hft h
  have hpe0 := pls_yes HBE.out hft
  obtain ⟨nn, hnn⟩ : ∃ n, tgo m l 0 = n := ⟨_, rfl⟩
  rw [hnn] at hbs hpl hbd0 ⊢
  have HNN := Lib.hid hnn
  have HPE := Lib.hid hpe0
  have HBS := Lib.hid hbs.2.2
  have HPS := Lib.hid hpl.2
  have HBL := Lib.hid (show (bstX l m).length ≤ 1000 by have := Fe.length hbs.2.1; omega)
  have HPL := Lib.hid (show (plsX l m).length ≤ 1000 by rw [hpl.1]; omega)
  have HBD := Lib.hid hbd0
  clear hbs hpl hft hnn hbd0 hpe0
  have lbx := bx.lt
  have bxc0 := bx.cell 0
  have bxc1 := bx.cell 1
  simp at bxc0 bxc1
  go_wp2_with fail
  clear lbx bxc0 bxc1
  refine (Pulls_any l _ m _ hlk hT).mono ?_
  rintro e w3 ⟨u_p, rfl, hown, hb⟩
  replace hC : Below n0 w w3 := hC.trans (hb.mono (by have := hC.size; omega))
  replace hT := (RS.below hT hb).more hb.size
  replace hU := (RU.below hU hb).more hb.size
  replace hX := (RS.below hX hb).more hb.size
  replace hY := (RS.below hY hb).more hb.size
  replace bx := bx.below hb bx.lt
  replace hxb := (RS.below hxb hb).more hb.size
  clear hb
  have hp := OwnI.ri hown
  clear hown
  rw [HPE.out]
  have lbx := bx.lt
  have bxc0 := bx.cell 0
  have bxc1 := bx.cell 1
  simp at bxc0 bxc1
  go_wp2_with fail
  clear lbx bxc0 bxc1
  refine (CheckPulls_any l _ m ys _ _ hlk (by omega) hT hY).mono ?_
  rintro e w4 ⟨rfl, hb⟩
  replace hC : Below n0 w w4 := hC.trans (hb.mono (by have := hC.size; omega))
  replace hT := (RS.below hT hb).more hb.size
  replace hU := (RU.below hU hb).more hb.size
  replace hX := (RS.below hX hb).more hb.size
  replace hY := (RS.below hY hb).more hb.size
  replace bx := bx.below hb bx.lt
  replace hxb := (RS.below hxb hb).more hb.size
  replace hp := (RS.below hp hb).more hb.size
  clear hb
  obtain ⟨e1, he1⟩ : ∃ e, chpE l m ys = e := ⟨_, rfl⟩
  obtain ⟨bd, hbd⟩ : ∃ e, chpV l m ys = e := ⟨_, rfl⟩
  rw [he1, hbd]
  have HE1 := Lib.hid (And.intro he1 hbd)
  clear he1 hbd
  have lbx := bx.lt
  have bxc0 := bx.cell 0
  have bxc1 := bx.cell 1
  simp at bxc0 bxc1
  go_wp2_with fail
  clear lbx bxc0 bxc1
  refine (blowsL_any l _ m us _ _ HOK.out.all ⟨hm0, hm1⟩ h20 hul HUB.out hT hU).mono ?_
  rintro e w5 ⟨u_w, rfl, hown, hb⟩
  replace hC : Below n0 w w5 := hC.trans (hb.mono (by have := hC.size; omega))
  replace hT := (RS.below hT hb).more hb.size
  replace hU := (RU.below hU hb).more hb.size
  replace hX := (RS.below hX hb).more hb.size
  replace hY := (RS.below hY hb).more hb.size
  replace bx := bx.below hb bx.lt
  replace hxb := (RS.below hxb hb).more hb.size
  replace hp := (RS.below hp hb).more hb.size
  clear hb
  have hw := OwnI.ri hown
  clear hown
  obtain ⟨W0, hW0⟩ : ∃ W, blwL m l us l.length = W := ⟨_, rfl⟩
  have HWL := Lib.hid (show W0.length ≤ 1000 by rw [← hW0, blwL_length]; omega)
  rw [hW0] at hw
  clear hW0
  obtain ⟨Aw, cw, rfl⟩ := ri_slice hw
  go_upto_region 9 with fail
  obtain ⟨m2, hm2⟩ : ∃ n, w5.heap.size = n := ⟨_, rfl⟩
  try rw [hm2]
  have hqkl : n0 ≤ m2 := by have := hC.size; omega
  have kl : BK (w5.alloc (.cells #[.slice Aw W0.length cw, .slice Ax xs.length cx] 25)) (m2) #[.slice Aw W0.length cw, .slice Ax xs.length cx] 25 := BK.new' _ _ _ (m2) hm2
  have hskl : (w5.alloc (.cells #[.slice Aw W0.length cw, .slice Ax xs.length cx] 25)).heap.size = m2 + 1 := by simp [hm2]
  replace hC : Below n0 w (w5.alloc (.cells #[.slice Aw W0.length cw, .slice Ax xs.length cx] 25)) := Below.alloc hC (by have := hC.size; omega) _
  replace hT := (RS.below hT (w' := (w5.alloc (.cells #[.slice Aw W0.length cw, .slice Ax xs.length cx] 25))) (Below.alloc (Below.refl _ _) (Nat.le_refl _) _)).more (B' := (w5.alloc (.cells #[.slice Aw W0.length cw, .slice Ax xs.length cx] 25)).heap.size) (by simp)
  replace hU := (RU.below hU (w' := (w5.alloc (.cells #[.slice Aw W0.length cw, .slice Ax xs.length cx] 25))) (Below.alloc (Below.refl _ _) (Nat.le_refl _) _)).more (B' := (w5.alloc (.cells #[.slice Aw W0.length cw, .slice Ax xs.length cx] 25)).heap.size) (by simp)
  replace hX := (RS.below hX (w' := (w5.alloc (.cells #[.slice Aw W0.length cw, .slice Ax xs.length cx] 25))) (Below.alloc (Below.refl _ _) (Nat.le_refl _) _)).more (B' := (w5.alloc (.cells #[.slice Aw W0.length cw, .slice Ax xs.length cx] 25)).heap.size) (by simp)
  replace hY := (RS.below hY (w' := (w5.alloc (.cells #[.slice Aw W0.length cw, .slice Ax xs.length cx] 25))) (Below.alloc (Below.refl _ _) (Nat.le_refl _) _)).more (B' := (w5.alloc (.cells #[.slice Aw W0.length cw, .slice Ax xs.length cx] 25)).heap.size) (by simp)
  replace bx := bx.alloc (.cells #[.slice Aw W0.length cw, .slice Ax xs.length cx] 25)
  replace hxb := (RS.below hxb (w' := (w5.alloc (.cells #[.slice Aw W0.length cw, .slice Ax xs.length cx] 25))) (Below.alloc (Below.refl _ _) (Nat.le_refl _) _)).more (B' := (w5.alloc (.cells #[.slice Aw W0.length cw, .slice Ax xs.length cx] 25)).heap.size) (by simp)
  replace hp := (RS.below hp (w' := (w5.alloc (.cells #[.slice Aw W0.length cw, .slice Ax xs.length cx] 25))) (Below.alloc (Below.refl _ _) (Nat.le_refl _) _)).more (B' := (w5.alloc (.cells #[.slice Aw W0.length cw, .slice Ax xs.length cx] 25)).heap.size) (by simp)
  replace hw := (RS.below hw (w' := (w5.alloc (.cells #[.slice Aw W0.length cw, .slice Ax xs.length cx] 25))) (Below.alloc (Below.refl _ _) (Nat.le_refl _) _)).more (B' := (w5.alloc (.cells #[.slice Aw W0.length cw, .slice Ax xs.length cx] 25)).heap.size) (by simp)
  generalize (w5.alloc (.cells #[.slice Aw W0.length cw, .slice Ax xs.length cx] 25)) = Wkl at *
  clear hm2
  clear hskl
  go_wp2_with fail
  go_loopw [17] (fun iv wr => ∃ k : Nat, k ≤ 2 ∧ iv = .int .i64 k ∧ Below Wkl.heap.size Wkl wr) (fun iv _ => 2 - (intOf iv).toNat)
  case atStart => exact ⟨0, by decide, rfl, Below.refl _ _⟩
  case round =>
    obtain ⟨k, hk, rfl, hbr⟩ := hrel
    have HBR := Lib.hid hbr
    replace hC : Below n0 w wr := hC.trans (hbr.mono (by have := hC.size; omega))
    replace hT := (RS.below hT hbr).more hbr.size
    replace hU := (RU.below hU hbr).more hbr.size
    replace hX := (RS.below hX hbr).more hbr.size
    replace hY := (RS.below hY hbr).more hbr.size
    replace bx := bx.below hbr bx.lt
    replace hxb := (RS.below hxb hbr).more hbr.size
    replace hp := (RS.below hp hbr).more hbr.size
    replace hw := (RS.below hw hbr).more hbr.size
    replace kl := kl.below hbr kl.lt
    clear hbr
    by_cases hk2 : k = 2
    case neg =>
      have hk3 : (k : Int) < 2 := by omega
      by_cases hk0 : k = 0
      case pos =>
        obtain rfl : k = 0 := by omega
        clear hk hk2 hk3 hk0
        have lbx := bx.lt
        have bxc0 := bx.cell 0
        have bxc1 := bx.cell 1
        simp at bxc0 bxc1
        have lkl := kl.lt
        have klc0 := kl.cell 0
        have klc1 := kl.cell 1
        simp at klc0 klc1
        go_wp2_with fail
        refine wp_region_noPanic (plain_any [0, 1, 2, 3, 4, 6, 7, 8, 9, 10] (Below wr.heap.size wr) mixed ?_)
        refine any_tk 0 ?_
        have d0z : Below wr.heap.size wr wr.drew := by exact bel_of
        refine any_tk 1 ?_
        refine any_tk 2 ?_
        refine any_tk 3 ?_
        refine any_tk 4 ?_
        have qz1 := d0z.size
        refine any_run1 (i := 5) (by kernel_rfl) (by rfl) (by kernel_rfl) ?_
        intro K hK
        go_wp2_with fail
        refine (checkBlows_any l _ m W0 _ _ hlk HWL.out ((RS.below hT d0z).more d0z.size) ((RS.below hw d0z).more d0z.size) hmI).mono ?_
        rintro e vz1 ⟨rfl, hb⟩
        obtain ⟨e2, he2⟩ : ∃ e, chkE l m W0 = e := ⟨_, rfl⟩
        obtain ⟨v2, hv2⟩ : ∃ e, chkV l m W0 = e := ⟨_, rfl⟩
        rw [he2, hv2]
        have ez1 : Below wr.heap.size wr vz1 := d0z.trans (hb.mono d0z.size)
        clear hb
        refine hK _ _ (fun _ => ez1) ?_
        clear hK K
        refine any_tk 6 ?_
        refine any_tk 7 ?_
        refine any_tk 8 ?_
        refine any_tk 9 ?_
        refine any_tk 10 ?_
        refine any_done (by kernel_rfl) (NoPanic.normal ?_)
        have HBR2 := Lib.hid (HBR.out.trans (ez1.mono HBR.out.size))
        have hb := ez1
        replace hC : Below n0 w vz1 := hC.trans (hb.mono (by have := hC.size; omega))
        replace hT := (RS.below hT hb).more hb.size
        replace hU := (RU.below hU hb).more hb.size
        replace hX := (RS.below hX hb).more hb.size
        replace hY := (RS.below hY hb).more hb.size
        replace bx := bx.below hb bx.lt
        replace hxb := (RS.below hxb hb).more hb.size
        replace hp := (RS.below hp hb).more hb.size
        replace hw := (RS.below hw hb).more hb.size
        replace kl := kl.below hb kl.lt
        clear hb
        clear lbx bxc0 bxc1
        clear lkl klc0 klc1
        by_cases h2 : e2 = 0
        case neg =>
          have q2 : (e2 == 0) = false := beq_eq_false_iff_ne.2 h2
          clear he2 hv2 h2
          go_wp2_with fail
          go_roundw
          case rel => exact ⟨0 + 1, by decide, by go_num, HBR2.out⟩
          case measure => simp [intOf]
        subst h2
        have g1 := chk_ge HOK.out he2
        have g2 := fun h => chp_le (ps := ys) HOK.out he2 (HE1.out.1.trans h)
        rw [hv2] at g1 g2
        rw [HE1.out.2] at g2
        rw [HNN.out] at g1
        have dn : decide (v2 < nn) = false := decide_eq_false (by omega)
        by_cases h3 : e1 = 0
        case pos =>
          have db : decide (v2 < bd) = false := decide_eq_false (by have := g2 h3; omega)
          have q3 : (e1 == 0) = true := beq_iff_eq.2 h3
          clear he2 hv2 g1 g2 h3
          go_wp2_with fail
          go_roundw
          case rel => exact ⟨0 + 1, by decide, by go_num, HBR2.out⟩
          case measure => simp [intOf]
        have q3 : (e1 == 0) = false := beq_eq_false_iff_ne.2 h3
        clear he2 hv2 g1 g2 h3
        go_wp2_with fail
        go_roundw
        case rel => exact ⟨0 + 1, by decide, by go_num, HBR2.out⟩
        case measure => simp [intOf]
      case neg =>
        obtain rfl : k = 1 := by omega
        clear hk hk2 hk3 hk0
        have lbx := bx.lt
        have bxc0 := bx.cell 0
        have bxc1 := bx.cell 1
        simp at bxc0 bxc1
        have lkl := kl.lt
        have klc0 := kl.cell 0
        have klc1 := kl.cell 1
        simp at klc0 klc1
        go_wp2_with fail
        refine wp_region_noPanic (plain_any [0, 1, 2, 3, 4, 6, 7, 8, 9, 10] (Below wr.heap.size wr) mixed ?_)
        refine any_tk 0 ?_
        have d0z : Below wr.heap.size wr wr.drew := by exact bel_of
        refine any_tk 1 ?_
        refine any_tk 2 ?_
        refine any_tk 3 ?_
        refine any_tk 4 ?_
        have qz1 := d0z.size
        refine any_run1 (i := 5) (by kernel_rfl) (by rfl) (by kernel_rfl) ?_
        intro K hK
        go_wp2_with fail
        refine (checkBlows_any l _ m xs _ _ hlk (by omega) ((RS.below hT d0z).more d0z.size) ((RS.below hX d0z).more d0z.size) hmI).mono ?_
        rintro e vz1 ⟨rfl, hb⟩
        obtain ⟨e2, he2⟩ : ∃ e, chkE l m xs = e := ⟨_, rfl⟩
        obtain ⟨v2, hv2⟩ : ∃ e, chkV l m xs = e := ⟨_, rfl⟩
        rw [he2, hv2]
        have ez1 : Below wr.heap.size wr vz1 := d0z.trans (hb.mono d0z.size)
        clear hb
        refine hK _ _ (fun _ => ez1) ?_
        clear hK K
        refine any_tk 6 ?_
        refine any_tk 7 ?_
        refine any_tk 8 ?_
        refine any_tk 9 ?_
        refine any_tk 10 ?_
        refine any_done (by kernel_rfl) (NoPanic.normal ?_)
        have HBR2 := Lib.hid (HBR.out.trans (ez1.mono HBR.out.size))
        have hb := ez1
        replace hC : Below n0 w vz1 := hC.trans (hb.mono (by have := hC.size; omega))
        replace hT := (RS.below hT hb).more hb.size
        replace hU := (RU.below hU hb).more hb.size
        replace hX := (RS.below hX hb).more hb.size
        replace hY := (RS.below hY hb).more hb.size
        replace bx := bx.below hb bx.lt
        replace hxb := (RS.below hxb hb).more hb.size
        replace hp := (RS.below hp hb).more hb.size
        replace hw := (RS.below hw hb).more hb.size
        replace kl := kl.below hb kl.lt
        clear hb
        clear lbx bxc0 bxc1
        clear lkl klc0 klc1
        by_cases h2 : e2 = 0
        case neg =>
          have q2 : (e2 == 0) = false := beq_eq_false_iff_ne.2 h2
          clear he2 hv2 h2
          go_wp2_with fail
          go_roundw
          case rel => exact ⟨1 + 1, by decide, by go_num, HBR2.out⟩
          case measure => simp [intOf]
        subst h2
        have g1 := chk_ge HOK.out he2
        have g2 := fun h => chp_le (ps := ys) HOK.out he2 (HE1.out.1.trans h)
        rw [hv2] at g1 g2
        rw [HE1.out.2] at g2
        rw [HNN.out] at g1
        have dn : decide (v2 < nn) = false := decide_eq_false (by omega)
        by_cases h3 : e1 = 0
        case pos =>
          have db : decide (v2 < bd) = false := decide_eq_false (by have := g2 h3; omega)
          have q3 : (e1 == 0) = true := beq_iff_eq.2 h3
          clear he2 hv2 g1 g2 h3
          go_wp2_with fail
          go_roundw
          case rel => exact ⟨1 + 1, by decide, by go_num, HBR2.out⟩
          case measure => simp [intOf]
        have q3 : (e1 == 0) = false := beq_eq_false_iff_ne.2 h3
        clear he2 hv2 g1 g2 h3
        go_wp2_with fail
        go_roundw
        case rel => exact ⟨1 + 1, by decide, by go_num, HBR2.out⟩
        case measure => simp [intOf]
    subst hk2
    clear hk
    have lbx := bx.lt
    have bxc0 := bx.cell 0
    have bxc1 := bx.cell 1
    simp at bxc0 bxc1
    go_wp2_with fail
    clear lbx bxc0 bxc1
    refine (checkBlows_any l _ m (bstX l m) _ _ hlk HBL.out hT hxb hmI).mono ?_
    rintro e w6 ⟨rfl, hb⟩
    replace hC : Below n0 w w6 := hC.trans (hb.mono (by have := hC.size; omega))
    replace hT := (RS.below hT hb).more hb.size
    replace hU := (RU.below hU hb).more hb.size
    replace hX := (RS.below hX hb).more hb.size
    replace hY := (RS.below hY hb).more hb.size
    replace bx := bx.below hb bx.lt
    replace hxb := (RS.below hxb hb).more hb.size
    replace hp := (RS.below hp hb).more hb.size
    replace hw := (RS.below hw hb).more hb.size
    replace kl := kl.below hb kl.lt
    clear hb
    rw [HBS.out.1, HBS.out.2]
    have lbx := bx.lt
    have bxc0 := bx.cell 0
    have bxc1 := bx.cell 1
    simp at bxc0 bxc1
    go_wp2_with fail
    clear lbx bxc0 bxc1
    refine (checkBlowsR_any l _ m (bstX l m) _ _ hlk HBL.out hT hxb hmI).mono ?_
    rintro e w7 ⟨rfl, hb⟩
    replace hC : Below n0 w w7 := hC.trans (hb.mono (by have := hC.size; omega))
    replace hT := (RS.below hT hb).more hb.size
    replace hU := (RU.below hU hb).more hb.size
    replace hX := (RS.below hX hb).more hb.size
    replace hY := (RS.below hY hb).more hb.size
    replace bx := bx.below hb bx.lt
    replace hxb := (RS.below hxb hb).more hb.size
    replace hp := (RS.below hp hb).more hb.size
    replace hw := (RS.below hw hb).more hb.size
    replace kl := kl.below hb kl.lt
    clear hb
    rw [HBS.out.1, HBS.out.2]
    have lbx := bx.lt
    have bxc0 := bx.cell 0
    have bxc1 := bx.cell 1
    simp at bxc0 bxc1
    go_wp2_with fail
    clear lbx bxc0 bxc1
    refine (CheckPulls_any l _ m (plsX l m) _ _ hlk HPL.out hT hp).mono ?_
    rintro e w8 ⟨rfl, hb⟩
    replace hC : Below n0 w w8 := hC.trans (hb.mono (by have := hC.size; omega))
    replace hT := (RS.below hT hb).more hb.size
    replace hU := (RU.below hU hb).more hb.size
    replace hX := (RS.below hX hb).more hb.size
    replace hY := (RS.below hY hb).more hb.size
    replace bx := bx.below hb bx.lt
    replace hxb := (RS.below hxb hb).more hb.size
    replace hp := (RS.below hp hb).more hb.size
    replace hw := (RS.below hw hb).more hb.size
    replace kl := kl.below hb kl.lt
    clear hb
    rw [HPS.out.1, HPS.out.2]
    have lbx := bx.lt
    have bxc0 := bx.cell 0
    have bxc1 := bx.cell 1
    simp at bxc0 bxc1
    go_wp2_with fail
    clear lbx bxc0 bxc1
    refine (checkPullsR_any l _ m (plsX l m) _ _ hlk HPL.out hT hp).mono ?_
    rintro e w9 ⟨rfl, hb⟩
    replace hC : Below n0 w w9 := hC.trans (hb.mono (by have := hC.size; omega))
    replace hT := (RS.below hT hb).more hb.size
    replace hU := (RU.below hU hb).more hb.size
    replace hX := (RS.below hX hb).more hb.size
    replace hY := (RS.below hY hb).more hb.size
    replace bx := bx.below hb bx.lt
    replace hxb := (RS.below hxb hb).more hb.size
    replace hp := (RS.below hp hb).more hb.size
    replace hw := (RS.below hw hb).more hb.size
    replace kl := kl.below hb kl.lt
    clear hb
    rw [HPS.out.1, HPS.out.2]
    have hbl := fun h => HBD.out ys (HE1.out.1.trans h)
    rw [HE1.out.2] at hbl
    have qn : (nn == nn) = true := beq_self_eq_true nn
    by_cases h3 : e1 = 0
    case neg =>
      have q3 : (e1 != 0) = true := bne_iff_ne.2 h3
      clear h3 hbl
      go_wp2_with fail
      refine (works_any _).mono ?_
      rintro e w10 ⟨rfl, hb⟩
      replace hC : Below n0 w w10 := hC.trans (hb.mono (by have := hC.size; omega))
      replace hT := (RS.below hT hb).more hb.size
      replace hU := (RU.below hU hb).more hb.size
      replace hX := (RS.below hX hb).more hb.size
      replace hY := (RS.below hY hb).more hb.size
      replace bx := bx.below hb bx.lt
      replace hxb := (RS.below hxb hb).more hb.size
      replace hp := (RS.below hp hb).more hb.size
      replace hw := (RS.below hw hb).more hb.size
      replace kl := kl.below hb kl.lt
      clear hb
      go_wp2_with fail
      exact bodyPost_ret (v := .bool true) (by simp [results, Try.results7, go_sem]) rfl ⟨rfl, by first | exact hC | (rw [hn0]; exact hC) | (with_reducible rw [hn0]; exact bel_of) | exact bel_of⟩
    have q3 : (e1 != 0) = false := by rw [h3]; rfl
    have q4 : decide (bd ≤ nn) = true := decide_eq_true (hbl h3)
    have q5 : bd ≤ nn := hbl h3
    clear h3 hbl
    go_wp2_with fail
    refine (works_any _).mono ?_
    rintro e w10 ⟨rfl, hb⟩
    replace hC : Below n0 w w10 := hC.trans (hb.mono (by have := hC.size; omega))
    replace hT := (RS.below hT hb).more hb.size
    replace hU := (RU.below hU hb).more hb.size
    replace hX := (RS.below hX hb).more hb.size
    replace hY := (RS.below hY hb).more hb.size
    replace bx := bx.below hb bx.lt
    replace hxb := (RS.below hxb hb).more hb.size
    replace hp := (RS.below hp hb).more hb.size
    replace hw := (RS.below hw hb).more hb.size
    replace kl := kl.below hb kl.lt
    clear hb
    go_wp2_with fail
    exact bodyPost_ret (v := .bool true) (by simp [results, Try.results7, go_sem]) rfl ⟨rfl, by first | exact hC | (rw [hn0]; exact hC) | (with_reducible rw [hn0]; exact bel_of) | exact bel_of⟩
end Go.Proofs.Ytgbegdjakadbbaa

namespace Go.Proofs.Ytgbegdjakadbbaa.warpProved
open Go.ChangeShapes Go.WideShapes Go.ChangeAt Go.RowKit Go.Deep

set_option maxRecDepth 100000 in
theorem lifted (os : Os) (started : os.Started) (H : Type) (enc : TypeId × Value → H) :
    ReturnsInHanded {} Try.checked os 7 .any (Rows.warpProvedSpec.pre6 enc Try.prog Try.f7 Rows.warpProvedRow.domain false) (Rows.warpProvedSpec.post enc Try.prog Try.f7 false true false false) := by
  refine returnsInHanded_of_change (C := Try.checked) own started (by kernel_rfl) Try.func7
    (ChangeSpec.witness6 (enc := enc) (C := Try.checked) false ⟨#[], #[.agg #[.slice none 0 0, .int .i64 0], .slice none 0 0, .slice none 0 0, .slice none 0 0], []⟩ 8 (by kernel_rfl) (by kernel_rfl) (by kernel_rfl) (by kernel_rfl)) ?_
  intro W base args ds gs before hval0 hW hcnd _
  have hval : ∀ (j : Nat) t v, Try.f7.params[j]? = some t → args[j]? = some v → Value.okWide Try.prog W .any base t v := hval0
  have hW2 : DataW.Whole enc Try.prog Try.f7.params.toList Rows.warpProvedSpec.vars false W args.toList ds gs before := hW
  obtain ⟨p, q, hA0, hV, rfl, hfz, hnd⟩ := hW
  have hA : DataW.TrodAll enc Try.prog W 0 (fun _ => true) true Try.f7.params.toList args.toList ds p := hA0
  rw [Try.params7] at hA hval
  obtain ⟨v0, vs0, d0, ds0, p0, q0, hargs, rfl, rfl, h0, r0⟩ := trodAll_cons hA
  obtain ⟨v1, vs1, d1, ds1, p1, q1, rfl, rfl, rfl, h1, r1⟩ := trodAll_cons r0
  obtain ⟨v2, vs2, d2, ds2, p2, q2, rfl, rfl, rfl, h2, r2⟩ := trodAll_cons r1
  obtain ⟨v3, vs3, d3, ds3, p3, q3, rfl, rfl, rfl, h3, r3⟩ := trodAll_cons r2
  obtain ⟨rfl, rfl, rfl⟩ := trodAll_nil r3
  obtain rfl : args = #[v0, v1, v2, v3] := by cases args; simp_all
  obtain ⟨rfl, rfl⟩ := trodVars_none hV
  obtain ⟨vs0_, l0, m0, rfl, g0, k0, j0⟩ := open_blade (hval 0 24 v0 rfl rfl) h0
  obtain ⟨l1, g1, k1, j1⟩ := open_u8s (hval 1 48 v1 rfl rfl) h1
  obtain ⟨l2, g2, k2⟩ := open_i64s (hval 2 25 v2 rfl rfl) h2
  obtain ⟨l3, g3, k3⟩ := open_i64s (hval 3 25 v3 rfl rfl) h3
  refine (warpProved_any (l := l0) (m := m0) (vs := vs0_) (hT := g0) (hlM := k0) (hmI := j0) (us := l1) (vu := v1) (hU := g1) (hu := k1) (huM := j1) (xs := l2) (vx := v2) (hX := g2) (hxM := k2) (ys := l3) (vy := v3) (hY := g3) (hyM := k3) (w := W)).mono fun e W' ⟨he, hg⟩ => ?_
  subst he
  exact ⟨_, rfl, law_done hW2 rfl rfl rfl (by rw [Try.params7]; decide +kernel) hg⟩

theorem over : Rows.warpProvedRow.holds Try.pinned (OpenSpec.ofChange Rows.warpProvedSpec) :=
  OpenClaim.holds_of_wide 7 Try.f7 rfl rfl rfl rfl rfl rfl rfl ⟨rfl, rfl, rfl, rfl, rfl⟩ rfl rfl rfl rfl rfl (by kernel_rfl) Try.func7 (by kernel_rfl)
    (of_decide_eq_true (by kernel_rfl)) (by unfold Func.isWrapper; first | (rw [if_pos (by decide +kernel)]; kernel_rfl) | (rw [if_neg (by decide +kernel)]; exact ⟨rfl, rfl⟩))
    (fun os started H enc _ => lifted os started H enc)

theorem proved : Rows.WarpProvedSaid :=
  over
end Go.Proofs.Ytgbegdjakadbbaa.warpProved
namespace Go.Proofs.Ytgbegdjakadbbaa
theorem warpProved_proved : Rows.WarpProvedSaid := warpProved.proved
#print axioms warpProved_proved
end Go.Proofs.Ytgbegdjakadbbaa
