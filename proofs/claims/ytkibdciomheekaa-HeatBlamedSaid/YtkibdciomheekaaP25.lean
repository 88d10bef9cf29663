/- What to ask for next. Plain: the bars and the ways that can have made it, read off the makers. -/
import Derived.Test.YtkibdciomheekaaP24
import Derived.Test.YtkibdciomheekaaP21
set_option linter.all false
set_option linter.unnecessarySimpa false
set_option linter.unusedSimpArgs false
set_option linter.unusedVariables false
set_option linter.unusedSectionVars false

set_option linter.all false
namespace Go.Proofs.Ytkibdciomheekaa
open Go.RowKit Hp

/-- At worst, among the first k numbers: how many have that at the place a. -/
def wrs (L : List (List Int)) (a : Int) : Nat → Int
  | 0 => 0
  | k + 1 => max (wrs L a k) (hits L a (k : Int))
theorem hits_le2 (L : List (List Int)) (a c : Int) : 0 ≤ hits L a c ∧ hits L a c ≤ (L.length : Int) := by
  unfold hits
  have := List.length_filter_le (fun r => decide (-1 ≤ a ∧ a + 1 < r.length ∧ nthI r (a + 1).toNat = c)) L
  omega
theorem wrs_le (L : List (List Int)) (a : Int) : ∀ k, 0 ≤ wrs L a k ∧ wrs L a k ≤ (L.length : Int)
  | 0 => by unfold wrs; omega
  | k + 1 => by
    have h1 := wrs_le L a k
    have h2 := hits_le2 L a (k : Int)
    unfold wrs
    omega
/-- The first n questions. -/
def qsL (L : List (List Int)) (n : Nat) : List Rg := (List.range n).map fun (j : Nat) => ⟨(j : Int) - 1, wrs L ((j : Int) - 1) 6⟩
theorem qsL_succ (L : List (List Int)) (n : Nat) : qsL L (n + 1) = qsL L n ++ [⟨(n : Int) - 1, wrs L ((n : Int) - 1) 6⟩] := by
  unfold qsL
  rw [List.range_succ, List.map_append]
  rfl
theorem qsL_len (L : List (List Int)) (n : Nat) : (qsL L n).length = n := by simp [qsL]
/-- What is asked for, and how many are left then. -/
def askQ (bars : List Rg) (ss : List Stp) (m : Rg) : Rg := if barsE bars ss m = 0 then lsQ (qsL (mkL bars m ss) (ss.length + 1)) ss.length else ⟨0, 0⟩
def AskPost (bars : List Rg) (ss : List Stp) (m : Rg) (w : World) (e : Ending) (w' : World) : Prop :=
  e = .returned (.tuple #[.int .i64 (askQ bars ss m).lo, .int .i64 (askQ bars ss m).hi, .int .i64 (barsE bars ss m)]) ∧ Below w.heap.size w w'
theorem AskPost.no {bars : List Rg} {ss : List Stp} {m : Rg} {w w' : World} {e : Int} (h : measE bars ss m = e) (h0 : e ≠ 0) (hb : Below w.heap.size w w') : AskPost bars ss m w (.returned (.tuple #[.int .i64 0, .int .i64 0, .int .i64 e])) w' := by
  have h1 : barsE bars ss m = e := by unfold barsE; rw [h, if_pos h0]
  exact ⟨by unfold askQ; rw [h1, if_neg h0], hb⟩
theorem AskPost.soft {bars : List Rg} {ss : List Stp} {m : Rg} {w w' : World} (h : measE bars ss m = 0) (h0 : someV bars m ss (-1) = []) (hb : Below w.heap.size w w') : AskPost bars ss m w (.returned (.tuple #[.int .i64 0, .int .i64 0, .int .i64 17])) w' := by
  have h1 : barsE bars ss m = 17 := by unfold barsE; rw [h, if_neg (by simp), if_pos h0]
  exact ⟨by unfold askQ; rw [h1, if_neg (by decide)], hb⟩
theorem AskPost.yes {bars : List Rg} {ss : List Stp} {m q : Rg} {w w' : World} (h : measE bars ss m = 0) (h0 : someV bars m ss (-1) ≠ []) (hq : lsQ (qsL (mkL bars m ss) (ss.length + 1)) ss.length = q) (hb : Below w.heap.size w w') : AskPost bars ss m w (.returned (.tuple #[.int .i64 q.lo, .int .i64 q.hi, .int .i64 0])) w' := by
  have h1 : barsE bars ss m = 0 := by unfold barsE; rw [h, if_neg (by simp), if_neg h0]
  exact ⟨by unfold askQ; rw [h1, if_pos rfl, hq], hb⟩
theorem q_info : (Try.prog.info? 120).map (fun i => (i.zero, i.size, i.bytes)) = some (some (.agg #[.int .i64 0, .int .i64 0]), 2, 16) := by kernel_rfl
theorem q_slice : Try.prog.underlying 116 = some (.slice 120) := by kernel_rfl
/-- A list of questions that grows. -/
def OwnQ (W : World) (base : Nat) (v : Value) (l : List Rg) : Prop := W.ownsRow base 120 2 v l.length (ofG encR l)
theorem OwnQ.nil (W : World) (base : Nat) : OwnQ W base (.slice none 0 0) [] := ⟨by simp [ofG], .inl ⟨rfl, rfl⟩⟩
theorem OwnQ.below {W W' : World} {base : Nat} {v : Value} {l : List Rg} (h : OwnQ W base v l) (hb : Below W.heap.size W W') : OwnQ W' base v l := own_below h hb
theorem OwnQ.ri {W : World} {base : Nat} {v : Value} {l : List Rg} (h : OwnQ W base v l) : RR W W.heap.size v l := RS.of_own h
theorem app_q {base : Nat} {w0 w1 : World} {l : List Rg} {v : Value} (hown : OwnQ w1 base v l) (x : Rg) (hn : l.length ≤ 100000) (hbase : base ≤ w1.heap.size) (hbw : Below base w0 w1) (B : Nat) (hB : w1.heap.size = B) :
    ∃ v' w2, (Builtin.append_ #[116, 116] 116 #[v, .slice (some ⟨B, 0, none⟩) 1 1]).run Try.prog (w1.alloc (.cells #[.int .i64 x.lo, .int .i64 x.hi] 120)) = .ok v' w2 ∧
      OwnQ w2 base v' (l ++ [x]) ∧ Below base w0 w2 ∧ w1.heap.size ≤ w2.heap.size := by
  obtain ⟨g', cap', w2, h1, h2, h3, h4, h5⟩ := app_t q_info q_slice rfl (by decide) (by decide) hown (news := encR x) rfl (by intro u hu; simp [encR] at hu; rcases hu with rfl | rfl <;> rfl) hn hbase hbw 116 120 B hB
  exact ⟨_, w2, h1, by rw [ofG_app] at h2; unfold OwnQ; simpa using h2, h3, h4⟩

set_option maxHeartbeats 8000000 in
set_option maxRecDepth 100000 in
theorem askF_any (bars : List Rg) (ss : List Stp) (m : Rg) (vb vs : Value) (w : World) (hf : Fit bars ss) (hB : RR w w.heap.size vb bars) (hS : RP w w.heap.size vs ss) :
    Calls Try.prog 41 #[.agg #[vb, vs], rV m] w (AskPost bars ss m w) := by
  have HF := Lib.hid hf
  clear hf
  obtain ⟨Ab, cb, rfl⟩ := hB.slice
  obtain ⟨As, cs, rfl⟩ := hS.slice
  obtain ⟨mlo, mhi⟩ := m
  unfold rV
  obtain ⟨n0, hn0⟩ : ∃ n, w.heap.size = n := ⟨_, rfl⟩
  have hC : Below n0 w w := Below.refl _ _
  go_enter Try.func41, Try.ntmps41
  go_upto_region 1 with fail
  have hqbx : n0 ≤ n0 := by have := hC.size; omega
  have bx : BK (w.alloc (.cells #[.slice Ab bars.length cb, .slice As ss.length cs] 25)) (n0) #[.slice Ab bars.length cb, .slice As ss.length cs] 25 := BK.new' _ _ _ (n0) hn0
  have hsbx : (w.alloc (.cells #[.slice Ab bars.length cb, .slice As ss.length cs] 25)).heap.size = n0 + 1 := by simp [hn0]
  replace hC : Below n0 w (w.alloc (.cells #[.slice Ab bars.length cb, .slice As ss.length cs] 25)) := Below.alloc hC (by have := hC.size; omega) _
  replace hB := (RS.below hB (w' := (w.alloc (.cells #[.slice Ab bars.length cb, .slice As ss.length cs] 25))) (Below.alloc (Below.refl _ _) (Nat.le_refl _) _)).more (B' := (w.alloc (.cells #[.slice Ab bars.length cb, .slice As ss.length cs] 25)).heap.size) (by simp)
  replace hS := (RP.below hS (w' := (w.alloc (.cells #[.slice Ab bars.length cb, .slice As ss.length cs] 25))) (Below.alloc (Below.refl _ _) (Nat.le_refl _) _)).more (B' := (w.alloc (.cells #[.slice Ab bars.length cb, .slice As ss.length cs] 25)).heap.size) (by simp)
  generalize (w.alloc (.cells #[.slice Ab bars.length cb, .slice As ss.length cs] 25)) = Wbx at *
  have hqmx : n0 ≤ n0 + 1 := by have := hC.size; omega
  have mx : BK (Wbx.alloc (.cells #[.int .i64 mlo, .int .i64 mhi] 33)) (n0 + 1) #[.int .i64 mlo, .int .i64 mhi] 33 := BK.new' _ _ _ (n0 + 1) hsbx
  have hsmx : (Wbx.alloc (.cells #[.int .i64 mlo, .int .i64 mhi] 33)).heap.size = n0 + 1 + 1 := by simp [hsbx]
  replace hC : Below n0 w (Wbx.alloc (.cells #[.int .i64 mlo, .int .i64 mhi] 33)) := Below.alloc hC (by have := hC.size; omega) _
  replace hB := (RS.below hB (w' := (Wbx.alloc (.cells #[.int .i64 mlo, .int .i64 mhi] 33))) (Below.alloc (Below.refl _ _) (Nat.le_refl _) _)).more (B' := (Wbx.alloc (.cells #[.int .i64 mlo, .int .i64 mhi] 33)).heap.size) (by simp)
  replace hS := (RP.below hS (w' := (Wbx.alloc (.cells #[.int .i64 mlo, .int .i64 mhi] 33))) (Below.alloc (Below.refl _ _) (Nat.le_refl _) _)).more (B' := (Wbx.alloc (.cells #[.int .i64 mlo, .int .i64 mhi] 33)).heap.size) (by simp)
  replace bx := bx.alloc (.cells #[.int .i64 mlo, .int .i64 mhi] 33)
  generalize (Wbx.alloc (.cells #[.int .i64 mlo, .int .i64 mhi] 33)) = Wmx at *
  clear hsbx
  have lbx := bx.lt
  have bxc0 := bx.cell 0
  have bxc1 := bx.cell 1
  simp at bxc0 bxc1
  have lmx := mx.lt
  have mxc0 := mx.cell 0
  have mxc1 := mx.cell 1
  simp at mxc0 mxc1
  go_wp2_with fail
  clear lbx bxc0 bxc1
  clear lmx mxc0 mxc1
  clear hsmx
  refine (madeT_any bars ss ⟨mlo, mhi⟩ _ _ _ HF.out hB hS).mono ?_
  rintro e w1 ⟨p, rfl, hp, hb⟩
  replace hC : Below n0 w w1 := hC.trans (hb.mono (by have := hC.size; omega))
  replace hB := (RS.below hB hb).more hb.size
  replace hS := (RP.below hS hb).more hb.size
  replace bx := bx.below hb bx.lt
  replace mx := mx.below hb mx.lt
  clear hb
  obtain ⟨e, he⟩ : ∃ e, measE bars ss ⟨mlo, mhi⟩ = e := ⟨_, rfl⟩
  rw [he] at hp ⊢
  by_cases e0 : e = 0
  case neg =>
    have b1 : (e != 0) = true := by simp [e0]
    have HE := Lib.hid he
    have E0 := Lib.hid e0
    clear he e0 hp
    go_wp2_with fail
    exact bodyPost_ret (v := .tuple #[.int .i64 0, .int .i64 0, .int .i64 e]) (by simp [results, Try.results41, go_sem]) rfl (AskPost.no HE.out E0.out (by (try rw [hn0]); exact hC))
  subst e0
  obtain ⟨hV, hm, g, rfl, hT⟩ := hp rfl
  have HV := Lib.hid hV
  have HM := Lib.hid hm
  have HE := Lib.hid he
  clear hp hV hm he
  go_wp2_with fail
  refine (someN_any g _ _ ⟨mlo, mhi⟩ bars ss _ hT HV.out).mono ?_
  rintro e w2 ⟨v, rfl, hv, hb⟩
  replace hC : Below n0 w w2 := hC.trans (hb.mono (by have := hC.size; omega))
  replace hB := (RS.below hB hb).more hb.size
  replace hS := (RP.below hS hb).more hb.size
  replace bx := bx.below hb bx.lt
  replace mx := mx.below hb mx.lt
  replace hT := TreeM.next hT hb
  clear hb
  obtain ⟨l, hl⟩ : ∃ l, someV bars ⟨mlo, mhi⟩ ss (-1) = l := ⟨_, rfl⟩
  rw [hl] at hv
  have HL := Lib.hid hl
  obtain ⟨Av, cv, rfl⟩ : ∃ A c, v = .slice A l.length c := by
    obtain ⟨A, c, b, o, hv, _⟩ := hv
    exact ⟨A, c, hv⟩
  clear hv hl
  by_cases a1 : l.length = 0
  case pos =>
    have A1 := Lib.hid a1
    have b1 : ((l.length : Int) == 0) = true := by simp [a1]
    clear a1
    go_wp2_with fail
    exact bodyPost_ret (v := .tuple #[.int .i64 0, .int .i64 0, .int .i64 17]) (by simp [results, Try.results41, go_sem]) rfl (AskPost.soft HE.out (by rw [HL.out]; exact List.length_eq_zero_iff.1 A1.out) (by (try rw [hn0]); exact hC))
  have HS : Hid (someV bars ⟨mlo, mhi⟩ ss (-1) ≠ []) := Lib.hid (by rw [HL.out]; exact fun q => a1 (by rw [q]; rfl))
  have b1 : ((l.length : Int) == 0) = false := by simpa using a1
  clear a1 HL
  obtain ⟨bm, hbm⟩ : ∃ h, w2.heap.size = h := ⟨_, rfl⟩
  have HBM := Lib.hid hbm
  have hmm := fun W => run_makeMap (P := Try.prog) 115 W
  go_upto_region 7 with fail
  clear hmm
  have hb2 : Below w2.heap.size w2 (w2.alloc (.map #[] 0)) := Below.alloc (Below.refl _ _) (Nat.le_refl _) _
  have hmp := MPl.made w2
  rw [hbm] at hmp
  generalize w2.alloc (.map #[] 0) = W2 at *
  clear hbm
  go_wp2_with fail
  refine (countM_any g bm _ _ ⟨mlo, mhi⟩ bars ss w2 W2 hT hb2 (by have := HBM.out; omega) hmp HV.out HM.out (mkL_few HV.out _) (mkL_short HV.out _)).mono ?_
  rintro e w9 ⟨rfl, hmp9, hgr⟩
  have hb : Below w2.heap.size w2 w9 := Below.grown hb2 hgr (by have := hb2.size; omega) fun k hk => by
    injection hk with hk
    have := HBM.out
    omega
  have hbm : bm < w9.heap.size := hmp9.lt
  clear hb2 hmp hgr hT
  replace hC : Below n0 w w9 := hC.trans (hb.mono (by have := hC.size; omega))
  replace hB := (RS.below hB hb).more hb.size
  replace hS := (RP.below hS hb).more hb.size
  replace bx := bx.below hb bx.lt
  replace mx := mx.below hb mx.lt
  clear hb
  have hat : ∀ a c, ((cntM (mkL bars ⟨mlo, mhi⟩ ss) (mkL bars ⟨mlo, mhi⟩ ss).length) a c).getD 0 = hits (mkL bars ⟨mlo, mhi⟩ ss) a c := fun a c => by
    rw [cntM_at _ _ _ _ (Nat.le_refl _), List.take_length]
  have hfew := mkL_few HV.out ⟨mlo, mhi⟩
  have hsl := HV.out.sfew
  have HQ := Lib.hid (fun (q : Rg) (w' : World) h hb => AskPost.yes (q := q) (w := w) (w' := w') HE.out HS.out h hb)
  obtain ⟨L, hL⟩ : ∃ L, mkL bars ⟨mlo, mhi⟩ ss = L := ⟨_, rfl⟩
  rw [hL] at hmp9 hat hfew HQ
  rw [hL]
  clear hL HE HS HV HM HBM
  obtain ⟨f, hF⟩ : ∃ f, cntM L L.length = f := ⟨_, rfl⟩
  rw [hF] at hmp9 hat
  clear hF
  have HAT := Lib.hid hat
  clear hat
  obtain ⟨h0, hh0⟩ : ∃ h, w9.heap.size = h := ⟨_, rfl⟩
  rw [hh0] at hbm
  have hn1 : n0 ≤ h0 := by have := hC.size; omega
  have HN1 := Lib.hid hn1
  have HC := Lib.hid hC
  have HF := Lib.hid hfew
  have HH := Lib.hid hh0
  have HMP := Lib.hid hmp9
  have hnb : n0 < h0 := by have := bx.lt; omega
  have HBX := Lib.hid bx
  clear hn1 hC hB hS bx mx hmp9 hfew hh0
  go_wp2_with fail
  go_loopw [10, 11] (fun acc v wr => ∃ k : Nat, k ≤ ss.length + 1 ∧ v = .int .i64 ((k : Int) - 1) ∧ OwnQ wr h0 acc (qsL L k) ∧ Below h0 w9 wr) (fun _ v _ => ss.length + 1 - (intOf v + 1).toNat)
  case atStart => exact ⟨0, Nat.zero_le _, by simp, OwnQ.nil _ _, Below.refl _ _⟩
  case round =>
    obtain ⟨k, hk, rfl, hown, hb⟩ := hrel
    have hwz : h0 ≤ wr.heap.size := by have := hb.size; have := HH.out; omega
    have bx := HBX.out.below hb (by exact hnb)
    have lbx := bx.lt
    have bxc0 := bx.cell 0
    have bxc1 := bx.cell 1
    simp at bxc0 bxc1
    by_cases hlt : k < ss.length + 1
    case neg =>
      obtain rfl : k = ss.length + 1 := by omega
      have HO := Lib.hid hown.ri
      have HB := Lib.hid hb
      obtain ⟨Av, cv, rfl⟩ := own_slice hown
      have hge : ¬ (((ss.length + 1 : Nat) : Int) - 1 < (ss.length : Int)) := by omega
      clear hown hb bx
      go_wp2_with fail
      clear bxc0 bxc1 lbx
      refine (least_any _ _ _ (by rw [qsL_len]; omega) (by rw [qsL_len]; omega) HO.out).mono ?_
      rintro e w5 ⟨rfl, hb5⟩
      rw [qsL_len, Nat.add_sub_cancel]
      obtain ⟨q, hq⟩ : ∃ q, lsQ (qsL L (ss.length + 1)) ss.length = q := ⟨_, rfl⟩
      have HP := HQ.out q
      rw [hq]
      obtain ⟨qlo, qhi⟩ := q
      have HQ2 := Lib.hid hq
      have HB5 := Lib.hid (HB.out.trans (hb5.mono hwz))
      clear hb5 hq hge
      unfold rV
      go_upto_region 20 with fail
      obtain ⟨g5, hg5⟩ : ∃ g, w5.heap.size = g := ⟨_, rfl⟩
      have b5 : BK (w5.alloc (.cells #[.int .i64 qlo, .int .i64 qhi] 120)) g5 #[.int .i64 qlo, .int .i64 qhi] 120 := BK.new' _ _ _ _ hg5
      have hb6 : Below h0 w9 (w5.alloc (.cells #[.int .i64 qlo, .int .i64 qhi] 120)) := Below.alloc HB5.out (by have := HB5.out.size; have := HH.out; omega) _
      rw [hg5]
      clear hg5
      generalize (w5.alloc (.cells #[.int .i64 qlo, .int .i64 qhi] 120)) = W6 at *
      have HB6 := Lib.hid hb6
      have l6 := b5.lt
      have y0 := b5.cell 0
      have y1 := b5.cell 1
      simp at y0 y1
      clear hb6 HB5 b5
      go_quiet (fail)
      go_wp2_with fail
      exact bodyPost_ret (v := .tuple #[.int .i64 qlo, .int .i64 qhi, .int .i64 0]) (by simp [results, Try.results41, go_sem]) rfl (HP _ HQ2.out (by (try rw [hn0]); exact (HC.out.trans (HB6.out.mono HN1.out)).trans (by exact bel_of)))
    have hlt' : (k : Int) - 1 < (ss.length : Int) := by omega
    have hmp := HMP.out.below hb (by exact hbm)
    have hsu := qsL_succ L k
    obtain ⟨a, ha⟩ : ∃ a, (k : Int) - 1 = a := ⟨_, rfl⟩
    have HA := Lib.hid ha
    have har : -1 ≤ a ∧ a ≤ 6 := by omega
    rw [ha] at hlt' hsu
    rw [ha]
    have HLK := Lib.hid (fun c => hmp.look a c)
    have HSU := Lib.hid hsu
    have HOWN := Lib.hid hown
    have HB := Lib.hid hb
    clear ha hsu hown hb hmp bx
    go_wp2_with fail
    clear bxc0 bxc1 lbx
    go_loopw [12, 39] (fun v i V => V = wr ∧ ∃ j : Nat, j ≤ 6 ∧ i = .int .i64 (j : Int) ∧ v = .int .i64 (wrs L a j)) (fun _ i _ => 6 - (intOf i).toNat)
    case atStart => exact ⟨rfl, 0, Nat.zero_le _, rfl, rfl⟩
    case round =>
      obtain ⟨rfl, j, hj, rfl, rfl⟩ := hrel
      by_cases hj6 : j < 6
      case neg =>
        obtain rfl : j = 6 := by omega
        obtain ⟨B5, hB5⟩ : ∃ B, wr.heap.size = B := ⟨_, rfl⟩
        obtain ⟨v', w8, hrun, hown', hb', hs'⟩ := app_q HOWN.out ⟨a, wrs L a 6⟩ (by rw [qsL_len]; omega) hwz HB.out B5 hB5
        rw [← HSU.out] at hown'
        have HO := Lib.hid hown'
        have HB8 := Lib.hid hb'
        have HRUN := Lib.hid hrun
        clear hrun hown' hb' hs'
        go_wp2_with (at_builtin; refine wpList_append_run rfl (.tmp 50) (.tmp 54) 116 _ rfl HRUN.out ?_)
        go_roundw
        case rel => exact ⟨k + 1, by omega, by have := HA.out; go_num, HO.out, HB8.out⟩
        case measure => have := HA.out; simp [intOf]; omega
      have hjj : (j : Int) < 6 := by omega
      have hlk := HLK.out (j : Int)
      rw [HAT.out] at hlk
      have h1 := wrs_le L a j
      have h2 := hits_le2 L a (j : Int)
      have hst : wrs L a (j + 1) = max (wrs L a j) (hits L a (j : Int)) := rfl
      have HLK2 := Lib.hid hlk
      have HST := Lib.hid hst
      have hfw := HF.out
      obtain ⟨x, hx⟩ : ∃ x, wrs L a j = x := ⟨_, rfl⟩
      obtain ⟨y, hy⟩ : ∃ y, hits L a (j : Int) = y := ⟨_, rfl⟩
      rw [hx] at h1 HST ⊢
      rw [hy] at h2 HST HLK2
      clear hlk hst hx hy
      unfold plV at HLK2
      go_wp2_with (refine wpList_look_run rfl 115 (.tmp 43) (.tmp 46) false _ rfl HLK2.out ?_)
      go_roundw
      case rel => exact ⟨trivial, j + 1, by omega, by go_num, by rw [HST.out]; congr 1; split <;> omega⟩
      case measure => simp [intOf]; omega
end Go.Proofs.Ytkibdciomheekaa

namespace Hp
section
variable {bars : List Rg} {m : Rg} {ss : List Stp}
/-- The bars, the ways of a step in a list of recipes. -/
def barsOf (nb : Nat) (M : List (Nat × List Nat)) : List Nat := (List.range nb).filter fun b => M.any fun r => decide (r.1 = b)
def waysOf (nw i : Nat) (M : List (Nat × List Nat)) : List Nat := (List.range nw).filter fun k => M.any fun r => decide (r.2[i]? = some k)
theorem mem_barsOf {nb b : Nat} {M : List (Nat × List Nat)} : b ∈ barsOf nb M ↔ b < nb ∧ ∃ r ∈ M, r.1 = b := by
  unfold barsOf
  rw [List.mem_filter, List.mem_range]
  simp
theorem mem_waysOf {nw i k : Nat} {M : List (Nat × List Nat)} : k ∈ waysOf nw i M ↔ k < nw ∧ ∃ r ∈ M, r.2[i]? = some k := by
  unfold waysOf
  rw [List.mem_filter, List.mem_range]
  simp
theorem someB_eq (hb : ∀ b ∈ bars, OkR b) (ok : OkS ss) (hm : OkR m) : someB bars m ss = barsOf bars.length (makers bars ss m) := by
  have h := fun b => someB_iff hb ok hm (b := b)
  unfold someB at h ⊢
  unfold barsOf
  refine List.filter_congr fun b hb' => ?_
  have h1 := h b
  rw [List.mem_filter] at h1
  rw [Bool.eq_iff_iff]
  constructor
  · intro q
    obtain ⟨r, q1, q2⟩ := h1.1 ⟨hb', q⟩
    exact List.any_eq_true.2 ⟨r, q1, decide_eq_true q2⟩
  · intro q
    obtain ⟨r, q1, q2⟩ := List.any_eq_true.1 q
    exact (h1.2 ⟨r, q1, of_decide_eq_true q2⟩).2
theorem someW_eq (hb : ∀ b ∈ bars, OkR b) (ok : OkS ss) (hm : OkR m) {i : Nat} (hi : i < ss.length) : someW bars m ss i = waysOf (nthS ss i).length i (makers bars ss m) := by
  have h := fun k => someW_iff hb ok hm (k := k) hi
  unfold someW at h ⊢
  unfold waysOf
  refine List.filter_congr fun k hk => ?_
  have h1 := h k
  rw [List.mem_filter] at h1
  rw [Bool.eq_iff_iff]
  constructor
  · intro q
    obtain ⟨r, q1, q2⟩ := h1.1 ⟨hk, q⟩
    exact List.any_eq_true.2 ⟨r, q1, decide_eq_true q2⟩
  · intro q
    obtain ⟨r, q1, q2⟩ := List.any_eq_true.1 q
    exact (h1.2 ⟨r, q1, of_decide_eq_true q2⟩).2
end
end Hp
