/- Which edges surely are the sharpest, by the reference. Which edges can be the sharpest, by the reference. Of which two edges least is known, by the reference. A list of links in a block: its cells, and what is stored; turned round by exchanges; a map looked up. -/
import Derived.Test.YtkljdbgkhghiaaaP15
set_option linter.all false
set_option linter.unnecessarySimpa false
set_option linter.unusedSimpArgs false
set_option linter.unusedVariables false
set_option linter.unusedSectionVars false

set_option linter.all false
namespace Go.Proofs.Ytkljdbgkhghiaaa
open Go.RowKit Kp

theorem rg_lo (a b : Int) (W : World) : (Instr.field 36 (.agg #[.int .i64 a, .int .i64 b]) 0).run Try.prog W = .ok (.int .i64 a) W := by
  simp [Instr.field, go_sem, asAgg, Try.t36]
/-- The numbers below i that have p. -/
def ev (p : Nat → Bool) (i : Nat) : List Int := ((List.range i).filter p).map Int.ofNat
theorem ev_yes {p : Nat → Bool} {i : Nat} (h : p i = true) : ev p i ++ [(i : Int)] = ev p (i + 1) := by
  unfold ev; rw [List.range_succ, List.filter_append]; simp [h]
theorem ev_no {p : Nat → Bool} {i : Nat} (h : p i = false) : ev p i = ev p (i + 1) := by
  unfold ev; rw [List.range_succ, List.filter_append]; simp [h]
theorem ev_len (p : Nat → Bool) (i : Nat) : (ev p i).length ≤ i := by
  unfold ev; have := List.length_filter_le p (List.range i); simpa using this
theorem all_succ (f : Nat → Bool) (j : Nat) : (List.range (j + 1)).all f = ((List.range j).all f && f j) := by rw [List.range_succ]; simp
def sureF (N : Nat) (ts : List Kt) (v u : Nat) : Bool := decide (u = v) || decide (0 ≤ -D N ts v u)
def sureB (N : Nat) (ts : List Kt) (v : Nat) : Bool := (List.range N).all (sureF N ts v)
/-- The edges that surely are the sharpest. -/
def sureP (N : Nat) (ts : List Kt) : List Int := ev (sureB N ts) N
def listE (P : Nat → List Kt → List Int) (E : Int) (ts : List Kt) (e : Int) : List Int := if e = 0 then P E.toNat ts else []
theorem listE_bad {P : Nat → List Kt → List Int} {E : Int} {ts : List Kt} {e : Int} (h : e ≠ 0) : listE P E ts e = [] := if_neg h
theorem listE_ok {P : Nat → List Kt → List Int} {N : Nat} {ts : List Kt} : listE P (N : Int) ts 0 = P N ts := by unfold listE; rw [if_pos rfl, Int.toNat_natCast]

set_option maxHeartbeats 8000000 in
set_option maxRecDepth 100000 in
theorem sureR_any (E : Int) (ts : List Kt) (v : Value) (w : World) (hl : ts.length ≤ 1000) (h : RT w w.heap.size v ts) :
    Calls Try.prog 37 #[.agg #[.int .i64 E, v]] w fun x w' => ∃ v', x = .returned (.tuple #[v', .int .i64 (openE E ts 0)]) ∧ RI w' w'.heap.size v' (listE sureP E ts (openE E ts 0)) ∧ Below w.heap.size w w' := by
  obtain ⟨b, off, cap, A, rfl, hAx⟩ := h.slice
  clear hAx
  have hR := h
  clear h
  obtain ⟨n0, hn0⟩ : ∃ n, w.heap.size = n := ⟨_, rfl⟩
  have hC : Below n0 w w := Below.refl _ _
  go_enter Try.func37, Try.ntmps37
  go_wp2_with fail
  have bx : BK (w.alloc (.cells #[.int .i64 E, .slice A ts.length cap] 24)) (n0) #[.int .i64 E, .slice A ts.length cap] 24 := BK.new' _ _ _ (n0) hn0
  have hsbx : (w.alloc (.cells #[.int .i64 E, .slice A ts.length cap] 24)).heap.size = n0 + 1 := by simp [hn0]
  replace hC : Below n0 w (w.alloc (.cells #[.int .i64 E, .slice A ts.length cap] 24)) := Below.alloc hC (by have := hC.size; omega) _
  replace hR := (RS.below hR (w' := (w.alloc (.cells #[.int .i64 E, .slice A ts.length cap] 24))) (Below.alloc (Below.refl _ _) (Nat.le_refl _) _)).more (B' := (w.alloc (.cells #[.int .i64 E, .slice A ts.length cap] 24)).heap.size) (by simp)
  generalize (w.alloc (.cells #[.int .i64 E, .slice A ts.length cap] 24)) = Wbx at *
  clear hsbx
  refine (needs_any E ts _ _ hl hR).mono ?_
  rintro e w1 ⟨rfl, hb⟩
  replace hC : Below n0 w w1 := hC.trans (hb.mono (by have := hC.size; omega))
  replace hR := (RS.below hR hb).more hb.size
  replace bx := bx.below hb bx.lt
  clear hb
  have lbx := bx.lt
  have bxc0 := bx.cell 0
  have bxc1 := bx.cell 1
  simp at bxc0 bxc1
  obtain ⟨e, he⟩ : ∃ e, openE E ts 0 = e := ⟨_, rfl⟩
  have HE := Lib.hid he
  rw [he]
  clear he
  by_cases h0 : e = 0
  case neg =>
    have b1 : (e != 0) = true := by simp [h0]
    have HN := Lib.hid h0
    clear h0
    go_wp2_with fail
    clear lbx bxc0 bxc1
    refine (needs_any E ts _ _ hl hR).mono ?_
    rintro e w2 ⟨rfl, hb⟩
    replace hC : Below n0 w w2 := hC.trans (hb.mono (by have := hC.size; omega))
    replace hR := (RS.below hR hb).more hb.size
    replace bx := bx.below hb bx.lt
    clear hb
    rw [HE.out]
    go_wp2_with fail
    exact bodyPost_ret (v := .tuple #[.slice none 0 0, .int .i64 e]) (by simp [results, Try.results37, go_sem]) rfl ⟨_, by rw [HE.out], by rw [HE.out, listE_bad HN.out]; exact ri_nil _ _, by first | exact hC | (rw [hn0]; exact hC) | (with_reducible rw [hn0]; exact bel_of) | exact bel_of⟩
  subst h0
  obtain ⟨N, rfl, ho, hl40, _, hg, hbk⟩ := openE_ok HE.out
  have HO := Lib.hid ho
  have hE := ho.few
  have HA := Lib.hid hg
  clear ho hg hbk
  go_wp2_with fail
  clear lbx bxc0 bxc1
  go_loopw [4, 5] (fun acc iv wr => ∃ i : Nat, i ≤ N ∧ iv = .int .i64 i ∧ OwnI 3 wr w1.heap.size acc (ev (sureB N ts) i) ∧ Below w1.heap.size w1 wr) (fun _ iv _ => N - (intOf iv).toNat)
  case atStart => exact ⟨0, Nat.zero_le _, rfl, by simpa [ev] using OwnI.nil _ _ _, Below.refl _ _⟩
  case round =>
    obtain ⟨i, hi, rfl, hown, hbr⟩ := hrel
    rename World => wo
    have hCr : Below n0 w wo := hC.trans (hbr.mono (by have := hC.size; omega))
    have bx' := bx.below hbr bx.lt
    have hR' := (RS.below hR hbr).more hbr.size
    have lbx := bx'.lt
    have bxc0 := bx'.cell 0
    simp at bxc0
    have HOW := Lib.hid hown
    clear hown
    by_cases hlt : i < N
    · go_wp2_with fail
      clear lbx bxc0
      go_loopw [6, 7] (fun sv iv wr => ∃ j : Nat, j ≤ N ∧ iv = .int .i64 j ∧ sv = .bool ((List.range j).all (sureF N ts i)) ∧ Below wo.heap.size wo wr) (fun _ iv _ => N - (intOf iv).toNat)
      case atStart => exact ⟨0, Nat.zero_le _, rfl, rfl, Below.refl _ _⟩
      case round =>
        obtain ⟨j, hj, rfl, rfl, hbx⟩ := hrel
        have bx2 := bx'.below hbx bx'.lt
        have hR2 := (RS.below hR' hbx).more hbx.size
        have lbx := bx2.lt
        have bxc0 := bx2.cell 0
        have bxc1 := bx2.cell 1
        simp at bxc0 bxc1
        have hbr2 : Below w1.heap.size w1 wr := hbr.trans (hbx.mono hbr.size)
        by_cases hjt : j < N
        · have hsu := all_succ (sureF N ts i) j
          have hsf : sureF N ts i j = (decide (j = i) || decide (0 ≤ -D N ts i j)) := rfl
          have HSP := Lib.hid (spanR_any N ts i j _ _ HO.out hl (by omega) (by omega) hR2)
          generalize (List.range j).all (sureF N ts i) = q at *
          have HSU := Lib.hid hsu
          have HSF := Lib.hid hsf
          clear hsu hsf
          cases q with
          | false =>
            go_wp2_with fail
            go_roundw
            case rel => exact ⟨j + 1, by omega, by go_num, by rw [HSU.out]; rfl, hbx⟩
            case measure => simp [intOf]; omega
          | true =>
            by_cases hji : j = i
            · have HT := Lib.hid (show sureF N ts i j = true by rw [HSF.out, decide_eq_true hji]; rfl)
              have b1 : ((j : Int) == (i : Int)) = true := by simp [hji]
              clear hji
              go_wp2_with fail
              go_roundw
              case rel => exact ⟨j + 1, by omega, by go_num, by rw [HSU.out, HT.out]; rfl, hbx⟩
              case measure => simp [intOf]; omega
            · have hT := (show sureF N ts i j = decide (0 ≤ -D N ts i j) by rw [HSF.out, decide_eq_false hji]; rfl)
              have b1 : ((j : Int) == (i : Int)) = false := beq_eq_false_iff_ne.2 (by omega)
              clear hji
              go_wp2_with fail
              refine HSP.out.mono ?_
              rintro e w9 ⟨rfl, hb9⟩
              have hbx9 : Below wo.heap.size wo w9 := hbx.trans (hb9.mono hbx.size)
              clear hb9
              unfold spanA
              generalize -D N ts i j = dlo at *
              generalize D N ts j i = dhi at *
              have F0 := fun W => rg_lo dlo dhi W
              have HT := Lib.hid hT
              clear hT
              by_cases hd : 0 ≤ dlo
              · have HT2 := Lib.hid (HT.out.trans (decide_eq_true hd))
                go_wp2_with fail
                go_roundw
                case rel => exact ⟨j + 1, by omega, by go_num, by rw [HSU.out, HT2.out]; first | rfl | (rw [decide_eq_false (by omega)]; rfl), hbx9⟩
                case measure => simp [intOf]; omega
              · have HT2 := Lib.hid (HT.out.trans (decide_eq_false hd))
                go_wp2_with fail
                go_roundw
                case rel => exact ⟨j + 1, by omega, by go_num, by rw [HSU.out, HT2.out]; first | rfl | (rw [decide_eq_false (by omega)]; rfl), hbx9⟩
                case measure => simp [intOf]; omega
        · have hjN : j = N := by omega
          subst hjN
          have hq : (List.range j).all (sureF j ts i) = sureB j ts i := rfl
          have hly := ev_yes (p := sureB j ts) (i := i)
          have hln := ev_no (p := sureB j ts) (i := i)
          rw [hq]
          generalize sureB j ts i = q at *
          have HLY := Lib.hid hly
          have HLN := Lib.hid hln
          have hCx : Below n0 w wr := hC.trans (hbr2.mono (by have := hC.size; omega))
          have hown2 := (HOW.out).below hbx
          have HO2 := Lib.hid hown2
          clear hq hly hln hown2 HOW
          cases q with
          | true =>
            obtain ⟨v', w6, hrun, hown', hb', hs', _⟩ := app_int HO2.out (i : Int) (by have := ev_len (sureB j ts) i; omega) hbr2.size hbr2 wr.heap.size rfl
            rw [HLY.out rfl] at hown'
            have HO3 := Lib.hid hown'
            have HRUN := Lib.hid hrun
            have HB3 := Lib.hid hb'
            clear hown' hrun hb' hs' hbr2 hCx
            go_wp2_with (at_builtin; refine wpList_append_run rfl (.tmp 40) (.tmp 42) 51 _ rfl HRUN.out ?_)
            go_roundw
            case rel => exact ⟨i + 1, by omega, by go_num, HO3.out, HB3.out⟩
            case measure => simp [intOf]; omega
          | false =>
            rw [HLN.out rfl] at HO2
            go_wp2_with fail
            go_roundw
            case rel => exact ⟨i + 1, by omega, by go_num, HO2.out, hbr2⟩
            case measure => simp [intOf]; omega
    · have hie : i = N := by omega
      have hown := HOW.out
      rw [hie] at hown
      have HO2 := Lib.hid hown
      clear hown HOW hie hbr
      go_wp2_with fail
      exact bodyPost_ret (v := .tuple #[u4, .int .i64 0]) (by simp [results, Try.results37, go_sem]) rfl ⟨_, by rw [HE.out], by rw [HE.out, listE_ok]; exact HO2.out.ri, by first | exact hCr | (rw [hn0]; exact hCr)⟩
  

end Go.Proofs.Ytkljdbgkhghiaaa

set_option linter.all false
namespace Go.Proofs.Ytkljdbgkhghiaaa
open Go.RowKit Kp

theorem mayT_len (E v : Nat) : ∀ n, (mayT E v n).length ≤ n
  | 0 => Nat.le_refl _
  | n + 1 => by
    have := mayT_len E v n
    unfold mayT
    split
    · omega
    · simp; omega
def mayB (N : Nat) (ts : List Kt) (v : Nat) : Bool := decide (Agr N (ts ++ mayT N v N))
/-- The edges that can be the sharpest. -/
def mayP (N : Nat) (ts : List Kt) : List Int := ev (mayB N ts) N

set_option maxHeartbeats 8000000 in
set_option maxRecDepth 100000 in
theorem mayR_any (E : Int) (ts : List Kt) (v : Value) (w : World) (hl : ts.length ≤ 900) (h : RT w w.heap.size v ts) :
    Calls Try.prog 35 #[.agg #[.int .i64 E, v]] w fun x w' => ∃ v', x = .returned (.tuple #[v', .int .i64 (openE E ts 0)]) ∧ RI w' w'.heap.size v' (listE mayP E ts (openE E ts 0)) ∧ Below w.heap.size w w' := by
  obtain ⟨b, off, cap, A, rfl, hAx⟩ := h.slice
  clear hAx
  have hR := h
  clear h
  obtain ⟨n0, hn0⟩ : ∃ n, w.heap.size = n := ⟨_, rfl⟩
  have hC : Below n0 w w := Below.refl _ _
  go_enter Try.func35, Try.ntmps35
  go_wp2_with fail
  have bx : BK (w.alloc (.cells #[.int .i64 E, .slice A ts.length cap] 24)) (n0) #[.int .i64 E, .slice A ts.length cap] 24 := BK.new' _ _ _ (n0) hn0
  have hsbx : (w.alloc (.cells #[.int .i64 E, .slice A ts.length cap] 24)).heap.size = n0 + 1 := by simp [hn0]
  replace hC : Below n0 w (w.alloc (.cells #[.int .i64 E, .slice A ts.length cap] 24)) := Below.alloc hC (by have := hC.size; omega) _
  replace hR := (RS.below hR (w' := (w.alloc (.cells #[.int .i64 E, .slice A ts.length cap] 24))) (Below.alloc (Below.refl _ _) (Nat.le_refl _) _)).more (B' := (w.alloc (.cells #[.int .i64 E, .slice A ts.length cap] 24)).heap.size) (by simp)
  generalize (w.alloc (.cells #[.int .i64 E, .slice A ts.length cap] 24)) = Wbx at *
  clear hsbx
  refine (needs_any E ts _ _ (by omega) hR).mono ?_
  rintro e w1 ⟨rfl, hb⟩
  replace hC : Below n0 w w1 := hC.trans (hb.mono (by have := hC.size; omega))
  replace hR := (RS.below hR hb).more hb.size
  replace bx := bx.below hb bx.lt
  clear hb
  have lbx := bx.lt
  have bxc0 := bx.cell 0
  have bxc1 := bx.cell 1
  simp at bxc0 bxc1
  obtain ⟨e, he⟩ : ∃ e, openE E ts 0 = e := ⟨_, rfl⟩
  have HE := Lib.hid he
  rw [he]
  clear he
  by_cases h0 : e = 0
  case neg =>
    have b1 : (e != 0) = true := by simp [h0]
    have HN := Lib.hid h0
    clear h0
    go_wp2_with fail
    clear lbx bxc0 bxc1
    refine (needs_any E ts _ _ (by omega) hR).mono ?_
    rintro e w2 ⟨rfl, hb⟩
    replace hC : Below n0 w w2 := hC.trans (hb.mono (by have := hC.size; omega))
    replace hR := (RS.below hR hb).more hb.size
    replace bx := bx.below hb bx.lt
    clear hb
    rw [HE.out]
    go_wp2_with fail
    exact bodyPost_ret (v := .tuple #[.slice none 0 0, .int .i64 e]) (by simp [results, Try.results35, go_sem]) rfl ⟨_, by rw [HE.out], by rw [HE.out, listE_bad HN.out]; exact ri_nil _ _, by first | exact hC | (rw [hn0]; exact hC) | (with_reducible rw [hn0]; exact bel_of) | exact bel_of⟩
  subst h0
  obtain ⟨N, rfl, ho, hl40, _, hg, hbk⟩ := openE_ok HE.out
  have HO := Lib.hid ho
  have hE := ho.few
  have HA := Lib.hid hg
  clear ho hg hbk
  go_wp2_with fail
  clear lbx bxc0 bxc1
  go_loopw [4, 5] (fun acc iv wr => ∃ i : Nat, i ≤ N ∧ iv = .int .i64 i ∧ OwnI 3 wr w1.heap.size acc (ev (mayB N ts) i) ∧ Below w1.heap.size w1 wr) (fun _ iv _ => N - (intOf iv).toNat)
  case atStart => exact ⟨0, Nat.zero_le _, rfl, by simpa [ev] using OwnI.nil _ _ _, Below.refl _ _⟩
  case round =>
    obtain ⟨i, hi, rfl, hown, hbr⟩ := hrel
    rename World => wo
    have hCr : Below n0 w wo := hC.trans (hbr.mono (by have := hC.size; omega))
    have bx' := bx.below hbr bx.lt
    have hR' := (RS.below hR hbr).more hbr.size
    have lbx := bx'.lt
    have bxc0 := bx'.cell 0
    have bxc1 := bx'.cell 1
    simp at bxc0 bxc1
    have HOW := Lib.hid hown
    clear hown
    by_cases hlt : i < N
    · go_wp2_with fail
      clear lbx bxc0 bxc1
      obtain ⟨gx, hgx⟩ : ∃ n, wo.heap.size = n := ⟨_, rfl⟩
      have bk6 : BK (wo.alloc (.cells #[.int .i64 N, .slice A ts.length cap] 24)) gx #[.int .i64 N, .slice A ts.length cap] 24 := BK.new' _ _ _ gx hgx
      have hb6 : Below wo.heap.size wo (wo.alloc (.cells #[.int .i64 N, .slice A ts.length cap] 24)) := Below.alloc (Below.refl _ _) (Nat.le_refl _) _
      have hR6 : RT (wo.alloc (.cells #[.int .i64 N, .slice A ts.length cap] 24)) (wo.alloc (.cells #[.int .i64 N, .slice A ts.length cap] 24)).heap.size (.slice A ts.length cap) (ts ++ mayT N i 0) := by
        have := (RS.below hR' hb6).more hb6.size
        unfold mayT
        rw [List.append_nil]
        exact this
      have HGX := Lib.hid hgx
      try rw [hgx]
      clear hgx
      generalize wo.alloc (.cells #[.int .i64 N, .slice A ts.length cap] 24) = W6 at *
      go_loopw [7] (fun iv wr => ∃ (j : Nat) (vx : Value), j ≤ N ∧ iv = .int .i64 j ∧ BK wr gx #[.int .i64 N, vx] 24 ∧ RT wr wr.heap.size vx (ts ++ mayT N i j) ∧ Below wo.heap.size wo wr) (fun iv _ => N - (intOf iv).toNat)
      case atStart => exact ⟨0, _, Nat.zero_le _, rfl, bk6, hR6, hb6⟩
      case round =>
        obtain ⟨j, vx, hj, rfl, bkx, hRx, hbx⟩ := hrel
        have bx2 := bx'.below hbx bx'.lt
        have lbx := bx2.lt
        have bxc0 := bx2.cell 0
        have bxc1 := bx2.cell 1
        have lkx := bkx.lt
        have kxc0 := bkx.cell 0
        have kxc1 := bkx.cell 1
        simp at bxc0 bxc1 kxc0 kxc1
        have hml := mayT_len N i j
        by_cases hjt : j < N
        · by_cases hji : j = i
          · have HJ := Lib.hid (show mayT N i (j + 1) = mayT N i j by rw [mayT, if_pos hji])
            have b1 : ((j : Int) == (i : Int)) = true := by simp [hji]
            have b2 : ((j : Int) != (i : Int)) = false := by simp [hji]
            have HRX := Lib.hid hRx
            clear hji hRx
            go_wp2_with fail
            go_roundw
            case rel => exact ⟨j + 1, vx, by omega, by go_num, bkx, by rw [HJ.out]; exact HRX.out, hbx⟩
            case measure => simp [intOf]; omega
          · have HJ := Lib.hid (show mayT N i (j + 1) = mayT N i j ++ [⟨i, j, 0, 1000⟩] by rw [mayT, if_neg hji])
            have b1 : ((j : Int) == (i : Int)) = false := beq_eq_false_iff_ne.2 (by omega)
            have b2 : ((j : Int) != (i : Int)) = true := by simp; omega
            have HW := Lib.hid (with_any N ⟨i, j, 0, 1000⟩ _ _ _ (by simp; omega) hRx)
            unfold tV at HW
            clear hji
            go_wp2_with fail
            refine HW.out.mono ?_
            rintro e w9 ⟨vy, rfl, ho9, hb9⟩
            obtain ⟨Ay, cy, rfl⟩ := own_slice ho9
            generalize hny : (ts ++ mayT N i j ++ [(⟨i, j, 0, 1000⟩ : Kt)]).length = ny at *
            clear hny
            have hbx9 : Below wo.heap.size wo w9 := hbx.trans (hb9.mono hbx.size)
            have bk9 := bkx.below hb9 bkx.lt
            have hgw : wo.heap.size ≤ gx := Nat.le_of_eq HGX.out
            have hne : (Value.slice Ay ny cy).ownBlock ≠ some gx := fun hx => by have := (ho9.lt _ hx).1; omega
            have hT9 : OwnT ((w9.setCell ⟨gx, 0, none⟩ (.int .i64 N)).setCell ⟨gx, 1, none⟩ (.slice Ay ny cy)) _ (.slice Ay ny cy) _ := own_far (own_far ho9 (p := ⟨gx, 0, none⟩) hne (.int .i64 N)) (p := ⟨gx, 1, none⟩) hne (.slice Ay ny cy)
            have bk10 := (bk9.set 0 (.int .i64 N)).set 1 (.slice Ay ny cy)
            have hb10 : Below wo.heap.size wo ((w9.setCell ⟨gx, 0, none⟩ (.int .i64 N)).setCell ⟨gx, 1, none⟩ (.slice Ay ny cy)) := Below.setCell (Below.setCell hbx9 (by exact hgw) _) (by exact hgw) _
            simp at bk10
            have HT9 := Lib.hid hT9
            have HK10 := Lib.hid bk10
            have HB10 := Lib.hid hb10
            clear hT9 bk10 hb10 hne ho9 HW bxc0 bxc1 kxc0 kxc1
            have lk9 := bk9.lt
            have k9c0 := bk9.cell 0
            have k9c1 := bk9.cell 1
            have k9f0 := bk9.frozen 0
            have k9f1 := bk9.frozen 1
            simp at k9c0 k9c1
            go_wp2_with fail
            go_roundw
            case rel => exact ⟨j + 1, _, by omega, by go_num, HK10.out, by rw [HJ.out, ← List.append_assoc]; exact HT9.out.ri, HB10.out⟩
            case measure => simp [intOf]; omega
        · have hjN : j = N := by omega
          subst hjN
          have HAG := Lib.hid (agreeR_any j _ _ _ (okb_may HO.out hlt j (Nat.le_refl _)) (by simp; omega) hRx)
          have hq : decide (Agr j (ts ++ mayT j i j)) = mayB j ts i := rfl
          rw [hq] at HAG
          have hly := ev_yes (p := mayB j ts) (i := i)
          have hln := ev_no (p := mayB j ts) (i := i)
          generalize mayB j ts i = q at *
          have HLY := Lib.hid hly
          have HLN := Lib.hid hln
          clear hq hly hln
          go_wp2_with fail
          refine HAG.out.mono ?_
          rintro e w9 ⟨rfl, hb9⟩
          have hbx9 : Below wo.heap.size wo w9 := hbx.trans (hb9.mono hbx.size)
          have hbr9 : Below w1.heap.size w1 w9 := hbr.trans (hbx9.mono hbr.size)
          have hown2 := (HOW.out).below hbx9
          have HO2 := Lib.hid hown2
          clear hown2 HOW HAG hb9 bxc0 bxc1 kxc0 kxc1
          cases q with
          | true =>
            obtain ⟨v', w6, hrun, hown', hb', hs', _⟩ := app_int HO2.out (i : Int) (by have := ev_len (mayB j ts) i; omega) hbr9.size hbr9 w9.heap.size rfl
            rw [HLY.out rfl] at hown'
            have HO3 := Lib.hid hown'
            have HRUN := Lib.hid hrun
            have HB3 := Lib.hid hb'
            clear hown' hrun hb' hs' hbr9
            go_wp2_with (at_builtin; refine wpList_append_run rfl (.tmp 37) (.tmp 39) 51 _ rfl HRUN.out ?_)
            go_roundw
            case rel => exact ⟨i + 1, by omega, by go_num, HO3.out, HB3.out⟩
            case measure => simp [intOf]; omega
          | false =>
            rw [HLN.out rfl] at HO2
            go_wp2_with fail
            go_roundw
            case rel => exact ⟨i + 1, by omega, by go_num, HO2.out, hbr9⟩
            case measure => simp [intOf]; omega
    · have hie : i = N := by omega
      have hown := HOW.out
      rw [hie] at hown
      have HO2 := Lib.hid hown
      clear hown HOW hie hbr
      go_wp2_with fail
      exact bodyPost_ret (v := .tuple #[u4, .int .i64 0]) (by simp [results, Try.results35, go_sem]) rfl ⟨_, by rw [HE.out], by rw [HE.out, listE_ok]; exact HO2.out.ri, by first | exact hCr | (rw [hn0]; exact hCr)⟩
  

end Go.Proofs.Ytkljdbgkhghiaaa

set_option linter.all false
namespace Go.Proofs.Ytkljdbgkhghiaaa
open Go.RowKit Kp

def prV (u : Nat) : Nat → List (Nat × Nat)
  | 0 => []
  | v + 1 => if u < v then prV u v ++ [(u, v)] else prV u v
def prU (E : Nat) : Nat → List (Nat × Nat)
  | 0 => []
  | u + 1 => prU E u ++ prV u E
theorem prV_low (u : Nat) : ∀ v, v ≤ u + 1 → prV u v = []
  | 0, _ => rfl
  | v + 1, h => by rw [prV, if_neg (by omega), prV_low u v (by omega)]
theorem prV_next {u v : Nat} (h : u < v) : prV u (v + 1) = prV u v ++ [(u, v)] := by rw [prV, if_pos h]
theorem prV_mem {u : Nat} {p : Nat × Nat} : ∀ v, p ∈ prV u v → p.1 = u ∧ u < p.2 ∧ p.2 < v
  | 0, h => by simp [prV] at h
  | v + 1, h => by
    rw [prV] at h
    split at h
    · rcases List.mem_append.1 h with h | h
      · have := prV_mem v h; omega
      · obtain rfl : p = (u, v) := by simpa using h
        dsimp only; omega
    · have := prV_mem v h; omega
theorem prU_mem {E : Nat} {p : Nat × Nat} : ∀ u, p ∈ prU E u → p.1 < u ∧ p.1 < p.2 ∧ p.2 < E
  | 0, h => by simp [prU] at h
  | u + 1, h => by
    rcases List.mem_append.1 h with h | h
    · have := prU_mem u h; omega
    · have := prV_mem E h; omega
theorem prV_len (u : Nat) : ∀ v, (prV u v).length ≤ v
  | 0 => Nat.le_refl _
  | v + 1 => by
    have := prV_len u v
    rw [prV]; split
    · simp; omega
    · omega
theorem prU_len (E : Nat) : ∀ u, (prU E u).length ≤ u * E
  | 0 => by simp [prU]
  | u + 1 => by
    have := prU_len E u
    have := prV_len u E
    rw [prU, List.length_append, Nat.succ_mul]; omega
/-- How little is known of two edges. -/
def wdt (N : Nat) (ts : List Kt) (p : Nat × Nat) : Int := D N ts p.2 p.1 - -D N ts p.1 p.2
def bst (f : Nat × Nat → Int) (l : List (Nat × Nat)) : Nat × Nat × Int := l.foldl (fun s p => if s.2.2 < f p then (p.1, p.2, f p) else s) (0, 1, -1)
theorem bst_app (f : Nat × Nat → Int) (l : List (Nat × Nat)) (p : Nat × Nat) : bst f (l ++ [p]) = if (bst f l).2.2 < f p then (p.1, p.2, f p) else bst f l := by
  unfold bst; rw [List.foldl_append]; rfl
def widV (E : Int) (ts : List Kt) (e : Int) : Value := if e = 0 then .tuple #[.int .i64 (bst (wdt E.toNat ts) (prU E.toNat E.toNat)).1, .int .i64 (bst (wdt E.toNat ts) (prU E.toNat E.toNat)).2.1, .int .i64 0] else .tuple #[.int .i64 0, .int .i64 0, .int .i64 e]
theorem widV_bad {E : Int} {ts : List Kt} {e : Int} (h : e ≠ 0) : widV E ts e = .tuple #[.int .i64 0, .int .i64 0, .int .i64 e] := if_neg h
theorem widV_ok {N : Nat} {ts : List Kt} : widV (N : Int) ts 0 = .tuple #[.int .i64 (bst (wdt N ts) (prU N N)).1, .int .i64 (bst (wdt N ts) (prU N N)).2.1, .int .i64 0] := by unfold widV; rw [if_pos rfl, Int.toNat_natCast]
theorem bst_rng {f : Nat × Nat → Int} {c : Int} (hc : 1 ≤ c) (hf : ∀ p, f p ≤ c) : ∀ l, -1 ≤ (bst f l).2.2 ∧ (bst f l).2.2 ≤ c := by
  have key : ∀ (l : List (Nat × Nat)) (s : Nat × Nat × Int), -1 ≤ s.2.2 → s.2.2 ≤ c → -1 ≤ (l.foldl (fun s p => if s.2.2 < f p then (p.1, p.2, f p) else s) s).2.2 ∧ (l.foldl (fun s p => if s.2.2 < f p then (p.1, p.2, f p) else s) s).2.2 ≤ c := by
    intro l
    induction l with
    | nil => intro s h1 h2; exact ⟨h1, h2⟩
    | cons p l ih =>
      intro s h1 h2
      rw [List.foldl_cons]
      split
      · exact ih _ (by dsimp only; omega) (hf p)
      · exact ih _ h1 h2
  intro l; exact key l _ (by decide) (by dsimp only; omega)
def oneEdge (E : Int) : Int := if E = 1 then 5 else 0

set_option maxHeartbeats 8000000 in
set_option maxRecDepth 100000 in
theorem widestR_any (E : Int) (ts : List Kt) (v : Value) (w : World) (hl : ts.length ≤ 1000) (h : RT w w.heap.size v ts) :
    Calls Try.prog 42 #[.agg #[.int .i64 E, v]] w fun x w' => x = .returned (widV E ts (openE E ts (oneEdge E))) ∧ Below w.heap.size w w' := by
  obtain ⟨b, off, cap, A, rfl, hAx⟩ := h.slice
  clear hAx
  have hR := h
  clear h
  obtain ⟨n0, hn0⟩ : ∃ n, w.heap.size = n := ⟨_, rfl⟩
  have hC : Below n0 w w := Below.refl _ _
  go_enter Try.func42, Try.ntmps42
  go_wp2_with fail
  have bx : BK (w.alloc (.cells #[.int .i64 E, .slice A ts.length cap] 24)) (n0) #[.int .i64 E, .slice A ts.length cap] 24 := BK.new' _ _ _ (n0) hn0
  have hsbx : (w.alloc (.cells #[.int .i64 E, .slice A ts.length cap] 24)).heap.size = n0 + 1 := by simp [hn0]
  replace hC : Below n0 w (w.alloc (.cells #[.int .i64 E, .slice A ts.length cap] 24)) := Below.alloc hC (by have := hC.size; omega) _
  replace hR := (RS.below hR (w' := (w.alloc (.cells #[.int .i64 E, .slice A ts.length cap] 24))) (Below.alloc (Below.refl _ _) (Nat.le_refl _) _)).more (B' := (w.alloc (.cells #[.int .i64 E, .slice A ts.length cap] 24)).heap.size) (by simp)
  generalize (w.alloc (.cells #[.int .i64 E, .slice A ts.length cap] 24)) = Wbx at *
  clear hsbx
  refine (refBook_any E ts _ _ hl hR).mono ?_
  rintro e w1 ⟨rfl, hb⟩
  replace hC : Below n0 w w1 := hC.trans (hb.mono (by have := hC.size; omega))
  replace hR := (RS.below hR hb).more hb.size
  replace bx := bx.below hb bx.lt
  clear hb
  have lbx := bx.lt
  have bxc0 := bx.cell 0
  have bxc1 := bx.cell 1
  simp at bxc0 bxc1
  obtain ⟨e, he⟩ : ∃ e, bookE E ts = e := ⟨_, rfl⟩
  have HE := Lib.hid he
  rw [he]
  clear he
  by_cases h0 : e = 0
  case neg =>
    have b1 : (e != 0) = true := by simp [h0]
    have HS := Lib.hid (show openE E ts (oneEdge E) = e by rw [openE_bad (by rw [HE.out]; exact h0), HE.out])
    have HN := Lib.hid h0
    clear h0
    go_wp2_with fail
    clear lbx bxc0 bxc1
    refine (refBook_any E ts _ _ hl hR).mono ?_
    rintro e w2 ⟨rfl, hb⟩
    replace hC : Below n0 w w2 := hC.trans (hb.mono (by have := hC.size; omega))
    replace hR := (RS.below hR hb).more hb.size
    replace bx := bx.below hb bx.lt
    clear hb
    rw [HE.out]
    go_wp2_with fail
    exact bodyPost_ret (v := .tuple #[.int .i64 0, .int .i64 0, .int .i64 e]) (by simp [results, Try.results42, go_sem]) rfl ⟨by rw [HS.out, widV_bad HN.out], by first | exact hC | (rw [hn0]; exact hC) | (with_reducible rw [hn0]; exact bel_of) | exact bel_of⟩
  subst h0
  obtain ⟨N, rfl, ho, hl40⟩ := bookE_ok HE.out
  have HO := Lib.hid ho
  have hE := ho.few
  clear ho
  by_cases h1 : N = 1
  case pos =>
    have HS := Lib.hid (show openE (N : Int) ts (oneEdge N) = 5 by rw [show oneEdge N = 5 by unfold oneEdge; rw [if_pos (by omega)], openE_ask HE.out (by decide)])
    have b1 : ((N : Int) == 1) = true := by simp [h1]
    clear h1
    go_wp2_with fail
    exact bodyPost_ret (v := .tuple #[.int .i64 0, .int .i64 0, .int .i64 5]) (by simp [results, Try.results42, go_sem]) rfl ⟨by rw [HS.out, widV_bad (by decide)], by first | exact hC | (rw [hn0]; exact hC) | (with_reducible rw [hn0]; exact bel_of) | exact bel_of⟩
  have H1 := Lib.hid (show oneEdge N = 0 by unfold oneEdge; rw [if_neg (by omega)])
  have b1 : ((N : Int) == 1) = false := beq_eq_false_iff_ne.2 (by omega)
  clear h1
  go_wp2_with fail
  clear lbx bxc0 bxc1
  refine (agreeR_any N ts _ _ HO.out hl hR).mono ?_
  rintro e w2 ⟨rfl, hb⟩
  replace hC : Below n0 w w2 := hC.trans (hb.mono (by have := hC.size; omega))
  replace hR := (RS.below hR hb).more hb.size
  replace bx := bx.below hb bx.lt
  clear hb
  by_cases ha : Agr N ts
  case neg =>
    rw [decide_eq_false ha]
    have HS := Lib.hid (openE_clash HE.out H1.out ha)
    clear ha
    go_wp2_with fail
    exact bodyPost_ret (v := .tuple #[.int .i64 0, .int .i64 0, .int .i64 21]) (by simp [results, Try.results42, go_sem]) rfl ⟨by rw [HS.out, widV_bad (by decide)], by first | exact hC | (rw [hn0]; exact hC) | (with_reducible rw [hn0]; exact bel_of) | exact bel_of⟩
  rw [decide_eq_true ha]
  have HS := Lib.hid (openE_agr HE.out H1.out ha)
  clear ha b1
  go_wp2_with fail
  have hwd : ∀ p, wdt N ts p ≤ 2 * Kp.cap := fun p => by
    have a := rng_D HO.out p.2 p.1
    have b := rng_D HO.out p.1 p.2
    unfold wdt; omega
  have HWD := Lib.hid hwd
  clear hwd
  go_loopw [5, 6, 7, 8] (fun ov tv bv iv wr => ∃ i : Nat, i ≤ N ∧ iv = .int .i64 i ∧ ov = .int .i64 (bst (wdt N ts) (prU N i)).1 ∧ tv = .int .i64 (bst (wdt N ts) (prU N i)).2.1 ∧ bv = .int .i64 (bst (wdt N ts) (prU N i)).2.2 ∧ Below w2.heap.size w2 wr) (fun _ _ _ iv _ => N - (intOf iv).toNat)
  case atStart => exact ⟨0, Nat.zero_le _, rfl, rfl, rfl, rfl, Below.refl _ _⟩
  case round =>
    obtain ⟨i, hi, rfl, rfl, rfl, rfl, hbr⟩ := hrel
    rename World => wo
    have hCr : Below n0 w wo := hC.trans (hbr.mono (by have := hC.size; omega))
    have bx' := bx.below hbr bx.lt
    have hR' := (RS.below hR hbr).more hbr.size
    have lbx := bx'.lt
    have bxc0 := bx'.cell 0
    simp at bxc0
    by_cases hlt : i < N
    · have hst := congrArg (fun l => bst (wdt N ts) (prU N i ++ l)) (prV_low i (i + 1) (Nat.le_refl _))
      rw [List.append_nil] at hst
      rw [← hst]
      clear hst
      go_wp2_with fail
      clear lbx bxc0
      go_loopw [5, 6, 7, 9] (fun ov tv bv iv wr => ∃ j : Nat, i + 1 ≤ j ∧ j ≤ N ∧ iv = .int .i64 j ∧ ov = .int .i64 (bst (wdt N ts) (prU N i ++ prV i j)).1 ∧ tv = .int .i64 (bst (wdt N ts) (prU N i ++ prV i j)).2.1 ∧ bv = .int .i64 (bst (wdt N ts) (prU N i ++ prV i j)).2.2 ∧ Below wo.heap.size wo wr) (fun _ _ _ iv _ => N - (intOf iv).toNat)
      case atStart => exact ⟨i + 1, Nat.le_refl _, by omega, by go_num, rfl, rfl, rfl, Below.refl _ _⟩
      case round =>
        obtain ⟨j, hij, hj, rfl, rfl, rfl, rfl, hbx⟩ := hrel
        have bx2 := bx'.below hbx bx'.lt
        have hR2 := (RS.below hR' hbx).more hbx.size
        have lbx := bx2.lt
        have bxc0 := bx2.cell 0
        have bxc1 := bx2.cell 1
        simp at bxc0 bxc1
        have hbr2 : Below w2.heap.size w2 wr := hbr.trans (hbx.mono hbr.size)
        by_cases hjt : j < N
        · have hap := bst_app (wdt N ts) (prU N i ++ prV i j) (i, j)
          rw [List.append_assoc, ← prV_next (by omega)] at hap
          have hrg := bst_rng (f := wdt N ts) (c := 2 * Kp.cap) (by decide) HWD.out (prU N i ++ prV i j)
          generalize bst (wdt N ts) (prU N i ++ prV i j) = st at *
          obtain ⟨s1, s2, s3⟩ := st
          dsimp only at hap hrg ⊢
          have hwe : wdt N ts (i, j) = D N ts j i - -D N ts i j := rfl
          have r1 := rng_D HO.out j i
          have r2 := rng_D HO.out i j
          have HSP := Lib.hid (spanR_any N ts i j _ _ HO.out hl (by omega) (by omega) hR2)
          go_wp2_with fail
          refine HSP.out.mono ?_
          rintro e w9 ⟨rfl, hb9⟩
          have hbx9 : Below wo.heap.size wo w9 := hbx.trans (hb9.mono hbx.size)
          clear hb9
          unfold spanA
          rw [hwe] at hap
          obtain ⟨dlo, hdlo⟩ : ∃ x, -D N ts i j = x := ⟨_, rfl⟩
          obtain ⟨dhi, hdhi⟩ : ∃ x, D N ts j i = x := ⟨_, rfl⟩
          rw [hdlo, hdhi] at hap ⊢
          have q1 : -1099511627776 ≤ dhi ∧ dhi ≤ 1099511627776 := by unfold Kp.cap at r1; omega
          have q2 : -1099511627776 ≤ dlo ∧ dlo ≤ 1099511627776 := by unfold Kp.cap at r2; omega
          obtain ⟨q3, q4⟩ := q1
          obtain ⟨q5, q6⟩ := q2
          clear hwe r1 r2 HSP hdlo hdhi
          have wx : IntKind.i64.wrap (dhi - dlo) = dhi - dlo := by rw [IntKind.wrap_i64]; omega
          by_cases hgt : s3 < dhi - dlo
          · rw [if_pos hgt] at hap
            have HAP := Lib.hid hap
            clear hap hrg
            go_upto_region 16 with fail
            obtain ⟨g10, hg10⟩ : ∃ n, w9.heap.size = n := ⟨_, rfl⟩
            have b10 : BK (w9.alloc (.cells #[.int .i64 dlo, .int .i64 dhi] 36)) g10 #[.int .i64 dlo, .int .i64 dhi] 36 := BK.new' _ _ _ g10 hg10
            have hb10 : Below wo.heap.size wo (w9.alloc (.cells #[.int .i64 dlo, .int .i64 dhi] 36)) := Below.alloc hbx9 hbx9.size _
            try rw [hg10]
            generalize w9.alloc (.cells #[.int .i64 dlo, .int .i64 dhi] 36) = W0 at *
            clear hg10 bxc0 bxc1
            have lb := b10.lt
            have y0 := b10.cell 0
            have y1 := b10.cell 1
            simp at y0 y1
            refine wp_region_noPanic (plain_any [0, 1, 2, 3, 4, 5, 6] (Below W0.heap.size W0) mixed ?_)
            (refine any_take 0 ?_ (by rfl) (by kernel_rfl) (fun _ _ _ _ _ hx => hx.elim) (.inl ⟨by rfl, ?_⟩) (by exact bel_of) ?_; rotate_left; (intro X hX; obtain ⟨r1, r2⟩ := Below.rules hX; clear hX; go_simp; rfl); simp only [List.getElem_toArray, List.getElem_cons_succ, List.getElem_cons_zero, Act.put, List.setIfInBounds_toArray, List.set_cons_succ, List.set_cons_zero])
            (refine any_take 1 ?_ (by rfl) (by kernel_rfl) (fun _ _ _ _ _ hx => hx.elim) (.inl ⟨by rfl, ?_⟩) (by exact bel_of) ?_; rotate_left; (intro X hX; obtain ⟨r1, r2⟩ := Below.rules hX; clear hX; go_simp; rfl); simp only [List.getElem_toArray, List.getElem_cons_succ, List.getElem_cons_zero, Act.put, List.setIfInBounds_toArray, List.set_cons_succ, List.set_cons_zero])
            (refine any_take 2 ?_ (by rfl) (by kernel_rfl) (fun _ _ _ _ _ hx => hx.elim) (.inl ⟨by rfl, ?_⟩) (by exact bel_of) ?_; rotate_left; (intro X hX; obtain ⟨r1, r2⟩ := Below.rules hX; clear hX; go_simp; rfl); simp only [List.getElem_toArray, List.getElem_cons_succ, List.getElem_cons_zero, Act.put, List.setIfInBounds_toArray, List.set_cons_succ, List.set_cons_zero])
            (refine any_take 3 ?_ (by rfl) (by kernel_rfl) (fun _ _ _ _ _ hx => hx.elim) (.inl ⟨by rfl, ?_⟩) (by exact bel_of) ?_; rotate_left; (intro X hX; obtain ⟨r1, r2⟩ := Below.rules hX; clear hX; go_simp; rfl); simp only [List.getElem_toArray, List.getElem_cons_succ, List.getElem_cons_zero, Act.put, List.setIfInBounds_toArray, List.set_cons_succ, List.set_cons_zero])
            (refine any_take 4 ?_ (by rfl) (by kernel_rfl) (fun _ _ _ _ _ hx => hx.elim) (.inl ⟨by rfl, ?_⟩) (by exact bel_of) ?_; rotate_left; (intro X hX; obtain ⟨r1, r2⟩ := Below.rules hX; clear hX; go_simp; rfl); simp only [List.getElem_toArray, List.getElem_cons_succ, List.getElem_cons_zero, Act.put, List.setIfInBounds_toArray, List.set_cons_succ, List.set_cons_zero])
            (refine any_take 5 ?_ (by rfl) (by kernel_rfl) (fun _ _ _ _ _ hx => hx.elim) (.inl ⟨by rfl, ?_⟩) (by exact bel_of) ?_; rotate_left; (intro X hX; obtain ⟨r1, r2⟩ := Below.rules hX; clear hX; go_simp; rfl); simp only [List.getElem_toArray, List.getElem_cons_succ, List.getElem_cons_zero, Act.put, List.setIfInBounds_toArray, List.set_cons_succ, List.set_cons_zero])
            (refine any_take 6 ?_ (by rfl) (by kernel_rfl) (fun _ _ _ _ _ hx => hx.elim) (.inl ⟨by rfl, ?_⟩) (by exact bel_of) ?_; rotate_left; (intro X hX; obtain ⟨r1, r2⟩ := Below.rules hX; clear hX; go_simp; rfl); simp only [List.getElem_toArray, List.getElem_cons_succ, List.getElem_cons_zero, Act.put, List.setIfInBounds_toArray, List.set_cons_succ, List.set_cons_zero])
            have hd0 : Below W0.heap.size W0 W0.drew := Below.drew (Below.refl _ _)
            refine any_run1 (i := 7) (by kernel_rfl) (by rfl) (by kernel_rfl) ?_
            intro K3 hK3
            go_wp2_with fail
            refine hK3 _ _ (fun _ => hd0) ?_
            clear hK3 K3
            refine any_run1 (i := 8) (by kernel_rfl) (by rfl) (by kernel_rfl) ?_
            intro K3 hK3
            go_wp2_with fail
            refine hK3 _ _ (fun _ => hd0) ?_
            clear hK3 K3
            refine any_run1 (i := 9) (by kernel_rfl) (by rfl) (by kernel_rfl) ?_
            intro K3 hK3
            go_wp2_with fail
            refine hK3 _ _ (fun _ => hd0) ?_
            clear hK3 K3
            refine any_done (by kernel_rfl) (NoPanic.normal ?_)
            have hb11 : Below wo.heap.size wo W0.drew := hb10.trans (hd0.mono hb10.size)
            clear y0 y1 lb
            go_wp2_with fail
            go_roundw
            case rel => exact ⟨j + 1, by omega, by omega, by go_num, by rw [HAP.out], by rw [HAP.out], by rw [HAP.out], hb11⟩
            case measure => simp [intOf]; omega
          · rw [if_neg hgt] at hap
            have HAP := Lib.hid hap
            clear hap hrg
            have hb10 : Below wo.heap.size wo (w9.alloc (.cells #[.int .i64 dlo, .int .i64 dhi] 36)) := Below.alloc hbx9 hbx9.size _
            go_wp2_with fail
            go_roundw
            case rel => exact ⟨j + 1, by omega, by omega, by go_num, by rw [HAP.out], by rw [HAP.out], by rw [HAP.out], hb10⟩
            case measure => simp [intOf]; omega
        · obtain rfl : j = N := by omega
          go_wp2_with fail
          go_roundw
          case rel => exact ⟨i + 1, by omega, by go_num, rfl, rfl, rfl, hbr2⟩
          case measure => simp [intOf]; omega
    · obtain rfl : i = N := by omega
      go_wp2_with fail
      exact bodyPost_ret (v := .tuple #[.int .i64 (bst (wdt i ts) (prU i i)).1, .int .i64 (bst (wdt i ts) (prU i i)).2.1, .int .i64 0]) (by simp [results, Try.results42, go_sem]) rfl ⟨by rw [HS.out, widV_ok], by first | exact hCr | (rw [hn0]; exact hCr)⟩
  

end Go.Proofs.Ytkljdbgkhghiaaa

set_option linter.all false
namespace Go.Proofs.Ytkljdbgkhghiaaa
open Go.RowKit Kp Go.Maps

theorem MP.look2 {W : World} {b n : Nat} {f : Nat → Option Kl} (h : MP W b n f) (k : Nat) (hk : k < 1000) :
    (Instr.lookup 99 (.map (some b)) (.int .i64 k) true).run Try.prog W = .ok (.tuple #[klV ((f k).getD ⟨0, 0, 0⟩), .bool (f k).isSome]) W := by
  obtain ⟨D, h1, h2, h3⟩ := h
  obtain ⟨h4, h5⟩ := h3 k hk
  obtain ⟨v, ps, hrun, hv⟩ := h1.look_ok (int_keyed keyT) mapT (eltZ W) (zd := .held ⟨0, 0, 0⟩) (zp := []) (klEl_of _) (keyOf_int_mk keyT (wf_of (by omega)) : keyOf Try.prog 3 (.int .i64 (k : Int)) = some (.int .i64 k))
  rw [h4] at hrun
  rw [hrun]
  have : v = klV ((f k).getD ⟨0, 0, 0⟩) := by
    cases hf : f k with
    | none =>
      rw [atKey_of_not_has (by rw [h4, hf]; rfl)] at hv
      exact klEl_inv hv
    | some x =>
      rw [h5 x hf] at hv
      exact klEl_inv hv
  rw [this]
theorem MP.get2 {W : World} {b n : Nat} {f : Nat → Option Kl} (h : MP W b n f) (k : Nat) (hk : k < 1000) :
    (Instr.lookup 99 (.map (some b)) (.int .i64 k) false).run Try.prog W = .ok (klV ((f k).getD ⟨0, 0, 0⟩)) W := by
  obtain ⟨D, h1, h2, h3⟩ := h
  obtain ⟨h4, h5⟩ := h3 k hk
  obtain ⟨v, ps, hrun, hv⟩ := h1.lookup (int_keyed keyT) mapT (eltZ W) (zd := .held ⟨0, 0, 0⟩) (zp := []) (klEl_of _) (keyOf_int_mk keyT (wf_of (by omega)) : keyOf Try.prog 3 (.int .i64 (k : Int)) = some (.int .i64 k))
  rw [hrun]
  have : v = klV ((f k).getD ⟨0, 0, 0⟩) := by
    cases hf : f k with
    | none =>
      rw [atKey_of_not_has (by rw [h4, hf]; rfl)] at hv
      exact klEl_inv hv
    | some x =>
      rw [h5 x hf] at hv
      exact klEl_inv hv
  rw [this]

def slen : Value → Nat
  | .slice _ n _ => n
  | _ => 0
section
variable {W : World} {base g n c : Nat} {l : List Kl}
theorem OwnL.blk (h : OwnL W base (.slice (some ⟨g, 0, none⟩) n c) l) : ∃ cur, BK W g cur 44 ∧ base ≤ g ∧ n = l.length ∧ n ≤ c ∧ c ≤ maxLen ∧ cur.size = c * 3 ∧ cur.toList.take (n * 3) = ofG encL l := by
  obtain ⟨hl, h2⟩ := h
  rcases h2 with ⟨hv, _⟩ | ⟨g1, cap1, cur, hv, hbg, hh, hc, hm, hs, htk⟩
  · cases hv
  · injection hv with hv1 hv2 hv3
    injection hv1 with hv1; injection hv1 with hv1
    subst hv1; subst hv3
    rw [hv2]
    exact ⟨cur, hh, hbg, rfl, hc, hm, hs, htk⟩
theorem OwnL.at (h : OwnL W base (.slice (some ⟨g, 0, none⟩) n c) l) {k : Nat} (hk : k < l.length) :
    W.cell? ⟨g, k * 3, none⟩ = some (.int .i64 (nthL l k).src) ∧ W.cell? ⟨g, k * 3 + 1, none⟩ = some (.int .i64 (nthL l k).dst) ∧ W.cell? ⟨g, k * 3 + 2, none⟩ = some (.int .i64 (nthL l k).tst) := by
  obtain ⟨A, cap, b, off, hv, hA, hc⟩ := (OwnL.ri h).cells
  injection hv with h1 h2 h3
  obtain ⟨h4, _⟩ := hA (by omega)
  rw [h4] at h1
  injection h1 with h1
  injection h1 with h1 h5
  subst h1; subst h5
  have := hc k hk
  simpa using this
theorem OwnL.lt' (h : OwnL W base (.slice (some ⟨g, 0, none⟩) n c) l) : g < W.heap.size ∧ base ≤ g := by
  obtain ⟨cur, hb, h1, _⟩ := h.blk
  exact ⟨hb.lt, h1⟩
theorem OwnL.fz (h : OwnL W base (.slice (some ⟨g, 0, none⟩) n c) l) (k : Nat) : W.frozen? ⟨g, k, none⟩ = false := by
  obtain ⟨cur, hb, _⟩ := h.blk
  exact hb.frozen k
end
theorem ofG_set {α : Type} {enc : α → List Value} {s : Nat} (he : ∀ x, (enc x).length = s) : ∀ (l : List α) (k : Nat) (x : α), k < l.length → ofG enc (l.set k x) = (ofG enc l).take (k * s) ++ enc x ++ (ofG enc l).drop ((k + 1) * s)
  | [], k, x, h => by simp at h
  | a :: t, 0, x, _ => by
    have ha := he a
    simp [ofG, List.drop_append, ha]
  | a :: t, k + 1, x, h => by
    have ha := he a
    have ih := ofG_set he t k x (by simpa using h)
    simp only [ofG, List.set_cons_succ, List.flatMap_cons] at ih ⊢
    have t1 : List.take ((k + 1) * s) (enc a) = enc a := List.take_of_length_le (by rw [ha, Nat.succ_mul]; omega)
    have t2 : List.drop ((k + 1 + 1) * s) (enc a) = [] := List.drop_of_length_le (by rw [ha, Nat.succ_mul (k + 1)]; omega)
    have e1 : (k + 1) * s - s = k * s := by rw [Nat.succ_mul]; omega
    have e2 : (k + 1 + 1) * s - s = (k + 1) * s := by rw [Nat.succ_mul (k + 1)]; omega
    rw [ih, List.take_append, List.drop_append, ha, t1, t2, e1, e2, List.nil_append, List.append_assoc, List.append_assoc, List.append_assoc]
theorem set3 (L : List Value) (i : Nat) (a b c : Value) (h : i + 3 ≤ L.length) : ((L.set i a).set (i + 1) b).set (i + 2) c = L.take i ++ [a, b, c] ++ L.drop (i + 3) := by
  apply List.ext_getElem?
  intro j
  have hti : (L.take i).length = i := by rw [List.length_take]; omega
  rw [List.append_assoc]
  by_cases h1 : j < i
  · rw [List.getElem?_append_left (by omega), List.getElem?_take_of_lt h1, List.getElem?_set_ne (by omega), List.getElem?_set_ne (by omega), List.getElem?_set_ne (by omega)]
  · rw [List.getElem?_append_right (by omega), hti]
    by_cases h2 : j < i + 3
    · rw [List.getElem?_append_left (by simp; omega)]
      rcases (show j = i ∨ j = i + 1 ∨ j = i + 2 by omega) with rfl | rfl | rfl
      · rw [List.getElem?_set_ne (by omega), List.getElem?_set_ne (by omega), List.getElem?_set_self (by omega)]; simp
      · rw [List.getElem?_set_ne (by omega), List.getElem?_set_self (by simp; omega)]; simp [show i + 1 - i = 1 by omega]
      · rw [List.getElem?_set_self (by simp; omega)]; simp [show i + 2 - i = 2 by omega]
    · rw [List.getElem?_append_right (by simp; omega), List.getElem?_drop, List.getElem?_set_ne (by omega), List.getElem?_set_ne (by omega), List.getElem?_set_ne (by omega)]
      congr 1
      simp; omega
theorem OwnL.set {W : World} {base g n c : Nat} {l : List Kl} (h : OwnL W base (.slice (some ⟨g, 0, none⟩) n c) l) {p : Nat} (hp : p < l.length) (x : Kl) :
    OwnL (((W.setCell ⟨g, p * 3, none⟩ (.int .i64 x.src)).setCell ⟨g, p * 3 + 1, none⟩ (.int .i64 x.dst)).setCell ⟨g, p * 3 + 2, none⟩ (.int .i64 x.tst)) base (.slice (some ⟨g, 0, none⟩) n c) (l.set p x) := by
  obtain ⟨cur, hb, h1, h2, h3, h4, h5, h6⟩ := h.blk
  have hp3 : p * 3 + 3 ≤ n * 3 := by omega
  have hn3 : n * 3 ≤ c * 3 := by omega
  have hlen := ofG_length encL_len l
  refine ⟨by rw [ofG_length encL_len], .inr ⟨g, c, _, by rw [List.length_set, h2], h1, ((hb.set (p * 3) _).set (p * 3 + 1) _).set (p * 3 + 2) _, by rw [List.length_set]; omega, h4, by simp [h5], ?_⟩⟩
  rw [List.length_set, ← h2, Array.toList_setIfInBounds, Array.toList_setIfInBounds, Array.toList_setIfInBounds, set3 _ _ _ _ _ (by rw [Array.length_toList, h5]; omega), ofG_set encL_len l p x hp, ← h6]
  have hcl : cur.toList.length = c * 3 := by rw [Array.length_toList, h5]
  rw [List.take_take, Nat.min_eq_left (by omega), List.append_assoc, List.append_assoc, List.take_append, List.length_take, hcl, Nat.min_eq_left (by omega), List.take_of_length_le (l := List.take (p * 3) cur.toList) (by rw [List.length_take]; omega)]
  congr 1
  rw [show encL x = [.int .i64 x.src, .int .i64 x.dst, .int .i64 x.tst] from rfl, List.take_append, List.take_of_length_le (by simp; omega)]
  congr 1
  simp only [List.length_cons, List.length_nil]
  rw [show n * 3 - p * 3 - (0 + 1 + 1 + 1) = n * 3 - (p * 3 + 3) by omega, show (p + 1) * 3 = p * 3 + 3 by omega, List.drop_take]

/-- So many exchanges from both ends. -/
def sw (l : List Kl) (i : Nat) : List Kl := (List.range l.length).map fun p => nthL l (if p < i ∨ l.length ≤ p + i then l.length - 1 - p else p)
theorem sw_len (l : List Kl) (i : Nat) : (sw l i).length = l.length := by simp [sw]
theorem sw_at {l : List Kl} {i p : Nat} (hp : p < l.length) : nthL (sw l i) p = nthL l (if p < i ∨ l.length ≤ p + i then l.length - 1 - p else p) := by
  have : (sw l i)[p]? = some (nthL l (if p < i ∨ l.length ≤ p + i then l.length - 1 - p else p)) := by
    unfold sw; simp [hp]
  unfold nthL at *
  rw [List.getD_eq_getElem?_getD, this]; rfl
theorem nthL_ext {xs ys : List Kl} (hl : xs.length = ys.length) (h : ∀ i, i < xs.length → nthL xs i = nthL ys i) : xs = ys := by
  refine List.ext_getElem hl fun i h1 h2 => ?_
  have := h i h1
  unfold nthL at this
  simpa [h1, h2] using this
theorem nthL_set {l : List Kl} {i : Nat} (h : i < l.length) (x : Kl) (j : Nat) : nthL (l.set i x) j = if i = j then x else nthL l j := by
  unfold nthL
  by_cases hij : i = j
  · subst hij; simp [h]
  · simp [hij]
theorem sw_0 (l : List Kl) : sw l 0 = l := nthL_ext (sw_len l 0) fun i hi => by
  rw [sw_len] at hi
  rw [sw_at hi, if_neg (by omega)]
theorem sw_next {l : List Kl} {i : Nat} (hi : i < l.length / 2) : ((sw l i).set i (nthL (sw l i) (l.length - 1 - i))).set (l.length - 1 - i) (nthL (sw l i) i) = sw l (i + 1) := by
  refine nthL_ext (by simp [sw_len]) fun p hp => ?_
  simp only [List.length_set, sw_len] at hp
  rw [nthL_set (by simp [sw_len]; omega), nthL_set (by rw [sw_len]; omega), sw_at (i := i + 1) hp, sw_at (i := i) (p := l.length - 1 - i) (by omega), sw_at (i := i) (p := i) (by omega), sw_at (i := i) hp]
  rw [if_neg (show ¬ (l.length - 1 - i < i ∨ l.length ≤ l.length - 1 - i + i) by omega), if_neg (show ¬ (i < i ∨ l.length ≤ i + i) by omega)]
  by_cases e1 : l.length - 1 - i = p
  · rw [if_pos e1, if_pos (by omega)]
    congr 1; omega
  · rw [if_neg e1]
    by_cases e2 : i = p
    · rw [if_pos e2, if_pos (by omega)]
      congr 1; omega
    · rw [if_neg e2]
      congr 1
      by_cases e3 : p < i ∨ l.length ≤ p + i
      · rw [if_pos e3, if_pos (by omega)]
      · rw [if_neg e3, if_neg (by omega)]
theorem sw_all (l : List Kl) : sw l (l.length / 2) = l.reverse := nthL_ext (by simp [sw_len]) fun p hp => by
  rw [sw_len] at hp
  rw [sw_at hp]
  have : nthL l.reverse p = nthL l (l.length - 1 - p) := by
    unfold nthL
    rw [List.getD_eq_getElem?_getD, List.getD_eq_getElem?_getD, List.getElem?_reverse hp]
  rw [this]
  by_cases e : p < l.length / 2 ∨ l.length ≤ p + l.length / 2
  · rw [if_pos e]
  · rw [if_neg e]
    congr 1; omega
end Go.Proofs.Ytkljdbgkhghiaaa
