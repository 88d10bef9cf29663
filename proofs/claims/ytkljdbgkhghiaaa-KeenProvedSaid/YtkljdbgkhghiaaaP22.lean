/- All edges of a kind; which surely are, and which can be, the sharpest: the program. Sure of the program. May of the program. Of which two edges least is known: the program. -/
import Derived.Test.YtkljdbgkhghiaaaP21
import Derived.BigRegion
set_option linter.all false
set_option linter.unnecessarySimpa false
set_option linter.unusedSimpArgs false
set_option linter.unusedVariables false
set_option linter.unusedSectionVars false

set_option linter.all false
namespace Go.Proofs.Ytkljdbgkhghiaaa
open Go.RowKit Kp

theorem grown_below {w W W' : World} {r : Option Nat} (h : w.grownBy W r) (hb : Below w.heap.size W W') : w.grownBy W' r :=
  ⟨hb.os.trans h.os, hb.tape.trans h.tape, hb.output.trans h.output, Nat.le_trans h.size hb.size, fun k hk hr => (hb.block k hk).trans (h.block k hk hr)⟩
theorem below_grown {w W : World} {gb : Nat} (hb : Below w.heap.size w W) : w.grownBy W (some gb) :=
  ⟨hb.os, hb.tape, hb.output, hb.size, fun k hk _ => hb.block k hk⟩
set_option maxHeartbeats 8000000 in
set_option maxRecDepth 100000 in
theorem edgesMay (E : Nat) (vt : Value) (ts : List Kt) (bel : List Int) (top : Int) (gb : Nat)  (p : Nat → Bool) (J : World → Prop) (w : World) (hE : E ≤ 16) (hB : Bn w gb E vt ts bel top false)
    (hJ : ∀ W W', J W → Below w.heap.size W W' → J W') (h0 : J w)
    (hcall : ∀ (v : Nat) (W : World), v < E → J W → w.heap.size ≤ W.heap.size → Calls Try.prog 67 #[.pointer (some ⟨gb, 0, none⟩), .int .i64 v] W fun e W' => e = .returned (.bool (p v)) ∧ J W' ∧ W.grownBy W' (some gb)) :
    Calls Try.prog 66 #[.pointer (some ⟨gb, 0, none⟩), .func (.func 67) #[.pointer (some ⟨gb, 0, none⟩)] #[]] w fun e w' => ∃ v, e = .returned v ∧ RI w' w'.heap.size v (ev p E) ∧ w.grownBy w' (some gb) := by
  have hgb := hB.lt
  obtain ⟨c0, _, _, _⟩ := hB.cells
  have HJ := Lib.hid hJ
  have HC := Lib.hid hcall
  have H0 := Lib.hid h0
  clear hJ hcall h0 hB
  go_enter Try.func66, Try.ntmps66
  go_wp2_with fail
  go_loopw [5, 12] (fun acc iv wr => ∃ i : Nat, i ≤ E ∧ iv = .int .i64 i ∧ OwnI 3 wr w.heap.size acc (ev p i) ∧ J wr ∧ w.grownBy wr (some gb)) (fun _ iv _ => E - (intOf iv).toNat)
  case atStart => exact ⟨0, Nat.zero_le _, rfl, by simpa [ev] using OwnI.nil _ _ _, H0.out, World.grownBy.refl _ _⟩
  case round =>
    obtain ⟨i, hi, rfl, hown, hj, hgr⟩ := hrel
    have hsz := hgr.size
    by_cases hlt : i < E
    · have HCI := Lib.hid (HC.out i wr hlt hj hsz)
      have HOW := Lib.hid hown
      have HGR := Lib.hid hgr
      clear hown hj hgr
      go_wp2_with fail
      refine HCI.out.mono ?_
      rintro e w9 ⟨rfl, hj9, hg9⟩
      have hown9 := (HOW.out).kept hg9 (.inr (fun hx => by have := (HOW.out.lt gb hx).1; omega))
      have hgr9 := HGR.out.trans hg9
      have hsz9 := hgr9.size
      have HO9 := Lib.hid hown9
      have HJ9 := Lib.hid hj9
      have HG9 := Lib.hid hgr9
      have hly := ev_yes (p := p) (i := i)
      have hln := ev_no (p := p) (i := i)
      generalize p i = q at *
      have HLY := Lib.hid hly
      have HLN := Lib.hid hln
      clear hown9 hj9 hgr9 hg9 HCI HOW HGR hly hln
      cases q with
      | true =>
        obtain ⟨v', w6, hrun, hown', hb', hs', _⟩ := app_int HO9.out (i : Int) (by have := ev_len p i; omega) hsz9 (Below.refl _ w9) w9.heap.size rfl
        rw [HLY.out rfl] at hown'
        have HO3 := Lib.hid hown'
        have HRUN := Lib.hid hrun
        have HJ3 := Lib.hid (HJ.out _ _ HJ9.out hb')
        have HG3 := Lib.hid (grown_below HG9.out hb')
        clear hown' hrun hb' hs'
        go_wp2_with (at_builtin; refine wpList_append_run rfl (.tmp 18) (.tmp 20) 51 _ rfl HRUN.out ?_)
        go_roundw
        case rel => exact ⟨i + 1, by omega, by go_num, HO3.out, HJ3.out, HG3.out⟩
        case measure => simp [intOf]; omega
      | false =>
        rw [HLN.out rfl] at HO9
        go_wp2_with fail
        go_roundw
        case rel => exact ⟨i + 1, by omega, by go_num, HO9.out, HJ9.out, HG9.out⟩
        case measure => simp [intOf]; omega
    · have hie : i = E := by omega
      subst hie
      have HOW := Lib.hid hown
      have HGR := Lib.hid hgr
      clear hown hj hgr
      go_wp2_with fail
      exact bodyPost_ret (v := u5) (by simp [results, Try.results66, go_sem]) rfl ⟨_, rfl, HOW.out.ri, HGR.out⟩

set_option maxHeartbeats 8000000 in
set_option maxRecDepth 100000 in
theorem edgesSure (E : Nat) (vt : Value) (ts : List Kt) (bel : List Int) (top : Int) (gb : Nat) (ca cb : Nat) (p : Nat → Bool) (J : World → Prop) (w : World) (hE : E ≤ 16) (hB : Bn w gb E vt ts bel top false)
    (hJ : ∀ W W', J W → Below w.heap.size W W' → J W') (h0 : J w)
    (hcall : ∀ (v : Nat) (W : World), v < E → J W → w.heap.size ≤ W.heap.size → Calls Try.prog 69 #[.int .i64 v, .pointer (some ⟨ca, 0, none⟩), .pointer (some ⟨cb, 0, none⟩)] W fun e W' => e = .returned (.bool (p v)) ∧ J W' ∧ W.grownBy W' (some gb)) :
    Calls Try.prog 66 #[.pointer (some ⟨gb, 0, none⟩), .func (.func 69) #[] #[.pointer (some ⟨ca, 0, none⟩), .pointer (some ⟨cb, 0, none⟩)]] w fun e w' => ∃ v, e = .returned v ∧ RI w' w'.heap.size v (ev p E) ∧ w.grownBy w' (some gb) := by
  have hgb := hB.lt
  obtain ⟨c0, _, _, _⟩ := hB.cells
  have HJ := Lib.hid hJ
  have HC := Lib.hid hcall
  have H0 := Lib.hid h0
  clear hJ hcall h0 hB
  go_enter Try.func66, Try.ntmps66
  go_wp2_with fail
  go_loopw [5, 12] (fun acc iv wr => ∃ i : Nat, i ≤ E ∧ iv = .int .i64 i ∧ OwnI 3 wr w.heap.size acc (ev p i) ∧ J wr ∧ w.grownBy wr (some gb)) (fun _ iv _ => E - (intOf iv).toNat)
  case atStart => exact ⟨0, Nat.zero_le _, rfl, by simpa [ev] using OwnI.nil _ _ _, H0.out, World.grownBy.refl _ _⟩
  case round =>
    obtain ⟨i, hi, rfl, hown, hj, hgr⟩ := hrel
    have hsz := hgr.size
    by_cases hlt : i < E
    · have HCI := Lib.hid (HC.out i wr hlt hj hsz)
      have HOW := Lib.hid hown
      have HGR := Lib.hid hgr
      clear hown hj hgr
      go_wp2_with fail
      refine HCI.out.mono ?_
      rintro e w9 ⟨rfl, hj9, hg9⟩
      have hown9 := (HOW.out).kept hg9 (.inr (fun hx => by have := (HOW.out.lt gb hx).1; omega))
      have hgr9 := HGR.out.trans hg9
      have hsz9 := hgr9.size
      have HO9 := Lib.hid hown9
      have HJ9 := Lib.hid hj9
      have HG9 := Lib.hid hgr9
      have hly := ev_yes (p := p) (i := i)
      have hln := ev_no (p := p) (i := i)
      generalize p i = q at *
      have HLY := Lib.hid hly
      have HLN := Lib.hid hln
      clear hown9 hj9 hgr9 hg9 HCI HOW HGR hly hln
      cases q with
      | true =>
        obtain ⟨v', w6, hrun, hown', hb', hs', _⟩ := app_int HO9.out (i : Int) (by have := ev_len p i; omega) hsz9 (Below.refl _ w9) w9.heap.size rfl
        rw [HLY.out rfl] at hown'
        have HO3 := Lib.hid hown'
        have HRUN := Lib.hid hrun
        have HJ3 := Lib.hid (HJ.out _ _ HJ9.out hb')
        have HG3 := Lib.hid (grown_below HG9.out hb')
        clear hown' hrun hb' hs'
        go_wp2_with (at_builtin; refine wpList_append_run rfl (.tmp 18) (.tmp 20) 51 _ rfl HRUN.out ?_)
        go_roundw
        case rel => exact ⟨i + 1, by omega, by go_num, HO3.out, HJ3.out, HG3.out⟩
        case measure => simp [intOf]; omega
      | false =>
        rw [HLN.out rfl] at HO9
        go_wp2_with fail
        go_roundw
        case rel => exact ⟨i + 1, by omega, by go_num, HO9.out, HJ9.out, HG9.out⟩
        case measure => simp [intOf]; omega
    · have hie : i = E := by omega
      subst hie
      have HOW := Lib.hid hown
      have HGR := Lib.hid hgr
      clear hown hj hgr
      go_wp2_with fail
      exact bodyPost_ret (v := u5) (by simp [results, Try.results66, go_sem]) rfl ⟨_, rfl, HOW.out.ri, HGR.out⟩

end Go.Proofs.Ytkljdbgkhghiaaa

set_option linter.all false
namespace Go.Proofs.Ytkljdbgkhghiaaa
open Go.RowKit Kp

set_option maxHeartbeats 8000000 in
set_option maxRecDepth 100000 in
theorem sure1_any (E : Nat) (vt : Value) (ts : List Kt) (bel : List Int) (top : Int) (gb ca cb v : Nat) (w : World) (ho : Okb E ts) (ha : Agr E ts) (hl : ts.length ≤ 40) (ht : 0 ≤ top ∧ top < E) (hv : v < E) (hB : Bn w gb E vt ts bel top false)
    (hca : w.cell? ⟨ca, 0, none⟩ = some (.int .i64 E)) (hcb : w.cell? ⟨cb, 0, none⟩ = some (.pointer (some ⟨gb, 0, none⟩))) (la : ca < w.heap.size) (lb : cb < w.heap.size) :
    Calls Try.prog 69 #[.int .i64 v, .pointer (some ⟨ca, 0, none⟩), .pointer (some ⟨cb, 0, none⟩)] w fun e w' => e = .returned (.bool (sureB E ts v)) ∧ Below w.heap.size w w' := by
  have hE := ho.few
  have HB := Lib.hid hB
  have HO := Lib.hid ho
  have HA := Lib.hid ha
  clear hB ho ha
  go_enter Try.func69, Try.ntmps69
  go_wp2_with fail
  go_loopw [8] (fun iv wr => ∃ j : Nat, j ≤ E ∧ iv = .int .i64 j ∧ (List.range j).all (sureF E ts v) = true ∧ Below w.heap.size w wr) (fun iv _ => E - (intOf iv).toNat)
  case atStart => exact ⟨0, Nat.zero_le _, rfl, rfl, Below.refl _ _⟩
  case round =>
    obtain ⟨j, hj, rfl, hall, hbr⟩ := hrel
    have HALL := Lib.hid hall
    clear hall
    by_cases hjt : j < E
    · have hcb' := (hbr.cell (p := ⟨cb, 0, none⟩) lb).trans hcb
      have lb' : cb < wr.heap.size := Nat.lt_of_lt_of_le lb hbr.size
      have hsu := all_succ (sureF E ts v) j
      rw [HALL.out, Bool.true_and] at hsu
      have hsf : sureF E ts v j = (decide (j = v) || decide (0 ≤ -D E ts v j)) := rfl
      have HSP := Lib.hid (span_any E vt ts bel top gb v j wr HO.out HA.out hl ht (by omega) (by omega) (HB.out.below hbr))
      have HSU := Lib.hid hsu
      have HSF := Lib.hid hsf
      clear hsu hsf
      by_cases hji : j = v
      · have HT := Lib.hid (show sureF E ts v j = true by rw [HSF.out, decide_eq_true hji]; rfl)
        have b1 : ((j : Int) == (v : Int)) = true := by simp [hji]
        have b2 : ((j : Int) != (v : Int)) = false := by simp [hji]
        clear hji
        go_wp2_with fail
        go_roundw
        case rel => exact ⟨j + 1, by omega, by go_num, by rw [HSU.out, HT.out], hbr⟩
        case measure => simp [intOf]; omega
      · have hT := (show sureF E ts v j = decide (0 ≤ -D E ts v j) by rw [HSF.out, decide_eq_false hji]; rfl)
        have b1 : ((j : Int) == (v : Int)) = false := beq_eq_false_iff_ne.2 (by omega)
        have b2 : ((j : Int) != (v : Int)) = true := by simp; omega
        clear hji
        go_wp2_with fail
        refine HSP.out.mono ?_
        rintro e w9 ⟨rfl, hb9⟩
        have hbx9 : Below w.heap.size w w9 := hbr.trans (hb9.mono hbr.size)
        clear hb9
        unfold spanA
        generalize -D E ts v j = dlo at *
        generalize D E ts j v = dhi at *
        have F0 := fun W => rg_lo dlo dhi W
        have HT := Lib.hid hT
        clear hT
        by_cases hd : dlo < 0
        · have HT2 := Lib.hid (HT.out.trans (decide_eq_false (by omega)))
          have HS : sureB E ts v = false := by
            unfold sureB
            rw [List.all_eq_false]
            exact ⟨j, List.mem_range.2 hjt, by rw [HT2.out]; simp⟩
          have HS2 := Lib.hid HS
          clear HS
          go_wp2_with fail
          exact bodyPost_ret (v := .bool false) (by simp [results, Try.results69, go_sem]) rfl ⟨by rw [HS2.out], hbx9⟩
        · have HT2 := Lib.hid (HT.out.trans (decide_eq_true (by omega)))
          go_wp2_with fail
          go_roundw
          case rel => exact ⟨j + 1, by omega, by go_num, by rw [HSU.out, HT2.out], hbx9⟩
          case measure => simp [intOf]; omega
    · have hjN : j = E := by omega
      subst hjN
      have HS2 := Lib.hid (show sureB j ts v = true from HALL.out)
      go_wp2_with fail
      exact bodyPost_ret (v := .bool true) (by simp [results, Try.results69, go_sem]) rfl ⟨by rw [HS2.out], hbr⟩

/-- A list of numbers, and the error. -/
def ListPost (E : Int) (ts : List Kt) (P : Nat → List Kt → List Int) (w : World) (e : Ending) (w' : World) : Prop :=
  ∃ v, e = .returned (.tuple #[v, .int .i64 (openE E ts 0)]) ∧ RI w' w'.heap.size v (listE P E ts (openE E ts 0)) ∧ Below w.heap.size w w'
theorem ListPost.no {E : Int} {ts : List Kt} {P : Nat → List Kt → List Int} {w w' : World} {r : Int} (h : openE E ts 0 = r) (hr : r ≠ 0) (hb : Below w.heap.size w w') : ListPost E ts P w (.returned (.tuple #[.slice none 0 0, .int .i64 r])) w' :=
  ⟨_, by rw [h], by rw [h, listE_bad hr]; exact ri_nil _ _, hb⟩
theorem ListPost.yes {N : Nat} {ts : List Kt} {P : Nat → List Kt → List Int} {w w' : World} {v : Value} (h : openE (N : Int) ts 0 = 0) (hr : RI w' w'.heap.size v (P N ts)) (hb : Below w.heap.size w w') : ListPost (N : Int) ts P w (.returned (.tuple #[v, .int .i64 0])) w' :=
  ⟨v, by rw [h], by rw [h, listE_ok]; exact hr, hb⟩

set_option maxHeartbeats 8000000 in
set_option maxRecDepth 100000 in
theorem sureP_any (E : Int) (ts : List Kt) (v : Value) (w : World) (hl : ts.length ≤ 1000) (h : RT w w.heap.size v ts) :
    Calls Try.prog 36 #[.agg #[.int .i64 E, v]] w (ListPost E ts sureP w) := by
  obtain ⟨b, off, cap, A, rfl, hAx⟩ := h.slice
  clear hAx
  have hR := h
  clear h
  obtain ⟨n0, hn0⟩ : ∃ n, w.heap.size = n := ⟨_, rfl⟩
  have hC : Below n0 w w := Below.refl _ _
  go_enter Try.func36, Try.ntmps36
  go_wp2_with fail
  have hqbx : n0 ≤ n0 := by have := hC.size; omega
  have bx : BK (w.alloc (.cells #[.int .i64 E, .slice A ts.length cap] 24)) (n0) #[.int .i64 E, .slice A ts.length cap] 24 := BK.new' _ _ _ (n0) hn0
  have hsbx : (w.alloc (.cells #[.int .i64 E, .slice A ts.length cap] 24)).heap.size = n0 + 1 := by simp [hn0]
  replace hC : Below n0 w (w.alloc (.cells #[.int .i64 E, .slice A ts.length cap] 24)) := Below.alloc hC (by have := hC.size; omega) _
  replace hR := (RS.below hR (w' := (w.alloc (.cells #[.int .i64 E, .slice A ts.length cap] 24))) (Below.alloc (Below.refl _ _) (Nat.le_refl _) _)).more (B' := (w.alloc (.cells #[.int .i64 E, .slice A ts.length cap] 24)).heap.size) (by simp)
  generalize (w.alloc (.cells #[.int .i64 E, .slice A ts.length cap] 24)) = Wbx at *
  have hzx : n0 ≤ Wbx.heap.size := by have := hC.size; omega
  clear hsbx
  refine (open_any E 0 ts _ _ hl hR).mono ?_
  rintro e w1 ⟨p, rfl, hop, hb⟩
  replace hC : Below n0 w w1 := hC.trans (hb.mono (by have := hC.size; omega))
  replace hR := (RS.below hR hb).more hb.size
  replace bx := bx.below hb bx.lt
  clear hb
  obtain ⟨e, he⟩ : ∃ e, openE E ts 0 = e := ⟨_, rfl⟩
  have HE := Lib.hid he
  rw [he] at hop ⊢
  clear he
  by_cases h0 : e = 0
  case neg =>
    clear hop
    have b1 : (e != 0) = true := by simp [h0]
    have HN := Lib.hid h0
    clear h0
    go_wp2_with fail
    replace hC := Below.alloc hC (by have := hC.size; omega) (.cells #[.pointer p] 80)
    exact bodyPost_ret (v := .tuple #[.slice none 0 0, .int .i64 e]) (by simp [results, Try.results36, go_sem]) rfl (ListPost.no HE.out HN.out (by first | exact hC | (rw [hn0]; exact hC)))
  subst h0
  obtain ⟨N, rfl, ho, hl40, h2, hg, hbk⟩ := openE_ok HE.out
  obtain ⟨gb, rfl, hBn, hgb, hRg⟩ := hop rfl
  rw [Int.toNat_natCast] at hBn
  have HO := Lib.hid ho
  have HG := Lib.hid hg
  have hE := ho.few
  clear ho h2 hg hbk hop
  go_wp2_with fail
  obtain ⟨m1, hm1⟩ : ∃ n, w1.heap.size = n := ⟨_, rfl⟩
  try rw [hm1]
  have hqbp : n0 ≤ m1 := by have := hC.size; omega
  have bp : BK (w1.alloc (.cells #[.pointer (some ⟨gb, 0, none⟩)] 80)) (m1) #[.pointer (some ⟨gb, 0, none⟩)] 80 := BK.new' _ _ _ (m1) hm1
  have hsbp : (w1.alloc (.cells #[.pointer (some ⟨gb, 0, none⟩)] 80)).heap.size = m1 + 1 := by simp [hm1]
  replace hC : Below n0 w (w1.alloc (.cells #[.pointer (some ⟨gb, 0, none⟩)] 80)) := Below.alloc hC (by have := hC.size; omega) _
  replace hR := (RS.below hR (w' := (w1.alloc (.cells #[.pointer (some ⟨gb, 0, none⟩)] 80))) (Below.alloc (Below.refl _ _) (Nat.le_refl _) _)).more (B' := (w1.alloc (.cells #[.pointer (some ⟨gb, 0, none⟩)] 80)).heap.size) (by simp)
  replace bx := bx.alloc (.cells #[.pointer (some ⟨gb, 0, none⟩)] 80)
  replace hBn := Bn.below hBn (W' := (w1.alloc (.cells #[.pointer (some ⟨gb, 0, none⟩)] 80))) (Below.alloc (Below.refl _ _) (Nat.le_refl _) _)
  generalize (w1.alloc (.cells #[.pointer (some ⟨gb, 0, none⟩)] 80)) = Wbp at *
  clear hm1
  have hc0 : Wbp.cell? ⟨n0, 0, none⟩ = some (.int .i64 N) := by rw [bx.cell]; rfl
  have hc1 : Wbp.cell? ⟨m1, 0, none⟩ = some (.pointer (some ⟨gb, 0, none⟩)) := by rw [bp.cell]; rfl
  have lc0 := bx.lt
  have lc1 := bp.lt
  refine (edgesSure N _ ts _ 0 gb n0 (m1) (sureB N ts) (fun W => Below Wbp.heap.size Wbp W) Wbp hE hBn (fun W W' h h' => h.trans (h'.mono (Nat.le_refl _))) (Below.refl _ _) (fun v W hv hJ hs => ?_)).mono ?_
  · refine (sure1_any N _ ts _ 0 gb n0 (m1) v W HO.out HG.out hl40 ⟨Int.le_refl 0, by have := HO.out.pos; omega⟩ hv (hBn.below hJ) ((hJ.cell (p := ⟨n0, 0, none⟩) lc0).trans hc0) ((hJ.cell (p := ⟨m1, 0, none⟩) lc1).trans hc1) (Nat.lt_of_lt_of_le lc0 hJ.size) (Nat.lt_of_lt_of_le lc1 hJ.size)).mono ?_
    rintro e w9 ⟨he, hb9⟩
    exact ⟨he, hJ.trans (hb9.mono hJ.size), below_grown hb9⟩
  rintro e w9 ⟨vl, rfl, hri, hgr⟩
  replace hC : Below n0 w w9 := Below.grown hC hgr (by have := hC.size; omega) (fun k hk => by injection hk with hk; omega)
  clear hBn hR
  have HRI := Lib.hid hri
  clear hri
  go_wp2_with fail
  exact bodyPost_ret (v := .tuple #[vl, .int .i64 0]) (by simp [results, Try.results36, go_sem]) rfl (ListPost.yes HE.out HRI.out (by first | exact hC | (rw [hn0]; exact hC)))

end Go.Proofs.Ytkljdbgkhghiaaa

set_option linter.all false
namespace Go.Proofs.Ytkljdbgkhghiaaa
open Go.RowKit Kp

/-- Which edges are below: all but one. -/
def belM (v : Nat) : Nat → List Int
  | 0 => List.replicate 16 0
  | u + 1 => if u = v then belM v u else (belM v u).set u 1
theorem belM_len (v : Nat) : ∀ n, (belM v n).length = 16
  | 0 => by simp [belM]
  | n + 1 => by
    have := belM_len v n
    rw [belM]; split
    · exact this
    · simpa using this
theorem belM_at (v : Nat) : ∀ n, n ≤ 16 → ∀ x, x < 16 → nthI (belM v n) x = if x < n ∧ x ≠ v then 1 else 0
  | 0, _, x, hx => by rw [if_neg (by omega)]; exact nthI_rep hx
  | n + 1, hn, x, hx => by
    have ih := belM_at v n (by omega) x hx
    rw [belM]
    split
    · rename_i e
      rw [ih]
      by_cases h : x < n ∧ x ≠ v
      · rw [if_pos h, if_pos (by omega)]
      · rw [if_neg h, if_neg (by omega)]
    · rename_i e
      rw [nthI_set (by rw [belM_len]; omega), ih]
      by_cases h2 : n = x
      · rw [if_pos h2, if_pos (by omega)]
      · rw [if_neg h2]
        by_cases h : x < n ∧ x ≠ v
        · rw [if_pos h, if_pos (by omega)]
        · rw [if_neg h, if_neg (by omega)]
theorem lkE_congr {q q' : Nat → Bool} {top : Int} : ∀ n, (∀ u, u < n → q u = q' u) → lkE q top n = lkE q' top n
  | 0, _ => rfl
  | n + 1, h => by
    rw [lkE_succ, lkE_succ, lkE_congr n fun u hu => h u (by omega)]
    unfold lkV
    rw [h n (by omega)]
theorem lks_may {E v : Nat} {ts : List Kt} (hE : E ≤ 16) : lks E ts (qOf (belM v E) true) v = lks E ts (fun u => decide (u ≠ v)) v := by
  unfold lks
  rw [lkE_congr (q := qOf (belM v E) true) (q' := fun u => decide (u ≠ v)) E fun u hu => ?_]
  unfold qOf
  rw [belM_at v E hE u (by omega)]
  by_cases h : u = v
  · rw [if_neg (by omega)]; simp [h]
  · rw [if_pos (by omega)]; simp [h]
section
variable {W : World} {g E : Nat} {vt : Value} {bel : List Int} {top : Int} {asks : Bool} {t : TypeId}
theorem bench_bel (h : BK W g (benchC E vt bel top asks).toArray t) (hl : bel.length = 16) {u : Nat} (hu : u < 16) (x : Int) : BK (W.setCell ⟨g, 2 + u, none⟩ (.int .i64 x)) g (benchC E vt (bel.set u x) top asks).toArray t := by
  have := h.set (2 + u) (.int .i64 x)
  have e : (benchC E vt bel top asks).toArray.setIfInBounds (2 + u) (.int .i64 x) = (benchC E vt (bel.set u x) top asks).toArray := by
    rw [List.setIfInBounds_toArray]
    unfold benchC
    rw [List.set_append_right _ _ (by simp), List.set_append_left _ _ (by rw [ofI_len, hl]; simp only [List.length_cons, List.length_nil]; omega)]
    simp only [List.length_cons, List.length_nil]
    rw [show 2 + u - (0 + 1 + 1) = u by omega, ofI_set]
  rw [e] at this
  exact this
theorem bench_top (h : BK W g (benchC E vt bel top asks).toArray t) (hl : bel.length = 16) (x : Int) : BK (W.setCell ⟨g, 18, none⟩ (.int .i64 x)) g (benchC E vt bel x asks).toArray t := by
  have := h.set 18 (.int .i64 x)
  have e : (benchC E vt bel top asks).toArray.setIfInBounds 18 (.int .i64 x) = (benchC E vt bel x asks).toArray := by
    rw [List.setIfInBounds_toArray]
    unfold benchC
    rw [List.set_append_right _ _ (by simp), List.set_append_right _ _ (by rw [ofI_len, hl]; simp)]
    simp only [List.length_cons, List.length_nil, ofI_len, hl]
    rfl
  rw [e] at this
  exact this
theorem bench_asks (h : BK W g (benchC E vt bel top asks).toArray t) (hl : bel.length = 16) (b : Bool) : BK (W.setCell ⟨g, 19, none⟩ (.bool b)) g (benchC E vt bel top b).toArray t := by
  have := h.set 19 (.bool b)
  have e : (benchC E vt bel top asks).toArray.setIfInBounds 19 (.bool b) = (benchC E vt bel top b).toArray := by
    rw [List.setIfInBounds_toArray]
    unfold benchC
    rw [List.set_append_right _ _ (by simp), List.set_append_right _ _ (by rw [ofI_len, hl]; simp)]
    simp only [List.length_cons, List.length_nil, ofI_len, hl]
    rfl
  rw [e] at this
  exact this
theorem bench_clear (h : BK W g (benchC E vt bel top asks).toArray t) (hl : bel.length = 16) : BK (W.setCells g 2 (List.replicate 16 (.int .i64 0))) g (benchC E vt (List.replicate 16 0) top asks).toArray t := by
  have hb : (benchC E vt bel top asks).length = 20 := by simp [benchC, ofI_len, hl]
  have := BK.setCells (List.replicate 16 (.int .i64 0)) 2 W _ h (by rw [hb]; simp)
  have e : (benchC E vt bel top asks).take 2 ++ List.replicate 16 (.int .i64 0) ++ (benchC E vt bel top asks).drop (2 + (List.replicate 16 (Value.int .i64 0)).length) = benchC E vt (List.replicate 16 0) top asks := by
    unfold benchC
    rw [List.take_append, List.drop_append, List.drop_append, ofI_len, hl]
    simp [ofI, hl]
  rw [e] at this
  exact this
end
theorem setCell_size (W : World) (p : Addr) (u : Value) : (W.setCell p u).heap.size = W.heap.size := by simp [World.setCell]
theorem grown_set {w W : World} {gb : Nat} (h : w.grownBy W (some gb)) (i : Nat) (u : Value) : w.grownBy (W.setCell ⟨gb, i, none⟩ u) (some gb) :=
  ⟨h.os, h.tape, h.output, by rw [setCell_size]; exact h.size, fun k hk hr => (Below.heap_setCell _ _ _ _ (fun e => hr (by rw [e]))).trans (h.block k hk hr)⟩
theorem grown_sets {w : World} {gb : Nat} : ∀ (vs : List Value) (o : Nat) (W : World), w.grownBy W (some gb) → w.grownBy (W.setCells gb o vs) (some gb)
  | [], _, _, h => h
  | v :: vs, o, W, h => by
    unfold World.setCells
    exact grown_sets vs _ _ (grown_set h o v)
/-- A bench that may have been asked. -/
def Asked (E : Nat) (vt : Value) (ts : List Kt) (gb : Nat) (W : World) : Prop := (∃ bel top, Bn W gb E vt ts bel top false) ∧ RT W gb vt ts
theorem arr16 : Try.prog.underlying 81 = some (.array 16 3) := by kernel_rfl

set_option maxHeartbeats 8000000 in
set_option maxRecDepth 100000 in
theorem may_any (E : Nat) (vt : Value) (ts : List Kt) (gb v : Nat) (w : World) (ho : Okb E ts) (hl : ts.length ≤ 40) (hv : v < E) (hA : Asked E vt ts gb w) :
    Calls Try.prog 67 #[.pointer (some ⟨gb, 0, none⟩), .int .i64 v] w fun e w' => e = .returned (.bool (mayB E ts v)) ∧ Asked E vt ts gb w' ∧ w.grownBy w' (some gb) := by
  have hE := ho.few
  obtain ⟨⟨bel, top, hB⟩, hR⟩ := hA
  have hgb := hB.lt
  obtain ⟨h1, _, h3⟩ := hB
  have HR := Lib.hid hR
  have c0 : w.cell? ⟨gb, 0, none⟩ = some (.int .i64 E) := by rw [h1.cell]; rfl
  clear hR
  go_enter Try.func67, Try.ntmps67
  have hlen : (benchC E vt bel top false).length = 20 := by simp [benchC, ofI_len, h3]
  have hclr : ∀ ty, (Builtin.clear_ #[51] ty #[.slice (some ⟨gb, 2, none⟩) 16 16]).run Try.prog w = .ok (.tuple #[]) (w.setCells gb 2 (List.replicate 16 (.int .i64 0))) := fun ty =>
    Lib.run_clear_slice w 51 3 ty (.int .i64 0) int_slice (fun W => by simp [zeroValue, go_sem, Try.t3]) rfl rfl gb 2 16 16 (by decide)
      (fun j hj => by rw [h1.cell, Array.getElem?_eq_getElem (by simp [hlen]; omega)]; rfl) (fun j hj => h1.frozen _)
  have hk2 := bench_clear h1 h3
  have hg2 := grown_sets (List.replicate 16 (.int .i64 0)) 2 w (World.grownBy.refl w (some gb))
  have hb2 : Below gb w (w.setCells gb 2 (List.replicate 16 (.int .i64 0))) := setCells_below (Nat.le_refl _) _ _ _ (Below.refl _ _)
  generalize w.setCells gb 2 (List.replicate 16 (.int .i64 0)) = W2 at *
  have HK2 := Lib.hid hk2
  have HG2 := Lib.hid hg2
  have HB2 := Lib.hid hb2
  have c02 : W2.cell? ⟨gb, 0, none⟩ = some (.int .i64 E) := by rw [hk2.cell]; rfl
  have lg2 := hk2.lt
  clear h1 hk2 hg2 hb2 h3 hlen
  go_wp2_with fail
  clear hclr c0
  go_loopw [17] (fun iv wr => ∃ j : Nat, j ≤ E ∧ iv = .int .i64 j ∧ BK wr gb (benchC E vt (belM v j) top false).toArray 83 ∧ w.grownBy wr (some gb) ∧ Below gb w wr) (fun iv _ => E - (intOf iv).toNat)
  case atStart => exact ⟨0, Nat.zero_le _, rfl, HK2.out, HG2.out, HB2.out⟩
  case round =>
    obtain ⟨j, hj, rfl, hk, hgr, hbr⟩ := hrel
    have lgr := hk.lt
    by_cases hjt : j < E
    · have hj16 : j < 16 := by omega
      have hbl := belM_len v j
      have cj : wr.cell? ⟨gb, 2 + j, none⟩ = some (.int .i64 (nthI (belM v j) j)) := by
        rw [hk.cell, List.getElem?_toArray]
        unfold benchC
        rw [List.getElem?_append_right (by simp), List.getElem?_append_left (by rw [ofI_len, hbl]; simp; omega)]
        simpa using ofI_get (show j < (belM v j).length by omega)
      have fj := hk.frozen (2 + j)
      have HGR := Lib.hid hgr
      have HBR := Lib.hid hbr
      by_cases hji : j = v
      · have HJ := Lib.hid (show belM v (j + 1) = belM v j by rw [belM, if_pos hji])
        have b1 : ((j : Int) == (v : Int)) = true := by simp [hji]
        have b2 : ((j : Int) != (v : Int)) = false := by simp [hji]
        have HK := Lib.hid hk
        clear hji hk hgr hbr hbl
        go_wp2_with fail
        go_roundw
        case rel => exact ⟨j + 1, by omega, by go_num, by rw [HJ.out]; exact HK.out, HGR.out, HBR.out⟩
        case measure => simp [intOf]; omega
      · have HJ := Lib.hid (show belM v (j + 1) = (belM v j).set j 1 by rw [belM, if_neg hji])
        have b1 : ((j : Int) == (v : Int)) = false := beq_eq_false_iff_ne.2 (by omega)
        have b2 : ((j : Int) != (v : Int)) = true := by simp; omega
        have HK := Lib.hid (bench_bel hk hbl hj16 1)
        have HG3 := Lib.hid (grown_set hgr (2 + j) (.int .i64 1))
        have HB3 := Lib.hid (Below.setCell (p := ⟨gb, 2 + j, none⟩) hbr (Nat.le_refl _) (.int .i64 1))
        have hj16i : (j : Int) < 16 := by omega
        clear hji hk hgr hbr hbl
        go_wp2_with fail
        go_roundw
        case rel => exact ⟨j + 1, by omega, by go_num, by rw [HJ.out]; exact HK.out, HG3.out, HB3.out⟩
        case measure => simp [intOf]; omega
    · have hjE : j = E := by omega
      subst hjE
      have hbl := belM_len v j
      have c18 : wr.cell? ⟨gb, 18, none⟩ = some (.int .i64 top) := by
        rw [hk.cell, List.getElem?_toArray]
        unfold benchC
        rw [List.getElem?_append_right (by simp), List.getElem?_append_right (by rw [ofI_len, hbl]; simp)]
        simp [ofI_len, hbl]
      have c19 : wr.cell? ⟨gb, 19, none⟩ = some (.bool false) := by
        rw [hk.cell, List.getElem?_toArray]
        unfold benchC
        rw [List.getElem?_append_right (by simp), List.getElem?_append_right (by rw [ofI_len, hbl]; simp)]
        simp [ofI_len, hbl]
      have f18 := hk.frozen 18
      have f19 := hk.frozen 19
      have hk3 := bench_asks (bench_top hk hbl (v : Int)) hbl true
      have hg3 := grown_set (grown_set hgr 18 (.int .i64 (v : Int))) 19 (.bool true)
      have hb3 : Below gb w ((wr.setCell ⟨gb, 18, none⟩ (.int .i64 (v : Int))).setCell ⟨gb, 19, none⟩ (.bool true)) := Below.setCell (Below.setCell hbr (Nat.le_refl _) _) (Nat.le_refl _) _
      have HK3 := Lib.hid hk3
      have HG3 := Lib.hid hg3
      have HB3 := Lib.hid hb3
      have hs3 : ((wr.setCell ⟨gb, 18, none⟩ (.int .i64 (v : Int))).setCell ⟨gb, 19, none⟩ (.bool true)).heap.size = wr.heap.size := by rw [setCell_size, setCell_size]
      have HS3 := Lib.hid hs3
      clear hk hgr hbr hk3 hg3 hb3 hs3
      go_upto_region 9 with fail
      clear c18 c19 f18 f19 lgr
      generalize (wr.setCell ⟨gb, 18, none⟩ (.int .i64 (v : Int))).setCell ⟨gb, 19, none⟩ (.bool true) = W3 at *
      have HSE := HS3
      clear HS3
      go_wp2_with fail
      obtain ⟨gl, hgl⟩ : ∃ n, W3.heap.size = n := ⟨_, rfl⟩
      rw [hgl]
      have hwl : w.heap.size ≤ gl := by rw [← hgl]; exact HG3.out.size
      have hL : Lk (W3.alloc (.cells #[.int .i64 0, .int .i64 0, .int .i64 0, .int .i64 0, .int .i64 0, .int .i64 0, .int .i64 0, .int .i64 0, .int .i64 0, .int .i64 0, .int .i64 0, .int .i64 0, .int .i64 0, .int .i64 0, .int .i64 0, .int .i64 0, .int .i64 0, .map none, .int .i64 0] 101)) gl (List.replicate 17 0) (.map none) 0 := ⟨BK.new' _ _ _ gl hgl, rfl⟩
      have hbX : Below W3.heap.size W3 (W3.alloc (.cells #[.int .i64 0, .int .i64 0, .int .i64 0, .int .i64 0, .int .i64 0, .int .i64 0, .int .i64 0, .int .i64 0, .int .i64 0, .int .i64 0, .int .i64 0, .int .i64 0, .int .i64 0, .int .i64 0, .int .i64 0, .int .i64 0, .int .i64 0, .map none, .int .i64 0] 101)) := Below.alloc (Below.refl _ _) (Nat.le_refl _) _
      have hk4 := HK3.out.below hbX HK3.out.lt
      have hR3 : RT W3 gb vt ts := RS.below HR.out HB3.out
      have hg4 := grown_below HG3.out (hbX.mono HG3.out.size)
      have hgbl : gb < gl := by rw [← hgl]; exact HK3.out.lt
      have hR4 : RT (W3.alloc (.cells #[.int .i64 0, .int .i64 0, .int .i64 0, .int .i64 0, .int .i64 0, .int .i64 0, .int .i64 0, .int .i64 0, .int .i64 0, .int .i64 0, .int .i64 0, .int .i64 0, .int .i64 0, .int .i64 0, .int .i64 0, .int .i64 0, .int .i64 0, .map none, .int .i64 0] 101)) gb vt ts := RS.below hR3 (hbX.mono (by omega))
      clear hgl hbX
      generalize W3.alloc (.cells #[.int .i64 0, .int .i64 0, .int .i64 0, .int .i64 0, .int .i64 0, .int .i64 0, .int .i64 0, .int .i64 0, .int .i64 0, .int .i64 0, .int .i64 0, .int .i64 0, .int .i64 0, .int .i64 0, .int .i64 0, .int .i64 0, .int .i64 0, .map none, .int .i64 0] 101) = W4 at *
      have hgl4 := hL.lt
      refine (relax_any j vt ts (belM v j) v true gb gl (List.replicate 17 0) (.map none) 0 W4 ho hl ⟨by omega, by omega⟩ ⟨hk4, hR4.more (by omega), hbl⟩ (hR4.more (by omega)) hgbl hL (fun x => by
        by_cases hx : x < 17
        · rw [nthI_rep hx]; unfold far; omega
        · rw [nthI_out (by simp; omega)]; unfold far; omega)).mono ?_
      rintro e W5 ⟨rfl, gm, nn, z', hL5, hM5, hb5, hgm⟩
      have hmi := may_iff ho hv 0
      rw [← lks_may hE] at hmi
      have hra := relax_all (okl ho ⟨by omega, by omega⟩ (show (List.replicate 17 (0 : Int)).length = 17 by simp) (q := qOf (belM v j) true) (top := (v : Int))) (show 0 < j + 2 by omega) 0
      have hres : (relaxK j (lks j ts (qOf (belM v j) true) v) (j + 2) 0 (sk0 (List.replicate 17 0))).1 < 0 ↔ Agr j (ts ++ mayT j v j) := by
        rw [← hmi]
        constructor
        · intro h
          refine Classical.byContradiction fun hn => ?_
          obtain ⟨_, vv, _, hvv, _⟩ := hra.2 hn
          omega
        · intro h; omega
      have HM := Lib.hid (show mayB j ts v = decide ((relaxK j (lks j ts (qOf (belM v j) true) v) (j + 2) 0 (sk0 (List.replicate 17 0))).1 < 0) by
        unfold mayB; rw [Bool.eq_iff_iff, decide_eq_true_iff, decide_eq_true_iff]; exact hres.symm)
      generalize (relaxK j (lks j ts (qOf (belM v j) true) v) (j + 2) 0 (sk0 (List.replicate 17 0))).1 = z at *
      have hk5 := hk4.below (hb5.mono (Nat.le_refl _)) hgbl
      have hR5 : RT W5 gb vt ts := RS.below hR4 (hb5.mono (by omega))
      have c19 : W5.cell? ⟨gb, 19, none⟩ = some (.bool true) := by
        rw [hk5.cell, List.getElem?_toArray]
        unfold benchC
        rw [List.getElem?_append_right (by simp), List.getElem?_append_right (by rw [ofI_len, hbl]; simp)]
        simp [ofI_len, hbl]
      have f19 := hk5.frozen 19
      have lg5 := hk5.lt
      have hg5 : w.grownBy W5 (some gb) := grown_below hg4 (hb5.mono hwl)
      have hk6 := bench_asks hk5 hbl false
      have hR6 : RT (W5.setCell ⟨gb, 19, none⟩ (.bool false)) gb vt ts := RS.below hR5 (Below.setCell (Below.refl gb W5) (Nat.le_refl _) _)
      have hg6 := grown_set hg5 19 (.bool false)
      have HK6 := Lib.hid hk6
      have HR6 := Lib.hid hR6
      have HG6 := Lib.hid hg6
      clear hk5 hR5 hk6 hR6 hg6 hg5 hk4 hR4 hL5 hM5 hra hmi hres hL hb5
      go_wp2_with fail
      exact bodyPost_ret (v := .bool (decide (z < 0))) (by simp [results, Try.results67, go_sem]) rfl ⟨by rw [HM.out], ⟨⟨belM v j, (v : Int), HK6.out, HR6.out.more (by rw [setCell_size]; omega), hbl⟩, HR6.out⟩, HG6.out⟩

theorem asked_below {E : Nat} {vt : Value} {ts : List Kt} {gb n : Nat} {W W' : World} (h : Asked E vt ts gb W) (hb : Below n W W') (hn : gb < n) : Asked E vt ts gb W' := by
  obtain ⟨⟨bel, top, h1, h2, h3⟩, h4⟩ := h
  have h5 : RT W' gb vt ts := RS.below h4 (hb.mono (by omega))
  exact ⟨⟨bel, top, h1.below hb hn, h5.more (by have := (h1.below hb hn).lt; omega), h3⟩, h5⟩

set_option maxHeartbeats 8000000 in
set_option maxRecDepth 100000 in
theorem mayP_any (E : Int) (ts : List Kt) (v : Value) (w : World) (hl : ts.length ≤ 1000) (h : RT w w.heap.size v ts) :
    Calls Try.prog 34 #[.agg #[.int .i64 E, v]] w (ListPost E ts mayP w) := by
  obtain ⟨b, off, cap, A, rfl, hAx⟩ := h.slice
  clear hAx
  have hR := h
  clear h
  obtain ⟨n0, hn0⟩ : ∃ n, w.heap.size = n := ⟨_, rfl⟩
  have hC : Below n0 w w := Below.refl _ _
  go_enter Try.func34, Try.ntmps34
  go_wp2_with fail
  have hqbx : n0 ≤ n0 := by have := hC.size; omega
  have bx : BK (w.alloc (.cells #[.int .i64 E, .slice A ts.length cap] 24)) (n0) #[.int .i64 E, .slice A ts.length cap] 24 := BK.new' _ _ _ (n0) hn0
  have hsbx : (w.alloc (.cells #[.int .i64 E, .slice A ts.length cap] 24)).heap.size = n0 + 1 := by simp [hn0]
  replace hC : Below n0 w (w.alloc (.cells #[.int .i64 E, .slice A ts.length cap] 24)) := Below.alloc hC (by have := hC.size; omega) _
  replace hR := (RS.below hR (w' := (w.alloc (.cells #[.int .i64 E, .slice A ts.length cap] 24))) (Below.alloc (Below.refl _ _) (Nat.le_refl _) _)).more (B' := (w.alloc (.cells #[.int .i64 E, .slice A ts.length cap] 24)).heap.size) (by simp)
  generalize (w.alloc (.cells #[.int .i64 E, .slice A ts.length cap] 24)) = Wbx at *
  have hzx : n0 ≤ Wbx.heap.size := by have := hC.size; omega
  clear hsbx
  refine (open_any E 0 ts _ _ hl hR).mono ?_
  rintro e w1 ⟨p, rfl, hop, hb⟩
  replace hC : Below n0 w w1 := hC.trans (hb.mono (by have := hC.size; omega))
  replace hR := (RS.below hR hb).more hb.size
  replace bx := bx.below hb bx.lt
  clear hb
  obtain ⟨e, he⟩ : ∃ e, openE E ts 0 = e := ⟨_, rfl⟩
  have HE := Lib.hid he
  rw [he] at hop ⊢
  clear he
  by_cases h0 : e = 0
  case neg =>
    clear hop
    have b1 : (e != 0) = true := by simp [h0]
    have HN := Lib.hid h0
    clear h0
    go_wp2_with fail
    exact bodyPost_ret (v := .tuple #[.slice none 0 0, .int .i64 e]) (by simp [results, Try.results34, go_sem]) rfl (ListPost.no HE.out HN.out (by first | exact hC | (rw [hn0]; exact hC)))
  subst h0
  obtain ⟨N, rfl, ho, hl40, h2, hg, hbk⟩ := openE_ok HE.out
  obtain ⟨gb, rfl, hBn, hgb, hRg⟩ := hop rfl
  rw [Int.toNat_natCast] at hBn
  have HO := Lib.hid ho
  have HG := Lib.hid hg
  have hE := ho.few
  clear ho h2 hg hbk hop
  go_wp2_with fail
  refine (edgesMay N _ ts _ 0 gb (mayB N ts) (Asked N (.slice A ts.length cap) ts gb) w1 hE hBn (fun W W' h h' => asked_below h h' hBn.lt) ⟨⟨_, _, hBn⟩, hRg⟩ (fun v W hv hJ hs => may_any N _ ts gb v W HO.out hl40 hv hJ)).mono ?_
  rintro e w9 ⟨vl, rfl, hri, hgr⟩
  replace hC : Below n0 w w9 := Below.grown hC hgr (by have := hC.size; omega) (fun k hk => by injection hk with hk; omega)
  clear hBn hR hRg
  have HRI := Lib.hid hri
  clear hri
  go_wp2_with fail
  exact bodyPost_ret (v := .tuple #[vl, .int .i64 0]) (by simp [results, Try.results34, go_sem]) rfl (ListPost.yes HE.out HRI.out (by first | exact hC | (rw [hn0]; exact hC)))

end Go.Proofs.Ytkljdbgkhghiaaa

set_option linter.all false
namespace Go.Proofs.Ytkljdbgkhghiaaa
open Go.RowKit Kp

def encP (p : Nat × Nat) : List Value := [.int .i64 p.1, .int .i64 p.2]
theorem encP_len (p : Nat × Nat) : (encP p).length = 2 := rfl
def RP (w : World) (B : Nat) (v : Value) (l : List (Nat × Nat)) : Prop := RS w B 2 v l.length (ofG encP l)
def nthP (l : List (Nat × Nat)) (i : Nat) : Nat × Nat := l.getD i (0, 0)
theorem RP.cells {w : World} {B : Nat} {v : Value} {l : List (Nat × Nat)} (h : RP w B v l) : ∃ A cap b off, v = .slice A l.length cap ∧ (l.length ≠ 0 → A = some ⟨b, off, none⟩ ∧ b < B) ∧
    ∀ k, k < l.length → w.cell? ⟨b, off + k * 2, none⟩ = some (.int .i64 (nthP l k).1) ∧ w.cell? ⟨b, off + k * 2 + 1, none⟩ = some (.int .i64 (nthP l k).2) := by
  obtain ⟨A, cap, b, off, hv, hl, hA, hc⟩ := h
  refine ⟨A, cap, b, off, hv, hA, fun k hk => ?_⟩
  have hg : l[k]? = some (nthP l k) := by unfold nthP; simp [hk]
  have h0 := fun j hj => ofG_at encP_len l k j _ hg hj
  have hlen := ofG_length encP_len l
  have e0 := h0 0 (by omega); have e1 := h0 1 (by omega)
  rw [Nat.add_zero] at e0
  rw [hc (k * 2) (by omega), Nat.add_assoc, hc (k * 2 + 1) (by omega)]
  exact ⟨e0, e1⟩
/-- Where the greatest one is, the first one of several. -/
def gk (f : Nat × Nat → Int) (l : List (Nat × Nat)) : Nat → Nat
  | 0 => 0
  | i + 1 => if f (nthP l (gk f l i)) < f (nthP l i) then i else gk f l i
theorem gk_lt (f : Nat × Nat → Int) (l : List (Nat × Nat)) : ∀ i, gk f l i ≤ i
  | 0 => Nat.le_refl _
  | i + 1 => by
    have := gk_lt f l i
    rw [gk]; split <;> omega
theorem bst_gk {f : Nat × Nat → Int} {l : List (Nat × Nat)} (h0 : ∀ p ∈ l, 0 ≤ f p) : ∀ i, i ≤ l.length → 0 < i → bst f (l.take i) = ((nthP l (gk f l i)).1, (nthP l (gk f l i)).2, f (nthP l (gk f l i)))
  | 0, _, h => by omega
  | i + 1, hi, _ => by
    have hm : nthP l i ∈ l := by
      unfold nthP
      rw [List.getD_eq_getElem?_getD, List.getElem?_eq_getElem (by omega)]
      exact List.getElem_mem _
    have ht : l.take (i + 1) = l.take i ++ [nthP l i] := by
      rw [List.take_succ_eq_append_getElem (by omega)]
      congr 1
      unfold nthP
      simp [show i < l.length by omega]
    rw [ht, bst_app]
    by_cases hz : i = 0
    · subst hz
      have := h0 _ hm
      rw [List.take_zero]
      have hb : (bst f []).2.2 = -1 := rfl
      rw [hb, if_pos (by omega), gk, gk, if_neg (by omega)]
    · have ih := bst_gk h0 i (by omega) (by omega)
      rw [ih, gk]
      dsimp only
      split <;> rfl
theorem bst_all {f : Nat × Nat → Int} {l : List (Nat × Nat)} (h0 : ∀ p ∈ l, 0 ≤ f p) (hn : 0 < l.length) : bst f l = ((nthP l (gk f l l.length)).1, (nthP l (gk f l l.length)).2, f (nthP l (gk f l l.length))) ∧ gk f l l.length < l.length := by
  have h := bst_gk h0 l.length (Nat.le_refl _) hn
  rw [List.take_length] at h
  refine ⟨h, ?_⟩
  have key : ∀ i, 0 < i → gk f l i < i := by
    intro i hi
    obtain ⟨j, rfl⟩ : ∃ j, i = j + 1 := ⟨i - 1, by omega⟩
    have := gk_lt f l j
    rw [gk]; split <;> omega
  exact key _ hn
theorem wdt_pos {N : Nat} {ts : List Kt} (ho : Okb N ts) (ha : Agr N ts) {p : Nat × Nat} (hp : p ∈ prU N N) : 0 ≤ wdt N ts p := by
  obtain ⟨h1, h2, h3⟩ := prU_mem N hp
  have a := D_tri ho ha (show p.2 ≤ N by omega) (show p.1 ≤ N by omega) (show p.2 ≤ N by omega)
  have b := D_self ho ha (show p.2 ≤ N by omega)
  unfold wdt; omega
theorem prU_pos {N : Nat} (h : 2 ≤ N) : 0 < (prU N N).length := by
  obtain ⟨m, rfl⟩ : ∃ m, N = m + 2 := ⟨N - 2, by omega⟩
  have h1 : 0 < (prU (m + 2) 1).length := by
    have : prU (m + 2) 1 = prV 0 (m + 2) := rfl
    rw [this, prV_next (by omega)]; simp
  have key : ∀ n, 1 ≤ n → 0 < (prU (m + 2) n).length := by
    intro n
    induction n with
    | zero => intro h; omega
    | succ n ih =>
      intro _
      rw [prU, List.length_append]
      by_cases hn : n = 0
      · subst hn; rw [← List.length_append]; exact h1
      · have := ih (by omega); omega
  exact key _ (by omega)
theorem pr_info : (Try.prog.info? 107).map (fun i => (i.zero, i.size, i.bytes)) = some (some (.agg #[.int .i64 0, .int .i64 0]), 2, 16) := by kernel_rfl
theorem pr_slice : Try.prog.underlying 106 = some (.slice 107) := by kernel_rfl
def OwnP (W : World) (base : Nat) (v : Value) (l : List (Nat × Nat)) : Prop := W.ownsRow base 107 2 v l.length (ofG encP l)
theorem OwnP.nil (W : World) (base : Nat) : OwnP W base (.slice none 0 0) [] := ⟨by simp [ofG], .inl ⟨rfl, rfl⟩⟩
theorem OwnP.ri {W : World} {base : Nat} {v : Value} {l : List (Nat × Nat)} (h : OwnP W base v l) : RP W W.heap.size v l := RS.of_own h
theorem app_pr {base : Nat} {w0 w1 : World} {l : List (Nat × Nat)} {v : Value} (hown : OwnP w1 base v l) (x : Nat × Nat) (hn : l.length ≤ 100000) (hbase : base ≤ w1.heap.size) (hbw : Below base w0 w1) (B : Nat) (hB : w1.heap.size = B) :
    ∃ v' w2, (Builtin.append_ #[106, 106] 106 #[v, .slice (some ⟨B, 0, none⟩) 1 1]).run Try.prog (w1.alloc (.cells #[.int .i64 x.1, .int .i64 x.2] 107)) = .ok v' w2 ∧
      OwnP w2 base v' (l ++ [x]) ∧ Below base w0 w2 ∧ w1.heap.size ≤ w2.heap.size ∧ (∀ k cs t, BK w1 k cs t → t ≠ 107 → BK w2 k cs t) := by
  obtain ⟨g', cap', w2, h1, h2, h3, h4, h5⟩ := app_t pr_info pr_slice rfl (by decide) (by decide) hown (news := encP x) rfl (by intro u hu; simp [encP] at hu; rcases hu with rfl | rfl <;> rfl) hn hbase hbw 106 107 B hB
  exact ⟨_, w2, h1, by rw [ofG_app] at h2; unfold OwnP; simpa using h2, h3, h4, h5⟩

set_option maxHeartbeats 8000000 in
set_option maxRecDepth 100000 in
theorem widest1_any (E : Nat) (vt : Value) (ts : List Kt) (bel : List Int) (top : Int) (gb cb u v : Nat) (w : World) (ho : Okb E ts) (ha : Agr E ts) (hl : ts.length ≤ 40) (ht : 0 ≤ top ∧ top < E) (hu : u ≤ E) (hv : v ≤ E) (hB : Bn w gb E vt ts bel top false)
    (hcb : w.cell? ⟨cb, 0, none⟩ = some (.pointer (some ⟨gb, 0, none⟩))) (lb : cb < w.heap.size) :
    Calls Try.prog 73 #[.agg #[.int .i64 u, .int .i64 v], .pointer (some ⟨cb, 0, none⟩)] w fun e w' => e = .returned (.int .i64 (wdt E ts (u, v))) ∧ Below w.heap.size w w' := by
  have hwe : wdt E ts (u, v) = D E ts v u - -D E ts u v := rfl
  have r1 := rng_D ho v u
  have r2 := rng_D ho u v
  have hX : Below w.heap.size w (w.alloc (.cells #[.int .i64 u, .int .i64 v] 107)) := Below.alloc (Below.refl _ _) (Nat.le_refl _) _
  have HSP := Lib.hid (span_any E vt ts bel top gb u v _ ho ha hl ht hu hv (hB.below hX))
  have HX := Lib.hid hX
  clear hB hX ho ha
  go_enter Try.func73, Try.ntmps73
  go_wp2_with fail
  refine HSP.out.mono ?_
  rintro e w9 ⟨rfl, hb9⟩
  have hbx9 := HX.out.trans (hb9.mono HX.out.size)
  clear hb9 HSP
  unfold spanA
  obtain ⟨dlo, hdlo⟩ : ∃ x, -D E ts u v = x := ⟨_, rfl⟩
  obtain ⟨dhi, hdhi⟩ : ∃ x, D E ts v u = x := ⟨_, rfl⟩
  rw [hdlo, hdhi] at hwe ⊢
  have q1 : -1099511627776 ≤ dhi ∧ dhi ≤ 1099511627776 := by unfold Kp.cap at r1; omega
  have q2 : -1099511627776 ≤ dlo ∧ dlo ≤ 1099511627776 := by unfold Kp.cap at r2; omega
  obtain ⟨q3, q4⟩ := q1
  obtain ⟨q5, q6⟩ := q2
  clear r1 r2 hdlo hdhi
  have wx : IntKind.i64.wrap (dhi - dlo) = dhi - dlo := by rw [IntKind.wrap_i64]; omega
  have HWE := Lib.hid hwe
  clear hwe
  have hb10 : Below w.heap.size w (w9.alloc (.cells #[.int .i64 dlo, .int .i64 dhi] 36)) := Below.alloc hbx9 hbx9.size _
  go_wp2_with fail
  exact bodyPost_ret (v := .int .i64 (dhi - dlo)) (by simp [results, Try.results73, go_sem]) rfl ⟨by rw [HWE.out], hb10⟩

set_option maxHeartbeats 8000000 in
set_option maxRecDepth 100000 in
theorem greatest_any (l : List (Nat × Nat)) (f : Nat × Nat → Int) (cb : Nat) (v : Value) (w : World) (hl : l.length ≤ 1000) (h : RP w w.heap.size v l)
    (hcall : ∀ (p : Nat × Nat) (W : World), p ∈ l → Below w.heap.size w W → Calls Try.prog 73 #[.agg #[.int .i64 p.1, .int .i64 p.2], .pointer (some ⟨cb, 0, none⟩)] W fun e W' => e = .returned (.int .i64 (f p)) ∧ Below W.heap.size W W') :
    Calls Try.prog 72 #[v, .func (.func 73) #[] #[.pointer (some ⟨cb, 0, none⟩)]] w fun e w' => e = .returned (.int .i64 (gk f l l.length)) ∧ Below w.heap.size w w' := by
  obtain ⟨A, cap, b, off, rfl, hA, hc⟩ := h.cells
  have HA := Lib.hid hA
  have HC := Lib.hid hc
  have HCL := Lib.hid hcall
  clear h hA hc hcall
  go_enter Try.func72, Try.ntmps72
  go_wp2_with fail
  go_loopw [5, 10] (fun bv iv wr => ∃ i : Nat, i ≤ l.length ∧ iv = .int .i64 i ∧ bv = .int .i64 (gk f l i) ∧ Below w.heap.size w wr) (fun _ iv _ => l.length - (intOf iv).toNat)
  case atStart => exact ⟨0, Nat.zero_le _, rfl, rfl, Below.refl _ _⟩
  case round =>
    obtain ⟨i, hi, rfl, rfl, hbr⟩ := hrel
    by_cases hlt : i < l.length
    · obtain ⟨rfl, hb⟩ := HA.out (by omega)
      have hkl : gk f l i < l.length := Nat.lt_of_le_of_lt (gk_lt f l i) hlt
      obtain ⟨d1, d2⟩ := HC.out i hlt
      obtain ⟨e1, e2⟩ := HC.out (gk f l i) hkl
      have hmem : ∀ k, k < l.length → nthP l k ∈ l := fun k hk => by
        unfold nthP
        rw [List.getD_eq_getElem?_getD, List.getElem?_eq_getElem hk]
        exact List.getElem_mem _
      have HC1 := Lib.hid (fun W hW => HCL.out (nthP l i) W (hmem i hlt) hW)
      have HC2 := Lib.hid (fun W hW => HCL.out (nthP l (gk f l i)) W (hmem _ hkl) hW)
      have hstep : gk f l (i + 1) = if f (nthP l (gk f l i)) < f (nthP l i) then i else gk f l i := rfl
      rw [← hbr.cell (by exact hb)] at d1 d2 e1 e2
      have lb : b < wr.heap.size := Nat.lt_of_lt_of_le hb hbr.size
      generalize nthP l (gk f l i) = pk at *
      generalize nthP l i = pi at *
      have HST := Lib.hid hstep
      clear hstep hmem
      obtain ⟨kk, hkk⟩ : ∃ k, gk f l i = k := ⟨_, rfl⟩
      rw [hkk] at e1 e2 hkl HST ⊢
      clear hkk
      go_upto_region 5 with fail
      obtain ⟨g7, hg7⟩ : ∃ n, wr.heap.size = n := ⟨_, rfl⟩
      have b7 : BK (wr.alloc (.cells #[.int .i64 pi.1, .int .i64 pi.2] 107)) g7 #[.int .i64 pi.1, .int .i64 pi.2] 107 := BK.new' _ _ _ g7 hg7
      have hb7 : Below wr.heap.size wr (wr.alloc (.cells #[.int .i64 pi.1, .int .i64 pi.2] 107)) := Below.alloc (Below.refl _ _) (Nat.le_refl _) _
      have hbr7 := hbr.trans (hb7.mono hbr.size)
      rw [← hb7.cell (by exact lb)] at e1 e2
      have lb7 : b < (wr.alloc (.cells #[.int .i64 pi.1, .int .i64 pi.2] 107)).heap.size := Nat.lt_of_lt_of_le lb hb7.size
      try rw [hg7]
      clear hg7 d1 d2 hb7 lb
      generalize wr.alloc (.cells #[.int .i64 pi.1, .int .i64 pi.2] 107) = W7 at *
      have l7 := b7.lt
      have y0 := b7.cell 0
      have y1 := b7.cell 1
      simp at y0 y1
      refine wp_region_noPanic (plain_any [0, 1, 3, 4, 5, 6, 7, 9] (Below W7.heap.size W7) mixed ?_)
      (refine any_take 0 ?_ (by rfl) (by kernel_rfl) (fun _ _ _ _ _ hx => hx.elim) (.inl ⟨by rfl, ?_⟩) (by exact bel_of) ?_; rotate_left; (intro X hX; obtain ⟨r1, r2⟩ := Below.rules hX; clear hX; go_simp; rfl); simp only [List.getElem_toArray, List.getElem_cons_succ, List.getElem_cons_zero, Act.put, List.setIfInBounds_toArray, List.set_cons_succ, List.set_cons_zero])
      (refine any_take 1 ?_ (by rfl) (by kernel_rfl) (fun _ _ _ _ _ hx => hx.elim) (.inl ⟨by rfl, ?_⟩) (by exact bel_of) ?_; rotate_left; (intro X hX; obtain ⟨r1, r2⟩ := Below.rules hX; clear hX; go_simp; rfl); simp only [List.getElem_toArray, List.getElem_cons_succ, List.getElem_cons_zero, Act.put, List.setIfInBounds_toArray, List.set_cons_succ, List.set_cons_zero])
      (refine any_take 3 ?_ (by rfl) (by kernel_rfl) (fun _ _ _ _ _ hx => hx.elim) (.inl ⟨by rfl, ?_⟩) (by exact bel_of) ?_; rotate_left; (intro X hX; obtain ⟨r1, r2⟩ := Below.rules hX; clear hX; go_simp; rfl); simp only [List.getElem_toArray, List.getElem_cons_succ, List.getElem_cons_zero, Act.put, List.setIfInBounds_toArray, List.set_cons_succ, List.set_cons_zero])
      (refine any_take 4 ?_ (by rfl) (by kernel_rfl) (fun _ _ _ _ _ hx => hx.elim) (.inl ⟨by rfl, ?_⟩) (by exact bel_of) ?_; rotate_left; (intro X hX; obtain ⟨r1, r2⟩ := Below.rules hX; clear hX; go_simp; rfl); simp only [List.getElem_toArray, List.getElem_cons_succ, List.getElem_cons_zero, Act.put, List.setIfInBounds_toArray, List.set_cons_succ, List.set_cons_zero])
      (refine any_take 5 ?_ (by rfl) (by kernel_rfl) (fun _ _ _ _ _ hx => hx.elim) (.inl ⟨by rfl, ?_⟩) (by exact bel_of) ?_; rotate_left; (intro X hX; obtain ⟨r1, r2⟩ := Below.rules hX; clear hX; go_simp; rfl); simp only [List.getElem_toArray, List.getElem_cons_succ, List.getElem_cons_zero, Act.put, List.setIfInBounds_toArray, List.set_cons_succ, List.set_cons_zero])
      (refine any_take 6 ?_ (by rfl) (by kernel_rfl) (fun _ _ _ _ _ hx => hx.elim) (.inl ⟨by rfl, ?_⟩) (by exact bel_of) ?_; rotate_left; (intro X hX; obtain ⟨r1, r2⟩ := Below.rules hX; clear hX; go_simp; rfl); simp only [List.getElem_toArray, List.getElem_cons_succ, List.getElem_cons_zero, Act.put, List.setIfInBounds_toArray, List.set_cons_succ, List.set_cons_zero])
      (refine any_take 7 ?_ (by rfl) (by kernel_rfl) (fun _ _ _ _ _ hx => hx.elim) (.inl ⟨by rfl, ?_⟩) (by exact bel_of) ?_; rotate_left; (intro X hX; obtain ⟨r1, r2⟩ := Below.rules hX; clear hX; go_simp; rfl); simp only [List.getElem_toArray, List.getElem_cons_succ, List.getElem_cons_zero, Act.put, List.setIfInBounds_toArray, List.set_cons_succ, List.set_cons_zero])
      have hd0 : Below W7.heap.size W7 W7.drew := Below.drew (Below.refl _ _)
      refine any_run1 (i := 2) (by kernel_rfl) (by rfl) (by kernel_rfl) ?_
      intro K3 hK3
      go_wp2_with fail
      refine (HC1.out _ (hbr7.trans (hd0.mono hbr7.size))).mono ?_
      rintro e V1 ⟨rfl, hb1⟩
      have hb01 : Below W7.heap.size W7 V1 := hd0.trans hb1
      refine hK3 _ _ (fun _ => hb01) ?_
      clear hK3 K3 hb1
      refine any_run1 (i := 8) (by kernel_rfl) (by rfl) (by kernel_rfl) ?_
      intro K3 hK3
      go_wp2_with fail
      refine (HC2.out _ (hbr7.trans (hb01.mono hbr7.size))).mono ?_
      rintro e V2 ⟨rfl, hb2⟩
      have hb02 : Below W7.heap.size W7 V2 := hb01.trans (hb2.mono hb01.size)
      refine hK3 _ _ (fun _ => hb02) ?_
      clear hK3 K3 hb2
      (refine any_take 9 ?_ (by rfl) (by kernel_rfl) (fun _ _ _ _ _ hx => hx.elim) (.inl ⟨by rfl, ?_⟩) (by exact bel_of) ?_; rotate_left; (intro X hX; obtain ⟨r1, r2⟩ := Below.rules hX; clear hX; go_simp; rfl); simp only [List.getElem_toArray, List.getElem_cons_succ, List.getElem_cons_zero, Act.put, List.setIfInBounds_toArray, List.set_cons_succ, List.set_cons_zero])
      refine any_done (by kernel_rfl) (NoPanic.normal ?_)
      have hbr9 := hbr7.trans (hb02.mono hbr7.size)
      clear y0 y1 l7 e1 e2 hb01 hb02 hd0 b7 hbr7 hbr
      generalize f pk = fk at *
      generalize f pi = fi at *
      by_cases hf : fk < fi
      · have HS := Lib.hid (HST.out.trans (if_pos hf))
        go_wp2_with fail
        go_roundw
        case rel => exact ⟨i + 1, by omega, by go_num, by rw [HS.out], hbr9⟩
        case measure => simp [intOf]; omega
      · have HS := Lib.hid (HST.out.trans (if_neg hf))
        go_wp2_with fail
        go_roundw
        case rel => exact ⟨i + 1, by omega, by go_num, by rw [HS.out], hbr9⟩
        case measure => simp [intOf]; omega
    · have hil : i = l.length := by omega
      subst hil
      go_wp2_with fail
      exact bodyPost_ret (v := .int .i64 (gk f l l.length)) (by simp [results, Try.results72, go_sem]) rfl ⟨rfl, hbr⟩

end Go.Proofs.Ytkljdbgkhghiaaa
