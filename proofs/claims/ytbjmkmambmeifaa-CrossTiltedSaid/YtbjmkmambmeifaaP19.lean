/- CrossPairs: the walk. -/
import Derived.Test.YtbjmkmambmeifaaP18
import Derived.Test.YtbjmkmambmeifaaP15
set_option linter.all false
set_option linter.unnecessarySimpa false
set_option linter.unusedSimpArgs false
set_option linter.unusedVariables false
set_option linter.unusedSectionVars false

namespace Go.Proofs.Ytbjmkmambmeifaa
open Go.RowKit

theorem tiltsV_form (l : List St) (t : List Int) (s : Int) : ∃ a b c d e, tiltsV l t s = .tuple #[.agg #[.int .i64 a, .int .i64 b, .int .i64 c, .int .i64 d], .int .i64 e] := by
  unfold tiltsV
  by_cases h : checkTruth l t ≠ 0
  · rw [if_pos h]; exact ⟨0, 0, 0, 0, _, rfl⟩
  · rw [if_neg h]
    by_cases h2 : ¬ (0 ≤ s ∧ s < l.length)
    · rw [if_pos h2]; exact ⟨0, 0, 0, 0, _, rfl⟩
    · rw [if_neg h2]
      obtain ⟨a, b, c, d, h⟩ := spanV_formE l t s.toNat (nthI t s.toNat)
      exact ⟨a, b, c, d, _, h⟩
theorem contactL_len (l : List St) (t : List Int) (x : Ra) : (contactL l t x).length ≤ l.length := by
  unfold contactL
  split
  · rw [List.length_map]
    exact Nat.le_trans (List.length_filter_le _ _) (by simp)
  · simp

theorem pairs_great (l : List St) (t : List Int) (x : Ra) (s : Int) (h : List Ra) (vl vt vh : Value) (w : World) (hl : 35 < l.length ∨ 40 < t.length ∨ 40 < h.length) (hs : RSt w w.heap.size vl l) (ht : RI w w.heap.size vt t) (hr : RRa w w.heap.size vh h) :
    Calls Try.prog 3 #[vl, vt, .agg #[.int .i64 x.num, .int .i64 x.den], .int .i64 s, vh] w fun e w' => e = .returned (.bool true) ∧ Below w.heap.size w w' := by
  obtain ⟨A, cap, b, off, rfl, _, _⟩ := hs.cells
  obtain ⟨A2, cap2, b2, off2, rfl, _, _⟩ := ht.cells
  obtain ⟨A3, cap3, b3, off3, rfl, _, _⟩ := hr.cells
  clear hs ht hr
  obtain ⟨p, hp⟩ : ∃ p, decide (35 < (l.length : Int)) = p := ⟨_, rfl⟩
  obtain ⟨q, hq⟩ : ∃ q, decide (40 < (t.length : Int)) = q := ⟨_, rfl⟩
  obtain ⟨r, hr⟩ : ∃ r, decide (40 < (h.length : Int)) = r := ⟨_, rfl⟩
  have ho : p = true ∨ (p = false ∧ q = true) ∨ (p = false ∧ q = false ∧ r = true) := by
    rw [← hp, ← hq, ← hr]
    simp only [decide_eq_true_eq, decide_eq_false_iff_not]
    omega
  clear hl
  rcases ho with rfl | ⟨rfl, rfl⟩ | ⟨rfl, rfl, rfl⟩
  all_goals
    go_enter Try.func3, Try.ntmps3
    go_wp2_with fail
    refine (great_any _ _ _ _).mono ?_
    rintro e w1 ⟨rfl, rfl⟩
    go_wp2_with fail
    refine (works_any _).mono ?_
    rintro e w1 ⟨rfl, hb1⟩
    go_wp2_with fail
    go_ret
    exact ⟨rfl, Below.trans (a := w) (B := w.heap.size) (by exact bel_of) (hb1.mono (by simp))⟩

set_option maxRecDepth 100000 in
set_option maxHeartbeats 8000000 in
theorem pairs_small (l : List St) (t : List Int) (x : Ra) (s : Int) (h : List Ra) (vl vt vh : Value) (w : World) (hl : ¬ 35 < l.length) (hl2 : ¬ 40 < t.length) (hl3 : ¬ 40 < h.length) (hs : RSt w w.heap.size vl l) (ht : RI w w.heap.size vt t) (hr : RRa w w.heap.size vh h) :
    Calls Try.prog 3 #[vl, vt, .agg #[.int .i64 x.num, .int .i64 x.den], .int .i64 s, vh] w fun e w' => e = .returned (.bool true) ∧ Below w.heap.size w w' := by
  have hC := fun W (hb : Below w.heap.size w W) => contactP_any l t x vl vt W (by omega) (by omega) ((RS.below hs hb).more hb.size) ((RS.below ht hb).more hb.size)
  have hCR := fun W (hb : Below w.heap.size w W) => refContact_any l t x vl vt W (by omega) (by omega) ((RS.below hs hb).more hb.size) ((RS.below ht hb).more hb.size)
  have hT := fun W (hb : Below w.heap.size w W) => tilts_any l t s vl vt W (by omega) (by omega) ((RS.below hs hb).more hb.size) ((RS.below ht hb).more hb.size)
  have hTR := fun W (hb : Below w.heap.size w W) => refTilts_any l t s vl vt W (by omega) (by omega) ((RS.below hs hb).more hb.size) ((RS.below ht hb).more hb.size)
  have hP := fun W (hb : Below w.heap.size w W) => checkPair_any l vl W (by omega) ((RS.below hs hb).more hb.size)
  have hPR := fun W (hb : Below w.heap.size w W) => refCheckPair_any l vl W (by omega) ((RS.below hs hb).more hb.size)
  have hH := fun W (hb : Below w.heap.size w W) => checkHeightsP_any l h vl vh W (by omega) (by omega) ((RS.below hs hb).more hb.size) ((RS.below hr hb).more hb.size)
  have hHR := fun W (hb : Below w.heap.size w W) => refCheckHeights_any l h vl vh W (by omega) (by omega) ((RS.below hs hb).more hb.size) ((RS.below hr hb).more hb.size)
  simp only [← Ma.check_eq] at hHR
  obtain ⟨a1, a2, a3, a4, a5, ha⟩ := tiltsV_form l t s
  rw [ha] at hT hTR
  have CL := Lib.hid (show (contactL l t x).length ≤ 1000 from Nat.le_trans (contactL_len l t x) (by omega))
  have HC := Lib.hid hC; have HCR := Lib.hid hCR; have HT := Lib.hid hT; have HTR := Lib.hid hTR; have HP := Lib.hid hP; have HPR := Lib.hid hPR; have HH := Lib.hid hH; have HHR := Lib.hid hHR
  clear hC hCR hT hTR hP hPR hH hHR ha
  generalize contactL l t x = cs at *
  generalize contactErr l t x = ce at *
  generalize checkPair l = cp at *
  generalize checkHP l h = he at *
  obtain ⟨A, cap, b, off, rfl, _, _⟩ := hs.cells
  obtain ⟨A2, cap2, b2, off2, rfl, _, _⟩ := ht.cells
  obtain ⟨A3, cap3, b3, off3, rfl, _, _⟩ := hr.cells
  have d1 : decide (35 < (l.length : Int)) = false := by simp; omega
  have d2 : decide (40 < (t.length : Int)) = false := by simp; omega
  have d3 : decide (40 < (h.length : Int)) = false := by simp; omega
  clear hs ht hr hl hl2 hl3
  go_enter Try.func3, Try.ntmps3
  go_wp2_with fail
  refine (great_any _ _ _ _).mono ?_
  rintro e w0 ⟨rfl, rfl⟩
  go_wp2_with fail
  have hC : Below w.heap.size w w := Below.refl _ _
  have bx : BK (w.alloc (.cells #[.int .i64 x.num, .int .i64 x.den] 25)) w.heap.size #[.int .i64 x.num, .int .i64 x.den] 25 := BK.new _ _ _
  have hC2 : Below w.heap.size w (w.alloc (.cells #[.int .i64 x.num, .int .i64 x.den] 25)) := by have := hC.size; exact bel_of
  clear hC; have hC := hC2; clear hC2
  generalize (w.alloc (.cells #[.int .i64 x.num, .int .i64 x.den] 25)) = Wbx at *
  obtain ⟨gbx, hgbx⟩ : ∃ g, w.heap.size = g := ⟨_, rfl⟩
  rw [hgbx] at bx
  try rw [hgbx]
  clear hgbx
  refine (HC.out Wbx hC).mono ?_
  rintro e w1 ⟨vc, rfl, hc, hb⟩
  have hC2 : Below w.heap.size w w1 := hC.trans (hb.mono hC.size)
  clear hC; have hC := hC2; clear hC2
  have bx_ := bx.below hb bx.lt; clear bx; have bx := bx_; clear bx_
  clear hb
  have lbx := bx.lt
  have bxc0 := bx.cell 0
  have bxc1 := bx.cell 1
  simp at bxc0 bxc1
  go_wp2_with fail
  clear lbx bxc0 bxc1
  refine (HCR.out w1 hC).mono ?_
  rintro e w2 ⟨vr, rfl, hr, hb⟩
  have hC2 : Below w.heap.size w w2 := hC.trans (hb.mono hC.size)
  clear hC; have hC := hC2; clear hC2
  have bx_ := bx.below hb bx.lt; clear bx; have bx := bx_; clear bx_
  have hc_ := (RS.below hc hb).more hb.size; clear hc; have hc := hc_; clear hc_
  clear hb
  go_wp2_with fail
  refine (HT.out w2 hC).mono ?_
  rintro e w3 ⟨rfl, hb⟩
  have hC2 : Below w.heap.size w w3 := hC.trans (hb.mono hC.size)
  clear hC; have hC := hC2; clear hC2
  have bx_ := bx.below hb bx.lt; clear bx; have bx := bx_; clear bx_
  have hc_ := (RS.below hc hb).more hb.size; clear hc; have hc := hc_; clear hc_
  have hr_ := (RS.below hr hb).more hb.size; clear hr; have hr := hr_; clear hr_
  clear hb
  go_wp2_with fail
  have ba : BK (w3.alloc (.cells #[.int .i64 a1, .int .i64 a2, .int .i64 a3, .int .i64 a4] 34)) w3.heap.size #[.int .i64 a1, .int .i64 a2, .int .i64 a3, .int .i64 a4] 34 := BK.new _ _ _
  have hC2 : Below w.heap.size w (w3.alloc (.cells #[.int .i64 a1, .int .i64 a2, .int .i64 a3, .int .i64 a4] 34)) := by have := hC.size; exact bel_of
  clear hC; have hC := hC2; clear hC2
  have bx_ := bx.alloc (.cells #[.int .i64 a1, .int .i64 a2, .int .i64 a3, .int .i64 a4] 34); clear bx; have bx := bx_; clear bx_
  have hc_ := (RS.below hc (w' := (w3.alloc (.cells #[.int .i64 a1, .int .i64 a2, .int .i64 a3, .int .i64 a4] 34))) (by exact bel_of)).more (B' := (w3.alloc (.cells #[.int .i64 a1, .int .i64 a2, .int .i64 a3, .int .i64 a4] 34)).heap.size) (by simp); clear hc; have hc := hc_; clear hc_
  have hr_ := (RS.below hr (w' := (w3.alloc (.cells #[.int .i64 a1, .int .i64 a2, .int .i64 a3, .int .i64 a4] 34))) (by exact bel_of)).more (B' := (w3.alloc (.cells #[.int .i64 a1, .int .i64 a2, .int .i64 a3, .int .i64 a4] 34)).heap.size) (by simp); clear hr; have hr := hr_; clear hr_
  generalize (w3.alloc (.cells #[.int .i64 a1, .int .i64 a2, .int .i64 a3, .int .i64 a4] 34)) = Wba at *
  obtain ⟨gba, hgba⟩ : ∃ g, w3.heap.size = g := ⟨_, rfl⟩
  rw [hgba] at ba
  try rw [hgba]
  clear hgba
  refine (HTR.out Wba hC).mono ?_
  rintro e w4 ⟨rfl, hb⟩
  have hC2 : Below w.heap.size w w4 := hC.trans (hb.mono hC.size)
  clear hC; have hC := hC2; clear hC2
  have bx_ := bx.below hb bx.lt; clear bx; have bx := bx_; clear bx_
  have hc_ := (RS.below hc hb).more hb.size; clear hc; have hc := hc_; clear hc_
  have hr_ := (RS.below hr hb).more hb.size; clear hr; have hr := hr_; clear hr_
  have ba_ := ba.below hb ba.lt; clear ba; have ba := ba_; clear ba_
  clear hb
  go_wp2_with fail
  have bb : BK (w4.alloc (.cells #[.int .i64 a1, .int .i64 a2, .int .i64 a3, .int .i64 a4] 34)) w4.heap.size #[.int .i64 a1, .int .i64 a2, .int .i64 a3, .int .i64 a4] 34 := BK.new _ _ _
  have hC2 : Below w.heap.size w (w4.alloc (.cells #[.int .i64 a1, .int .i64 a2, .int .i64 a3, .int .i64 a4] 34)) := by have := hC.size; exact bel_of
  clear hC; have hC := hC2; clear hC2
  have bx_ := bx.alloc (.cells #[.int .i64 a1, .int .i64 a2, .int .i64 a3, .int .i64 a4] 34); clear bx; have bx := bx_; clear bx_
  have hc_ := (RS.below hc (w' := (w4.alloc (.cells #[.int .i64 a1, .int .i64 a2, .int .i64 a3, .int .i64 a4] 34))) (by exact bel_of)).more (B' := (w4.alloc (.cells #[.int .i64 a1, .int .i64 a2, .int .i64 a3, .int .i64 a4] 34)).heap.size) (by simp); clear hc; have hc := hc_; clear hc_
  have hr_ := (RS.below hr (w' := (w4.alloc (.cells #[.int .i64 a1, .int .i64 a2, .int .i64 a3, .int .i64 a4] 34))) (by exact bel_of)).more (B' := (w4.alloc (.cells #[.int .i64 a1, .int .i64 a2, .int .i64 a3, .int .i64 a4] 34)).heap.size) (by simp); clear hr; have hr := hr_; clear hr_
  have ba_ := ba.alloc (.cells #[.int .i64 a1, .int .i64 a2, .int .i64 a3, .int .i64 a4] 34); clear ba; have ba := ba_; clear ba_
  generalize (w4.alloc (.cells #[.int .i64 a1, .int .i64 a2, .int .i64 a3, .int .i64 a4] 34)) = Wbb at *
  obtain ⟨gbb, hgbb⟩ : ∃ g, w4.heap.size = g := ⟨_, rfl⟩
  rw [hgbb] at bb
  try rw [hgbb]
  clear hgbb
  refine (HP.out Wbb hC).mono ?_
  rintro e w5 ⟨rfl, hb⟩
  have hC2 : Below w.heap.size w w5 := hC.trans (hb.mono hC.size)
  clear hC; have hC := hC2; clear hC2
  have bx_ := bx.below hb bx.lt; clear bx; have bx := bx_; clear bx_
  have hc_ := (RS.below hc hb).more hb.size; clear hc; have hc := hc_; clear hc_
  have hr_ := (RS.below hr hb).more hb.size; clear hr; have hr := hr_; clear hr_
  have ba_ := ba.below hb ba.lt; clear ba; have ba := ba_; clear ba_
  have bb_ := bb.below hb bb.lt; clear bb; have bb := bb_; clear bb_
  clear hb
  go_wp2_with fail
  refine (HPR.out w5 hC).mono ?_
  rintro e w6 ⟨rfl, hb⟩
  have hC2 : Below w.heap.size w w6 := hC.trans (hb.mono hC.size)
  clear hC; have hC := hC2; clear hC2
  have bx_ := bx.below hb bx.lt; clear bx; have bx := bx_; clear bx_
  have hc_ := (RS.below hc hb).more hb.size; clear hc; have hc := hc_; clear hc_
  have hr_ := (RS.below hr hb).more hb.size; clear hr; have hr := hr_; clear hr_
  have ba_ := ba.below hb ba.lt; clear ba; have ba := ba_; clear ba_
  have bb_ := bb.below hb bb.lt; clear bb; have bb := bb_; clear bb_
  clear hb
  go_wp2_with fail
  refine (ints_same cs vc vr w6 CL.out hc hr).mono ?_
  rintro e w7 ⟨rfl, hb⟩
  have hC2 : Below w.heap.size w w7 := hC.trans (hb.mono hC.size)
  clear hC; have hC := hC2; clear hC2
  have bx_ := bx.below hb bx.lt; clear bx; have bx := bx_; clear bx_
  have hc_ := (RS.below hc hb).more hb.size; clear hc; have hc := hc_; clear hc_
  have hr_ := (RS.below hr hb).more hb.size; clear hr; have hr := hr_; clear hr_
  have ba_ := ba.below hb ba.lt; clear ba; have ba := ba_; clear ba_
  have bb_ := bb.below hb bb.lt; clear bb; have bb := bb_; clear bb_
  clear hb
  have lba := ba.lt
  have bac0 := ba.cell 0
  have bac1 := ba.cell 1
  have bac2 := ba.cell 2
  have bac3 := ba.cell 3
  simp at bac0 bac1 bac2 bac3
  have lbb := bb.lt
  have bbc0 := bb.cell 0
  have bbc1 := bb.cell 1
  have bbc2 := bb.cell 2
  have bbc3 := bb.cell 3
  simp at bbc0 bbc1 bbc2 bbc3
  go_wp2_with fail
  refine (HH.out w7 hC).mono ?_
  rintro e w8 ⟨rfl, hb⟩
  have hC2 : Below w.heap.size w w8 := hC.trans (hb.mono hC.size)
  clear hC; have hC := hC2; clear hC2
  have bx_ := bx.below hb bx.lt; clear bx; have bx := bx_; clear bx_
  have hc_ := (RS.below hc hb).more hb.size; clear hc; have hc := hc_; clear hc_
  have hr_ := (RS.below hr hb).more hb.size; clear hr; have hr := hr_; clear hr_
  have ba_ := ba.below hb ba.lt; clear ba; have ba := ba_; clear ba_
  have bb_ := bb.below hb bb.lt; clear bb; have bb := bb_; clear bb_
  clear hb
  go_wp2_with fail
  refine (HHR.out w8 hC).mono ?_
  rintro e w9 ⟨rfl, hb⟩
  have hC2 : Below w.heap.size w w9 := hC.trans (hb.mono hC.size)
  clear hC; have hC := hC2; clear hC2
  have bx_ := bx.below hb bx.lt; clear bx; have bx := bx_; clear bx_
  have hc_ := (RS.below hc hb).more hb.size; clear hc; have hc := hc_; clear hc_
  have hr_ := (RS.below hr hb).more hb.size; clear hr; have hr := hr_; clear hr_
  have ba_ := ba.below hb ba.lt; clear ba; have ba := ba_; clear ba_
  have bb_ := bb.below hb bb.lt; clear bb; have bb := bb_; clear bb_
  clear hb
  go_wp2_with fail
  refine (works_any _).mono ?_
  rintro e w19 ⟨rfl, hb⟩
  go_wp2_with fail
  go_ret
  exact ⟨rfl, hC.trans (hb.mono hC.size)⟩
theorem pairs_row (l : List St) (vl : Value) {w : World} (hs : RSt w w.heap.size vl l) (_ : l.length ≤ maxLen) (t : List Int) (vt : Value) (ht : RI w w.heap.size vt t) (_ : t.length ≤ maxLen) (x : Ra) (_ : okI x.num ∧ okI x.den) (s : Int) (_ : (Lit.int .i64 s).wf = true)
    (h : List Ra) (vh : Value) (hr : RRa w w.heap.size vh h) (_ : ∀ x ∈ h, okI x.num ∧ okI x.den) (_ : h.length ≤ maxLen) (W : World) (hw : W = w := by rfl) :
    Calls Try.prog 3 #[vl, vt, .agg #[.int .i64 x.num, .int .i64 x.den], .int .i64 s, vh] W fun e w' => e = .returned (.bool true) ∧ Below W.heap.size W w' := by
  subst hw
  by_cases hl : 35 < l.length ∨ 40 < t.length ∨ 40 < h.length
  · exact pairs_great l t x s h vl vt vh _ hl hs ht hr
  · exact pairs_small l t x s h vl vt vh _ (by omega) (by omega) (by omega) hs ht hr
end Go.Proofs.Ytbjmkmambmeifaa
