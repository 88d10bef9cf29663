/- CrossSpans: the walk. CrossWedges: the walk. CrossPairs: the walk. -/
import Derived.Test.YtbjmkmambmeifaaP19
import Derived.Test.YtbjmkmambmeifaaP22
import Derived.Test.YtbjmkmambmeifaaP15
import Derived.Test.YtbjmkmambmeifaaP11
import Derived.Test.YtbjmkmambmeifaaP16
import Derived.Test.YtbjmkmambmeifaaP12
import Derived.Test.YtbjmkmambmeifaaP20
import Derived.Test.YtbjmkmambmeifaaP23
set_option linter.all false
set_option linter.unnecessarySimpa false
set_option linter.unusedSimpArgs false
set_option linter.unusedVariables false
set_option linter.unusedSectionVars false

namespace Go.Proofs.Ytbjmkmambmeifaa
open Go.RowKit

theorem spanV_form5 (l : List St) (hs : List Int) (s : Nat) (own : Int) : ∃ a b c d e, spanV l hs s own = .tuple #[.agg #[.int .i64 a, .int .i64 b, .int .i64 c, .int .i64 d], .int .i64 e] := by
  obtain ⟨a, b, c, d, h⟩ := spanV_formE l hs s own
  exact ⟨a, b, c, d, _, h⟩
theorem canV_form (l : List St) (s : Int) : ∃ a b c d e, canV l s = .tuple #[.agg #[.int .i64 a, .int .i64 b, .int .i64 c, .int .i64 d], .int .i64 e] := by
  unfold canV
  by_cases h : checkStation l s ≠ 0
  · rw [if_pos h]; exact ⟨0, 0, 0, 0, _, rfl⟩
  · rw [if_neg h]; exact spanV_form5 ..
theorem sureV_form (l : List St) (s : Int) : ∃ a b c d e, sureV l s = .tuple #[.agg #[.int .i64 a, .int .i64 b, .int .i64 c, .int .i64 d], .int .i64 e] := by
  unfold sureV
  by_cases h : checkStation l s ≠ 0
  · rw [if_pos h]; exact ⟨0, 0, 0, 0, _, rfl⟩
  · rw [if_neg h]; exact spanV_form5 ..
theorem groundV_form (l : List St) (s : Int) : ∃ a b c d e, groundV l s = .tuple #[.agg #[.int .i64 a, .int .i64 b, .int .i64 c, .int .i64 d], .int .i64 e] := by
  unfold groundV
  by_cases h : checkStation l s ≠ 0
  · rw [if_pos h]; exact ⟨0, 0, 0, 0, _, rfl⟩
  · rw [if_neg h]; exact ⟨_, _, _, _, _, rfl⟩

/-- A law of which the pair is too great. -/
theorem spans_great (l : List St) (s : Int) (vl : Value) (w : World) (hl : 35 < l.length) (h : RSt w w.heap.size vl l) :
    Calls Try.prog 4 #[vl, .int .i64 s] w fun e w' => e = .returned (.bool true) ∧ Below w.heap.size w w' := by
  obtain ⟨A, cap, b, off, rfl, _, _⟩ := h.cells
  have d1 : decide (35 < (l.length : Int)) = true := by simp; omega
  clear h hl
  go_enter Try.func4, Try.ntmps4
  go_wp2_with fail
  refine (great_any _ _ _ _).mono ?_
  rintro e w1 ⟨rfl, rfl⟩
  go_wp2_with fail
  refine (works_any _).mono ?_
  rintro e w1 ⟨rfl, hb1⟩
  go_wp2_with fail
  go_ret
  exact ⟨rfl, by (repeat (first | with_reducible assumption | with_reducible exact Below.refl _ _ | (with_reducible refine Below.setCell ?_ (by first | omega | (simp; omega) | (simp; done)) _) | (with_reducible refine Below.alloc ?_ (by first | omega | (simp; omega) | (simp; done)) _) | (with_reducible refine Below.drew ?_) | (with_reducible refine belowN ?_ _) | assumption | exact Below.refl _ _ | (refine Below.alloc ?_ (by first | omega | (simp; omega) | (simp; done)) _) | (refine Below.drew ?_) | (refine belowN ?_ _) | (refine Below.setCell ?_ (by first | omega | (simp; omega) | (simp; done)) _)))⟩

set_option maxRecDepth 100000 in
set_option maxHeartbeats 8000000 in
theorem spans_small (l : List St) (s : Int) (vl : Value) (w : World) (hl : ¬ 35 < l.length) (h : RSt w w.heap.size vl l) :
    Calls Try.prog 4 #[vl, .int .i64 s] w fun e w' => e = .returned (.bool true) ∧ Below w.heap.size w w' := by
  have hCan := fun W (hb : Below w.heap.size w W) => canP_any l s vl W (by omega) ((RS.below h hb).more hb.size)
  have hCanR := fun W (hb : Below w.heap.size w W) => refCan_any l s vl W (by omega) ((RS.below h hb).more hb.size)
  have hSure := fun W (hb : Below w.heap.size w W) => sureP_any l s vl W (by omega) ((RS.below h hb).more hb.size)
  have hSureR := fun W (hb : Below w.heap.size w W) => refSure_any l s vl W (by omega) ((RS.below h hb).more hb.size)
  have hGr := fun W (hb : Below w.heap.size w W) => groundP_any l s vl W (by omega) ((RS.below h hb).more hb.size)
  have hGrR := fun W (hb : Below w.heap.size w W) => refGround_any l s vl W (by omega) ((RS.below h hb).more hb.size)
  simp only [← Ma.ground_eq] at hGrR
  obtain ⟨a1, a2, a3, a4, a5, ha⟩ := canV_form l s
  obtain ⟨b1, b2, b3, b4, b5, hb⟩ := sureV_form l s
  obtain ⟨c1, c2, c3, c4, c5, hc⟩ := groundV_form l s
  rw [ha] at hCan hCanR
  rw [hb] at hSure hSureR
  rw [hc] at hGr hGrR
  have HA := Lib.hid hCan; have HAR := Lib.hid hCanR; have HS := Lib.hid hSure; have HSR := Lib.hid hSureR; have HG := Lib.hid hGr; have HGR := Lib.hid hGrR
  clear hCan hCanR hSure hSureR hGr hGrR ha hb hc
  obtain ⟨A, cap, b, off, rfl, _, _⟩ := h.cells
  have d1 : decide (35 < (l.length : Int)) = false := by simp; omega
  clear h hl
  go_enter Try.func4, Try.ntmps4
  go_wp2_with fail
  refine (great_any _ _ _ _).mono ?_
  rintro e w0 ⟨rfl, rfl⟩
  go_wp2_with fail
  have hC : Below w.heap.size w w := Below.refl _ _
  refine (HA.out w hC).mono ?_
  rintro e w1 ⟨rfl, hb⟩
  have hC2 : Below w.heap.size w w1 := hC.trans (hb.mono hC.size)
  clear hC; have hC := hC2; clear hC2
  clear hb
  go_wp2_with fail
  have ba : BK (w1.alloc (.cells #[.int .i64 a1, .int .i64 a2, .int .i64 a3, .int .i64 a4] 34)) w1.heap.size #[.int .i64 a1, .int .i64 a2, .int .i64 a3, .int .i64 a4] 34 := BK.new _ _ _
  have hC2 : Below w.heap.size w (w1.alloc (.cells #[.int .i64 a1, .int .i64 a2, .int .i64 a3, .int .i64 a4] 34)) := by have := hC.size; (repeat (first | with_reducible assumption | with_reducible exact Below.refl _ _ | (with_reducible refine Below.setCell ?_ (by first | omega | (simp; omega) | (simp; done)) _) | (with_reducible refine Below.alloc ?_ (by first | omega | (simp; omega) | (simp; done)) _) | (with_reducible refine Below.drew ?_) | (with_reducible refine belowN ?_ _) | assumption | exact Below.refl _ _ | (refine Below.alloc ?_ (by first | omega | (simp; omega) | (simp; done)) _) | (refine Below.drew ?_) | (refine belowN ?_ _) | (refine Below.setCell ?_ (by first | omega | (simp; omega) | (simp; done)) _)))
  clear hC; have hC := hC2; clear hC2
  generalize (w1.alloc (.cells #[.int .i64 a1, .int .i64 a2, .int .i64 a3, .int .i64 a4] 34)) = Wba at *
  obtain ⟨gba, hgba⟩ : ∃ g, w1.heap.size = g := ⟨_, rfl⟩
  rw [hgba] at ba
  try rw [hgba]
  clear hgba
  refine (HAR.out Wba hC).mono ?_
  rintro e w2 ⟨rfl, hb⟩
  have hC2 : Below w.heap.size w w2 := hC.trans (hb.mono hC.size)
  clear hC; have hC := hC2; clear hC2
  have ba_ := ba.below hb ba.lt; clear ba; have ba := ba_; clear ba_
  clear hb
  go_wp2_with fail
  have bb : BK (w2.alloc (.cells #[.int .i64 a1, .int .i64 a2, .int .i64 a3, .int .i64 a4] 34)) w2.heap.size #[.int .i64 a1, .int .i64 a2, .int .i64 a3, .int .i64 a4] 34 := BK.new _ _ _
  have hC2 : Below w.heap.size w (w2.alloc (.cells #[.int .i64 a1, .int .i64 a2, .int .i64 a3, .int .i64 a4] 34)) := by have := hC.size; (repeat (first | with_reducible assumption | with_reducible exact Below.refl _ _ | (with_reducible refine Below.setCell ?_ (by first | omega | (simp; omega) | (simp; done)) _) | (with_reducible refine Below.alloc ?_ (by first | omega | (simp; omega) | (simp; done)) _) | (with_reducible refine Below.drew ?_) | (with_reducible refine belowN ?_ _) | assumption | exact Below.refl _ _ | (refine Below.alloc ?_ (by first | omega | (simp; omega) | (simp; done)) _) | (refine Below.drew ?_) | (refine belowN ?_ _) | (refine Below.setCell ?_ (by first | omega | (simp; omega) | (simp; done)) _)))
  clear hC; have hC := hC2; clear hC2
  have ba_ := ba.alloc (.cells #[.int .i64 a1, .int .i64 a2, .int .i64 a3, .int .i64 a4] 34); clear ba; have ba := ba_; clear ba_
  generalize (w2.alloc (.cells #[.int .i64 a1, .int .i64 a2, .int .i64 a3, .int .i64 a4] 34)) = Wbb at *
  obtain ⟨gbb, hgbb⟩ : ∃ g, w2.heap.size = g := ⟨_, rfl⟩
  rw [hgbb] at bb
  try rw [hgbb]
  clear hgbb
  refine (HS.out Wbb hC).mono ?_
  rintro e w3 ⟨rfl, hb⟩
  have hC2 : Below w.heap.size w w3 := hC.trans (hb.mono hC.size)
  clear hC; have hC := hC2; clear hC2
  have ba_ := ba.below hb ba.lt; clear ba; have ba := ba_; clear ba_
  have bb_ := bb.below hb bb.lt; clear bb; have bb := bb_; clear bb_
  clear hb
  go_wp2_with fail
  have bc : BK (w3.alloc (.cells #[.int .i64 b1, .int .i64 b2, .int .i64 b3, .int .i64 b4] 34)) w3.heap.size #[.int .i64 b1, .int .i64 b2, .int .i64 b3, .int .i64 b4] 34 := BK.new _ _ _
  have hC2 : Below w.heap.size w (w3.alloc (.cells #[.int .i64 b1, .int .i64 b2, .int .i64 b3, .int .i64 b4] 34)) := by have := hC.size; (repeat (first | with_reducible assumption | with_reducible exact Below.refl _ _ | (with_reducible refine Below.setCell ?_ (by first | omega | (simp; omega) | (simp; done)) _) | (with_reducible refine Below.alloc ?_ (by first | omega | (simp; omega) | (simp; done)) _) | (with_reducible refine Below.drew ?_) | (with_reducible refine belowN ?_ _) | assumption | exact Below.refl _ _ | (refine Below.alloc ?_ (by first | omega | (simp; omega) | (simp; done)) _) | (refine Below.drew ?_) | (refine belowN ?_ _) | (refine Below.setCell ?_ (by first | omega | (simp; omega) | (simp; done)) _)))
  clear hC; have hC := hC2; clear hC2
  have ba_ := ba.alloc (.cells #[.int .i64 b1, .int .i64 b2, .int .i64 b3, .int .i64 b4] 34); clear ba; have ba := ba_; clear ba_
  have bb_ := bb.alloc (.cells #[.int .i64 b1, .int .i64 b2, .int .i64 b3, .int .i64 b4] 34); clear bb; have bb := bb_; clear bb_
  generalize (w3.alloc (.cells #[.int .i64 b1, .int .i64 b2, .int .i64 b3, .int .i64 b4] 34)) = Wbc at *
  obtain ⟨gbc, hgbc⟩ : ∃ g, w3.heap.size = g := ⟨_, rfl⟩
  rw [hgbc] at bc
  try rw [hgbc]
  clear hgbc
  refine (HSR.out Wbc hC).mono ?_
  rintro e w4 ⟨rfl, hb⟩
  have hC2 : Below w.heap.size w w4 := hC.trans (hb.mono hC.size)
  clear hC; have hC := hC2; clear hC2
  have ba_ := ba.below hb ba.lt; clear ba; have ba := ba_; clear ba_
  have bb_ := bb.below hb bb.lt; clear bb; have bb := bb_; clear bb_
  have bc_ := bc.below hb bc.lt; clear bc; have bc := bc_; clear bc_
  clear hb
  go_wp2_with fail
  have bd : BK (w4.alloc (.cells #[.int .i64 b1, .int .i64 b2, .int .i64 b3, .int .i64 b4] 34)) w4.heap.size #[.int .i64 b1, .int .i64 b2, .int .i64 b3, .int .i64 b4] 34 := BK.new _ _ _
  have hC2 : Below w.heap.size w (w4.alloc (.cells #[.int .i64 b1, .int .i64 b2, .int .i64 b3, .int .i64 b4] 34)) := by have := hC.size; (repeat (first | with_reducible assumption | with_reducible exact Below.refl _ _ | (with_reducible refine Below.setCell ?_ (by first | omega | (simp; omega) | (simp; done)) _) | (with_reducible refine Below.alloc ?_ (by first | omega | (simp; omega) | (simp; done)) _) | (with_reducible refine Below.drew ?_) | (with_reducible refine belowN ?_ _) | assumption | exact Below.refl _ _ | (refine Below.alloc ?_ (by first | omega | (simp; omega) | (simp; done)) _) | (refine Below.drew ?_) | (refine belowN ?_ _) | (refine Below.setCell ?_ (by first | omega | (simp; omega) | (simp; done)) _)))
  clear hC; have hC := hC2; clear hC2
  have ba_ := ba.alloc (.cells #[.int .i64 b1, .int .i64 b2, .int .i64 b3, .int .i64 b4] 34); clear ba; have ba := ba_; clear ba_
  have bb_ := bb.alloc (.cells #[.int .i64 b1, .int .i64 b2, .int .i64 b3, .int .i64 b4] 34); clear bb; have bb := bb_; clear bb_
  have bc_ := bc.alloc (.cells #[.int .i64 b1, .int .i64 b2, .int .i64 b3, .int .i64 b4] 34); clear bc; have bc := bc_; clear bc_
  generalize (w4.alloc (.cells #[.int .i64 b1, .int .i64 b2, .int .i64 b3, .int .i64 b4] 34)) = Wbd at *
  obtain ⟨gbd, hgbd⟩ : ∃ g, w4.heap.size = g := ⟨_, rfl⟩
  rw [hgbd] at bd
  try rw [hgbd]
  clear hgbd
  refine (HG.out Wbd hC).mono ?_
  rintro e w5 ⟨rfl, hb⟩
  have hC2 : Below w.heap.size w w5 := hC.trans (hb.mono hC.size)
  clear hC; have hC := hC2; clear hC2
  have ba_ := ba.below hb ba.lt; clear ba; have ba := ba_; clear ba_
  have bb_ := bb.below hb bb.lt; clear bb; have bb := bb_; clear bb_
  have bc_ := bc.below hb bc.lt; clear bc; have bc := bc_; clear bc_
  have bd_ := bd.below hb bd.lt; clear bd; have bd := bd_; clear bd_
  clear hb
  go_wp2_with fail
  have be : BK (w5.alloc (.cells #[.int .i64 c1, .int .i64 c2, .int .i64 c3, .int .i64 c4] 34)) w5.heap.size #[.int .i64 c1, .int .i64 c2, .int .i64 c3, .int .i64 c4] 34 := BK.new _ _ _
  have hC2 : Below w.heap.size w (w5.alloc (.cells #[.int .i64 c1, .int .i64 c2, .int .i64 c3, .int .i64 c4] 34)) := by have := hC.size; (repeat (first | with_reducible assumption | with_reducible exact Below.refl _ _ | (with_reducible refine Below.setCell ?_ (by first | omega | (simp; omega) | (simp; done)) _) | (with_reducible refine Below.alloc ?_ (by first | omega | (simp; omega) | (simp; done)) _) | (with_reducible refine Below.drew ?_) | (with_reducible refine belowN ?_ _) | assumption | exact Below.refl _ _ | (refine Below.alloc ?_ (by first | omega | (simp; omega) | (simp; done)) _) | (refine Below.drew ?_) | (refine belowN ?_ _) | (refine Below.setCell ?_ (by first | omega | (simp; omega) | (simp; done)) _)))
  clear hC; have hC := hC2; clear hC2
  have ba_ := ba.alloc (.cells #[.int .i64 c1, .int .i64 c2, .int .i64 c3, .int .i64 c4] 34); clear ba; have ba := ba_; clear ba_
  have bb_ := bb.alloc (.cells #[.int .i64 c1, .int .i64 c2, .int .i64 c3, .int .i64 c4] 34); clear bb; have bb := bb_; clear bb_
  have bc_ := bc.alloc (.cells #[.int .i64 c1, .int .i64 c2, .int .i64 c3, .int .i64 c4] 34); clear bc; have bc := bc_; clear bc_
  have bd_ := bd.alloc (.cells #[.int .i64 c1, .int .i64 c2, .int .i64 c3, .int .i64 c4] 34); clear bd; have bd := bd_; clear bd_
  generalize (w5.alloc (.cells #[.int .i64 c1, .int .i64 c2, .int .i64 c3, .int .i64 c4] 34)) = Wbe at *
  obtain ⟨gbe, hgbe⟩ : ∃ g, w5.heap.size = g := ⟨_, rfl⟩
  rw [hgbe] at be
  try rw [hgbe]
  clear hgbe
  refine (HGR.out Wbe hC).mono ?_
  rintro e w6 ⟨rfl, hb⟩
  have hC2 : Below w.heap.size w w6 := hC.trans (hb.mono hC.size)
  clear hC; have hC := hC2; clear hC2
  have ba_ := ba.below hb ba.lt; clear ba; have ba := ba_; clear ba_
  have bb_ := bb.below hb bb.lt; clear bb; have bb := bb_; clear bb_
  have bc_ := bc.below hb bc.lt; clear bc; have bc := bc_; clear bc_
  have bd_ := bd.below hb bd.lt; clear bd; have bd := bd_; clear bd_
  have be_ := be.below hb be.lt; clear be; have be := be_; clear be_
  clear hb
  have lba := ba.lt
  have bac0 := ba.cell 0
  have bac1 := ba.cell 1
  have bac2 := ba.cell 2
  have bac3 := ba.cell 3
  simp at bac0 bac1 bac2 bac3
  have lbb := bb.lt
  have bbc0 := bb.cell 0
  have bbc1 := bb.cell 1
  have bbc2 := bb.cell 2
  have bbc3 := bb.cell 3
  simp at bbc0 bbc1 bbc2 bbc3
  have lbc := bc.lt
  have bcc0 := bc.cell 0
  have bcc1 := bc.cell 1
  have bcc2 := bc.cell 2
  have bcc3 := bc.cell 3
  simp at bcc0 bcc1 bcc2 bcc3
  have lbd := bd.lt
  have bdc0 := bd.cell 0
  have bdc1 := bd.cell 1
  have bdc2 := bd.cell 2
  have bdc3 := bd.cell 3
  simp at bdc0 bdc1 bdc2 bdc3
  have lbe := be.lt
  have bec0 := be.cell 0
  have bec1 := be.cell 1
  have bec2 := be.cell 2
  have bec3 := be.cell 3
  simp at bec0 bec1 bec2 bec3
  go_wp2_with fail
  refine (works_any _).mono ?_
  rintro e w7 ⟨rfl, hb⟩
  have hC2 : Below w.heap.size w w7 := Below.trans (a := w) (B := w.heap.size) (by have := hC.size; (repeat (first | with_reducible assumption | with_reducible exact Below.refl _ _ | (with_reducible refine Below.setCell ?_ (by first | omega | (simp; omega) | (simp; done)) _) | (with_reducible refine Below.alloc ?_ (by first | omega | (simp; omega) | (simp; done)) _) | (with_reducible refine Below.drew ?_) | (with_reducible refine belowN ?_ _) | assumption | exact Below.refl _ _ | (refine Below.alloc ?_ (by first | omega | (simp; omega) | (simp; done)) _) | (refine Below.drew ?_) | (refine belowN ?_ _) | (refine Below.setCell ?_ (by first | omega | (simp; omega) | (simp; done)) _)))) (hb.mono (by have := hC.size; simp; omega))
  go_wp2_with fail
  go_ret
  exact ⟨rfl, hC2⟩
theorem spans_any (l : List St) (s : Int) (vl : Value) (w : World) (h : RSt w w.heap.size vl l) :
    Calls Try.prog 4 #[vl, .int .i64 s] w fun e w' => e = .returned (.bool true) ∧ Below w.heap.size w w' := by
  by_cases hl : 35 < l.length
  · exact spans_great l s vl w hl h
  · exact spans_small l s vl w hl h
theorem spans_row (l : List St) (vl : Value) {w : World} (h : RSt w w.heap.size vl l) (_ : l.length ≤ maxLen) (s : Int) (_ : (Lit.int .i64 s).wf = true) (W : World) (hw : W = w := by rfl) :
    Calls Try.prog 4 #[vl, .int .i64 s] W fun e w' => e = .returned (.bool true) ∧ Below W.heap.size W w' := by
  subst hw; exact spans_any l s vl _ h
end Go.Proofs.Ytbjmkmambmeifaa

namespace Go.Proofs.Ytbjmkmambmeifaa
open Go.RowKit

theorem ints_same (a : List Int) (va vb : Value) (w : World) (hl : a.length ≤ 1000) (h : RI w w.heap.size va a) (h' : RI w w.heap.size vb a) :
    Calls Try.prog 21 #[va, vb] w fun e w' => e = .returned (.bool true) ∧ Below w.heap.size w w' :=
  (ints_any a a va vb w hl hl h h').mono fun e w' ⟨he, hb⟩ => ⟨by rw [he]; simp, hb⟩
theorem ratios_same (a : List Ra) (va vb : Value) (w : World) (hl : a.length ≤ 1000) (h : RRa w w.heap.size va a) (h' : RRa w w.heap.size vb a) :
    Calls Try.prog 36 #[va, vb] w fun e w' => e = .returned (.bool true) ∧ Below w.heap.size w w' :=
  (ratios_any a a va vb w hl hl h h').mono fun e w' ⟨he, hb⟩ => ⟨by rw [he]; simp, hb⟩
theorem wedgeV_form (l : List St) : ∃ a b c d, wedgeV l = .tuple #[.agg #[.int .i64 a, .int .i64 b, .int .i64 c], .int .i64 d] := by
  unfold wedgeV
  by_cases h : checkPair l ≠ 0
  · rw [if_pos h]; exact ⟨0, 0, 0, _, rfl⟩
  · rw [if_neg h]
    cases wedgeF l with
    | none => exact ⟨_, _, _, _, rfl⟩
    | some x => obtain ⟨i, k, m⟩ := x; exact ⟨_, _, _, _, rfl⟩
theorem kindsP_len (l : List St) : (kindsP l).length ≤ l.length := by
  unfold kindsP; split <;> simp
theorem heightsP_len (l : List St) : (heightsP l).length ≤ l.length := by
  unfold heightsP; split <;> simp

theorem wedges_great (l : List St) (vl : Value) (w : World) (hl : 35 < l.length) (h : RSt w w.heap.size vl l) :
    Calls Try.prog 5 #[vl] w fun e w' => e = .returned (.bool true) ∧ Below w.heap.size w w' := by
  obtain ⟨A, cap, b, off, rfl, _, _⟩ := h.cells
  have d1 : decide (35 < (l.length : Int)) = true := by simp; omega
  clear h hl
  go_enter Try.func5, Try.ntmps5
  go_wp2_with fail
  refine (great_any _ _ _ _).mono ?_
  rintro e w1 ⟨rfl, rfl⟩
  go_wp2_with fail
  refine (works_any _).mono ?_
  rintro e w1 ⟨rfl, hb1⟩
  go_wp2_with fail
  go_ret
  exact ⟨rfl, by (repeat (first | with_reducible assumption | with_reducible exact Below.refl _ _ | (with_reducible refine Below.setCell ?_ (by first | omega | (simp; omega) | (simp; done)) _) | (with_reducible refine Below.alloc ?_ (by first | omega | (simp; omega) | (simp; done)) _) | (with_reducible refine Below.drew ?_) | (with_reducible refine belowN ?_ _) | assumption | exact Below.refl _ _ | (refine Below.alloc ?_ (by first | omega | (simp; omega) | (simp; done)) _) | (refine Below.drew ?_) | (refine belowN ?_ _) | (refine Below.setCell ?_ (by first | omega | (simp; omega) | (simp; done)) _)))⟩

set_option maxRecDepth 100000 in
set_option maxHeartbeats 8000000 in
theorem wedges_small (l : List St) (vl : Value) (w : World) (hl : ¬ 35 < l.length) (h : RSt w w.heap.size vl l) :
    Calls Try.prog 5 #[vl] w fun e w' => e = .returned (.bool true) ∧ Below w.heap.size w w' := by
  have hK := fun W (hb : Below w.heap.size w W) => kindsP_any l vl W (by omega) ((RS.below h hb).more hb.size)
  have hKR := fun W (hb : Below w.heap.size w W) => refKinds_any l vl W (by omega) ((RS.below h hb).more hb.size)
  have hW := fun W (hb : Below w.heap.size w W) => wedgeP_any l vl W (by omega) ((RS.below h hb).more hb.size)
  have hWR := fun W (hb : Below w.heap.size w W) => refWedge_any l vl W (by omega) ((RS.below h hb).more hb.size)
  have hH := fun W (hb : Below w.heap.size w W) => heightsP_any l vl W (by omega) ((RS.below h hb).more hb.size)
  have hHR := fun W (hb : Below w.heap.size w W) => refHeights_any l vl W (by omega) ((RS.below h hb).more hb.size)
  simp only [← Ma.kinds_eq] at hKR
  simp only [← Ma.heights_eq, ← Ma.heightsErr_eq] at hHR
  obtain ⟨a1, a2, a3, a4, ha⟩ := wedgeV_form l
  rw [ha] at hW hWR
  have KL := Lib.hid (show (kindsP l).length ≤ 1000 from Nat.le_trans (kindsP_len l) (by omega))
  have HL := Lib.hid (show (heightsP l).length ≤ 1000 from Nat.le_trans (heightsP_len l) (by omega))
  have HK := Lib.hid hK; have HKR := Lib.hid hKR; have HW := Lib.hid hW; have HWR := Lib.hid hWR; have HH := Lib.hid hH; have HHR := Lib.hid hHR
  clear hK hKR hW hWR hH hHR ha
  generalize kindsP l = ks at *
  generalize heightsP l = hs at *
  generalize checkPair l = cp at *
  generalize heightsErrP l = he at *
  obtain ⟨A, cap, b, off, rfl, _, _⟩ := h.cells
  have d1 : decide (35 < (l.length : Int)) = false := by simp; omega
  clear h hl
  go_enter Try.func5, Try.ntmps5
  go_wp2_with fail
  refine (great_any _ _ _ _).mono ?_
  rintro e w0 ⟨rfl, rfl⟩
  go_wp2_with fail
  have hC : Below w.heap.size w w := Below.refl _ _
  refine (HK.out w hC).mono ?_
  rintro e w1 ⟨vk, rfl, hk, hb⟩
  have hC2 : Below w.heap.size w w1 := hC.trans (hb.mono hC.size)
  clear hC; have hC := hC2; clear hC2
  clear hb
  go_wp2_with fail
  refine (HKR.out w1 hC).mono ?_
  rintro e w2 ⟨vr, rfl, hr, hb⟩
  have hC2 : Below w.heap.size w w2 := hC.trans (hb.mono hC.size)
  clear hC; have hC := hC2; clear hC2
  have hk_ := (RS.below hk hb).more hb.size; clear hk; have hk := hk_; clear hk_
  clear hb
  go_wp2_with fail
  refine (HW.out w2 hC).mono ?_
  rintro e w3 ⟨rfl, hb⟩
  have hC2 : Below w.heap.size w w3 := hC.trans (hb.mono hC.size)
  clear hC; have hC := hC2; clear hC2
  have hk_ := (RS.below hk hb).more hb.size; clear hk; have hk := hk_; clear hk_
  have hr_ := (RS.below hr hb).more hb.size; clear hr; have hr := hr_; clear hr_
  clear hb
  go_wp2_with fail
  have ba : BK (w3.alloc (.cells #[.int .i64 a1, .int .i64 a2, .int .i64 a3] 44)) w3.heap.size #[.int .i64 a1, .int .i64 a2, .int .i64 a3] 44 := BK.new _ _ _
  have hC2 : Below w.heap.size w (w3.alloc (.cells #[.int .i64 a1, .int .i64 a2, .int .i64 a3] 44)) := by have := hC.size; (repeat (first | with_reducible assumption | with_reducible exact Below.refl _ _ | (with_reducible refine Below.setCell ?_ (by first | omega | (simp; omega) | (simp; done)) _) | (with_reducible refine Below.alloc ?_ (by first | omega | (simp; omega) | (simp; done)) _) | (with_reducible refine Below.drew ?_) | (with_reducible refine belowN ?_ _) | assumption | exact Below.refl _ _ | (refine Below.alloc ?_ (by first | omega | (simp; omega) | (simp; done)) _) | (refine Below.drew ?_) | (refine belowN ?_ _) | (refine Below.setCell ?_ (by first | omega | (simp; omega) | (simp; done)) _)))
  clear hC; have hC := hC2; clear hC2
  have hk_ := (RS.below hk (w' := (w3.alloc (.cells #[.int .i64 a1, .int .i64 a2, .int .i64 a3] 44))) (by (repeat (first | with_reducible assumption | with_reducible exact Below.refl _ _ | (with_reducible refine Below.setCell ?_ (by first | omega | (simp; omega) | (simp; done)) _) | (with_reducible refine Below.alloc ?_ (by first | omega | (simp; omega) | (simp; done)) _) | (with_reducible refine Below.drew ?_) | (with_reducible refine belowN ?_ _) | assumption | exact Below.refl _ _ | (refine Below.alloc ?_ (by first | omega | (simp; omega) | (simp; done)) _) | (refine Below.drew ?_) | (refine belowN ?_ _) | (refine Below.setCell ?_ (by first | omega | (simp; omega) | (simp; done)) _))))).more (B' := (w3.alloc (.cells #[.int .i64 a1, .int .i64 a2, .int .i64 a3] 44)).heap.size) (by simp); clear hk; have hk := hk_; clear hk_
  have hr_ := (RS.below hr (w' := (w3.alloc (.cells #[.int .i64 a1, .int .i64 a2, .int .i64 a3] 44))) (by (repeat (first | with_reducible assumption | with_reducible exact Below.refl _ _ | (with_reducible refine Below.setCell ?_ (by first | omega | (simp; omega) | (simp; done)) _) | (with_reducible refine Below.alloc ?_ (by first | omega | (simp; omega) | (simp; done)) _) | (with_reducible refine Below.drew ?_) | (with_reducible refine belowN ?_ _) | assumption | exact Below.refl _ _ | (refine Below.alloc ?_ (by first | omega | (simp; omega) | (simp; done)) _) | (refine Below.drew ?_) | (refine belowN ?_ _) | (refine Below.setCell ?_ (by first | omega | (simp; omega) | (simp; done)) _))))).more (B' := (w3.alloc (.cells #[.int .i64 a1, .int .i64 a2, .int .i64 a3] 44)).heap.size) (by simp); clear hr; have hr := hr_; clear hr_
  generalize (w3.alloc (.cells #[.int .i64 a1, .int .i64 a2, .int .i64 a3] 44)) = Wba at *
  obtain ⟨gba, hgba⟩ : ∃ g, w3.heap.size = g := ⟨_, rfl⟩
  rw [hgba] at ba
  try rw [hgba]
  clear hgba
  refine (HWR.out Wba hC).mono ?_
  rintro e w4 ⟨rfl, hb⟩
  have hC2 : Below w.heap.size w w4 := hC.trans (hb.mono hC.size)
  clear hC; have hC := hC2; clear hC2
  have hk_ := (RS.below hk hb).more hb.size; clear hk; have hk := hk_; clear hk_
  have hr_ := (RS.below hr hb).more hb.size; clear hr; have hr := hr_; clear hr_
  have ba_ := ba.below hb ba.lt; clear ba; have ba := ba_; clear ba_
  clear hb
  go_wp2_with fail
  have bb : BK (w4.alloc (.cells #[.int .i64 a1, .int .i64 a2, .int .i64 a3] 44)) w4.heap.size #[.int .i64 a1, .int .i64 a2, .int .i64 a3] 44 := BK.new _ _ _
  have hC2 : Below w.heap.size w (w4.alloc (.cells #[.int .i64 a1, .int .i64 a2, .int .i64 a3] 44)) := by have := hC.size; (repeat (first | with_reducible assumption | with_reducible exact Below.refl _ _ | (with_reducible refine Below.setCell ?_ (by first | omega | (simp; omega) | (simp; done)) _) | (with_reducible refine Below.alloc ?_ (by first | omega | (simp; omega) | (simp; done)) _) | (with_reducible refine Below.drew ?_) | (with_reducible refine belowN ?_ _) | assumption | exact Below.refl _ _ | (refine Below.alloc ?_ (by first | omega | (simp; omega) | (simp; done)) _) | (refine Below.drew ?_) | (refine belowN ?_ _) | (refine Below.setCell ?_ (by first | omega | (simp; omega) | (simp; done)) _)))
  clear hC; have hC := hC2; clear hC2
  have hk_ := (RS.below hk (w' := (w4.alloc (.cells #[.int .i64 a1, .int .i64 a2, .int .i64 a3] 44))) (by (repeat (first | with_reducible assumption | with_reducible exact Below.refl _ _ | (with_reducible refine Below.setCell ?_ (by first | omega | (simp; omega) | (simp; done)) _) | (with_reducible refine Below.alloc ?_ (by first | omega | (simp; omega) | (simp; done)) _) | (with_reducible refine Below.drew ?_) | (with_reducible refine belowN ?_ _) | assumption | exact Below.refl _ _ | (refine Below.alloc ?_ (by first | omega | (simp; omega) | (simp; done)) _) | (refine Below.drew ?_) | (refine belowN ?_ _) | (refine Below.setCell ?_ (by first | omega | (simp; omega) | (simp; done)) _))))).more (B' := (w4.alloc (.cells #[.int .i64 a1, .int .i64 a2, .int .i64 a3] 44)).heap.size) (by simp); clear hk; have hk := hk_; clear hk_
  have hr_ := (RS.below hr (w' := (w4.alloc (.cells #[.int .i64 a1, .int .i64 a2, .int .i64 a3] 44))) (by (repeat (first | with_reducible assumption | with_reducible exact Below.refl _ _ | (with_reducible refine Below.setCell ?_ (by first | omega | (simp; omega) | (simp; done)) _) | (with_reducible refine Below.alloc ?_ (by first | omega | (simp; omega) | (simp; done)) _) | (with_reducible refine Below.drew ?_) | (with_reducible refine belowN ?_ _) | assumption | exact Below.refl _ _ | (refine Below.alloc ?_ (by first | omega | (simp; omega) | (simp; done)) _) | (refine Below.drew ?_) | (refine belowN ?_ _) | (refine Below.setCell ?_ (by first | omega | (simp; omega) | (simp; done)) _))))).more (B' := (w4.alloc (.cells #[.int .i64 a1, .int .i64 a2, .int .i64 a3] 44)).heap.size) (by simp); clear hr; have hr := hr_; clear hr_
  have ba_ := ba.alloc (.cells #[.int .i64 a1, .int .i64 a2, .int .i64 a3] 44); clear ba; have ba := ba_; clear ba_
  generalize (w4.alloc (.cells #[.int .i64 a1, .int .i64 a2, .int .i64 a3] 44)) = Wbb at *
  obtain ⟨gbb, hgbb⟩ : ∃ g, w4.heap.size = g := ⟨_, rfl⟩
  rw [hgbb] at bb
  try rw [hgbb]
  clear hgbb
  refine (HH.out Wbb hC).mono ?_
  rintro e w5 ⟨vh, rfl, hh, hb⟩
  have hC2 : Below w.heap.size w w5 := hC.trans (hb.mono hC.size)
  clear hC; have hC := hC2; clear hC2
  have hk_ := (RS.below hk hb).more hb.size; clear hk; have hk := hk_; clear hk_
  have hr_ := (RS.below hr hb).more hb.size; clear hr; have hr := hr_; clear hr_
  have ba_ := ba.below hb ba.lt; clear ba; have ba := ba_; clear ba_
  have bb_ := bb.below hb bb.lt; clear bb; have bb := bb_; clear bb_
  clear hb
  go_wp2_with fail
  refine (HHR.out w5 hC).mono ?_
  rintro e w6 ⟨vg, rfl, hg, hb⟩
  have hC2 : Below w.heap.size w w6 := hC.trans (hb.mono hC.size)
  clear hC; have hC := hC2; clear hC2
  have hk_ := (RS.below hk hb).more hb.size; clear hk; have hk := hk_; clear hk_
  have hr_ := (RS.below hr hb).more hb.size; clear hr; have hr := hr_; clear hr_
  have ba_ := ba.below hb ba.lt; clear ba; have ba := ba_; clear ba_
  have bb_ := bb.below hb bb.lt; clear bb; have bb := bb_; clear bb_
  have hh_ := (RS.below hh hb).more hb.size; clear hh; have hh := hh_; clear hh_
  clear hb
  go_wp2_with fail
  refine (ints_same ks vk vr w6 KL.out hk hr).mono ?_
  rintro e w7 ⟨rfl, hb⟩
  have hC2 : Below w.heap.size w w7 := hC.trans (hb.mono hC.size)
  clear hC; have hC := hC2; clear hC2
  have hk_ := (RS.below hk hb).more hb.size; clear hk; have hk := hk_; clear hk_
  have hr_ := (RS.below hr hb).more hb.size; clear hr; have hr := hr_; clear hr_
  have ba_ := ba.below hb ba.lt; clear ba; have ba := ba_; clear ba_
  have bb_ := bb.below hb bb.lt; clear bb; have bb := bb_; clear bb_
  have hh_ := (RS.below hh hb).more hb.size; clear hh; have hh := hh_; clear hh_
  have hg_ := (RS.below hg hb).more hb.size; clear hg; have hg := hg_; clear hg_
  clear hb
  have lba := ba.lt
  have bac0 := ba.cell 0
  have bac1 := ba.cell 1
  have bac2 := ba.cell 2
  simp at bac0 bac1 bac2
  have lbb := bb.lt
  have bbc0 := bb.cell 0
  have bbc1 := bb.cell 1
  have bbc2 := bb.cell 2
  simp at bbc0 bbc1 bbc2
  go_wp2_with fail
  refine (ratios_same hs vh vg w7 HL.out hh hg).mono ?_
  rintro e w8 ⟨rfl, hb⟩
  have hC2 : Below w.heap.size w w8 := hC.trans (hb.mono hC.size)
  clear hC; have hC := hC2; clear hC2
  have hk_ := (RS.below hk hb).more hb.size; clear hk; have hk := hk_; clear hk_
  have hr_ := (RS.below hr hb).more hb.size; clear hr; have hr := hr_; clear hr_
  have ba_ := ba.below hb ba.lt; clear ba; have ba := ba_; clear ba_
  have bb_ := bb.below hb bb.lt; clear bb; have bb := bb_; clear bb_
  have hh_ := (RS.below hh hb).more hb.size; clear hh; have hh := hh_; clear hh_
  have hg_ := (RS.below hg hb).more hb.size; clear hg; have hg := hg_; clear hg_
  clear hb
  go_wp2_with fail
  refine (works_any _).mono ?_
  rintro e w9 ⟨rfl, hb⟩
  go_wp2_with fail
  go_ret
  exact ⟨rfl, hC.trans (hb.mono hC.size)⟩
theorem wedges_row (l : List St) (vl : Value) {w : World} (h : RSt w w.heap.size vl l) (_ : l.length ≤ maxLen) (W : World) (hw : W = w := by rfl) :
    Calls Try.prog 5 #[vl] W fun e w' => e = .returned (.bool true) ∧ Below W.heap.size W w' := by
  subst hw
  by_cases hl : 35 < l.length
  · exact wedges_great l vl _ hl h
  · exact wedges_small l vl _ hl h
end Go.Proofs.Ytbjmkmambmeifaa

namespace Go.Proofs.Ytbjmkmambmeifaa
open Go.RowKit

theorem tiltsV_form (l : List St) (t : List Int) (s : Int) : ∃ a b c d e, tiltsV l t s = .tuple #[.agg #[.int .i64 a, .int .i64 b, .int .i64 c, .int .i64 d], .int .i64 e] := by
  unfold tiltsV
  by_cases h : checkTruth l t ≠ 0
  · rw [if_pos h]; exact ⟨0, 0, 0, 0, _, rfl⟩
  · rw [if_neg h]
    by_cases h2 : ¬ (0 ≤ s ∧ s < l.length)
    · rw [if_pos h2]; exact ⟨0, 0, 0, 0, _, rfl⟩
    · rw [if_neg h2]
      obtain ⟨a, b, c, d, h⟩ := spanV_formE l t s.toNat (nthI t s.toNat)
      exact ⟨a, b, c, d, _, h⟩
theorem contactL_len (l : List St) (t : List Int) (x : Ra) : (contactL l t x).length ≤ l.length := by
  unfold contactL
  split
  · rw [List.length_map]
    exact Nat.le_trans (List.length_filter_le _ _) (by simp)
  · simp

theorem pairs_great (l : List St) (t : List Int) (x : Ra) (s : Int) (h : List Ra) (vl vt vh : Value) (w : World) (hl : 35 < l.length ∨ 40 < t.length ∨ 40 < h.length) (hs : RSt w w.heap.size vl l) (ht : RI w w.heap.size vt t) (hr : RRa w w.heap.size vh h) :
    Calls Try.prog 3 #[vl, vt, .agg #[.int .i64 x.num, .int .i64 x.den], .int .i64 s, vh] w fun e w' => e = .returned (.bool true) ∧ Below w.heap.size w w' := by
  obtain ⟨A, cap, b, off, rfl, _, _⟩ := hs.cells
  obtain ⟨A2, cap2, b2, off2, rfl, _, _⟩ := ht.cells
  obtain ⟨A3, cap3, b3, off3, rfl, _, _⟩ := hr.cells
  clear hs ht hr
  obtain ⟨p, hp⟩ : ∃ p, decide (35 < (l.length : Int)) = p := ⟨_, rfl⟩
  obtain ⟨q, hq⟩ : ∃ q, decide (40 < (t.length : Int)) = q := ⟨_, rfl⟩
  obtain ⟨r, hr⟩ : ∃ r, decide (40 < (h.length : Int)) = r := ⟨_, rfl⟩
  have ho : p = true ∨ (p = false ∧ q = true) ∨ (p = false ∧ q = false ∧ r = true) := by
    rw [← hp, ← hq, ← hr]
    simp only [decide_eq_true_eq, decide_eq_false_iff_not]
    omega
  clear hl
  rcases ho with rfl | ⟨rfl, rfl⟩ | ⟨rfl, rfl, rfl⟩
  all_goals
    go_enter Try.func3, Try.ntmps3
    go_wp2_with fail
    refine (great_any _ _ _ _).mono ?_
    rintro e w1 ⟨rfl, rfl⟩
    go_wp2_with fail
    refine (works_any _).mono ?_
    rintro e w1 ⟨rfl, hb1⟩
    go_wp2_with fail
    go_ret
    exact ⟨rfl, Below.trans (a := w) (B := w.heap.size) (by (repeat (first | with_reducible assumption | with_reducible exact Below.refl _ _ | (with_reducible refine Below.setCell ?_ (by first | omega | (simp; omega) | (simp; done)) _) | (with_reducible refine Below.alloc ?_ (by first | omega | (simp; omega) | (simp; done)) _) | (with_reducible refine Below.drew ?_) | (with_reducible refine belowN ?_ _) | assumption | exact Below.refl _ _ | (refine Below.alloc ?_ (by first | omega | (simp; omega) | (simp; done)) _) | (refine Below.drew ?_) | (refine belowN ?_ _) | (refine Below.setCell ?_ (by first | omega | (simp; omega) | (simp; done)) _)))) (hb1.mono (by simp))⟩

set_option maxRecDepth 100000 in
set_option maxHeartbeats 8000000 in
theorem pairs_small (l : List St) (t : List Int) (x : Ra) (s : Int) (h : List Ra) (vl vt vh : Value) (w : World) (hl : ¬ 35 < l.length) (hl2 : ¬ 40 < t.length) (hl3 : ¬ 40 < h.length) (hs : RSt w w.heap.size vl l) (ht : RI w w.heap.size vt t) (hr : RRa w w.heap.size vh h) :
    Calls Try.prog 3 #[vl, vt, .agg #[.int .i64 x.num, .int .i64 x.den], .int .i64 s, vh] w fun e w' => e = .returned (.bool true) ∧ Below w.heap.size w w' := by
  have hC := fun W (hb : Below w.heap.size w W) => contactP_any l t x vl vt W (by omega) (by omega) ((RS.below hs hb).more hb.size) ((RS.below ht hb).more hb.size)
  have hCR := fun W (hb : Below w.heap.size w W) => refContact_any l t x vl vt W (by omega) (by omega) ((RS.below hs hb).more hb.size) ((RS.below ht hb).more hb.size)
  have hT := fun W (hb : Below w.heap.size w W) => tilts_any l t s vl vt W (by omega) (by omega) ((RS.below hs hb).more hb.size) ((RS.below ht hb).more hb.size)
  have hTR := fun W (hb : Below w.heap.size w W) => refTilts_any l t s vl vt W (by omega) (by omega) ((RS.below hs hb).more hb.size) ((RS.below ht hb).more hb.size)
  have hP := fun W (hb : Below w.heap.size w W) => checkPair_any l vl W (by omega) ((RS.below hs hb).more hb.size)
  have hPR := fun W (hb : Below w.heap.size w W) => refCheckPair_any l vl W (by omega) ((RS.below hs hb).more hb.size)
  have hH := fun W (hb : Below w.heap.size w W) => checkHeightsP_any l h vl vh W (by omega) (by omega) ((RS.below hs hb).more hb.size) ((RS.below hr hb).more hb.size)
  have hHR := fun W (hb : Below w.heap.size w W) => refCheckHeights_any l h vl vh W (by omega) (by omega) ((RS.below hs hb).more hb.size) ((RS.below hr hb).more hb.size)
  simp only [← Ma.check_eq] at hHR
  obtain ⟨a1, a2, a3, a4, a5, ha⟩ := tiltsV_form l t s
  rw [ha] at hT hTR
  have CL := Lib.hid (show (contactL l t x).length ≤ 1000 from Nat.le_trans (contactL_len l t x) (by omega))
  have HC := Lib.hid hC; have HCR := Lib.hid hCR; have HT := Lib.hid hT; have HTR := Lib.hid hTR; have HP := Lib.hid hP; have HPR := Lib.hid hPR; have HH := Lib.hid hH; have HHR := Lib.hid hHR
  clear hC hCR hT hTR hP hPR hH hHR ha
  generalize contactL l t x = cs at *
  generalize contactErr l t x = ce at *
  generalize checkPair l = cp at *
  generalize checkHP l h = he at *
  obtain ⟨A, cap, b, off, rfl, _, _⟩ := hs.cells
  obtain ⟨A2, cap2, b2, off2, rfl, _, _⟩ := ht.cells
  obtain ⟨A3, cap3, b3, off3, rfl, _, _⟩ := hr.cells
  have d1 : decide (35 < (l.length : Int)) = false := by simp; omega
  have d2 : decide (40 < (t.length : Int)) = false := by simp; omega
  have d3 : decide (40 < (h.length : Int)) = false := by simp; omega
  clear hs ht hr hl hl2 hl3
  go_enter Try.func3, Try.ntmps3
  go_wp2_with fail
  refine (great_any _ _ _ _).mono ?_
  rintro e w0 ⟨rfl, rfl⟩
  go_wp2_with fail
  have hC : Below w.heap.size w w := Below.refl _ _
  have bx : BK (w.alloc (.cells #[.int .i64 x.num, .int .i64 x.den] 25)) w.heap.size #[.int .i64 x.num, .int .i64 x.den] 25 := BK.new _ _ _
  have hC2 : Below w.heap.size w (w.alloc (.cells #[.int .i64 x.num, .int .i64 x.den] 25)) := by have := hC.size; (repeat (first | with_reducible assumption | with_reducible exact Below.refl _ _ | (with_reducible refine Below.setCell ?_ (by first | omega | (simp; omega) | (simp; done)) _) | (with_reducible refine Below.alloc ?_ (by first | omega | (simp; omega) | (simp; done)) _) | (with_reducible refine Below.drew ?_) | (with_reducible refine belowN ?_ _) | assumption | exact Below.refl _ _ | (refine Below.alloc ?_ (by first | omega | (simp; omega) | (simp; done)) _) | (refine Below.drew ?_) | (refine belowN ?_ _) | (refine Below.setCell ?_ (by first | omega | (simp; omega) | (simp; done)) _)))
  clear hC; have hC := hC2; clear hC2
  generalize (w.alloc (.cells #[.int .i64 x.num, .int .i64 x.den] 25)) = Wbx at *
  obtain ⟨gbx, hgbx⟩ : ∃ g, w.heap.size = g := ⟨_, rfl⟩
  rw [hgbx] at bx
  try rw [hgbx]
  clear hgbx
  refine (HC.out Wbx hC).mono ?_
  rintro e w1 ⟨vc, rfl, hc, hb⟩
  have hC2 : Below w.heap.size w w1 := hC.trans (hb.mono hC.size)
  clear hC; have hC := hC2; clear hC2
  have bx_ := bx.below hb bx.lt; clear bx; have bx := bx_; clear bx_
  clear hb
  have lbx := bx.lt
  have bxc0 := bx.cell 0
  have bxc1 := bx.cell 1
  simp at bxc0 bxc1
  go_wp2_with fail
  clear lbx bxc0 bxc1
  refine (HCR.out w1 hC).mono ?_
  rintro e w2 ⟨vr, rfl, hr, hb⟩
  have hC2 : Below w.heap.size w w2 := hC.trans (hb.mono hC.size)
  clear hC; have hC := hC2; clear hC2
  have bx_ := bx.below hb bx.lt; clear bx; have bx := bx_; clear bx_
  have hc_ := (RS.below hc hb).more hb.size; clear hc; have hc := hc_; clear hc_
  clear hb
  go_wp2_with fail
  refine (HT.out w2 hC).mono ?_
  rintro e w3 ⟨rfl, hb⟩
  have hC2 : Below w.heap.size w w3 := hC.trans (hb.mono hC.size)
  clear hC; have hC := hC2; clear hC2
  have bx_ := bx.below hb bx.lt; clear bx; have bx := bx_; clear bx_
  have hc_ := (RS.below hc hb).more hb.size; clear hc; have hc := hc_; clear hc_
  have hr_ := (RS.below hr hb).more hb.size; clear hr; have hr := hr_; clear hr_
  clear hb
  go_wp2_with fail
  have ba : BK (w3.alloc (.cells #[.int .i64 a1, .int .i64 a2, .int .i64 a3, .int .i64 a4] 34)) w3.heap.size #[.int .i64 a1, .int .i64 a2, .int .i64 a3, .int .i64 a4] 34 := BK.new _ _ _
  have hC2 : Below w.heap.size w (w3.alloc (.cells #[.int .i64 a1, .int .i64 a2, .int .i64 a3, .int .i64 a4] 34)) := by have := hC.size; (repeat (first | with_reducible assumption | with_reducible exact Below.refl _ _ | (with_reducible refine Below.setCell ?_ (by first | omega | (simp; omega) | (simp; done)) _) | (with_reducible refine Below.alloc ?_ (by first | omega | (simp; omega) | (simp; done)) _) | (with_reducible refine Below.drew ?_) | (with_reducible refine belowN ?_ _) | assumption | exact Below.refl _ _ | (refine Below.alloc ?_ (by first | omega | (simp; omega) | (simp; done)) _) | (refine Below.drew ?_) | (refine belowN ?_ _) | (refine Below.setCell ?_ (by first | omega | (simp; omega) | (simp; done)) _)))
  clear hC; have hC := hC2; clear hC2
  have bx_ := bx.alloc (.cells #[.int .i64 a1, .int .i64 a2, .int .i64 a3, .int .i64 a4] 34); clear bx; have bx := bx_; clear bx_
  have hc_ := (RS.below hc (w' := (w3.alloc (.cells #[.int .i64 a1, .int .i64 a2, .int .i64 a3, .int .i64 a4] 34))) (by (repeat (first | with_reducible assumption | with_reducible exact Below.refl _ _ | (with_reducible refine Below.setCell ?_ (by first | omega | (simp; omega) | (simp; done)) _) | (with_reducible refine Below.alloc ?_ (by first | omega | (simp; omega) | (simp; done)) _) | (with_reducible refine Below.drew ?_) | (with_reducible refine belowN ?_ _) | assumption | exact Below.refl _ _ | (refine Below.alloc ?_ (by first | omega | (simp; omega) | (simp; done)) _) | (refine Below.drew ?_) | (refine belowN ?_ _) | (refine Below.setCell ?_ (by first | omega | (simp; omega) | (simp; done)) _))))).more (B' := (w3.alloc (.cells #[.int .i64 a1, .int .i64 a2, .int .i64 a3, .int .i64 a4] 34)).heap.size) (by simp); clear hc; have hc := hc_; clear hc_
  have hr_ := (RS.below hr (w' := (w3.alloc (.cells #[.int .i64 a1, .int .i64 a2, .int .i64 a3, .int .i64 a4] 34))) (by (repeat (first | with_reducible assumption | with_reducible exact Below.refl _ _ | (with_reducible refine Below.setCell ?_ (by first | omega | (simp; omega) | (simp; done)) _) | (with_reducible refine Below.alloc ?_ (by first | omega | (simp; omega) | (simp; done)) _) | (with_reducible refine Below.drew ?_) | (with_reducible refine belowN ?_ _) | assumption | exact Below.refl _ _ | (refine Below.alloc ?_ (by first | omega | (simp; omega) | (simp; done)) _) | (refine Below.drew ?_) | (refine belowN ?_ _) | (refine Below.setCell ?_ (by first | omega | (simp; omega) | (simp; done)) _))))).more (B' := (w3.alloc (.cells #[.int .i64 a1, .int .i64 a2, .int .i64 a3, .int .i64 a4] 34)).heap.size) (by simp); clear hr; have hr := hr_; clear hr_
  generalize (w3.alloc (.cells #[.int .i64 a1, .int .i64 a2, .int .i64 a3, .int .i64 a4] 34)) = Wba at *
  obtain ⟨gba, hgba⟩ : ∃ g, w3.heap.size = g := ⟨_, rfl⟩
  rw [hgba] at ba
  try rw [hgba]
  clear hgba
  refine (HTR.out Wba hC).mono ?_
  rintro e w4 ⟨rfl, hb⟩
  have hC2 : Below w.heap.size w w4 := hC.trans (hb.mono hC.size)
  clear hC; have hC := hC2; clear hC2
  have bx_ := bx.below hb bx.lt; clear bx; have bx := bx_; clear bx_
  have hc_ := (RS.below hc hb).more hb.size; clear hc; have hc := hc_; clear hc_
  have hr_ := (RS.below hr hb).more hb.size; clear hr; have hr := hr_; clear hr_
  have ba_ := ba.below hb ba.lt; clear ba; have ba := ba_; clear ba_
  clear hb
  go_wp2_with fail
  have bb : BK (w4.alloc (.cells #[.int .i64 a1, .int .i64 a2, .int .i64 a3, .int .i64 a4] 34)) w4.heap.size #[.int .i64 a1, .int .i64 a2, .int .i64 a3, .int .i64 a4] 34 := BK.new _ _ _
  have hC2 : Below w.heap.size w (w4.alloc (.cells #[.int .i64 a1, .int .i64 a2, .int .i64 a3, .int .i64 a4] 34)) := by have := hC.size; (repeat (first | with_reducible assumption | with_reducible exact Below.refl _ _ | (with_reducible refine Below.setCell ?_ (by first | omega | (simp; omega) | (simp; done)) _) | (with_reducible refine Below.alloc ?_ (by first | omega | (simp; omega) | (simp; done)) _) | (with_reducible refine Below.drew ?_) | (with_reducible refine belowN ?_ _) | assumption | exact Below.refl _ _ | (refine Below.alloc ?_ (by first | omega | (simp; omega) | (simp; done)) _) | (refine Below.drew ?_) | (refine belowN ?_ _) | (refine Below.setCell ?_ (by first | omega | (simp; omega) | (simp; done)) _)))
  clear hC; have hC := hC2; clear hC2
  have bx_ := bx.alloc (.cells #[.int .i64 a1, .int .i64 a2, .int .i64 a3, .int .i64 a4] 34); clear bx; have bx := bx_; clear bx_
  have hc_ := (RS.below hc (w' := (w4.alloc (.cells #[.int .i64 a1, .int .i64 a2, .int .i64 a3, .int .i64 a4] 34))) (by (repeat (first | with_reducible assumption | with_reducible exact Below.refl _ _ | (with_reducible refine Below.setCell ?_ (by first | omega | (simp; omega) | (simp; done)) _) | (with_reducible refine Below.alloc ?_ (by first | omega | (simp; omega) | (simp; done)) _) | (with_reducible refine Below.drew ?_) | (with_reducible refine belowN ?_ _) | assumption | exact Below.refl _ _ | (refine Below.alloc ?_ (by first | omega | (simp; omega) | (simp; done)) _) | (refine Below.drew ?_) | (refine belowN ?_ _) | (refine Below.setCell ?_ (by first | omega | (simp; omega) | (simp; done)) _))))).more (B' := (w4.alloc (.cells #[.int .i64 a1, .int .i64 a2, .int .i64 a3, .int .i64 a4] 34)).heap.size) (by simp); clear hc; have hc := hc_; clear hc_
  have hr_ := (RS.below hr (w' := (w4.alloc (.cells #[.int .i64 a1, .int .i64 a2, .int .i64 a3, .int .i64 a4] 34))) (by (repeat (first | with_reducible assumption | with_reducible exact Below.refl _ _ | (with_reducible refine Below.setCell ?_ (by first | omega | (simp; omega) | (simp; done)) _) | (with_reducible refine Below.alloc ?_ (by first | omega | (simp; omega) | (simp; done)) _) | (with_reducible refine Below.drew ?_) | (with_reducible refine belowN ?_ _) | assumption | exact Below.refl _ _ | (refine Below.alloc ?_ (by first | omega | (simp; omega) | (simp; done)) _) | (refine Below.drew ?_) | (refine belowN ?_ _) | (refine Below.setCell ?_ (by first | omega | (simp; omega) | (simp; done)) _))))).more (B' := (w4.alloc (.cells #[.int .i64 a1, .int .i64 a2, .int .i64 a3, .int .i64 a4] 34)).heap.size) (by simp); clear hr; have hr := hr_; clear hr_
  have ba_ := ba.alloc (.cells #[.int .i64 a1, .int .i64 a2, .int .i64 a3, .int .i64 a4] 34); clear ba; have ba := ba_; clear ba_
  generalize (w4.alloc (.cells #[.int .i64 a1, .int .i64 a2, .int .i64 a3, .int .i64 a4] 34)) = Wbb at *
  obtain ⟨gbb, hgbb⟩ : ∃ g, w4.heap.size = g := ⟨_, rfl⟩
  rw [hgbb] at bb
  try rw [hgbb]
  clear hgbb
  refine (HP.out Wbb hC).mono ?_
  rintro e w5 ⟨rfl, hb⟩
  have hC2 : Below w.heap.size w w5 := hC.trans (hb.mono hC.size)
  clear hC; have hC := hC2; clear hC2
  have bx_ := bx.below hb bx.lt; clear bx; have bx := bx_; clear bx_
  have hc_ := (RS.below hc hb).more hb.size; clear hc; have hc := hc_; clear hc_
  have hr_ := (RS.below hr hb).more hb.size; clear hr; have hr := hr_; clear hr_
  have ba_ := ba.below hb ba.lt; clear ba; have ba := ba_; clear ba_
  have bb_ := bb.below hb bb.lt; clear bb; have bb := bb_; clear bb_
  clear hb
  go_wp2_with fail
  refine (HPR.out w5 hC).mono ?_
  rintro e w6 ⟨rfl, hb⟩
  have hC2 : Below w.heap.size w w6 := hC.trans (hb.mono hC.size)
  clear hC; have hC := hC2; clear hC2
  have bx_ := bx.below hb bx.lt; clear bx; have bx := bx_; clear bx_
  have hc_ := (RS.below hc hb).more hb.size; clear hc; have hc := hc_; clear hc_
  have hr_ := (RS.below hr hb).more hb.size; clear hr; have hr := hr_; clear hr_
  have ba_ := ba.below hb ba.lt; clear ba; have ba := ba_; clear ba_
  have bb_ := bb.below hb bb.lt; clear bb; have bb := bb_; clear bb_
  clear hb
  go_wp2_with fail
  refine (ints_same cs vc vr w6 CL.out hc hr).mono ?_
  rintro e w7 ⟨rfl, hb⟩
  have hC2 : Below w.heap.size w w7 := hC.trans (hb.mono hC.size)
  clear hC; have hC := hC2; clear hC2
  have bx_ := bx.below hb bx.lt; clear bx; have bx := bx_; clear bx_
  have hc_ := (RS.below hc hb).more hb.size; clear hc; have hc := hc_; clear hc_
  have hr_ := (RS.below hr hb).more hb.size; clear hr; have hr := hr_; clear hr_
  have ba_ := ba.below hb ba.lt; clear ba; have ba := ba_; clear ba_
  have bb_ := bb.below hb bb.lt; clear bb; have bb := bb_; clear bb_
  clear hb
  have lba := ba.lt
  have bac0 := ba.cell 0
  have bac1 := ba.cell 1
  have bac2 := ba.cell 2
  have bac3 := ba.cell 3
  simp at bac0 bac1 bac2 bac3
  have lbb := bb.lt
  have bbc0 := bb.cell 0
  have bbc1 := bb.cell 1
  have bbc2 := bb.cell 2
  have bbc3 := bb.cell 3
  simp at bbc0 bbc1 bbc2 bbc3
  go_wp2_with fail
  refine (HH.out w7 hC).mono ?_
  rintro e w8 ⟨rfl, hb⟩
  have hC2 : Below w.heap.size w w8 := hC.trans (hb.mono hC.size)
  clear hC; have hC := hC2; clear hC2
  have bx_ := bx.below hb bx.lt; clear bx; have bx := bx_; clear bx_
  have hc_ := (RS.below hc hb).more hb.size; clear hc; have hc := hc_; clear hc_
  have hr_ := (RS.below hr hb).more hb.size; clear hr; have hr := hr_; clear hr_
  have ba_ := ba.below hb ba.lt; clear ba; have ba := ba_; clear ba_
  have bb_ := bb.below hb bb.lt; clear bb; have bb := bb_; clear bb_
  clear hb
  go_wp2_with fail
  refine (HHR.out w8 hC).mono ?_
  rintro e w9 ⟨rfl, hb⟩
  have hC2 : Below w.heap.size w w9 := hC.trans (hb.mono hC.size)
  clear hC; have hC := hC2; clear hC2
  have bx_ := bx.below hb bx.lt; clear bx; have bx := bx_; clear bx_
  have hc_ := (RS.below hc hb).more hb.size; clear hc; have hc := hc_; clear hc_
  have hr_ := (RS.below hr hb).more hb.size; clear hr; have hr := hr_; clear hr_
  have ba_ := ba.below hb ba.lt; clear ba; have ba := ba_; clear ba_
  have bb_ := bb.below hb bb.lt; clear bb; have bb := bb_; clear bb_
  clear hb
  go_wp2_with fail
  refine (works_any _).mono ?_
  rintro e w19 ⟨rfl, hb⟩
  go_wp2_with fail
  go_ret
  exact ⟨rfl, hC.trans (hb.mono hC.size)⟩
theorem pairs_row (l : List St) (vl : Value) {w : World} (hs : RSt w w.heap.size vl l) (_ : l.length ≤ maxLen) (t : List Int) (vt : Value) (ht : RI w w.heap.size vt t) (_ : t.length ≤ maxLen) (x : Ra) (_ : okI x.num ∧ okI x.den) (s : Int) (_ : (Lit.int .i64 s).wf = true)
    (h : List Ra) (vh : Value) (hr : RRa w w.heap.size vh h) (_ : ∀ x ∈ h, okI x.num ∧ okI x.den) (_ : h.length ≤ maxLen) (W : World) (hw : W = w := by rfl) :
    Calls Try.prog 3 #[vl, vt, .agg #[.int .i64 x.num, .int .i64 x.den], .int .i64 s, vh] W fun e w' => e = .returned (.bool true) ∧ Below W.heap.size W w' := by
  subst hw
  by_cases hl : 35 < l.length ∨ 40 < t.length ∨ 40 < h.length
  · exact pairs_great l t x s h vl vt vh _ hl hs ht hr
  · exact pairs_small l t x s h vl vt vh _ (by omega) (by omega) (by omega) hs ht hr
end Go.Proofs.Ytbjmkmambmeifaa
