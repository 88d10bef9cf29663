/- Contact. When two arrays are equal. Wedge. -/
import Derived.Test.YtbjmkmambmeifaaP19
import Derived.Carry
import Derived.Test.YtbjmkmambmeifaaP1
import Derived.Laws.StructEq
import Derived.Test.YtbjmkmambmeifaaP11
import Derived.Test.YtbjmkmambmeifaaP6
import Derived.Test.YtbjmkmambmeifaaP3
import Derived.Test.YtbjmkmambmeifaaP9
import Derived.WalkMore
set_option linter.all false
set_option linter.unnecessarySimpa false
set_option linter.unusedSimpArgs false
set_option linter.unusedVariables false
set_option linter.unusedSectionVars false

namespace Go.Proofs.Ytbjmkmambmeifaa
open Go.RowKit Go.Maps

theorem tilt_inB (x : Ra) : isTilt x = (inB 1 1000000 x.den && inB (-10000 * x.den) (10000 * x.den) x.num) := by
  unfold isTilt inB
  rw [Bool.eq_iff_iff]
  simp only [decide_eq_true_eq, Bool.and_eq_true]
  constructor <;> intro h <;> omega

set_option maxRecDepth 100000 in
set_option maxHeartbeats 4000000 in
theorem contactP_any (l : List St) (t : List Int) (x : Ra) (vl vt : Value) (w : World) (hl : l.length ≤ 1000) (ht : t.length ≤ 1000) (h : RSt w w.heap.size vl l) (h' : RI w w.heap.size vt t) :
    Calls Try.prog 15 #[vl, vt, .agg #[.int .i64 x.num, .int .i64 x.den]] w fun e w' => ∃ v, e = .returned (.tuple #[v, .int .i64 (contactErr l t x)]) ∧ RI w' w'.heap.size v (contactL l t x) ∧ Below w.heap.size w w' := by
  have hcall := fun w1 (hb : Below w.heap.size w w1) => checkTruth_any l t vl vt w1 hl ht ((h.below hb).more hb.size) ((RS.below h' hb).more hb.size)
  by_cases hp : checkTruth l t = 0
  · rw [hp] at hcall
    have HP := Lib.hid hcall
    obtain ⟨hv, hlen, _⟩ := checkTruth_len0 l t hp
    have hn := checkPair_len l hv
    have hti := tilt_inB x
    obtain ⟨q1, hq1⟩ : ∃ q1, inB 1 1000000 x.den = q1 := ⟨_, rfl⟩
    have hw1 := fun W n (hb : BK W n #[.int .i64 x.den] 2) => within1_bk 1 1000000 x.den W n 2 hb
    rw [hq1] at hw1 hti
    have HW1 := Lib.hid hw1
    cases q1 with
    | false =>
      have hE : contactErr l t x = 2 := by unfold contactErr; rw [if_neg (by simpa using hp), hti]; rfl
      have HE := Lib.hid hE
      have HL := Lib.hid (show contactL l t x = [] by unfold contactL; rw [if_neg (by rw [hE]; decide)])
      clear hcall hp h h' hlen hE hti hw1 hv hq1
      go_enter Try.func15, Try.ntmps15
      go_wp2_with fail
      refine (HP.out _ (by (repeat (first | with_reducible assumption | with_reducible exact Below.refl _ _ | (with_reducible refine Below.setCell ?_ (by first | omega | (simp; omega) | (simp; done)) _) | (with_reducible refine Below.alloc ?_ (by first | omega | (simp; omega) | (simp; done)) _) | (with_reducible refine Below.drew ?_) | (with_reducible refine belowN ?_ _) | assumption | exact Below.refl _ _ | (refine Below.alloc ?_ (by first | omega | (simp; omega) | (simp; done)) _) | (refine Below.drew ?_) | (refine belowN ?_ _) | (refine Below.setCell ?_ (by first | omega | (simp; omega) | (simp; done)) _))))).mono ?_
      rintro e w1 ⟨rfl, hb1⟩
      have hB1 : Below w.heap.size w w1 := (Below.trans (a := w) (B := w.heap.size) (by (repeat (first | with_reducible assumption | with_reducible exact Below.refl _ _ | (with_reducible refine Below.setCell ?_ (by first | omega | (simp; omega) | (simp; done)) _) | (with_reducible refine Below.alloc ?_ (by first | omega | (simp; omega) | (simp; done)) _) | (with_reducible refine Below.drew ?_) | (with_reducible refine belowN ?_ _) | assumption | exact Below.refl _ _ | (refine Below.alloc ?_ (by first | omega | (simp; omega) | (simp; done)) _) | (refine Below.drew ?_) | (refine belowN ?_ _) | (refine Below.setCell ?_ (by first | omega | (simp; omega) | (simp; done)) _)))) (hb1.mono (by first | omega | (simp; omega) | (simp; done))))
      have b1 : BK w1 w.heap.size #[.int .i64 x.num, .int .i64 x.den] 25 := BK.below (BK.new _ _ _) hb1 (by simp)
      have hlt1 := b1.lt
      clear hb1
      have y0 := b1.cell 0
      have y1 := b1.cell 1
      simp at y0 y1
      go_wp2_with fail
      refine (HW1.out _ _ (BK.new _ _ _)).mono ?_
      rintro e w2 ⟨rfl, hb2⟩
      have hB2 : Below w.heap.size w w2 := (Below.trans (a := w) (B := w.heap.size) (by (repeat (first | with_reducible assumption | with_reducible exact Below.refl _ _ | (with_reducible refine Below.setCell ?_ (by first | omega | (simp; omega) | (simp; done)) _) | (with_reducible refine Below.alloc ?_ (by first | omega | (simp; omega) | (simp; done)) _) | (with_reducible refine Below.drew ?_) | (with_reducible refine belowN ?_ _) | assumption | exact Below.refl _ _ | (refine Below.alloc ?_ (by first | omega | (simp; omega) | (simp; done)) _) | (refine Below.drew ?_) | (refine belowN ?_ _) | (refine Below.setCell ?_ (by first | omega | (simp; omega) | (simp; done)) _)))) (hb2.mono (by first | omega | (simp; omega) | (simp; done))))
      go_wp2_with fail
      exact bodyPost_ret (v := .tuple #[.slice none 0 0, .int .i64 2]) (by simp [results, Try.results15, go_sem]) rfl ⟨_, by rw [HE.out], by rw [HL.out]; exact ri_nil _ _, by (repeat (first | with_reducible assumption | with_reducible exact Below.refl _ _ | (with_reducible refine Below.setCell ?_ (by first | omega | (simp; omega) | (simp; done)) _) | (with_reducible refine Below.alloc ?_ (by first | omega | (simp; omega) | (simp; done)) _) | (with_reducible refine Below.drew ?_) | (with_reducible refine belowN ?_ _) | assumption | exact Below.refl _ _ | (refine Below.alloc ?_ (by first | omega | (simp; omega) | (simp; done)) _) | (refine Below.drew ?_) | (refine belowN ?_ _) | (refine Below.setCell ?_ (by first | omega | (simp; omega) | (simp; done)) _)))⟩
    | true =>
      obtain ⟨hd1, hd2⟩ := (inB_iff _ _ _).1 hq1
      obtain ⟨q2, hq2⟩ : ∃ q2, inB (-10000 * x.den) (10000 * x.den) x.num = q2 := ⟨_, rfl⟩
      have hw2 := fun W n (hb : BK W n #[.int .i64 x.num] 2) => within1_bk (-10000 * x.den) (10000 * x.den) x.num W n 2 hb
      rw [hq2] at hw2 hti
      have HW2 := Lib.hid hw2
      cases q2 with
      | false =>
        have hE : contactErr l t x = 2 := by unfold contactErr; rw [if_neg (by simpa using hp), hti]; rfl
        have HE := Lib.hid hE
        have HL := Lib.hid (show contactL l t x = [] by unfold contactL; rw [if_neg (by rw [hE]; decide)])
        clear hcall hp h h' hlen hE hti hw1 hw2 hv hq1 hq2
        go_enter Try.func15, Try.ntmps15
        go_wp2_with fail
        refine (HP.out _ (by (repeat (first | with_reducible assumption | with_reducible exact Below.refl _ _ | (with_reducible refine Below.setCell ?_ (by first | omega | (simp; omega) | (simp; done)) _) | (with_reducible refine Below.alloc ?_ (by first | omega | (simp; omega) | (simp; done)) _) | (with_reducible refine Below.drew ?_) | (with_reducible refine belowN ?_ _) | assumption | exact Below.refl _ _ | (refine Below.alloc ?_ (by first | omega | (simp; omega) | (simp; done)) _) | (refine Below.drew ?_) | (refine belowN ?_ _) | (refine Below.setCell ?_ (by first | omega | (simp; omega) | (simp; done)) _))))).mono ?_
        rintro e w1 ⟨rfl, hb1⟩
        have hB1 : Below w.heap.size w w1 := (Below.trans (a := w) (B := w.heap.size) (by (repeat (first | with_reducible assumption | with_reducible exact Below.refl _ _ | (with_reducible refine Below.setCell ?_ (by first | omega | (simp; omega) | (simp; done)) _) | (with_reducible refine Below.alloc ?_ (by first | omega | (simp; omega) | (simp; done)) _) | (with_reducible refine Below.drew ?_) | (with_reducible refine belowN ?_ _) | assumption | exact Below.refl _ _ | (refine Below.alloc ?_ (by first | omega | (simp; omega) | (simp; done)) _) | (refine Below.drew ?_) | (refine belowN ?_ _) | (refine Below.setCell ?_ (by first | omega | (simp; omega) | (simp; done)) _)))) (hb1.mono (by first | omega | (simp; omega) | (simp; done))))
        have b1 : BK w1 w.heap.size #[.int .i64 x.num, .int .i64 x.den] 25 := BK.below (BK.new _ _ _) hb1 (by simp)
        have hlt1 := b1.lt
        clear hb1
        have y0 := b1.cell 0
        have y1 := b1.cell 1
        simp at y0 y1
        go_wp2_with fail
        refine (HW1.out _ _ (BK.new _ _ _)).mono ?_
        rintro e w2 ⟨rfl, hb2⟩
        have hB2 : Below w.heap.size w w2 := (Below.trans (a := w) (B := w.heap.size) (by (repeat (first | with_reducible assumption | with_reducible exact Below.refl _ _ | (with_reducible refine Below.setCell ?_ (by first | omega | (simp; omega) | (simp; done)) _) | (with_reducible refine Below.alloc ?_ (by first | omega | (simp; omega) | (simp; done)) _) | (with_reducible refine Below.drew ?_) | (with_reducible refine belowN ?_ _) | assumption | exact Below.refl _ _ | (refine Below.alloc ?_ (by first | omega | (simp; omega) | (simp; done)) _) | (refine Below.drew ?_) | (refine belowN ?_ _) | (refine Below.setCell ?_ (by first | omega | (simp; omega) | (simp; done)) _)))) (hb2.mono (by first | omega | (simp; omega) | (simp; done))))
        have b2 : BK w2 w.heap.size #[.int .i64 x.num, .int .i64 x.den] 25 := (b1.alloc _).below hb2 (by simp; omega)
        have hlt2 := b2.lt
        clear hb2 y0 y1
        have y0 := b2.cell 0
        have y1 := b2.cell 1
        simp at y0 y1
        go_wp2_with fail
        refine (HW2.out _ _ (BK.new _ _ _)).mono ?_
        rintro e w3 ⟨rfl, hb3⟩
        have hB3 : Below w.heap.size w w3 := (Below.trans (a := w) (B := w.heap.size) (by (repeat (first | with_reducible assumption | with_reducible exact Below.refl _ _ | (with_reducible refine Below.setCell ?_ (by first | omega | (simp; omega) | (simp; done)) _) | (with_reducible refine Below.alloc ?_ (by first | omega | (simp; omega) | (simp; done)) _) | (with_reducible refine Below.drew ?_) | (with_reducible refine belowN ?_ _) | assumption | exact Below.refl _ _ | (refine Below.alloc ?_ (by first | omega | (simp; omega) | (simp; done)) _) | (refine Below.drew ?_) | (refine belowN ?_ _) | (refine Below.setCell ?_ (by first | omega | (simp; omega) | (simp; done)) _)))) (hb3.mono (by first | omega | (simp; omega) | (simp; done))))
        go_wp2_with fail
        exact bodyPost_ret (v := .tuple #[.slice none 0 0, .int .i64 2]) (by simp [results, Try.results15, go_sem]) rfl ⟨_, by rw [HE.out], by rw [HL.out]; exact ri_nil _ _, by (repeat (first | with_reducible assumption | with_reducible exact Below.refl _ _ | (with_reducible refine Below.setCell ?_ (by first | omega | (simp; omega) | (simp; done)) _) | (with_reducible refine Below.alloc ?_ (by first | omega | (simp; omega) | (simp; done)) _) | (with_reducible refine Below.drew ?_) | (with_reducible refine belowN ?_ _) | assumption | exact Below.refl _ _ | (refine Below.alloc ?_ (by first | omega | (simp; omega) | (simp; done)) _) | (refine Below.drew ?_) | (refine belowN ?_ _) | (refine Below.setCell ?_ (by first | omega | (simp; omega) | (simp; done)) _)))⟩
      | true =>
        obtain ⟨hn1, hn2⟩ := (inB_iff _ _ _).1 hq2
        have hE : contactErr l t x = 0 := by unfold contactErr; rw [if_neg (by simpa using hp), hti]; rfl
        have HE := Lib.hid hE
        have HL := Lib.hid (show contactL l t x = ctL l t x l.length by unfold contactL ctL; rw [if_pos hE])
        have htr := truth_rng l t hp
        have hva := valid_a l hv
        obtain ⟨A, cap, b, off, rfl, hA, hc⟩ := h.cells
        obtain ⟨A', cap', b', off', rfl, hA', hc'⟩ := RI.cells h'
        obtain ⟨rfl, hb⟩ := hA (by omega)
        obtain ⟨rfl, hb'⟩ := hA' (by omega)
        rw [hlen] at hc'
        have HC := Lib.hid hc; have HC' := Lib.hid hc'; have HTR := Lib.hid htr; have HVA := Lib.hid hva; have HLEN := Lib.hid hlen
        have hmm := fun W => run_makeMap (P := Try.prog) 78 W
        clear hcall hp h h' hlen hE hti hw1 hw2 hv hq1 hq2 htr hva hA hA' hc hc'
        go_enter Try.func15, Try.ntmps15
        go_wp2_with fail
        refine (HP.out _ (by (repeat (first | with_reducible assumption | with_reducible exact Below.refl _ _ | (with_reducible refine Below.setCell ?_ (by first | omega | (simp; omega) | (simp; done)) _) | (with_reducible refine Below.alloc ?_ (by first | omega | (simp; omega) | (simp; done)) _) | (with_reducible refine Below.drew ?_) | (with_reducible refine belowN ?_ _) | assumption | exact Below.refl _ _ | (refine Below.alloc ?_ (by first | omega | (simp; omega) | (simp; done)) _) | (refine Below.drew ?_) | (refine belowN ?_ _) | (refine Below.setCell ?_ (by first | omega | (simp; omega) | (simp; done)) _))))).mono ?_
        rintro e w1 ⟨rfl, hb1⟩
        have hB1 : Below w.heap.size w w1 := (Below.trans (a := w) (B := w.heap.size) (by (repeat (first | with_reducible assumption | with_reducible exact Below.refl _ _ | (with_reducible refine Below.setCell ?_ (by first | omega | (simp; omega) | (simp; done)) _) | (with_reducible refine Below.alloc ?_ (by first | omega | (simp; omega) | (simp; done)) _) | (with_reducible refine Below.drew ?_) | (with_reducible refine belowN ?_ _) | assumption | exact Below.refl _ _ | (refine Below.alloc ?_ (by first | omega | (simp; omega) | (simp; done)) _) | (refine Below.drew ?_) | (refine belowN ?_ _) | (refine Below.setCell ?_ (by first | omega | (simp; omega) | (simp; done)) _)))) (hb1.mono (by first | omega | (simp; omega) | (simp; done))))
        have b1 : BK w1 w.heap.size #[.int .i64 x.num, .int .i64 x.den] 25 := BK.below (BK.new _ _ _) hb1 (by simp)
        have hlt1 := b1.lt
        clear hb1
        have y0 := b1.cell 0
        have y1 := b1.cell 1
        simp at y0 y1
        go_wp2_with fail
        refine (HW1.out _ _ (BK.new _ _ _)).mono ?_
        rintro e w2 ⟨rfl, hb2⟩
        have hB2 : Below w.heap.size w w2 := (Below.trans (a := w) (B := w.heap.size) (by (repeat (first | with_reducible assumption | with_reducible exact Below.refl _ _ | (with_reducible refine Below.setCell ?_ (by first | omega | (simp; omega) | (simp; done)) _) | (with_reducible refine Below.alloc ?_ (by first | omega | (simp; omega) | (simp; done)) _) | (with_reducible refine Below.drew ?_) | (with_reducible refine belowN ?_ _) | assumption | exact Below.refl _ _ | (refine Below.alloc ?_ (by first | omega | (simp; omega) | (simp; done)) _) | (refine Below.drew ?_) | (refine belowN ?_ _) | (refine Below.setCell ?_ (by first | omega | (simp; omega) | (simp; done)) _)))) (hb2.mono (by first | omega | (simp; omega) | (simp; done))))
        have b2 : BK w2 w.heap.size #[.int .i64 x.num, .int .i64 x.den] 25 := (b1.alloc _).below hb2 (by simp; omega)
        have hlt2 := b2.lt
        clear hb2 y0 y1
        have y0 := b2.cell 0
        have y1 := b2.cell 1
        simp at y0 y1
        go_wp2_with fail
        refine (HW2.out _ _ (BK.new _ _ _)).mono ?_
        rintro e w3 ⟨rfl, hb3⟩
        have hB3 : Below w.heap.size w w3 := (Below.trans (a := w) (B := w.heap.size) (by (repeat (first | with_reducible assumption | with_reducible exact Below.refl _ _ | (with_reducible refine Below.setCell ?_ (by first | omega | (simp; omega) | (simp; done)) _) | (with_reducible refine Below.alloc ?_ (by first | omega | (simp; omega) | (simp; done)) _) | (with_reducible refine Below.drew ?_) | (with_reducible refine belowN ?_ _) | assumption | exact Below.refl _ _ | (refine Below.alloc ?_ (by first | omega | (simp; omega) | (simp; done)) _) | (refine Below.drew ?_) | (refine belowN ?_ _) | (refine Below.setCell ?_ (by first | omega | (simp; omega) | (simp; done)) _)))) (hb3.mono (by first | omega | (simp; omega) | (simp; done))))
        have b3 : BK w3 w.heap.size #[.int .i64 x.num, .int .i64 x.den] 25 := (b2.alloc _).below hb3 (by simp; omega)
        have hlt3 := b3.lt
        clear hb3 y0 y1 b1 b2
        obtain ⟨m9, hm9⟩ : ∃ m9, w3.heap.size = m9 := ⟨_, rfl⟩
        have hmp := MP.made w3
        have b4 := b3.alloc (.map #[] 0)
        rw [hm9] at hmp
        go_wp2_with fail
        clear hmm
        go_loopw [51] (fun iv wr => ∃ i : Nat, i ≤ l.length ∧ iv = .int .i64 i ∧ MP wr m9 i (fun j => if j < i then some (ctV l t x j) else none) ∧ BK wr w.heap.size #[.int .i64 x.num, .int .i64 x.den] 25 ∧ Below w.heap.size w wr) (fun i _ => l.length - (intOf i).toNat)
        case atStart => exact ⟨0, Nat.zero_le _, rfl, by simpa using hmp, b4, by (repeat (first | with_reducible assumption | with_reducible exact Below.refl _ _ | (with_reducible refine Below.setCell ?_ (by first | omega | (simp; omega) | (simp; done)) _) | (with_reducible refine Below.alloc ?_ (by first | omega | (simp; omega) | (simp; done)) _) | (with_reducible refine Below.drew ?_) | (with_reducible refine belowN ?_ _) | assumption | exact Below.refl _ _ | (refine Below.alloc ?_ (by first | omega | (simp; omega) | (simp; done)) _) | (refine Below.drew ?_) | (refine belowN ?_ _) | (refine Below.setCell ?_ (by first | omega | (simp; omega) | (simp; done)) _)))⟩
        case round =>
          clear hmp b4 b3
          obtain ⟨i, hi, rfl, hmp, b0, hbw⟩ := hrel
          have hszw := hbw.size
          have hlt0 := b0.lt
          have hltm := hmp.lt
          have HM := Lib.hid hmp; clear hmp
          by_cases hil : i < l.length
          · have hc := HC.out i hil
            have ht1 := HC'.out i hil
            rw [← hbw.cell (by exact hb), ← hbw.cell (by exact hb), ← hbw.cell (by exact hb)] at hc
            rw [← hbw.cell (by exact hb')] at ht1
            obtain ⟨c0, c1, c2⟩ := hc
            have hbr : b < wr.heap.size := by omega
            have hbr' : b' < wr.heap.size := by omega
            have hit1 : i < t.length := by rw [HLEN.out]; exact hil
            have y0 := b0.cell 0
            have y1 := b0.cell 1
            simp at y0 y1
            have q1 := HTR.out i hil
            have q3 := HVA.out i hil
            have e1 := mul_bd (nthI t i) x.den 1000 1000000 (by omega) (by omega)
            have e3 := mul_bd (nthS l i).a x.num 1000 10000000000 (by omega) (by omega)
            simp only [Nat.reduceMul] at e1 e3
            go_wp2_with fail
            refine plain_read 15 1 mixed (by kernel_rfl) rfl ?_
            simp only [List.take_succ_cons, List.take_zero]
            (repeat (first | (refine ⟨undef, .inr ⟨by rfl, rfl⟩, ?_⟩; simp only [Act.put, List.setIfInBounds_toArray, List.set_cons_succ, List.set_cons_zero]) | (refine ⟨?_, .inl ⟨by rfl, ?_⟩, ?_⟩; rotate_left; (intro X hX; obtain ⟨r1, r2⟩ := Below.rules hX; clear hX; go_simp; rfl); simp only [Act.put, List.setIfInBounds_toArray, List.set_cons_succ, List.set_cons_zero])))
            have hmp2 : MP (wr.alloc (.cells #[.int .i64 (nthS l i).a, .int .i64 (nthS l i).lo, .int .i64 (nthS l i).hi] 62)).drew m9 i (fun j => if j < i then some (ctV l t x j) else none) := HM.out.kept (Below.heap_alloc wr _ _ hltm)
            obtain ⟨W', hrun, hmp', hgr, hszW⟩ := hmp2.store i (by omega) (nthI t i * x.den - (nthS l i).a * x.num) (by omega) (by omega)
            have hf : (fun j => if j = i then some (nthI t i * x.den - (nthS l i).a * x.num) else if j < i then some (ctV l t x j) else none) = fun j => if j < i + 1 then some (ctV l t x j) else none := by
              funext j
              by_cases hj : j = i
              · subst hj
                rw [if_pos rfl, if_pos (by omega)]
                unfold ctV
                rw [Int.mul_comm x.num]
              · rw [if_neg hj]
                by_cases hj2 : j < i
                · rw [if_pos hj2, if_pos (by omega)]
                · rw [if_neg hj2, if_neg (by omega)]
            rw [hf] at hmp'
            have HM2 := Lib.hid hmp'
            have b02 : BK W' w.heap.size #[.int .i64 x.num, .int .i64 x.den] 25 := BK.grown (W := (wr.alloc (.cells #[.int .i64 (nthS l i).a, .int .i64 (nthS l i).lo, .int .i64 (nthS l i).hi] 62)).drew) (b0.alloc _) hgr (by intro hx; injection hx with hx; omega)
            have hbw2 : Below w.heap.size w W' := Below.grown (w := (wr.alloc (.cells #[.int .i64 (nthS l i).a, .int .i64 (nthS l i).lo, .int .i64 (nthS l i).hi] 62)).drew) (by (repeat (first | with_reducible assumption | with_reducible exact Below.refl _ _ | (with_reducible refine Below.setCell ?_ (by first | omega | (simp; omega) | (simp; done)) _) | (with_reducible refine Below.alloc ?_ (by first | omega | (simp; omega) | (simp; done)) _) | (with_reducible refine Below.drew ?_) | (with_reducible refine belowN ?_ _) | assumption | exact Below.refl _ _ | (refine Below.alloc ?_ (by first | omega | (simp; omega) | (simp; done)) _) | (refine Below.drew ?_) | (refine belowN ?_ _) | (refine Below.setCell ?_ (by first | omega | (simp; omega) | (simp; done)) _)))) hgr (by simp; omega) (fun k hk => by injection hk with hk; omega)
            clear hmp' hmp2 hgr hf
            refine any_run1 (i := 15) (by kernel_rfl) (by rfl) (by rfl) ?_
            intro K hK
            go_wp2_with fail
            refine hK _ _ (fun hx => (Bool.false_ne_true (hx.symm.trans (by kernel_rfl))).elim) ?_
            clear hK K
            refine any_done (by kernel_rfl) (NoPanic.normal ?_)
            go_wp2_with fail
            go_roundw
            case rel => exact ⟨i + 1, by omega, by go_num, HM2.out, b02, hbw2⟩
            case measure => simp [intOf]; omega
          · have hie : i = l.length := by omega
            have hmp := HM.out
            rw [hie] at hmp
            have HM3 := Lib.hid hmp
            clear hmp hie
            go_wp2_with fail
            go_loopw [74] (fun iv wr => ∃ (i : Nat) (f : Nat → Option Int), i ≤ l.length ∧ iv = .int .i64 i ∧ MP wr m9 l.length f ∧ CI l t x i 0 f ∧ Below w.heap.size w wr) (fun i _ => l.length - (intOf i).toNat)
            case atStart => exact ⟨0, _, Nat.zero_le _, rfl, HM3.out, CI.start l t x, hbw⟩
            case round =>
              clear hbw b0 hszw hlt0 hltm HM HM3
              obtain ⟨i, f, hi, rfl, hmp, hci, hbw⟩ := hrel
              have HM := Lib.hid hmp; have HCI := Lib.hid hci; clear hmp hci
              by_cases hil : i < l.length
              · go_wp2_with fail
                go_loopw [79] (fun kv wr => ∃ (k : Nat) (f : Nat → Option Int), k ≤ l.length ∧ kv = .int .i64 k ∧ MP wr m9 l.length f ∧ CI l t x i k f ∧ Below w.heap.size w wr) (fun k _ => l.length - (intOf k).toNat)
                case atStart => exact ⟨0, f, Nat.zero_le _, rfl, HM.out, HCI.out, hbw⟩
                case round =>
                  clear HM HCI hbw f
                  obtain ⟨k, f, hk, rfl, hmp, hci, hbw⟩ := hrel
                  have HM := Lib.hid hmp; have HCI := Lib.hid hci; clear hmp hci
                  have hszw := hbw.size
                  by_cases hkl : k < l.length
                  · obtain ⟨ci, hlook, hciv⟩ := HM.out.look i (by omega)
                    obtain ⟨ck, hlook2, hckv⟩ := HM.out.look k (by omega)
                    rcases HCI.out.1 i hil with hfi | hfi
                    · rw [hfi] at hlook hciv
                      have hcc := hciv _ rfl
                      subst hcc
                      rcases HCI.out.1 k hkl with hfk | hfk
                      · rw [hfk] at hlook2 hckv
                        have hcc := hckv _ rfl
                        subst hcc
                        by_cases hg : ctV l t x i < ctV l t x k
                        · have d1 := decide_eq_true hg
                          obtain ⟨W', hrun, hmp', hgr, hszW⟩ := HM.out.drop k (by omega) 0
                          have hlt9 := HM.out.lt
                          have hbw2 : Below w.heap.size w W' := hbw.grown hgr hszw (fun k hk => by injection hk with hk; omega)
                          have HM2 := Lib.hid hmp'
                          have HCI2 := Lib.hid (HCI.out.drop hil hg)
                          clear hmp' hgr hciv hckv hfi hfk
                          simp only [Option.isSome_some] at hlook hlook2
                          go_wp2_with fail
                          go_roundw
                          case rel => exact ⟨k + 1, _, by omega, by go_num, HM2.out, HCI2.out, hbw2⟩
                          case measure => simp [intOf]; omega
                        · have d1 := decide_eq_false hg
                          have HCI2 := Lib.hid (HCI.out.skip fun _ _ _ hlt => absurd hlt hg)
                          clear hciv hckv hfi hfk
                          simp only [Option.isSome_some] at hlook hlook2
                          go_wp2_with fail
                          go_roundw
                          case rel => exact ⟨k + 1, f, by omega, by go_num, HM.out, HCI2.out, by (repeat (first | with_reducible assumption | with_reducible exact Below.refl _ _ | (with_reducible refine Below.setCell ?_ (by first | omega | (simp; omega) | (simp; done)) _) | (with_reducible refine Below.alloc ?_ (by first | omega | (simp; omega) | (simp; done)) _) | (with_reducible refine Below.drew ?_) | (with_reducible refine belowN ?_ _) | assumption | exact Below.refl _ _ | (refine Below.alloc ?_ (by first | omega | (simp; omega) | (simp; done)) _) | (refine Below.drew ?_) | (refine belowN ?_ _) | (refine Below.setCell ?_ (by first | omega | (simp; omega) | (simp; done)) _)))⟩
                          case measure => simp [intOf]; omega
                      · rw [hfk] at hlook2 hckv
                        have HCI2 := Lib.hid (HCI.out.skip fun _ _ _ _ => hfk)
                        clear hciv hckv hfi hfk
                        simp only [Option.isSome_some, Option.isSome_none] at hlook hlook2
                        go_wp2_with fail
                        go_roundw
                        case rel => exact ⟨k + 1, f, by omega, by go_num, HM.out, HCI2.out, by (repeat (first | with_reducible assumption | with_reducible exact Below.refl _ _ | (with_reducible refine Below.setCell ?_ (by first | omega | (simp; omega) | (simp; done)) _) | (with_reducible refine Below.alloc ?_ (by first | omega | (simp; omega) | (simp; done)) _) | (with_reducible refine Below.drew ?_) | (with_reducible refine belowN ?_ _) | assumption | exact Below.refl _ _ | (refine Below.alloc ?_ (by first | omega | (simp; omega) | (simp; done)) _) | (refine Below.drew ?_) | (refine belowN ?_ _) | (refine Below.setCell ?_ (by first | omega | (simp; omega) | (simp; done)) _)))⟩
                        case measure => simp [intOf]; omega
                    · rw [hfi] at hlook hciv
                      have HCI2 := Lib.hid (HCI.out.skip fun _ hm _ _ => by have := HCI.out.2.1 i hil hm; rw [hfi] at this; cases this)
                      clear hciv hckv hfi hlook2
                      simp only [Option.isSome_none] at hlook
                      go_wp2_with fail
                      go_roundw
                      case rel => exact ⟨k + 1, f, by omega, by go_num, HM.out, HCI2.out, by (repeat (first | with_reducible assumption | with_reducible exact Below.refl _ _ | (with_reducible refine Below.setCell ?_ (by first | omega | (simp; omega) | (simp; done)) _) | (with_reducible refine Below.alloc ?_ (by first | omega | (simp; omega) | (simp; done)) _) | (with_reducible refine Below.drew ?_) | (with_reducible refine belowN ?_ _) | assumption | exact Below.refl _ _ | (refine Below.alloc ?_ (by first | omega | (simp; omega) | (simp; done)) _) | (refine Below.drew ?_) | (refine belowN ?_ _) | (refine Below.setCell ?_ (by first | omega | (simp; omega) | (simp; done)) _)))⟩
                      case measure => simp [intOf]; omega
                  · have hke : k = l.length := by omega
                    have hci := HCI.out
                    rw [hke] at hci
                    have HCI2 := Lib.hid hci.next
                    clear hci hke
                    go_wp2_with fail
                    go_roundw
                    case rel => exact ⟨i + 1, f, by omega, by go_num, HM.out, HCI2.out, by (repeat (first | with_reducible assumption | with_reducible exact Below.refl _ _ | (with_reducible refine Below.setCell ?_ (by first | omega | (simp; omega) | (simp; done)) _) | (with_reducible refine Below.alloc ?_ (by first | omega | (simp; omega) | (simp; done)) _) | (with_reducible refine Below.drew ?_) | (with_reducible refine belowN ?_ _) | assumption | exact Below.refl _ _ | (refine Below.alloc ?_ (by first | omega | (simp; omega) | (simp; done)) _) | (refine Below.drew ?_) | (refine belowN ?_ _) | (refine Below.setCell ?_ (by first | omega | (simp; omega) | (simp; done)) _)))⟩
                    case measure => simp [intOf]; omega
              · have hie : i = l.length := by omega
                have hci := HCI.out
                rw [hie] at hci
                have HD := Lib.hid hci.done
                clear hci hie
                have hlt9 := HM.out.lt
                have hszw := hbw.size
                have HM9 := Lib.hid (⟨HM.out, hbw⟩ : MP wr m9 l.length f ∧ Below w.heap.size w wr)
                go_wp2_with fail
                go_loopw [18, 107] (fun acc iv wx => ∃ i : Nat, i ≤ l.length ∧ iv = .int .i64 i ∧ OwnI 3 wx wr.heap.size acc (ctL l t x i) ∧ MP wx m9 l.length f ∧ Below wr.heap.size wr wx) (fun _ i _ => l.length - (intOf i).toNat)
                case atStart => exact ⟨0, Nat.zero_le _, rfl, OwnI.nil _ _ _, HM.out, Below.refl _ _⟩
                case round =>
                  obtain ⟨i, hi, rfl, hown, hmp, hbx⟩ := hrel
                  have hszx := hbx.size
                  by_cases hil : i < l.length
                  · obtain ⟨c, hlook, _⟩ := hmp.look i (by omega)
                    rw [HD.out i hil] at hlook
                    have hsucc := ctL_succ l t x i
                    obtain ⟨q, hq⟩ : ∃ q, ctLeast l t x i = q := ⟨_, rfl⟩
                    rw [hq] at hlook hsucc
                    clear hq
                    cases q with
                    | true =>
                      rw [if_pos rfl] at hsucc
                      have hob : ∀ k, u18.ownBlock = some k → k ≠ m9 := fun k hk => by have := (hown.lt k hk).1; omega
                      have hltx := hmp.lt
                      obtain ⟨A2, c2, hu, hc2, hA2, v', w6, hrun, hown', hb6, hs6, _, hblk⟩ := app_full hown (i : Int) (Nat.le_trans (ctL_len l t x i) (by omega)) hszx hbx _ rfl
                      have HM6 := Lib.hid (hmp.kept (hblk m9 hltx (fun hx => hob m9 hx.symm rfl)))
                      rw [← hsucc] at hown'
                      have HO2 := Lib.hid hown'; have HRUN := Lib.hid hrun
                      clear hown' hrun hob hblk hown hmp hsucc
                      subst hu
                      obtain ⟨n, hnl⟩ : ∃ n, (ctL l t x i).length = n := ⟨_, rfl⟩
                      rw [hnl] at HRUN hc2 ⊢
                      clear hnl
                      cases A2 with
                      | none =>
                        have h0 := hA2 rfl
                        subst h0
                        obtain rfl : n = 0 := by omega
                        go_wp2_with (at_builtin; refine wpList_append_run rfl (.tmp 122) (.tmp 124) 29 _ rfl HRUN.out ?_)
                        go_roundw
                        case rel => exact ⟨i + 1, by omega, by go_num, HO2.out, HM6.out, hb6⟩
                        case measure => simp [intOf]; omega
                      | some ad =>
                        clear hA2
                        have _h1 : (n : Int) ≤ (c2 : Int) := by omega
                        go_wp2_with (at_builtin; refine wpList_append_run rfl (.tmp 122) (.tmp 124) 29 _ rfl HRUN.out ?_)
                        go_roundw
                        case rel => exact ⟨i + 1, by omega, by go_num, HO2.out, HM6.out, hb6⟩
                        case measure => simp [intOf]; omega
                    | false =>
                      rw [if_neg (by simp)] at hsucc
                      rw [← hsucc] at hown
                      have HO2 := Lib.hid hown; have HM6 := Lib.hid hmp
                      clear hown hmp hsucc
                      go_wp2_with fail
                      go_roundw
                      case rel => exact ⟨i + 1, by omega, by go_num, HO2.out, HM6.out, hbx⟩
                      case measure => simp [intOf]; omega
                  · have hie : i = l.length := by omega
                    rw [hie] at hown
                    have HO2 := Lib.hid hown
                    have hbz := hbw.trans (hbx.mono hszw)
                    clear hie hown hmp
                    go_wp2_with fail
                    refine bodyPost_ret (v := .tuple #[u18, .int .i64 0]) (by simp [results, Try.results15, go_sem]) rfl ⟨_, by rw [HE.out], ?_, hbz⟩
                    rw [HL.out]
                    exact HO2.out.ri
  · have hE : contactErr l t x = checkTruth l t := by unfold contactErr; rw [if_pos hp]
    have hL : contactL l t x = [] := by unfold contactL; rw [if_neg (by rw [hE]; exact hp)]
    rw [hE, hL]
    obtain ⟨e0, he0⟩ : ∃ e0, checkTruth l t = e0 := ⟨_, rfl⟩
    rw [he0] at hcall hp ⊢
    have hpb : (e0 != 0) = true := by simpa using hp
    have HP := Lib.hid hcall
    clear hcall he0 hp h h' hE hL
    go_enter Try.func15, Try.ntmps15
    go_wp2_with fail
    refine (HP.out _ (by (repeat (first | with_reducible assumption | with_reducible exact Below.refl _ _ | (with_reducible refine Below.setCell ?_ (by first | omega | (simp; omega) | (simp; done)) _) | (with_reducible refine Below.alloc ?_ (by first | omega | (simp; omega) | (simp; done)) _) | (with_reducible refine Below.drew ?_) | (with_reducible refine belowN ?_ _) | assumption | exact Below.refl _ _ | (refine Below.alloc ?_ (by first | omega | (simp; omega) | (simp; done)) _) | (refine Below.drew ?_) | (refine belowN ?_ _) | (refine Below.setCell ?_ (by first | omega | (simp; omega) | (simp; done)) _))))).mono ?_
    rintro e w1 ⟨rfl, hb1⟩
    have hB1 : Below w.heap.size w w1 := (Below.trans (a := w) (B := w.heap.size) (by (repeat (first | with_reducible assumption | with_reducible exact Below.refl _ _ | (with_reducible refine Below.setCell ?_ (by first | omega | (simp; omega) | (simp; done)) _) | (with_reducible refine Below.alloc ?_ (by first | omega | (simp; omega) | (simp; done)) _) | (with_reducible refine Below.drew ?_) | (with_reducible refine belowN ?_ _) | assumption | exact Below.refl _ _ | (refine Below.alloc ?_ (by first | omega | (simp; omega) | (simp; done)) _) | (refine Below.drew ?_) | (refine belowN ?_ _) | (refine Below.setCell ?_ (by first | omega | (simp; omega) | (simp; done)) _)))) (hb1.mono (by first | omega | (simp; omega) | (simp; done))))
    clear hb1
    go_wp2_with fail
    exact bodyPost_ret (v := .tuple #[.slice none 0 0, .int .i64 e0]) (by simp [results, Try.results15, go_sem]) rfl ⟨_, rfl, ri_nil _ _, hB1⟩
end Go.Proofs.Ytbjmkmambmeifaa

namespace Go.Proofs.Ytbjmkmambmeifaa
open Go.RowKit

@[go_sem] theorem eqArr (a b c d e f : Int) (w : World) : (Op.equalIn 10000 44 (.agg #[.int .i64 a, .int .i64 b, .int .i64 c]) (.agg #[.int .i64 d, .int .i64 e, .int .i64 f])).run Try.prog w = .ok (a == d && (b == e && c == f)) w := by
  have hu : Try.prog.underlying 44 = some (.array 3 3) := by kernel_rfl
  have hi : Try.prog.underlying 3 = some (.int .i64) := by kernel_rfl
  have ha : ∀ w, (isAgg 3).run Try.prog w = .ok false w := fun w => by simp [isAgg, run_underlying hi]
  rw [show (10000 : Nat) = 9999 + 1 from rfl, Op.equalIn]
  simp only [Sem.run_bind, run_underlying hu, Result.andThen_ok]
  simp only [Std.Legacy.Range.forIn_eq_forIn_range', Std.Legacy.Range.size, Nat.sub_zero, Nat.add_sub_cancel, Nat.div_one, List.range'_succ, List.range'_zero, List.forIn_cons, List.forIn_nil]
  go_simp
  by_cases h1 : a = d <;> by_cases h2 : b = e <;> by_cases h3 : c = f <;> simp [h1, h2, h3]
end Go.Proofs.Ytbjmkmambmeifaa

namespace Go.Proofs.Ytbjmkmambmeifaa
open Go.RowKit

theorem above_wedge (l : List St) (i k m : Nat) : aboveB (nthS l i).a (nthS l i).hi (nthS l k).a (nthS l k).lo (nthS l m).a (nthS l m).hi = isWedgeB l i k m := by
  unfold aboveB isWedgeB
  congr 1
  simp only [Int.mul_sub, Int.sub_mul, eq_iff_iff]
  have c1 := Int.mul_comm (nthS l i).hi (nthS l m).a
  constructor <;> intro h <;> omega

set_option maxRecDepth 100000 in
set_option maxHeartbeats 4000000 in
theorem wedgeP_any (l : List St) (vl : Value) (w : World) (hl : l.length ≤ 1000) (h : RSt w w.heap.size vl l) :
    Calls Try.prog 32 #[vl] w fun e w' => e = .returned (wedgeV l) ∧ Below w.heap.size w w' := by
  have hcall := fun w1 (hb : Below w.heap.size w w1) => checkPair_any l vl w1 hl ((h.below hb).more hb.size)
  by_cases hp : checkPair l = 0
  · rw [hp] at hcall
    have hn := checkPair_len l hp
    have hnb := fun w1 (hb : Below w.heap.size w w1) hg => newBlades_any l hg vl w1 (by omega) hl ((h.below hb).more hb.size)
    have hpt := fun w1 vb hg k (hk : k < l.length) (hb : RB w1 vb l (ends l hg)) => point_any l (ends l hg) k vb w1 hl hk hb
    have hab : ∀ i k m, i < l.length → k < l.length → m < l.length → ∀ W, Calls Try.prog 62 #[ptV l (ends l true) i, ptV l (ends l false) k, ptV l (ends l true) m] W fun e w' => e = .returned (.bool (isWedgeB l i k m)) ∧ Below W.heap.size W w' := by
      intro i k m hi hk hm W
      have q1 := valid_at l hp i hi
      have q2 := valid_at l hp k hk
      have q3 := valid_at l hp m hm
      have e1 := ends_at l true i hi
      have e2 := ends_at l false k hk
      have e3 := ends_at l true m hm
      simp only [Bool.false_eq_true, if_true, if_false] at e1 e2 e3
      unfold ptV
      rw [← above_wedge, e1, e2, e3]
      exact above_any _ _ _ _ _ _ _ _ _ _ _ _ _ _ _ _ (by omega) (by omega) (by omega) (by omega) (by omega) (by omega)
    have hV : wedgeV l = wedgeO (wedgeF l) := by unfold wedgeV; rw [if_neg (by simpa using hp)]
    have HAB := Lib.hid hab; have HP := Lib.hid hcall; have HV := Lib.hid hV; have HN := Lib.hid hnb; have HPT := Lib.hid hpt
    obtain ⟨A, cap, b, off, rfl, _, _⟩ := h.cells
    clear hab hcall hp h hV hnb hpt
    go_enter Try.func32, Try.ntmps32
    go_wp2_with fail
    go_step3
    go_wp2_with fail
    refine (HP.out _ (by (repeat (first | with_reducible assumption | with_reducible exact Below.refl _ _ | (with_reducible refine Below.setCell ?_ (by first | omega | (simp; omega) | (simp; done)) _) | (with_reducible refine Below.alloc ?_ (by first | omega | (simp; omega) | (simp; done)) _) | (with_reducible refine Below.drew ?_) | (with_reducible refine belowN ?_ _) | assumption | exact Below.refl _ _ | (refine Below.alloc ?_ (by first | omega | (simp; omega) | (simp; done)) _) | (refine Below.drew ?_) | (refine belowN ?_ _) | (refine Below.setCell ?_ (by first | omega | (simp; omega) | (simp; done)) _))))).mono ?_
    rintro e w1 ⟨rfl, hb1⟩
    have hB1 : Below w.heap.size w w1 := (Below.trans (a := w) (B := w.heap.size) (by (repeat (first | with_reducible assumption | with_reducible exact Below.refl _ _ | (with_reducible refine Below.setCell ?_ (by first | omega | (simp; omega) | (simp; done)) _) | (with_reducible refine Below.alloc ?_ (by first | omega | (simp; omega) | (simp; done)) _) | (with_reducible refine Below.drew ?_) | (with_reducible refine belowN ?_ _) | assumption | exact Below.refl _ _ | (refine Below.alloc ?_ (by first | omega | (simp; omega) | (simp; done)) _) | (refine Below.drew ?_) | (refine belowN ?_ _) | (refine Below.setCell ?_ (by first | omega | (simp; omega) | (simp; done)) _)))) (hb1.mono (by first | omega | (simp; omega) | (simp; done))))
    have b1 : BK w1 w.heap.size #[.int .i64 0, .int .i64 0, .int .i64 0] 44 := BK.below (BK.new _ _ _) hb1 (by simp)
    have hlt1 := b1.lt
    clear hb1
    go_wp2_with fail
    refine (HN.out w1 hB1 false).mono ?_
    rintro e w2 ⟨gl, rfl, hRl, hb2⟩
    have hB2 : Below w.heap.size w w2 := hB1.trans (hb2.mono hB1.size)
    have b2 := b1.below hb2 hlt1
    have hlt2 := b2.lt
    clear hb2 b1
    go_wp2_with fail
    refine (HN.out w2 hB2 true).mono ?_
    rintro e w3 ⟨gh, rfl, hRh, hb3⟩
    have hRl3 := hRl.below hb3
    have hB3 : Below w.heap.size w w3 := hB2.trans (hb3.mono hB2.size)
    have b3 := b2.below hb3 hlt2
    have hlt3 := b3.lt
    clear hb3 b2 hRl
    have HRL := Lib.hid (fun W (hb : Below w3.heap.size w3 W) => hRl3.below hb)
    have HRH := Lib.hid (fun W (hb : Below w3.heap.size w3 W) => hRh.below hb)
    clear hRl3 hRh
    have hB3s := hB3.size
    obtain ⟨g7, hg7⟩ : ∃ g7, w3.heap.size = g7 := ⟨_, rfl⟩
    go_wp2_with fail
    go_step3
    go_wp2_with fail
    go_loopw [8, 23] (fun u8 iv wr => ∃ i : Nat, i ≤ l.length ∧ iv = .int .i64 i ∧ BK wr w.heap.size #[.int .i64 0, .int .i64 0, .int .i64 0] 44 ∧ BK wr g7 #[.int .i64 0, .int .i64 0, .int .i64 0] 44 ∧ Below w3.heap.size w3 wr ∧ wP1 l i) (fun _ i _ => l.length - (intOf i).toNat)
    case atStart => exact ⟨0, Nat.zero_le _, rfl, b3.alloc _, BK.new' _ _ _ _ hg7, by (repeat (first | with_reducible assumption | with_reducible exact Below.refl _ _ | (with_reducible refine Below.setCell ?_ (by first | omega | (simp; omega) | (simp; done)) _) | (with_reducible refine Below.alloc ?_ (by first | omega | (simp; omega) | (simp; done)) _) | (with_reducible refine Below.drew ?_) | (with_reducible refine belowN ?_ _) | assumption | exact Below.refl _ _ | (refine Below.alloc ?_ (by first | omega | (simp; omega) | (simp; done)) _) | (refine Below.drew ?_) | (refine belowN ?_ _) | (refine Below.setCell ?_ (by first | omega | (simp; omega) | (simp; done)) _))), fun i' k m h1 => absurd h1 (by omega)⟩
    case round =>
      clear b3
      obtain ⟨i, hi, rfl, b1, b7, hbw, hp1⟩ := hrel
      have HP1 := Lib.hid hp1; clear hp1
      by_cases hil : i < l.length
      · go_wp2_with fail
        go_loopw [9] (fun kv wr => ∃ k : Nat, i + 1 ≤ k ∧ k ≤ l.length ∧ kv = .int .i64 k ∧ BK wr w.heap.size #[.int .i64 0, .int .i64 0, .int .i64 0] 44 ∧ BK wr g7 #[.int .i64 0, .int .i64 0, .int .i64 0] 44 ∧ Below w3.heap.size w3 wr ∧ wP2 l i k) (fun k _ => l.length - (intOf k).toNat)
        case atStart => exact ⟨i + 1, Nat.le_refl _, by omega, by go_num, b1, b7, hbw, fun k' m h1 h2 => absurd h1 (by omega)⟩
        case round =>
          clear b1 b7 hbw
          obtain ⟨k, hk0, hk, rfl, b1, b7, hbw, hp2⟩ := hrel
          have HP2 := Lib.hid hp2; clear hp2
          by_cases hkl : k < l.length
          · go_wp2_with fail
            go_loopw [10] (fun mv wr => ∃ m : Nat, k + 1 ≤ m ∧ m ≤ l.length ∧ mv = .int .i64 m ∧ BK wr w.heap.size #[.int .i64 0, .int .i64 0, .int .i64 0] 44 ∧ BK wr g7 #[.int .i64 0, .int .i64 0, .int .i64 0] 44 ∧ Below w3.heap.size w3 wr ∧ wP3 l i k m) (fun m _ => l.length - (intOf m).toNat)
            case atStart => exact ⟨k + 1, Nat.le_refl _, by omega, by go_num, b1, b7, hbw, fun m' h1 h2 => absurd h1 (by omega)⟩
            case round =>
              clear b1 b7 hbw
              obtain ⟨m, hm0, hm, rfl, b1, b7, hbw, hp3⟩ := hrel
              have HP3 := Lib.hid hp3; clear hp3
              by_cases hml : m < l.length
              · obtain ⟨q, hq⟩ : ∃ q, isWedgeB l i k m = q := ⟨_, rfl⟩
                have hcw := HAB.out i k m hil hkl hml
                rw [hq] at hcw
                have HCW := Lib.hid hcw; clear hcw
                have hsz := hbw.size
                have hlt1 := b1.lt
                have hlt7 := b7.lt
                go_wp2_with fail
                refine (HPT.out wr _ true i hil (HRH.out wr hbw)).mono ?_
                rintro e w4 ⟨rfl, hb4⟩
                have hbw4 := hbw.trans (hb4.mono hsz)
                have b14 := b1.below hb4 hlt1
                have b74 := b7.below hb4 hlt7
                clear hb4 b1 b7
                go_wp2_with fail
                refine (HPT.out w4 _ false k hkl (HRL.out w4 hbw4)).mono ?_
                rintro e w5 ⟨rfl, hb5⟩
                have hbw5 := hbw4.trans (hb5.mono hbw4.size)
                have b15 := b14.below hb5 b14.lt
                have b75 := b74.below hb5 b74.lt
                clear hb5 b14 b74
                go_wp2_with fail
                refine (HPT.out w5 _ true m hml (HRH.out w5 hbw5)).mono ?_
                rintro e w6 ⟨rfl, hb6⟩
                have hbw6 := hbw5.trans (hb6.mono hbw5.size)
                have b16 := b15.below hb6 b15.lt
                have b76 := b75.below hb6 b75.lt
                clear hb6 b15 b75 hbw4 hbw5
                go_wp2_with fail
                refine (HCW.out w6).mono ?_
                rintro e w7 ⟨rfl, hb7⟩
                have hbw7 := hbw6.trans (hb7.mono hbw6.size)
                have b17 := b16.below hb7 b16.lt
                have b77 := b76.below hb7 b76.lt
                have hs67 := hbw7.size
                clear hb7 b16 b76 hbw6
                cases q with
                | true =>
                  have HW := Lib.hid (wedge_some HP1.out HP2.out HP3.out (by omega) (by omega) hml hq)
                  clear hq
                  have y0 := b77.cell 0
                  have y1 := b77.cell 1
                  have y2 := b77.cell 2
                  have f0 := b77.frozen 0
                  have f1 := b77.frozen 1
                  have f2 := b77.frozen 2
                  simp at y0 y1 y2
                  have z0 := b17.cell 0
                  have z1 := b17.cell 1
                  have z2 := b17.cell 2
                  have k0 := b17.frozen 0
                  have k1 := b17.frozen 1
                  have k2 := b17.frozen 2
                  simp at z0 z1 z2
                  have dk : ((k : Int) == 0) = false := by simp; omega
                  have hne : w.heap.size ≠ g7 := by omega
                  have hbw8 : Below w.heap.size w w7 := hB3.trans (hbw7.mono hB3s)
                  by_cases hi0 : i = 0
                  · have di : ((i : Int) == 0) = true := by simp [hi0]
                    clear hi0
                    go_wp2_with fail
                    have b18 : BK (((w7.setCell ⟨g7, 0, none⟩ (.int .i64 i)).setCell ⟨g7, 1, none⟩ (.int .i64 k)).setCell ⟨g7, 2, none⟩ (.int .i64 m)) w.heap.size #[.int .i64 0, .int .i64 0, .int .i64 0] 44 := ((b17.far (p := ⟨g7, 0, none⟩) hne _).far (p := ⟨g7, 1, none⟩) hne _).far (p := ⟨g7, 2, none⟩) hne _
                    have b5 := (((b18.set 0 (.int .i64 i)).set 1 (.int .i64 k)).set 2 (.int .i64 m))
                    simp at b5
                    try rw [Exit.noGoto_ret]
                    refine ret_bk (w := w) (n := w.heap.size) b5 (by (repeat (first | with_reducible assumption | with_reducible exact Below.refl _ _ | (with_reducible refine Below.setCell ?_ (by first | omega | (simp; omega) | (simp; done)) _) | (with_reducible refine Below.alloc ?_ (by first | omega | (simp; omega) | (simp; done)) _) | (with_reducible refine Below.drew ?_) | (with_reducible refine belowN ?_ _) | assumption | exact Below.refl _ _ | (refine Below.alloc ?_ (by first | omega | (simp; omega) | (simp; done)) _) | (refine Below.drew ?_) | (refine belowN ?_ _) | (refine Below.setCell ?_ (by first | omega | (simp; omega) | (simp; done)) _)))) (v := .tuple #[.agg #[.int .i64 i, .int .i64 k, .int .i64 m], .int .i64 0]) ?_ ?_
                    · intro W' hb'
                      have z0 := hb'.cell 0
                      have z1 := hb'.cell 1
                      have z2 := hb'.cell 2
                      simp at z0 z1 z2
                      simp [results, Try.results32, go_sem, z0, z1, z2]
                    exact ⟨by rw [HV.out, HW.out]; rfl, by (repeat (first | with_reducible assumption | with_reducible exact Below.refl _ _ | (with_reducible refine Below.setCell ?_ (by first | omega | (simp; omega) | (simp; done)) _) | (with_reducible refine Below.alloc ?_ (by first | omega | (simp; omega) | (simp; done)) _) | (with_reducible refine Below.drew ?_) | (with_reducible refine belowN ?_ _) | assumption | exact Below.refl _ _ | (refine Below.alloc ?_ (by first | omega | (simp; omega) | (simp; done)) _) | (refine Below.drew ?_) | (refine belowN ?_ _) | (refine Below.setCell ?_ (by first | omega | (simp; omega) | (simp; done)) _)))⟩
                  · have di : ((i : Int) == 0) = false := by simp; omega
                    clear hi0
                    go_wp2_with fail
                    have b18 : BK (((w7.setCell ⟨g7, 0, none⟩ (.int .i64 i)).setCell ⟨g7, 1, none⟩ (.int .i64 k)).setCell ⟨g7, 2, none⟩ (.int .i64 m)) w.heap.size #[.int .i64 0, .int .i64 0, .int .i64 0] 44 := ((b17.far (p := ⟨g7, 0, none⟩) hne _).far (p := ⟨g7, 1, none⟩) hne _).far (p := ⟨g7, 2, none⟩) hne _
                    have b5 := (((b18.set 0 (.int .i64 i)).set 1 (.int .i64 k)).set 2 (.int .i64 m))
                    simp at b5
                    try rw [Exit.noGoto_ret]
                    refine ret_bk (w := w) (n := w.heap.size) b5 (by (repeat (first | with_reducible assumption | with_reducible exact Below.refl _ _ | (with_reducible refine Below.setCell ?_ (by first | omega | (simp; omega) | (simp; done)) _) | (with_reducible refine Below.alloc ?_ (by first | omega | (simp; omega) | (simp; done)) _) | (with_reducible refine Below.drew ?_) | (with_reducible refine belowN ?_ _) | assumption | exact Below.refl _ _ | (refine Below.alloc ?_ (by first | omega | (simp; omega) | (simp; done)) _) | (refine Below.drew ?_) | (refine belowN ?_ _) | (refine Below.setCell ?_ (by first | omega | (simp; omega) | (simp; done)) _)))) (v := .tuple #[.agg #[.int .i64 i, .int .i64 k, .int .i64 m], .int .i64 0]) ?_ ?_
                    · intro W' hb'
                      have z0 := hb'.cell 0
                      have z1 := hb'.cell 1
                      have z2 := hb'.cell 2
                      simp at z0 z1 z2
                      simp [results, Try.results32, go_sem, z0, z1, z2]
                    exact ⟨by rw [HV.out, HW.out]; rfl, by (repeat (first | with_reducible assumption | with_reducible exact Below.refl _ _ | (with_reducible refine Below.setCell ?_ (by first | omega | (simp; omega) | (simp; done)) _) | (with_reducible refine Below.alloc ?_ (by first | omega | (simp; omega) | (simp; done)) _) | (with_reducible refine Below.drew ?_) | (with_reducible refine belowN ?_ _) | assumption | exact Below.refl _ _ | (refine Below.alloc ?_ (by first | omega | (simp; omega) | (simp; done)) _) | (refine Below.drew ?_) | (refine belowN ?_ _) | (refine Below.setCell ?_ (by first | omega | (simp; omega) | (simp; done)) _)))⟩
                | false =>
                  have HQ := Lib.hid hq
                  clear hq
                  go_wp2_with fail
                  go_roundw
                  case rel => exact ⟨m + 1, by omega, by omega, by go_num, b17, b77, hbw7, fun m' h1 h2 => by
                    rcases Nat.lt_succ_iff_lt_or_eq.1 h2 with h3 | rfl
                    · exact HP3.out m' h1 h3
                    · exact HQ.out⟩
                  case measure => simp [intOf]; omega
              · have hme : m = l.length := by omega
                go_wp2_with fail
                go_roundw
                case rel => exact ⟨k + 1, by omega, by omega, by go_num, b1, b7, hbw, fun k' m' h1 h2 h3 h4 => by
                  rcases Nat.lt_succ_iff_lt_or_eq.1 h2 with h5 | rfl
                  · exact HP2.out k' m' h1 h5 h3 h4
                  · exact HP3.out m' h3 (by omega)⟩
                case measure => simp [intOf]; omega
          · have hke : k = l.length := by omega
            go_wp2_with fail
            go_roundw
            case rel => exact ⟨i + 1, by omega, by go_num, b1, b7, hbw, fun i' k' m' h1 h2 h3 h4 => by
              rcases Nat.lt_succ_iff_lt_or_eq.1 h1 with h5 | rfl
              · exact HP1.out i' k' m' h5 h2 h3 h4
              · exact HP2.out k' m' h2 (by omega) h3 h4⟩
            case measure => simp [intOf]; omega
      · have hie : i = l.length := by omega
        have HW := Lib.hid (wedge_none (hie ▸ HP1.out))
        clear hie
        have hbw8 : Below w.heap.size w wr := hB3.trans (hbw.mono hB3s)
        have hne : w.heap.size ≠ g7 := by omega
        have hlt1 := b1.lt
        have z0 := b1.cell 0
        have z1 := b1.cell 1
        have z2 := b1.cell 2
        have k0 := b1.frozen 0
        have k1 := b1.frozen 1
        have k2 := b1.frozen 2
        simp at z0 z1 z2
        have y0 := b7.cell 0
        have y1 := b7.cell 1
        have y2 := b7.cell 2
        have f0 := b7.frozen 0
        have f1 := b7.frozen 1
        have f2 := b7.frozen 2
        simp at y0 y1 y2
        go_wp2_with fail
        have b5 := (((b1.set 0 (.int .i64 0)).set 1 (.int .i64 0)).set 2 (.int .i64 0))
        simp at b5
        try rw [Exit.noGoto_ret]
        refine ret_bk (w := w) (n := w.heap.size) b5 (by (repeat (first | with_reducible assumption | with_reducible exact Below.refl _ _ | (with_reducible refine Below.setCell ?_ (by first | omega | (simp; omega) | (simp; done)) _) | (with_reducible refine Below.alloc ?_ (by first | omega | (simp; omega) | (simp; done)) _) | (with_reducible refine Below.drew ?_) | (with_reducible refine belowN ?_ _) | assumption | exact Below.refl _ _ | (refine Below.alloc ?_ (by first | omega | (simp; omega) | (simp; done)) _) | (refine Below.drew ?_) | (refine belowN ?_ _) | (refine Below.setCell ?_ (by first | omega | (simp; omega) | (simp; done)) _)))) (v := .tuple #[.agg #[.int .i64 0, .int .i64 0, .int .i64 0], .int .i64 5]) ?_ ?_
        · intro W' hb'
          have z0 := hb'.cell 0
          have z1 := hb'.cell 1
          have z2 := hb'.cell 2
          simp at z0 z1 z2
          simp [results, Try.results32, go_sem, z0, z1, z2]
        exact ⟨by rw [HV.out, HW.out]; rfl, by (repeat (first | with_reducible assumption | with_reducible exact Below.refl _ _ | (with_reducible refine Below.setCell ?_ (by first | omega | (simp; omega) | (simp; done)) _) | (with_reducible refine Below.alloc ?_ (by first | omega | (simp; omega) | (simp; done)) _) | (with_reducible refine Below.drew ?_) | (with_reducible refine belowN ?_ _) | assumption | exact Below.refl _ _ | (refine Below.alloc ?_ (by first | omega | (simp; omega) | (simp; done)) _) | (refine Below.drew ?_) | (refine belowN ?_ _) | (refine Below.setCell ?_ (by first | omega | (simp; omega) | (simp; done)) _)))⟩
  · obtain ⟨e0, he0⟩ : ∃ e0, checkPair l = e0 := ⟨_, rfl⟩
    have hV : wedgeV l = .tuple #[.agg #[.int .i64 0, .int .i64 0, .int .i64 0], .int .i64 (checkPair l)] := by unfold wedgeV; rw [if_pos hp]
    rw [he0] at hcall hp hV
    have hpb : (e0 != 0) = true := by simpa using hp
    have HV := Lib.hid hV; have HP := Lib.hid hcall
    clear hV hcall he0 hp h
    go_enter Try.func32, Try.ntmps32
    go_wp2_with fail
    go_step3
    go_wp2_with fail
    refine (HP.out _ (by (repeat (first | with_reducible assumption | with_reducible exact Below.refl _ _ | (with_reducible refine Below.setCell ?_ (by first | omega | (simp; omega) | (simp; done)) _) | (with_reducible refine Below.alloc ?_ (by first | omega | (simp; omega) | (simp; done)) _) | (with_reducible refine Below.drew ?_) | (with_reducible refine belowN ?_ _) | assumption | exact Below.refl _ _ | (refine Below.alloc ?_ (by first | omega | (simp; omega) | (simp; done)) _) | (refine Below.drew ?_) | (refine belowN ?_ _) | (refine Below.setCell ?_ (by first | omega | (simp; omega) | (simp; done)) _))))).mono ?_
    rintro e w1 ⟨rfl, hb1⟩
    have hB1 : Below w.heap.size w w1 := (Below.trans (a := w) (B := w.heap.size) (by (repeat (first | with_reducible assumption | with_reducible exact Below.refl _ _ | (with_reducible refine Below.setCell ?_ (by first | omega | (simp; omega) | (simp; done)) _) | (with_reducible refine Below.alloc ?_ (by first | omega | (simp; omega) | (simp; done)) _) | (with_reducible refine Below.drew ?_) | (with_reducible refine belowN ?_ _) | assumption | exact Below.refl _ _ | (refine Below.alloc ?_ (by first | omega | (simp; omega) | (simp; done)) _) | (refine Below.drew ?_) | (refine belowN ?_ _) | (refine Below.setCell ?_ (by first | omega | (simp; omega) | (simp; done)) _)))) (hb1.mono (by first | omega | (simp; omega) | (simp; done))))
    have b1 : BK w1 w.heap.size #[.int .i64 0, .int .i64 0, .int .i64 0] 44 := BK.below (BK.new _ _ _) hb1 (by simp)
    have hlt1 := b1.lt
    clear hb1
    have z0 := b1.cell 0
    have z1 := b1.cell 1
    have z2 := b1.cell 2
    have k0 := b1.frozen 0
    have k1 := b1.frozen 1
    have k2 := b1.frozen 2
    simp at z0 z1 z2
    go_wp2_with fail
    have b5 := (((b1.set 0 (.int .i64 0)).set 1 (.int .i64 0)).set 2 (.int .i64 0))
    simp at b5
    try rw [Exit.noGoto_ret]
    refine ret_bk (w := w) (n := w.heap.size) b5 (by (repeat (first | with_reducible assumption | with_reducible exact Below.refl _ _ | (with_reducible refine Below.setCell ?_ (by first | omega | (simp; omega) | (simp; done)) _) | (with_reducible refine Below.alloc ?_ (by first | omega | (simp; omega) | (simp; done)) _) | (with_reducible refine Below.drew ?_) | (with_reducible refine belowN ?_ _) | assumption | exact Below.refl _ _ | (refine Below.alloc ?_ (by first | omega | (simp; omega) | (simp; done)) _) | (refine Below.drew ?_) | (refine belowN ?_ _) | (refine Below.setCell ?_ (by first | omega | (simp; omega) | (simp; done)) _)))) (v := .tuple #[.agg #[.int .i64 0, .int .i64 0, .int .i64 0], .int .i64 e0]) ?_ ?_
    · intro W' hb'
      have z0 := hb'.cell 0
      have z1 := hb'.cell 1
      have z2 := hb'.cell 2
      simp at z0 z1 z2
      simp [results, Try.results32, go_sem, z0, z1, z2]
    exact ⟨by rw [HV.out], by (repeat (first | with_reducible assumption | with_reducible exact Below.refl _ _ | (with_reducible refine Below.setCell ?_ (by first | omega | (simp; omega) | (simp; done)) _) | (with_reducible refine Below.alloc ?_ (by first | omega | (simp; omega) | (simp; done)) _) | (with_reducible refine Below.drew ?_) | (with_reducible refine belowN ?_ _) | assumption | exact Below.refl _ _ | (refine Below.alloc ?_ (by first | omega | (simp; omega) | (simp; done)) _) | (refine Below.drew ?_) | (refine belowN ?_ _) | (refine Below.setCell ?_ (by first | omega | (simp; omega) | (simp; done)) _)))⟩

end Go.Proofs.Ytbjmkmambmeifaa
