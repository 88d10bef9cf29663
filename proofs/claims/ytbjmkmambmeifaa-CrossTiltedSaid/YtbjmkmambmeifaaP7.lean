/- span, of the reference. -/
import Derived.Test.YtbjmkmambmeifaaP3
import Derived.Test.YtbjmkmambmeifaaP6
set_option linter.all false
set_option linter.unnecessarySimpa false
set_option linter.unusedSimpArgs false
set_option linter.unusedVariables false
set_option linter.unusedSectionVars false

namespace Go.Proofs.Ytbjmkmambmeifaa
open Go.RowKit

def loT (l : List St) (hs : List Int) (s : Nat) (own : Int) (k : Nat) : Ra := bestF (fun y o => lessW o y) (⟨-10000, 1⟩ :: (los l hs s own).take k)
def hiT (l : List St) (hs : List Int) (s : Nat) (own : Int) (k : Nat) : Ra := bestF (fun y o => lessW y o) (⟨10000, 1⟩ :: (his l hs s own).take k)
theorem loT_succ (l : List St) (hs : List Int) (s : Nat) (own : Int) (k : Nat) (hk : k < s) :
    loT l hs s own (k + 1) = if lessW (loT l hs s own k) (frac (own - nthI hs k) ((nthS l s).a - (nthS l k).a)) then frac (own - nthI hs k) ((nthS l s).a - (nthS l k).a) else loT l hs s own k := by
  unfold loT
  have hk' : k < (los l hs s own).length := by simpa [los] using hk
  rw [List.take_succ_eq_append_getElem hk', ← List.cons_append, bestF_snoc _ _ _ (by simp), show (los l hs s own)[k] = frac (own - nthI hs k) ((nthS l s).a - (nthS l k).a) by simp [los]]
theorem hiT_succ (l : List St) (hs : List Int) (s : Nat) (own : Int) (k : Nat) (hk : s < k) (hk2 : k < l.length) :
    hiT l hs s own (k + 1 - (s + 1)) = if lessW (frac (nthI hs k - own) ((nthS l k).a - (nthS l s).a)) (hiT l hs s own (k - (s + 1))) then frac (nthI hs k - own) ((nthS l k).a - (nthS l s).a) else hiT l hs s own (k - (s + 1)) := by
  unfold hiT
  have hk' : k - (s + 1) < (his l hs s own).length := by simp [his]; omega
  rw [show k + 1 - (s + 1) = k - (s + 1) + 1 by omega, List.take_succ_eq_append_getElem hk', ← List.cons_append, bestF_snoc _ _ _ (by simp), show (his l hs s own)[k - (s + 1)] = frac (nthI hs k - own) ((nthS l k).a - (nthS l s).a) by simp [his, show s + 1 + (k - (s + 1)) = k by omega]]

set_option maxHeartbeats 4000000 in
theorem refSpan_any (l : List St) (hs : List Int) (s : Nat) (own : Int) (vl vh : Value) (w : World) (hl : l.length ≤ 25) (hs1 : s < l.length) (h : RSt w w.heap.size vl l) (h' : RI w w.heap.size vh hs) (hlen : hs.length = l.length)
    (ha : ∀ i j, i < j → j < l.length → (nthS l i).a < (nthS l j).a) (ha2 : ∀ i, i < l.length → 0 ≤ (nthS l i).a ∧ (nthS l i).a ≤ 1000) (hh : ∀ i, i < l.length → -1000 ≤ nthI hs i ∧ nthI hs i ≤ 1000) (ho : -1000 ≤ own ∧ own ≤ 1000) :
    Calls Try.prog 54 #[vl, vh, .int .i64 s, .int .i64 own] w fun e w' => e = .returned (spanV l hs s own) ∧ Below w.heap.size w w' := by
  obtain ⟨A, cap, b, off, rfl, hA, hc⟩ := h.cells
  obtain ⟨A', cap', b', off', rfl, hA', hc'⟩ := h'.cells
  obtain ⟨rfl, hb⟩ := hA (by omega)
  obtain ⟨rfl, hb'⟩ := hA' (by omega)
  clear hA'
  rw [hlen] at hc' ⊢
  clear hlen
  have HC := Lib.hid hc; have HC' := Lib.hid hc'; have HAt := Lib.hid ha; have HA2 := Lib.hid ha2; have HH := Lib.hid hh
  clear hc hc' hA h h' ha ha2 hh
  go_enter Try.func54, Try.ntmps54
  go_wp2_with fail
  go_loopw [11] (fun i wr => ∃ k : Nat, k ≤ l.length ∧ i = .int .i64 k ∧ BK wr (w.heap.size + 1) #[.int .i64 (loT l hs s own (min k s)).num, .int .i64 (loT l hs s own (min k s)).den, .int .i64 (hiT l hs s own (k - (s + 1))).num, .int .i64 (hiT l hs s own (k - (s + 1))).den] 34 ∧
    BK wr w.heap.size #[.int .i64 0, .int .i64 0, .int .i64 0, .int .i64 0] 34 ∧ Below w.heap.size w wr) (fun i _ => l.length - (intOf i).toNat)
  case atStart => exact ⟨0, Nat.zero_le _, rfl, by rw [show loT l hs s own (min 0 s) = ⟨-10000, 1⟩ by simp [loT, bestF], show hiT l hs s own (0 - (s + 1)) = ⟨10000, 1⟩ by simp [hiT, bestF]]; exact BK.new' _ _ _ _ (by simp), BK.alloc (BK.new _ _ _) _, by exact bel_of⟩
  case round =>
    obtain ⟨k, hk, rfl, bo, b1, hbw⟩ := hrel
    have hsz := hbw.size
    have hol := bo.lt
    by_cases hlt : k < l.length
    · have hcell := HC.out k hlt
      have hcell' := HC'.out k (by omega)
      have hcs := HC.out s hs1
      rw [← hbw.cell (by exact hb), ← hbw.cell (by exact hb), ← hbw.cell (by exact hb)] at hcell hcs
      rw [← hbw.cell (by exact hb')] at hcell'
      obtain ⟨c0, c1, c2⟩ := hcell
      obtain ⟨d0, d1, d2⟩ := hcs
      have hbr : b < wr.heap.size := by omega
      have hbr' : b' < wr.heap.size := by omega
      have q1 := HH.out k hlt
      have q2 := HA2.out k hlt
      have q3 := HA2.out s hs1
      rcases Nat.lt_trichotomy k s with hks | hks | hks
      · have p1 : decide ((k : Int) < (s : Int)) = true := by simpa using hks
        have p2 : decide ((s : Int) < (k : Int)) = false := by simp; omega
        have q4 := HAt.out k s hks hs1
        have hF := fun W => fraction_any (own - nthI hs k) ((nthS l s).a - (nthS l k).a) W (by omega) (by omega) (by omega) (by omega)
        have HF := Lib.hid hF; clear hF
        go_upto_region 6 with fail
        go_cut [12] (fun p wx => ∃ g, p = .pointer (some ⟨g, 0, none⟩) ∧ BK wx g #[.int .i64 (frac (own - nthI hs k) ((nthS l s).a - (nthS l k).a)).num, .int .i64 (frac (own - nthI hs k) ((nthS l s).a - (nthS l k).a)).den] 25 ∧ wr.heap.size ≤ g ∧ Below wr.heap.size wr wx)
        case first =>
          refine plain_read 17 3 mixed (by kernel_rfl) rfl ?_
          simp only [List.take_succ_cons, List.take_zero]
          (repeat (first | (refine ⟨undef, .inr ⟨by rfl, rfl⟩, ?_⟩) | (refine ⟨?_, .inl ⟨by rfl, ?_⟩, ?_⟩; rotate_left; (intro X hX; obtain ⟨r1, r2⟩ := Below.rules hX; clear hX; go_simp; rfl))))
          refine any_run2 (i := 17) (j := 18) (by kernel_rfl) (by rfl) (by rfl) (by rfl) (by rfl) ?_ ?_
          · intro K hK
            go_wp2_with fail
            refine (HF.out _).mono ?_
            rintro e w1 ⟨rfl, hb1⟩
            refine hK _ _ (fun hx => (Bool.false_ne_true (hx.symm.trans (by kernel_rfl))).elim) ?_
            clear hK K
            have hbb : Below wr.heap.size wr w1 := Below.trans (b := wr.drew) (by exact bel_of) hb1
            have hbs := hbb.size
            clear hb1
            refine any_run1 (i := 18) (by kernel_rfl) (by rfl) (by rfl) ?_
            intro K hK
            go_wp2_with fail
            refine hK _ _ (fun hx => (by exact bel_of)) ?_
            clear hK K
            have b0 : BK (w1.alloc (.cells #[.int .i64 0, .int .i64 0] 25)) w1.heap.size #[.int .i64 0, .int .i64 0] 25 := BK.new _ _ _
            refine any_run1 (i := 19) (by kernel_rfl) (by rfl) (by rfl) ?_
            intro K hK
            go_wp2_with fail
            refine hK _ _ (fun hx => (Bool.false_ne_true (hx.symm.trans (by kernel_rfl))).elim) ?_
            clear hK K
            refine any_done (by kernel_rfl) (NoPanic.normal ?_)
            go_wp2_with fail
            go_meet
            exact ⟨_, rfl, BK.new _ _ _, by omega, by exact bel_of⟩
          · intro K hK
            go_wp2_with fail
            refine hK _ _ (fun hx => (by exact bel_of)) ?_
            clear hK K
            have b0 : BK (wr.drew.alloc (.cells #[.int .i64 0, .int .i64 0] 25)) wr.heap.size #[.int .i64 0, .int .i64 0] 25 := BK.new' _ _ _ _ rfl
            refine any_run1 (i := 17) (by kernel_rfl) (by rfl) (by rfl) ?_
            intro K hK
            go_wp2_with fail
            refine (HF.out _).mono ?_
            rintro e w1 ⟨rfl, hb1⟩
            refine hK _ _ (fun hx => (Bool.false_ne_true (hx.symm.trans (by kernel_rfl))).elim) ?_
            clear hK K
            have b1 := b0.below hb1 b0.lt
            have hbb : Below wr.heap.size wr w1 := Below.trans (b := wr.drew.alloc (.cells #[.int .i64 0, .int .i64 0] 25)) (by exact bel_of) (hb1.mono (by simp))
            have hbs := hb1.size
            simp at hbs
            clear b0 hb1
            have y0 := b1.cell 0
            have y1 := b1.cell 1
            have f0 := b1.frozen 0
            have f1 := b1.frozen 1
            simp at y0 y1
            refine any_run1 (i := 19) (by kernel_rfl) (by rfl) (by rfl) ?_
            intro K hK
            go_wp2_with fail
            refine hK _ _ (fun hx => (Bool.false_ne_true (hx.symm.trans (by kernel_rfl))).elim) ?_
            clear hK K
            refine any_done (by kernel_rfl) (NoPanic.normal ?_)
            go_wp2_with fail
            go_meet
            exact ⟨_, rfl, by simpa using (b1.set 0 (.int .i64 (frac (own - nthI hs k) ((nthS l s).a - (nthS l k).a)).num)).set 1 (.int .i64 (frac (own - nthI hs k) ((nthS l s).a - (nthS l k).a)).den), by omega, by exact bel_of⟩
        case rest =>
          obtain ⟨g, rfl, bg, hg, hbx⟩ := hcut
          have bo' := bo.below hbx hol
          have b1' := b1.below hbx (by omega)
          have hbx2 : Below w.heap.size w wc := hbw.trans (hbx.mono hsz)
          have hxs := hbx.size
          have hol2 : w.heap.size + 1 < wc.heap.size := by omega
          have hol3 : w.heap.size < wc.heap.size := by omega
          have hol4 : w.heap.size + 1 < wc.heap.size + 1 := by omega
          clear bo b1 hbx HF
          obtain ⟨L, hL⟩ : ∃ L, loT l hs s own (min k s) = L := ⟨_, rfl⟩
          obtain ⟨H, hH⟩ : ∃ H, hiT l hs s own (k - (s + 1)) = H := ⟨_, rfl⟩
          rw [hL, hH] at bo'
          obtain ⟨q, hq⟩ : ∃ q, lessW ⟨L.num, L.den⟩ ⟨(frac (own - nthI hs k) ((nthS l s).a - (nthS l k).a)).num, (frac (own - nthI hs k) ((nthS l s).a - (nthS l k).a)).den⟩ = q := ⟨_, rfl⟩
          have hres : loT l hs s own (min (k + 1) s) = if q then frac (own - nthI hs k) ((nthS l s).a - (nthS l k).a) else L := by
            rw [← hq, ← hL, Nat.min_eq_left (by omega), Nat.min_eq_left (by omega), loT_succ _ _ _ _ _ hks]
          have HR := Lib.hid hres; clear hres
          obtain ⟨F, hFe⟩ : ∃ F, frac (own - nthI hs k) ((nthS l s).a - (nthS l k).a) = F := ⟨_, rfl⟩
          rw [hFe] at bg HR hq
          have HL := Lib.hid hL; have HHi := Lib.hid hH; clear hL hH hFe
          have x0 := bg.cell 0
          have x1 := bg.cell 1
          have y0 := bo'.cell 0
          have y1 := bo'.cell 1
          have y2 := bo'.cell 2
          have y3 := bo'.cell 3
          have f0 := bo'.frozen 0
          have f1 := bo'.frozen 1
          have f2 := bo'.frozen 2
          have f3 := bo'.frozen 3
          have hgl := bg.lt
          simp at x0 x1 y0 y1 y2 y3
          go_wp2_with fail
          refine (refLess_any _ _ _ _ _).mono ?_
          rintro e w2 ⟨rfl, rfl⟩
          rw [hq]
          have hne : g ≠ w.heap.size + 1 := by omega
          cases q with
          | true =>
            go_wp2_with fail
            go_roundw
            case rel => exact ⟨k + 1, by omega, by go_num, by rw [HR.out, show k + 1 - (s + 1) = k - (s + 1) by omega, HHi.out]; try simp only [if_true, Bool.false_eq_true, if_false]; simpa using (((bo'.set 0 (.int .i64 F.num)).set 1 (.int .i64 F.den)).alloc _).alloc _, by (repeat (first | assumption | (refine BK.alloc ?_ _) | (refine BK.drew ?_) | (refine BK.drewN ?_ _) | (refine BK.far ?_ (by first | omega | (simp; omega) | (simp; done)) _))), by exact bel_of⟩
            case measure => simp [intOf]; omega
          | false =>
            go_wp2_with fail
            go_roundw
            case rel => exact ⟨k + 1, by omega, by go_num, by rw [HR.out, show k + 1 - (s + 1) = k - (s + 1) by omega, HHi.out]; try simp only [if_true, Bool.false_eq_true, if_false]; exact (bo'.alloc _).alloc _, by (repeat (first | assumption | (refine BK.alloc ?_ _) | (refine BK.drew ?_) | (refine BK.drewN ?_ _) | (refine BK.far ?_ (by first | omega | (simp; omega) | (simp; done)) _))), by exact bel_of⟩
            case measure => simp [intOf]; omega
      · have p1 : decide ((k : Int) < (s : Int)) = false := by simp; omega
        have p2 : decide ((s : Int) < (k : Int)) = false := by simp; omega
        go_wp2_with fail
        go_roundw
        case rel => exact ⟨k + 1, by omega, by go_num, by rw [show min (k + 1) s = min k s by omega, show k + 1 - (s + 1) = k - (s + 1) by omega]; exact bo, b1, by exact bel_of⟩
        case measure => simp [intOf]; omega
      · have p1 : decide ((k : Int) < (s : Int)) = false := by simp; omega
        have p2 : decide ((s : Int) < (k : Int)) = true := by simpa using hks
        have q4 := HAt.out s k hks hlt
        have hF := fun W => fraction_any (nthI hs k - own) ((nthS l k).a - (nthS l s).a) W (by omega) (by omega) (by omega) (by omega)
        have HF := Lib.hid hF; clear hF
        go_upto_region 10 with fail
        go_cut [13] (fun p wx => ∃ g, p = .pointer (some ⟨g, 0, none⟩) ∧ BK wx g #[.int .i64 (frac (nthI hs k - own) ((nthS l k).a - (nthS l s).a)).num, .int .i64 (frac (nthI hs k - own) ((nthS l k).a - (nthS l s).a)).den] 25 ∧ wr.heap.size ≤ g ∧ Below wr.heap.size wr wx)
        case first =>
          refine plain_read 17 3 mixed (by kernel_rfl) rfl ?_
          simp only [List.take_succ_cons, List.take_zero]
          (repeat (first | (refine ⟨undef, .inr ⟨by rfl, rfl⟩, ?_⟩) | (refine ⟨?_, .inl ⟨by rfl, ?_⟩, ?_⟩; rotate_left; (intro X hX; obtain ⟨r1, r2⟩ := Below.rules hX; clear hX; go_simp; rfl))))
          refine any_run2 (i := 17) (j := 18) (by kernel_rfl) (by rfl) (by rfl) (by rfl) (by rfl) ?_ ?_
          · intro K hK
            go_wp2_with fail
            refine (HF.out _).mono ?_
            rintro e w1 ⟨rfl, hb1⟩
            refine hK _ _ (fun hx => (Bool.false_ne_true (hx.symm.trans (by kernel_rfl))).elim) ?_
            clear hK K
            have hbb : Below wr.heap.size wr w1 := Below.trans (b := wr.drew) (by exact bel_of) hb1
            have hbs := hbb.size
            clear hb1
            refine any_run1 (i := 18) (by kernel_rfl) (by rfl) (by rfl) ?_
            intro K hK
            go_wp2_with fail
            refine hK _ _ (fun hx => (by exact bel_of)) ?_
            clear hK K
            have b0 : BK (w1.alloc (.cells #[.int .i64 0, .int .i64 0] 25)) w1.heap.size #[.int .i64 0, .int .i64 0] 25 := BK.new _ _ _
            refine any_run1 (i := 19) (by kernel_rfl) (by rfl) (by rfl) ?_
            intro K hK
            go_wp2_with fail
            refine hK _ _ (fun hx => (Bool.false_ne_true (hx.symm.trans (by kernel_rfl))).elim) ?_
            clear hK K
            refine any_done (by kernel_rfl) (NoPanic.normal ?_)
            go_wp2_with fail
            go_meet
            exact ⟨_, rfl, BK.new _ _ _, by omega, by exact bel_of⟩
          · intro K hK
            go_wp2_with fail
            refine hK _ _ (fun hx => (by exact bel_of)) ?_
            clear hK K
            have b0 : BK (wr.drew.alloc (.cells #[.int .i64 0, .int .i64 0] 25)) wr.heap.size #[.int .i64 0, .int .i64 0] 25 := BK.new' _ _ _ _ rfl
            refine any_run1 (i := 17) (by kernel_rfl) (by rfl) (by rfl) ?_
            intro K hK
            go_wp2_with fail
            refine (HF.out _).mono ?_
            rintro e w1 ⟨rfl, hb1⟩
            refine hK _ _ (fun hx => (Bool.false_ne_true (hx.symm.trans (by kernel_rfl))).elim) ?_
            clear hK K
            have b1 := b0.below hb1 b0.lt
            have hbb : Below wr.heap.size wr w1 := Below.trans (b := wr.drew.alloc (.cells #[.int .i64 0, .int .i64 0] 25)) (by exact bel_of) (hb1.mono (by simp))
            have hbs := hb1.size
            simp at hbs
            clear b0 hb1
            have y0 := b1.cell 0
            have y1 := b1.cell 1
            have f0 := b1.frozen 0
            have f1 := b1.frozen 1
            simp at y0 y1
            refine any_run1 (i := 19) (by kernel_rfl) (by rfl) (by rfl) ?_
            intro K hK
            go_wp2_with fail
            refine hK _ _ (fun hx => (Bool.false_ne_true (hx.symm.trans (by kernel_rfl))).elim) ?_
            clear hK K
            refine any_done (by kernel_rfl) (NoPanic.normal ?_)
            go_wp2_with fail
            go_meet
            exact ⟨_, rfl, by simpa using (b1.set 0 (.int .i64 (frac (nthI hs k - own) ((nthS l k).a - (nthS l s).a)).num)).set 1 (.int .i64 (frac (nthI hs k - own) ((nthS l k).a - (nthS l s).a)).den), by omega, by exact bel_of⟩
        case rest =>
          obtain ⟨g, rfl, bg, hg, hbx⟩ := hcut
          have bo' := bo.below hbx hol
          have b1' := b1.below hbx (by omega)
          have hbx2 : Below w.heap.size w wc := hbw.trans (hbx.mono hsz)
          have hxs := hbx.size
          have hol2 : w.heap.size + 1 < wc.heap.size := by omega
          have hol3 : w.heap.size < wc.heap.size := by omega
          have hol4 : w.heap.size + 1 < wc.heap.size + 1 := by omega
          clear bo b1 hbx HF
          obtain ⟨L, hL⟩ : ∃ L, loT l hs s own (min k s) = L := ⟨_, rfl⟩
          obtain ⟨H, hH⟩ : ∃ H, hiT l hs s own (k - (s + 1)) = H := ⟨_, rfl⟩
          rw [hL, hH] at bo'
          obtain ⟨q, hq⟩ : ∃ q, lessW ⟨(frac (nthI hs k - own) ((nthS l k).a - (nthS l s).a)).num, (frac (nthI hs k - own) ((nthS l k).a - (nthS l s).a)).den⟩ ⟨H.num, H.den⟩ = q := ⟨_, rfl⟩
          have hres : hiT l hs s own (k + 1 - (s + 1)) = if q then frac (nthI hs k - own) ((nthS l k).a - (nthS l s).a) else H := by
            rw [← hq, ← hH, hiT_succ _ _ _ _ _ hks hlt]
          have HR := Lib.hid hres; clear hres
          obtain ⟨F, hFe⟩ : ∃ F, frac (nthI hs k - own) ((nthS l k).a - (nthS l s).a) = F := ⟨_, rfl⟩
          rw [hFe] at bg HR hq
          have HL := Lib.hid hL; have HHi := Lib.hid hH; clear hL hH hFe
          have x0 := bg.cell 0
          have x1 := bg.cell 1
          have y0 := bo'.cell 0
          have y1 := bo'.cell 1
          have y2 := bo'.cell 2
          have y3 := bo'.cell 3
          have f0 := bo'.frozen 0
          have f1 := bo'.frozen 1
          have f2 := bo'.frozen 2
          have f3 := bo'.frozen 3
          have hgl := bg.lt
          simp at x0 x1 y0 y1 y2 y3
          go_wp2_with fail
          refine (refLess_any _ _ _ _ _).mono ?_
          rintro e w2 ⟨rfl, rfl⟩
          rw [hq]
          have hne : g ≠ w.heap.size + 1 := by omega
          cases q with
          | true =>
            go_wp2_with fail
            go_roundw
            case rel => exact ⟨k + 1, by omega, by go_num, by rw [HR.out, show min (k + 1) s = min k s by omega, HL.out]; try simp only [if_true, Bool.false_eq_true, if_false]; simpa using (((bo'.set 2 (.int .i64 F.num)).set 3 (.int .i64 F.den)).alloc _).alloc _, by (repeat (first | assumption | (refine BK.alloc ?_ _) | (refine BK.drew ?_) | (refine BK.drewN ?_ _) | (refine BK.far ?_ (by first | omega | (simp; omega) | (simp; done)) _))), by exact bel_of⟩
            case measure => simp [intOf]; omega
          | false =>
            go_wp2_with fail
            go_roundw
            case rel => exact ⟨k + 1, by omega, by go_num, by rw [HR.out, show min (k + 1) s = min k s by omega, HL.out]; try simp only [if_true, Bool.false_eq_true, if_false]; exact (bo'.alloc _).alloc _, by (repeat (first | assumption | (refine BK.alloc ?_ _) | (refine BK.drew ?_) | (refine BK.drewN ?_ _) | (refine BK.far ?_ (by first | omega | (simp; omega) | (simp; done)) _))), by exact bel_of⟩
            case measure => simp [intOf]; omega
    · have hol3 : w.heap.size < wr.heap.size := by omega
      have hol4 : w.heap.size < wr.heap.size + 1 := by omega
      have hol5 : w.heap.size + 1 < wr.heap.size + 1 := by omega
      have hloB : loT l hs s own (min k s) = loB l hs s own := by
        unfold loT loB
        rw [List.take_of_length_le (by simp [los]; omega)]
      have hhiB : hiT l hs s own (k - (s + 1)) = hiB l hs s own := by
        unfold hiT hiB
        rw [List.take_of_length_le (by simp [his]; omega)]
      rw [hloB, hhiB] at bo
      clear hloB hhiB
      have hV : ∀ q, lessW ⟨(hiB l hs s own).num, (hiB l hs s own).den⟩ ⟨(loB l hs s own).num, (loB l hs s own).den⟩ = q → spanV l hs s own = if q then .tuple #[.agg #[.int .i64 0, .int .i64 0, .int .i64 0, .int .i64 0], .int .i64 22]
          else .tuple #[.agg #[.int .i64 (loB l hs s own).num, .int .i64 (loB l hs s own).den, .int .i64 (hiB l hs s own).num, .int .i64 (hiB l hs s own).den], .int .i64 0] := by
        rintro q rfl
        rfl
      have HV := Lib.hid hV; clear hV
      obtain ⟨L, hL⟩ : ∃ L, loB l hs s own = L := ⟨_, rfl⟩
      obtain ⟨H, hH⟩ : ∃ H, hiB l hs s own = H := ⟨_, rfl⟩
      rw [hL, hH] at bo HV
      clear hL hH
      obtain ⟨q, hq⟩ : ∃ q, lessW ⟨H.num, H.den⟩ ⟨L.num, L.den⟩ = q := ⟨_, rfl⟩
      have HQ := Lib.hid (HV.out q hq); clear HV
      have y0 := bo.cell 0
      have y1 := bo.cell 1
      have y2 := bo.cell 2
      have y3 := bo.cell 3
      have z0 := b1.cell 0
      have z1 := b1.cell 1
      have z2 := b1.cell 2
      have z3 := b1.cell 3
      have f0 := b1.frozen 0
      have f1 := b1.frozen 1
      have f2 := b1.frozen 2
      have f3 := b1.frozen 3
      simp at y0 y1 y2 y3 z0 z1 z2 z3
      go_wp2_with fail
      refine (refLess_any _ _ _ _ _).mono ?_
      rintro e w2 ⟨rfl, rfl⟩
      rw [hq]
      cases q with
      | true =>
        go_wp2_with fail
        have b5 := (((((b1.set 0 (.int .i64 0)).set 1 (.int .i64 0)).set 2 (.int .i64 0)).set 3 (.int .i64 0)).alloc (.cells #[.int .i64 H.num, .int .i64 H.den] 25)).alloc (.cells #[.int .i64 L.num, .int .i64 L.den] 25)
        simp at b5
        refine ret_bk (w := w) (n := w.heap.size) b5 (by exact bel_of) (v := .tuple #[.agg #[.int .i64 0, .int .i64 0, .int .i64 0, .int .i64 0], .int .i64 22]) ?_ ?_
        · intro W' hb'
          have z0 := hb'.cell 0
          have z1 := hb'.cell 1
          have z2 := hb'.cell 2
          have z3 := hb'.cell 3
          simp at z0 z1 z2 z3
          simp [results, Try.results54, go_sem, z0, z1, z2, z3]
        exact ⟨by rw [HQ.out]; rfl, by exact bel_of⟩
      | false =>
        go_wp2_with fail
        have b5 := (((((b1.set 0 (.int .i64 L.num)).set 1 (.int .i64 L.den)).set 2 (.int .i64 H.num)).set 3 (.int .i64 H.den)).alloc (.cells #[.int .i64 H.num, .int .i64 H.den] 25)).alloc (.cells #[.int .i64 L.num, .int .i64 L.den] 25)
        simp at b5
        refine ret_bk (w := w) (n := w.heap.size) b5 (by exact bel_of) (v := .tuple #[.agg #[.int .i64 L.num, .int .i64 L.den, .int .i64 H.num, .int .i64 H.den], .int .i64 0]) ?_ ?_
        · intro W' hb'
          have z0 := hb'.cell 0
          have z1 := hb'.cell 1
          have z2 := hb'.cell 2
          have z3 := hb'.cell 3
          simp at z0 z1 z2 z3
          simp [results, Try.results54, go_sem, z0, z1, z2, z3]
        exact ⟨by rw [HQ.out]; rfl, by exact bel_of⟩
end Go.Proofs.Ytbjmkmambmeifaa
