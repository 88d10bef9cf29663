/- Plain laws: what the kind of a station says. CrossKinds: the walk. CrossKinds answers true for every input: the kind of a station agrees with Can, Sure, wedges, what is ground, and each truth. No condition. -/
import Derived.Test.YtbjmkmambmeifaaP16
import Derived.Test.YtbjmkmambmeifaaP3
import Derived.Test.YtbjmkmambmeifaaP23
import Derived.Test.YtbjmkmambmeifaaP24
import Derived.Test.YtbjmkmambmeifaaP10
import Derived.Test.YtbjmkmambmeifaaRows
set_option linter.all false
set_option linter.unnecessarySimpa false
set_option linter.unusedSimpArgs false
set_option linter.unusedVariables false
set_option linter.unusedSectionVars false

namespace Go.Proofs.Ytbjmkmambmeifaa
open Go.RowKit
namespace Ma

theorem ln_mono {l : List St} {hs hs' : List Int} (hg : Gd l) (hle : ∀ i, i < l.length → Y hs i ≤ Y hs' i) {i s k : Nat} (h1 : i < s) (h2 : s < k) (h3 : k < l.length) : ln l hs i s k ≤ ln l hs' i s k := by
  rw [le_ln hg (by omega) h3, ln_mul hg (by omega) h3]
  have y1 := hg.X h1 (by omega); have y2 := hg.X h2 h3
  have d1 := Rat.mul_le_mul_of_nonneg_right (hle i (by omega)) (show 0 ≤ X l k - X l s by grind)
  have d2 := Rat.mul_le_mul_of_nonneg_right (hle k h3) (show 0 ≤ X l s - X l i by grind)
  grind
theorem spanE_iff {l : List St} {hs : List Int} {s : Nat} {own : Int} (hg : Gd l) (hh : Hb l hs) (hs1 : s < l.length) (ho : -1000 ≤ own ∧ own ≤ 1000) : spanE l hs s own = 0 ↔ ∀ i k, i < s → s < k → k < l.length → (own : Rat) ≤ ln l hs i s k := by
  rw [← meets_span hg hh hs1 ho, meets_iff hg hh hs1 ho]
theorem spanE_two (l : List St) (hs : List Int) (s : Nat) (own : Int) : spanE l hs s own = 0 ∨ spanE l hs s own = 22 := by
  unfold spanE; split <;> simp
theorem over_sign {l : List St} {hs : List Int} {s : Nat} {own : Int} (hg : Gd l) (hh : Hb l hs) (hs1 : s < l.length) (ho : -1000 ≤ own ∧ own ≤ 1000) : 0 ≤ (overR l hs s own).num ∧ ((overR l hs s own).num ≤ 0 ↔ spanE l hs s own = 0) := by
  obtain ⟨a1, a2⟩ := over_spec hg hh hs1 ho
  have z : V ⟨0, 1⟩ = 0 := by rw [V_one]; rfl
  have p0 : (0 : Rat) ≤ V (overR l hs s own) := ((a2 _).1 Rat.le_refl).1
  constructor
  · rw [← z, V_le Int.one_pos a1.den] at p0
    simpa using p0
  · have e : (overR l hs s own).num ≤ 0 ↔ V (overR l hs s own) ≤ 0 := by
      rw [← z, V_le a1.den Int.one_pos]; simp
    rw [e, a2, spanE_iff hg hh hs1 ho]
    constructor
    · rintro ⟨_, h⟩ i k b c d
      have := h i k b c d; grind
    · intro h
      refine ⟨Rat.le_refl, fun i k b c d => ?_⟩
      have := h i k b c d; grind
/-- A truth: between the ends. -/
theorem truth_le {l : List St} {t : List Int} (h : checkTruth l t = 0) {i : Nat} (hi : i < l.length) : (nthS l i).lo ≤ nthI t i ∧ nthI t i ≤ (nthS l i).hi := by
  unfold checkTruth at h
  by_cases h1 : checkPair l ≠ 0
  · rw [if_pos h1] at h; exact absurd h h1
  · rw [if_neg h1] at h
    by_cases h2 : t.length ≠ l.length
    · rw [if_pos h2] at h; exact absurd h (by decide)
    · rw [if_neg h2] at h
      by_cases h3 : ∀ k, k < l.length → inSt l t k = true
      · have := h3 i hi
        simpa [inSt, inB] using this
      · rw [if_neg h3] at h; exact absurd h (by decide)
theorem truth_pair {l : List St} {t : List Int} (h : checkTruth l t = 0) : checkPair l = 0 ∧ t.length = l.length := by
  unfold checkTruth at h
  by_cases h1 : checkPair l ≠ 0
  · rw [if_pos h1] at h; exact absurd h h1
  · rw [if_neg h1] at h
    by_cases h2 : t.length ≠ l.length
    · rw [if_pos h2] at h; exact absurd h (by decide)
    · omega
theorem truth_hb {l : List St} {t : List Int} (h : checkTruth l t = 0) : Hb l t := fun i hi => by
  have h1 := truth_le h hi; have h2 := valid_at l (truth_pair h).1 i hi; omega
theorem truth_lo {l : List St} {t : List Int} (h : checkTruth l t = 0) {i : Nat} (hi : i < l.length) : Y (ends l false) i ≤ Y t i := by
  unfold Y; rw [ends_lo l hi]; exact Rat.intCast_le_intCast.2 (truth_le h hi).1
theorem truth_hi {l : List St} {t : List Int} (h : checkTruth l t = 0) {i : Nat} (hi : i < l.length) : Y t i ≤ Y (ends l true) i := by
  unfold Y; rw [ends_hi l hi]; exact Rat.intCast_le_intCast.2 (truth_le h hi).2

/-- Whether a station is the second one of a wedge. -/
def wedAt (l : List St) (s : Nat) : Bool := (List.range s).any fun i => (List.range l.length).any fun m => decide (s < m) && isWedgeB l i s m
theorem wedAt_iff {l : List St} {s : Nat} : wedAt l s = true ↔ ∃ i m, i < s ∧ s < m ∧ m < l.length ∧ isWedgeB l i s m = true := by
  unfold wedAt
  simp only [List.any_eq_true, List.mem_range, Bool.and_eq_true, decide_eq_true_eq]
  constructor
  · rintro ⟨i, hi, m, hm, hsm, hw⟩; exact ⟨i, m, hi, hsm, hm, hw⟩
  · rintro ⟨i, m, hi, hsm, hm, hw⟩; exact ⟨i, hi, m, hm, hsm, hw⟩

theorem kinds_law {l : List St} {t : List Int} {s : Nat} (h : checkTruth l t = 0) (hs : s < l.length) :
    (kindP l s = 0 ∧ spanE l (ends l true) s (nthS l s).lo = 22 ∧ spanE l (ends l false) s (nthS l s).hi = 22 ∧ spanE l t s (nthI t s) = 22 ∧ wedAt l s = true ∧ 0 < (overR l (ends l true) s (nthS l s).lo).num ∧ 0 < (overR l (ends l false) s (nthS l s).hi).num) ∨
    (kindP l s = 2 ∧ spanE l (ends l true) s (nthS l s).lo = 0 ∧ spanE l (ends l false) s (nthS l s).hi = 0 ∧ spanE l t s (nthI t s) = 0 ∧ wedAt l s = false ∧ (overR l (ends l true) s (nthS l s).lo).num = 0 ∧ (overR l (ends l false) s (nthS l s).hi).num = 0) ∨
    (kindP l s = 1 ∧ spanE l (ends l true) s (nthS l s).lo = 0 ∧ spanE l (ends l false) s (nthS l s).hi = 22 ∧ (spanE l t s (nthI t s) = 0 ∨ spanE l t s (nthI t s) = 22) ∧ wedAt l s = false ∧ (overR l (ends l true) s (nthS l s).lo).num = 0 ∧ 0 < (overR l (ends l false) s (nthS l s).hi).num) := by
  have hv := (truth_pair h).1
  have g := gd l hv
  have ht := truth_le h hs
  have h2 := valid_at l hv s hs
  have i1 := spanE_iff g (hb l true hv) hs (lo_rng l hv hs)
  have i2 := spanE_iff g (hb l false hv) hs (hi_rng l hv hs)
  have i4 := spanE_iff g (truth_hb h) hs (own := nthI t s) (by omega)
  have o1 := over_sign g (hb l true hv) hs (lo_rng l hv hs)
  have o2 := over_sign g (hb l false hv) hs (hi_rng l hv hs)
  have tl := Rat.intCast_le_intCast.2 ht.1
  have th := Rat.intCast_le_intCast.2 ht.2
  have s24 : spanE l (ends l false) s (nthS l s).hi = 0 → spanE l t s (nthI t s) = 0 := by
    rw [i2, i4]
    intro hA i k a b c
    have := hA i k a b c
    have m := ln_mono g (fun j hj => truth_lo h hj) a b c
    exact Rat.le_trans th (Rat.le_trans this m)
  have s41 : spanE l t s (nthI t s) = 0 → spanE l (ends l true) s (nthS l s).lo = 0 := by
    rw [i1, i4]
    intro hA i k a b c
    have := hA i k a b c
    have m := ln_mono g (fun j hj => truth_hi h hj) a b c
    exact Rat.le_trans tl (Rat.le_trans this m)
  have w1 : wedAt l s = false ↔ spanE l (ends l true) s (nthS l s).lo = 0 := by
    rw [← Bool.not_eq_true, wedAt_iff, i1]
    constructor
    · intro hn i k a b c
      rw [← Rat.not_lt, ← wedge_iff l hv a b c]
      exact fun hw => hn ⟨i, k, a, b, c, hw⟩
    · rintro hA ⟨i, k, a, b, c, hw⟩
      rw [wedge_iff l hv a b c] at hw
      have := hA i k a b c
      grind
  rw [kind_eq l hv s hs]
  unfold kindR
  rcases spanE_two l (ends l true) s (nthS l s).lo with e1 | e1
  · rcases spanE_two l (ends l false) s (nthS l s).hi with e2 | e2
    · refine .inr (.inl ⟨?_, e1, e2, s24 e2, w1.2 e1, ?_, ?_⟩)
      · rw [if_neg (fun hx => hx e1), if_neg (fun hx => hx e2)]
      · have := o1.2.2 e1; omega
      · have := o2.2.2 e2; omega
    · refine .inr (.inr ⟨?_, e1, e2, spanE_two .., w1.2 e1, ?_, ?_⟩)
      · rw [if_neg (fun hx => hx e1), if_pos (by omega)]
      · have := o1.2.2 e1; omega
      · have : ¬ (overR l (ends l false) s (nthS l s).hi).num ≤ 0 := fun hx => by have := o2.2.1 hx; omega
        omega
  · have n1 : spanE l (ends l true) s (nthS l s).lo ≠ 0 := by omega
    have e4 : spanE l t s (nthI t s) = 22 := by
      rcases spanE_two l t s (nthI t s) with e | e
      · exact absurd (s41 e) n1
      · exact e
    have e2 : spanE l (ends l false) s (nthS l s).hi = 22 := by
      rcases spanE_two l (ends l false) s (nthS l s).hi with e | e
      · have := s24 e; omega
      · exact e
    refine .inl ⟨?_, e1, e2, e4, ?_, ?_, ?_⟩
    · rw [if_pos n1]
    · cases hw : wedAt l s with
      | true => rfl
      | false => exact absurd (w1.1 hw) n1
    · have : ¬ (overR l (ends l true) s (nthS l s).lo).num ≤ 0 := fun hx => n1 (o1.2.1 hx)
      omega
    · have : ¬ (overR l (ends l false) s (nthS l s).hi).num ≤ 0 := fun hx => by have := o2.2.1 hx; omega
      omega
end Ma
end Go.Proofs.Ytbjmkmambmeifaa

namespace Go.Proofs.Ytbjmkmambmeifaa
open Go.RowKit

theorem fine_all (l : List St) (vl : Value) (w : World) (h : RSt w w.heap.size vl l) :
    Calls Try.prog 37 #[vl] w fun e w' => e = .returned (.bool (fineB l)) ∧ Below w.heap.size w w' := by
  by_cases hg : 35 < l.length
  · obtain ⟨A, cap, b, off, rfl, _, _⟩ := h.cells
    have d1 : decide (35 < (l.length : Int)) = true := by simp; omega
    have HF := Lib.hid (show fineB l = false by unfold fineB; rw [checkPair, if_pos (.inr (by omega))]; rfl)
    go_enter Try.func37, Try.ntmps37
    go_wp2_with fail
    refine (great_any _ _ _ _).mono ?_
    rintro e w1 ⟨rfl, rfl⟩
    go_wp2_with fail
    go_ret
    exact ⟨by rw [HF.out]; rfl, by (repeat (first | with_reducible assumption | with_reducible exact Below.refl _ _ | (with_reducible refine Below.setCell ?_ (by first | omega | (simp; omega) | (simp; done)) _) | (with_reducible refine Below.alloc ?_ (by first | omega | (simp; omega) | (simp; done)) _) | (with_reducible refine Below.drew ?_) | (with_reducible refine belowN ?_ _) | assumption | exact Below.refl _ _ | (refine Below.alloc ?_ (by first | omega | (simp; omega) | (simp; done)) _) | (refine Below.drew ?_) | (refine belowN ?_ _) | (refine Below.setCell ?_ (by first | omega | (simp; omega) | (simp; done)) _)))⟩
  · exact fine_any l vl w (by omega) h
/-- A truth by numbers is one. -/
theorem truthR_ok {l : List St} (u : List Int) (hv : checkPair l = 0) (hu : ∀ k, k < u.length → 0 ≤ nthI u k ∧ nthI u k ≤ 65535) : checkTruth l (truthR l u) = 0 := by
  refine checkTruth_ok l _ hv (truthR_length l u) (fun k hk => ?_)
  unfold inSt
  rw [truthR_at l u k hk]
  have h := valid_at l hv k hk
  unfold truthAt
  have : 0 ≤ (if 0 < u.length then nthI u (k % u.length) % ((nthS l k).hi - (nthS l k).lo + 1) else 0) ∧ (if 0 < u.length then nthI u (k % u.length) % ((nthS l k).hi - (nthS l k).lo + 1) else 0) ≤ (nthS l k).hi - (nthS l k).lo := by
    split
    · have h1 := Int.emod_nonneg (nthI u (k % u.length)) (show (nthS l k).hi - (nthS l k).lo + 1 ≠ 0 by omega)
      have h2 := Int.emod_lt_of_pos (nthI u (k % u.length)) (show 0 < (nthS l k).hi - (nthS l k).lo + 1 by omega)
      omega
    · omega
  simp [inB]
  omega

set_option maxRecDepth 100000 in
theorem kinds_no (l : List St) (u : List Int) (st : Nat) (vl vu : Value) (w : World) (hl : fineB l = false ∨ 40 < u.length) (h : RSt w w.heap.size vl l) (h' : RU w w.heap.size vu u) :
    Calls Try.prog 7 #[vl, vu, .int .u8 st] w fun e w' => e = .returned (.bool true) ∧ Below w.heap.size w w' := by
  obtain ⟨A2, cap2, bu, offu, rfl, _, _⟩ := h'
  have hf := fine_all l vl w h
  obtain ⟨p, hp⟩ : ∃ p, fineB l = p := ⟨_, rfl⟩
  obtain ⟨q, hq⟩ : ∃ q, decide (40 < (u.length : Int)) = q := ⟨_, rfl⟩
  have ho : p = false ∨ (p = true ∧ q = true) := by
    rcases hl with hl | hl
    · exact .inl (hp.symm.trans hl)
    · cases p with
      | false => exact .inl rfl
      | true => exact .inr ⟨rfl, by rw [← hq]; simp; omega⟩
  rw [hp] at hf
  have HF := Lib.hid hf
  clear hl hf h hp
  rcases ho with rfl | ⟨rfl, rfl⟩
  all_goals
    go_enter Try.func7, Try.ntmps7
    go_wp2_with fail
    refine HF.out.mono ?_
    rintro e w1 ⟨rfl, hb0⟩
    go_wp2_with fail
    refine (works_any _).mono ?_
    rintro e w2 ⟨rfl, hb1⟩
    go_wp2_with fail
    go_ret
    exact ⟨rfl, hb0.trans (hb1.mono hb0.size)⟩

theorem kindsP_len2 {l : List St} (hv : checkPair l = 0) : (kindsP l).length = l.length := by simp [kindsP, hv]
theorem groundV_ok {l : List St} (hv : checkPair l = 0) {s : Nat} (hs : s < l.length) : groundV l s = .tuple #[.agg #[.int .i64 (overR l (ends l true) s (nthS l s).lo).num, .int .i64 (overR l (ends l true) s (nthS l s).lo).den, .int .i64 (overR l (ends l false) s (nthS l s).hi).num, .int .i64 (overR l (ends l false) s (nthS l s).hi).den], .int .i64 0] := by
  unfold groundV
  rw [if_neg (by rw [checkStation, if_neg (by simpa using hv), if_pos (by omega)]; simp), Int.toNat_natCast]
theorem tiltsV_ok {l : List St} {t : List Int} (h : checkTruth l t = 0) {s : Nat} (hs : s < l.length) : tiltsV l t s = spanV l t s (nthI t s) := by
  unfold tiltsV
  rw [if_neg (by simpa using h), if_neg (by simp; omega), Int.toNat_natCast]

set_option maxRecDepth 100000 in
set_option maxHeartbeats 8000000 in
theorem kinds_yes (l : List St) (u : List Int) (st : Nat) (vl vu : Value) (w : World) (hv : checkPair l = 0) (hl3 : l.length ≤ 35) (hu : ¬ 40 < u.length) (hst : st ≤ 255) (hub : ∀ k, k < u.length → 0 ≤ nthI u k ∧ nthI u k ≤ 65535) (h : RSt w w.heap.size vl l) (h' : RU w w.heap.size vu u) :
    Calls Try.prog 7 #[vl, vu, .int .u8 st] w fun e w' => e = .returned (.bool true) ∧ Below w.heap.size w w' := by
  have hn := checkPair_len l hv
  obtain ⟨s, hse⟩ : ∃ s, st % l.length = s := ⟨_, rfl⟩
  have hs : s < l.length := by rw [← hse]; exact Nat.mod_lt _ hn.1
  have hmod : (st : Int) % (l.length : Int) = (s : Int) := by rw [← hse]; omega
  have hF := fine_all l vl w h
  rw [show fineB l = true from decide_eq_true hv] at hF
  have hK := fun W (hb : Below w.heap.size w W) => kindsP_any l vl W (by omega) ((RS.below h hb).more hb.size)
  have hCan := fun W (hb : Below w.heap.size w W) => canP_any l s vl W (by omega) ((RS.below h hb).more hb.size)
  have hSure := fun W (hb : Below w.heap.size w W) => sureP_any l s vl W (by omega) ((RS.below h hb).more hb.size)
  have hGr := fun W (hb : Below w.heap.size w W) => groundP_any l s vl W (by omega) ((RS.below h hb).more hb.size)
  have hTr := fun W (hb : Below w.heap.size w W) => truth_any l u vl vu W hv (by omega) hub ((RS.below h hb).more hb.size) ((RS.below h' hb).more hb.size)
  have hTi := fun W v (hb : Below w.heap.size w W) (hr : RI W W.heap.size v (truthR l u)) => tilts_any l (truthR l u) s vl v W (by omega) (by rw [truthR_length]; omega) ((RS.below h hb).more hb.size) hr
  have hIW := fun W i m (hb : Below w.heap.size w W) (hi : i < l.length) (hm : m < l.length) => isWedge_any l i s m vl W hv ((RS.below h hb).more hb.size) hi hs hm
  have htv := truthR_ok u hv hub
  have law := Ma.kinds_law htv hs
  rw [canV_ok l hv s hs] at hCan
  rw [sureV_ok l hv s hs] at hSure
  simp only [groundV_ok hv hs] at hGr
  simp only [tiltsV_ok htv hs] at hTi
  obtain ⟨a1, a2, a3, a4, ha⟩ := spanV_formE l (ends l true) s (nthS l s).lo
  obtain ⟨b1, b2, b3, b4, hb⟩ := spanV_formE l (ends l false) s (nthS l s).hi
  obtain ⟨c1, c2, c3, c4, hc⟩ := spanV_formE l (truthR l u) s (nthI (truthR l u) s)
  rw [ha] at hCan
  rw [hb] at hSure
  rw [hc] at hTi
  rw [hv] at hK
  have hkl := kindsP_len2 hv
  have hka : nthI (kindsP l) s = kindP l s := by simp [kindsP, hv, nthI, hs]
  clear ha hb hc htv
  generalize kindsP l = ks at *
  generalize truthR l u = tt at *
  generalize spanE l (ends l true) s (nthS l s).lo = e1 at *
  generalize spanE l (ends l false) s (nthS l s).hi = e2 at *
  generalize spanE l tt s (nthI tt s) = e4 at *
  generalize overR l (ends l true) s (nthS l s).lo = g1 at *
  generalize overR l (ends l false) s (nthS l s).hi = g2 at *
  have HF := Lib.hid hF; have HK := Lib.hid hK; have HC := Lib.hid hCan; have HS := Lib.hid hSure; have HG := Lib.hid hGr; have HT := Lib.hid hTr; have HTI := Lib.hid hTi; have HIW := Lib.hid hIW; have HKL := Lib.hid hkl; have HKA := Lib.hid hka
  obtain ⟨A, cap, b, off, rfl, _, _⟩ := h.cells
  obtain ⟨A2, cap2, bu, offu, rfl, _, _⟩ := h'
  have d2 : decide (40 < (u.length : Int)) = false := by simp; omega
  have HSE := Lib.hid hse
  have HLAW := Lib.hid law
  clear hF hK hCan hSure hGr hTr hTi hIW hkl hka h hv hub hse law
  have hC : Below w.heap.size w w := Below.refl _ _
  go_enter Try.func7, Try.ntmps7
  go_wp2_with fail
  refine (HF.out).mono ?_
  rintro e w1 ⟨rfl, hb⟩
  have hC2 : Below w.heap.size w w1 := hC.trans (hb.mono hC.size)
  clear hC; have hC := hC2; clear hC2
  clear hb
  go_wp2_with fail
  refine (HK.out w1 hC).mono ?_
  rintro e w2 ⟨vk, rfl, hk, hb⟩
  have hC2 : Below w.heap.size w w2 := hC.trans (hb.mono hC.size)
  clear hC; have hC := hC2; clear hC2
  clear hb
  go_wp2_with fail
  refine (HC.out w2 hC).mono ?_
  rintro e w3 ⟨rfl, hb⟩
  have hC2 : Below w.heap.size w w3 := hC.trans (hb.mono hC.size)
  clear hC; have hC := hC2; clear hC2
  have hk_ := (RS.below hk hb).more hb.size; clear hk; have hk := hk_; clear hk_
  clear hb
  go_wp2_with fail
  have ba : BK (w3.alloc (.cells #[.int .i64 a1, .int .i64 a2, .int .i64 a3, .int .i64 a4] 34)) w3.heap.size #[.int .i64 a1, .int .i64 a2, .int .i64 a3, .int .i64 a4] 34 := BK.new _ _ _
  have hC2 : Below w.heap.size w (w3.alloc (.cells #[.int .i64 a1, .int .i64 a2, .int .i64 a3, .int .i64 a4] 34)) := by have := hC.size; (repeat (first | with_reducible assumption | with_reducible exact Below.refl _ _ | (with_reducible refine Below.setCell ?_ (by first | omega | (simp; omega) | (simp; done)) _) | (with_reducible refine Below.alloc ?_ (by first | omega | (simp; omega) | (simp; done)) _) | (with_reducible refine Below.drew ?_) | (with_reducible refine belowN ?_ _) | assumption | exact Below.refl _ _ | (refine Below.alloc ?_ (by first | omega | (simp; omega) | (simp; done)) _) | (refine Below.drew ?_) | (refine belowN ?_ _) | (refine Below.setCell ?_ (by first | omega | (simp; omega) | (simp; done)) _)))
  clear hC; have hC := hC2; clear hC2
  have hk_ := (RS.below hk (w' := (w3.alloc (.cells #[.int .i64 a1, .int .i64 a2, .int .i64 a3, .int .i64 a4] 34))) (by (repeat (first | with_reducible assumption | with_reducible exact Below.refl _ _ | (with_reducible refine Below.setCell ?_ (by first | omega | (simp; omega) | (simp; done)) _) | (with_reducible refine Below.alloc ?_ (by first | omega | (simp; omega) | (simp; done)) _) | (with_reducible refine Below.drew ?_) | (with_reducible refine belowN ?_ _) | assumption | exact Below.refl _ _ | (refine Below.alloc ?_ (by first | omega | (simp; omega) | (simp; done)) _) | (refine Below.drew ?_) | (refine belowN ?_ _) | (refine Below.setCell ?_ (by first | omega | (simp; omega) | (simp; done)) _))))).more (B' := (w3.alloc (.cells #[.int .i64 a1, .int .i64 a2, .int .i64 a3, .int .i64 a4] 34)).heap.size) (by simp); clear hk; have hk := hk_; clear hk_
  generalize (w3.alloc (.cells #[.int .i64 a1, .int .i64 a2, .int .i64 a3, .int .i64 a4] 34)) = Wba at *
  obtain ⟨gba, hgba⟩ : ∃ g, w3.heap.size = g := ⟨_, rfl⟩
  rw [hgba] at ba
  try rw [hgba]
  clear hgba
  refine (HS.out Wba hC).mono ?_
  rintro e w4 ⟨rfl, hb⟩
  have hC2 : Below w.heap.size w w4 := hC.trans (hb.mono hC.size)
  clear hC; have hC := hC2; clear hC2
  have hk_ := (RS.below hk hb).more hb.size; clear hk; have hk := hk_; clear hk_
  have ba_ := ba.below hb ba.lt; clear ba; have ba := ba_; clear ba_
  clear hb
  go_wp2_with fail
  have bb : BK (w4.alloc (.cells #[.int .i64 b1, .int .i64 b2, .int .i64 b3, .int .i64 b4] 34)) w4.heap.size #[.int .i64 b1, .int .i64 b2, .int .i64 b3, .int .i64 b4] 34 := BK.new _ _ _
  have hC2 : Below w.heap.size w (w4.alloc (.cells #[.int .i64 b1, .int .i64 b2, .int .i64 b3, .int .i64 b4] 34)) := by have := hC.size; (repeat (first | with_reducible assumption | with_reducible exact Below.refl _ _ | (with_reducible refine Below.setCell ?_ (by first | omega | (simp; omega) | (simp; done)) _) | (with_reducible refine Below.alloc ?_ (by first | omega | (simp; omega) | (simp; done)) _) | (with_reducible refine Below.drew ?_) | (with_reducible refine belowN ?_ _) | assumption | exact Below.refl _ _ | (refine Below.alloc ?_ (by first | omega | (simp; omega) | (simp; done)) _) | (refine Below.drew ?_) | (refine belowN ?_ _) | (refine Below.setCell ?_ (by first | omega | (simp; omega) | (simp; done)) _)))
  clear hC; have hC := hC2; clear hC2
  have hk_ := (RS.below hk (w' := (w4.alloc (.cells #[.int .i64 b1, .int .i64 b2, .int .i64 b3, .int .i64 b4] 34))) (by (repeat (first | with_reducible assumption | with_reducible exact Below.refl _ _ | (with_reducible refine Below.setCell ?_ (by first | omega | (simp; omega) | (simp; done)) _) | (with_reducible refine Below.alloc ?_ (by first | omega | (simp; omega) | (simp; done)) _) | (with_reducible refine Below.drew ?_) | (with_reducible refine belowN ?_ _) | assumption | exact Below.refl _ _ | (refine Below.alloc ?_ (by first | omega | (simp; omega) | (simp; done)) _) | (refine Below.drew ?_) | (refine belowN ?_ _) | (refine Below.setCell ?_ (by first | omega | (simp; omega) | (simp; done)) _))))).more (B' := (w4.alloc (.cells #[.int .i64 b1, .int .i64 b2, .int .i64 b3, .int .i64 b4] 34)).heap.size) (by simp); clear hk; have hk := hk_; clear hk_
  have ba_ := ba.alloc (.cells #[.int .i64 b1, .int .i64 b2, .int .i64 b3, .int .i64 b4] 34); clear ba; have ba := ba_; clear ba_
  generalize (w4.alloc (.cells #[.int .i64 b1, .int .i64 b2, .int .i64 b3, .int .i64 b4] 34)) = Wbb at *
  obtain ⟨gbb, hgbb⟩ : ∃ g, w4.heap.size = g := ⟨_, rfl⟩
  rw [hgbb] at bb
  try rw [hgbb]
  clear hgbb
  refine (HG.out Wbb hC).mono ?_
  rintro e w5 ⟨rfl, hb⟩
  have hC2 : Below w.heap.size w w5 := hC.trans (hb.mono hC.size)
  clear hC; have hC := hC2; clear hC2
  have hk_ := (RS.below hk hb).more hb.size; clear hk; have hk := hk_; clear hk_
  have ba_ := ba.below hb ba.lt; clear ba; have ba := ba_; clear ba_
  have bb_ := bb.below hb bb.lt; clear bb; have bb := bb_; clear bb_
  clear hb
  go_wp2_with fail
  have bg : BK (w5.alloc (.cells #[.int .i64 g1.num, .int .i64 g1.den, .int .i64 g2.num, .int .i64 g2.den] 34)) w5.heap.size #[.int .i64 g1.num, .int .i64 g1.den, .int .i64 g2.num, .int .i64 g2.den] 34 := BK.new _ _ _
  have hC2 : Below w.heap.size w (w5.alloc (.cells #[.int .i64 g1.num, .int .i64 g1.den, .int .i64 g2.num, .int .i64 g2.den] 34)) := by have := hC.size; (repeat (first | with_reducible assumption | with_reducible exact Below.refl _ _ | (with_reducible refine Below.setCell ?_ (by first | omega | (simp; omega) | (simp; done)) _) | (with_reducible refine Below.alloc ?_ (by first | omega | (simp; omega) | (simp; done)) _) | (with_reducible refine Below.drew ?_) | (with_reducible refine belowN ?_ _) | assumption | exact Below.refl _ _ | (refine Below.alloc ?_ (by first | omega | (simp; omega) | (simp; done)) _) | (refine Below.drew ?_) | (refine belowN ?_ _) | (refine Below.setCell ?_ (by first | omega | (simp; omega) | (simp; done)) _)))
  clear hC; have hC := hC2; clear hC2
  have hk_ := (RS.below hk (w' := (w5.alloc (.cells #[.int .i64 g1.num, .int .i64 g1.den, .int .i64 g2.num, .int .i64 g2.den] 34))) (by (repeat (first | with_reducible assumption | with_reducible exact Below.refl _ _ | (with_reducible refine Below.setCell ?_ (by first | omega | (simp; omega) | (simp; done)) _) | (with_reducible refine Below.alloc ?_ (by first | omega | (simp; omega) | (simp; done)) _) | (with_reducible refine Below.drew ?_) | (with_reducible refine belowN ?_ _) | assumption | exact Below.refl _ _ | (refine Below.alloc ?_ (by first | omega | (simp; omega) | (simp; done)) _) | (refine Below.drew ?_) | (refine belowN ?_ _) | (refine Below.setCell ?_ (by first | omega | (simp; omega) | (simp; done)) _))))).more (B' := (w5.alloc (.cells #[.int .i64 g1.num, .int .i64 g1.den, .int .i64 g2.num, .int .i64 g2.den] 34)).heap.size) (by simp); clear hk; have hk := hk_; clear hk_
  have ba_ := ba.alloc (.cells #[.int .i64 g1.num, .int .i64 g1.den, .int .i64 g2.num, .int .i64 g2.den] 34); clear ba; have ba := ba_; clear ba_
  have bb_ := bb.alloc (.cells #[.int .i64 g1.num, .int .i64 g1.den, .int .i64 g2.num, .int .i64 g2.den] 34); clear bb; have bb := bb_; clear bb_
  generalize (w5.alloc (.cells #[.int .i64 g1.num, .int .i64 g1.den, .int .i64 g2.num, .int .i64 g2.den] 34)) = Wbg at *
  obtain ⟨gbg, hgbg⟩ : ∃ g, w5.heap.size = g := ⟨_, rfl⟩
  rw [hgbg] at bg
  try rw [hgbg]
  clear hgbg
  refine (HT.out Wbg hC).mono ?_
  rintro e w6 ⟨vt, rfl, ht, hb⟩
  have hC2 : Below w.heap.size w w6 := hC.trans (hb.mono hC.size)
  clear hC; have hC := hC2; clear hC2
  have hk_ := (RS.below hk hb).more hb.size; clear hk; have hk := hk_; clear hk_
  have ba_ := ba.below hb ba.lt; clear ba; have ba := ba_; clear ba_
  have bb_ := bb.below hb bb.lt; clear bb; have bb := bb_; clear bb_
  have bg_ := bg.below hb bg.lt; clear bg; have bg := bg_; clear bg_
  clear hb
  go_wp2_with fail
  refine (HTI.out w6 vt hC ht).mono ?_
  rintro e w7 ⟨rfl, hb⟩
  have hC2 : Below w.heap.size w w7 := hC.trans (hb.mono hC.size)
  clear hC; have hC := hC2; clear hC2
  have hk_ := (RS.below hk hb).more hb.size; clear hk; have hk := hk_; clear hk_
  have ba_ := ba.below hb ba.lt; clear ba; have ba := ba_; clear ba_
  have bb_ := bb.below hb bb.lt; clear bb; have bb := bb_; clear bb_
  have bg_ := bg.below hb bg.lt; clear bg; have bg := bg_; clear bg_
  have ht_ := (RS.below ht hb).more hb.size; clear ht; have ht := ht_; clear ht_
  clear hb
  obtain ⟨A3, cap3, b3_, off3, hvk, hA3, hck⟩ := RI.cells hk
  rw [HKL.out] at hvk hA3
  obtain ⟨rfl, hb3⟩ := hA3 (by omega)
  subst hvk
  have hck := hck s (by rw [HKL.out]; exact hs)
  rw [HKA.out] at hck
  have HW : ∃ kv : Int, ∃ wd : Bool, Ma.wedAt l s = wd ∧ kindP l s = kv ∧ ((kv = 0 ∧ e1 = 22 ∧ e2 = 22 ∧ e4 = 22 ∧ wd = true ∧ decide (0 < g1.num) = true ∧ (g2.num == 0) = false) ∨ (kv = 2 ∧ e1 = 0 ∧ e2 = 0 ∧ e4 = 0 ∧ wd = false ∧ decide (0 < g1.num) = false ∧ (g2.num == 0) = true) ∨
      (kv = 1 ∧ e1 = 0 ∧ e2 = 22 ∧ e4 = 0 ∧ wd = false ∧ decide (0 < g1.num) = false ∧ (g2.num == 0) = false) ∨ (kv = 1 ∧ e1 = 0 ∧ e2 = 22 ∧ e4 = 22 ∧ wd = false ∧ decide (0 < g1.num) = false ∧ (g2.num == 0) = false)) := by
    refine ⟨_, _, rfl, rfl, ?_⟩
    rcases HLAW.out with ⟨h1, h2, h3, h4, h5, h6, h7⟩ | ⟨h1, h2, h3, h4, h5, h6, h7⟩ | ⟨h1, h2, h3, h4, h5, h6, h7⟩
    · exact .inl ⟨h1, h2, h3, h4, h5, by simpa using h6, by simp; omega⟩
    · exact .inr (.inl ⟨h1, h2, h3, h4, h5, by simp [h6], by simp [h7]⟩)
    · rcases h4 with h4 | h4
      · exact .inr (.inr (.inl ⟨h1, h2, h3, h4, h5, by simp [h6], by simp; omega⟩))
      · exact .inr (.inr (.inr ⟨h1, h2, h3, h4, h5, by simp [h6], by simp; omega⟩))
  obtain ⟨kv, wd, hwd, hkv, HW⟩ := HW
  rw [hkv] at hck
  have HWD := Lib.hid hwd
  clear hA3 hk ht hwd hkv HLAW HKL HKA HF HK HC HS HG HT HTI
  generalize g1.num = n1 at *
  generalize g1.den = m1 at *
  generalize g2.num = n2 at *
  generalize g2.den = m2 at *
  have hsn : ((l.length : Int) != (l.length : Int)) = false := by simp
  rcases HW with ⟨rfl, rfl, rfl, rfl, rfl, k1, k2⟩ | ⟨rfl, rfl, rfl, rfl, rfl, k1, k2⟩ | ⟨rfl, rfl, rfl, rfl, rfl, k1, k2⟩ | ⟨rfl, rfl, rfl, rfl, rfl, k1, k2⟩
  · skip
    go_wp2_with fail
    have hckB : (w7.alloc (.cells #[.int .i64 c1, .int .i64 c2, .int .i64 c3, .int .i64 c4] 34)).cell? ⟨b3_, off3 + s, none⟩ = w7.cell? ⟨b3_, off3 + s, none⟩ := (Below.alloc (Below.refl w7.heap.size w7) (Nat.le_refl _) _).cell (by exact hb3)
    rw [hck] at hckB
    have hsz : w7.heap.size ≤ (w7.alloc (.cells #[.int .i64 c1, .int .i64 c2, .int .i64 c3, .int .i64 c4] 34)).heap.size := by simp
    have bc : BK (w7.alloc (.cells #[.int .i64 c1, .int .i64 c2, .int .i64 c3, .int .i64 c4] 34)) w7.heap.size #[.int .i64 c1, .int .i64 c2, .int .i64 c3, .int .i64 c4] 34 := BK.new _ _ _
    have hC2 : Below w.heap.size w (w7.alloc (.cells #[.int .i64 c1, .int .i64 c2, .int .i64 c3, .int .i64 c4] 34)) := by have := hC.size; (repeat (first | with_reducible assumption | with_reducible exact Below.refl _ _ | (with_reducible refine Below.setCell ?_ (by first | omega | (simp; omega) | (simp; done)) _) | (with_reducible refine Below.alloc ?_ (by first | omega | (simp; omega) | (simp; done)) _) | (with_reducible refine Below.drew ?_) | (with_reducible refine belowN ?_ _) | assumption | exact Below.refl _ _ | (refine Below.alloc ?_ (by first | omega | (simp; omega) | (simp; done)) _) | (refine Below.drew ?_) | (refine belowN ?_ _) | (refine Below.setCell ?_ (by first | omega | (simp; omega) | (simp; done)) _)))
    clear hC; have hC := hC2; clear hC2
    have ba_ := ba.alloc (.cells #[.int .i64 c1, .int .i64 c2, .int .i64 c3, .int .i64 c4] 34); clear ba; have ba := ba_; clear ba_
    have bb_ := bb.alloc (.cells #[.int .i64 c1, .int .i64 c2, .int .i64 c3, .int .i64 c4] 34); clear bb; have bb := bb_; clear bb_
    have bg_ := bg.alloc (.cells #[.int .i64 c1, .int .i64 c2, .int .i64 c3, .int .i64 c4] 34); clear bg; have bg := bg_; clear bg_
    generalize (w7.alloc (.cells #[.int .i64 c1, .int .i64 c2, .int .i64 c3, .int .i64 c4] 34)) = Wbc at *
    obtain ⟨gbc, hgbc⟩ : ∃ g, w7.heap.size = g := ⟨_, rfl⟩
    rw [hgbc] at bc
    try rw [hgbc]
    clear hgbc
    go_loopw [18, 19] (fun wv iv wr => ∃ i : Nat, i ≤ s ∧ iv = .int .i64 i ∧ wv = .bool ((List.range i).any fun i => (List.range l.length).any fun m => decide (s < m) && isWedgeB l i s m) ∧ Below Wbc.heap.size Wbc wr) (fun _ i _ => s - (intOf i).toNat)
    case atStart => exact ⟨0, Nat.zero_le _, rfl, by simp, Below.refl _ _⟩
    case round =>
      obtain ⟨i, hi, rfl, rfl, hbr⟩ := hrel
      by_cases his : i < s
      · obtain ⟨acc, hacc⟩ : ∃ acc, ((List.range i).any fun i => (List.range l.length).any fun m => decide (s < m) && isWedgeB l i s m) = acc := ⟨_, rfl⟩
        have hsucc : ((List.range (i + 1)).any fun i => (List.range l.length).any fun m => decide (s < m) && isWedgeB l i s m) = (acc || (List.range l.length).any fun m => decide (s < m) && isWedgeB l i s m) := by
          rw [List.range_succ, List.any_append, hacc]; simp
        rw [hacc]
        have HSUCC := Lib.hid hsucc
        clear hacc hsucc
        go_wp2_with fail
        go_loopw [18, 20] (fun wv mv wi => ∃ m : Nat, s + 1 ≤ m ∧ m ≤ l.length ∧ mv = .int .i64 m ∧ wv = .bool (acc || (List.range m).any fun m => decide (s < m) && isWedgeB l i s m) ∧ Below wr.heap.size wr wi) (fun _ m _ => l.length - (intOf m).toNat)
        case atStart =>
          refine ⟨s + 1, Nat.le_refl _, by omega, by go_num, ?_, Below.refl _ _⟩
          have : ((List.range (s + 1)).any fun m => decide (s < m) && isWedgeB l i s m) = false := by
            rw [List.any_eq_false]
            intro m hm
            have := List.mem_range.1 hm
            simp; omega
          rw [this]; simp
        case round =>
          obtain ⟨m, hm0, hm, rfl, rfl, hbi⟩ := hrel
          by_cases hml : m < l.length
          · obtain ⟨a2, ha2⟩ : ∃ a2, (acc || (List.range m).any fun m => decide (s < m) && isWedgeB l i s m) = a2 := ⟨_, rfl⟩
            obtain ⟨p, hp⟩ : ∃ p, isWedgeB l i s m = p := ⟨_, rfl⟩
            have hs2 : (acc || (List.range (m + 1)).any fun m => decide (s < m) && isWedgeB l i s m) = (a2 || p) := by
              rw [← ha2, ← hp, List.range_succ, List.any_append, Bool.or_assoc]; simp [show s < m by omega]
            have hbw : Below w.heap.size w wr := hC.trans ((hbr.trans (hbi.mono hbr.size)).mono hC.size)
            have hcall := HIW.out wr i m hbw (by omega) hml
            rw [ha2]
            rw [hp] at hcall
            have HS2 := Lib.hid hs2; have HCALL := Lib.hid hcall
            clear hs2 hcall ha2 hp
            cases a2 with
            | true =>
              go_wp2_with fail
              go_roundw
              case rel => exact ⟨m + 1, by omega, by omega, by go_num, by rw [HS2.out]; rfl, hbi⟩
              case measure => simp [intOf]; omega
            | false =>
              go_wp2_with fail
              refine HCALL.out.mono ?_
              rintro e w9 ⟨rfl, hb9⟩
              go_wp2_with fail
              go_roundw
              case rel => exact ⟨m + 1, by omega, by omega, by go_num, by rw [HS2.out]; rfl, hbi.trans (hb9.mono hbi.size)⟩
              case measure => simp [intOf]; omega
          · have hme : m = l.length := by omega
            rw [hme, ← HSUCC.out]
            clear HSUCC
            go_wp2_with fail
            go_roundw
            case rel => exact ⟨i + 1, by omega, by go_num, rfl, hbr.trans (hbi.mono hbr.size)⟩
            case measure => simp [intOf]; omega
      · have hie : i = s := by omega
        rw [hie, show ((List.range s).any fun i => (List.range l.length).any fun m => decide (s < m) && isWedgeB l i s m) = _ from HWD.out]
        have hWx : Below w.heap.size w wr := hC.trans (hbr.mono hC.size)
        have hgx := bg.below hbr bg.lt
        have hb3x : b3_ < Wbc.heap.size := Nat.lt_of_lt_of_le hb3 hsz
        have hck2 : wr.cell? ⟨b3_, off3 + s, none⟩ = Wbc.cell? ⟨b3_, off3 + s, none⟩ := hbr.cell (by exact hb3x)
        rw [hckB] at hck2
        have lb3 : b3_ < wr.heap.size := Nat.lt_of_lt_of_le hb3x hbr.size
        have lbg := hgx.lt
        have bgc0 := hgx.cell 0
        have bgc2 := hgx.cell 2
        simp at bgc0 bgc2
        go_wp2_with fail
        refine wp_region_noPanic (plain_any [0, 1, 2, 3, 4, 5, 6, 7, 8, 9] (Below wr.heap.size wr) mixed ?_)
        (refine any_take 0 ?_ (by rfl) (by kernel_rfl) (fun _ _ _ _ _ hx => hx.elim) (.inl ⟨by rfl, ?_⟩) (by (repeat (first | with_reducible assumption | with_reducible exact Below.refl _ _ | (with_reducible refine Below.setCell ?_ (by first | omega | (simp; omega) | (simp; done)) _) | (with_reducible refine Below.alloc ?_ (by first | omega | (simp; omega) | (simp; done)) _) | (with_reducible refine Below.drew ?_) | (with_reducible refine belowN ?_ _) | assumption | exact Below.refl _ _ | (refine Below.alloc ?_ (by first | omega | (simp; omega) | (simp; done)) _) | (refine Below.drew ?_) | (refine belowN ?_ _) | (refine Below.setCell ?_ (by first | omega | (simp; omega) | (simp; done)) _)))) ?_; rotate_left; (intro X hX; obtain ⟨r1, r2⟩ := Below.rules hX; clear hX; go_simp; rfl); simp only [List.getElem_toArray, List.getElem_cons_succ, List.getElem_cons_zero, Act.put, List.setIfInBounds_toArray, List.set_cons_succ, List.set_cons_zero])
        (refine any_take 1 ?_ (by rfl) (by kernel_rfl) (fun _ _ _ _ _ hx => hx.elim) (.inl ⟨by rfl, ?_⟩) (by (repeat (first | with_reducible assumption | with_reducible exact Below.refl _ _ | (with_reducible refine Below.setCell ?_ (by first | omega | (simp; omega) | (simp; done)) _) | (with_reducible refine Below.alloc ?_ (by first | omega | (simp; omega) | (simp; done)) _) | (with_reducible refine Below.drew ?_) | (with_reducible refine belowN ?_ _) | assumption | exact Below.refl _ _ | (refine Below.alloc ?_ (by first | omega | (simp; omega) | (simp; done)) _) | (refine Below.drew ?_) | (refine belowN ?_ _) | (refine Below.setCell ?_ (by first | omega | (simp; omega) | (simp; done)) _)))) ?_; rotate_left; (intro X hX; obtain ⟨r1, r2⟩ := Below.rules hX; clear hX; go_simp; rfl); simp only [List.getElem_toArray, List.getElem_cons_succ, List.getElem_cons_zero, Act.put, List.setIfInBounds_toArray, List.set_cons_succ, List.set_cons_zero])
        (refine any_take 2 ?_ (by rfl) (by kernel_rfl) (fun _ _ _ _ _ hx => hx.elim) (.inl ⟨by rfl, ?_⟩) (by (repeat (first | with_reducible assumption | with_reducible exact Below.refl _ _ | (with_reducible refine Below.setCell ?_ (by first | omega | (simp; omega) | (simp; done)) _) | (with_reducible refine Below.alloc ?_ (by first | omega | (simp; omega) | (simp; done)) _) | (with_reducible refine Below.drew ?_) | (with_reducible refine belowN ?_ _) | assumption | exact Below.refl _ _ | (refine Below.alloc ?_ (by first | omega | (simp; omega) | (simp; done)) _) | (refine Below.drew ?_) | (refine belowN ?_ _) | (refine Below.setCell ?_ (by first | omega | (simp; omega) | (simp; done)) _)))) ?_; rotate_left; (intro X hX; obtain ⟨r1, r2⟩ := Below.rules hX; clear hX; go_simp; rfl); simp only [List.getElem_toArray, List.getElem_cons_succ, List.getElem_cons_zero, Act.put, List.setIfInBounds_toArray, List.set_cons_succ, List.set_cons_zero])
        (refine any_take 3 ?_ (by rfl) (by kernel_rfl) (fun _ _ _ _ _ hx => hx.elim) (.inl ⟨by rfl, ?_⟩) (by (repeat (first | with_reducible assumption | with_reducible exact Below.refl _ _ | (with_reducible refine Below.setCell ?_ (by first | omega | (simp; omega) | (simp; done)) _) | (with_reducible refine Below.alloc ?_ (by first | omega | (simp; omega) | (simp; done)) _) | (with_reducible refine Below.drew ?_) | (with_reducible refine belowN ?_ _) | assumption | exact Below.refl _ _ | (refine Below.alloc ?_ (by first | omega | (simp; omega) | (simp; done)) _) | (refine Below.drew ?_) | (refine belowN ?_ _) | (refine Below.setCell ?_ (by first | omega | (simp; omega) | (simp; done)) _)))) ?_; rotate_left; (intro X hX; obtain ⟨r1, r2⟩ := Below.rules hX; clear hX; go_simp; rfl); simp only [List.getElem_toArray, List.getElem_cons_succ, List.getElem_cons_zero, Act.put, List.setIfInBounds_toArray, List.set_cons_succ, List.set_cons_zero])
        (refine any_take 4 ?_ (by rfl) (by kernel_rfl) (fun _ _ _ _ _ hx => hx.elim) (.inl ⟨by rfl, ?_⟩) (by (repeat (first | with_reducible assumption | with_reducible exact Below.refl _ _ | (with_reducible refine Below.setCell ?_ (by first | omega | (simp; omega) | (simp; done)) _) | (with_reducible refine Below.alloc ?_ (by first | omega | (simp; omega) | (simp; done)) _) | (with_reducible refine Below.drew ?_) | (with_reducible refine belowN ?_ _) | assumption | exact Below.refl _ _ | (refine Below.alloc ?_ (by first | omega | (simp; omega) | (simp; done)) _) | (refine Below.drew ?_) | (refine belowN ?_ _) | (refine Below.setCell ?_ (by first | omega | (simp; omega) | (simp; done)) _)))) ?_; rotate_left; (intro X hX; obtain ⟨r1, r2⟩ := Below.rules hX; clear hX; go_simp; rfl); simp only [List.getElem_toArray, List.getElem_cons_succ, List.getElem_cons_zero, Act.put, List.setIfInBounds_toArray, List.set_cons_succ, List.set_cons_zero])
        (refine any_take 5 ?_ (by rfl) (by kernel_rfl) (fun _ _ _ _ _ hx => hx.elim) (.inl ⟨by rfl, ?_⟩) (by (repeat (first | with_reducible assumption | with_reducible exact Below.refl _ _ | (with_reducible refine Below.setCell ?_ (by first | omega | (simp; omega) | (simp; done)) _) | (with_reducible refine Below.alloc ?_ (by first | omega | (simp; omega) | (simp; done)) _) | (with_reducible refine Below.drew ?_) | (with_reducible refine belowN ?_ _) | assumption | exact Below.refl _ _ | (refine Below.alloc ?_ (by first | omega | (simp; omega) | (simp; done)) _) | (refine Below.drew ?_) | (refine belowN ?_ _) | (refine Below.setCell ?_ (by first | omega | (simp; omega) | (simp; done)) _)))) ?_; rotate_left; (intro X hX; obtain ⟨r1, r2⟩ := Below.rules hX; clear hX; go_simp; rfl); simp only [List.getElem_toArray, List.getElem_cons_succ, List.getElem_cons_zero, Act.put, List.setIfInBounds_toArray, List.set_cons_succ, List.set_cons_zero])
        (refine any_take 6 ?_ (by rfl) (by kernel_rfl) (fun _ _ _ _ _ hx => hx.elim) (.inl ⟨by rfl, ?_⟩) (by (repeat (first | with_reducible assumption | with_reducible exact Below.refl _ _ | (with_reducible refine Below.setCell ?_ (by first | omega | (simp; omega) | (simp; done)) _) | (with_reducible refine Below.alloc ?_ (by first | omega | (simp; omega) | (simp; done)) _) | (with_reducible refine Below.drew ?_) | (with_reducible refine belowN ?_ _) | assumption | exact Below.refl _ _ | (refine Below.alloc ?_ (by first | omega | (simp; omega) | (simp; done)) _) | (refine Below.drew ?_) | (refine belowN ?_ _) | (refine Below.setCell ?_ (by first | omega | (simp; omega) | (simp; done)) _)))) ?_; rotate_left; (intro X hX; obtain ⟨r1, r2⟩ := Below.rules hX; clear hX; go_simp; rfl); simp only [List.getElem_toArray, List.getElem_cons_succ, List.getElem_cons_zero, Act.put, List.setIfInBounds_toArray, List.set_cons_succ, List.set_cons_zero])
        (refine any_take 7 ?_ (by rfl) (by kernel_rfl) (fun _ _ _ _ _ hx => hx.elim) (.inl ⟨by rfl, ?_⟩) (by (repeat (first | with_reducible assumption | with_reducible exact Below.refl _ _ | (with_reducible refine Below.setCell ?_ (by first | omega | (simp; omega) | (simp; done)) _) | (with_reducible refine Below.alloc ?_ (by first | omega | (simp; omega) | (simp; done)) _) | (with_reducible refine Below.drew ?_) | (with_reducible refine belowN ?_ _) | assumption | exact Below.refl _ _ | (refine Below.alloc ?_ (by first | omega | (simp; omega) | (simp; done)) _) | (refine Below.drew ?_) | (refine belowN ?_ _) | (refine Below.setCell ?_ (by first | omega | (simp; omega) | (simp; done)) _)))) ?_; rotate_left; (intro X hX; obtain ⟨r1, r2⟩ := Below.rules hX; clear hX; go_simp; rfl); simp only [List.getElem_toArray, List.getElem_cons_succ, List.getElem_cons_zero, Act.put, List.setIfInBounds_toArray, List.set_cons_succ, List.set_cons_zero])
        (refine any_take 8 ?_ (by rfl) (by kernel_rfl) (fun _ _ _ _ _ hx => hx.elim) (.inl ⟨by rfl, ?_⟩) (by (repeat (first | with_reducible assumption | with_reducible exact Below.refl _ _ | (with_reducible refine Below.setCell ?_ (by first | omega | (simp; omega) | (simp; done)) _) | (with_reducible refine Below.alloc ?_ (by first | omega | (simp; omega) | (simp; done)) _) | (with_reducible refine Below.drew ?_) | (with_reducible refine belowN ?_ _) | assumption | exact Below.refl _ _ | (refine Below.alloc ?_ (by first | omega | (simp; omega) | (simp; done)) _) | (refine Below.drew ?_) | (refine belowN ?_ _) | (refine Below.setCell ?_ (by first | omega | (simp; omega) | (simp; done)) _)))) ?_; rotate_left; (intro X hX; obtain ⟨r1, r2⟩ := Below.rules hX; clear hX; go_simp; rfl); simp only [List.getElem_toArray, List.getElem_cons_succ, List.getElem_cons_zero, Act.put, List.setIfInBounds_toArray, List.set_cons_succ, List.set_cons_zero])
        (refine any_take 9 ?_ (by rfl) (by kernel_rfl) (fun _ _ _ _ _ hx => hx.elim) (.inl ⟨by rfl, ?_⟩) (by (repeat (first | with_reducible assumption | with_reducible exact Below.refl _ _ | (with_reducible refine Below.setCell ?_ (by first | omega | (simp; omega) | (simp; done)) _) | (with_reducible refine Below.alloc ?_ (by first | omega | (simp; omega) | (simp; done)) _) | (with_reducible refine Below.drew ?_) | (with_reducible refine belowN ?_ _) | assumption | exact Below.refl _ _ | (refine Below.alloc ?_ (by first | omega | (simp; omega) | (simp; done)) _) | (refine Below.drew ?_) | (refine belowN ?_ _) | (refine Below.setCell ?_ (by first | omega | (simp; omega) | (simp; done)) _)))) ?_; rotate_left; (intro X hX; obtain ⟨r1, r2⟩ := Below.rules hX; clear hX; go_simp; rfl); simp only [List.getElem_toArray, List.getElem_cons_succ, List.getElem_cons_zero, Act.put, List.setIfInBounds_toArray, List.set_cons_succ, List.set_cons_zero])
        have d0z : Below wr.heap.size wr wr.drew := by (repeat (first | with_reducible assumption | with_reducible exact Below.refl _ _ | (with_reducible refine Below.setCell ?_ (by first | omega | (simp; omega) | (simp; done)) _) | (with_reducible refine Below.alloc ?_ (by first | omega | (simp; omega) | (simp; done)) _) | (with_reducible refine Below.drew ?_) | (with_reducible refine belowN ?_ _) | assumption | exact Below.refl _ _ | (refine Below.alloc ?_ (by first | omega | (simp; omega) | (simp; done)) _) | (refine Below.drew ?_) | (refine belowN ?_ _) | (refine Below.setCell ?_ (by first | omega | (simp; omega) | (simp; done)) _)))
        refine any_run1 (i := 10) (by kernel_rfl) (by rfl) (by kernel_rfl) ?_
        intro K hK
        go_wp2_with fail
        refine hK _ _ (fun _ => d0z) ?_
        clear hK K
        refine any_run1 (i := 11) (by kernel_rfl) (by rfl) (by kernel_rfl) ?_
        intro K hK
        go_wp2_with fail
        refine hK _ _ (fun _ => d0z) ?_
        clear hK K
        refine any_done (by kernel_rfl) (NoPanic.normal ?_)
        go_wp2_with fail
        refine (works_any _).mono ?_
        rintro e wz ⟨rfl, hb⟩
        have hZ : Below Wbc.heap.size Wbc wz := (hbr.trans (d0z.mono hbr.size)).trans (hb.mono (hbr.trans (d0z.mono hbr.size)).size)
        go_wp2_with fail
        go_ret
        exact ⟨rfl, hC.trans (hZ.mono hC.size)⟩
  · skip
    go_wp2_with fail
    have hckB : (w7.alloc (.cells #[.int .i64 c1, .int .i64 c2, .int .i64 c3, .int .i64 c4] 34)).cell? ⟨b3_, off3 + s, none⟩ = w7.cell? ⟨b3_, off3 + s, none⟩ := (Below.alloc (Below.refl w7.heap.size w7) (Nat.le_refl _) _).cell (by exact hb3)
    rw [hck] at hckB
    have hsz : w7.heap.size ≤ (w7.alloc (.cells #[.int .i64 c1, .int .i64 c2, .int .i64 c3, .int .i64 c4] 34)).heap.size := by simp
    have bc : BK (w7.alloc (.cells #[.int .i64 c1, .int .i64 c2, .int .i64 c3, .int .i64 c4] 34)) w7.heap.size #[.int .i64 c1, .int .i64 c2, .int .i64 c3, .int .i64 c4] 34 := BK.new _ _ _
    have hC2 : Below w.heap.size w (w7.alloc (.cells #[.int .i64 c1, .int .i64 c2, .int .i64 c3, .int .i64 c4] 34)) := by have := hC.size; (repeat (first | with_reducible assumption | with_reducible exact Below.refl _ _ | (with_reducible refine Below.setCell ?_ (by first | omega | (simp; omega) | (simp; done)) _) | (with_reducible refine Below.alloc ?_ (by first | omega | (simp; omega) | (simp; done)) _) | (with_reducible refine Below.drew ?_) | (with_reducible refine belowN ?_ _) | assumption | exact Below.refl _ _ | (refine Below.alloc ?_ (by first | omega | (simp; omega) | (simp; done)) _) | (refine Below.drew ?_) | (refine belowN ?_ _) | (refine Below.setCell ?_ (by first | omega | (simp; omega) | (simp; done)) _)))
    clear hC; have hC := hC2; clear hC2
    have ba_ := ba.alloc (.cells #[.int .i64 c1, .int .i64 c2, .int .i64 c3, .int .i64 c4] 34); clear ba; have ba := ba_; clear ba_
    have bb_ := bb.alloc (.cells #[.int .i64 c1, .int .i64 c2, .int .i64 c3, .int .i64 c4] 34); clear bb; have bb := bb_; clear bb_
    have bg_ := bg.alloc (.cells #[.int .i64 c1, .int .i64 c2, .int .i64 c3, .int .i64 c4] 34); clear bg; have bg := bg_; clear bg_
    generalize (w7.alloc (.cells #[.int .i64 c1, .int .i64 c2, .int .i64 c3, .int .i64 c4] 34)) = Wbc at *
    obtain ⟨gbc, hgbc⟩ : ∃ g, w7.heap.size = g := ⟨_, rfl⟩
    rw [hgbc] at bc
    try rw [hgbc]
    clear hgbc
    go_loopw [18, 19] (fun wv iv wr => ∃ i : Nat, i ≤ s ∧ iv = .int .i64 i ∧ wv = .bool ((List.range i).any fun i => (List.range l.length).any fun m => decide (s < m) && isWedgeB l i s m) ∧ Below Wbc.heap.size Wbc wr) (fun _ i _ => s - (intOf i).toNat)
    case atStart => exact ⟨0, Nat.zero_le _, rfl, by simp, Below.refl _ _⟩
    case round =>
      obtain ⟨i, hi, rfl, rfl, hbr⟩ := hrel
      by_cases his : i < s
      · obtain ⟨acc, hacc⟩ : ∃ acc, ((List.range i).any fun i => (List.range l.length).any fun m => decide (s < m) && isWedgeB l i s m) = acc := ⟨_, rfl⟩
        have hsucc : ((List.range (i + 1)).any fun i => (List.range l.length).any fun m => decide (s < m) && isWedgeB l i s m) = (acc || (List.range l.length).any fun m => decide (s < m) && isWedgeB l i s m) := by
          rw [List.range_succ, List.any_append, hacc]; simp
        rw [hacc]
        have HSUCC := Lib.hid hsucc
        clear hacc hsucc
        go_wp2_with fail
        go_loopw [18, 20] (fun wv mv wi => ∃ m : Nat, s + 1 ≤ m ∧ m ≤ l.length ∧ mv = .int .i64 m ∧ wv = .bool (acc || (List.range m).any fun m => decide (s < m) && isWedgeB l i s m) ∧ Below wr.heap.size wr wi) (fun _ m _ => l.length - (intOf m).toNat)
        case atStart =>
          refine ⟨s + 1, Nat.le_refl _, by omega, by go_num, ?_, Below.refl _ _⟩
          have : ((List.range (s + 1)).any fun m => decide (s < m) && isWedgeB l i s m) = false := by
            rw [List.any_eq_false]
            intro m hm
            have := List.mem_range.1 hm
            simp; omega
          rw [this]; simp
        case round =>
          obtain ⟨m, hm0, hm, rfl, rfl, hbi⟩ := hrel
          by_cases hml : m < l.length
          · obtain ⟨a2, ha2⟩ : ∃ a2, (acc || (List.range m).any fun m => decide (s < m) && isWedgeB l i s m) = a2 := ⟨_, rfl⟩
            obtain ⟨p, hp⟩ : ∃ p, isWedgeB l i s m = p := ⟨_, rfl⟩
            have hs2 : (acc || (List.range (m + 1)).any fun m => decide (s < m) && isWedgeB l i s m) = (a2 || p) := by
              rw [← ha2, ← hp, List.range_succ, List.any_append, Bool.or_assoc]; simp [show s < m by omega]
            have hbw : Below w.heap.size w wr := hC.trans ((hbr.trans (hbi.mono hbr.size)).mono hC.size)
            have hcall := HIW.out wr i m hbw (by omega) hml
            rw [ha2]
            rw [hp] at hcall
            have HS2 := Lib.hid hs2; have HCALL := Lib.hid hcall
            clear hs2 hcall ha2 hp
            cases a2 with
            | true =>
              go_wp2_with fail
              go_roundw
              case rel => exact ⟨m + 1, by omega, by omega, by go_num, by rw [HS2.out]; rfl, hbi⟩
              case measure => simp [intOf]; omega
            | false =>
              go_wp2_with fail
              refine HCALL.out.mono ?_
              rintro e w9 ⟨rfl, hb9⟩
              go_wp2_with fail
              go_roundw
              case rel => exact ⟨m + 1, by omega, by omega, by go_num, by rw [HS2.out]; rfl, hbi.trans (hb9.mono hbi.size)⟩
              case measure => simp [intOf]; omega
          · have hme : m = l.length := by omega
            rw [hme, ← HSUCC.out]
            clear HSUCC
            go_wp2_with fail
            go_roundw
            case rel => exact ⟨i + 1, by omega, by go_num, rfl, hbr.trans (hbi.mono hbr.size)⟩
            case measure => simp [intOf]; omega
      · have hie : i = s := by omega
        rw [hie, show ((List.range s).any fun i => (List.range l.length).any fun m => decide (s < m) && isWedgeB l i s m) = _ from HWD.out]
        have hWx : Below w.heap.size w wr := hC.trans (hbr.mono hC.size)
        have hgx := bg.below hbr bg.lt
        have hb3x : b3_ < Wbc.heap.size := Nat.lt_of_lt_of_le hb3 hsz
        have hck2 : wr.cell? ⟨b3_, off3 + s, none⟩ = Wbc.cell? ⟨b3_, off3 + s, none⟩ := hbr.cell (by exact hb3x)
        rw [hckB] at hck2
        have lb3 : b3_ < wr.heap.size := Nat.lt_of_lt_of_le hb3x hbr.size
        have lbg := hgx.lt
        have bgc0 := hgx.cell 0
        have bgc2 := hgx.cell 2
        simp at bgc0 bgc2
        go_wp2_with fail
        refine wp_region_noPanic (plain_any [0, 1, 2, 3, 4, 5, 6, 7, 8, 9] (Below wr.heap.size wr) mixed ?_)
        (refine any_take 0 ?_ (by rfl) (by kernel_rfl) (fun _ _ _ _ _ hx => hx.elim) (.inl ⟨by rfl, ?_⟩) (by (repeat (first | with_reducible assumption | with_reducible exact Below.refl _ _ | (with_reducible refine Below.setCell ?_ (by first | omega | (simp; omega) | (simp; done)) _) | (with_reducible refine Below.alloc ?_ (by first | omega | (simp; omega) | (simp; done)) _) | (with_reducible refine Below.drew ?_) | (with_reducible refine belowN ?_ _) | assumption | exact Below.refl _ _ | (refine Below.alloc ?_ (by first | omega | (simp; omega) | (simp; done)) _) | (refine Below.drew ?_) | (refine belowN ?_ _) | (refine Below.setCell ?_ (by first | omega | (simp; omega) | (simp; done)) _)))) ?_; rotate_left; (intro X hX; obtain ⟨r1, r2⟩ := Below.rules hX; clear hX; go_simp; rfl); simp only [List.getElem_toArray, List.getElem_cons_succ, List.getElem_cons_zero, Act.put, List.setIfInBounds_toArray, List.set_cons_succ, List.set_cons_zero])
        (refine any_take 1 ?_ (by rfl) (by kernel_rfl) (fun _ _ _ _ _ hx => hx.elim) (.inl ⟨by rfl, ?_⟩) (by (repeat (first | with_reducible assumption | with_reducible exact Below.refl _ _ | (with_reducible refine Below.setCell ?_ (by first | omega | (simp; omega) | (simp; done)) _) | (with_reducible refine Below.alloc ?_ (by first | omega | (simp; omega) | (simp; done)) _) | (with_reducible refine Below.drew ?_) | (with_reducible refine belowN ?_ _) | assumption | exact Below.refl _ _ | (refine Below.alloc ?_ (by first | omega | (simp; omega) | (simp; done)) _) | (refine Below.drew ?_) | (refine belowN ?_ _) | (refine Below.setCell ?_ (by first | omega | (simp; omega) | (simp; done)) _)))) ?_; rotate_left; (intro X hX; obtain ⟨r1, r2⟩ := Below.rules hX; clear hX; go_simp; rfl); simp only [List.getElem_toArray, List.getElem_cons_succ, List.getElem_cons_zero, Act.put, List.setIfInBounds_toArray, List.set_cons_succ, List.set_cons_zero])
        (refine any_take 2 ?_ (by rfl) (by kernel_rfl) (fun _ _ _ _ _ hx => hx.elim) (.inl ⟨by rfl, ?_⟩) (by (repeat (first | with_reducible assumption | with_reducible exact Below.refl _ _ | (with_reducible refine Below.setCell ?_ (by first | omega | (simp; omega) | (simp; done)) _) | (with_reducible refine Below.alloc ?_ (by first | omega | (simp; omega) | (simp; done)) _) | (with_reducible refine Below.drew ?_) | (with_reducible refine belowN ?_ _) | assumption | exact Below.refl _ _ | (refine Below.alloc ?_ (by first | omega | (simp; omega) | (simp; done)) _) | (refine Below.drew ?_) | (refine belowN ?_ _) | (refine Below.setCell ?_ (by first | omega | (simp; omega) | (simp; done)) _)))) ?_; rotate_left; (intro X hX; obtain ⟨r1, r2⟩ := Below.rules hX; clear hX; go_simp; rfl); simp only [List.getElem_toArray, List.getElem_cons_succ, List.getElem_cons_zero, Act.put, List.setIfInBounds_toArray, List.set_cons_succ, List.set_cons_zero])
        (refine any_take 3 ?_ (by rfl) (by kernel_rfl) (fun _ _ _ _ _ hx => hx.elim) (.inl ⟨by rfl, ?_⟩) (by (repeat (first | with_reducible assumption | with_reducible exact Below.refl _ _ | (with_reducible refine Below.setCell ?_ (by first | omega | (simp; omega) | (simp; done)) _) | (with_reducible refine Below.alloc ?_ (by first | omega | (simp; omega) | (simp; done)) _) | (with_reducible refine Below.drew ?_) | (with_reducible refine belowN ?_ _) | assumption | exact Below.refl _ _ | (refine Below.alloc ?_ (by first | omega | (simp; omega) | (simp; done)) _) | (refine Below.drew ?_) | (refine belowN ?_ _) | (refine Below.setCell ?_ (by first | omega | (simp; omega) | (simp; done)) _)))) ?_; rotate_left; (intro X hX; obtain ⟨r1, r2⟩ := Below.rules hX; clear hX; go_simp; rfl); simp only [List.getElem_toArray, List.getElem_cons_succ, List.getElem_cons_zero, Act.put, List.setIfInBounds_toArray, List.set_cons_succ, List.set_cons_zero])
        (refine any_take 4 ?_ (by rfl) (by kernel_rfl) (fun _ _ _ _ _ hx => hx.elim) (.inl ⟨by rfl, ?_⟩) (by (repeat (first | with_reducible assumption | with_reducible exact Below.refl _ _ | (with_reducible refine Below.setCell ?_ (by first | omega | (simp; omega) | (simp; done)) _) | (with_reducible refine Below.alloc ?_ (by first | omega | (simp; omega) | (simp; done)) _) | (with_reducible refine Below.drew ?_) | (with_reducible refine belowN ?_ _) | assumption | exact Below.refl _ _ | (refine Below.alloc ?_ (by first | omega | (simp; omega) | (simp; done)) _) | (refine Below.drew ?_) | (refine belowN ?_ _) | (refine Below.setCell ?_ (by first | omega | (simp; omega) | (simp; done)) _)))) ?_; rotate_left; (intro X hX; obtain ⟨r1, r2⟩ := Below.rules hX; clear hX; go_simp; rfl); simp only [List.getElem_toArray, List.getElem_cons_succ, List.getElem_cons_zero, Act.put, List.setIfInBounds_toArray, List.set_cons_succ, List.set_cons_zero])
        (refine any_take 5 ?_ (by rfl) (by kernel_rfl) (fun _ _ _ _ _ hx => hx.elim) (.inl ⟨by rfl, ?_⟩) (by (repeat (first | with_reducible assumption | with_reducible exact Below.refl _ _ | (with_reducible refine Below.setCell ?_ (by first | omega | (simp; omega) | (simp; done)) _) | (with_reducible refine Below.alloc ?_ (by first | omega | (simp; omega) | (simp; done)) _) | (with_reducible refine Below.drew ?_) | (with_reducible refine belowN ?_ _) | assumption | exact Below.refl _ _ | (refine Below.alloc ?_ (by first | omega | (simp; omega) | (simp; done)) _) | (refine Below.drew ?_) | (refine belowN ?_ _) | (refine Below.setCell ?_ (by first | omega | (simp; omega) | (simp; done)) _)))) ?_; rotate_left; (intro X hX; obtain ⟨r1, r2⟩ := Below.rules hX; clear hX; go_simp; rfl); simp only [List.getElem_toArray, List.getElem_cons_succ, List.getElem_cons_zero, Act.put, List.setIfInBounds_toArray, List.set_cons_succ, List.set_cons_zero])
        (refine any_take 6 ?_ (by rfl) (by kernel_rfl) (fun _ _ _ _ _ hx => hx.elim) (.inl ⟨by rfl, ?_⟩) (by (repeat (first | with_reducible assumption | with_reducible exact Below.refl _ _ | (with_reducible refine Below.setCell ?_ (by first | omega | (simp; omega) | (simp; done)) _) | (with_reducible refine Below.alloc ?_ (by first | omega | (simp; omega) | (simp; done)) _) | (with_reducible refine Below.drew ?_) | (with_reducible refine belowN ?_ _) | assumption | exact Below.refl _ _ | (refine Below.alloc ?_ (by first | omega | (simp; omega) | (simp; done)) _) | (refine Below.drew ?_) | (refine belowN ?_ _) | (refine Below.setCell ?_ (by first | omega | (simp; omega) | (simp; done)) _)))) ?_; rotate_left; (intro X hX; obtain ⟨r1, r2⟩ := Below.rules hX; clear hX; go_simp; rfl); simp only [List.getElem_toArray, List.getElem_cons_succ, List.getElem_cons_zero, Act.put, List.setIfInBounds_toArray, List.set_cons_succ, List.set_cons_zero])
        (refine any_take 7 ?_ (by rfl) (by kernel_rfl) (fun _ _ _ _ _ hx => hx.elim) (.inl ⟨by rfl, ?_⟩) (by (repeat (first | with_reducible assumption | with_reducible exact Below.refl _ _ | (with_reducible refine Below.setCell ?_ (by first | omega | (simp; omega) | (simp; done)) _) | (with_reducible refine Below.alloc ?_ (by first | omega | (simp; omega) | (simp; done)) _) | (with_reducible refine Below.drew ?_) | (with_reducible refine belowN ?_ _) | assumption | exact Below.refl _ _ | (refine Below.alloc ?_ (by first | omega | (simp; omega) | (simp; done)) _) | (refine Below.drew ?_) | (refine belowN ?_ _) | (refine Below.setCell ?_ (by first | omega | (simp; omega) | (simp; done)) _)))) ?_; rotate_left; (intro X hX; obtain ⟨r1, r2⟩ := Below.rules hX; clear hX; go_simp; rfl); simp only [List.getElem_toArray, List.getElem_cons_succ, List.getElem_cons_zero, Act.put, List.setIfInBounds_toArray, List.set_cons_succ, List.set_cons_zero])
        (refine any_take 8 ?_ (by rfl) (by kernel_rfl) (fun _ _ _ _ _ hx => hx.elim) (.inl ⟨by rfl, ?_⟩) (by (repeat (first | with_reducible assumption | with_reducible exact Below.refl _ _ | (with_reducible refine Below.setCell ?_ (by first | omega | (simp; omega) | (simp; done)) _) | (with_reducible refine Below.alloc ?_ (by first | omega | (simp; omega) | (simp; done)) _) | (with_reducible refine Below.drew ?_) | (with_reducible refine belowN ?_ _) | assumption | exact Below.refl _ _ | (refine Below.alloc ?_ (by first | omega | (simp; omega) | (simp; done)) _) | (refine Below.drew ?_) | (refine belowN ?_ _) | (refine Below.setCell ?_ (by first | omega | (simp; omega) | (simp; done)) _)))) ?_; rotate_left; (intro X hX; obtain ⟨r1, r2⟩ := Below.rules hX; clear hX; go_simp; rfl); simp only [List.getElem_toArray, List.getElem_cons_succ, List.getElem_cons_zero, Act.put, List.setIfInBounds_toArray, List.set_cons_succ, List.set_cons_zero])
        (refine any_take 9 ?_ (by rfl) (by kernel_rfl) (fun _ _ _ _ _ hx => hx.elim) (.inl ⟨by rfl, ?_⟩) (by (repeat (first | with_reducible assumption | with_reducible exact Below.refl _ _ | (with_reducible refine Below.setCell ?_ (by first | omega | (simp; omega) | (simp; done)) _) | (with_reducible refine Below.alloc ?_ (by first | omega | (simp; omega) | (simp; done)) _) | (with_reducible refine Below.drew ?_) | (with_reducible refine belowN ?_ _) | assumption | exact Below.refl _ _ | (refine Below.alloc ?_ (by first | omega | (simp; omega) | (simp; done)) _) | (refine Below.drew ?_) | (refine belowN ?_ _) | (refine Below.setCell ?_ (by first | omega | (simp; omega) | (simp; done)) _)))) ?_; rotate_left; (intro X hX; obtain ⟨r1, r2⟩ := Below.rules hX; clear hX; go_simp; rfl); simp only [List.getElem_toArray, List.getElem_cons_succ, List.getElem_cons_zero, Act.put, List.setIfInBounds_toArray, List.set_cons_succ, List.set_cons_zero])
        have d0z : Below wr.heap.size wr wr.drew := by (repeat (first | with_reducible assumption | with_reducible exact Below.refl _ _ | (with_reducible refine Below.setCell ?_ (by first | omega | (simp; omega) | (simp; done)) _) | (with_reducible refine Below.alloc ?_ (by first | omega | (simp; omega) | (simp; done)) _) | (with_reducible refine Below.drew ?_) | (with_reducible refine belowN ?_ _) | assumption | exact Below.refl _ _ | (refine Below.alloc ?_ (by first | omega | (simp; omega) | (simp; done)) _) | (refine Below.drew ?_) | (refine belowN ?_ _) | (refine Below.setCell ?_ (by first | omega | (simp; omega) | (simp; done)) _)))
        refine any_run1 (i := 10) (by kernel_rfl) (by rfl) (by kernel_rfl) ?_
        intro K hK
        go_wp2_with fail
        refine hK _ _ (fun _ => d0z) ?_
        clear hK K
        refine any_run1 (i := 11) (by kernel_rfl) (by rfl) (by kernel_rfl) ?_
        intro K hK
        go_wp2_with fail
        refine hK _ _ (fun _ => d0z) ?_
        clear hK K
        refine any_done (by kernel_rfl) (NoPanic.normal ?_)
        go_wp2_with fail
        refine (works_any _).mono ?_
        rintro e wz ⟨rfl, hb⟩
        have hZ : Below Wbc.heap.size Wbc wz := (hbr.trans (d0z.mono hbr.size)).trans (hb.mono (hbr.trans (d0z.mono hbr.size)).size)
        go_wp2_with fail
        go_ret
        exact ⟨rfl, hC.trans (hZ.mono hC.size)⟩
  · skip
    go_wp2_with fail
    have hckB : (w7.alloc (.cells #[.int .i64 c1, .int .i64 c2, .int .i64 c3, .int .i64 c4] 34)).cell? ⟨b3_, off3 + s, none⟩ = w7.cell? ⟨b3_, off3 + s, none⟩ := (Below.alloc (Below.refl w7.heap.size w7) (Nat.le_refl _) _).cell (by exact hb3)
    rw [hck] at hckB
    have hsz : w7.heap.size ≤ (w7.alloc (.cells #[.int .i64 c1, .int .i64 c2, .int .i64 c3, .int .i64 c4] 34)).heap.size := by simp
    have bc : BK (w7.alloc (.cells #[.int .i64 c1, .int .i64 c2, .int .i64 c3, .int .i64 c4] 34)) w7.heap.size #[.int .i64 c1, .int .i64 c2, .int .i64 c3, .int .i64 c4] 34 := BK.new _ _ _
    have hC2 : Below w.heap.size w (w7.alloc (.cells #[.int .i64 c1, .int .i64 c2, .int .i64 c3, .int .i64 c4] 34)) := by have := hC.size; (repeat (first | with_reducible assumption | with_reducible exact Below.refl _ _ | (with_reducible refine Below.setCell ?_ (by first | omega | (simp; omega) | (simp; done)) _) | (with_reducible refine Below.alloc ?_ (by first | omega | (simp; omega) | (simp; done)) _) | (with_reducible refine Below.drew ?_) | (with_reducible refine belowN ?_ _) | assumption | exact Below.refl _ _ | (refine Below.alloc ?_ (by first | omega | (simp; omega) | (simp; done)) _) | (refine Below.drew ?_) | (refine belowN ?_ _) | (refine Below.setCell ?_ (by first | omega | (simp; omega) | (simp; done)) _)))
    clear hC; have hC := hC2; clear hC2
    have ba_ := ba.alloc (.cells #[.int .i64 c1, .int .i64 c2, .int .i64 c3, .int .i64 c4] 34); clear ba; have ba := ba_; clear ba_
    have bb_ := bb.alloc (.cells #[.int .i64 c1, .int .i64 c2, .int .i64 c3, .int .i64 c4] 34); clear bb; have bb := bb_; clear bb_
    have bg_ := bg.alloc (.cells #[.int .i64 c1, .int .i64 c2, .int .i64 c3, .int .i64 c4] 34); clear bg; have bg := bg_; clear bg_
    generalize (w7.alloc (.cells #[.int .i64 c1, .int .i64 c2, .int .i64 c3, .int .i64 c4] 34)) = Wbc at *
    obtain ⟨gbc, hgbc⟩ : ∃ g, w7.heap.size = g := ⟨_, rfl⟩
    rw [hgbc] at bc
    try rw [hgbc]
    clear hgbc
    go_loopw [18, 19] (fun wv iv wr => ∃ i : Nat, i ≤ s ∧ iv = .int .i64 i ∧ wv = .bool ((List.range i).any fun i => (List.range l.length).any fun m => decide (s < m) && isWedgeB l i s m) ∧ Below Wbc.heap.size Wbc wr) (fun _ i _ => s - (intOf i).toNat)
    case atStart => exact ⟨0, Nat.zero_le _, rfl, by simp, Below.refl _ _⟩
    case round =>
      obtain ⟨i, hi, rfl, rfl, hbr⟩ := hrel
      by_cases his : i < s
      · obtain ⟨acc, hacc⟩ : ∃ acc, ((List.range i).any fun i => (List.range l.length).any fun m => decide (s < m) && isWedgeB l i s m) = acc := ⟨_, rfl⟩
        have hsucc : ((List.range (i + 1)).any fun i => (List.range l.length).any fun m => decide (s < m) && isWedgeB l i s m) = (acc || (List.range l.length).any fun m => decide (s < m) && isWedgeB l i s m) := by
          rw [List.range_succ, List.any_append, hacc]; simp
        rw [hacc]
        have HSUCC := Lib.hid hsucc
        clear hacc hsucc
        go_wp2_with fail
        go_loopw [18, 20] (fun wv mv wi => ∃ m : Nat, s + 1 ≤ m ∧ m ≤ l.length ∧ mv = .int .i64 m ∧ wv = .bool (acc || (List.range m).any fun m => decide (s < m) && isWedgeB l i s m) ∧ Below wr.heap.size wr wi) (fun _ m _ => l.length - (intOf m).toNat)
        case atStart =>
          refine ⟨s + 1, Nat.le_refl _, by omega, by go_num, ?_, Below.refl _ _⟩
          have : ((List.range (s + 1)).any fun m => decide (s < m) && isWedgeB l i s m) = false := by
            rw [List.any_eq_false]
            intro m hm
            have := List.mem_range.1 hm
            simp; omega
          rw [this]; simp
        case round =>
          obtain ⟨m, hm0, hm, rfl, rfl, hbi⟩ := hrel
          by_cases hml : m < l.length
          · obtain ⟨a2, ha2⟩ : ∃ a2, (acc || (List.range m).any fun m => decide (s < m) && isWedgeB l i s m) = a2 := ⟨_, rfl⟩
            obtain ⟨p, hp⟩ : ∃ p, isWedgeB l i s m = p := ⟨_, rfl⟩
            have hs2 : (acc || (List.range (m + 1)).any fun m => decide (s < m) && isWedgeB l i s m) = (a2 || p) := by
              rw [← ha2, ← hp, List.range_succ, List.any_append, Bool.or_assoc]; simp [show s < m by omega]
            have hbw : Below w.heap.size w wr := hC.trans ((hbr.trans (hbi.mono hbr.size)).mono hC.size)
            have hcall := HIW.out wr i m hbw (by omega) hml
            rw [ha2]
            rw [hp] at hcall
            have HS2 := Lib.hid hs2; have HCALL := Lib.hid hcall
            clear hs2 hcall ha2 hp
            cases a2 with
            | true =>
              go_wp2_with fail
              go_roundw
              case rel => exact ⟨m + 1, by omega, by omega, by go_num, by rw [HS2.out]; rfl, hbi⟩
              case measure => simp [intOf]; omega
            | false =>
              go_wp2_with fail
              refine HCALL.out.mono ?_
              rintro e w9 ⟨rfl, hb9⟩
              go_wp2_with fail
              go_roundw
              case rel => exact ⟨m + 1, by omega, by omega, by go_num, by rw [HS2.out]; rfl, hbi.trans (hb9.mono hbi.size)⟩
              case measure => simp [intOf]; omega
          · have hme : m = l.length := by omega
            rw [hme, ← HSUCC.out]
            clear HSUCC
            go_wp2_with fail
            go_roundw
            case rel => exact ⟨i + 1, by omega, by go_num, rfl, hbr.trans (hbi.mono hbr.size)⟩
            case measure => simp [intOf]; omega
      · have hie : i = s := by omega
        rw [hie, show ((List.range s).any fun i => (List.range l.length).any fun m => decide (s < m) && isWedgeB l i s m) = _ from HWD.out]
        have hWx : Below w.heap.size w wr := hC.trans (hbr.mono hC.size)
        have hgx := bg.below hbr bg.lt
        have hb3x : b3_ < Wbc.heap.size := Nat.lt_of_lt_of_le hb3 hsz
        have hck2 : wr.cell? ⟨b3_, off3 + s, none⟩ = Wbc.cell? ⟨b3_, off3 + s, none⟩ := hbr.cell (by exact hb3x)
        rw [hckB] at hck2
        have lb3 : b3_ < wr.heap.size := Nat.lt_of_lt_of_le hb3x hbr.size
        have lbg := hgx.lt
        have bgc0 := hgx.cell 0
        have bgc2 := hgx.cell 2
        simp at bgc0 bgc2
        go_wp2_with fail
        refine wp_region_noPanic (plain_any [0, 1, 2, 3, 4, 5, 6, 7, 8, 9] (Below wr.heap.size wr) mixed ?_)
        (refine any_take 0 ?_ (by rfl) (by kernel_rfl) (fun _ _ _ _ _ hx => hx.elim) (.inl ⟨by rfl, ?_⟩) (by (repeat (first | with_reducible assumption | with_reducible exact Below.refl _ _ | (with_reducible refine Below.setCell ?_ (by first | omega | (simp; omega) | (simp; done)) _) | (with_reducible refine Below.alloc ?_ (by first | omega | (simp; omega) | (simp; done)) _) | (with_reducible refine Below.drew ?_) | (with_reducible refine belowN ?_ _) | assumption | exact Below.refl _ _ | (refine Below.alloc ?_ (by first | omega | (simp; omega) | (simp; done)) _) | (refine Below.drew ?_) | (refine belowN ?_ _) | (refine Below.setCell ?_ (by first | omega | (simp; omega) | (simp; done)) _)))) ?_; rotate_left; (intro X hX; obtain ⟨r1, r2⟩ := Below.rules hX; clear hX; go_simp; rfl); simp only [List.getElem_toArray, List.getElem_cons_succ, List.getElem_cons_zero, Act.put, List.setIfInBounds_toArray, List.set_cons_succ, List.set_cons_zero])
        (refine any_take 1 ?_ (by rfl) (by kernel_rfl) (fun _ _ _ _ _ hx => hx.elim) (.inl ⟨by rfl, ?_⟩) (by (repeat (first | with_reducible assumption | with_reducible exact Below.refl _ _ | (with_reducible refine Below.setCell ?_ (by first | omega | (simp; omega) | (simp; done)) _) | (with_reducible refine Below.alloc ?_ (by first | omega | (simp; omega) | (simp; done)) _) | (with_reducible refine Below.drew ?_) | (with_reducible refine belowN ?_ _) | assumption | exact Below.refl _ _ | (refine Below.alloc ?_ (by first | omega | (simp; omega) | (simp; done)) _) | (refine Below.drew ?_) | (refine belowN ?_ _) | (refine Below.setCell ?_ (by first | omega | (simp; omega) | (simp; done)) _)))) ?_; rotate_left; (intro X hX; obtain ⟨r1, r2⟩ := Below.rules hX; clear hX; go_simp; rfl); simp only [List.getElem_toArray, List.getElem_cons_succ, List.getElem_cons_zero, Act.put, List.setIfInBounds_toArray, List.set_cons_succ, List.set_cons_zero])
        (refine any_take 2 ?_ (by rfl) (by kernel_rfl) (fun _ _ _ _ _ hx => hx.elim) (.inl ⟨by rfl, ?_⟩) (by (repeat (first | with_reducible assumption | with_reducible exact Below.refl _ _ | (with_reducible refine Below.setCell ?_ (by first | omega | (simp; omega) | (simp; done)) _) | (with_reducible refine Below.alloc ?_ (by first | omega | (simp; omega) | (simp; done)) _) | (with_reducible refine Below.drew ?_) | (with_reducible refine belowN ?_ _) | assumption | exact Below.refl _ _ | (refine Below.alloc ?_ (by first | omega | (simp; omega) | (simp; done)) _) | (refine Below.drew ?_) | (refine belowN ?_ _) | (refine Below.setCell ?_ (by first | omega | (simp; omega) | (simp; done)) _)))) ?_; rotate_left; (intro X hX; obtain ⟨r1, r2⟩ := Below.rules hX; clear hX; go_simp; rfl); simp only [List.getElem_toArray, List.getElem_cons_succ, List.getElem_cons_zero, Act.put, List.setIfInBounds_toArray, List.set_cons_succ, List.set_cons_zero])
        (refine any_take 3 ?_ (by rfl) (by kernel_rfl) (fun _ _ _ _ _ hx => hx.elim) (.inl ⟨by rfl, ?_⟩) (by (repeat (first | with_reducible assumption | with_reducible exact Below.refl _ _ | (with_reducible refine Below.setCell ?_ (by first | omega | (simp; omega) | (simp; done)) _) | (with_reducible refine Below.alloc ?_ (by first | omega | (simp; omega) | (simp; done)) _) | (with_reducible refine Below.drew ?_) | (with_reducible refine belowN ?_ _) | assumption | exact Below.refl _ _ | (refine Below.alloc ?_ (by first | omega | (simp; omega) | (simp; done)) _) | (refine Below.drew ?_) | (refine belowN ?_ _) | (refine Below.setCell ?_ (by first | omega | (simp; omega) | (simp; done)) _)))) ?_; rotate_left; (intro X hX; obtain ⟨r1, r2⟩ := Below.rules hX; clear hX; go_simp; rfl); simp only [List.getElem_toArray, List.getElem_cons_succ, List.getElem_cons_zero, Act.put, List.setIfInBounds_toArray, List.set_cons_succ, List.set_cons_zero])
        (refine any_take 4 ?_ (by rfl) (by kernel_rfl) (fun _ _ _ _ _ hx => hx.elim) (.inl ⟨by rfl, ?_⟩) (by (repeat (first | with_reducible assumption | with_reducible exact Below.refl _ _ | (with_reducible refine Below.setCell ?_ (by first | omega | (simp; omega) | (simp; done)) _) | (with_reducible refine Below.alloc ?_ (by first | omega | (simp; omega) | (simp; done)) _) | (with_reducible refine Below.drew ?_) | (with_reducible refine belowN ?_ _) | assumption | exact Below.refl _ _ | (refine Below.alloc ?_ (by first | omega | (simp; omega) | (simp; done)) _) | (refine Below.drew ?_) | (refine belowN ?_ _) | (refine Below.setCell ?_ (by first | omega | (simp; omega) | (simp; done)) _)))) ?_; rotate_left; (intro X hX; obtain ⟨r1, r2⟩ := Below.rules hX; clear hX; go_simp; rfl); simp only [List.getElem_toArray, List.getElem_cons_succ, List.getElem_cons_zero, Act.put, List.setIfInBounds_toArray, List.set_cons_succ, List.set_cons_zero])
        (refine any_take 5 ?_ (by rfl) (by kernel_rfl) (fun _ _ _ _ _ hx => hx.elim) (.inl ⟨by rfl, ?_⟩) (by (repeat (first | with_reducible assumption | with_reducible exact Below.refl _ _ | (with_reducible refine Below.setCell ?_ (by first | omega | (simp; omega) | (simp; done)) _) | (with_reducible refine Below.alloc ?_ (by first | omega | (simp; omega) | (simp; done)) _) | (with_reducible refine Below.drew ?_) | (with_reducible refine belowN ?_ _) | assumption | exact Below.refl _ _ | (refine Below.alloc ?_ (by first | omega | (simp; omega) | (simp; done)) _) | (refine Below.drew ?_) | (refine belowN ?_ _) | (refine Below.setCell ?_ (by first | omega | (simp; omega) | (simp; done)) _)))) ?_; rotate_left; (intro X hX; obtain ⟨r1, r2⟩ := Below.rules hX; clear hX; go_simp; rfl); simp only [List.getElem_toArray, List.getElem_cons_succ, List.getElem_cons_zero, Act.put, List.setIfInBounds_toArray, List.set_cons_succ, List.set_cons_zero])
        (refine any_take 6 ?_ (by rfl) (by kernel_rfl) (fun _ _ _ _ _ hx => hx.elim) (.inl ⟨by rfl, ?_⟩) (by (repeat (first | with_reducible assumption | with_reducible exact Below.refl _ _ | (with_reducible refine Below.setCell ?_ (by first | omega | (simp; omega) | (simp; done)) _) | (with_reducible refine Below.alloc ?_ (by first | omega | (simp; omega) | (simp; done)) _) | (with_reducible refine Below.drew ?_) | (with_reducible refine belowN ?_ _) | assumption | exact Below.refl _ _ | (refine Below.alloc ?_ (by first | omega | (simp; omega) | (simp; done)) _) | (refine Below.drew ?_) | (refine belowN ?_ _) | (refine Below.setCell ?_ (by first | omega | (simp; omega) | (simp; done)) _)))) ?_; rotate_left; (intro X hX; obtain ⟨r1, r2⟩ := Below.rules hX; clear hX; go_simp; rfl); simp only [List.getElem_toArray, List.getElem_cons_succ, List.getElem_cons_zero, Act.put, List.setIfInBounds_toArray, List.set_cons_succ, List.set_cons_zero])
        (refine any_take 7 ?_ (by rfl) (by kernel_rfl) (fun _ _ _ _ _ hx => hx.elim) (.inl ⟨by rfl, ?_⟩) (by (repeat (first | with_reducible assumption | with_reducible exact Below.refl _ _ | (with_reducible refine Below.setCell ?_ (by first | omega | (simp; omega) | (simp; done)) _) | (with_reducible refine Below.alloc ?_ (by first | omega | (simp; omega) | (simp; done)) _) | (with_reducible refine Below.drew ?_) | (with_reducible refine belowN ?_ _) | assumption | exact Below.refl _ _ | (refine Below.alloc ?_ (by first | omega | (simp; omega) | (simp; done)) _) | (refine Below.drew ?_) | (refine belowN ?_ _) | (refine Below.setCell ?_ (by first | omega | (simp; omega) | (simp; done)) _)))) ?_; rotate_left; (intro X hX; obtain ⟨r1, r2⟩ := Below.rules hX; clear hX; go_simp; rfl); simp only [List.getElem_toArray, List.getElem_cons_succ, List.getElem_cons_zero, Act.put, List.setIfInBounds_toArray, List.set_cons_succ, List.set_cons_zero])
        (refine any_take 8 ?_ (by rfl) (by kernel_rfl) (fun _ _ _ _ _ hx => hx.elim) (.inl ⟨by rfl, ?_⟩) (by (repeat (first | with_reducible assumption | with_reducible exact Below.refl _ _ | (with_reducible refine Below.setCell ?_ (by first | omega | (simp; omega) | (simp; done)) _) | (with_reducible refine Below.alloc ?_ (by first | omega | (simp; omega) | (simp; done)) _) | (with_reducible refine Below.drew ?_) | (with_reducible refine belowN ?_ _) | assumption | exact Below.refl _ _ | (refine Below.alloc ?_ (by first | omega | (simp; omega) | (simp; done)) _) | (refine Below.drew ?_) | (refine belowN ?_ _) | (refine Below.setCell ?_ (by first | omega | (simp; omega) | (simp; done)) _)))) ?_; rotate_left; (intro X hX; obtain ⟨r1, r2⟩ := Below.rules hX; clear hX; go_simp; rfl); simp only [List.getElem_toArray, List.getElem_cons_succ, List.getElem_cons_zero, Act.put, List.setIfInBounds_toArray, List.set_cons_succ, List.set_cons_zero])
        (refine any_take 9 ?_ (by rfl) (by kernel_rfl) (fun _ _ _ _ _ hx => hx.elim) (.inl ⟨by rfl, ?_⟩) (by (repeat (first | with_reducible assumption | with_reducible exact Below.refl _ _ | (with_reducible refine Below.setCell ?_ (by first | omega | (simp; omega) | (simp; done)) _) | (with_reducible refine Below.alloc ?_ (by first | omega | (simp; omega) | (simp; done)) _) | (with_reducible refine Below.drew ?_) | (with_reducible refine belowN ?_ _) | assumption | exact Below.refl _ _ | (refine Below.alloc ?_ (by first | omega | (simp; omega) | (simp; done)) _) | (refine Below.drew ?_) | (refine belowN ?_ _) | (refine Below.setCell ?_ (by first | omega | (simp; omega) | (simp; done)) _)))) ?_; rotate_left; (intro X hX; obtain ⟨r1, r2⟩ := Below.rules hX; clear hX; go_simp; rfl); simp only [List.getElem_toArray, List.getElem_cons_succ, List.getElem_cons_zero, Act.put, List.setIfInBounds_toArray, List.set_cons_succ, List.set_cons_zero])
        have d0z : Below wr.heap.size wr wr.drew := by (repeat (first | with_reducible assumption | with_reducible exact Below.refl _ _ | (with_reducible refine Below.setCell ?_ (by first | omega | (simp; omega) | (simp; done)) _) | (with_reducible refine Below.alloc ?_ (by first | omega | (simp; omega) | (simp; done)) _) | (with_reducible refine Below.drew ?_) | (with_reducible refine belowN ?_ _) | assumption | exact Below.refl _ _ | (refine Below.alloc ?_ (by first | omega | (simp; omega) | (simp; done)) _) | (refine Below.drew ?_) | (refine belowN ?_ _) | (refine Below.setCell ?_ (by first | omega | (simp; omega) | (simp; done)) _)))
        refine any_run1 (i := 10) (by kernel_rfl) (by rfl) (by kernel_rfl) ?_
        intro K hK
        go_wp2_with fail
        refine hK _ _ (fun _ => d0z) ?_
        clear hK K
        refine any_run1 (i := 11) (by kernel_rfl) (by rfl) (by kernel_rfl) ?_
        intro K hK
        go_wp2_with fail
        refine hK _ _ (fun _ => d0z) ?_
        clear hK K
        refine any_done (by kernel_rfl) (NoPanic.normal ?_)
        go_wp2_with fail
        refine (works_any _).mono ?_
        rintro e wz ⟨rfl, hb⟩
        have hZ : Below Wbc.heap.size Wbc wz := (hbr.trans (d0z.mono hbr.size)).trans (hb.mono (hbr.trans (d0z.mono hbr.size)).size)
        go_wp2_with fail
        go_ret
        exact ⟨rfl, hC.trans (hZ.mono hC.size)⟩
  · skip
    go_wp2_with fail
    have hckB : (w7.alloc (.cells #[.int .i64 c1, .int .i64 c2, .int .i64 c3, .int .i64 c4] 34)).cell? ⟨b3_, off3 + s, none⟩ = w7.cell? ⟨b3_, off3 + s, none⟩ := (Below.alloc (Below.refl w7.heap.size w7) (Nat.le_refl _) _).cell (by exact hb3)
    rw [hck] at hckB
    have hsz : w7.heap.size ≤ (w7.alloc (.cells #[.int .i64 c1, .int .i64 c2, .int .i64 c3, .int .i64 c4] 34)).heap.size := by simp
    have bc : BK (w7.alloc (.cells #[.int .i64 c1, .int .i64 c2, .int .i64 c3, .int .i64 c4] 34)) w7.heap.size #[.int .i64 c1, .int .i64 c2, .int .i64 c3, .int .i64 c4] 34 := BK.new _ _ _
    have hC2 : Below w.heap.size w (w7.alloc (.cells #[.int .i64 c1, .int .i64 c2, .int .i64 c3, .int .i64 c4] 34)) := by have := hC.size; (repeat (first | with_reducible assumption | with_reducible exact Below.refl _ _ | (with_reducible refine Below.setCell ?_ (by first | omega | (simp; omega) | (simp; done)) _) | (with_reducible refine Below.alloc ?_ (by first | omega | (simp; omega) | (simp; done)) _) | (with_reducible refine Below.drew ?_) | (with_reducible refine belowN ?_ _) | assumption | exact Below.refl _ _ | (refine Below.alloc ?_ (by first | omega | (simp; omega) | (simp; done)) _) | (refine Below.drew ?_) | (refine belowN ?_ _) | (refine Below.setCell ?_ (by first | omega | (simp; omega) | (simp; done)) _)))
    clear hC; have hC := hC2; clear hC2
    have ba_ := ba.alloc (.cells #[.int .i64 c1, .int .i64 c2, .int .i64 c3, .int .i64 c4] 34); clear ba; have ba := ba_; clear ba_
    have bb_ := bb.alloc (.cells #[.int .i64 c1, .int .i64 c2, .int .i64 c3, .int .i64 c4] 34); clear bb; have bb := bb_; clear bb_
    have bg_ := bg.alloc (.cells #[.int .i64 c1, .int .i64 c2, .int .i64 c3, .int .i64 c4] 34); clear bg; have bg := bg_; clear bg_
    generalize (w7.alloc (.cells #[.int .i64 c1, .int .i64 c2, .int .i64 c3, .int .i64 c4] 34)) = Wbc at *
    obtain ⟨gbc, hgbc⟩ : ∃ g, w7.heap.size = g := ⟨_, rfl⟩
    rw [hgbc] at bc
    try rw [hgbc]
    clear hgbc
    go_loopw [18, 19] (fun wv iv wr => ∃ i : Nat, i ≤ s ∧ iv = .int .i64 i ∧ wv = .bool ((List.range i).any fun i => (List.range l.length).any fun m => decide (s < m) && isWedgeB l i s m) ∧ Below Wbc.heap.size Wbc wr) (fun _ i _ => s - (intOf i).toNat)
    case atStart => exact ⟨0, Nat.zero_le _, rfl, by simp, Below.refl _ _⟩
    case round =>
      obtain ⟨i, hi, rfl, rfl, hbr⟩ := hrel
      by_cases his : i < s
      · obtain ⟨acc, hacc⟩ : ∃ acc, ((List.range i).any fun i => (List.range l.length).any fun m => decide (s < m) && isWedgeB l i s m) = acc := ⟨_, rfl⟩
        have hsucc : ((List.range (i + 1)).any fun i => (List.range l.length).any fun m => decide (s < m) && isWedgeB l i s m) = (acc || (List.range l.length).any fun m => decide (s < m) && isWedgeB l i s m) := by
          rw [List.range_succ, List.any_append, hacc]; simp
        rw [hacc]
        have HSUCC := Lib.hid hsucc
        clear hacc hsucc
        go_wp2_with fail
        go_loopw [18, 20] (fun wv mv wi => ∃ m : Nat, s + 1 ≤ m ∧ m ≤ l.length ∧ mv = .int .i64 m ∧ wv = .bool (acc || (List.range m).any fun m => decide (s < m) && isWedgeB l i s m) ∧ Below wr.heap.size wr wi) (fun _ m _ => l.length - (intOf m).toNat)
        case atStart =>
          refine ⟨s + 1, Nat.le_refl _, by omega, by go_num, ?_, Below.refl _ _⟩
          have : ((List.range (s + 1)).any fun m => decide (s < m) && isWedgeB l i s m) = false := by
            rw [List.any_eq_false]
            intro m hm
            have := List.mem_range.1 hm
            simp; omega
          rw [this]; simp
        case round =>
          obtain ⟨m, hm0, hm, rfl, rfl, hbi⟩ := hrel
          by_cases hml : m < l.length
          · obtain ⟨a2, ha2⟩ : ∃ a2, (acc || (List.range m).any fun m => decide (s < m) && isWedgeB l i s m) = a2 := ⟨_, rfl⟩
            obtain ⟨p, hp⟩ : ∃ p, isWedgeB l i s m = p := ⟨_, rfl⟩
            have hs2 : (acc || (List.range (m + 1)).any fun m => decide (s < m) && isWedgeB l i s m) = (a2 || p) := by
              rw [← ha2, ← hp, List.range_succ, List.any_append, Bool.or_assoc]; simp [show s < m by omega]
            have hbw : Below w.heap.size w wr := hC.trans ((hbr.trans (hbi.mono hbr.size)).mono hC.size)
            have hcall := HIW.out wr i m hbw (by omega) hml
            rw [ha2]
            rw [hp] at hcall
            have HS2 := Lib.hid hs2; have HCALL := Lib.hid hcall
            clear hs2 hcall ha2 hp
            cases a2 with
            | true =>
              go_wp2_with fail
              go_roundw
              case rel => exact ⟨m + 1, by omega, by omega, by go_num, by rw [HS2.out]; rfl, hbi⟩
              case measure => simp [intOf]; omega
            | false =>
              go_wp2_with fail
              refine HCALL.out.mono ?_
              rintro e w9 ⟨rfl, hb9⟩
              go_wp2_with fail
              go_roundw
              case rel => exact ⟨m + 1, by omega, by omega, by go_num, by rw [HS2.out]; rfl, hbi.trans (hb9.mono hbi.size)⟩
              case measure => simp [intOf]; omega
          · have hme : m = l.length := by omega
            rw [hme, ← HSUCC.out]
            clear HSUCC
            go_wp2_with fail
            go_roundw
            case rel => exact ⟨i + 1, by omega, by go_num, rfl, hbr.trans (hbi.mono hbr.size)⟩
            case measure => simp [intOf]; omega
      · have hie : i = s := by omega
        rw [hie, show ((List.range s).any fun i => (List.range l.length).any fun m => decide (s < m) && isWedgeB l i s m) = _ from HWD.out]
        have hWx : Below w.heap.size w wr := hC.trans (hbr.mono hC.size)
        have hgx := bg.below hbr bg.lt
        have hb3x : b3_ < Wbc.heap.size := Nat.lt_of_lt_of_le hb3 hsz
        have hck2 : wr.cell? ⟨b3_, off3 + s, none⟩ = Wbc.cell? ⟨b3_, off3 + s, none⟩ := hbr.cell (by exact hb3x)
        rw [hckB] at hck2
        have lb3 : b3_ < wr.heap.size := Nat.lt_of_lt_of_le hb3x hbr.size
        have lbg := hgx.lt
        have bgc0 := hgx.cell 0
        have bgc2 := hgx.cell 2
        simp at bgc0 bgc2
        go_wp2_with fail
        refine wp_region_noPanic (plain_any [0, 1, 2, 3, 4, 5, 6, 7, 8, 9] (Below wr.heap.size wr) mixed ?_)
        (refine any_take 0 ?_ (by rfl) (by kernel_rfl) (fun _ _ _ _ _ hx => hx.elim) (.inl ⟨by rfl, ?_⟩) (by (repeat (first | with_reducible assumption | with_reducible exact Below.refl _ _ | (with_reducible refine Below.setCell ?_ (by first | omega | (simp; omega) | (simp; done)) _) | (with_reducible refine Below.alloc ?_ (by first | omega | (simp; omega) | (simp; done)) _) | (with_reducible refine Below.drew ?_) | (with_reducible refine belowN ?_ _) | assumption | exact Below.refl _ _ | (refine Below.alloc ?_ (by first | omega | (simp; omega) | (simp; done)) _) | (refine Below.drew ?_) | (refine belowN ?_ _) | (refine Below.setCell ?_ (by first | omega | (simp; omega) | (simp; done)) _)))) ?_; rotate_left; (intro X hX; obtain ⟨r1, r2⟩ := Below.rules hX; clear hX; go_simp; rfl); simp only [List.getElem_toArray, List.getElem_cons_succ, List.getElem_cons_zero, Act.put, List.setIfInBounds_toArray, List.set_cons_succ, List.set_cons_zero])
        (refine any_take 1 ?_ (by rfl) (by kernel_rfl) (fun _ _ _ _ _ hx => hx.elim) (.inl ⟨by rfl, ?_⟩) (by (repeat (first | with_reducible assumption | with_reducible exact Below.refl _ _ | (with_reducible refine Below.setCell ?_ (by first | omega | (simp; omega) | (simp; done)) _) | (with_reducible refine Below.alloc ?_ (by first | omega | (simp; omega) | (simp; done)) _) | (with_reducible refine Below.drew ?_) | (with_reducible refine belowN ?_ _) | assumption | exact Below.refl _ _ | (refine Below.alloc ?_ (by first | omega | (simp; omega) | (simp; done)) _) | (refine Below.drew ?_) | (refine belowN ?_ _) | (refine Below.setCell ?_ (by first | omega | (simp; omega) | (simp; done)) _)))) ?_; rotate_left; (intro X hX; obtain ⟨r1, r2⟩ := Below.rules hX; clear hX; go_simp; rfl); simp only [List.getElem_toArray, List.getElem_cons_succ, List.getElem_cons_zero, Act.put, List.setIfInBounds_toArray, List.set_cons_succ, List.set_cons_zero])
        (refine any_take 2 ?_ (by rfl) (by kernel_rfl) (fun _ _ _ _ _ hx => hx.elim) (.inl ⟨by rfl, ?_⟩) (by (repeat (first | with_reducible assumption | with_reducible exact Below.refl _ _ | (with_reducible refine Below.setCell ?_ (by first | omega | (simp; omega) | (simp; done)) _) | (with_reducible refine Below.alloc ?_ (by first | omega | (simp; omega) | (simp; done)) _) | (with_reducible refine Below.drew ?_) | (with_reducible refine belowN ?_ _) | assumption | exact Below.refl _ _ | (refine Below.alloc ?_ (by first | omega | (simp; omega) | (simp; done)) _) | (refine Below.drew ?_) | (refine belowN ?_ _) | (refine Below.setCell ?_ (by first | omega | (simp; omega) | (simp; done)) _)))) ?_; rotate_left; (intro X hX; obtain ⟨r1, r2⟩ := Below.rules hX; clear hX; go_simp; rfl); simp only [List.getElem_toArray, List.getElem_cons_succ, List.getElem_cons_zero, Act.put, List.setIfInBounds_toArray, List.set_cons_succ, List.set_cons_zero])
        (refine any_take 3 ?_ (by rfl) (by kernel_rfl) (fun _ _ _ _ _ hx => hx.elim) (.inl ⟨by rfl, ?_⟩) (by (repeat (first | with_reducible assumption | with_reducible exact Below.refl _ _ | (with_reducible refine Below.setCell ?_ (by first | omega | (simp; omega) | (simp; done)) _) | (with_reducible refine Below.alloc ?_ (by first | omega | (simp; omega) | (simp; done)) _) | (with_reducible refine Below.drew ?_) | (with_reducible refine belowN ?_ _) | assumption | exact Below.refl _ _ | (refine Below.alloc ?_ (by first | omega | (simp; omega) | (simp; done)) _) | (refine Below.drew ?_) | (refine belowN ?_ _) | (refine Below.setCell ?_ (by first | omega | (simp; omega) | (simp; done)) _)))) ?_; rotate_left; (intro X hX; obtain ⟨r1, r2⟩ := Below.rules hX; clear hX; go_simp; rfl); simp only [List.getElem_toArray, List.getElem_cons_succ, List.getElem_cons_zero, Act.put, List.setIfInBounds_toArray, List.set_cons_succ, List.set_cons_zero])
        (refine any_take 4 ?_ (by rfl) (by kernel_rfl) (fun _ _ _ _ _ hx => hx.elim) (.inl ⟨by rfl, ?_⟩) (by (repeat (first | with_reducible assumption | with_reducible exact Below.refl _ _ | (with_reducible refine Below.setCell ?_ (by first | omega | (simp; omega) | (simp; done)) _) | (with_reducible refine Below.alloc ?_ (by first | omega | (simp; omega) | (simp; done)) _) | (with_reducible refine Below.drew ?_) | (with_reducible refine belowN ?_ _) | assumption | exact Below.refl _ _ | (refine Below.alloc ?_ (by first | omega | (simp; omega) | (simp; done)) _) | (refine Below.drew ?_) | (refine belowN ?_ _) | (refine Below.setCell ?_ (by first | omega | (simp; omega) | (simp; done)) _)))) ?_; rotate_left; (intro X hX; obtain ⟨r1, r2⟩ := Below.rules hX; clear hX; go_simp; rfl); simp only [List.getElem_toArray, List.getElem_cons_succ, List.getElem_cons_zero, Act.put, List.setIfInBounds_toArray, List.set_cons_succ, List.set_cons_zero])
        (refine any_take 5 ?_ (by rfl) (by kernel_rfl) (fun _ _ _ _ _ hx => hx.elim) (.inl ⟨by rfl, ?_⟩) (by (repeat (first | with_reducible assumption | with_reducible exact Below.refl _ _ | (with_reducible refine Below.setCell ?_ (by first | omega | (simp; omega) | (simp; done)) _) | (with_reducible refine Below.alloc ?_ (by first | omega | (simp; omega) | (simp; done)) _) | (with_reducible refine Below.drew ?_) | (with_reducible refine belowN ?_ _) | assumption | exact Below.refl _ _ | (refine Below.alloc ?_ (by first | omega | (simp; omega) | (simp; done)) _) | (refine Below.drew ?_) | (refine belowN ?_ _) | (refine Below.setCell ?_ (by first | omega | (simp; omega) | (simp; done)) _)))) ?_; rotate_left; (intro X hX; obtain ⟨r1, r2⟩ := Below.rules hX; clear hX; go_simp; rfl); simp only [List.getElem_toArray, List.getElem_cons_succ, List.getElem_cons_zero, Act.put, List.setIfInBounds_toArray, List.set_cons_succ, List.set_cons_zero])
        (refine any_take 6 ?_ (by rfl) (by kernel_rfl) (fun _ _ _ _ _ hx => hx.elim) (.inl ⟨by rfl, ?_⟩) (by (repeat (first | with_reducible assumption | with_reducible exact Below.refl _ _ | (with_reducible refine Below.setCell ?_ (by first | omega | (simp; omega) | (simp; done)) _) | (with_reducible refine Below.alloc ?_ (by first | omega | (simp; omega) | (simp; done)) _) | (with_reducible refine Below.drew ?_) | (with_reducible refine belowN ?_ _) | assumption | exact Below.refl _ _ | (refine Below.alloc ?_ (by first | omega | (simp; omega) | (simp; done)) _) | (refine Below.drew ?_) | (refine belowN ?_ _) | (refine Below.setCell ?_ (by first | omega | (simp; omega) | (simp; done)) _)))) ?_; rotate_left; (intro X hX; obtain ⟨r1, r2⟩ := Below.rules hX; clear hX; go_simp; rfl); simp only [List.getElem_toArray, List.getElem_cons_succ, List.getElem_cons_zero, Act.put, List.setIfInBounds_toArray, List.set_cons_succ, List.set_cons_zero])
        (refine any_take 7 ?_ (by rfl) (by kernel_rfl) (fun _ _ _ _ _ hx => hx.elim) (.inl ⟨by rfl, ?_⟩) (by (repeat (first | with_reducible assumption | with_reducible exact Below.refl _ _ | (with_reducible refine Below.setCell ?_ (by first | omega | (simp; omega) | (simp; done)) _) | (with_reducible refine Below.alloc ?_ (by first | omega | (simp; omega) | (simp; done)) _) | (with_reducible refine Below.drew ?_) | (with_reducible refine belowN ?_ _) | assumption | exact Below.refl _ _ | (refine Below.alloc ?_ (by first | omega | (simp; omega) | (simp; done)) _) | (refine Below.drew ?_) | (refine belowN ?_ _) | (refine Below.setCell ?_ (by first | omega | (simp; omega) | (simp; done)) _)))) ?_; rotate_left; (intro X hX; obtain ⟨r1, r2⟩ := Below.rules hX; clear hX; go_simp; rfl); simp only [List.getElem_toArray, List.getElem_cons_succ, List.getElem_cons_zero, Act.put, List.setIfInBounds_toArray, List.set_cons_succ, List.set_cons_zero])
        (refine any_take 8 ?_ (by rfl) (by kernel_rfl) (fun _ _ _ _ _ hx => hx.elim) (.inl ⟨by rfl, ?_⟩) (by (repeat (first | with_reducible assumption | with_reducible exact Below.refl _ _ | (with_reducible refine Below.setCell ?_ (by first | omega | (simp; omega) | (simp; done)) _) | (with_reducible refine Below.alloc ?_ (by first | omega | (simp; omega) | (simp; done)) _) | (with_reducible refine Below.drew ?_) | (with_reducible refine belowN ?_ _) | assumption | exact Below.refl _ _ | (refine Below.alloc ?_ (by first | omega | (simp; omega) | (simp; done)) _) | (refine Below.drew ?_) | (refine belowN ?_ _) | (refine Below.setCell ?_ (by first | omega | (simp; omega) | (simp; done)) _)))) ?_; rotate_left; (intro X hX; obtain ⟨r1, r2⟩ := Below.rules hX; clear hX; go_simp; rfl); simp only [List.getElem_toArray, List.getElem_cons_succ, List.getElem_cons_zero, Act.put, List.setIfInBounds_toArray, List.set_cons_succ, List.set_cons_zero])
        (refine any_take 9 ?_ (by rfl) (by kernel_rfl) (fun _ _ _ _ _ hx => hx.elim) (.inl ⟨by rfl, ?_⟩) (by (repeat (first | with_reducible assumption | with_reducible exact Below.refl _ _ | (with_reducible refine Below.setCell ?_ (by first | omega | (simp; omega) | (simp; done)) _) | (with_reducible refine Below.alloc ?_ (by first | omega | (simp; omega) | (simp; done)) _) | (with_reducible refine Below.drew ?_) | (with_reducible refine belowN ?_ _) | assumption | exact Below.refl _ _ | (refine Below.alloc ?_ (by first | omega | (simp; omega) | (simp; done)) _) | (refine Below.drew ?_) | (refine belowN ?_ _) | (refine Below.setCell ?_ (by first | omega | (simp; omega) | (simp; done)) _)))) ?_; rotate_left; (intro X hX; obtain ⟨r1, r2⟩ := Below.rules hX; clear hX; go_simp; rfl); simp only [List.getElem_toArray, List.getElem_cons_succ, List.getElem_cons_zero, Act.put, List.setIfInBounds_toArray, List.set_cons_succ, List.set_cons_zero])
        have d0z : Below wr.heap.size wr wr.drew := by (repeat (first | with_reducible assumption | with_reducible exact Below.refl _ _ | (with_reducible refine Below.setCell ?_ (by first | omega | (simp; omega) | (simp; done)) _) | (with_reducible refine Below.alloc ?_ (by first | omega | (simp; omega) | (simp; done)) _) | (with_reducible refine Below.drew ?_) | (with_reducible refine belowN ?_ _) | assumption | exact Below.refl _ _ | (refine Below.alloc ?_ (by first | omega | (simp; omega) | (simp; done)) _) | (refine Below.drew ?_) | (refine belowN ?_ _) | (refine Below.setCell ?_ (by first | omega | (simp; omega) | (simp; done)) _)))
        refine any_run1 (i := 10) (by kernel_rfl) (by rfl) (by kernel_rfl) ?_
        intro K hK
        go_wp2_with fail
        refine hK _ _ (fun _ => d0z) ?_
        clear hK K
        refine any_run1 (i := 11) (by kernel_rfl) (by rfl) (by kernel_rfl) ?_
        intro K hK
        go_wp2_with fail
        refine hK _ _ (fun _ => d0z) ?_
        clear hK K
        refine any_done (by kernel_rfl) (NoPanic.normal ?_)
        go_wp2_with fail
        refine (works_any _).mono ?_
        rintro e wz ⟨rfl, hb⟩
        have hZ : Below Wbc.heap.size Wbc wz := (hbr.trans (d0z.mono hbr.size)).trans (hb.mono (hbr.trans (d0z.mono hbr.size)).size)
        go_wp2_with fail
        go_ret
        exact ⟨rfl, hC.trans (hZ.mono hC.size)⟩
theorem kinds_row (l : List St) (vl : Value) {w : World} (h : RSt w w.heap.size vl l) (_ : l.length ≤ maxLen) (u : List Int) (vu : Value) (h' : RU w w.heap.size vu u) (hub : ∀ k, k < u.length → 0 ≤ nthI u k ∧ nthI u k ≤ 65535) (_ : u.length ≤ maxLen) (st : Int) (hst : (Lit.int .u8 st).wf = true) (W : World) (hw : W = w := by rfl) :
    Calls Try.prog 7 #[vl, vu, .int .u8 st] W fun e w' => e = .returned (.bool true) ∧ Below W.heap.size W w' := by
  subst hw
  have hb : 0 ≤ st ∧ st ≤ 255 := by simpa [Lit.wf, IntKind.min, IntKind.max, IntKind.signed, IntKind.bits] using hst
  obtain ⟨n, rfl⟩ : ∃ n : Nat, st = n := ⟨st.toNat, by omega⟩
  by_cases hl : fineB l = false ∨ 40 < u.length
  · exact kinds_no l u n vl vu _ hl h h'
  · have hv : checkPair l = 0 := by
      refine Classical.byContradiction fun hc => hl (.inl ?_)
      unfold fineB; exact decide_eq_false hc
    exact kinds_yes l u n vl vu _ hv (by have := checkPair_len l hv; omega) (by omega) (by omega) hub h h'
end Go.Proofs.Ytbjmkmambmeifaa

namespace Go.Proofs.Ytbjmkmambmeifaa.crossKinds
open Go.ChangeShapes Go.WideShapes Go.ChangeAt Go.RowKit Go.Deep

set_option maxRecDepth 100000 in
theorem lifted (os : Os) (started : os.Started) (H : Type) (enc : TypeId × Value → H) :
    ReturnsInHanded {} Try.checked os 7 .any (Rows.crossKindsSpec.pre6 enc Try.prog Try.f7 Rows.crossKindsRow.domain false) (Rows.crossKindsSpec.post enc Try.prog Try.f7 false true false false) := by
  refine returnsInHanded_of_change (C := Try.checked) own started (by kernel_rfl) Try.func7
    (ChangeSpec.witness6 (enc := enc) (C := Try.checked) false ⟨#[], #[.slice none 0 0, .slice none 0 0, .int .u8 0], []⟩ 8 (by kernel_rfl) (by kernel_rfl) (by kernel_rfl) (by kernel_rfl)) ?_
  intro W base args ds gs before hval0 hW hcnd _
  have hval : ∀ (j : Nat) t v, Try.f7.params[j]? = some t → args[j]? = some v → Value.okWide Try.prog W .any base t v := hval0
  have hW2 : DataW.Whole enc Try.prog Try.f7.params.toList Rows.crossKindsSpec.vars false W args.toList ds gs before := hW
  obtain ⟨p, q, hA0, hV, rfl, hfz, hnd⟩ := hW
  have hA : DataW.TrodAll enc Try.prog W 0 (fun _ => true) true Try.f7.params.toList args.toList ds p := hA0
  rw [Try.params7] at hA hval
  obtain ⟨v0, vs0, d0, ds0, p0, q0, hargs, rfl, rfl, h0, r0⟩ := trodAll_cons hA
  obtain ⟨v1, vs1, d1, ds1, p1, q1, rfl, rfl, rfl, h1, r1⟩ := trodAll_cons r0
  obtain ⟨v2, vs2, d2, ds2, p2, q2, rfl, rfl, rfl, h2, r2⟩ := trodAll_cons r1
  obtain ⟨rfl, rfl, rfl⟩ := trodAll_nil r2
  obtain rfl : args = #[v0, v1, v2] := by cases args; simp_all
  obtain ⟨rfl, rfl⟩ := trodVars_none hV
  obtain ⟨l0, g0, m0⟩ := open_sts (hval 0 22 v0 rfl rfl) h0
  obtain ⟨l1, g1, k1, m1⟩ := open_u16s (hval 1 50 v1 rfl rfl) h1
  obtain ⟨l2, rfl, rfl, rfl, g2⟩ := open_int Try.underlying5 (hval 2 5 v2 rfl rfl) h2
  refine (kinds_row l0 v0 g0 m0 l1 v1 g1 k1 m1 l2 g2 W).mono fun e W' ⟨he, hg⟩ => ?_
  subst he
  exact ⟨_, rfl, law_done hW2 rfl rfl rfl (by rw [Try.params7]; decide +kernel) hg⟩

theorem over : Rows.crossKindsRow.holds Try.pinned (OpenSpec.ofChange Rows.crossKindsSpec) :=
  OpenClaim.holds_of_wide 7 Try.f7 rfl rfl rfl rfl rfl rfl rfl ⟨rfl, rfl, rfl, rfl, rfl⟩ rfl rfl rfl rfl rfl (by kernel_rfl) Try.func7 (by kernel_rfl)
    (of_decide_eq_true (by kernel_rfl)) (by unfold Func.isWrapper; first | (rw [if_pos (by decide +kernel)]; kernel_rfl) | (rw [if_neg (by decide +kernel)]; exact ⟨rfl, rfl⟩))
    (fun os started H enc _ => lifted os started H enc)

theorem proved : Rows.CrossKindsSaid :=
  over
end Go.Proofs.Ytbjmkmambmeifaa.crossKinds
namespace Go.Proofs.Ytbjmkmambmeifaa
theorem crossKinds_proved : Rows.CrossKindsSaid := crossKinds.proved
#print axioms crossKinds_proved
end Go.Proofs.Ytbjmkmambmeifaa
