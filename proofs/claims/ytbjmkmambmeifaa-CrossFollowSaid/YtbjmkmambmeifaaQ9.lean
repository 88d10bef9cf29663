/- Plain laws: what the kind of a station says. What the laws of valid pairs have in common: fine, a truth by numbers, the spans of valid pairs. Plain laws: the hull has a line at each station that is under all heights; so the heights that it gives meet everywhere. Plain laws: either there is a wedge, or there are heights that meet everywhere, and the greatest ones. Plain laws: at which tilts blades touch. Plain laws: where blades meet everywhere, spans follow one another. Arguments that are arrays of small numbers. CrossFollow: the walk. CrossFollow: the walk. CrossFollow answers true for every input: at the stations of a truth at which blades meet, the spans of tilts follow one another from the least tilt to the greatest. No condition. -/
import Derived.Test.YtbjmkmambmeifaaP16
import Derived.Test.YtbjmkmambmeifaaP3
import Derived.Test.YtbjmkmambmeifaaP23
import Derived.Test.YtbjmkmambmeifaaP24
import Derived.Test.YtbjmkmambmeifaaP10
import Derived.Test.YtbjmkmambmeifaaP19
import Derived.Test.YtbjmkmambmeifaaP2
import Derived.Test.YtbjmkmambmeifaaRows
set_option linter.all false
set_option linter.unnecessarySimpa false
set_option linter.unusedSimpArgs false
set_option linter.unusedVariables false
set_option linter.unusedSectionVars false

namespace Go.Proofs.Ytbjmkmambmeifaa
open Go.RowKit
namespace Ma

theorem ln_mono {l : List St} {hs hs' : List Int} (hg : Gd l) (hle : ∀ i, i < l.length → Y hs i ≤ Y hs' i) {i s k : Nat} (h1 : i < s) (h2 : s < k) (h3 : k < l.length) : ln l hs i s k ≤ ln l hs' i s k := by
  rw [le_ln hg (by omega) h3, ln_mul hg (by omega) h3]
  have y1 := hg.X h1 (by omega); have y2 := hg.X h2 h3
  have d1 := Rat.mul_le_mul_of_nonneg_right (hle i (by omega)) (show 0 ≤ X l k - X l s by grind)
  have d2 := Rat.mul_le_mul_of_nonneg_right (hle k h3) (show 0 ≤ X l s - X l i by grind)
  grind
theorem spanE_iff {l : List St} {hs : List Int} {s : Nat} {own : Int} (hg : Gd l) (hh : Hb l hs) (hs1 : s < l.length) (ho : -1000 ≤ own ∧ own ≤ 1000) : spanE l hs s own = 0 ↔ ∀ i k, i < s → s < k → k < l.length → (own : Rat) ≤ ln l hs i s k := by
  rw [← meets_span hg hh hs1 ho, meets_iff hg hh hs1 ho]
theorem spanE_two (l : List St) (hs : List Int) (s : Nat) (own : Int) : spanE l hs s own = 0 ∨ spanE l hs s own = 22 := by
  unfold spanE; split <;> simp
theorem over_sign {l : List St} {hs : List Int} {s : Nat} {own : Int} (hg : Gd l) (hh : Hb l hs) (hs1 : s < l.length) (ho : -1000 ≤ own ∧ own ≤ 1000) : 0 ≤ (overR l hs s own).num ∧ ((overR l hs s own).num ≤ 0 ↔ spanE l hs s own = 0) := by
  obtain ⟨a1, a2⟩ := over_spec hg hh hs1 ho
  have z : V ⟨0, 1⟩ = 0 := by rw [V_one]; rfl
  have p0 : (0 : Rat) ≤ V (overR l hs s own) := ((a2 _).1 Rat.le_refl).1
  constructor
  · rw [← z, V_le Int.one_pos a1.den] at p0
    simpa using p0
  · have e : (overR l hs s own).num ≤ 0 ↔ V (overR l hs s own) ≤ 0 := by
      rw [← z, V_le a1.den Int.one_pos]; simp
    rw [e, a2, spanE_iff hg hh hs1 ho]
    constructor
    · rintro ⟨_, h⟩ i k b c d
      have := h i k b c d; grind
    · intro h
      refine ⟨Rat.le_refl, fun i k b c d => ?_⟩
      have := h i k b c d; grind
/-- A truth: between the ends. -/
theorem truth_le {l : List St} {t : List Int} (h : checkTruth l t = 0) {i : Nat} (hi : i < l.length) : (nthS l i).lo ≤ nthI t i ∧ nthI t i ≤ (nthS l i).hi := by
  unfold checkTruth at h
  by_cases h1 : checkPair l ≠ 0
  · rw [if_pos h1] at h; exact absurd h h1
  · rw [if_neg h1] at h
    by_cases h2 : t.length ≠ l.length
    · rw [if_pos h2] at h; exact absurd h (by decide)
    · rw [if_neg h2] at h
      by_cases h3 : ∀ k, k < l.length → inSt l t k = true
      · have := h3 i hi
        simpa [inSt, inB] using this
      · rw [if_neg h3] at h; exact absurd h (by decide)
theorem truth_pair {l : List St} {t : List Int} (h : checkTruth l t = 0) : checkPair l = 0 ∧ t.length = l.length := by
  unfold checkTruth at h
  by_cases h1 : checkPair l ≠ 0
  · rw [if_pos h1] at h; exact absurd h h1
  · rw [if_neg h1] at h
    by_cases h2 : t.length ≠ l.length
    · rw [if_pos h2] at h; exact absurd h (by decide)
    · omega
theorem truth_hb {l : List St} {t : List Int} (h : checkTruth l t = 0) : Hb l t := fun i hi => by
  have h1 := truth_le h hi; have h2 := valid_at l (truth_pair h).1 i hi; omega
theorem truth_lo {l : List St} {t : List Int} (h : checkTruth l t = 0) {i : Nat} (hi : i < l.length) : Y (ends l false) i ≤ Y t i := by
  unfold Y; rw [ends_lo l hi]; exact Rat.intCast_le_intCast.2 (truth_le h hi).1
theorem truth_hi {l : List St} {t : List Int} (h : checkTruth l t = 0) {i : Nat} (hi : i < l.length) : Y t i ≤ Y (ends l true) i := by
  unfold Y; rw [ends_hi l hi]; exact Rat.intCast_le_intCast.2 (truth_le h hi).2

/-- Whether a station is the second one of a wedge. -/
def wedAt (l : List St) (s : Nat) : Bool := (List.range s).any fun i => (List.range l.length).any fun m => decide (s < m) && isWedgeB l i s m
theorem wedAt_iff {l : List St} {s : Nat} : wedAt l s = true ↔ ∃ i m, i < s ∧ s < m ∧ m < l.length ∧ isWedgeB l i s m = true := by
  unfold wedAt
  simp only [List.any_eq_true, List.mem_range, Bool.and_eq_true, decide_eq_true_eq]
  constructor
  · rintro ⟨i, hi, m, hm, hsm, hw⟩; exact ⟨i, m, hi, hsm, hm, hw⟩
  · rintro ⟨i, m, hi, hsm, hm, hw⟩; exact ⟨i, hi, m, hm, hsm, hw⟩

theorem kinds_law {l : List St} {t : List Int} {s : Nat} (h : checkTruth l t = 0) (hs : s < l.length) :
    (kindP l s = 0 ∧ spanE l (ends l true) s (nthS l s).lo = 22 ∧ spanE l (ends l false) s (nthS l s).hi = 22 ∧ spanE l t s (nthI t s) = 22 ∧ wedAt l s = true ∧ 0 < (overR l (ends l true) s (nthS l s).lo).num ∧ 0 < (overR l (ends l false) s (nthS l s).hi).num) ∨
    (kindP l s = 2 ∧ spanE l (ends l true) s (nthS l s).lo = 0 ∧ spanE l (ends l false) s (nthS l s).hi = 0 ∧ spanE l t s (nthI t s) = 0 ∧ wedAt l s = false ∧ (overR l (ends l true) s (nthS l s).lo).num = 0 ∧ (overR l (ends l false) s (nthS l s).hi).num = 0) ∨
    (kindP l s = 1 ∧ spanE l (ends l true) s (nthS l s).lo = 0 ∧ spanE l (ends l false) s (nthS l s).hi = 22 ∧ (spanE l t s (nthI t s) = 0 ∨ spanE l t s (nthI t s) = 22) ∧ wedAt l s = false ∧ (overR l (ends l true) s (nthS l s).lo).num = 0 ∧ 0 < (overR l (ends l false) s (nthS l s).hi).num) := by
  have hv := (truth_pair h).1
  have g := gd l hv
  have ht := truth_le h hs
  have h2 := valid_at l hv s hs
  have i1 := spanE_iff g (hb l true hv) hs (lo_rng l hv hs)
  have i2 := spanE_iff g (hb l false hv) hs (hi_rng l hv hs)
  have i4 := spanE_iff g (truth_hb h) hs (own := nthI t s) (by omega)
  have o1 := over_sign g (hb l true hv) hs (lo_rng l hv hs)
  have o2 := over_sign g (hb l false hv) hs (hi_rng l hv hs)
  have tl := Rat.intCast_le_intCast.2 ht.1
  have th := Rat.intCast_le_intCast.2 ht.2
  have s24 : spanE l (ends l false) s (nthS l s).hi = 0 → spanE l t s (nthI t s) = 0 := by
    rw [i2, i4]
    intro hA i k a b c
    have := hA i k a b c
    have m := ln_mono g (fun j hj => truth_lo h hj) a b c
    exact Rat.le_trans th (Rat.le_trans this m)
  have s41 : spanE l t s (nthI t s) = 0 → spanE l (ends l true) s (nthS l s).lo = 0 := by
    rw [i1, i4]
    intro hA i k a b c
    have := hA i k a b c
    have m := ln_mono g (fun j hj => truth_hi h hj) a b c
    exact Rat.le_trans tl (Rat.le_trans this m)
  have w1 : wedAt l s = false ↔ spanE l (ends l true) s (nthS l s).lo = 0 := by
    rw [← Bool.not_eq_true, wedAt_iff, i1]
    constructor
    · intro hn i k a b c
      rw [← Rat.not_lt, ← wedge_iff l hv a b c]
      exact fun hw => hn ⟨i, k, a, b, c, hw⟩
    · rintro hA ⟨i, k, a, b, c, hw⟩
      rw [wedge_iff l hv a b c] at hw
      have := hA i k a b c
      grind
  rw [kind_eq l hv s hs]
  unfold kindR
  rcases spanE_two l (ends l true) s (nthS l s).lo with e1 | e1
  · rcases spanE_two l (ends l false) s (nthS l s).hi with e2 | e2
    · refine .inr (.inl ⟨?_, e1, e2, s24 e2, w1.2 e1, ?_, ?_⟩)
      · rw [if_neg (fun hx => hx e1), if_neg (fun hx => hx e2)]
      · have := o1.2.2 e1; omega
      · have := o2.2.2 e2; omega
    · refine .inr (.inr ⟨?_, e1, e2, spanE_two .., w1.2 e1, ?_, ?_⟩)
      · rw [if_neg (fun hx => hx e1), if_pos (by omega)]
      · have := o1.2.2 e1; omega
      · have : ¬ (overR l (ends l false) s (nthS l s).hi).num ≤ 0 := fun hx => by have := o2.2.1 hx; omega
        omega
  · have n1 : spanE l (ends l true) s (nthS l s).lo ≠ 0 := by omega
    have e4 : spanE l t s (nthI t s) = 22 := by
      rcases spanE_two l t s (nthI t s) with e | e
      · exact absurd (s41 e) n1
      · exact e
    have e2 : spanE l (ends l false) s (nthS l s).hi = 22 := by
      rcases spanE_two l (ends l false) s (nthS l s).hi with e | e
      · have := s24 e; omega
      · exact e
    refine .inl ⟨?_, e1, e2, e4, ?_, ?_, ?_⟩
    · rw [if_pos n1]
    · cases hw : wedAt l s with
      | true => rfl
      | false => exact absurd (w1.1 hw) n1
    · have : ¬ (overR l (ends l true) s (nthS l s).lo).num ≤ 0 := fun hx => n1 (o1.2.1 hx)
      omega
    · have : ¬ (overR l (ends l false) s (nthS l s).hi).num ≤ 0 := fun hx => by have := o2.2.1 hx; omega
      omega
end Ma
end Go.Proofs.Ytbjmkmambmeifaa

namespace Go.Proofs.Ytbjmkmambmeifaa
open Go.RowKit

theorem fine_all (l : List St) (vl : Value) (w : World) (h : RSt w w.heap.size vl l) :
    Calls Try.prog 37 #[vl] w fun e w' => e = .returned (.bool (fineB l)) ∧ Below w.heap.size w w' := by
  by_cases hg : 35 < l.length
  · obtain ⟨A, cap, b, off, rfl, _, _⟩ := h.cells
    have d1 : decide (35 < (l.length : Int)) = true := by simp; omega
    have HF := Lib.hid (show fineB l = false by unfold fineB; rw [checkPair, if_pos (.inr (by omega))]; rfl)
    go_enter Try.func37, Try.ntmps37
    go_wp2_with fail
    refine (great_any _ _ _ _).mono ?_
    rintro e w1 ⟨rfl, rfl⟩
    go_wp2_with fail
    go_ret
    exact ⟨by rw [HF.out]; rfl, by (repeat (first | with_reducible assumption | with_reducible exact Below.refl _ _ | (with_reducible refine Below.setCell ?_ (by first | omega | (simp; omega) | (simp; done)) _) | (with_reducible refine Below.alloc ?_ (by first | omega | (simp; omega) | (simp; done)) _) | (with_reducible refine Below.drew ?_) | (with_reducible refine belowN ?_ _) | assumption | exact Below.refl _ _ | (refine Below.alloc ?_ (by first | omega | (simp; omega) | (simp; done)) _) | (refine Below.drew ?_) | (refine belowN ?_ _) | (refine Below.setCell ?_ (by first | omega | (simp; omega) | (simp; done)) _)))⟩
  · exact fine_any l vl w (by omega) h
/-- A truth by numbers is one. -/
theorem truthR_ok {l : List St} (u : List Int) (hv : checkPair l = 0) (hu : ∀ k, k < u.length → 0 ≤ nthI u k ∧ nthI u k ≤ 65535) : checkTruth l (truthR l u) = 0 := by
  refine checkTruth_ok l _ hv (truthR_length l u) (fun k hk => ?_)
  unfold inSt
  rw [truthR_at l u k hk]
  have h := valid_at l hv k hk
  unfold truthAt
  have : 0 ≤ (if 0 < u.length then nthI u (k % u.length) % ((nthS l k).hi - (nthS l k).lo + 1) else 0) ∧ (if 0 < u.length then nthI u (k % u.length) % ((nthS l k).hi - (nthS l k).lo + 1) else 0) ≤ (nthS l k).hi - (nthS l k).lo := by
    split
    · have h1 := Int.emod_nonneg (nthI u (k % u.length)) (show (nthS l k).hi - (nthS l k).lo + 1 ≠ 0 by omega)
      have h2 := Int.emod_lt_of_pos (nthI u (k % u.length)) (show 0 < (nthS l k).hi - (nthS l k).lo + 1 by omega)
      omega
    · omega
  simp [inB]
  omega

theorem kindsP_len2 {l : List St} (hv : checkPair l = 0) : (kindsP l).length = l.length := by simp [kindsP, hv]
theorem groundV_ok {l : List St} (hv : checkPair l = 0) {s : Nat} (hs : s < l.length) : groundV l s = .tuple #[.agg #[.int .i64 (overR l (ends l true) s (nthS l s).lo).num, .int .i64 (overR l (ends l true) s (nthS l s).lo).den, .int .i64 (overR l (ends l false) s (nthS l s).hi).num, .int .i64 (overR l (ends l false) s (nthS l s).hi).den], .int .i64 0] := by
  unfold groundV
  rw [if_neg (by rw [checkStation, if_neg (by simpa using hv), if_pos (by omega)]; simp), Int.toNat_natCast]
theorem tiltsV_ok {l : List St} {t : List Int} (h : checkTruth l t = 0) {s : Nat} (hs : s < l.length) : tiltsV l t s = spanV l t s (nthI t s) := by
  unfold tiltsV
  rw [if_neg (by simpa using h), if_neg (by simp; omega), Int.toNat_natCast]

end Go.Proofs.Ytbjmkmambmeifaa

namespace Go.Proofs.Ytbjmkmambmeifaa
open Go.RowKit
namespace Ma

theorem hull_sup {l : List St} {hs : List Int} (hg : Gd l) (hh : Hb l hs) {i : Nat} (hi : i < l.length) :
    ∃ al mu : Rat, (∀ v, v < l.length → al + mu * X l v ≤ Y hs v) ∧ V (heightR l hs (hullR l hs l.length).reverse (nthS l i).a) = al + mu * X l i := by
  obtain ⟨m, hm⟩ : ∃ m, l.length = m + 1 := ⟨l.length - 1, by omega⟩
  have hcv := hullR_cv (hs := hs) hg m (by omega)
  rw [← hm] at hcv
  obtain ⟨c1, c2, c3, c4, c5⟩ := cv_list hg _ hcv.1 (by rw [hcv.2]; simp; omega)
  rw [hcv.2] at c3
  have hlen : (hullR l hs l.length).reverse.length = (hullR l hs l.length).length := by simp
  generalize (hullR l hs l.length).reverse = L at *
  generalize (hullR l hs l.length).length = N at *
  have c3' : nm L (N - 1) = m := by simpa using c3
  clear hcv c3
  -- vertices rise
  have hmono : ∀ a b, a ≤ b → b < N → nm L a ≤ nm L b := by
    intro a b
    induction b with
    | zero => intro h _; obtain rfl : a = 0 := by omega
              exact Nat.le_refl _
    | succ b ih =>
      intro h1 h2
      rcases Nat.lt_or_ge b a with h | h
      · obtain rfl : a = b + 1 := by omega
        exact Nat.le_refl _
      · have := ih h (by omega); have := (c4 b h2).1; omega
  have hlt : ∀ j, j < N → nm L j < l.length := fun j hj => by have := hmono j (N - 1) (by omega) (by omega); omega
  have hx : ∀ e, e + 1 < N → X l (nm L e) < X l (nm L (e + 1)) := fun e he => hg.X (c4 e he).1 (hlt _ he)
  have hsup : ∀ e v, e + 1 < N → v < l.length → Y hs (nm L e) + slp (fun j => Y hs (nm L j)) (fun j => X l (nm L j)) e * (X l v - X l (nm L e)) ≤ Y hs v := by
    intro e v he hv
    have hv0 := conv_support (H := fun j => Y hs (nm L j)) (x := fun j => X l (nm L j)) hx c5 e
    generalize slp (fun j => Y hs (nm L j)) (fun j => X l (nm L j)) e = mm at *
    obtain ⟨j, hj, hij, hmin⟩ := least_idx (L := L) (i := v) N ⟨N - 1, by omega, by omega⟩
    rcases Nat.lt_or_eq_of_le hij with h | h
    · rcases Nat.eq_zero_or_pos j with h0 | h0
      · subst h0; omega
      obtain ⟨j, rfl⟩ : ∃ j', j = j' + 1 := ⟨j - 1, by omega⟩
      have hp := hmin j (by omega)
      have a := (c4 j hj).2 v hp h
      have b1 := hv0 j he (by omega)
      have b2 := hv0 (j + 1) he hj
      refine Rat.le_trans ?_ a
      rw [le_ln hg (by omega) (hlt _ hj)]
      have y1 := hg.X hp hv; have y2 := hg.X h (hlt _ hj)
      have d1 := Rat.mul_le_mul_of_nonneg_right b1 (show 0 ≤ X l (nm L (j + 1)) - X l v by grind)
      have d2 := Rat.mul_le_mul_of_nonneg_right b2 (show 0 ≤ X l v - X l (nm L j) by grind)
      grind
    · rw [h]; exact hv0 j he hj
  obtain ⟨j, hj, hij, hmin⟩ := least_idx (L := L) (i := i) N ⟨N - 1, by omega, by omega⟩
  have ha : ∀ j', j' < j → (nthS l (nm L j')).a < (nthS l i).a := fun j' hj' => hg.up _ _ (hmin j' hj') hi
  rcases Nat.lt_or_eq_of_le hij with h | h
  · rcases Nat.eq_zero_or_pos j with h0 | h0
    · subst h0; omega
    obtain ⟨j, rfl⟩ : ∃ j', j = j' + 1 := ⟨j - 1, by omega⟩
    rw [heightR_gt l hs L _ (j + 1) (by omega) ha (hg.up _ _ h (hlt _ hj))]
    have hp := hmin j (by omega)
    obtain ⟨o1, o2⟩ := line_ok hg hh hi (nm L j) (nm L (j + 1)) hp h (hlt _ hj)
    rw [Nat.add_sub_cancel, o2]
    have e1 := slp_mul (H := fun j => Y hs (nm L j)) (x := fun j => X l (nm L j)) hx j hj
    have hs' := fun v hv => hsup j v hj hv
    generalize slp (fun j => Y hs (nm L j)) (fun j => X l (nm L j)) j = mm at *
    refine ⟨Y hs (nm L j) - mm * X l (nm L j), mm, fun v hv => ?_, ?_⟩
    · have := hs' v hv
      grind
    · have y3 := hg.X hp hi; have y4 := hg.X h (hlt _ hj)
      unfold ln
      have : X l (nm L (j + 1)) - X l (nm L j) ≠ 0 := by grind
      have e3 : Y hs (nm L (j + 1)) = Y hs (nm L j) + mm * (X l (nm L (j + 1)) - X l (nm L j)) := by grind
      rw [e3]
      clear hsup hs' c4 c5 hmono hmin ha hlt hx
      grind
  · rw [heightR_eq l hs L _ j (by omega) ha (by rw [← h]), ← h, V_one]
    show ∃ al mu : Rat, _ ∧ Y hs i = _
    rcases Nat.eq_zero_or_pos j with h0 | h0
    · subst h0
      rcases Nat.lt_or_ge 1 N with hN | hN
      · have hs' := fun v hv => hsup 0 v hN hv
        rw [← h] at hs'
        generalize slp (fun j => Y hs (nm L j)) (fun j => X l (nm L j)) 0 = mm at *
        refine ⟨Y hs i - mm * X l i, mm, fun v hv => ?_, ?_⟩
        · have := hs' v hv
          clear hsup hs' c4 c5 hmono hmin ha hlt hx
          grind
        · clear hsup hs' c4 c5 hmono hmin ha hlt hx
          grind
      · have hN1 : N = 1 := by omega
        have hm0 : m = 0 := by rw [← c3', hN1]; exact c2
        refine ⟨Y hs i, 0, fun v hv => ?_, ?_⟩
        · obtain rfl : v = i := by omega
          grind
        · grind
    · obtain ⟨j, rfl⟩ : ∃ j', j = j' + 1 := ⟨j - 1, by omega⟩
      have e1 := slp_mul (H := fun j => Y hs (nm L j)) (x := fun j => X l (nm L j)) hx j hj
      have hs' := fun v hv => hsup j v hj hv
      generalize slp (fun j => Y hs (nm L j)) (fun j => X l (nm L j)) j = mm at *
      rw [← h] at e1
      refine ⟨Y hs (nm L j) - mm * X l (nm L j), mm, fun v hv => ?_, ?_⟩
      · have := hs' v hv
        clear hsup hs' c4 c5 hmono hmin ha hlt hx
        grind
      · clear hsup hs' c4 c5 hmono hmin ha hlt hx
        grind

/-- The heights that are returned meet everywhere. -/
theorem hP_conv {l : List St} (h : checkPair l = 0) {i k m : Nat} (h1 : i < k) (h2 : k < m) (h3 : m < l.length) :
    V (hP l k) * (X l m - X l i) ≤ V (hP l i) * (X l m - X l k) + V (hP l m) * (X l k - X l i) := by
  have g := gd l h
  obtain ⟨al, mu, hsup, he⟩ := hull_sup g (hb l true h) (show k < l.length by omega)
  have he' : V (hP l k) = al + mu * X l k := he
  have low : ∀ v, v < l.length → al + mu * X l v ≤ V (hP l v) := by
    intro v hv
    rw [(hP_spec l h hv).2]
    refine ⟨hsup v hv, fun i' k' a b c => ?_⟩
    rw [le_ln g (by omega) c]
    have y1 := g.X a hv; have y2 := g.X b c
    have d1 := Rat.mul_le_mul_of_nonneg_right (hsup i' (by omega)) (show 0 ≤ X l k' - X l v by grind)
    have d2 := Rat.mul_le_mul_of_nonneg_right (hsup k' c) (show 0 ≤ X l v - X l i' by grind)
    grind
  have y1 := g.X h1 (by omega); have y2 := g.X h2 h3
  have d1 := Rat.mul_le_mul_of_nonneg_right (low i (by omega)) (show 0 ≤ X l m - X l k by grind)
  have d2 := Rat.mul_le_mul_of_nonneg_right (low m h3) (show 0 ≤ X l k - X l i by grind)
  rw [he']
  grind
end Ma
end Go.Proofs.Ytbjmkmambmeifaa

namespace Go.Proofs.Ytbjmkmambmeifaa
open Go.RowKit
namespace Ma

theorem lessW_V2 {a b : Ra} (ha : 0 < a.den) (ha2 : a.den ≤ 1000000000) (ha3 : -1000000000 ≤ a.num) (ha4 : a.num ≤ 1000000000) (hb : 0 < b.den) (hb2 : b.den ≤ 1000000000) (hb3 : -1000000000 ≤ b.num) (hb4 : b.num ≤ 1000000000) : lessW a b = decide (V a < V b) := by
  unfold lessW
  obtain ⟨p1, p2⟩ := mul_bd ha3 ha4 hb hb2
  obtain ⟨q1, q2⟩ := mul_bd hb3 hb4 ha ha2
  rw [wrap_id p1 p2, wrap_id q1 q2]
  simp only [V_lt ha hb]
/-- What is true of allowed heights. -/
theorem chB_at {l : List St} {h : List Ra} {k : Nat} : chB l h k = true ↔ 1 ≤ (nthR h k).den ∧ (nthR h k).den ≤ 1000 ∧ -1000000 ≤ (nthR h k).num ∧ (nthR h k).num ≤ 1000000 ∧ (nthS l k).lo * (nthR h k).den ≤ (nthR h k).num ∧ (nthR h k).num ≤ (nthS l k).hi * (nthR h k).den := by
  simp [chB, inB]
  constructor
  · rintro ⟨⟨a, b⟩, ⟨c, d⟩, e, f⟩; exact ⟨a, b, c, d, e, f⟩
  · rintro ⟨a, b, c, d, e, f⟩; exact ⟨⟨a, b⟩, ⟨c, d⟩, e, f⟩
theorem checkHP_zero {l : List St} {h : List Ra} : checkHP l h = 0 ↔ checkPair l = 0 ∧ h.length = l.length ∧ (∀ k, k < l.length → chB l h k = true) ∧ ∀ i k m, i < k → k < m → m < l.length → gapeB l h i k m = false := by
  rw [check_eq]
  unfold checkHR
  by_cases h0 : checkPair l = 0
  · rw [if_neg (fun hx => hx h0)]
    by_cases h1 : h.length = l.length
    · rw [if_neg (fun hx => hx h1)]
      by_cases h2 : ∀ k, k < l.length → chB l h k = true
      · rw [if_pos h2, ← noGape_iff]
        by_cases h3 : noGape l h = true
        · rw [if_pos h3]; exact ⟨fun _ => ⟨h0, h1, h2, h3⟩, fun _ => rfl⟩
        · rw [if_neg h3]; exact ⟨fun hx => absurd hx (by decide), fun hx => absurd hx.2.2.2 h3⟩
      · rw [if_neg h2]; exact ⟨fun hx => absurd hx (by decide), fun hx => absurd hx.2.2.1 h2⟩
    · rw [if_pos h1]; exact ⟨fun hx => absurd hx (by decide), fun hx => absurd hx.2.1 h1⟩
  · rw [if_pos h0]; exact ⟨fun hx => absurd hx h0, fun hx => absurd hx.1 h0⟩
theorem V_range {r : Ra} {a b : Int} (hd : 0 < r.den) : (a * r.den ≤ r.num ↔ (a : Rat) ≤ V r) ∧ (r.num ≤ b * r.den ↔ V r ≤ (b : Rat)) := by
  constructor
  · rw [← V_one, V_le Int.one_pos hd]; simp
  · rw [← V_one, V_le hd Int.one_pos]; simp
/-- Heights that are allowed and meet everywhere are nowhere above the greatest ones. -/
theorem given_le {l : List St} {g : List Ra} (hz : checkHP l g = 0) {k : Nat} (hk : k < l.length) : V (nthR g k) ≤ V (hP l k) := by
  obtain ⟨h0, h1, h2, h3⟩ := checkHP_zero.1 hz
  have hc := chB_at.1 (h2 k hk)
  have gg := gd l h0
  have hi : ∀ j, j < l.length → V (nthR g j) ≤ Y (ends l true) j := by
    intro j hj
    have := chB_at.1 (h2 j hj)
    unfold Y; rw [ends_hi l hj]
    exact (V_range (a := 0) (by omega)).2.1 this.2.2.2.2.2
  rw [(hP_spec l h0 hk).2]
  refine ⟨hi k hk, fun i m a b c => ?_⟩
  have hg := h3 i k m a b c
  rw [← Bool.not_eq_true, bend_iff l g (by have := chB_at.1 (h2 i (by omega)); omega) (by omega) (by have := chB_at.1 (h2 m c); omega), Rat.not_lt] at hg
  rw [le_ln gg (by omega) c]
  have y1 := gg.X a hk; have y2 := gg.X b c
  have d1 := Rat.mul_le_mul_of_nonneg_right (hi i (by omega)) (show 0 ≤ X l m - X l k by grind)
  have d2 := Rat.mul_le_mul_of_nonneg_right (hi m c) (show 0 ≤ X l k - X l i by grind)
  grind
theorem wedge_no {l : List St} {g : List Ra} {i k m : Nat} (a : i < k) (b : k < m) (c : m < l.length) (hw : isWedgeB l i k m = true) : checkHP l g ≠ 0 := by
  intro hz
  obtain ⟨h0, h1, h2, h3⟩ := checkHP_zero.1 hz
  have hk : k < l.length := by omega
  have hc := chB_at.1 (h2 k hk)
  have e := (V_range (r := nthR g k) (a := (nthS l k).lo) (b := 0) (by omega)).1.1 hc.2.2.2.2.1
  have q := given_le hz hk
  have := ((hP_spec l h0 hk).2 _).1 Rat.le_refl
  have := this.2 i m a b c
  rw [wedge_iff l h0 a b c] at hw
  grind
theorem hP_den {l : List St} (h : checkPair l = 0) {i : Nat} (hi : i < l.length) : (hP l i).den ≤ 1000 := by
  rw [height_eq l h i hi]
  unfold hR
  split
  · rename_i hc
    exact (least_rng l true h i hc.1).2.2
  · show (1 : Int) ≤ 1000; decide
theorem nthR_map {l : List St} (f : Nat → Ra) {i : Nat} (hi : i < l.length) : nthR ((List.range l.length).map f) i = f i := by simp [nthR, hi]
theorem either_none {l : List St} (h : checkPair l = 0) (hw : wedgeF l = none) : heightsErrP l = 0 ∧ (heightsP l).length = l.length ∧ checkHP l (heightsP l) = 0 ∧ (∀ i k m, i < k → k < m → m < l.length → isWedgeB l i k m = false) ∧
    ∀ g, checkHP l g = 0 → ∀ i, i < l.length → lessW (nthR (heightsP l) i) (nthR g i) = false := by
  have he : heightsErrP l = 0 := by rw [heightsErr_eq]; unfold heightsErrR; rw [if_neg (fun hx => hx h), hw]; simp
  have hnw : ∀ i k m, i < k → k < m → m < l.length → isWedgeB l i k m = false := by
    intro i k m a b c
    rw [← Bool.not_eq_true]
    intro hx
    have := wedgeF_iff.2 ⟨i, k, m, a, b, c, hx⟩
    rw [hw] at this; cases this
  have hf : heightsP l = (List.range l.length).map (hP l) := by unfold heightsP; rw [if_pos he]
  have hlo : ∀ k, k < l.length → ((nthS l k).lo : Rat) ≤ V (hP l k) ∧ V (hP l k) ≤ ((nthS l k).hi : Rat) := by
    intro k hk
    have hs := hP_spec l h hk
    constructor
    · rw [hs.2]
      refine ⟨?_, fun i m a b c => ?_⟩
      · unfold Y; rw [ends_hi l hk]; exact Rat.intCast_le_intCast.2 (valid_at l h k hk).2.2.2.1
      · rw [← Rat.not_lt, ← wedge_iff l h a b c, hnw i k m a b c]; simp
    · have := ((hs.2 _).1 Rat.le_refl).1
      unfold Y at this; rw [ends_hi l hk] at this; exact this
  refine ⟨he, by rw [hf]; simp, checkHP_zero.2 ⟨h, by rw [hf]; simp, fun k hk => ?_, fun i k m a b c => ?_⟩, hnw, fun g hz i hi => ?_⟩
  · rw [chB_at, hf, nthR_map _ hk]
    have hd := (hP_spec l h hk).1.den
    have hd2 := hP_den h hk
    have e1 := (V_range (r := hP l k) (a := (nthS l k).lo) (b := (nthS l k).hi) hd).1.2 (hlo k hk).1
    have e2 := (V_range (r := hP l k) (a := (nthS l k).lo) (b := (nthS l k).hi) hd).2.2 (hlo k hk).2
    have hv := valid_at l h k hk
    have m1 := mul_rng (a := (nthS l k).lo) (b := (hP l k).den) (by omega) (by omega) (by omega) hd2
    have m2 := mul_rng (a := (nthS l k).hi) (b := (hP l k).den) (by omega) (by omega) (by omega) hd2
    omega
  · rw [← Bool.not_eq_true, hf, bend_iff l _ (by rw [nthR_map _ (show i < l.length by omega)]; exact (hP_spec l h (show i < l.length by omega)).1.den) (by rw [nthR_map _ (show k < l.length by omega)]; exact (hP_spec l h (show k < l.length by omega)).1.den) (by rw [nthR_map _ c]; exact (hP_spec l h c).1.den), nthR_map _ (show i < l.length by omega), nthR_map _ (show k < l.length by omega), nthR_map _ c, Rat.not_lt]
    exact hP_conv h a b c
  · rw [hf, nthR_map _ hi]
    have hc := chB_at.1 ((checkHP_zero.1 hz).2.2.1 i hi)
    have ho := (hP_spec l h hi).1
    rw [lessW_V2 ho.den ho.den2 ho.num1 ho.num2 (by omega) (by omega) (by omega) (by omega)]
    have := given_le hz hi
    simp; grind
theorem either_some {l : List St} {t : List Int} {i k m : Nat} (ht : checkTruth l t = 0) (hw : wedgeF l = some (i, k, m)) : i < k ∧ k < m ∧ m < l.length ∧ isWedgeB l i k m = true ∧ spanE l t k (nthI t k) = 22 ∧ heightsErrP l = 22 ∧ heightsP l = [] ∧ ∀ g, checkHP l g ≠ 0 := by
  have h := (truth_pair ht).1
  obtain ⟨a, b, c, d⟩ := wedgeF_some hw
  have he : heightsErrP l = 22 := by rw [heightsErr_eq]; unfold heightsErrR; rw [if_neg (fun hx => hx h), hw]; simp
  refine ⟨a, b, c, d, ?_, he, by unfold heightsP; rw [if_neg (by omega)], fun g => wedge_no a b c d⟩
  have hk : k < l.length := by omega
  rcases kinds_law ht hk with hA | hA | hA
  · exact hA.2.2.2.1
  · have : wedAt l k = true := wedAt_iff.2 ⟨i, m, a, b, c, d⟩
    rw [hA.2.2.2.2.1] at this; cases this
  · have : wedAt l k = true := wedAt_iff.2 ⟨i, m, a, b, c, d⟩
    rw [hA.2.2.2.2.1] at this; cases this
end Ma
end Go.Proofs.Ytbjmkmambmeifaa

namespace Go.Proofs.Ytbjmkmambmeifaa
open Go.RowKit
namespace Ma

theorem lo_mem {l : List St} {hs : List Int} {s : Nat} {own : Int} (hg : Gd l) (hh : Hb l hs) (hs1 : s < l.length) (ho : -1000 ≤ own ∧ own ≤ 1000) : -10000 ≤ (loB l hs s own).num ∧ (loB l hs s own).num ≤ 10000 ∧ 0 < (loB l hs s own).den ∧ (loB l hs s own).den ≤ 1000 := by
  have hall : ∀ r, r ∈ ⟨-10000, 1⟩ :: los l hs s own → OkR r := by
    intro r hr
    rcases List.mem_cons.1 hr with rfl | hr
    · exact okR_one _ (by decide) (by decide)
    · obtain ⟨i, hi, rfl⟩ := List.mem_map.1 hr
      exact (los_ok hg hh hs1 ho i (List.mem_range.1 hi)).1
  have hm := (best_max ⟨-10000, 1⟩ (los l hs s own) hall).1
  rcases List.mem_cons.1 hm with h | h
  · unfold loB; rw [h]; decide
  · obtain ⟨i, hi, he⟩ := List.mem_map.1 h
    have hi := List.mem_range.1 hi
    unfold loB; rw [← he]
    have h1 := hg.up i s hi hs1; have h2 := hg.a1 i (by omega); have h3 := hg.a2 s hs1; have h4 := hh i (by omega)
    have := frac_bounds (own - nthI hs i) ((nthS l s).a - (nthS l i).a) (by omega)
    omega
theorem hi_mem {l : List St} {hs : List Int} {s : Nat} {own : Int} (hg : Gd l) (hh : Hb l hs) (hs1 : s < l.length) (ho : -1000 ≤ own ∧ own ≤ 1000) : -10000 ≤ (hiB l hs s own).num ∧ (hiB l hs s own).num ≤ 10000 ∧ 0 < (hiB l hs s own).den ∧ (hiB l hs s own).den ≤ 1000 := by
  have hall : ∀ r, r ∈ ⟨10000, 1⟩ :: his l hs s own → OkR r := by
    intro r hr
    rcases List.mem_cons.1 hr with rfl | hr
    · exact okR_one _ (by decide) (by decide)
    · obtain ⟨i, hi, rfl⟩ := List.mem_map.1 hr
      have := List.mem_range.1 hi
      exact (his_ok hg hh hs1 ho (s + 1 + i) (by omega) (by omega)).1
  have hm := (best_min ⟨10000, 1⟩ (his l hs s own) hall).1
  rcases List.mem_cons.1 hm with h | h
  · unfold hiB; rw [h]; decide
  · obtain ⟨i, hi, he⟩ := List.mem_map.1 h
    have hi := List.mem_range.1 hi
    unfold hiB; rw [← he]
    have hk2 : s + 1 + i < l.length := by omega
    have h1 := hg.up s (s + 1 + i) (by omega) hk2; have h2 := hg.a1 s (by omega); have h3 := hg.a2 _ hk2; have h4 := hh _ hk2
    have := frac_bounds (nthI hs (s + 1 + i) - own) ((nthS l (s + 1 + i)).a - (nthS l s).a) (by omega)
    omega

theorem tilt_V {x : Ra} (h : isTilt x = true) : 0 < x.den ∧ -10000 ≤ V x ∧ V x ≤ 10000 := by
  have := tilt_at x h
  have hd : 0 < x.den := by omega
  refine ⟨hd, ?_, ?_⟩
  · have := (V_range (r := x) (a := -10000) (b := 0) hd).1.1 (by omega)
    exact this
  · have := (V_range (r := x) (a := 0) (b := 10000) hd).2.1 (by omega)
    exact this
/-- The height at a station along a tilt. -/
theorem ctV_le {l : List St} {t : List Int} {x : Ra} (hd : 0 < x.den) {i k : Nat} : ctV l t x i ≤ ctV l t x k ↔ Y t i - V x * X l i ≤ Y t k - V x * X l k := by
  have hp := rpos hd
  unfold ctV
  rw [← Rat.intCast_le_intCast]
  simp only [Rat.intCast_sub, Rat.intCast_mul]
  rw [V_num hd]
  show Y t i * _ - V x * _ * X l i ≤ Y t k * _ - V x * _ * X l k ↔ _
  constructor
  · intro h
    refine Rat.le_of_mul_le_mul_right (c := (x.den : Rat)) ?_ hp
    grind
  · intro h
    have := Rat.mul_le_mul_of_nonneg_right h (Rat.le_of_lt hp)
    grind
theorem ctLeast_iff {l : List St} {t : List Int} {x : Ra} (hd : 0 < x.den) {i : Nat} : ctLeast l t x i = true ↔ ∀ k, k < l.length → Y t i - V x * X l i ≤ Y t k - V x * X l k := by
  unfold ctLeast
  simp only [List.all_eq_true, List.mem_range, decide_eq_true_eq]
  exact ⟨fun h k hk => (ctV_le hd).1 (h k hk), fun h k hk => (ctV_le hd).2 (h k hk)⟩
theorem ct_exists (l : List St) (t : List Int) (x : Ra) (h0 : 0 < l.length) : ∃ i, i < l.length ∧ ctLeast l t x i = true := by
  have key : ∀ n, 0 < n → ∃ i, i < n ∧ ∀ k, k < n → ctV l t x i ≤ ctV l t x k := by
    intro n
    induction n with
    | zero => intro h; omega
    | succ n ih =>
      intro _
      rcases Nat.eq_zero_or_pos n with hz | hz
      · subst hz; exact ⟨0, by omega, fun k hk => by rw [show k = 0 from by omega]; exact Int.le_refl _⟩
      · obtain ⟨i, hi, hA⟩ := ih hz
        by_cases hc : ctV l t x i ≤ ctV l t x n
        · refine ⟨i, by omega, fun k hk => ?_⟩
          rcases Nat.lt_succ_iff_lt_or_eq.1 hk with h | rfl
          · exact hA k h
          · exact hc
        · refine ⟨n, by omega, fun k hk => ?_⟩
          rcases Nat.lt_succ_iff_lt_or_eq.1 hk with h | rfl
          · have := hA k h; omega
          · exact Int.le_refl _
  obtain ⟨i, hi, hA⟩ := key _ h0
  refine ⟨i, hi, ?_⟩
  unfold ctLeast
  simp only [List.all_eq_true, List.mem_range, decide_eq_true_eq]
  exact hA
/-- Along a greater tilt blades touch no earlier. -/
theorem travels {l : List St} {t : List Int} {x y : Ra} (hg : Gd l) (hx : 0 < x.den) (hy : 0 < y.den) (hlt : V x < V y) {i k : Nat} (hi : i < l.length) (hk : k < l.length) (h1 : ctLeast l t x i = true) (h2 : ctLeast l t y k = true) : i ≤ k := by
  have a := (ctLeast_iff hx).1 h1 k hk
  have b := (ctLeast_iff hy).1 h2 i hi
  refine Nat.le_of_not_lt fun hc => ?_
  have c := hg.X hc hi
  have d := Rat.mul_lt_mul_of_pos_right (show V x - V y < 0 by grind) (show 0 < X l i - X l k by grind)
  grind
/-- Blades touch at a station along a tilt just if the tilt is in its span. -/
theorem inside_iff {l : List St} {t : List Int} {x : Ra} (h : checkTruth l t = 0) (hx : isTilt x = true) {i : Nat} (hi : i < l.length) :
    (V (loB l t i (nthI t i)) ≤ V x ∧ V x ≤ V (hiB l t i (nthI t i))) ↔ ctLeast l t x i = true := by
  have hv := (truth_pair h).1
  have g := gd l hv
  obtain ⟨hd, t1, t2⟩ := tilt_V hx
  have ho := truth_hb h i hi
  rw [ctLeast_iff hd, lo_le g (truth_hb h) hi ho, le_hi g (truth_hb h) hi ho]
  have e1 : ∀ j, j < i → (sl1 l t i (nthI t i) j ≤ V x ↔ Y t i - V x * X l i ≤ Y t j - V x * X l j) := by
    intro j hj
    have := g.X hj hi
    unfold sl1
    rw [rdiv_le' (by grind)]
    show Y t i - Y t j ≤ _ ↔ _
    constructor <;> intro h <;> grind
  have e2 : ∀ k, i < k → k < l.length → (V x ≤ sl2 l t i (nthI t i) k ↔ Y t i - V x * X l i ≤ Y t k - V x * X l k) := by
    intro k hk hk2
    have := g.X hk hk2
    unfold sl2
    rw [le_rdiv (by grind)]
    show _ ≤ Y t k - Y t i ↔ _
    constructor <;> intro h <;> grind
  constructor
  · rintro ⟨⟨_, a⟩, _, b⟩ k hk
    rcases Nat.lt_trichotomy k i with hc | rfl | hc
    · exact (e1 k hc).1 (a k hc)
    · exact Rat.le_refl
    · exact (e2 k hc hk).1 (b k hc hk)
  · intro hA
    exact ⟨⟨t1, fun j hj => (e1 j hj).2 (hA j (by omega))⟩, t2, fun k hk hk2 => (e2 k hk hk2).2 (hA k hk2)⟩
theorem ct_mem {l : List St} {t : List Int} {x : Ra} (he : contactErr l t x = 0) {k : Nat} (hk : k < (contactL l t x).length) : ∃ i : Nat, nthI (contactL l t x) k = i ∧ i < l.length ∧ ctLeast l t x i = true := by
  have hf : contactL l t x = ((List.range l.length).filter (ctLeast l t x)).map (fun (i : Nat) => (i : Int)) := by unfold contactL; rw [if_pos he]
  rw [hf] at hk ⊢
  have hk' : k < ((List.range l.length).filter (ctLeast l t x)).length := by simpa using hk
  have hm := List.getElem_mem hk'
  refine ⟨((List.range l.length).filter (ctLeast l t x))[k], by simp [nthI, hk'], ?_, ?_⟩
  · exact List.mem_range.1 (List.mem_filter.1 hm).1
  · exact (List.mem_filter.1 hm).2
theorem ct_any {l : List St} {t : List Int} {x : Ra} (he : contactErr l t x = 0) {i : Nat} (hi : i < l.length) : ((List.range (contactL l t x).length).any fun k => nthI (contactL l t x) k == (i : Int)) = ctLeast l t x i := by
  rw [Bool.eq_iff_iff]
  simp only [List.any_eq_true, List.mem_range, beq_iff_eq]
  constructor
  · rintro ⟨k, hk, h⟩
    obtain ⟨j, hj, hj2, hj3⟩ := ct_mem he hk
    rw [hj] at h
    obtain rfl : j = i := by omega
    exact hj3
  · intro h
    have hf : contactL l t x = ((List.range l.length).filter (ctLeast l t x)).map (fun (i : Nat) => (i : Int)) := by unfold contactL; rw [if_pos he]
    have hm : i ∈ (List.range l.length).filter (ctLeast l t x) := List.mem_filter.2 ⟨List.mem_range.2 hi, h⟩
    obtain ⟨k, hk, hke⟩ := List.getElem_of_mem hm
    refine ⟨k, by rw [hf]; simpa using hk, ?_⟩
    rw [hf]
    simp [nthI, hk, hke]
theorem ct_ne {l : List St} {t : List Int} {x : Ra} (he : contactErr l t x = 0) (h0 : 0 < l.length) : 0 < (contactL l t x).length := by
  obtain ⟨i, hi, h⟩ := ct_exists l t x h0
  have := ct_any he hi
  rw [h] at this
  simp only [List.any_eq_true, List.mem_range] at this
  obtain ⟨k, hk, _⟩ := this
  omega
/-- The tests of the law, in whole numbers. -/
theorem in_num {l : List St} {t : List Int} {x : Ra} (h : checkTruth l t = 0) (hx : isTilt x = true) {i : Nat} (hi : i < l.length) :
    (decide ((loB l t i (nthI t i)).num * x.den ≤ x.num * (loB l t i (nthI t i)).den) && decide (x.num * (hiB l t i (nthI t i)).den ≤ (hiB l t i (nthI t i)).num * x.den)) = ctLeast l t x i := by
  have hv := (truth_pair h).1
  have g := gd l hv
  obtain ⟨hd, _, _⟩ := tilt_V hx
  have ho := truth_hb h i hi
  obtain ⟨_, _, d1, _⟩ := lo_mem g (truth_hb h) hi ho
  obtain ⟨_, _, d2, _⟩ := hi_mem g (truth_hb h) hi ho
  rw [Bool.eq_iff_iff, Bool.and_eq_true, decide_eq_true_eq, decide_eq_true_eq, ← V_le d1 hd, ← V_le hd d2]
  exact inside_iff h hx hi
theorem in_err {l : List St} {t : List Int} {x : Ra} (h : checkTruth l t = 0) (hx : isTilt x = true) {i : Nat} (hi : i < l.length) (he : spanE l t i (nthI t i) = 22) : ctLeast l t x i = false := by
  have hv := (truth_pair h).1
  have g := gd l hv
  have ho := truth_hb h i hi
  obtain ⟨a1, _⟩ := lo_spec g (truth_hb h) hi ho
  obtain ⟨b1, _⟩ := hi_spec g (truth_hb h) hi ho
  rw [← Bool.not_eq_true, ← inside_iff h hx hi]
  rintro ⟨p, q⟩
  unfold spanE at he
  rw [lessW_V b1 a1] at he
  have : ¬ V (hiB l t i (nthI t i)) < V (loB l t i (nthI t i)) := by
    have := Rat.le_trans p q
    rw [Rat.not_lt]; exact this
  rw [if_neg (by simpa using this)] at he
  exact absurd he (by decide)
end Ma
end Go.Proofs.Ytbjmkmambmeifaa

namespace Go.Proofs.Ytbjmkmambmeifaa
open Go.RowKit
namespace Ma

theorem mk_valid {l : List St} (h0 : 0 < l.length) (h1 : l.length ≤ 25) (hb : ∀ k, k < l.length → 0 ≤ (nthS l k).a ∧ (nthS l k).a ≤ 1000 ∧ -1000 ≤ (nthS l k).lo ∧ (nthS l k).lo ≤ (nthS l k).hi ∧ (nthS l k).hi ≤ 1000)
    (hi : ∀ k, k + 1 < l.length → (nthS l k).a < (nthS l (k + 1)).a) : checkPair l = 0 := by
  unfold checkPair
  rw [if_neg (by omega), if_pos]
  intro k hk
  have h := hb k hk
  have hp : prevSt l k ≤ (nthS l k).a := by
    unfold prevSt
    by_cases hz : k = 0
    · rw [if_pos hz]; omega
    · rw [if_neg hz]
      have := hi (k - 1) (by omega)
      rw [show k - 1 + 1 = k by omega] at this
      omega
  simp [okSt, goodSt, inB]
  omega
/-- Spans follow one another. -/
theorem follow {l : List St} {t : List Int} (h : checkTruth l t = 0) (hA : ∀ j, j < l.length → spanE l t j (nthI t j) = 0) {j : Nat} (hj : j + 1 < l.length) : loB l t (j + 1) (nthI t (j + 1)) = hiB l t j (nthI t j) := by
  have hv := (truth_pair h).1
  have g := gd l hv
  have hh := truth_hb h
  have o1 := hh j (by omega)
  have o2 := hh (j + 1) hj
  obtain ⟨a1, _, a2, a3⟩ := lo_spec g hh hj o2
  obtain ⟨b1, _, b2, b3⟩ := hi_spec g hh (show j < l.length by omega) o1
  have tch : ∀ i s k, i < s → s < k → k < l.length → Y t s ≤ ln l t i s k := fun i s k x y z => (spanE_iff g hh (show s < l.length by omega) (hh s (by omega))).1 (hA s (by omega)) i k x y z
  have e : sl1 l t (j + 1) (nthI t (j + 1)) j = sl2 l t j (nthI t j) (j + 1) := rfl
  have bd := (slope_bd g hh hj o2).1 j (by omega)
  refine OkR.ext a1 b1 (Rat.le_antisymm ?_ ?_)
  · refine Rat.le_trans ?_ (?_ : sl1 l t (j + 1) (nthI t (j + 1)) j ≤ _)
    · rw [lo_le g hh hj o2]
      refine ⟨by grind, fun i hi => ?_⟩
      rcases Nat.lt_succ_iff_lt_or_eq.1 hi with hc | rfl
      · have q := tch i j (j + 1) hc (by omega) hj
        rw [le_ln g (by omega) hj] at q
        have y1 := g.X hc (by omega); have y2 := g.X (show j < j + 1 by omega) hj
        unfold sl1
        rw [rdiv_le (by grind) (by grind)]
        show (Y t (j + 1) - Y t i) * _ ≤ (Y t (j + 1) - Y t j) * _
        grind
      · exact Rat.le_refl
    · rw [le_hi g hh (show j < l.length by omega) o1]
      refine ⟨by grind, fun k hk hk2 => ?_⟩
      rcases Nat.eq_or_lt_of_le (show j + 1 ≤ k by omega) with rfl | hc
      · rw [e]; exact Rat.le_refl
      · have q := tch j (j + 1) k (by omega) hc hk2
        rw [le_ln g (by omega) hk2] at q
        have y1 := g.X hc hk2; have y2 := g.X (show j < j + 1 by omega) hj
        unfold sl1 sl2
        rw [rdiv_le (by grind) (by grind)]
        show (Y t (j + 1) - Y t j) * _ ≤ (Y t k - Y t j) * _
        grind
  · refine Rat.le_trans (b3 (j + 1) (by omega) hj) ?_
    rw [← e]
    exact a3 j (by omega)
theorem lo_first (l : List St) (t : List Int) (own : Int) : loB l t 0 own = ⟨-10000, 1⟩ := by simp [loB, los, bestF]
theorem hi_last {l : List St} (t : List Int) (own : Int) {s : Nat} (hs : s + 1 = l.length) : hiB l t s own = ⟨10000, 1⟩ := by
  unfold hiB his
  rw [show l.length - (s + 1) = 0 by omega]
  simp [bestF]

/-- The stations at which blades meet. -/
def flt (l : List St) (t : List Int) (n : Nat) : List Nat := (List.range n).filter fun i => decide (spanE l t i (nthI t i) = 0)
def fx (l : List St) (t : List Int) (n : Nat) : List St := (flt l t n).map (nthS l)
def fy (l : List St) (t : List Int) (n : Nat) : List Int := (flt l t n).map (nthI t)
theorem flt_succ (l : List St) (t : List Int) (n : Nat) : flt l t (n + 1) = flt l t n ++ if spanE l t n (nthI t n) = 0 then [n] else [] := by
  unfold flt
  rw [List.range_succ, List.filter_append]
  congr 1
  by_cases h : spanE l t n (nthI t n) = 0 <;> simp [h]
theorem fx_yes {l : List St} {t : List Int} {n : Nat} (h : spanE l t n (nthI t n) = 0) : fx l t (n + 1) = fx l t n ++ [nthS l n] ∧ fy l t (n + 1) = fy l t n ++ [nthI t n] := by
  unfold fx fy; rw [flt_succ, if_pos h]; simp
theorem fx_no {l : List St} {t : List Int} {n : Nat} (h : spanE l t n (nthI t n) = 22) : fx l t (n + 1) = fx l t n ∧ fy l t (n + 1) = fy l t n := by
  unfold fx fy; rw [flt_succ, if_neg (by omega)]; simp
theorem flt_len (l : List St) (t : List Int) (n : Nat) : (flt l t n).length ≤ n := by
  unfold flt; exact Nat.le_trans (List.length_filter_le _ _) (by simp)
theorem flt_at {l : List St} {t : List Int} {n j : Nat} (hj : j < (flt l t n).length) : (flt l t n)[j] < n ∧ spanE l t (flt l t n)[j] (nthI t (flt l t n)[j]) = 0 := by
  have hm := List.getElem_mem hj
  unfold flt at hm ⊢
  have := List.mem_filter.1 hm
  exact ⟨List.mem_range.1 this.1, by simpa using this.2⟩
theorem flt_lt {l : List St} {t : List Int} {n i j : Nat} (hij : i < j) (hj : j < (flt l t n).length) : (flt l t n)[i] < (flt l t n)[j] := by
  have hp : (flt l t n).Pairwise (· < ·) := List.Pairwise.filter _ List.pairwise_lt_range
  exact List.pairwise_iff_getElem.1 hp i j (by omega) hj hij
theorem fx_at {l : List St} {t : List Int} {n j : Nat} (hj : j < (flt l t n).length) : nthS (fx l t n) j = nthS l (flt l t n)[j] ∧ nthI (fy l t n) j = nthI t (flt l t n)[j] := by
  constructor
  · simp [nthS, fx, hj]
  · simp [nthI, fy, hj]
theorem fx_len (l : List St) (t : List Int) (n : Nat) : (fx l t n).length = (flt l t n).length ∧ (fy l t n).length = (flt l t n).length := by simp [fx, fy]
/-- All that the law needs of the stations at which blades meet. -/
theorem met {l : List St} {t : List Int} (h : checkTruth l t = 0) : 0 < (fx l t l.length).length ∧ checkTruth (fx l t l.length) (fy l t l.length) = 0 ∧
    ∀ j, j < (fx l t l.length).length → spanE (fx l t l.length) (fy l t l.length) j (nthI (fy l t l.length) j) = 0 := by
  have hv := (truth_pair h).1
  have g := gd l hv
  have hh := truth_hb h
  obtain ⟨hn0, hn1⟩ := checkPair_len l hv
  obtain ⟨e1, e2⟩ := fx_len l t l.length
  have h0 : 0 < (flt l t l.length).length := by
    have : 0 ∈ flt l t l.length := by
      unfold flt
      refine List.mem_filter.2 ⟨List.mem_range.2 hn0, ?_⟩
      have : spanE l t 0 (nthI t 0) = 0 := (spanE_iff g hh hn0 (hh 0 hn0)).2 fun i k a _ _ => absurd a (Nat.not_lt_zero _)
      simpa using this
    exact List.length_pos_of_mem this
  have hlen := flt_len l t l.length
  have hvx : checkPair (fx l t l.length) = 0 := by
    refine mk_valid (by omega) (by omega) (fun k hk => ?_) (fun k hk => ?_)
    · rw [e1] at hk
      rw [(fx_at hk).1]
      exact valid_at l hv _ (flt_at hk).1
    · rw [e1] at hk
      rw [(fx_at hk).1, (fx_at (show k < (flt l t l.length).length by omega)).1]
      exact g.up _ _ (flt_lt (Nat.lt_succ_self k) hk) (flt_at hk).1
  have htx : checkTruth (fx l t l.length) (fy l t l.length) = 0 := by
    refine checkTruth_ok _ _ hvx (by omega) (fun k hk => ?_)
    rw [e1] at hk
    unfold inSt
    rw [(fx_at hk).1, (fx_at hk).2]
    have := truth_le h (flt_at hk).1
    simp [inB]; omega
  refine ⟨by omega, htx, fun j hj => ?_⟩
  have gx := gd _ hvx
  rw [spanE_iff gx (truth_hb htx) hj (truth_hb htx j hj)]
  intro i k a b c
  rw [e1] at c hj
  have hi' : i < (flt l t l.length).length := by omega
  have q := (spanE_iff g hh (flt_at hj).1 (hh _ (flt_at hj).1)).1 (flt_at hj).2 _ _ (flt_lt a hj) (flt_lt b c) (flt_at c).1
  have eX : ∀ m (hm : m < (flt l t l.length).length), X (fx l t l.length) m = X l (flt l t l.length)[m] := fun m hm => by unfold X; rw [(fx_at hm).1]
  have eY : ∀ m (hm : m < (flt l t l.length).length), Y (fy l t l.length) m = Y t (flt l t l.length)[m] := fun m hm => by unfold Y; rw [(fx_at hm).2]
  unfold ln at q ⊢
  rw [eX i hi', eX j hj, eX k c, eY i hi', eY k c, (fx_at hj).2]
  exact q
end Ma
end Go.Proofs.Ytbjmkmambmeifaa

namespace Go.Proofs.Ytbjmkmambmeifaa
open Go.ChangeShapes Go.WideShapes Go.ChangeAt Go.RowKit Go.Deep

section
variable {H : Type} {enc : TypeId × Value → H} {w : World} {base : Nat} {spare : Nat → Bool} {held : Bool} {P : Program}
theorem okWide_arr {r : Reach} {b0 : Nat} {t : TypeId} {n : Nat} {e : TypeId} {v : Value} (ht : P.underlying t = some (.array n e)) (h : Value.okWide P w r b0 t v) : ∃ cs, v = .agg cs ∧ cs.size = P.cellsOf t := by
  simp only [Value.okWide, ht] at h
  obtain ⟨cs, h1, h2, _⟩ := h
  exact ⟨cs, h1, h2⟩
theorem arr_int {t e : TypeId} {n : Nat} {k : IntKind} (ht : P.underlying t = some (.array n e)) (he : P.underlying e = some (.int k)) (hc : P.cellsOf e = 1) {fuel : Nat} {cs : List Value} {x : DataW H × List MemPlace}
    (h : DataW.trod enc P w base spare held fuel t cs = some x) : ∀ i, i < n → ∃ m, cs[i]? = some (.int k m) ∧ (Lit.int k m).wf = true := by
  obtain ⟨xs, m, _, _, hcl, hxl, hf⟩ := DataW.trod_array ht h
  intro i hi
  have h1 := hf i hi
  rw [hc, Nat.mul_one] at h1
  rw [List.getElem?_eq_getElem (show i < xs.length by omega)] at h1
  obtain ⟨y, e0, _, w0⟩ := DataW.trod_int he h1
  refine ⟨y, ?_, w0⟩
  have : ((cs.drop i).take 1)[0]? = some (.int k y) := by rw [e0]; rfl
  rw [List.getElem?_take_of_lt (by decide), List.getElem?_drop] at this
  simpa using this
end
section
variable {H : Type} {enc : TypeId × Value → H} {w : World} {base : Nat} {spare : Nat → Bool} {held : Bool}
theorem cells5 : Try.prog.cellsOf 5 = 1 := by kernel_rfl
theorem cells51 : Try.prog.cellsOf 51 = 3 := by kernel_rfl
theorem cells66 : Try.prog.cellsOf 66 = 2 := by kernel_rfl
theorem byte_wf {n : Int} (h : (Lit.int .u8 n).wf = true) : ∃ m : Nat, n = m ∧ m ≤ 255 := by
  have hb : 0 ≤ n ∧ n ≤ 255 := by simpa [Lit.wf, IntKind.min, IntKind.max, IntKind.signed, IntKind.bits] using h
  exact ⟨n.toNat, by omega, by omega⟩
theorem word_wf {n : Int} (h : (Lit.int .u16 n).wf = true) : ∃ m : Nat, n = m ∧ m ≤ 65535 := by
  have hb : 0 ≤ n ∧ n ≤ 65535 := by simpa [Lit.wf, IntKind.min, IntKind.max, IntKind.signed, IntKind.bits] using h
  exact ⟨n.toNat, by omega, by omega⟩
set_option maxRecDepth 100000 in
theorem open_a3 {v : Value} {d : DataW H} {ps : List MemPlace} {r : Reach} {b0 : Nat} (hval : Value.okWide Try.prog w r b0 51 v) (hd : DataW.Trod enc Try.prog w base spare held 51 v d ps) : ∃ x y z : Nat, v = .agg #[.int .u8 x, .int .u8 y, .int .u8 z] ∧ x ≤ 255 ∧ y ≤ 255 ∧ z ≤ 255 := by
  obtain ⟨cs, rfl, hsz⟩ := okWide_arr Try.underlying51 hval
  obtain ⟨fuel, hd⟩ := hd
  have hA := arr_int Try.underlying51 Try.underlying5 cells5 hd
  obtain ⟨x, h0, w0⟩ := hA 0 (by decide)
  obtain ⟨y, h1, w1⟩ := hA 1 (by decide)
  obtain ⟨z, h2, w2⟩ := hA 2 (by decide)
  obtain ⟨x, rfl, q0⟩ := byte_wf w0
  obtain ⟨y, rfl, q1⟩ := byte_wf w1
  obtain ⟨z, rfl, q2⟩ := byte_wf w2
  refine ⟨x, y, z, ?_, q0, q1, q2⟩
  rw [cells51] at hsz
  congr 1
  apply Array.ext
  · simpa using hsz
  · intro i hi _
    have hc : ∀ j (hj : j < cs.size) v, (Value.agg cs).cells.toList[j]? = some v → cs[j] = v := by
      intro j hj v hv
      have hv' : cs.toList[j]? = some v := hv
      rw [Array.getElem?_toList, Array.getElem?_eq_getElem hj] at hv'
      exact Option.some.inj hv'
    match i, hi with
    | 0, hi => exact hc 0 hi _ h0
    | 1, hi => exact hc 1 hi _ h1
    | 2, hi => exact hc 2 hi _ h2
    | i + 3, hi => omega
set_option maxRecDepth 100000 in
theorem open_a2 {v : Value} {d : DataW H} {ps : List MemPlace} {r : Reach} {b0 : Nat} (hval : Value.okWide Try.prog w r b0 66 v) (hd : DataW.Trod enc Try.prog w base spare held 66 v d ps) : ∃ x y : Nat, v = .agg #[.int .u16 x, .int .u16 y] ∧ x ≤ 65535 ∧ y ≤ 65535 := by
  obtain ⟨cs, rfl, hsz⟩ := okWide_arr Try.underlying66 hval
  obtain ⟨fuel, hd⟩ := hd
  have hA := arr_int Try.underlying66 Try.underlying65 cells65 hd
  obtain ⟨x, h0, w0⟩ := hA 0 (by decide)
  obtain ⟨y, h1, w1⟩ := hA 1 (by decide)
  obtain ⟨x, rfl, q0⟩ := word_wf w0
  obtain ⟨y, rfl, q1⟩ := word_wf w1
  refine ⟨x, y, ?_, q0, q1⟩
  rw [cells66] at hsz
  congr 1
  apply Array.ext
  · simpa using hsz
  · intro i hi _
    have hc : ∀ j (hj : j < cs.size) v, (Value.agg cs).cells.toList[j]? = some v → cs[j] = v := by
      intro j hj v hv
      have hv' : cs.toList[j]? = some v := hv
      rw [Array.getElem?_toList, Array.getElem?_eq_getElem hj] at hv'
      exact Option.some.inj hv'
    match i, hi with
    | 0, hi => exact hc 0 hi _ h0
    | 1, hi => exact hc 1 hi _ h1
    | i + 2, hi => omega
end
end Go.Proofs.Ytbjmkmambmeifaa

namespace Go.Proofs.Ytbjmkmambmeifaa
open Go.RowKit

theorem own_keep {W W' : World} {base e e' sz n : Nat} {v : Value} {xs : List Value} (h : W.ownsRow base e sz v n xs) (hk : ∀ k cs t, BK W k cs t → t ≠ e' → BK W' k cs t) (hne : e ≠ e') : W'.ownsRow base e sz v n xs := by
  obtain ⟨hl, h2⟩ := h
  refine ⟨hl, ?_⟩
  rcases h2 with h2 | ⟨g, cap, cur, h3, h4, h5, h6⟩
  · exact .inl h2
  · exact .inr ⟨g, cap, cur, h3, h4, hk _ _ _ h5 hne, h6⟩
/-- What is appended, the element lying in a block that is known. -/
theorem app_b {P : Program} {t e size bytes : Nat} {z : Value} (hinf : (P.info? e).map (fun i => (i.zero, i.size, i.bytes)) = some (some z, size, bytes)) (ht : P.underlying t = some (.slice e)) (hzs : z.cells.size = size) (hsz : 0 < size) (hb1 : bytes ≤ 1000)
    {base n : Nat} {W : World} {xs news : List Value} {v : Value} (hown : W.ownsRow base e size v n xs) {g tn : Nat} (hg : BK W g news.toArray tn) (hl : news.length = size) (h1 : ∀ u ∈ news, u.oneCell' = true) (hn : n ≤ 100000) (hbase : base ≤ W.heap.size) (ty : Nat) :
    ∃ v' w2, (Builtin.append_ #[t, t] ty #[v, .slice (some ⟨g, 0, none⟩) 1 1]).run P W = .ok v' w2 ∧ w2.ownsRow base e size v' (n + 1) (xs ++ news) ∧ (∀ w0, Below base w0 W → Below base w0 w2) ∧ W.heap.size ≤ w2.heap.size ∧ (∀ k cs t, BK W k cs t → t ≠ e → BK w2 k cs t) := by
  obtain ⟨i0, hi0, hz0, hz1, hz2⟩ := info_parts hinf
  obtain ⟨g', cap', w2, hrun, hown', hgr, _⟩ := app1 (P := P) t ty e i0 z size bytes ht hi0 hz0 hz1 hz2 hzs hsz hb1 base W v n xs hown g news tn hg hl h1 hn hbase
  refine ⟨_, w2, hrun, hown', fun w0 hbw => Below.grown hbw hgr hbase fun k hk => (hown.lt k hk).1, hgr.size, ?_⟩
  intro k cs t hk hte
  refine hk.grown hgr ?_
  intro hq
  obtain ⟨c, hc⟩ := own_block hown hq.symm
  unfold BK at hk
  rw [hk] at hc; injection hc with hc; injection hc with _ hc; exact hte hc
theorem app_b_st {W : World} {base g tn : Nat} {v : Value} {l : List St} {x : St} (h : OwnS W base v l) (hg : BK W g #[.int .i64 x.a, .int .i64 x.lo, .int .i64 x.hi] tn) (hn : l.length ≤ 100000) (hbase : base ≤ W.heap.size) :
    ∃ v' w2, (Builtin.append_ #[22, 22] 22 #[v, .slice (some ⟨g, 0, none⟩) 1 1]).run Try.prog W = .ok v' w2 ∧ OwnS w2 base v' (l ++ [x]) ∧ (∀ w0, Below base w0 W → Below base w0 w2) ∧ W.heap.size ≤ w2.heap.size ∧ (∀ k cs t, BK W k cs t → t ≠ 62 → BK w2 k cs t) := by
  obtain ⟨v', w2, h1, h2, h3⟩ := app_b (news := [.int .i64 x.a, .int .i64 x.lo, .int .i64 x.hi]) st_info st_slice rfl (by decide) (by decide) h hg rfl (by simp [Value.oneCell']) hn hbase 22
  refine ⟨v', w2, h1, ?_, h3⟩
  unfold OwnS
  rw [← ofS_app, List.length_append]
  exact h2
theorem app_b_i64 {W : World} {base g tn : Nat} {v : Value} {l : List Int} {x : Int} (h : OwnI 2 W base v l) (hg : BK W g #[.int .i64 x] tn) (hn : l.length ≤ 100000) (hbase : base ≤ W.heap.size) :
    ∃ v' w2, (Builtin.append_ #[23, 23] 23 #[v, .slice (some ⟨g, 0, none⟩) 1 1]).run Try.prog W = .ok v' w2 ∧ OwnI 2 w2 base v' (l ++ [x]) ∧ (∀ w0, Below base w0 W → Below base w0 w2) ∧ W.heap.size ≤ w2.heap.size ∧ (∀ k cs t, BK W k cs t → t ≠ 2 → BK w2 k cs t) := by
  obtain ⟨v', w2, h1, h2, h3⟩ := app_b (news := [.int .i64 x]) i64_info i64_slice rfl (by decide) (by decide) h hg rfl (by simp [Value.oneCell']) hn hbase 23
  refine ⟨v', w2, h1, ?_, h3⟩
  unfold OwnI
  rw [← ofI_app, List.length_append]
  exact h2
end Go.Proofs.Ytbjmkmambmeifaa

namespace Go.Proofs.Ytbjmkmambmeifaa
open Go.RowKit

set_option maxRecDepth 100000 in
theorem follow_no (l : List St) (u : List Int) (vl vu : Value) (w : World) (hl : fineB l = false ∨ 40 < u.length) (h : RSt w w.heap.size vl l) (h' : RU w w.heap.size vu u) :
    Calls Try.prog 9 #[vl, vu] w fun e w' => e = .returned (.bool true) ∧ Below w.heap.size w w' := by
  obtain ⟨A2, cap2, bu, offu, rfl, _, _⟩ := h'
  have hf := fine_all l vl w h
  obtain ⟨p, hp⟩ : ∃ p, fineB l = p := ⟨_, rfl⟩
  obtain ⟨q, hq⟩ : ∃ q, decide (40 < (u.length : Int)) = q := ⟨_, rfl⟩
  have ho : p = false ∨ (p = true ∧ q = true) := by
    rcases hl with hl | hl
    · exact .inl (hp.symm.trans hl)
    · cases p with
      | false => exact .inl rfl
      | true => exact .inr ⟨rfl, by rw [← hq]; simp; omega⟩
  rw [hp] at hf
  have HF := Lib.hid hf
  clear hl hf h hp
  rcases ho with rfl | ⟨rfl, rfl⟩
  all_goals
    go_enter Try.func9, Try.ntmps9
    go_wp2_with fail
    refine HF.out.mono ?_
    rintro e w1 ⟨rfl, hb0⟩
    go_wp2_with fail
    refine (works_any _).mono ?_
    rintro e w2 ⟨rfl, hb1⟩
    go_wp2_with fail
    go_ret
    exact ⟨rfl, hb0.trans (hb1.mono hb0.size)⟩

/-- The end of the last span so far. -/
def lastR (l : List St) (t : List Int) : Nat → Ra
  | 0 => ⟨-10000, 1⟩
  | j + 1 => hiB l t j (nthI t j)
theorem refTilts_ok {l : List St} {t : List Int} (h : checkTruth l t = 0) {s : Nat} (hs : s < l.length) : tiltsV l t s = spanV l t s (nthI t s) := tiltsV_ok h hs
theorem spanV_0 {l : List St} {hs : List Int} {s : Nat} {own : Int} (h : spanE l hs s own = 0) : spanV l hs s own = .tuple #[.agg #[.int .i64 (loB l hs s own).num, .int .i64 (loB l hs s own).den, .int .i64 (hiB l hs s own).num, .int .i64 (hiB l hs s own).den], .int .i64 0] := by
  unfold spanE at h; unfold spanV
  split at h
  · exact absurd h (by decide)
  · rename_i hc; rw [if_neg hc]

set_option maxRecDepth 100000 in
set_option maxHeartbeats 8000000 in
theorem follow_yes (l : List St) (u : List Int) (vl vu : Value) (w : World) (hv : checkPair l = 0) (hu : ¬ 40 < u.length) (hub : ∀ k, k < u.length → 0 ≤ nthI u k ∧ nthI u k ≤ 65535) (h : RSt w w.heap.size vl l) (h' : RU w w.heap.size vu u) :
    Calls Try.prog 9 #[vl, vu] w fun e w' => e = .returned (.bool true) ∧ Below w.heap.size w w' := by
  have hn := checkPair_len l hv
  have hF := fine_all l vl w h
  rw [show fineB l = true from decide_eq_true hv] at hF
  have htv := truthR_ok u hv hub
  have hTr := fun W (hb : Below w.heap.size w W) => truth_any l u vl vu W hv (by omega) hub ((RS.below h hb).more hb.size) ((RS.below h' hb).more hb.size)
  have hP : ∀ W v (i : Nat), i < l.length → Below w.heap.size w W → RI W W.heap.size v (truthR l u) → Calls Try.prog 17 #[vl, v, .int .i64 i] W fun e w' => e = .returned (spanV l (truthR l u) i (nthI (truthR l u) i)) ∧ Below W.heap.size W w' := by
    intro W v i hi hb hr
    have h1 := tilts_any l (truthR l u) i vl v W (by omega) (by rw [truthR_length]; omega) ((RS.below h hb).more hb.size) hr
    rw [tiltsV_ok htv hi] at h1
    exact h1
  have hR : ∀ W v (i : Nat), i < l.length → Below w.heap.size w W → RI W W.heap.size v (truthR l u) → Calls Try.prog 18 #[vl, v, .int .i64 i] W fun e w' => e = .returned (spanV l (truthR l u) i (nthI (truthR l u) i)) ∧ Below W.heap.size W w' := by
    intro W v i hi hb hr
    have h1 := refTilts_any l (truthR l u) i vl v W (by omega) (by rw [truthR_length]; omega) ((RS.below h hb).more hb.size) hr
    rw [tiltsV_ok htv hi] at h1
    exact h1
  have htl := truthR_length l u
  obtain ⟨m0, mtx, mA⟩ := Ma.met htv
  have hfl := Ma.flt_len l (truthR l u) l.length
  have hfe := Ma.fx_len l (truthR l u) l.length
  generalize truthR l u = tt at *
  have hQ : ∀ W vx vy (j : Nat), j < (Ma.fx l tt l.length).length → RSt W W.heap.size vx (Ma.fx l tt l.length) → RI W W.heap.size vy (Ma.fy l tt l.length) → Calls Try.prog 17 #[vx, vy, .int .i64 j] W fun e w' => e = .returned (.tuple #[.agg #[.int .i64 (lastR (Ma.fx l tt l.length) (Ma.fy l tt l.length) j).num, .int .i64 (lastR (Ma.fx l tt l.length) (Ma.fy l tt l.length) j).den, .int .i64 (lastR (Ma.fx l tt l.length) (Ma.fy l tt l.length) (j + 1)).num, .int .i64 (lastR (Ma.fx l tt l.length) (Ma.fy l tt l.length) (j + 1)).den], .int .i64 0]) ∧ Below W.heap.size W w' := by
    intro W vx vy j hj hx hy
    have h1 := tilts_any (Ma.fx l tt l.length) (Ma.fy l tt l.length) j vx vy W (by omega) (by omega) hx hy
    rw [tiltsV_ok mtx hj, spanV_0 (mA j hj)] at h1
    have e : loB (Ma.fx l tt l.length) (Ma.fy l tt l.length) j (nthI (Ma.fy l tt l.length) j) = lastR (Ma.fx l tt l.length) (Ma.fy l tt l.length) j := by
      cases j with
      | zero => exact Ma.lo_first _ _ _
      | succ j => exact Ma.follow mtx mA hj
    rw [e] at h1
    exact h1
  have hlast : lastR (Ma.fx l tt l.length) (Ma.fy l tt l.length) (Ma.fx l tt l.length).length = ⟨10000, 1⟩ := by
    obtain ⟨m, hm⟩ : ∃ m, (Ma.fx l tt l.length).length = m + 1 := ⟨_, (Nat.succ_pred_eq_of_pos m0).symm⟩
    rw [hm]
    exact Ma.hi_last _ _ hm.symm
  have hxl : (Ma.fx l tt l.length).length ≤ 25 := by omega
  have HF := Lib.hid hF; have HT := Lib.hid hTr; have HP := Lib.hid hP; have HR := Lib.hid hR; have HQ := Lib.hid hQ; have HLAST := Lib.hid hlast; have HTL := Lib.hid htl
  obtain ⟨A, cap, bl, off, rfl, hA, q0⟩ := h.cells
  obtain ⟨rfl, hbl_⟩ := hA (by omega)
  have HCL := Lib.hid q0
  obtain ⟨A2, cap2, bu, offu, rfl, q1, q2, q3⟩ := h'
  have d2 : decide (40 < (u.length : Int)) = false := by simp; omega
  clear hF hTr hP hR hQ hlast htl hfl hfe m0 mtx mA htv hA q0 q1 q2 q3 hv hub h hu
  have hC : Below w.heap.size w w := Below.refl _ _
  go_enter Try.func9, Try.ntmps9
  go_wp2_with fail
  refine (HF.out).mono ?_
  rintro e w1 ⟨rfl, hb⟩
  have hC2 : Below w.heap.size w w1 := hC.trans (hb.mono hC.size)
  clear hC; have hC := hC2; clear hC2
  clear hb
  go_wp2_with fail
  refine (HT.out w1 hC).mono ?_
  rintro e w2 ⟨vt, rfl, ht, hb⟩
  have hC2 : Below w.heap.size w w2 := hC.trans (hb.mono hC.size)
  clear hC; have hC := hC2; clear hC2
  clear hb
  have HTT := Lib.hid ht
  obtain ⟨At, capt, bt, offt, rfl, hAt, hct⟩ := RI.cells ht
  rw [HTL.out] at hAt hct
  obtain ⟨rfl, hbt⟩ := hAt (by omega)
  have HCT := Lib.hid hct
  clear hAt hct ht
  go_wp2_with fail
  go_loopw [6, 7, 8] (fun xv yv iv wr => ∃ i : Nat, i ≤ l.length ∧ iv = .int .i64 i ∧ OwnS wr w2.heap.size xv (Ma.fx l tt i) ∧ OwnI 2 wr w2.heap.size yv (Ma.fy l tt i) ∧ Below w2.heap.size w2 wr) (fun _ _ i _ => l.length - (intOf i).toNat)
  case atStart => exact ⟨0, Nat.zero_le _, rfl, OwnS.nil _ _, OwnI.nil _ _ _, Below.refl _ _⟩
  case round =>
    obtain ⟨i, hi, rfl, ox, oy, hbr⟩ := hrel
    have hxi : (Ma.fx l tt i).length ≤ 25 := by have := Ma.flt_len l tt i; have := (Ma.fx_len l tt i).1; omega
    have hyi : (Ma.fy l tt i).length ≤ 25 := by have := Ma.flt_len l tt i; have := (Ma.fx_len l tt i).2; omega
    by_cases hil : i < l.length
    · have hbw := hC.trans (hbr.mono hC.size)
      have hp := HP.out wr _ i hil hbw ((RS.below HTT.out hbr).more hbr.size)
      have hcl := HCL.out i hil
      have hct := HCT.out i hil
      rw [← hC.cell (by exact hbl_), ← hC.cell (by exact hbl_), ← hC.cell (by exact hbl_)] at hcl
      obtain ⟨cl0, cl1, cl2⟩ := hcl
      have hbl0 : bl < w2.heap.size := Nat.lt_of_lt_of_le hbl_ hC.size
      obtain ⟨c1, c2, c3, c4, hsv⟩ := spanV_formE l tt i (nthI tt i)
      have hit : i < tt.length := by rw [HTL.out]; exact hil
      rcases Ma.spanE_two l tt i (nthI tt i) with he | he
      · skip
        rw [he] at hsv
        rw [hsv] at hp
        have HPP := Lib.hid hp
        have HSV := Lib.hid hsv
        have HFX := Lib.hid (Ma.fx_yes he)
        clear hp hsv he
        go_wp2_with fail
        refine HPP.out.mono ?_
        rintro e wp ⟨rfl, hb⟩
        have ox_ := OwnS.below ox hb; clear ox; have ox := ox_; clear ox_
        have oy_ := OwnI.below oy hb; clear oy; have oy := oy_; clear oy_
        have hbx : Below w2.heap.size w2 wp := hbr.trans (hb.mono hbr.size)
        clear hb
        go_wp2_with fail
        have hb : Below wp.heap.size wp (wp.alloc (.cells #[.int .i64 c1, .int .i64 c2, .int .i64 c3, .int .i64 c4] 34)) := Below.alloc (Below.refl _ _) (Nat.le_refl _) _
        have ox_ := OwnS.below ox hb; clear ox; have ox := ox_; clear ox_
        have oy_ := OwnI.below oy hb; clear oy; have oy := oy_; clear oy_
        have hby : Below w2.heap.size w2 (wp.alloc (.cells #[.int .i64 c1, .int .i64 c2, .int .i64 c3, .int .i64 c4] 34)) := by have := hbx.size; (repeat (first | with_reducible assumption | with_reducible exact Below.refl _ _ | (with_reducible refine Below.setCell ?_ (by first | omega | (simp; omega) | (simp; done)) _) | (with_reducible refine Below.alloc ?_ (by first | omega | (simp; omega) | (simp; done)) _) | (with_reducible refine Below.drew ?_) | (with_reducible refine belowN ?_ _) | assumption | exact Below.refl _ _ | (refine Below.alloc ?_ (by first | omega | (simp; omega) | (simp; done)) _) | (refine Below.drew ?_) | (refine belowN ?_ _) | (refine Below.setCell ?_ (by first | omega | (simp; omega) | (simp; done)) _)))
        clear hbx hb
        have hbx := hby
        clear hby
        generalize (wp.alloc (.cells #[.int .i64 c1, .int .i64 c2, .int .i64 c3, .int .i64 c4] 34)) = wp2 at *
        have hr := HR.out wp2 _ i hil (hC.trans (hbx.mono hC.size)) ((RS.below HTT.out hbx).more hbx.size)
        rw [HSV.out] at hr
        have HRR := Lib.hid hr
        clear hr
        refine HRR.out.mono ?_
        rintro e wq ⟨rfl, hb⟩
        have ox_ := OwnS.below ox hb; clear ox; have ox := ox_; clear ox_
        have oy_ := OwnI.below oy hb; clear oy; have oy := oy_; clear oy_
        have hbz : Below w2.heap.size w2 wq := hbx.trans (hb.mono hbx.size)
        clear hb hbx
        have hbx := hbz
        clear hbz
        clear HRR HPP HSV
        go_wp2_with fail
        have hb : Below wq.heap.size wq (wq.alloc (.cells #[.int .i64 c1, .int .i64 c2, .int .i64 c3, .int .i64 c4] 34)) := Below.alloc (Below.refl _ _) (Nat.le_refl _) _
        have ox_ := OwnS.below ox hb; clear ox; have ox := ox_; clear ox_
        have oy_ := OwnI.below oy hb; clear oy; have oy := oy_; clear oy_
        have hby : Below w2.heap.size w2 (wq.alloc (.cells #[.int .i64 c1, .int .i64 c2, .int .i64 c3, .int .i64 c4] 34)) := by have := hbx.size; (repeat (first | with_reducible assumption | with_reducible exact Below.refl _ _ | (with_reducible refine Below.setCell ?_ (by first | omega | (simp; omega) | (simp; done)) _) | (with_reducible refine Below.alloc ?_ (by first | omega | (simp; omega) | (simp; done)) _) | (with_reducible refine Below.drew ?_) | (with_reducible refine belowN ?_ _) | assumption | exact Below.refl _ _ | (refine Below.alloc ?_ (by first | omega | (simp; omega) | (simp; done)) _) | (refine Below.drew ?_) | (refine belowN ?_ _) | (refine Below.setCell ?_ (by first | omega | (simp; omega) | (simp; done)) _)))
        clear hbx hb
        have hbx := hby
        clear hby
        generalize (wq.alloc (.cells #[.int .i64 c1, .int .i64 c2, .int .i64 c3, .int .i64 c4] 34)) = wq2 at *
        have d0y : Below w2.heap.size w2 wq2.drew := by (repeat (first | with_reducible assumption | with_reducible exact Below.refl _ _ | (with_reducible refine Below.setCell ?_ (by first | omega | (simp; omega) | (simp; done)) _) | (with_reducible refine Below.alloc ?_ (by first | omega | (simp; omega) | (simp; done)) _) | (with_reducible refine Below.drew ?_) | (with_reducible refine belowN ?_ _) | assumption | exact Below.refl _ _ | (refine Below.alloc ?_ (by first | omega | (simp; omega) | (simp; done)) _) | (refine Below.drew ?_) | (refine belowN ?_ _) | (refine Below.setCell ?_ (by first | omega | (simp; omega) | (simp; done)) _)))
        refine wp_region_noPanic (plain_any [0, 1, 2, 3, 4, 7, 8, 9, 10, 11] (Below w2.heap.size w2) mixed ?_)
        (refine any_take 0 ?_ (by rfl) (by kernel_rfl) (fun _ _ _ _ _ hx => hx.elim) (.inl ⟨by rfl, ?_⟩) (by with_reducible assumption) ?_; rotate_left; (intro X hX; obtain ⟨r1, r2⟩ := Below.rules hX; clear hX; go_simp; rfl); simp only [List.getElem_toArray, List.getElem_cons_succ, List.getElem_cons_zero, Act.put, List.setIfInBounds_toArray, List.set_cons_succ, List.set_cons_zero])
        (refine any_take 1 ?_ (by rfl) (by kernel_rfl) (fun _ _ _ _ _ hx => hx.elim) (.inl ⟨by rfl, ?_⟩) (by with_reducible assumption) ?_; rotate_left; (intro X hX; obtain ⟨r1, r2⟩ := Below.rules hX; clear hX; go_simp; rfl); simp only [List.getElem_toArray, List.getElem_cons_succ, List.getElem_cons_zero, Act.put, List.setIfInBounds_toArray, List.set_cons_succ, List.set_cons_zero])
        (refine any_take 2 ?_ (by rfl) (by kernel_rfl) (fun _ _ _ _ _ hx => hx.elim) (.inl ⟨by rfl, ?_⟩) (by with_reducible assumption) ?_; rotate_left; (intro X hX; obtain ⟨r1, r2⟩ := Below.rules hX; clear hX; go_simp; rfl); simp only [List.getElem_toArray, List.getElem_cons_succ, List.getElem_cons_zero, Act.put, List.setIfInBounds_toArray, List.set_cons_succ, List.set_cons_zero])
        (refine any_take 3 ?_ (by rfl) (by kernel_rfl) (fun _ _ _ _ _ hx => hx.elim) (.inl ⟨by rfl, ?_⟩) (by with_reducible assumption) ?_; rotate_left; (intro X hX; obtain ⟨r1, r2⟩ := Below.rules hX; clear hX; go_simp; rfl); simp only [List.getElem_toArray, List.getElem_cons_succ, List.getElem_cons_zero, Act.put, List.setIfInBounds_toArray, List.set_cons_succ, List.set_cons_zero])
        (refine any_take 4 ?_ (by rfl) (by kernel_rfl) (fun _ _ _ _ _ hx => hx.elim) (.inl ⟨by rfl, ?_⟩) (by with_reducible assumption) ?_; rotate_left; (intro X hX; obtain ⟨r1, r2⟩ := Below.rules hX; clear hX; go_simp; rfl); simp only [List.getElem_toArray, List.getElem_cons_succ, List.getElem_cons_zero, Act.put, List.setIfInBounds_toArray, List.set_cons_succ, List.set_cons_zero])
        (refine any_take 7 ?_ (by rfl) (by kernel_rfl) (fun _ _ _ _ _ hx => hx.elim) (.inl ⟨by rfl, ?_⟩) (by with_reducible assumption) ?_; rotate_left; (intro X hX; obtain ⟨r1, r2⟩ := Below.rules hX; clear hX; go_simp; rfl); simp only [List.getElem_toArray, List.getElem_cons_succ, List.getElem_cons_zero, Act.put, List.setIfInBounds_toArray, List.set_cons_succ, List.set_cons_zero])
        (refine any_take 8 ?_ (by rfl) (by kernel_rfl) (fun _ _ _ _ _ hx => hx.elim) (.inl ⟨by rfl, ?_⟩) (by with_reducible assumption) ?_; rotate_left; (intro X hX; obtain ⟨r1, r2⟩ := Below.rules hX; clear hX; go_simp; rfl); simp only [List.getElem_toArray, List.getElem_cons_succ, List.getElem_cons_zero, Act.put, List.setIfInBounds_toArray, List.set_cons_succ, List.set_cons_zero])
        (refine any_take 9 ?_ (by rfl) (by kernel_rfl) (fun _ _ _ _ _ hx => hx.elim) (.inl ⟨by rfl, ?_⟩) (by with_reducible assumption) ?_; rotate_left; (intro X hX; obtain ⟨r1, r2⟩ := Below.rules hX; clear hX; go_simp; rfl); simp only [List.getElem_toArray, List.getElem_cons_succ, List.getElem_cons_zero, Act.put, List.setIfInBounds_toArray, List.set_cons_succ, List.set_cons_zero])
        (refine any_take 10 ?_ (by rfl) (by kernel_rfl) (fun _ _ _ _ _ hx => hx.elim) (.inl ⟨by rfl, ?_⟩) (by with_reducible assumption) ?_; rotate_left; (intro X hX; obtain ⟨r1, r2⟩ := Below.rules hX; clear hX; go_simp; rfl); simp only [List.getElem_toArray, List.getElem_cons_succ, List.getElem_cons_zero, Act.put, List.setIfInBounds_toArray, List.set_cons_succ, List.set_cons_zero])
        (refine any_take 11 ?_ (by rfl) (by kernel_rfl) (fun _ _ _ _ _ hx => hx.elim) (.inl ⟨by rfl, ?_⟩) (by with_reducible assumption) ?_; rotate_left; (intro X hX; obtain ⟨r1, r2⟩ := Below.rules hX; clear hX; go_simp; rfl); simp only [List.getElem_toArray, List.getElem_cons_succ, List.getElem_cons_zero, Act.put, List.setIfInBounds_toArray, List.set_cons_succ, List.set_cons_zero])
        have dy1 : Below w2.heap.size w2 wq2.drew := by (repeat (first | with_reducible assumption | with_reducible exact Below.refl _ _ | (with_reducible refine Below.setCell ?_ (by first | omega | (simp; omega) | (simp; done)) _) | (with_reducible refine Below.alloc ?_ (by first | omega | (simp; omega) | (simp; done)) _) | (with_reducible refine Below.drew ?_) | (with_reducible refine belowN ?_ _) | assumption | exact Below.refl _ _ | (refine Below.alloc ?_ (by first | omega | (simp; omega) | (simp; done)) _) | (refine Below.drew ?_) | (refine belowN ?_ _) | (refine Below.setCell ?_ (by first | omega | (simp; omega) | (simp; done)) _)))
        have hdr : Below wq2.heap.size wq2 wq2.drew := Below.drew (Below.refl _ _)
        have ox_ := OwnS.below ox hdr; clear ox; have ox := ox_; clear ox_
        have oy_ := OwnI.below oy hdr; clear oy; have oy := oy_; clear oy_
        clear hdr
        generalize wq2.drew = uy2 at *
        refine any_run2 (i := 5) (j := 12) (by kernel_rfl) (by rfl) (by rfl) (by rfl) (by rfl) ?_ ?_
        · skip
          intro K hK
          have qy4 := dy1.size
          have ey3 : Below w2.heap.size w2 (uy2.alloc (.cells #[.int .i64 (nthS l i).a, .int .i64 (nthS l i).lo, .int .i64 (nthS l i).hi] 62)) := by (repeat (first | with_reducible assumption | with_reducible exact Below.refl _ _ | (with_reducible refine Below.setCell ?_ (by first | omega | (simp; omega) | (simp; done)) _) | (with_reducible refine Below.alloc ?_ (by first | omega | (simp; omega) | (simp; done)) _) | (with_reducible refine Below.drew ?_) | (with_reducible refine belowN ?_ _) | assumption | exact Below.refl _ _ | (refine Below.alloc ?_ (by first | omega | (simp; omega) | (simp; done)) _) | (refine Below.drew ?_) | (refine belowN ?_ _) | (refine Below.setCell ?_ (by first | omega | (simp; omega) | (simp; done)) _)))
          have hnx : Below uy2.heap.size uy2 (uy2.alloc (.cells #[.int .i64 (nthS l i).a, .int .i64 (nthS l i).lo, .int .i64 (nthS l i).hi] 62)) := Below.alloc (Below.refl _ _) (Nat.le_refl _) _
          go_wp2_with fail
          have ox_ := OwnS.below ox hnx; clear ox; have ox := ox_; clear ox_
          have oy_ := OwnI.below oy hnx; clear oy; have oy := oy_; clear oy_
          have bS : BK (uy2.alloc (.cells #[.int .i64 (nthS l i).a, .int .i64 (nthS l i).lo, .int .i64 (nthS l i).hi] 62)) uy2.heap.size #[.int .i64 (nthS l i).a, .int .i64 (nthS l i).lo, .int .i64 (nthS l i).hi] 62 := BK.new _ _ _
          refine hK _ _ (fun _ => ey3) ?_
          clear hK K hnx
          generalize (uy2.alloc (.cells #[.int .i64 (nthS l i).a, .int .i64 (nthS l i).lo, .int .i64 (nthS l i).hi] 62)) = vy5 at *
          obtain ⟨gbS, hgbS⟩ : ∃ g, uy2.heap.size = g := ⟨_, rfl⟩
          have hqbS : w2.heap.size ≤ gbS := by omega
          rw [hgbS] at bS
          try rw [hgbS]
          clear hgbS
          refine any_run2 (i := 6) (j := 12) (by kernel_rfl) (by rfl) (by rfl) (by rfl) (by rfl) ?_ ?_
          · skip
            intro K hK
            have qy8 := ey3.size
            obtain ⟨xy9, vy7, hrun, hown, hbel, hsz, hkeep⟩ := app_b_st ox bS (by omega) (by omega)
            have HRUN := Lib.hid hrun; clear hrun
            have ey6 : Below w2.heap.size w2 vy7 := hbel _ ey3
            have oy_ := own_keep oy hkeep (by decide); clear oy; have oy : OwnI 2 vy7 w2.heap.size _ (Ma.fy l tt i) := oy_; clear oy_
            clear ox bS; have ox := hown; clear hown hkeep hbel
            refine wp_append_run (.tmp 54) (.tmp 59) 22 _ rfl HRUN.out ?_
            refine hK _ _ (fun _ => ey6) ?_
            clear hK K HRUN
            simp only [List.getElem_toArray, List.getElem_cons_succ, List.getElem_cons_zero, Act.put, List.setIfInBounds_toArray, List.set_cons_succ, List.set_cons_zero]
            refine any_run1 (i := 12) (by kernel_rfl) (by rfl) (by kernel_rfl) ?_
            intro K hK
            have qy11 := ey6.size
            have ey10 : Below w2.heap.size w2 (vy7.alloc (.cells #[.int .i64 (nthI tt i)] 2)) := by (repeat (first | with_reducible assumption | with_reducible exact Below.refl _ _ | (with_reducible refine Below.setCell ?_ (by first | omega | (simp; omega) | (simp; done)) _) | (with_reducible refine Below.alloc ?_ (by first | omega | (simp; omega) | (simp; done)) _) | (with_reducible refine Below.drew ?_) | (with_reducible refine belowN ?_ _) | assumption | exact Below.refl _ _ | (refine Below.alloc ?_ (by first | omega | (simp; omega) | (simp; done)) _) | (refine Below.drew ?_) | (refine belowN ?_ _) | (refine Below.setCell ?_ (by first | omega | (simp; omega) | (simp; done)) _)))
            have hnx : Below vy7.heap.size vy7 (vy7.alloc (.cells #[.int .i64 (nthI tt i)] 2)) := Below.alloc (Below.refl _ _) (Nat.le_refl _) _
            go_wp2_with fail
            have ox_ := OwnS.below ox hnx; clear ox; have ox := ox_; clear ox_
            have oy_ := OwnI.below oy hnx; clear oy; have oy := oy_; clear oy_
            have bI : BK (vy7.alloc (.cells #[.int .i64 (nthI tt i)] 2)) vy7.heap.size #[.int .i64 (nthI tt i)] 2 := BK.new _ _ _
            refine hK _ _ (fun _ => ey10) ?_
            clear hK K hnx
            generalize (vy7.alloc (.cells #[.int .i64 (nthI tt i)] 2)) = vy12 at *
            obtain ⟨gbI, hgbI⟩ : ∃ g, vy7.heap.size = g := ⟨_, rfl⟩
            have hqbI : w2.heap.size ≤ gbI := by omega
            rw [hgbI] at bI
            try rw [hgbI]
            clear hgbI
            refine any_run1 (i := 13) (by kernel_rfl) (by rfl) (by kernel_rfl) ?_
            intro K hK
            have qy15 := ey10.size
            obtain ⟨xy16, vy14, hrun, hown, hbel, hsz, hkeep⟩ := app_b_i64 oy bI (by omega) (by omega)
            have HRUN := Lib.hid hrun; clear hrun
            have ey13 : Below w2.heap.size w2 vy14 := hbel _ ey10
            have ox_ := own_keep ox hkeep (by decide); clear ox; have ox : OwnS vy14 w2.heap.size _ (Ma.fx l tt i ++ [nthS l i]) := ox_; clear ox_
            clear oy bI; have oy := hown; clear hown hkeep hbel
            refine wp_append_run (.tmp 61) (.tmp 66) 23 _ rfl HRUN.out ?_
            refine hK _ _ (fun _ => ey13) ?_
            clear hK K HRUN
            simp only [List.getElem_toArray, List.getElem_cons_succ, List.getElem_cons_zero, Act.put, List.setIfInBounds_toArray, List.set_cons_succ, List.set_cons_zero]
            refine any_run1 (i := 14) (by kernel_rfl) (by rfl) (by kernel_rfl) ?_
            intro K hK
            go_wp2_with fail
            refine hK _ _ (fun _ => ey13) ?_
            clear hK K
            refine any_run1 (i := 15) (by kernel_rfl) (by rfl) (by kernel_rfl) ?_
            intro K hK
            go_wp2_with fail
            refine hK _ _ (fun _ => ey13) ?_
            clear hK K
            refine any_done (by kernel_rfl) (NoPanic.normal ?_)
            go_wp2_with fail
            go_roundw
            case rel => exact ⟨i + 1, by omega, by go_num, by rw [HFX.out.1]; exact ox, by rw [HFX.out.2]; exact oy, ey13⟩
            case measure => simp [intOf]; omega
          · skip
            intro K hK
            have qy18 := ey3.size
            have ey17 : Below w2.heap.size w2 (vy5.alloc (.cells #[.int .i64 (nthI tt i)] 2)) := by (repeat (first | with_reducible assumption | with_reducible exact Below.refl _ _ | (with_reducible refine Below.setCell ?_ (by first | omega | (simp; omega) | (simp; done)) _) | (with_reducible refine Below.alloc ?_ (by first | omega | (simp; omega) | (simp; done)) _) | (with_reducible refine Below.drew ?_) | (with_reducible refine belowN ?_ _) | assumption | exact Below.refl _ _ | (refine Below.alloc ?_ (by first | omega | (simp; omega) | (simp; done)) _) | (refine Below.drew ?_) | (refine belowN ?_ _) | (refine Below.setCell ?_ (by first | omega | (simp; omega) | (simp; done)) _)))
            have hnx : Below vy5.heap.size vy5 (vy5.alloc (.cells #[.int .i64 (nthI tt i)] 2)) := Below.alloc (Below.refl _ _) (Nat.le_refl _) _
            go_wp2_with fail
            have bS_ := bS.below hnx bS.lt; clear bS; have bS := bS_; clear bS_
            have ox_ := OwnS.below ox hnx; clear ox; have ox := ox_; clear ox_
            have oy_ := OwnI.below oy hnx; clear oy; have oy := oy_; clear oy_
            have bI : BK (vy5.alloc (.cells #[.int .i64 (nthI tt i)] 2)) vy5.heap.size #[.int .i64 (nthI tt i)] 2 := BK.new _ _ _
            refine hK _ _ (fun _ => ey17) ?_
            clear hK K hnx
            generalize (vy5.alloc (.cells #[.int .i64 (nthI tt i)] 2)) = vy19 at *
            obtain ⟨gbI, hgbI⟩ : ∃ g, vy5.heap.size = g := ⟨_, rfl⟩
            have hqbI : w2.heap.size ≤ gbI := by omega
            rw [hgbI] at bI
            try rw [hgbI]
            clear hgbI
            refine any_run1 (i := 6) (by kernel_rfl) (by rfl) (by kernel_rfl) ?_
            intro K hK
            have qy22 := ey17.size
            obtain ⟨xy23, vy21, hrun, hown, hbel, hsz, hkeep⟩ := app_b_st ox bS (by omega) (by omega)
            have HRUN := Lib.hid hrun; clear hrun
            have ey20 : Below w2.heap.size w2 vy21 := hbel _ ey17
            have oy_ := own_keep oy hkeep (by decide); clear oy; have oy : OwnI 2 vy21 w2.heap.size _ (Ma.fy l tt i) := oy_; clear oy_
            have bI_ := hkeep _ _ _ bI (by decide); clear bI; have bI := bI_; clear bI_
            clear ox bS; have ox := hown; clear hown hkeep hbel
            refine wp_append_run (.tmp 54) (.tmp 59) 22 _ rfl HRUN.out ?_
            refine hK _ _ (fun _ => ey20) ?_
            clear hK K HRUN
            simp only [List.getElem_toArray, List.getElem_cons_succ, List.getElem_cons_zero, Act.put, List.setIfInBounds_toArray, List.set_cons_succ, List.set_cons_zero]
            refine any_run1 (i := 13) (by kernel_rfl) (by rfl) (by kernel_rfl) ?_
            intro K hK
            have qy26 := ey20.size
            obtain ⟨xy27, vy25, hrun, hown, hbel, hsz, hkeep⟩ := app_b_i64 oy bI (by omega) (by omega)
            have HRUN := Lib.hid hrun; clear hrun
            have ey24 : Below w2.heap.size w2 vy25 := hbel _ ey20
            have ox_ := own_keep ox hkeep (by decide); clear ox; have ox : OwnS vy25 w2.heap.size _ (Ma.fx l tt i ++ [nthS l i]) := ox_; clear ox_
            clear oy bI; have oy := hown; clear hown hkeep hbel
            refine wp_append_run (.tmp 61) (.tmp 66) 23 _ rfl HRUN.out ?_
            refine hK _ _ (fun _ => ey24) ?_
            clear hK K HRUN
            simp only [List.getElem_toArray, List.getElem_cons_succ, List.getElem_cons_zero, Act.put, List.setIfInBounds_toArray, List.set_cons_succ, List.set_cons_zero]
            refine any_run1 (i := 14) (by kernel_rfl) (by rfl) (by kernel_rfl) ?_
            intro K hK
            go_wp2_with fail
            refine hK _ _ (fun _ => ey24) ?_
            clear hK K
            refine any_run1 (i := 15) (by kernel_rfl) (by rfl) (by kernel_rfl) ?_
            intro K hK
            go_wp2_with fail
            refine hK _ _ (fun _ => ey24) ?_
            clear hK K
            refine any_done (by kernel_rfl) (NoPanic.normal ?_)
            go_wp2_with fail
            go_roundw
            case rel => exact ⟨i + 1, by omega, by go_num, by rw [HFX.out.1]; exact ox, by rw [HFX.out.2]; exact oy, ey24⟩
            case measure => simp [intOf]; omega
        · skip
          intro K hK
          have qy29 := dy1.size
          have ey28 : Below w2.heap.size w2 (uy2.alloc (.cells #[.int .i64 (nthI tt i)] 2)) := by (repeat (first | with_reducible assumption | with_reducible exact Below.refl _ _ | (with_reducible refine Below.setCell ?_ (by first | omega | (simp; omega) | (simp; done)) _) | (with_reducible refine Below.alloc ?_ (by first | omega | (simp; omega) | (simp; done)) _) | (with_reducible refine Below.drew ?_) | (with_reducible refine belowN ?_ _) | assumption | exact Below.refl _ _ | (refine Below.alloc ?_ (by first | omega | (simp; omega) | (simp; done)) _) | (refine Below.drew ?_) | (refine belowN ?_ _) | (refine Below.setCell ?_ (by first | omega | (simp; omega) | (simp; done)) _)))
          have hnx : Below uy2.heap.size uy2 (uy2.alloc (.cells #[.int .i64 (nthI tt i)] 2)) := Below.alloc (Below.refl _ _) (Nat.le_refl _) _
          go_wp2_with fail
          have ox_ := OwnS.below ox hnx; clear ox; have ox := ox_; clear ox_
          have oy_ := OwnI.below oy hnx; clear oy; have oy := oy_; clear oy_
          have bI : BK (uy2.alloc (.cells #[.int .i64 (nthI tt i)] 2)) uy2.heap.size #[.int .i64 (nthI tt i)] 2 := BK.new _ _ _
          refine hK _ _ (fun _ => ey28) ?_
          clear hK K hnx
          generalize (uy2.alloc (.cells #[.int .i64 (nthI tt i)] 2)) = vy30 at *
          obtain ⟨gbI, hgbI⟩ : ∃ g, uy2.heap.size = g := ⟨_, rfl⟩
          have hqbI : w2.heap.size ≤ gbI := by omega
          rw [hgbI] at bI
          try rw [hgbI]
          clear hgbI
          refine any_run1 (i := 5) (by kernel_rfl) (by rfl) (by kernel_rfl) ?_
          intro K hK
          have qy32 := ey28.size
          have ey31 : Below w2.heap.size w2 (vy30.alloc (.cells #[.int .i64 (nthS l i).a, .int .i64 (nthS l i).lo, .int .i64 (nthS l i).hi] 62)) := by (repeat (first | with_reducible assumption | with_reducible exact Below.refl _ _ | (with_reducible refine Below.setCell ?_ (by first | omega | (simp; omega) | (simp; done)) _) | (with_reducible refine Below.alloc ?_ (by first | omega | (simp; omega) | (simp; done)) _) | (with_reducible refine Below.drew ?_) | (with_reducible refine belowN ?_ _) | assumption | exact Below.refl _ _ | (refine Below.alloc ?_ (by first | omega | (simp; omega) | (simp; done)) _) | (refine Below.drew ?_) | (refine belowN ?_ _) | (refine Below.setCell ?_ (by first | omega | (simp; omega) | (simp; done)) _)))
          have hnx : Below vy30.heap.size vy30 (vy30.alloc (.cells #[.int .i64 (nthS l i).a, .int .i64 (nthS l i).lo, .int .i64 (nthS l i).hi] 62)) := Below.alloc (Below.refl _ _) (Nat.le_refl _) _
          go_wp2_with fail
          have bI_ := bI.below hnx bI.lt; clear bI; have bI := bI_; clear bI_
          have ox_ := OwnS.below ox hnx; clear ox; have ox := ox_; clear ox_
          have oy_ := OwnI.below oy hnx; clear oy; have oy := oy_; clear oy_
          have bS : BK (vy30.alloc (.cells #[.int .i64 (nthS l i).a, .int .i64 (nthS l i).lo, .int .i64 (nthS l i).hi] 62)) vy30.heap.size #[.int .i64 (nthS l i).a, .int .i64 (nthS l i).lo, .int .i64 (nthS l i).hi] 62 := BK.new _ _ _
          refine hK _ _ (fun _ => ey31) ?_
          clear hK K hnx
          generalize (vy30.alloc (.cells #[.int .i64 (nthS l i).a, .int .i64 (nthS l i).lo, .int .i64 (nthS l i).hi] 62)) = vy33 at *
          obtain ⟨gbS, hgbS⟩ : ∃ g, vy30.heap.size = g := ⟨_, rfl⟩
          have hqbS : w2.heap.size ≤ gbS := by omega
          rw [hgbS] at bS
          try rw [hgbS]
          clear hgbS
          refine any_run1 (i := 6) (by kernel_rfl) (by rfl) (by kernel_rfl) ?_
          intro K hK
          have qy36 := ey31.size
          obtain ⟨xy37, vy35, hrun, hown, hbel, hsz, hkeep⟩ := app_b_st ox bS (by omega) (by omega)
          have HRUN := Lib.hid hrun; clear hrun
          have ey34 : Below w2.heap.size w2 vy35 := hbel _ ey31
          have oy_ := own_keep oy hkeep (by decide); clear oy; have oy : OwnI 2 vy35 w2.heap.size _ (Ma.fy l tt i) := oy_; clear oy_
          have bI_ := hkeep _ _ _ bI (by decide); clear bI; have bI := bI_; clear bI_
          clear ox bS; have ox := hown; clear hown hkeep hbel
          refine wp_append_run (.tmp 54) (.tmp 59) 22 _ rfl HRUN.out ?_
          refine hK _ _ (fun _ => ey34) ?_
          clear hK K HRUN
          simp only [List.getElem_toArray, List.getElem_cons_succ, List.getElem_cons_zero, Act.put, List.setIfInBounds_toArray, List.set_cons_succ, List.set_cons_zero]
          refine any_run1 (i := 13) (by kernel_rfl) (by rfl) (by kernel_rfl) ?_
          intro K hK
          have qy40 := ey34.size
          obtain ⟨xy41, vy39, hrun, hown, hbel, hsz, hkeep⟩ := app_b_i64 oy bI (by omega) (by omega)
          have HRUN := Lib.hid hrun; clear hrun
          have ey38 : Below w2.heap.size w2 vy39 := hbel _ ey34
          have ox_ := own_keep ox hkeep (by decide); clear ox; have ox : OwnS vy39 w2.heap.size _ (Ma.fx l tt i ++ [nthS l i]) := ox_; clear ox_
          clear oy bI; have oy := hown; clear hown hkeep hbel
          refine wp_append_run (.tmp 61) (.tmp 66) 23 _ rfl HRUN.out ?_
          refine hK _ _ (fun _ => ey38) ?_
          clear hK K HRUN
          simp only [List.getElem_toArray, List.getElem_cons_succ, List.getElem_cons_zero, Act.put, List.setIfInBounds_toArray, List.set_cons_succ, List.set_cons_zero]
          refine any_run1 (i := 14) (by kernel_rfl) (by rfl) (by kernel_rfl) ?_
          intro K hK
          go_wp2_with fail
          refine hK _ _ (fun _ => ey38) ?_
          clear hK K
          refine any_run1 (i := 15) (by kernel_rfl) (by rfl) (by kernel_rfl) ?_
          intro K hK
          go_wp2_with fail
          refine hK _ _ (fun _ => ey38) ?_
          clear hK K
          refine any_done (by kernel_rfl) (NoPanic.normal ?_)
          go_wp2_with fail
          go_roundw
          case rel => exact ⟨i + 1, by omega, by go_num, by rw [HFX.out.1]; exact ox, by rw [HFX.out.2]; exact oy, ey38⟩
          case measure => simp [intOf]; omega
      · skip
        rw [he] at hsv
        rw [hsv] at hp
        have HPP := Lib.hid hp
        have HSV := Lib.hid hsv
        have HFX := Lib.hid (Ma.fx_no he)
        clear hp hsv he
        clear hct hit cl0 cl1 cl2
        go_wp2_with fail
        refine HPP.out.mono ?_
        rintro e wp ⟨rfl, hb⟩
        have ox_ := OwnS.below ox hb; clear ox; have ox := ox_; clear ox_
        have oy_ := OwnI.below oy hb; clear oy; have oy := oy_; clear oy_
        have hbx : Below w2.heap.size w2 wp := hbr.trans (hb.mono hbr.size)
        clear hb
        go_wp2_with fail
        have hb : Below wp.heap.size wp (wp.alloc (.cells #[.int .i64 c1, .int .i64 c2, .int .i64 c3, .int .i64 c4] 34)) := Below.alloc (Below.refl _ _) (Nat.le_refl _) _
        have ox_ := OwnS.below ox hb; clear ox; have ox := ox_; clear ox_
        have oy_ := OwnI.below oy hb; clear oy; have oy := oy_; clear oy_
        have hby : Below w2.heap.size w2 (wp.alloc (.cells #[.int .i64 c1, .int .i64 c2, .int .i64 c3, .int .i64 c4] 34)) := by have := hbx.size; (repeat (first | with_reducible assumption | with_reducible exact Below.refl _ _ | (with_reducible refine Below.setCell ?_ (by first | omega | (simp; omega) | (simp; done)) _) | (with_reducible refine Below.alloc ?_ (by first | omega | (simp; omega) | (simp; done)) _) | (with_reducible refine Below.drew ?_) | (with_reducible refine belowN ?_ _) | assumption | exact Below.refl _ _ | (refine Below.alloc ?_ (by first | omega | (simp; omega) | (simp; done)) _) | (refine Below.drew ?_) | (refine belowN ?_ _) | (refine Below.setCell ?_ (by first | omega | (simp; omega) | (simp; done)) _)))
        clear hbx hb
        have hbx := hby
        clear hby
        generalize (wp.alloc (.cells #[.int .i64 c1, .int .i64 c2, .int .i64 c3, .int .i64 c4] 34)) = wp2 at *
        have hr := HR.out wp2 _ i hil (hC.trans (hbx.mono hC.size)) ((RS.below HTT.out hbx).more hbx.size)
        rw [HSV.out] at hr
        have HRR := Lib.hid hr
        clear hr
        refine HRR.out.mono ?_
        rintro e wq ⟨rfl, hb⟩
        have ox_ := OwnS.below ox hb; clear ox; have ox := ox_; clear ox_
        have oy_ := OwnI.below oy hb; clear oy; have oy := oy_; clear oy_
        have hbz : Below w2.heap.size w2 wq := hbx.trans (hb.mono hbx.size)
        clear hb hbx
        have hbx := hbz
        clear hbz
        clear HRR HPP HSV
        go_wp2_with fail
        have hb : Below wq.heap.size wq (wq.alloc (.cells #[.int .i64 c1, .int .i64 c2, .int .i64 c3, .int .i64 c4] 34)) := Below.alloc (Below.refl _ _) (Nat.le_refl _) _
        have ox_ := OwnS.below ox hb; clear ox; have ox := ox_; clear ox_
        have oy_ := OwnI.below oy hb; clear oy; have oy := oy_; clear oy_
        have hby : Below w2.heap.size w2 (wq.alloc (.cells #[.int .i64 c1, .int .i64 c2, .int .i64 c3, .int .i64 c4] 34)) := by have := hbx.size; (repeat (first | with_reducible assumption | with_reducible exact Below.refl _ _ | (with_reducible refine Below.setCell ?_ (by first | omega | (simp; omega) | (simp; done)) _) | (with_reducible refine Below.alloc ?_ (by first | omega | (simp; omega) | (simp; done)) _) | (with_reducible refine Below.drew ?_) | (with_reducible refine belowN ?_ _) | assumption | exact Below.refl _ _ | (refine Below.alloc ?_ (by first | omega | (simp; omega) | (simp; done)) _) | (refine Below.drew ?_) | (refine belowN ?_ _) | (refine Below.setCell ?_ (by first | omega | (simp; omega) | (simp; done)) _)))
        clear hbx hb
        have hbx := hby
        clear hby
        generalize (wq.alloc (.cells #[.int .i64 c1, .int .i64 c2, .int .i64 c3, .int .i64 c4] 34)) = wq2 at *
        go_roundw
        case rel => exact ⟨i + 1, by omega, by go_num, by rw [HFX.out.1]; exact ox, by rw [HFX.out.2]; exact oy, hbx⟩
        case measure => simp [intOf]; omega
    · have hie : i = l.length := by omega
      rw [hie] at ox oy
      have hbw := hC.trans (hbr.mono hC.size)
      clear hie hxi hyi HP HR HTT HCT HCL HF HT
      generalize Ma.fx l tt l.length = FX at *
      generalize Ma.fy l tt l.length = FY at *
      go_wp2_with fail
      refine (of_any (-10000) 1 _).mono ?_
      rintro e wo ⟨rfl, hwo⟩
      have hbo : Below wr.heap.size wr wo := by rw [← hwo]; (repeat (first | with_reducible assumption | with_reducible exact Below.refl _ _ | (with_reducible refine Below.setCell ?_ (by first | omega | (simp; omega) | (simp; done)) _) | (with_reducible refine Below.alloc ?_ (by first | omega | (simp; omega) | (simp; done)) _) | (with_reducible refine Below.drew ?_) | (with_reducible refine belowN ?_ _) | assumption | exact Below.refl _ _ | (refine Below.alloc ?_ (by first | omega | (simp; omega) | (simp; done)) _) | (refine Below.drew ?_) | (refine belowN ?_ _) | (refine Below.setCell ?_ (by first | omega | (simp; omega) | (simp; done)) _)))
      have hX := (OwnS.below ox hbo).ri
      have hY := (OwnI.below oy hbo).ri
      have hbw1 : Below w.heap.size w wo := hbw.trans (hbo.mono hbw.size)
      clear ox oy hbo hwo hbw hbr
      obtain ⟨Ax, capx, bx, offx, rfl, zz1, zz2⟩ := RSt.cells hX
      clear zz1 zz2
      have HX := Lib.hid hX; have HY := Lib.hid hY
      clear hX hY
      go_wp2_with fail
      have bk0 : BK (wo.alloc (.cells #[.int .i64 (-10000), .int .i64 1] 25)) wo.heap.size #[.int .i64 (-10000), .int .i64 1] 25 := BK.new _ _ _
      have hb0 : Below wo.heap.size wo (wo.alloc (.cells #[.int .i64 (-10000), .int .i64 1] 25)) := by (repeat (first | with_reducible assumption | with_reducible exact Below.refl _ _ | (with_reducible refine Below.setCell ?_ (by first | omega | (simp; omega) | (simp; done)) _) | (with_reducible refine Below.alloc ?_ (by first | omega | (simp; omega) | (simp; done)) _) | (with_reducible refine Below.drew ?_) | (with_reducible refine belowN ?_ _) | assumption | exact Below.refl _ _ | (refine Below.alloc ?_ (by first | omega | (simp; omega) | (simp; done)) _) | (refine Below.drew ?_) | (refine belowN ?_ _) | (refine Below.setCell ?_ (by first | omega | (simp; omega) | (simp; done)) _)))
      obtain ⟨g1, hg1⟩ : ∃ g, wo.heap.size = g := ⟨_, rfl⟩
      rw [hg1] at bk0 hb0
      try rw [hg1]
      have HG1 := Lib.hid hg1
      clear hg1
      go_loopw [14] (fun iv wi => ∃ j : Nat, j ≤ FX.length ∧ iv = .int .i64 j ∧ BK wi g1 #[.int .i64 (lastR FX FY j).num, .int .i64 (lastR FX FY j).den] 25 ∧ Below g1 wo wi) (fun j _ => FX.length - (intOf j).toNat)
      case atStart => exact ⟨0, Nat.zero_le _, rfl, bk0, hb0⟩
      case round =>
        obtain ⟨j, hj, rfl, bk, hbr⟩ := hrel
        have hbr2 : Below wo.heap.size wo wr := by rw [HG1.out]; exact hbr
        clear bk0 hb0
        by_cases hjl : j < FX.length
        · have hq := HQ.out wr _ _ j hjl ((RS.below HX.out hbr2).more hbr2.size) ((RS.below HY.out hbr2).more hbr2.size)
          have HQQ := Lib.hid hq
          have hgw : g1 ≤ wr.heap.size := by have := hbr2.size; rw [HG1.out] at this; exact this
          clear hq hbr2
          have hL2 : ∃ L2, lastR FX FY (j + 1) = L2 := ⟨_, rfl⟩
          obtain ⟨L2, hL2⟩ := hL2
          rw [hL2] at HQQ
          have HL2 := Lib.hid hL2
          clear hL2
          generalize lastR FX FY j = L1 at *
          go_wp2_with fail
          refine HQQ.out.mono ?_
          rintro e wv ⟨rfl, hbv⟩
          have bkv := bk.below hbv bk.lt
          have hbr3 : Below g1 wo wv := hbr.trans (hbv.mono hgw)
          have hgv : g1 < wv.heap.size := bkv.lt
          have y0 := bkv.cell 0
          have y1 := bkv.cell 1
          have f0 := bkv.frozen 0
          have f1 := bkv.frozen 1
          simp at y0 y1
          clear hbv bk hbr HQQ
          go_wp2_with fail
          go_roundw
          case rel =>
            refine ⟨j + 1, by omega, by go_num, ?_, by (repeat (first | with_reducible assumption | with_reducible exact Below.refl _ _ | (with_reducible refine Below.setCell ?_ (by first | omega | (simp; omega) | (simp; done)) _) | (with_reducible refine Below.alloc ?_ (by first | omega | (simp; omega) | (simp; done)) _) | (with_reducible refine Below.drew ?_) | (with_reducible refine belowN ?_ _) | assumption | exact Below.refl _ _ | (refine Below.alloc ?_ (by first | omega | (simp; omega) | (simp; done)) _) | (refine Below.drew ?_) | (refine belowN ?_ _) | (refine Below.setCell ?_ (by first | omega | (simp; omega) | (simp; done)) _)))⟩
            rw [HL2.out]
            have q1 := ((bkv.set 0 (.int .i64 L2.num)).set 1 (.int .i64 L2.den)).alloc (.cells #[.int .i64 L1.num, .int .i64 L1.den, .int .i64 L2.num, .int .i64 L2.den] 34)
            simp at q1
            exact q1
          case measure => simp [intOf]; omega
        · have hje : j = FX.length := by omega
          have bk2 : BK wr g1 #[.int .i64 10000, .int .i64 1] 25 := by have := bk; rw [hje, HLAST.out] at this; exact this
          have hbwr : Below w.heap.size w wr := hbw1.trans (hbr2.mono hbw1.size)
          clear bk hbr hbr2 HQ HLAST HX HY
          have l2 := bk2.lt
          have y0 := bk2.cell 0
          have y1 := bk2.cell 1
          simp at y0 y1
          go_wp2_with fail
          have d0x : Below wr.heap.size wr wr.drew := by (repeat (first | with_reducible assumption | with_reducible exact Below.refl _ _ | (with_reducible refine Below.setCell ?_ (by first | omega | (simp; omega) | (simp; done)) _) | (with_reducible refine Below.alloc ?_ (by first | omega | (simp; omega) | (simp; done)) _) | (with_reducible refine Below.drew ?_) | (with_reducible refine belowN ?_ _) | assumption | exact Below.refl _ _ | (refine Below.alloc ?_ (by first | omega | (simp; omega) | (simp; done)) _) | (refine Below.drew ?_) | (refine belowN ?_ _) | (refine Below.setCell ?_ (by first | omega | (simp; omega) | (simp; done)) _)))
          refine wp_region_noPanic (plain_any [0, 2, 3, 5] (Below wr.heap.size wr) mixed ?_)
          (refine any_take 0 ?_ (by rfl) (by kernel_rfl) (fun _ _ _ _ _ hx => hx.elim) (.inl ⟨by rfl, ?_⟩) (by with_reducible assumption) ?_; rotate_left; (intro X hX; obtain ⟨r1, r2⟩ := Below.rules hX; clear hX; go_simp; rfl); simp only [List.getElem_toArray, List.getElem_cons_succ, List.getElem_cons_zero, Act.put, List.setIfInBounds_toArray, List.set_cons_succ, List.set_cons_zero])
          have dx1 : Below wr.heap.size wr wr.drew := by (repeat (first | with_reducible assumption | with_reducible exact Below.refl _ _ | (with_reducible refine Below.setCell ?_ (by first | omega | (simp; omega) | (simp; done)) _) | (with_reducible refine Below.alloc ?_ (by first | omega | (simp; omega) | (simp; done)) _) | (with_reducible refine Below.drew ?_) | (with_reducible refine belowN ?_ _) | assumption | exact Below.refl _ _ | (refine Below.alloc ?_ (by first | omega | (simp; omega) | (simp; done)) _) | (refine Below.drew ?_) | (refine belowN ?_ _) | (refine Below.setCell ?_ (by first | omega | (simp; omega) | (simp; done)) _)))
          have hdr : Below wr.heap.size wr wr.drew := Below.drew (Below.refl _ _)
          clear hdr
          generalize wr.drew = ux2 at *
          refine any_run1 (i := 1) (by kernel_rfl) (by rfl) (by kernel_rfl) ?_
          intro K hK
          have qx5 := dx1.size
          go_wp2_with fail
          refine (of_any 10000 1 _).mono ?_
          rintro e vx4 ⟨rfl, hb⟩
          have hb2 : Below ux2.heap.size ux2 vx4 := by rw [← hb]; (repeat (first | with_reducible assumption | with_reducible exact Below.refl _ _ | (with_reducible refine Below.setCell ?_ (by first | omega | (simp; omega) | (simp; done)) _) | (with_reducible refine Below.alloc ?_ (by first | omega | (simp; omega) | (simp; done)) _) | (with_reducible refine Below.drew ?_) | (with_reducible refine belowN ?_ _) | assumption | exact Below.refl _ _ | (refine Below.alloc ?_ (by first | omega | (simp; omega) | (simp; done)) _) | (refine Below.drew ?_) | (refine belowN ?_ _) | (refine Below.setCell ?_ (by first | omega | (simp; omega) | (simp; done)) _)))
          clear hb
          have hb := hb2
          clear hb2
          have ex3 : Below wr.heap.size wr vx4 := dx1.trans (hb.mono dx1.size)
          clear hb
          refine hK _ _ (fun _ => ex3) ?_
          clear hK K
          (refine any_take 2 ?_ (by rfl) (by kernel_rfl) (fun _ _ _ _ _ hx => hx.elim) (.inl ⟨by rfl, ?_⟩) (by with_reducible assumption) ?_; rotate_left; (intro X hX; obtain ⟨r1, r2⟩ := Below.rules hX; clear hX; go_simp; rfl); simp only [List.getElem_toArray, List.getElem_cons_succ, List.getElem_cons_zero, Act.put, List.setIfInBounds_toArray, List.set_cons_succ, List.set_cons_zero])
          (refine any_take 3 ?_ (by rfl) (by kernel_rfl) (fun _ _ _ _ _ hx => hx.elim) (.inl ⟨by rfl, ?_⟩) (by with_reducible assumption) ?_; rotate_left; (intro X hX; obtain ⟨r1, r2⟩ := Below.rules hX; clear hX; go_simp; rfl); simp only [List.getElem_toArray, List.getElem_cons_succ, List.getElem_cons_zero, Act.put, List.setIfInBounds_toArray, List.set_cons_succ, List.set_cons_zero])
          refine any_run1 (i := 4) (by kernel_rfl) (by rfl) (by kernel_rfl) ?_
          intro K hK
          have qx8 := ex3.size
          go_wp2_with fail
          refine (works_any _).mono ?_
          rintro e vx7 ⟨rfl, hb⟩
          have ex6 : Below wr.heap.size wr vx7 := ex3.trans (hb.mono ex3.size)
          clear hb
          refine hK _ _ (fun _ => ex6) ?_
          clear hK K
          (refine any_take 5 ?_ (by rfl) (by kernel_rfl) (fun _ _ _ _ _ hx => hx.elim) (.inl ⟨by rfl, ?_⟩) (by with_reducible assumption) ?_; rotate_left; (intro X hX; obtain ⟨r1, r2⟩ := Below.rules hX; clear hX; go_simp; rfl); simp only [List.getElem_toArray, List.getElem_cons_succ, List.getElem_cons_zero, Act.put, List.setIfInBounds_toArray, List.set_cons_succ, List.set_cons_zero])
          refine any_run1 (i := 6) (by kernel_rfl) (by rfl) (by kernel_rfl) ?_
          intro K hK
          go_wp2_with fail
          refine hK _ _ (fun _ => ex6) ?_
          clear hK K
          refine any_done (by kernel_rfl) (NoPanic.normal ?_)
          go_wp2_with fail
          go_ret
          exact ⟨rfl, hbwr.trans (ex6.mono hbwr.size)⟩
theorem follow_row (l : List St) (vl : Value) {w : World} (h : RSt w w.heap.size vl l) (_ : l.length ≤ maxLen) (u : List Int) (vu : Value) (h' : RU w w.heap.size vu u) (hub : ∀ k, k < u.length → 0 ≤ nthI u k ∧ nthI u k ≤ 65535) (_ : u.length ≤ maxLen) (W : World) (hw : W = w := by rfl) :
    Calls Try.prog 9 #[vl, vu] W fun e w' => e = .returned (.bool true) ∧ Below W.heap.size W w' := by
  subst hw
  by_cases hl : fineB l = false ∨ 40 < u.length
  · exact follow_no l u vl vu _ hl h h'
  · have hv : checkPair l = 0 := by
      refine Classical.byContradiction fun hc => hl (.inl ?_)
      unfold fineB; exact decide_eq_false hc
    exact follow_yes l u vl vu _ hv (by omega) hub h h'
end Go.Proofs.Ytbjmkmambmeifaa

namespace Go.Proofs.Ytbjmkmambmeifaa.crossFollow
open Go.ChangeShapes Go.WideShapes Go.ChangeAt Go.RowKit Go.Deep

set_option maxRecDepth 100000 in
theorem lifted (os : Os) (started : os.Started) (H : Type) (enc : TypeId × Value → H) :
    ReturnsInHanded {} Try.checked os 9 .any (Rows.crossFollowSpec.pre6 enc Try.prog Try.f9 Rows.crossFollowRow.domain false) (Rows.crossFollowSpec.post enc Try.prog Try.f9 false true false false) := by
  refine returnsInHanded_of_change (C := Try.checked) own started (by kernel_rfl) Try.func9
    (ChangeSpec.witness6 (enc := enc) (C := Try.checked) false ⟨#[], #[.slice none 0 0, .slice none 0 0], []⟩ 8 (by kernel_rfl) (by kernel_rfl) (by kernel_rfl) (by kernel_rfl)) ?_
  intro W base args ds gs before hval0 hW hcnd _
  have hval : ∀ (j : Nat) t v, Try.f9.params[j]? = some t → args[j]? = some v → Value.okWide Try.prog W .any base t v := hval0
  have hW2 : DataW.Whole enc Try.prog Try.f9.params.toList Rows.crossFollowSpec.vars false W args.toList ds gs before := hW
  obtain ⟨p, q, hA0, hV, rfl, hfz, hnd⟩ := hW
  have hA : DataW.TrodAll enc Try.prog W 0 (fun _ => true) true Try.f9.params.toList args.toList ds p := hA0
  rw [Try.params9] at hA hval
  obtain ⟨v0, vs0, d0, ds0, p0, q0, hargs, rfl, rfl, h0, r0⟩ := trodAll_cons hA
  obtain ⟨v1, vs1, d1, ds1, p1, q1, rfl, rfl, rfl, h1, r1⟩ := trodAll_cons r0
  obtain ⟨rfl, rfl, rfl⟩ := trodAll_nil r1
  obtain rfl : args = #[v0, v1] := by cases args; simp_all
  obtain ⟨rfl, rfl⟩ := trodVars_none hV
  obtain ⟨l0, g0, m0⟩ := open_sts (hval 0 22 v0 rfl rfl) h0
  obtain ⟨l1, g1, k1, m1⟩ := open_u16s (hval 1 50 v1 rfl rfl) h1
  refine (follow_row l0 v0 g0 m0 l1 v1 g1 k1 m1 W).mono fun e W' ⟨he, hg⟩ => ?_
  subst he
  exact ⟨_, rfl, law_done hW2 rfl rfl rfl (by rw [Try.params9]; decide +kernel) hg⟩

theorem over : Rows.crossFollowRow.holds Try.pinned (OpenSpec.ofChange Rows.crossFollowSpec) :=
  OpenClaim.holds_of_wide 9 Try.f9 rfl rfl rfl rfl rfl rfl rfl ⟨rfl, rfl, rfl, rfl, rfl⟩ rfl rfl rfl rfl rfl (by kernel_rfl) Try.func9 (by kernel_rfl)
    (of_decide_eq_true (by kernel_rfl)) (by unfold Func.isWrapper; first | (rw [if_pos (by decide +kernel)]; kernel_rfl) | (rw [if_neg (by decide +kernel)]; exact ⟨rfl, rfl⟩))
    (fun os started H enc _ => lifted os started H enc)

theorem proved : Rows.CrossFollowSaid :=
  over
end Go.Proofs.Ytbjmkmambmeifaa.crossFollow
namespace Go.Proofs.Ytbjmkmambmeifaa
theorem crossFollow_proved : Rows.CrossFollowSaid := crossFollow.proved
#print axioms crossFollow_proved
end Go.Proofs.Ytbjmkmambmeifaa
