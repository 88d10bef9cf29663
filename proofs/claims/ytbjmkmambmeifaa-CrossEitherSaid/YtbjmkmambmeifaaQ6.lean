/- Plain laws: what the kind of a station says. What the laws of valid pairs have in common: fine, a truth by numbers, the spans of valid pairs. Plain laws: the hull has a line at each station that is under all heights; so the heights that it gives meet everywhere. Plain laws: either there is a wedge, or there are heights that meet everywhere, and the greatest ones. Arguments that are arrays of small numbers. CrossEither: the walk. CrossEither answers true for every input: either there is a wedge and no heights meet, or the returned heights are allowed, meet everywhere and are the greatest. No condition. -/
import Derived.Test.YtbjmkmambmeifaaP16
import Derived.Test.YtbjmkmambmeifaaP3
import Derived.Test.YtbjmkmambmeifaaP23
import Derived.Test.YtbjmkmambmeifaaP24
import Derived.Test.YtbjmkmambmeifaaP10
import Derived.Test.YtbjmkmambmeifaaP19
import Derived.Test.YtbjmkmambmeifaaRows
set_option linter.all false
set_option linter.unnecessarySimpa false
set_option linter.unusedSimpArgs false
set_option linter.unusedVariables false
set_option linter.unusedSectionVars false

namespace Go.Proofs.Ytbjmkmambmeifaa
open Go.RowKit
namespace Ma

theorem ln_mono {l : List St} {hs hs' : List Int} (hg : Gd l) (hle : ∀ i, i < l.length → Y hs i ≤ Y hs' i) {i s k : Nat} (h1 : i < s) (h2 : s < k) (h3 : k < l.length) : ln l hs i s k ≤ ln l hs' i s k := by
  rw [le_ln hg (by omega) h3, ln_mul hg (by omega) h3]
  have y1 := hg.X h1 (by omega); have y2 := hg.X h2 h3
  have d1 := Rat.mul_le_mul_of_nonneg_right (hle i (by omega)) (show 0 ≤ X l k - X l s by grind)
  have d2 := Rat.mul_le_mul_of_nonneg_right (hle k h3) (show 0 ≤ X l s - X l i by grind)
  grind
theorem spanE_iff {l : List St} {hs : List Int} {s : Nat} {own : Int} (hg : Gd l) (hh : Hb l hs) (hs1 : s < l.length) (ho : -1000 ≤ own ∧ own ≤ 1000) : spanE l hs s own = 0 ↔ ∀ i k, i < s → s < k → k < l.length → (own : Rat) ≤ ln l hs i s k := by
  rw [← meets_span hg hh hs1 ho, meets_iff hg hh hs1 ho]
theorem spanE_two (l : List St) (hs : List Int) (s : Nat) (own : Int) : spanE l hs s own = 0 ∨ spanE l hs s own = 22 := by
  unfold spanE; split <;> simp
theorem over_sign {l : List St} {hs : List Int} {s : Nat} {own : Int} (hg : Gd l) (hh : Hb l hs) (hs1 : s < l.length) (ho : -1000 ≤ own ∧ own ≤ 1000) : 0 ≤ (overR l hs s own).num ∧ ((overR l hs s own).num ≤ 0 ↔ spanE l hs s own = 0) := by
  obtain ⟨a1, a2⟩ := over_spec hg hh hs1 ho
  have z : V ⟨0, 1⟩ = 0 := by rw [V_one]; rfl
  have p0 : (0 : Rat) ≤ V (overR l hs s own) := ((a2 _).1 Rat.le_refl).1
  constructor
  · rw [← z, V_le Int.one_pos a1.den] at p0
    simpa using p0
  · have e : (overR l hs s own).num ≤ 0 ↔ V (overR l hs s own) ≤ 0 := by
      rw [← z, V_le a1.den Int.one_pos]; simp
    rw [e, a2, spanE_iff hg hh hs1 ho]
    constructor
    · rintro ⟨_, h⟩ i k b c d
      have := h i k b c d; grind
    · intro h
      refine ⟨Rat.le_refl, fun i k b c d => ?_⟩
      have := h i k b c d; grind
/-- A truth: between the ends. -/
theorem truth_le {l : List St} {t : List Int} (h : checkTruth l t = 0) {i : Nat} (hi : i < l.length) : (nthS l i).lo ≤ nthI t i ∧ nthI t i ≤ (nthS l i).hi := by
  unfold checkTruth at h
  by_cases h1 : checkPair l ≠ 0
  · rw [if_pos h1] at h; exact absurd h h1
  · rw [if_neg h1] at h
    by_cases h2 : t.length ≠ l.length
    · rw [if_pos h2] at h; exact absurd h (by decide)
    · rw [if_neg h2] at h
      by_cases h3 : ∀ k, k < l.length → inSt l t k = true
      · have := h3 i hi
        simpa [inSt, inB] using this
      · rw [if_neg h3] at h; exact absurd h (by decide)
theorem truth_pair {l : List St} {t : List Int} (h : checkTruth l t = 0) : checkPair l = 0 ∧ t.length = l.length := by
  unfold checkTruth at h
  by_cases h1 : checkPair l ≠ 0
  · rw [if_pos h1] at h; exact absurd h h1
  · rw [if_neg h1] at h
    by_cases h2 : t.length ≠ l.length
    · rw [if_pos h2] at h; exact absurd h (by decide)
    · omega
theorem truth_hb {l : List St} {t : List Int} (h : checkTruth l t = 0) : Hb l t := fun i hi => by
  have h1 := truth_le h hi; have h2 := valid_at l (truth_pair h).1 i hi; omega
theorem truth_lo {l : List St} {t : List Int} (h : checkTruth l t = 0) {i : Nat} (hi : i < l.length) : Y (ends l false) i ≤ Y t i := by
  unfold Y; rw [ends_lo l hi]; exact Rat.intCast_le_intCast.2 (truth_le h hi).1
theorem truth_hi {l : List St} {t : List Int} (h : checkTruth l t = 0) {i : Nat} (hi : i < l.length) : Y t i ≤ Y (ends l true) i := by
  unfold Y; rw [ends_hi l hi]; exact Rat.intCast_le_intCast.2 (truth_le h hi).2

/-- Whether a station is the second one of a wedge. -/
def wedAt (l : List St) (s : Nat) : Bool := (List.range s).any fun i => (List.range l.length).any fun m => decide (s < m) && isWedgeB l i s m
theorem wedAt_iff {l : List St} {s : Nat} : wedAt l s = true ↔ ∃ i m, i < s ∧ s < m ∧ m < l.length ∧ isWedgeB l i s m = true := by
  unfold wedAt
  simp only [List.any_eq_true, List.mem_range, Bool.and_eq_true, decide_eq_true_eq]
  constructor
  · rintro ⟨i, hi, m, hm, hsm, hw⟩; exact ⟨i, m, hi, hsm, hm, hw⟩
  · rintro ⟨i, m, hi, hsm, hm, hw⟩; exact ⟨i, hi, m, hm, hsm, hw⟩

theorem kinds_law {l : List St} {t : List Int} {s : Nat} (h : checkTruth l t = 0) (hs : s < l.length) :
    (kindP l s = 0 ∧ spanE l (ends l true) s (nthS l s).lo = 22 ∧ spanE l (ends l false) s (nthS l s).hi = 22 ∧ spanE l t s (nthI t s) = 22 ∧ wedAt l s = true ∧ 0 < (overR l (ends l true) s (nthS l s).lo).num ∧ 0 < (overR l (ends l false) s (nthS l s).hi).num) ∨
    (kindP l s = 2 ∧ spanE l (ends l true) s (nthS l s).lo = 0 ∧ spanE l (ends l false) s (nthS l s).hi = 0 ∧ spanE l t s (nthI t s) = 0 ∧ wedAt l s = false ∧ (overR l (ends l true) s (nthS l s).lo).num = 0 ∧ (overR l (ends l false) s (nthS l s).hi).num = 0) ∨
    (kindP l s = 1 ∧ spanE l (ends l true) s (nthS l s).lo = 0 ∧ spanE l (ends l false) s (nthS l s).hi = 22 ∧ (spanE l t s (nthI t s) = 0 ∨ spanE l t s (nthI t s) = 22) ∧ wedAt l s = false ∧ (overR l (ends l true) s (nthS l s).lo).num = 0 ∧ 0 < (overR l (ends l false) s (nthS l s).hi).num) := by
  have hv := (truth_pair h).1
  have g := gd l hv
  have ht := truth_le h hs
  have h2 := valid_at l hv s hs
  have i1 := spanE_iff g (hb l true hv) hs (lo_rng l hv hs)
  have i2 := spanE_iff g (hb l false hv) hs (hi_rng l hv hs)
  have i4 := spanE_iff g (truth_hb h) hs (own := nthI t s) (by omega)
  have o1 := over_sign g (hb l true hv) hs (lo_rng l hv hs)
  have o2 := over_sign g (hb l false hv) hs (hi_rng l hv hs)
  have tl := Rat.intCast_le_intCast.2 ht.1
  have th := Rat.intCast_le_intCast.2 ht.2
  have s24 : spanE l (ends l false) s (nthS l s).hi = 0 → spanE l t s (nthI t s) = 0 := by
    rw [i2, i4]
    intro hA i k a b c
    have := hA i k a b c
    have m := ln_mono g (fun j hj => truth_lo h hj) a b c
    exact Rat.le_trans th (Rat.le_trans this m)
  have s41 : spanE l t s (nthI t s) = 0 → spanE l (ends l true) s (nthS l s).lo = 0 := by
    rw [i1, i4]
    intro hA i k a b c
    have := hA i k a b c
    have m := ln_mono g (fun j hj => truth_hi h hj) a b c
    exact Rat.le_trans tl (Rat.le_trans this m)
  have w1 : wedAt l s = false ↔ spanE l (ends l true) s (nthS l s).lo = 0 := by
    rw [← Bool.not_eq_true, wedAt_iff, i1]
    constructor
    · intro hn i k a b c
      rw [← Rat.not_lt, ← wedge_iff l hv a b c]
      exact fun hw => hn ⟨i, k, a, b, c, hw⟩
    · rintro hA ⟨i, k, a, b, c, hw⟩
      rw [wedge_iff l hv a b c] at hw
      have := hA i k a b c
      grind
  rw [kind_eq l hv s hs]
  unfold kindR
  rcases spanE_two l (ends l true) s (nthS l s).lo with e1 | e1
  · rcases spanE_two l (ends l false) s (nthS l s).hi with e2 | e2
    · refine .inr (.inl ⟨?_, e1, e2, s24 e2, w1.2 e1, ?_, ?_⟩)
      · rw [if_neg (fun hx => hx e1), if_neg (fun hx => hx e2)]
      · have := o1.2.2 e1; omega
      · have := o2.2.2 e2; omega
    · refine .inr (.inr ⟨?_, e1, e2, spanE_two .., w1.2 e1, ?_, ?_⟩)
      · rw [if_neg (fun hx => hx e1), if_pos (by omega)]
      · have := o1.2.2 e1; omega
      · have : ¬ (overR l (ends l false) s (nthS l s).hi).num ≤ 0 := fun hx => by have := o2.2.1 hx; omega
        omega
  · have n1 : spanE l (ends l true) s (nthS l s).lo ≠ 0 := by omega
    have e4 : spanE l t s (nthI t s) = 22 := by
      rcases spanE_two l t s (nthI t s) with e | e
      · exact absurd (s41 e) n1
      · exact e
    have e2 : spanE l (ends l false) s (nthS l s).hi = 22 := by
      rcases spanE_two l (ends l false) s (nthS l s).hi with e | e
      · have := s24 e; omega
      · exact e
    refine .inl ⟨?_, e1, e2, e4, ?_, ?_, ?_⟩
    · rw [if_pos n1]
    · cases hw : wedAt l s with
      | true => rfl
      | false => exact absurd (w1.1 hw) n1
    · have : ¬ (overR l (ends l true) s (nthS l s).lo).num ≤ 0 := fun hx => n1 (o1.2.1 hx)
      omega
    · have : ¬ (overR l (ends l false) s (nthS l s).hi).num ≤ 0 := fun hx => by have := o2.2.1 hx; omega
      omega
end Ma
end Go.Proofs.Ytbjmkmambmeifaa

namespace Go.Proofs.Ytbjmkmambmeifaa
open Go.RowKit

theorem fine_all (l : List St) (vl : Value) (w : World) (h : RSt w w.heap.size vl l) :
    Calls Try.prog 37 #[vl] w fun e w' => e = .returned (.bool (fineB l)) ∧ Below w.heap.size w w' := by
  by_cases hg : 35 < l.length
  · obtain ⟨A, cap, b, off, rfl, _, _⟩ := h.cells
    have d1 : decide (35 < (l.length : Int)) = true := by simp; omega
    have HF := Lib.hid (show fineB l = false by unfold fineB; rw [checkPair, if_pos (.inr (by omega))]; rfl)
    go_enter Try.func37, Try.ntmps37
    go_wp2_with fail
    refine (great_any _ _ _ _).mono ?_
    rintro e w1 ⟨rfl, rfl⟩
    go_wp2_with fail
    go_ret
    exact ⟨by rw [HF.out]; rfl, by (repeat (first | with_reducible assumption | with_reducible exact Below.refl _ _ | (with_reducible refine Below.setCell ?_ (by first | omega | (simp; omega) | (simp; done)) _) | (with_reducible refine Below.alloc ?_ (by first | omega | (simp; omega) | (simp; done)) _) | (with_reducible refine Below.drew ?_) | (with_reducible refine belowN ?_ _) | assumption | exact Below.refl _ _ | (refine Below.alloc ?_ (by first | omega | (simp; omega) | (simp; done)) _) | (refine Below.drew ?_) | (refine belowN ?_ _) | (refine Below.setCell ?_ (by first | omega | (simp; omega) | (simp; done)) _)))⟩
  · exact fine_any l vl w (by omega) h
/-- A truth by numbers is one. -/
theorem truthR_ok {l : List St} (u : List Int) (hv : checkPair l = 0) (hu : ∀ k, k < u.length → 0 ≤ nthI u k ∧ nthI u k ≤ 65535) : checkTruth l (truthR l u) = 0 := by
  refine checkTruth_ok l _ hv (truthR_length l u) (fun k hk => ?_)
  unfold inSt
  rw [truthR_at l u k hk]
  have h := valid_at l hv k hk
  unfold truthAt
  have : 0 ≤ (if 0 < u.length then nthI u (k % u.length) % ((nthS l k).hi - (nthS l k).lo + 1) else 0) ∧ (if 0 < u.length then nthI u (k % u.length) % ((nthS l k).hi - (nthS l k).lo + 1) else 0) ≤ (nthS l k).hi - (nthS l k).lo := by
    split
    · have h1 := Int.emod_nonneg (nthI u (k % u.length)) (show (nthS l k).hi - (nthS l k).lo + 1 ≠ 0 by omega)
      have h2 := Int.emod_lt_of_pos (nthI u (k % u.length)) (show 0 < (nthS l k).hi - (nthS l k).lo + 1 by omega)
      omega
    · omega
  simp [inB]
  omega

theorem kindsP_len2 {l : List St} (hv : checkPair l = 0) : (kindsP l).length = l.length := by simp [kindsP, hv]
theorem groundV_ok {l : List St} (hv : checkPair l = 0) {s : Nat} (hs : s < l.length) : groundV l s = .tuple #[.agg #[.int .i64 (overR l (ends l true) s (nthS l s).lo).num, .int .i64 (overR l (ends l true) s (nthS l s).lo).den, .int .i64 (overR l (ends l false) s (nthS l s).hi).num, .int .i64 (overR l (ends l false) s (nthS l s).hi).den], .int .i64 0] := by
  unfold groundV
  rw [if_neg (by rw [checkStation, if_neg (by simpa using hv), if_pos (by omega)]; simp), Int.toNat_natCast]
theorem tiltsV_ok {l : List St} {t : List Int} (h : checkTruth l t = 0) {s : Nat} (hs : s < l.length) : tiltsV l t s = spanV l t s (nthI t s) := by
  unfold tiltsV
  rw [if_neg (by simpa using h), if_neg (by simp; omega), Int.toNat_natCast]

end Go.Proofs.Ytbjmkmambmeifaa

namespace Go.Proofs.Ytbjmkmambmeifaa
open Go.RowKit
namespace Ma

theorem hull_sup {l : List St} {hs : List Int} (hg : Gd l) (hh : Hb l hs) {i : Nat} (hi : i < l.length) :
    ∃ al mu : Rat, (∀ v, v < l.length → al + mu * X l v ≤ Y hs v) ∧ V (heightR l hs (hullR l hs l.length).reverse (nthS l i).a) = al + mu * X l i := by
  obtain ⟨m, hm⟩ : ∃ m, l.length = m + 1 := ⟨l.length - 1, by omega⟩
  have hcv := hullR_cv (hs := hs) hg m (by omega)
  rw [← hm] at hcv
  obtain ⟨c1, c2, c3, c4, c5⟩ := cv_list hg _ hcv.1 (by rw [hcv.2]; simp; omega)
  rw [hcv.2] at c3
  have hlen : (hullR l hs l.length).reverse.length = (hullR l hs l.length).length := by simp
  generalize (hullR l hs l.length).reverse = L at *
  generalize (hullR l hs l.length).length = N at *
  have c3' : nm L (N - 1) = m := by simpa using c3
  clear hcv c3
  -- vertices rise
  have hmono : ∀ a b, a ≤ b → b < N → nm L a ≤ nm L b := by
    intro a b
    induction b with
    | zero => intro h _; obtain rfl : a = 0 := by omega
              exact Nat.le_refl _
    | succ b ih =>
      intro h1 h2
      rcases Nat.lt_or_ge b a with h | h
      · obtain rfl : a = b + 1 := by omega
        exact Nat.le_refl _
      · have := ih h (by omega); have := (c4 b h2).1; omega
  have hlt : ∀ j, j < N → nm L j < l.length := fun j hj => by have := hmono j (N - 1) (by omega) (by omega); omega
  have hx : ∀ e, e + 1 < N → X l (nm L e) < X l (nm L (e + 1)) := fun e he => hg.X (c4 e he).1 (hlt _ he)
  have hsup : ∀ e v, e + 1 < N → v < l.length → Y hs (nm L e) + slp (fun j => Y hs (nm L j)) (fun j => X l (nm L j)) e * (X l v - X l (nm L e)) ≤ Y hs v := by
    intro e v he hv
    have hv0 := conv_support (H := fun j => Y hs (nm L j)) (x := fun j => X l (nm L j)) hx c5 e
    generalize slp (fun j => Y hs (nm L j)) (fun j => X l (nm L j)) e = mm at *
    obtain ⟨j, hj, hij, hmin⟩ := least_idx (L := L) (i := v) N ⟨N - 1, by omega, by omega⟩
    rcases Nat.lt_or_eq_of_le hij with h | h
    · rcases Nat.eq_zero_or_pos j with h0 | h0
      · subst h0; omega
      obtain ⟨j, rfl⟩ : ∃ j', j = j' + 1 := ⟨j - 1, by omega⟩
      have hp := hmin j (by omega)
      have a := (c4 j hj).2 v hp h
      have b1 := hv0 j he (by omega)
      have b2 := hv0 (j + 1) he hj
      refine Rat.le_trans ?_ a
      rw [le_ln hg (by omega) (hlt _ hj)]
      have y1 := hg.X hp hv; have y2 := hg.X h (hlt _ hj)
      have d1 := Rat.mul_le_mul_of_nonneg_right b1 (show 0 ≤ X l (nm L (j + 1)) - X l v by grind)
      have d2 := Rat.mul_le_mul_of_nonneg_right b2 (show 0 ≤ X l v - X l (nm L j) by grind)
      grind
    · rw [h]; exact hv0 j he hj
  obtain ⟨j, hj, hij, hmin⟩ := least_idx (L := L) (i := i) N ⟨N - 1, by omega, by omega⟩
  have ha : ∀ j', j' < j → (nthS l (nm L j')).a < (nthS l i).a := fun j' hj' => hg.up _ _ (hmin j' hj') hi
  rcases Nat.lt_or_eq_of_le hij with h | h
  · rcases Nat.eq_zero_or_pos j with h0 | h0
    · subst h0; omega
    obtain ⟨j, rfl⟩ : ∃ j', j = j' + 1 := ⟨j - 1, by omega⟩
    rw [heightR_gt l hs L _ (j + 1) (by omega) ha (hg.up _ _ h (hlt _ hj))]
    have hp := hmin j (by omega)
    obtain ⟨o1, o2⟩ := line_ok hg hh hi (nm L j) (nm L (j + 1)) hp h (hlt _ hj)
    rw [Nat.add_sub_cancel, o2]
    have e1 := slp_mul (H := fun j => Y hs (nm L j)) (x := fun j => X l (nm L j)) hx j hj
    have hs' := fun v hv => hsup j v hj hv
    generalize slp (fun j => Y hs (nm L j)) (fun j => X l (nm L j)) j = mm at *
    refine ⟨Y hs (nm L j) - mm * X l (nm L j), mm, fun v hv => ?_, ?_⟩
    · have := hs' v hv
      grind
    · have y3 := hg.X hp hi; have y4 := hg.X h (hlt _ hj)
      unfold ln
      have : X l (nm L (j + 1)) - X l (nm L j) ≠ 0 := by grind
      have e3 : Y hs (nm L (j + 1)) = Y hs (nm L j) + mm * (X l (nm L (j + 1)) - X l (nm L j)) := by grind
      rw [e3]
      clear hsup hs' c4 c5 hmono hmin ha hlt hx
      grind
  · rw [heightR_eq l hs L _ j (by omega) ha (by rw [← h]), ← h, V_one]
    show ∃ al mu : Rat, _ ∧ Y hs i = _
    rcases Nat.eq_zero_or_pos j with h0 | h0
    · subst h0
      rcases Nat.lt_or_ge 1 N with hN | hN
      · have hs' := fun v hv => hsup 0 v hN hv
        rw [← h] at hs'
        generalize slp (fun j => Y hs (nm L j)) (fun j => X l (nm L j)) 0 = mm at *
        refine ⟨Y hs i - mm * X l i, mm, fun v hv => ?_, ?_⟩
        · have := hs' v hv
          clear hsup hs' c4 c5 hmono hmin ha hlt hx
          grind
        · clear hsup hs' c4 c5 hmono hmin ha hlt hx
          grind
      · have hN1 : N = 1 := by omega
        have hm0 : m = 0 := by rw [← c3', hN1]; exact c2
        refine ⟨Y hs i, 0, fun v hv => ?_, ?_⟩
        · obtain rfl : v = i := by omega
          grind
        · grind
    · obtain ⟨j, rfl⟩ : ∃ j', j = j' + 1 := ⟨j - 1, by omega⟩
      have e1 := slp_mul (H := fun j => Y hs (nm L j)) (x := fun j => X l (nm L j)) hx j hj
      have hs' := fun v hv => hsup j v hj hv
      generalize slp (fun j => Y hs (nm L j)) (fun j => X l (nm L j)) j = mm at *
      rw [← h] at e1
      refine ⟨Y hs (nm L j) - mm * X l (nm L j), mm, fun v hv => ?_, ?_⟩
      · have := hs' v hv
        clear hsup hs' c4 c5 hmono hmin ha hlt hx
        grind
      · clear hsup hs' c4 c5 hmono hmin ha hlt hx
        grind

/-- The heights that are returned meet everywhere. -/
theorem hP_conv {l : List St} (h : checkPair l = 0) {i k m : Nat} (h1 : i < k) (h2 : k < m) (h3 : m < l.length) :
    V (hP l k) * (X l m - X l i) ≤ V (hP l i) * (X l m - X l k) + V (hP l m) * (X l k - X l i) := by
  have g := gd l h
  obtain ⟨al, mu, hsup, he⟩ := hull_sup g (hb l true h) (show k < l.length by omega)
  have he' : V (hP l k) = al + mu * X l k := he
  have low : ∀ v, v < l.length → al + mu * X l v ≤ V (hP l v) := by
    intro v hv
    rw [(hP_spec l h hv).2]
    refine ⟨hsup v hv, fun i' k' a b c => ?_⟩
    rw [le_ln g (by omega) c]
    have y1 := g.X a hv; have y2 := g.X b c
    have d1 := Rat.mul_le_mul_of_nonneg_right (hsup i' (by omega)) (show 0 ≤ X l k' - X l v by grind)
    have d2 := Rat.mul_le_mul_of_nonneg_right (hsup k' c) (show 0 ≤ X l v - X l i' by grind)
    grind
  have y1 := g.X h1 (by omega); have y2 := g.X h2 h3
  have d1 := Rat.mul_le_mul_of_nonneg_right (low i (by omega)) (show 0 ≤ X l m - X l k by grind)
  have d2 := Rat.mul_le_mul_of_nonneg_right (low m h3) (show 0 ≤ X l k - X l i by grind)
  rw [he']
  grind
end Ma
end Go.Proofs.Ytbjmkmambmeifaa

namespace Go.Proofs.Ytbjmkmambmeifaa
open Go.RowKit
namespace Ma

theorem lessW_V2 {a b : Ra} (ha : 0 < a.den) (ha2 : a.den ≤ 1000000000) (ha3 : -1000000000 ≤ a.num) (ha4 : a.num ≤ 1000000000) (hb : 0 < b.den) (hb2 : b.den ≤ 1000000000) (hb3 : -1000000000 ≤ b.num) (hb4 : b.num ≤ 1000000000) : lessW a b = decide (V a < V b) := by
  unfold lessW
  obtain ⟨p1, p2⟩ := mul_bd ha3 ha4 hb hb2
  obtain ⟨q1, q2⟩ := mul_bd hb3 hb4 ha ha2
  rw [wrap_id p1 p2, wrap_id q1 q2]
  simp only [V_lt ha hb]
/-- What is true of allowed heights. -/
theorem chB_at {l : List St} {h : List Ra} {k : Nat} : chB l h k = true ↔ 1 ≤ (nthR h k).den ∧ (nthR h k).den ≤ 1000 ∧ -1000000 ≤ (nthR h k).num ∧ (nthR h k).num ≤ 1000000 ∧ (nthS l k).lo * (nthR h k).den ≤ (nthR h k).num ∧ (nthR h k).num ≤ (nthS l k).hi * (nthR h k).den := by
  simp [chB, inB]
  constructor
  · rintro ⟨⟨a, b⟩, ⟨c, d⟩, e, f⟩; exact ⟨a, b, c, d, e, f⟩
  · rintro ⟨a, b, c, d, e, f⟩; exact ⟨⟨a, b⟩, ⟨c, d⟩, e, f⟩
theorem checkHP_zero {l : List St} {h : List Ra} : checkHP l h = 0 ↔ checkPair l = 0 ∧ h.length = l.length ∧ (∀ k, k < l.length → chB l h k = true) ∧ ∀ i k m, i < k → k < m → m < l.length → gapeB l h i k m = false := by
  rw [check_eq]
  unfold checkHR
  by_cases h0 : checkPair l = 0
  · rw [if_neg (fun hx => hx h0)]
    by_cases h1 : h.length = l.length
    · rw [if_neg (fun hx => hx h1)]
      by_cases h2 : ∀ k, k < l.length → chB l h k = true
      · rw [if_pos h2, ← noGape_iff]
        by_cases h3 : noGape l h = true
        · rw [if_pos h3]; exact ⟨fun _ => ⟨h0, h1, h2, h3⟩, fun _ => rfl⟩
        · rw [if_neg h3]; exact ⟨fun hx => absurd hx (by decide), fun hx => absurd hx.2.2.2 h3⟩
      · rw [if_neg h2]; exact ⟨fun hx => absurd hx (by decide), fun hx => absurd hx.2.2.1 h2⟩
    · rw [if_pos h1]; exact ⟨fun hx => absurd hx (by decide), fun hx => absurd hx.2.1 h1⟩
  · rw [if_pos h0]; exact ⟨fun hx => absurd hx h0, fun hx => absurd hx.1 h0⟩
theorem V_range {r : Ra} {a b : Int} (hd : 0 < r.den) : (a * r.den ≤ r.num ↔ (a : Rat) ≤ V r) ∧ (r.num ≤ b * r.den ↔ V r ≤ (b : Rat)) := by
  constructor
  · rw [← V_one, V_le Int.one_pos hd]; simp
  · rw [← V_one, V_le hd Int.one_pos]; simp
/-- Heights that are allowed and meet everywhere are nowhere above the greatest ones. -/
theorem given_le {l : List St} {g : List Ra} (hz : checkHP l g = 0) {k : Nat} (hk : k < l.length) : V (nthR g k) ≤ V (hP l k) := by
  obtain ⟨h0, h1, h2, h3⟩ := checkHP_zero.1 hz
  have hc := chB_at.1 (h2 k hk)
  have gg := gd l h0
  have hi : ∀ j, j < l.length → V (nthR g j) ≤ Y (ends l true) j := by
    intro j hj
    have := chB_at.1 (h2 j hj)
    unfold Y; rw [ends_hi l hj]
    exact (V_range (a := 0) (by omega)).2.1 this.2.2.2.2.2
  rw [(hP_spec l h0 hk).2]
  refine ⟨hi k hk, fun i m a b c => ?_⟩
  have hg := h3 i k m a b c
  rw [← Bool.not_eq_true, bend_iff l g (by have := chB_at.1 (h2 i (by omega)); omega) (by omega) (by have := chB_at.1 (h2 m c); omega), Rat.not_lt] at hg
  rw [le_ln gg (by omega) c]
  have y1 := gg.X a hk; have y2 := gg.X b c
  have d1 := Rat.mul_le_mul_of_nonneg_right (hi i (by omega)) (show 0 ≤ X l m - X l k by grind)
  have d2 := Rat.mul_le_mul_of_nonneg_right (hi m c) (show 0 ≤ X l k - X l i by grind)
  grind
theorem wedge_no {l : List St} {g : List Ra} {i k m : Nat} (a : i < k) (b : k < m) (c : m < l.length) (hw : isWedgeB l i k m = true) : checkHP l g ≠ 0 := by
  intro hz
  obtain ⟨h0, h1, h2, h3⟩ := checkHP_zero.1 hz
  have hk : k < l.length := by omega
  have hc := chB_at.1 (h2 k hk)
  have e := (V_range (r := nthR g k) (a := (nthS l k).lo) (b := 0) (by omega)).1.1 hc.2.2.2.2.1
  have q := given_le hz hk
  have := ((hP_spec l h0 hk).2 _).1 Rat.le_refl
  have := this.2 i m a b c
  rw [wedge_iff l h0 a b c] at hw
  grind
theorem hP_den {l : List St} (h : checkPair l = 0) {i : Nat} (hi : i < l.length) : (hP l i).den ≤ 1000 := by
  rw [height_eq l h i hi]
  unfold hR
  split
  · rename_i hc
    exact (least_rng l true h i hc.1).2.2
  · show (1 : Int) ≤ 1000; decide
theorem nthR_map {l : List St} (f : Nat → Ra) {i : Nat} (hi : i < l.length) : nthR ((List.range l.length).map f) i = f i := by simp [nthR, hi]
theorem either_none {l : List St} (h : checkPair l = 0) (hw : wedgeF l = none) : heightsErrP l = 0 ∧ (heightsP l).length = l.length ∧ checkHP l (heightsP l) = 0 ∧ (∀ i k m, i < k → k < m → m < l.length → isWedgeB l i k m = false) ∧
    ∀ g, checkHP l g = 0 → ∀ i, i < l.length → lessW (nthR (heightsP l) i) (nthR g i) = false := by
  have he : heightsErrP l = 0 := by rw [heightsErr_eq]; unfold heightsErrR; rw [if_neg (fun hx => hx h), hw]; simp
  have hnw : ∀ i k m, i < k → k < m → m < l.length → isWedgeB l i k m = false := by
    intro i k m a b c
    rw [← Bool.not_eq_true]
    intro hx
    have := wedgeF_iff.2 ⟨i, k, m, a, b, c, hx⟩
    rw [hw] at this; cases this
  have hf : heightsP l = (List.range l.length).map (hP l) := by unfold heightsP; rw [if_pos he]
  have hlo : ∀ k, k < l.length → ((nthS l k).lo : Rat) ≤ V (hP l k) ∧ V (hP l k) ≤ ((nthS l k).hi : Rat) := by
    intro k hk
    have hs := hP_spec l h hk
    constructor
    · rw [hs.2]
      refine ⟨?_, fun i m a b c => ?_⟩
      · unfold Y; rw [ends_hi l hk]; exact Rat.intCast_le_intCast.2 (valid_at l h k hk).2.2.2.1
      · rw [← Rat.not_lt, ← wedge_iff l h a b c, hnw i k m a b c]; simp
    · have := ((hs.2 _).1 Rat.le_refl).1
      unfold Y at this; rw [ends_hi l hk] at this; exact this
  refine ⟨he, by rw [hf]; simp, checkHP_zero.2 ⟨h, by rw [hf]; simp, fun k hk => ?_, fun i k m a b c => ?_⟩, hnw, fun g hz i hi => ?_⟩
  · rw [chB_at, hf, nthR_map _ hk]
    have hd := (hP_spec l h hk).1.den
    have hd2 := hP_den h hk
    have e1 := (V_range (r := hP l k) (a := (nthS l k).lo) (b := (nthS l k).hi) hd).1.2 (hlo k hk).1
    have e2 := (V_range (r := hP l k) (a := (nthS l k).lo) (b := (nthS l k).hi) hd).2.2 (hlo k hk).2
    have hv := valid_at l h k hk
    have m1 := mul_rng (a := (nthS l k).lo) (b := (hP l k).den) (by omega) (by omega) (by omega) hd2
    have m2 := mul_rng (a := (nthS l k).hi) (b := (hP l k).den) (by omega) (by omega) (by omega) hd2
    omega
  · rw [← Bool.not_eq_true, hf, bend_iff l _ (by rw [nthR_map _ (show i < l.length by omega)]; exact (hP_spec l h (show i < l.length by omega)).1.den) (by rw [nthR_map _ (show k < l.length by omega)]; exact (hP_spec l h (show k < l.length by omega)).1.den) (by rw [nthR_map _ c]; exact (hP_spec l h c).1.den), nthR_map _ (show i < l.length by omega), nthR_map _ (show k < l.length by omega), nthR_map _ c, Rat.not_lt]
    exact hP_conv h a b c
  · rw [hf, nthR_map _ hi]
    have hc := chB_at.1 ((checkHP_zero.1 hz).2.2.1 i hi)
    have ho := (hP_spec l h hi).1
    rw [lessW_V2 ho.den ho.den2 ho.num1 ho.num2 (by omega) (by omega) (by omega) (by omega)]
    have := given_le hz hi
    simp; grind
theorem either_some {l : List St} {t : List Int} {i k m : Nat} (ht : checkTruth l t = 0) (hw : wedgeF l = some (i, k, m)) : i < k ∧ k < m ∧ m < l.length ∧ isWedgeB l i k m = true ∧ spanE l t k (nthI t k) = 22 ∧ heightsErrP l = 22 ∧ heightsP l = [] ∧ ∀ g, checkHP l g ≠ 0 := by
  have h := (truth_pair ht).1
  obtain ⟨a, b, c, d⟩ := wedgeF_some hw
  have he : heightsErrP l = 22 := by rw [heightsErr_eq]; unfold heightsErrR; rw [if_neg (fun hx => hx h), hw]; simp
  refine ⟨a, b, c, d, ?_, he, by unfold heightsP; rw [if_neg (by omega)], fun g => wedge_no a b c d⟩
  have hk : k < l.length := by omega
  rcases kinds_law ht hk with hA | hA | hA
  · exact hA.2.2.2.1
  · have : wedAt l k = true := wedAt_iff.2 ⟨i, m, a, b, c, d⟩
    rw [hA.2.2.2.2.1] at this; cases this
  · have : wedAt l k = true := wedAt_iff.2 ⟨i, m, a, b, c, d⟩
    rw [hA.2.2.2.2.1] at this; cases this
end Ma
end Go.Proofs.Ytbjmkmambmeifaa

namespace Go.Proofs.Ytbjmkmambmeifaa
open Go.ChangeShapes Go.WideShapes Go.ChangeAt Go.RowKit Go.Deep

section
variable {H : Type} {enc : TypeId × Value → H} {w : World} {base : Nat} {spare : Nat → Bool} {held : Bool} {P : Program}
theorem okWide_arr {r : Reach} {b0 : Nat} {t : TypeId} {n : Nat} {e : TypeId} {v : Value} (ht : P.underlying t = some (.array n e)) (h : Value.okWide P w r b0 t v) : ∃ cs, v = .agg cs ∧ cs.size = P.cellsOf t := by
  simp only [Value.okWide, ht] at h
  obtain ⟨cs, h1, h2, _⟩ := h
  exact ⟨cs, h1, h2⟩
theorem arr_int {t e : TypeId} {n : Nat} {k : IntKind} (ht : P.underlying t = some (.array n e)) (he : P.underlying e = some (.int k)) (hc : P.cellsOf e = 1) {fuel : Nat} {cs : List Value} {x : DataW H × List MemPlace}
    (h : DataW.trod enc P w base spare held fuel t cs = some x) : ∀ i, i < n → ∃ m, cs[i]? = some (.int k m) ∧ (Lit.int k m).wf = true := by
  obtain ⟨xs, m, _, _, hcl, hxl, hf⟩ := DataW.trod_array ht h
  intro i hi
  have h1 := hf i hi
  rw [hc, Nat.mul_one] at h1
  rw [List.getElem?_eq_getElem (show i < xs.length by omega)] at h1
  obtain ⟨y, e0, _, w0⟩ := DataW.trod_int he h1
  refine ⟨y, ?_, w0⟩
  have : ((cs.drop i).take 1)[0]? = some (.int k y) := by rw [e0]; rfl
  rw [List.getElem?_take_of_lt (by decide), List.getElem?_drop] at this
  simpa using this
end
section
variable {H : Type} {enc : TypeId × Value → H} {w : World} {base : Nat} {spare : Nat → Bool} {held : Bool}
theorem cells5 : Try.prog.cellsOf 5 = 1 := by kernel_rfl
theorem cells51 : Try.prog.cellsOf 51 = 3 := by kernel_rfl
theorem cells66 : Try.prog.cellsOf 66 = 2 := by kernel_rfl
theorem byte_wf {n : Int} (h : (Lit.int .u8 n).wf = true) : ∃ m : Nat, n = m ∧ m ≤ 255 := by
  have hb : 0 ≤ n ∧ n ≤ 255 := by simpa [Lit.wf, IntKind.min, IntKind.max, IntKind.signed, IntKind.bits] using h
  exact ⟨n.toNat, by omega, by omega⟩
theorem word_wf {n : Int} (h : (Lit.int .u16 n).wf = true) : ∃ m : Nat, n = m ∧ m ≤ 65535 := by
  have hb : 0 ≤ n ∧ n ≤ 65535 := by simpa [Lit.wf, IntKind.min, IntKind.max, IntKind.signed, IntKind.bits] using h
  exact ⟨n.toNat, by omega, by omega⟩
set_option maxRecDepth 100000 in
theorem open_a3 {v : Value} {d : DataW H} {ps : List MemPlace} {r : Reach} {b0 : Nat} (hval : Value.okWide Try.prog w r b0 51 v) (hd : DataW.Trod enc Try.prog w base spare held 51 v d ps) : ∃ x y z : Nat, v = .agg #[.int .u8 x, .int .u8 y, .int .u8 z] ∧ x ≤ 255 ∧ y ≤ 255 ∧ z ≤ 255 := by
  obtain ⟨cs, rfl, hsz⟩ := okWide_arr Try.underlying51 hval
  obtain ⟨fuel, hd⟩ := hd
  have hA := arr_int Try.underlying51 Try.underlying5 cells5 hd
  obtain ⟨x, h0, w0⟩ := hA 0 (by decide)
  obtain ⟨y, h1, w1⟩ := hA 1 (by decide)
  obtain ⟨z, h2, w2⟩ := hA 2 (by decide)
  obtain ⟨x, rfl, q0⟩ := byte_wf w0
  obtain ⟨y, rfl, q1⟩ := byte_wf w1
  obtain ⟨z, rfl, q2⟩ := byte_wf w2
  refine ⟨x, y, z, ?_, q0, q1, q2⟩
  rw [cells51] at hsz
  congr 1
  apply Array.ext
  · simpa using hsz
  · intro i hi _
    have hc : ∀ j (hj : j < cs.size) v, (Value.agg cs).cells.toList[j]? = some v → cs[j] = v := by
      intro j hj v hv
      have hv' : cs.toList[j]? = some v := hv
      rw [Array.getElem?_toList, Array.getElem?_eq_getElem hj] at hv'
      exact Option.some.inj hv'
    match i, hi with
    | 0, hi => exact hc 0 hi _ h0
    | 1, hi => exact hc 1 hi _ h1
    | 2, hi => exact hc 2 hi _ h2
    | i + 3, hi => omega
set_option maxRecDepth 100000 in
theorem open_a2 {v : Value} {d : DataW H} {ps : List MemPlace} {r : Reach} {b0 : Nat} (hval : Value.okWide Try.prog w r b0 66 v) (hd : DataW.Trod enc Try.prog w base spare held 66 v d ps) : ∃ x y : Nat, v = .agg #[.int .u16 x, .int .u16 y] ∧ x ≤ 65535 ∧ y ≤ 65535 := by
  obtain ⟨cs, rfl, hsz⟩ := okWide_arr Try.underlying66 hval
  obtain ⟨fuel, hd⟩ := hd
  have hA := arr_int Try.underlying66 Try.underlying65 cells65 hd
  obtain ⟨x, h0, w0⟩ := hA 0 (by decide)
  obtain ⟨y, h1, w1⟩ := hA 1 (by decide)
  obtain ⟨x, rfl, q0⟩ := word_wf w0
  obtain ⟨y, rfl, q1⟩ := word_wf w1
  refine ⟨x, y, ?_, q0, q1⟩
  rw [cells66] at hsz
  congr 1
  apply Array.ext
  · simpa using hsz
  · intro i hi _
    have hc : ∀ j (hj : j < cs.size) v, (Value.agg cs).cells.toList[j]? = some v → cs[j] = v := by
      intro j hj v hv
      have hv' : cs.toList[j]? = some v := hv
      rw [Array.getElem?_toList, Array.getElem?_eq_getElem hj] at hv'
      exact Option.some.inj hv'
    match i, hi with
    | 0, hi => exact hc 0 hi _ h0
    | 1, hi => exact hc 1 hi _ h1
    | i + 2, hi => omega
end
end Go.Proofs.Ytbjmkmambmeifaa

namespace Go.Proofs.Ytbjmkmambmeifaa
open Go.RowKit

set_option maxRecDepth 100000 in
theorem either_no (l : List St) (u : List Int) (gv : List Ra) (x y z : Nat) (vl vu vg : Value) (w : World) (hl : fineB l = false ∨ 40 < u.length ∨ 40 < gv.length) (h : RSt w w.heap.size vl l) (h' : RU w w.heap.size vu u) (h'' : RRa w w.heap.size vg gv) :
    Calls Try.prog 6 #[vl, vu, vg, .agg #[.int .u8 x, .int .u8 y, .int .u8 z]] w fun e w' => e = .returned (.bool true) ∧ Below w.heap.size w w' := by
  obtain ⟨A2, cap2, bu, offu, rfl, _, _⟩ := h'
  obtain ⟨A3, cap3, bg, offg, rfl, _, _⟩ := h''
  have hf := fun W (hb : Below w.heap.size w W) => fine_all l vl W ((RS.below h hb).more hb.size)
  obtain ⟨p, hp⟩ : ∃ p, fineB l = p := ⟨_, rfl⟩
  obtain ⟨q, hq⟩ : ∃ q, decide (40 < (u.length : Int)) = q := ⟨_, rfl⟩
  obtain ⟨r, hr⟩ : ∃ r, decide (40 < (gv.length : Int)) = r := ⟨_, rfl⟩
  have ho : p = false ∨ (p = true ∧ q = true) ∨ (p = true ∧ q = false ∧ r = true) := by
    have e2 : q = true ↔ 40 < u.length := by rw [← hq]; simp; omega
    have e3 : r = true ↔ 40 < gv.length := by rw [← hr]; simp; omega
    rw [hp] at hl
    cases p with
    | false => exact .inl rfl
    | true =>
      rcases hl with hl | hl | hl
      · cases hl
      · exact .inr (.inl ⟨rfl, e2.2 hl⟩)
      · cases q with
        | true => exact .inr (.inl ⟨rfl, rfl⟩)
        | false => exact .inr (.inr ⟨rfl, rfl, e3.2 hl⟩)
  rw [hp] at hf
  have HF := Lib.hid hf
  clear hl hf h hp
  rcases ho with rfl | ⟨rfl, rfl⟩ | ⟨rfl, rfl, rfl⟩
  all_goals
    go_enter Try.func6, Try.ntmps6
    go_wp2_with fail
    refine (HF.out _ (by (repeat (first | with_reducible assumption | with_reducible exact Below.refl _ _ | (with_reducible refine Below.setCell ?_ (by first | omega | (simp; omega) | (simp; done)) _) | (with_reducible refine Below.alloc ?_ (by first | omega | (simp; omega) | (simp; done)) _) | (with_reducible refine Below.drew ?_) | (with_reducible refine belowN ?_ _) | assumption | exact Below.refl _ _ | (refine Below.alloc ?_ (by first | omega | (simp; omega) | (simp; done)) _) | (refine Below.drew ?_) | (refine belowN ?_ _) | (refine Below.setCell ?_ (by first | omega | (simp; omega) | (simp; done)) _))))).mono ?_
    rintro e w1 ⟨rfl, hb0⟩
    have hB1 : Below w.heap.size w w1 := (Below.trans (a := w) (B := w.heap.size) (by (repeat (first | with_reducible assumption | with_reducible exact Below.refl _ _ | (with_reducible refine Below.setCell ?_ (by first | omega | (simp; omega) | (simp; done)) _) | (with_reducible refine Below.alloc ?_ (by first | omega | (simp; omega) | (simp; done)) _) | (with_reducible refine Below.drew ?_) | (with_reducible refine belowN ?_ _) | assumption | exact Below.refl _ _ | (refine Below.alloc ?_ (by first | omega | (simp; omega) | (simp; done)) _) | (refine Below.drew ?_) | (refine belowN ?_ _) | (refine Below.setCell ?_ (by first | omega | (simp; omega) | (simp; done)) _)))) (hb0.mono (by first | omega | (simp; omega) | (simp; done))))
    clear hb0
    go_wp2_with fail
    refine (works_any _).mono ?_
    rintro e w2 ⟨rfl, hb1⟩
    go_wp2_with fail
    go_ret
    exact ⟨rfl, hB1.trans (hb1.mono hB1.size)⟩

theorem wedgeV_some {l : List St} {i k m : Nat} (hv : checkPair l = 0) (hw : wedgeF l = some (i, k, m)) : wedgeV l = .tuple #[.agg #[.int .i64 i, .int .i64 k, .int .i64 m], .int .i64 0] := by
  unfold wedgeV; rw [if_neg (by simpa using hv), hw]; rfl
theorem wedgeV_none {l : List St} (hv : checkPair l = 0) (hw : wedgeF l = none) : wedgeV l = .tuple #[.agg #[.int .i64 0, .int .i64 0, .int .i64 0], .int .i64 5] := by
  unfold wedgeV; rw [if_neg (by simpa using hv), hw]; rfl

set_option maxRecDepth 100000 in
set_option maxHeartbeats 8000000 in
theorem either_w (l : List St) (u : List Int) (gv : List Ra) (x y z : Nat) (vl vu vg : Value) (w : World) (hv : checkPair l = 0) (hu : ¬ 40 < u.length) (hgv : ¬ 40 < gv.length) (hub : ∀ k, k < u.length → 0 ≤ nthI u k ∧ nthI u k ≤ 65535)
    (h : RSt w w.heap.size vl l) (h' : RU w w.heap.size vu u) (h'' : RRa w w.heap.size vg gv) (i k m : Nat) (hw : wedgeF l = some (i, k, m)) :
    Calls Try.prog 6 #[vl, vu, vg, .agg #[.int .u8 x, .int .u8 y, .int .u8 z]] w fun e w' => e = .returned (.bool true) ∧ Below w.heap.size w w' := by
  have hn := checkPair_len l hv
  have hF := fun W (hb : Below w.heap.size w W) => fine_all l vl W ((RS.below h hb).more hb.size)
  rw [show fineB l = true from decide_eq_true hv] at hF
  have hWd := fun W (hb : Below w.heap.size w W) => wedgeP_any l vl W (by omega) ((RS.below h hb).more hb.size)
  have hH := fun W (hb : Below w.heap.size w W) => heightsP_any l vl W (by omega) ((RS.below h hb).more hb.size)
  have hG := fun W (hb : Below w.heap.size w W) => checkHeightsP_any l gv vl vg W (by omega) (by omega) ((RS.below h hb).more hb.size) ((RS.below h'' hb).more hb.size)
  have hIW := fun W i k m (hb : Below w.heap.size w W) (hi : i < l.length) (hk : k < l.length) (hm : m < l.length) => isWedge_any l i k m vl W hv ((RS.below h hb).more hb.size) hi hk hm
  have htv := truthR_ok u hv hub
  obtain ⟨hik, hkm, hml, hwd, hsp, hhe, hhs, hgz⟩ := Ma.either_some htv hw
  have hgz := hgz gv
  have hTr := fun W (hb : Below w.heap.size w W) => truth_any l u vl vu W hv (by omega) hub ((RS.below h hb).more hb.size) ((RS.below h' hb).more hb.size)
  have hTi := fun W v (hb : Below w.heap.size w W) (hr : RI W W.heap.size v (truthR l u)) => tilts_any l (truthR l u) k vl v W (by omega) (by rw [truthR_length]; omega) ((RS.below h hb).more hb.size) hr
  have hIW2 := fun W (hb : Below w.heap.size w W) => hIW W i k m hb (by omega) (by omega) hml
  simp only [tiltsV_ok htv (show k < l.length by omega)] at hTi
  obtain ⟨c1, c2, c3, c4, hc⟩ := spanV_formE l (truthR l u) k (nthI (truthR l u) k)
  rw [hc, hsp] at hTi
  rw [hhe, hhs] at hH
  rw [wedgeV_some hv hw] at hWd
  simp only [hwd] at hIW2
  clear hIW hc htv hwd hsp hhe hhs hw
  generalize truthR l u = tt at *
  generalize checkHP l gv = gz at *
  have HF := Lib.hid hF; have HW := Lib.hid hWd; have HH := Lib.hid hH; have HG := Lib.hid hG; have HIW := Lib.hid hIW2; have HT := Lib.hid hTr; have HTI := Lib.hid hTi
  obtain ⟨A, cap, b, off, rfl, _, _⟩ := h.cells
  obtain ⟨A2, cap2, bu, offu, rfl, _, _⟩ := h'
  obtain ⟨A3, cap3, bg, offg, rfl, _, _⟩ := h''.cells
  have d2 : decide (40 < (u.length : Int)) = false := by simp; omega
  have d3 : decide (40 < (gv.length : Int)) = false := by simp; omega
  have d4 : decide ((i : Int) < 0) = false := by simp
  have d5 : decide (k ≤ i) = false := by simp; omega
  have d6 : decide (m ≤ k) = false := by simp; omega
  have d7 : decide (l.length ≤ m) = false := by simp; omega
  have d8 : (gz != 0) = true := by simpa using hgz
  clear hF hWd hH hG hIW2 hTr hTi h h'' hv hub hgz hu hgv
  have hC : Below w.heap.size w w := Below.refl _ _
  go_enter Try.func6, Try.ntmps6
  go_wp2_with fail
  have bx : BK (w.alloc (.cells #[.int .u8 x, .int .u8 y, .int .u8 z] 51)) w.heap.size #[.int .u8 x, .int .u8 y, .int .u8 z] 51 := BK.new _ _ _
  have hC2 : Below w.heap.size w (w.alloc (.cells #[.int .u8 x, .int .u8 y, .int .u8 z] 51)) := by have := hC.size; (repeat (first | with_reducible assumption | with_reducible exact Below.refl _ _ | (with_reducible refine Below.setCell ?_ (by first | omega | (simp; omega) | (simp; done)) _) | (with_reducible refine Below.alloc ?_ (by first | omega | (simp; omega) | (simp; done)) _) | (with_reducible refine Below.drew ?_) | (with_reducible refine belowN ?_ _) | assumption | exact Below.refl _ _ | (refine Below.alloc ?_ (by first | omega | (simp; omega) | (simp; done)) _) | (refine Below.drew ?_) | (refine belowN ?_ _) | (refine Below.setCell ?_ (by first | omega | (simp; omega) | (simp; done)) _)))
  clear hC; have hC := hC2; clear hC2
  generalize (w.alloc (.cells #[.int .u8 x, .int .u8 y, .int .u8 z] 51)) = Wbx at *
  obtain ⟨gbx, hgbx⟩ : ∃ g, w.heap.size = g := ⟨_, rfl⟩
  rw [hgbx] at bx
  try rw [hgbx]
  clear hgbx
  refine (HF.out Wbx hC).mono ?_
  rintro e w1 ⟨rfl, hb⟩
  have hC2 : Below w.heap.size w w1 := hC.trans (hb.mono hC.size)
  clear hC; have hC := hC2; clear hC2
  have bx_ := bx.below hb bx.lt; clear bx; have bx := bx_; clear bx_
  clear hb
  go_wp2_with fail
  refine (HW.out w1 hC).mono ?_
  rintro e w2 ⟨rfl, hb⟩
  have hC2 : Below w.heap.size w w2 := hC.trans (hb.mono hC.size)
  clear hC; have hC := hC2; clear hC2
  have bx_ := bx.below hb bx.lt; clear bx; have bx := bx_; clear bx_
  clear hb
  go_wp2_with fail
  have bw : BK (w2.alloc (.cells #[.int .i64 i, .int .i64 k, .int .i64 m] 44)) w2.heap.size #[.int .i64 i, .int .i64 k, .int .i64 m] 44 := BK.new _ _ _
  have hC2 : Below w.heap.size w (w2.alloc (.cells #[.int .i64 i, .int .i64 k, .int .i64 m] 44)) := by have := hC.size; (repeat (first | with_reducible assumption | with_reducible exact Below.refl _ _ | (with_reducible refine Below.setCell ?_ (by first | omega | (simp; omega) | (simp; done)) _) | (with_reducible refine Below.alloc ?_ (by first | omega | (simp; omega) | (simp; done)) _) | (with_reducible refine Below.drew ?_) | (with_reducible refine belowN ?_ _) | assumption | exact Below.refl _ _ | (refine Below.alloc ?_ (by first | omega | (simp; omega) | (simp; done)) _) | (refine Below.drew ?_) | (refine belowN ?_ _) | (refine Below.setCell ?_ (by first | omega | (simp; omega) | (simp; done)) _)))
  clear hC; have hC := hC2; clear hC2
  have bx_ := bx.alloc (.cells #[.int .i64 i, .int .i64 k, .int .i64 m] 44); clear bx; have bx := bx_; clear bx_
  generalize (w2.alloc (.cells #[.int .i64 i, .int .i64 k, .int .i64 m] 44)) = Wbw at *
  obtain ⟨gbw, hgbw⟩ : ∃ g, w2.heap.size = g := ⟨_, rfl⟩
  rw [hgbw] at bw
  try rw [hgbw]
  clear hgbw
  refine (HH.out Wbw hC).mono ?_
  rintro e w3 ⟨vh, rfl, hh, hb⟩
  have hC2 : Below w.heap.size w w3 := hC.trans (hb.mono hC.size)
  clear hC; have hC := hC2; clear hC2
  have bx_ := bx.below hb bx.lt; clear bx; have bx := bx_; clear bx_
  have bw_ := bw.below hb bw.lt; clear bw; have bw := bw_; clear bw_
  clear hb
  go_wp2_with fail
  obtain ⟨A4, cap4, b4_, off4, rfl, _, _⟩ := hh.cells
  clear hh
  simp only [List.length_nil] at *
  refine (HG.out w3 hC).mono ?_
  rintro e w4 ⟨rfl, hb⟩
  have hC2 : Below w.heap.size w w4 := hC.trans (hb.mono hC.size)
  clear hC; have hC := hC2; clear hC2
  have bx_ := bx.below hb bx.lt; clear bx; have bx := bx_; clear bx_
  have bw_ := bw.below hb bw.lt; clear bw; have bw := bw_; clear bw_
  clear hb
  have lbw := bw.lt
  have bwc0 := bw.cell 0
  have bwc1 := bw.cell 1
  have bwc2 := bw.cell 2
  simp at bwc0 bwc1 bwc2
  go_wp2_with fail
  clear lbw bwc0 bwc1 bwc2
  refine (HIW.out w4 hC).mono ?_
  rintro e w5 ⟨rfl, hb⟩
  have hC2 : Below w.heap.size w w5 := hC.trans (hb.mono hC.size)
  clear hC; have hC := hC2; clear hC2
  have bx_ := bx.below hb bx.lt; clear bx; have bx := bx_; clear bx_
  have bw_ := bw.below hb bw.lt; clear bw; have bw := bw_; clear bw_
  clear hb
  have lbw := bw.lt
  have bwc0 := bw.cell 0
  have bwc1 := bw.cell 1
  have bwc2 := bw.cell 2
  simp at bwc0 bwc1 bwc2
  go_wp2_with fail
  have d0y : Below w5.heap.size w5 w5.drew := by (repeat (first | with_reducible assumption | with_reducible exact Below.refl _ _ | (with_reducible refine Below.setCell ?_ (by first | omega | (simp; omega) | (simp; done)) _) | (with_reducible refine Below.alloc ?_ (by first | omega | (simp; omega) | (simp; done)) _) | (with_reducible refine Below.drew ?_) | (with_reducible refine belowN ?_ _) | assumption | exact Below.refl _ _ | (refine Below.alloc ?_ (by first | omega | (simp; omega) | (simp; done)) _) | (refine Below.drew ?_) | (refine belowN ?_ _) | (refine Below.setCell ?_ (by first | omega | (simp; omega) | (simp; done)) _)))
  refine wp_region_noPanic (plain_any [0, 1, 2, 4, 5, 7, 8, 9] (Below w5.heap.size w5) mixed ?_)
  (refine any_take 0 ?_ (by rfl) (by kernel_rfl) (fun _ _ _ _ _ hx => hx.elim) (.inl ⟨by rfl, ?_⟩) (by with_reducible assumption) ?_; rotate_left; (intro X hX; obtain ⟨r1, r2⟩ := Below.rules hX; clear hX; go_simp; rfl); simp only [List.getElem_toArray, List.getElem_cons_succ, List.getElem_cons_zero, Act.put, List.setIfInBounds_toArray, List.set_cons_succ, List.set_cons_zero])
  (refine any_take 1 ?_ (by rfl) (by kernel_rfl) (fun _ _ _ _ _ hx => hx.elim) (.inl ⟨by rfl, ?_⟩) (by with_reducible assumption) ?_; rotate_left; (intro X hX; obtain ⟨r1, r2⟩ := Below.rules hX; clear hX; go_simp; rfl); simp only [List.getElem_toArray, List.getElem_cons_succ, List.getElem_cons_zero, Act.put, List.setIfInBounds_toArray, List.set_cons_succ, List.set_cons_zero])
  (refine any_take 2 ?_ (by rfl) (by kernel_rfl) (fun _ _ _ _ _ hx => hx.elim) (.inl ⟨by rfl, ?_⟩) (by with_reducible assumption) ?_; rotate_left; (intro X hX; obtain ⟨r1, r2⟩ := Below.rules hX; clear hX; go_simp; rfl); simp only [List.getElem_toArray, List.getElem_cons_succ, List.getElem_cons_zero, Act.put, List.setIfInBounds_toArray, List.set_cons_succ, List.set_cons_zero])
  (refine any_take 4 ?_ (by rfl) (by kernel_rfl) (fun _ _ _ _ _ hx => hx.elim) (.inl ⟨by rfl, ?_⟩) (by with_reducible assumption) ?_; rotate_left; (intro X hX; obtain ⟨r1, r2⟩ := Below.rules hX; clear hX; go_simp; rfl); simp only [List.getElem_toArray, List.getElem_cons_succ, List.getElem_cons_zero, Act.put, List.setIfInBounds_toArray, List.set_cons_succ, List.set_cons_zero])
  (refine any_take 5 ?_ (by rfl) (by kernel_rfl) (fun _ _ _ _ _ hx => hx.elim) (.inl ⟨by rfl, ?_⟩) (by with_reducible assumption) ?_; rotate_left; (intro X hX; obtain ⟨r1, r2⟩ := Below.rules hX; clear hX; go_simp; rfl); simp only [List.getElem_toArray, List.getElem_cons_succ, List.getElem_cons_zero, Act.put, List.setIfInBounds_toArray, List.set_cons_succ, List.set_cons_zero])
  have dy1 : Below w5.heap.size w5 w5.drew := by (repeat (first | with_reducible assumption | with_reducible exact Below.refl _ _ | (with_reducible refine Below.setCell ?_ (by first | omega | (simp; omega) | (simp; done)) _) | (with_reducible refine Below.alloc ?_ (by first | omega | (simp; omega) | (simp; done)) _) | (with_reducible refine Below.drew ?_) | (with_reducible refine belowN ?_ _) | assumption | exact Below.refl _ _ | (refine Below.alloc ?_ (by first | omega | (simp; omega) | (simp; done)) _) | (refine Below.drew ?_) | (refine belowN ?_ _) | (refine Below.setCell ?_ (by first | omega | (simp; omega) | (simp; done)) _)))
  generalize w5.drew = uy2 at *
  refine any_run2 (i := 3) (j := 10) (by kernel_rfl) (by rfl) (by rfl) (by rfl) (by rfl) ?_ ?_
  · skip
    intro K hK
    have qy5 := dy1.size
    go_wp2_with fail
    refine (HT.out uy2 (hC.trans (dy1.mono hC.size))).mono ?_
    rintro e vy4 ⟨vt, rfl, ht, hb⟩
    have ey3 : Below w5.heap.size w5 vy4 := dy1.trans (hb.mono dy1.size)
    clear hb
    refine hK _ _ (fun _ => ey3) ?_
    clear hK K
    refine any_run2 (i := 6) (j := 10) (by kernel_rfl) (by rfl) (by rfl) (by rfl) (by rfl) ?_ ?_
    · skip
      intro K hK
      have qy8 := ey3.size
      go_wp2_with fail
      refine (HTI.out vy4 vt (hC.trans (ey3.mono hC.size)) ht).mono ?_
      rintro e vy7 ⟨rfl, hb⟩
      have ey6 : Below w5.heap.size w5 vy7 := ey3.trans (hb.mono ey3.size)
      have ht_ := (RS.below ht hb).more hb.size; clear ht; have ht := ht_; clear ht_
      clear hb
      refine hK _ _ (fun _ => ey6) ?_
      clear hK K
      (refine any_take 7 ?_ (by rfl) (by kernel_rfl) (fun _ _ _ _ _ hx => hx.elim) (.inl ⟨by rfl, ?_⟩) (by with_reducible assumption) ?_; rotate_left; (intro X hX; obtain ⟨r1, r2⟩ := Below.rules hX; clear hX; go_simp; rfl); simp only [List.getElem_toArray, List.getElem_cons_succ, List.getElem_cons_zero, Act.put, List.setIfInBounds_toArray, List.set_cons_succ, List.set_cons_zero])
      (refine any_take 8 ?_ (by rfl) (by kernel_rfl) (fun _ _ _ _ _ hx => hx.elim) (.inl ⟨by rfl, ?_⟩) (by with_reducible assumption) ?_; rotate_left; (intro X hX; obtain ⟨r1, r2⟩ := Below.rules hX; clear hX; go_simp; rfl); simp only [List.getElem_toArray, List.getElem_cons_succ, List.getElem_cons_zero, Act.put, List.setIfInBounds_toArray, List.set_cons_succ, List.set_cons_zero])
      (refine any_take 9 ?_ (by rfl) (by kernel_rfl) (fun _ _ _ _ _ hx => hx.elim) (.inl ⟨by rfl, ?_⟩) (by with_reducible assumption) ?_; rotate_left; (intro X hX; obtain ⟨r1, r2⟩ := Below.rules hX; clear hX; go_simp; rfl); simp only [List.getElem_toArray, List.getElem_cons_succ, List.getElem_cons_zero, Act.put, List.setIfInBounds_toArray, List.set_cons_succ, List.set_cons_zero])
      refine any_run1 (i := 10) (by kernel_rfl) (by rfl) (by kernel_rfl) ?_
      intro K hK
      have qy10 := ey6.size
      have ey9 : Below w5.heap.size w5 (vy7.alloc (.cells #[.int .i64 0, .int .i64 0, .int .i64 0, .int .i64 0] 34)) := by (repeat (first | with_reducible assumption | with_reducible exact Below.refl _ _ | (with_reducible refine Below.setCell ?_ (by first | omega | (simp; omega) | (simp; done)) _) | (with_reducible refine Below.alloc ?_ (by first | omega | (simp; omega) | (simp; done)) _) | (with_reducible refine Below.drew ?_) | (with_reducible refine belowN ?_ _) | assumption | exact Below.refl _ _ | (refine Below.alloc ?_ (by first | omega | (simp; omega) | (simp; done)) _) | (refine Below.drew ?_) | (refine belowN ?_ _) | (refine Below.setCell ?_ (by first | omega | (simp; omega) | (simp; done)) _)))
      have hnx : Below vy7.heap.size vy7 (vy7.alloc (.cells #[.int .i64 0, .int .i64 0, .int .i64 0, .int .i64 0] 34)) := Below.alloc (Below.refl _ _) (Nat.le_refl _) _
      go_wp2_with fail
      have ht_ := (RS.below ht hnx).more hnx.size; clear ht; have ht := ht_; clear ht_
      have bY : BK (vy7.alloc (.cells #[.int .i64 0, .int .i64 0, .int .i64 0, .int .i64 0] 34)) vy7.heap.size #[.int .i64 0, .int .i64 0, .int .i64 0, .int .i64 0] 34 := BK.new _ _ _
      refine hK _ _ (fun _ => ey9) ?_
      clear hK K hnx
      generalize (vy7.alloc (.cells #[.int .i64 0, .int .i64 0, .int .i64 0, .int .i64 0] 34)) = vy11 at *
      obtain ⟨gbY, hgbY⟩ : ∃ g, vy7.heap.size = g := ⟨_, rfl⟩
      have hqbY : w5.heap.size ≤ gbY := by omega
      rw [hgbY] at bY
      try rw [hgbY]
      clear hgbY
      refine any_run1 (i := 11) (by kernel_rfl) (by rfl) (by kernel_rfl) ?_
      intro K hK
      have lbY := bY.lt
      have y0 := bY.cell 0
      have f0 := bY.frozen 0
      have y1 := bY.cell 1
      have f1 := bY.frozen 1
      have y2 := bY.cell 2
      have f2 := bY.frozen 2
      have y3 := bY.cell 3
      have f3 := bY.frozen 3
      simp at y0 y1 y2 y3
      go_wp2_with fail
      have ey12 : Below w5.heap.size w5 ((((vy11.setCell ⟨gbY, 0, none⟩ (.int .i64 c1)).setCell ⟨gbY, 1, none⟩ (.int .i64 c2)).setCell ⟨gbY, 2, none⟩ (.int .i64 c3)).setCell ⟨gbY, 3, none⟩ (.int .i64 c4)) := by (repeat (first | with_reducible assumption | with_reducible exact Below.refl _ _ | (with_reducible refine Below.setCell ?_ (by first | omega | (simp; omega) | (simp; done)) _) | (with_reducible refine Below.alloc ?_ (by first | omega | (simp; omega) | (simp; done)) _) | (with_reducible refine Below.drew ?_) | (with_reducible refine belowN ?_ _) | assumption | exact Below.refl _ _ | (refine Below.alloc ?_ (by first | omega | (simp; omega) | (simp; done)) _) | (refine Below.drew ?_) | (refine belowN ?_ _) | (refine Below.setCell ?_ (by first | omega | (simp; omega) | (simp; done)) _)))
      clear ht
      have bY_ := ((((bY.set 0 (.int .i64 c1)).set 1 (.int .i64 c2)).set 2 (.int .i64 c3)).set 3 (.int .i64 c4))
      simp at bY_
      clear bY; have bY := bY_; clear bY_
      clear y0 f0 y1 f1 y2 f2 y3 f3
      refine hK _ _ (fun _ => ey12) ?_
      clear hK K
      generalize ((((vy11.setCell ⟨gbY, 0, none⟩ (.int .i64 c1)).setCell ⟨gbY, 1, none⟩ (.int .i64 c2)).setCell ⟨gbY, 2, none⟩ (.int .i64 c3)).setCell ⟨gbY, 3, none⟩ (.int .i64 c4)) = vy13 at *
      refine any_run1 (i := 12) (by kernel_rfl) (by rfl) (by kernel_rfl) ?_
      intro K hK
      go_wp2_with fail
      refine hK _ _ (fun _ => ey12) ?_
      clear hK K
      refine any_done (by kernel_rfl) (NoPanic.normal ?_)
      go_wp2_with fail
      refine (works_any _).mono ?_
      rintro e wz ⟨rfl, hb⟩
      go_wp2_with fail
      go_ret
      exact ⟨rfl, hC.trans ((ey12.trans (hb.mono ey12.size)).mono hC.size)⟩
    · skip
      intro K hK
      have qy15 := ey3.size
      have ey14 : Below w5.heap.size w5 (vy4.alloc (.cells #[.int .i64 0, .int .i64 0, .int .i64 0, .int .i64 0] 34)) := by (repeat (first | with_reducible assumption | with_reducible exact Below.refl _ _ | (with_reducible refine Below.setCell ?_ (by first | omega | (simp; omega) | (simp; done)) _) | (with_reducible refine Below.alloc ?_ (by first | omega | (simp; omega) | (simp; done)) _) | (with_reducible refine Below.drew ?_) | (with_reducible refine belowN ?_ _) | assumption | exact Below.refl _ _ | (refine Below.alloc ?_ (by first | omega | (simp; omega) | (simp; done)) _) | (refine Below.drew ?_) | (refine belowN ?_ _) | (refine Below.setCell ?_ (by first | omega | (simp; omega) | (simp; done)) _)))
      have hnx : Below vy4.heap.size vy4 (vy4.alloc (.cells #[.int .i64 0, .int .i64 0, .int .i64 0, .int .i64 0] 34)) := Below.alloc (Below.refl _ _) (Nat.le_refl _) _
      go_wp2_with fail
      have ht_ := (RS.below ht hnx).more hnx.size; clear ht; have ht := ht_; clear ht_
      have bY : BK (vy4.alloc (.cells #[.int .i64 0, .int .i64 0, .int .i64 0, .int .i64 0] 34)) vy4.heap.size #[.int .i64 0, .int .i64 0, .int .i64 0, .int .i64 0] 34 := BK.new _ _ _
      refine hK _ _ (fun _ => ey14) ?_
      clear hK K hnx
      generalize (vy4.alloc (.cells #[.int .i64 0, .int .i64 0, .int .i64 0, .int .i64 0] 34)) = vy16 at *
      obtain ⟨gbY, hgbY⟩ : ∃ g, vy4.heap.size = g := ⟨_, rfl⟩
      have hqbY : w5.heap.size ≤ gbY := by omega
      rw [hgbY] at bY
      try rw [hgbY]
      clear hgbY
      refine any_run1 (i := 6) (by kernel_rfl) (by rfl) (by kernel_rfl) ?_
      intro K hK
      have qy19 := ey14.size
      go_wp2_with fail
      refine (HTI.out vy16 vt (hC.trans (ey14.mono hC.size)) ht).mono ?_
      rintro e vy18 ⟨rfl, hb⟩
      have ey17 : Below w5.heap.size w5 vy18 := ey14.trans (hb.mono ey14.size)
      have bY_ := bY.below hb bY.lt; clear bY; have bY := bY_; clear bY_
      have ht_ := (RS.below ht hb).more hb.size; clear ht; have ht := ht_; clear ht_
      clear hb
      refine hK _ _ (fun _ => ey17) ?_
      clear hK K
      (refine any_take 7 ?_ (by rfl) (by kernel_rfl) (fun _ _ _ _ _ hx => hx.elim) (.inl ⟨by rfl, ?_⟩) (by with_reducible assumption) ?_; rotate_left; (intro X hX; obtain ⟨r1, r2⟩ := Below.rules hX; clear hX; go_simp; rfl); simp only [List.getElem_toArray, List.getElem_cons_succ, List.getElem_cons_zero, Act.put, List.setIfInBounds_toArray, List.set_cons_succ, List.set_cons_zero])
      (refine any_take 8 ?_ (by rfl) (by kernel_rfl) (fun _ _ _ _ _ hx => hx.elim) (.inl ⟨by rfl, ?_⟩) (by with_reducible assumption) ?_; rotate_left; (intro X hX; obtain ⟨r1, r2⟩ := Below.rules hX; clear hX; go_simp; rfl); simp only [List.getElem_toArray, List.getElem_cons_succ, List.getElem_cons_zero, Act.put, List.setIfInBounds_toArray, List.set_cons_succ, List.set_cons_zero])
      (refine any_take 9 ?_ (by rfl) (by kernel_rfl) (fun _ _ _ _ _ hx => hx.elim) (.inl ⟨by rfl, ?_⟩) (by with_reducible assumption) ?_; rotate_left; (intro X hX; obtain ⟨r1, r2⟩ := Below.rules hX; clear hX; go_simp; rfl); simp only [List.getElem_toArray, List.getElem_cons_succ, List.getElem_cons_zero, Act.put, List.setIfInBounds_toArray, List.set_cons_succ, List.set_cons_zero])
      refine any_run1 (i := 11) (by kernel_rfl) (by rfl) (by kernel_rfl) ?_
      intro K hK
      have lbY := bY.lt
      have y0 := bY.cell 0
      have f0 := bY.frozen 0
      have y1 := bY.cell 1
      have f1 := bY.frozen 1
      have y2 := bY.cell 2
      have f2 := bY.frozen 2
      have y3 := bY.cell 3
      have f3 := bY.frozen 3
      simp at y0 y1 y2 y3
      go_wp2_with fail
      have ey20 : Below w5.heap.size w5 ((((vy18.setCell ⟨gbY, 0, none⟩ (.int .i64 c1)).setCell ⟨gbY, 1, none⟩ (.int .i64 c2)).setCell ⟨gbY, 2, none⟩ (.int .i64 c3)).setCell ⟨gbY, 3, none⟩ (.int .i64 c4)) := by (repeat (first | with_reducible assumption | with_reducible exact Below.refl _ _ | (with_reducible refine Below.setCell ?_ (by first | omega | (simp; omega) | (simp; done)) _) | (with_reducible refine Below.alloc ?_ (by first | omega | (simp; omega) | (simp; done)) _) | (with_reducible refine Below.drew ?_) | (with_reducible refine belowN ?_ _) | assumption | exact Below.refl _ _ | (refine Below.alloc ?_ (by first | omega | (simp; omega) | (simp; done)) _) | (refine Below.drew ?_) | (refine belowN ?_ _) | (refine Below.setCell ?_ (by first | omega | (simp; omega) | (simp; done)) _)))
      clear ht
      have bY_ := ((((bY.set 0 (.int .i64 c1)).set 1 (.int .i64 c2)).set 2 (.int .i64 c3)).set 3 (.int .i64 c4))
      simp at bY_
      clear bY; have bY := bY_; clear bY_
      clear y0 f0 y1 f1 y2 f2 y3 f3
      refine hK _ _ (fun _ => ey20) ?_
      clear hK K
      generalize ((((vy18.setCell ⟨gbY, 0, none⟩ (.int .i64 c1)).setCell ⟨gbY, 1, none⟩ (.int .i64 c2)).setCell ⟨gbY, 2, none⟩ (.int .i64 c3)).setCell ⟨gbY, 3, none⟩ (.int .i64 c4)) = vy21 at *
      refine any_run1 (i := 12) (by kernel_rfl) (by rfl) (by kernel_rfl) ?_
      intro K hK
      go_wp2_with fail
      refine hK _ _ (fun _ => ey20) ?_
      clear hK K
      refine any_done (by kernel_rfl) (NoPanic.normal ?_)
      go_wp2_with fail
      refine (works_any _).mono ?_
      rintro e wz ⟨rfl, hb⟩
      go_wp2_with fail
      go_ret
      exact ⟨rfl, hC.trans ((ey20.trans (hb.mono ey20.size)).mono hC.size)⟩
  · skip
    intro K hK
    have qy23 := dy1.size
    have ey22 : Below w5.heap.size w5 (uy2.alloc (.cells #[.int .i64 0, .int .i64 0, .int .i64 0, .int .i64 0] 34)) := by (repeat (first | with_reducible assumption | with_reducible exact Below.refl _ _ | (with_reducible refine Below.setCell ?_ (by first | omega | (simp; omega) | (simp; done)) _) | (with_reducible refine Below.alloc ?_ (by first | omega | (simp; omega) | (simp; done)) _) | (with_reducible refine Below.drew ?_) | (with_reducible refine belowN ?_ _) | assumption | exact Below.refl _ _ | (refine Below.alloc ?_ (by first | omega | (simp; omega) | (simp; done)) _) | (refine Below.drew ?_) | (refine belowN ?_ _) | (refine Below.setCell ?_ (by first | omega | (simp; omega) | (simp; done)) _)))
    have hnx : Below uy2.heap.size uy2 (uy2.alloc (.cells #[.int .i64 0, .int .i64 0, .int .i64 0, .int .i64 0] 34)) := Below.alloc (Below.refl _ _) (Nat.le_refl _) _
    go_wp2_with fail
    have bY : BK (uy2.alloc (.cells #[.int .i64 0, .int .i64 0, .int .i64 0, .int .i64 0] 34)) uy2.heap.size #[.int .i64 0, .int .i64 0, .int .i64 0, .int .i64 0] 34 := BK.new _ _ _
    refine hK _ _ (fun _ => ey22) ?_
    clear hK K hnx
    generalize (uy2.alloc (.cells #[.int .i64 0, .int .i64 0, .int .i64 0, .int .i64 0] 34)) = vy24 at *
    obtain ⟨gbY, hgbY⟩ : ∃ g, uy2.heap.size = g := ⟨_, rfl⟩
    have hqbY : w5.heap.size ≤ gbY := by omega
    rw [hgbY] at bY
    try rw [hgbY]
    clear hgbY
    refine any_run1 (i := 3) (by kernel_rfl) (by rfl) (by kernel_rfl) ?_
    intro K hK
    have qy27 := ey22.size
    go_wp2_with fail
    refine (HT.out vy24 (hC.trans (ey22.mono hC.size))).mono ?_
    rintro e vy26 ⟨vt, rfl, ht, hb⟩
    have ey25 : Below w5.heap.size w5 vy26 := ey22.trans (hb.mono ey22.size)
    have bY_ := bY.below hb bY.lt; clear bY; have bY := bY_; clear bY_
    clear hb
    refine hK _ _ (fun _ => ey25) ?_
    clear hK K
    refine any_run1 (i := 6) (by kernel_rfl) (by rfl) (by kernel_rfl) ?_
    intro K hK
    have qy30 := ey25.size
    go_wp2_with fail
    refine (HTI.out vy26 vt (hC.trans (ey25.mono hC.size)) ht).mono ?_
    rintro e vy29 ⟨rfl, hb⟩
    have ey28 : Below w5.heap.size w5 vy29 := ey25.trans (hb.mono ey25.size)
    have bY_ := bY.below hb bY.lt; clear bY; have bY := bY_; clear bY_
    have ht_ := (RS.below ht hb).more hb.size; clear ht; have ht := ht_; clear ht_
    clear hb
    refine hK _ _ (fun _ => ey28) ?_
    clear hK K
    (refine any_take 7 ?_ (by rfl) (by kernel_rfl) (fun _ _ _ _ _ hx => hx.elim) (.inl ⟨by rfl, ?_⟩) (by with_reducible assumption) ?_; rotate_left; (intro X hX; obtain ⟨r1, r2⟩ := Below.rules hX; clear hX; go_simp; rfl); simp only [List.getElem_toArray, List.getElem_cons_succ, List.getElem_cons_zero, Act.put, List.setIfInBounds_toArray, List.set_cons_succ, List.set_cons_zero])
    (refine any_take 8 ?_ (by rfl) (by kernel_rfl) (fun _ _ _ _ _ hx => hx.elim) (.inl ⟨by rfl, ?_⟩) (by with_reducible assumption) ?_; rotate_left; (intro X hX; obtain ⟨r1, r2⟩ := Below.rules hX; clear hX; go_simp; rfl); simp only [List.getElem_toArray, List.getElem_cons_succ, List.getElem_cons_zero, Act.put, List.setIfInBounds_toArray, List.set_cons_succ, List.set_cons_zero])
    (refine any_take 9 ?_ (by rfl) (by kernel_rfl) (fun _ _ _ _ _ hx => hx.elim) (.inl ⟨by rfl, ?_⟩) (by with_reducible assumption) ?_; rotate_left; (intro X hX; obtain ⟨r1, r2⟩ := Below.rules hX; clear hX; go_simp; rfl); simp only [List.getElem_toArray, List.getElem_cons_succ, List.getElem_cons_zero, Act.put, List.setIfInBounds_toArray, List.set_cons_succ, List.set_cons_zero])
    refine any_run1 (i := 11) (by kernel_rfl) (by rfl) (by kernel_rfl) ?_
    intro K hK
    have lbY := bY.lt
    have y0 := bY.cell 0
    have f0 := bY.frozen 0
    have y1 := bY.cell 1
    have f1 := bY.frozen 1
    have y2 := bY.cell 2
    have f2 := bY.frozen 2
    have y3 := bY.cell 3
    have f3 := bY.frozen 3
    simp at y0 y1 y2 y3
    go_wp2_with fail
    have ey31 : Below w5.heap.size w5 ((((vy29.setCell ⟨gbY, 0, none⟩ (.int .i64 c1)).setCell ⟨gbY, 1, none⟩ (.int .i64 c2)).setCell ⟨gbY, 2, none⟩ (.int .i64 c3)).setCell ⟨gbY, 3, none⟩ (.int .i64 c4)) := by (repeat (first | with_reducible assumption | with_reducible exact Below.refl _ _ | (with_reducible refine Below.setCell ?_ (by first | omega | (simp; omega) | (simp; done)) _) | (with_reducible refine Below.alloc ?_ (by first | omega | (simp; omega) | (simp; done)) _) | (with_reducible refine Below.drew ?_) | (with_reducible refine belowN ?_ _) | assumption | exact Below.refl _ _ | (refine Below.alloc ?_ (by first | omega | (simp; omega) | (simp; done)) _) | (refine Below.drew ?_) | (refine belowN ?_ _) | (refine Below.setCell ?_ (by first | omega | (simp; omega) | (simp; done)) _)))
    clear ht
    have bY_ := ((((bY.set 0 (.int .i64 c1)).set 1 (.int .i64 c2)).set 2 (.int .i64 c3)).set 3 (.int .i64 c4))
    simp at bY_
    clear bY; have bY := bY_; clear bY_
    clear y0 f0 y1 f1 y2 f2 y3 f3
    refine hK _ _ (fun _ => ey31) ?_
    clear hK K
    generalize ((((vy29.setCell ⟨gbY, 0, none⟩ (.int .i64 c1)).setCell ⟨gbY, 1, none⟩ (.int .i64 c2)).setCell ⟨gbY, 2, none⟩ (.int .i64 c3)).setCell ⟨gbY, 3, none⟩ (.int .i64 c4)) = vy32 at *
    refine any_run1 (i := 12) (by kernel_rfl) (by rfl) (by kernel_rfl) ?_
    intro K hK
    go_wp2_with fail
    refine hK _ _ (fun _ => ey31) ?_
    clear hK K
    refine any_done (by kernel_rfl) (NoPanic.normal ?_)
    go_wp2_with fail
    refine (works_any _).mono ?_
    rintro e wz ⟨rfl, hb⟩
    go_wp2_with fail
    go_ret
    exact ⟨rfl, hC.trans ((ey31.trans (hb.mono ey31.size)).mono hC.size)⟩

set_option maxRecDepth 100000 in
set_option maxHeartbeats 8000000 in
theorem either_n (l : List St) (u : List Int) (gv : List Ra) (x y z : Nat) (vl vu vg : Value) (w : World) (hv : checkPair l = 0) (hu : ¬ 40 < u.length) (hgv : ¬ 40 < gv.length) (hx : x ≤ 255) (hy : y ≤ 255) (hz : z ≤ 255)
    (h : RSt w w.heap.size vl l) (h' : RU w w.heap.size vu u) (h'' : RRa w w.heap.size vg gv) (hw : wedgeF l = none) :
    Calls Try.prog 6 #[vl, vu, vg, .agg #[.int .u8 x, .int .u8 y, .int .u8 z]] w fun e w' => e = .returned (.bool true) ∧ Below w.heap.size w w' := by
  have hn := checkPair_len l hv
  have hF := fun W (hb : Below w.heap.size w W) => fine_all l vl W ((RS.below h hb).more hb.size)
  rw [show fineB l = true from decide_eq_true hv] at hF
  have hWd := fun W (hb : Below w.heap.size w W) => wedgeP_any l vl W (by omega) ((RS.below h hb).more hb.size)
  have hH := fun W (hb : Below w.heap.size w W) => heightsP_any l vl W (by omega) ((RS.below h hb).more hb.size)
  have hG := fun W (hb : Below w.heap.size w W) => checkHeightsP_any l gv vl vg W (by omega) (by omega) ((RS.below h hb).more hb.size) ((RS.below h'' hb).more hb.size)
  have hIW := fun W i k m (hb : Below w.heap.size w W) (hi : i < l.length) (hk : k < l.length) (hm : m < l.length) => isWedge_any l i k m vl W hv ((RS.below h hb).more hb.size) hi hk hm
  obtain ⟨hhe, hhl, hchk, hnw, hless⟩ := Ma.either_none hv hw
  have hless := hless gv
  have hlen : checkHP l gv = 0 → gv.length = l.length := fun hx => (Ma.checkHP_zero.1 hx).2.1
  have hC1 := fun W v (hb : Below w.heap.size w W) (hr : RRa W W.heap.size v (heightsP l)) => refCheckHeights_any l (heightsP l) vl v W (by omega) (by rw [hhl]; omega) ((RS.below h hb).more hb.size) hr
  have hC2 := fun W v (hb : Below w.heap.size w W) (hr : RRa W W.heap.size v (heightsP l)) => checkHeightsP_any l (heightsP l) vl v W (by omega) (by rw [hhl]; omega) ((RS.below h hb).more hb.size) hr
  have hGR := fun W (hb : Below w.heap.size w W) => refCheckHeights_any l gv vl vg W (by omega) (by omega) ((RS.below h hb).more hb.size) ((RS.below h'' hb).more hb.size)
  simp only [← Ma.check_eq, hchk] at hC1
  simp only [hchk] at hC2
  simp only [← Ma.check_eq] at hGR
  rw [hhe] at hH
  rw [wedgeV_none hv hw] at hWd
  obtain ⟨i, hie⟩ : ∃ i, x % l.length = i := ⟨_, rfl⟩
  obtain ⟨k, hke⟩ : ∃ k, y % l.length = k := ⟨_, rfl⟩
  obtain ⟨m, hme⟩ : ∃ m, z % l.length = m := ⟨_, rfl⟩
  have hil : i < l.length := by rw [← hie]; exact Nat.mod_lt _ hn.1
  have hkl : k < l.length := by rw [← hke]; exact Nat.mod_lt _ hn.1
  have hml : m < l.length := by rw [← hme]; exact Nat.mod_lt _ hn.1
  have hmi : (x : Int) % (l.length : Int) = (i : Int) := by rw [← hie]; omega
  have hmk : (y : Int) % (l.length : Int) = (k : Int) := by rw [← hke]; omega
  have hmm : (z : Int) % (l.length : Int) = (m : Int) := by rw [← hme]; omega
  have hIW2 : ∀ W, Below w.heap.size w W → i < k → k < m → Calls Try.prog 38 #[vl, .int .i64 i, .int .i64 k, .int .i64 m] W fun e w' => e = .returned (.bool false) ∧ Below W.heap.size W w' := by
    intro W hb a b
    have h1 := hIW W i k m hb hil hkl hml
    rw [hnw i k m a b hml] at h1
    exact h1
  clear hIW hchk hhe hw hnw
  generalize heightsP l = hs at *
  generalize checkHP l gv = gz at *
  have HF := Lib.hid hF; have HW := Lib.hid hWd; have HH := Lib.hid hH; have HG := Lib.hid hG; have HIW := Lib.hid hIW2; have HC1 := Lib.hid hC1; have HC2 := Lib.hid hC2; have HGR := Lib.hid hGR; have HHL := Lib.hid hhl; have HLE := Lib.hid hless; have HIE := Lib.hid hie; have HKE := Lib.hid hke; have HME := Lib.hid hme; have HLN := Lib.hid hlen
  obtain ⟨A, cap, b, off, rfl, hA, hxx⟩ := h.cells
  obtain ⟨rfl, hbb⟩ := hA (by omega)
  clear hA hxx
  obtain ⟨A2, cap2, bu, offu, rfl, hx1, hx2, hx3⟩ := h'
  clear hx1 hx2 hx3
  obtain ⟨A3, cap3, b3_, off3, rfl, hA3, hcg⟩ := h''.cells
  have HCG := Lib.hid hcg; have HA3 := Lib.hid hA3
  have d2 : decide (40 < (u.length : Int)) = false := by simp; omega
  have d3 : decide (40 < (gv.length : Int)) = false := by simp; omega
  clear hF hWd hH hG hIW2 hC1 hC2 hGR hhl hless hie hke hme h h'' hv hu hgv hcg hA3 hlen
  have hC : Below w.heap.size w w := Below.refl _ _
  obtain ⟨p, hp⟩ : ∃ p, decide (i < k) = p := ⟨_, rfl⟩
  obtain ⟨q, hq⟩ : ∃ q, decide (k < m) = q := ⟨_, rfl⟩
  obtain ⟨r, hr⟩ : ∃ r, (gz != 0) = r := ⟨_, rfl⟩
  have HIW3 := Lib.hid (fun W (hb : Below w.heap.size w W) (hp' : p = true) (hq' : q = true) => HIW.out W hb (of_decide_eq_true (hp.trans hp')) (of_decide_eq_true (hq.trans hq')))
  have HPQ := Lib.hid (⟨hp, hq⟩ : decide (i < k) = p ∧ decide (k < m) = q)
  clear HIW hp hq
  go_enter Try.func6, Try.ntmps6
  go_wp2_with fail
  have bx : BK (w.alloc (.cells #[.int .u8 x, .int .u8 y, .int .u8 z] 51)) w.heap.size #[.int .u8 x, .int .u8 y, .int .u8 z] 51 := BK.new _ _ _
  have hC2 : Below w.heap.size w (w.alloc (.cells #[.int .u8 x, .int .u8 y, .int .u8 z] 51)) := by have := hC.size; (repeat (first | with_reducible assumption | with_reducible exact Below.refl _ _ | (with_reducible refine Below.setCell ?_ (by first | omega | (simp; omega) | (simp; done)) _) | (with_reducible refine Below.alloc ?_ (by first | omega | (simp; omega) | (simp; done)) _) | (with_reducible refine Below.drew ?_) | (with_reducible refine belowN ?_ _) | assumption | exact Below.refl _ _ | (refine Below.alloc ?_ (by first | omega | (simp; omega) | (simp; done)) _) | (refine Below.drew ?_) | (refine belowN ?_ _) | (refine Below.setCell ?_ (by first | omega | (simp; omega) | (simp; done)) _)))
  clear hC; have hC := hC2; clear hC2
  generalize (w.alloc (.cells #[.int .u8 x, .int .u8 y, .int .u8 z] 51)) = Wbx at *
  obtain ⟨gbx, hgbx⟩ : ∃ g, w.heap.size = g := ⟨_, rfl⟩
  rw [hgbx] at bx
  try rw [hgbx]
  clear hgbx
  refine (HF.out Wbx hC).mono ?_
  rintro e w1 ⟨rfl, hb⟩
  have hC2 : Below w.heap.size w w1 := hC.trans (hb.mono hC.size)
  clear hC; have hC := hC2; clear hC2
  have bx_ := bx.below hb bx.lt; clear bx; have bx := bx_; clear bx_
  clear hb
  go_wp2_with fail
  refine (HW.out w1 hC).mono ?_
  rintro e w2 ⟨rfl, hb⟩
  have hC2 : Below w.heap.size w w2 := hC.trans (hb.mono hC.size)
  clear hC; have hC := hC2; clear hC2
  have bx_ := bx.below hb bx.lt; clear bx; have bx := bx_; clear bx_
  clear hb
  go_wp2_with fail
  have bw : BK (w2.alloc (.cells #[.int .i64 0, .int .i64 0, .int .i64 0] 44)) w2.heap.size #[.int .i64 0, .int .i64 0, .int .i64 0] 44 := BK.new _ _ _
  have hC2 : Below w.heap.size w (w2.alloc (.cells #[.int .i64 0, .int .i64 0, .int .i64 0] 44)) := by have := hC.size; (repeat (first | with_reducible assumption | with_reducible exact Below.refl _ _ | (with_reducible refine Below.setCell ?_ (by first | omega | (simp; omega) | (simp; done)) _) | (with_reducible refine Below.alloc ?_ (by first | omega | (simp; omega) | (simp; done)) _) | (with_reducible refine Below.drew ?_) | (with_reducible refine belowN ?_ _) | assumption | exact Below.refl _ _ | (refine Below.alloc ?_ (by first | omega | (simp; omega) | (simp; done)) _) | (refine Below.drew ?_) | (refine belowN ?_ _) | (refine Below.setCell ?_ (by first | omega | (simp; omega) | (simp; done)) _)))
  clear hC; have hC := hC2; clear hC2
  have bx_ := bx.alloc (.cells #[.int .i64 0, .int .i64 0, .int .i64 0] 44); clear bx; have bx := bx_; clear bx_
  generalize (w2.alloc (.cells #[.int .i64 0, .int .i64 0, .int .i64 0] 44)) = Wbw at *
  obtain ⟨gbw, hgbw⟩ : ∃ g, w2.heap.size = g := ⟨_, rfl⟩
  rw [hgbw] at bw
  try rw [hgbw]
  clear hgbw
  refine (HH.out Wbw hC).mono ?_
  rintro e w3 ⟨vh, rfl, hh, hb⟩
  have hC2 : Below w.heap.size w w3 := hC.trans (hb.mono hC.size)
  clear hC; have hC := hC2; clear hC2
  have bx_ := bx.below hb bx.lt; clear bx; have bx := bx_; clear bx_
  have bw_ := bw.below hb bw.lt; clear bw; have bw := bw_; clear bw_
  clear hb
  go_wp2_with fail
  refine (HG.out w3 hC).mono ?_
  rintro e w4 ⟨rfl, hb⟩
  have hC2 : Below w.heap.size w w4 := hC.trans (hb.mono hC.size)
  clear hC; have hC := hC2; clear hC2
  have bx_ := bx.below hb bx.lt; clear bx; have bx := bx_; clear bx_
  have bw_ := bw.below hb bw.lt; clear bw; have bw := bw_; clear bw_
  have hh_ := (RS.below hh hb).more hb.size; clear hh; have hh := hh_; clear hh_
  clear hb
  go_wp2_with fail
  refine (HC1.out w4 vh hC hh).mono ?_
  rintro e w5 ⟨rfl, hb⟩
  have hC2 : Below w.heap.size w w5 := hC.trans (hb.mono hC.size)
  clear hC; have hC := hC2; clear hC2
  have bx_ := bx.below hb bx.lt; clear bx; have bx := bx_; clear bx_
  have bw_ := bw.below hb bw.lt; clear bw; have bw := bw_; clear bw_
  have hh_ := (RS.below hh hb).more hb.size; clear hh; have hh := hh_; clear hh_
  clear hb
  go_wp2_with fail
  refine (HC2.out w5 vh hC hh).mono ?_
  rintro e w6 ⟨rfl, hb⟩
  have hC2 : Below w.heap.size w w6 := hC.trans (hb.mono hC.size)
  clear hC; have hC := hC2; clear hC2
  have bx_ := bx.below hb bx.lt; clear bx; have bx := bx_; clear bx_
  have bw_ := bw.below hb bw.lt; clear bw; have bw := bw_; clear bw_
  have hh_ := (RS.below hh hb).more hb.size; clear hh; have hh := hh_; clear hh_
  clear hb
  have lbx := bx.lt
  have bxc0 := bx.cell 0
  have bxc1 := bx.cell 1
  have bxc2 := bx.cell 2
  simp at bxc0 bxc1 bxc2
  obtain ⟨A4, cap4, b4_, off4, hvh, hA4, hch⟩ := RRa.cells hh
  rw [HHL.out] at hvh hch hA4
  obtain ⟨rfl, hb4⟩ := hA4 (by omega)
  subst hvh
  have HCH := Lib.hid hch
  clear hA4 hch hh HC1 HC2 HH HW HF HG
  have hne : l ≠ [] := fun hx => by rw [hx] at hn; exact absurd hn.1 (by decide)
  have ww1 : IntKind.i64.wrap (x : Int) = (x : Int) := by rw [IntKind.wrap_i64]; omega
  have ww2 : IntKind.i64.wrap (y : Int) = (y : Int) := by rw [IntKind.wrap_i64]; omega
  have ww3 : IntKind.i64.wrap (z : Int) = (z : Int) := by rw [IntKind.wrap_i64]; omega
  have tt1 : (x : Int).tmod (l.length : Int) = (i : Int) := by rw [Int.tmod_eq_emod_of_nonneg (by omega)]; exact hmi
  have tt2 : (y : Int).tmod (l.length : Int) = (k : Int) := by rw [Int.tmod_eq_emod_of_nonneg (by omega)]; exact hmk
  have tt3 : (z : Int).tmod (l.length : Int) = (m : Int) := by rw [Int.tmod_eq_emod_of_nonneg (by omega)]; exact hmm
  clear hmi hmk hmm hx hy hz
  go_wp2_with fail
  have hcases : p = false ∨ (p = true ∧ q = false) ∨ (p = true ∧ q = true) := by cases p <;> cases q <;> simp
  cases r with
  | true =>
    rcases hcases with rfl | ⟨rfl, rfl⟩ | ⟨rfl, rfl⟩
    · skip
      obtain ⟨hp, _⟩ := HPQ.out
      have d0y : Below w6.heap.size w6 w6.drew := by (repeat (first | with_reducible assumption | with_reducible exact Below.refl _ _ | (with_reducible refine Below.setCell ?_ (by first | omega | (simp; omega) | (simp; done)) _) | (with_reducible refine Below.alloc ?_ (by first | omega | (simp; omega) | (simp; done)) _) | (with_reducible refine Below.drew ?_) | (with_reducible refine belowN ?_ _) | assumption | exact Below.refl _ _ | (refine Below.alloc ?_ (by first | omega | (simp; omega) | (simp; done)) _) | (refine Below.drew ?_) | (refine belowN ?_ _) | (refine Below.setCell ?_ (by first | omega | (simp; omega) | (simp; done)) _)))
      refine wp_region_noPanic (plain_any [0, 1, 2, 3, 4, 5, 6, 7, 8, 9, 10, 11, 12, 13, 14, 15, 16, 17] (Below w6.heap.size w6) mixed ?_)
      (refine any_take 0 ?_ (by rfl) (by kernel_rfl) (fun _ _ _ _ _ hx => hx.elim) (.inl ⟨by rfl, ?_⟩) (by with_reducible assumption) ?_; rotate_left; (intro X hX; obtain ⟨r1, r2⟩ := Below.rules hX; clear hX; go_simp; rfl); simp only [List.getElem_toArray, List.getElem_cons_succ, List.getElem_cons_zero, Act.put, List.setIfInBounds_toArray, List.set_cons_succ, List.set_cons_zero])
      (refine any_take 1 ?_ (by rfl) (by kernel_rfl) (fun _ _ _ _ _ hx => hx.elim) (.inl ⟨by rfl, ?_⟩) (by with_reducible assumption) ?_; rotate_left; (intro X hX; obtain ⟨r1, r2⟩ := Below.rules hX; clear hX; go_simp; rfl); simp only [List.getElem_toArray, List.getElem_cons_succ, List.getElem_cons_zero, Act.put, List.setIfInBounds_toArray, List.set_cons_succ, List.set_cons_zero])
      (refine any_take 2 ?_ (by rfl) (by kernel_rfl) (fun _ _ _ _ _ hx => hx.elim) (.inl ⟨by rfl, ?_⟩) (by with_reducible assumption) ?_; rotate_left; (intro X hX; obtain ⟨r1, r2⟩ := Below.rules hX; clear hX; go_simp; rfl); simp only [List.getElem_toArray, List.getElem_cons_succ, List.getElem_cons_zero, Act.put, List.setIfInBounds_toArray, List.set_cons_succ, List.set_cons_zero])
      (refine any_take 3 ?_ (by rfl) (by kernel_rfl) (fun _ _ _ _ _ hx => hx.elim) (.inl ⟨by rfl, ?_⟩) (by with_reducible assumption) ?_; rotate_left; (intro X hX; obtain ⟨r1, r2⟩ := Below.rules hX; clear hX; go_simp; rfl); simp only [List.getElem_toArray, List.getElem_cons_succ, List.getElem_cons_zero, Act.put, List.setIfInBounds_toArray, List.set_cons_succ, List.set_cons_zero])
      (refine any_take 4 ?_ (by rfl) (by kernel_rfl) (fun _ _ _ _ _ hx => hx.elim) (.inl ⟨by rfl, ?_⟩) (by with_reducible assumption) ?_; rotate_left; (intro X hX; obtain ⟨r1, r2⟩ := Below.rules hX; clear hX; go_simp; rfl); simp only [List.getElem_toArray, List.getElem_cons_succ, List.getElem_cons_zero, Act.put, List.setIfInBounds_toArray, List.set_cons_succ, List.set_cons_zero])
      (refine any_take 5 ?_ (by rfl) (by kernel_rfl) (fun _ _ _ _ _ hx => hx.elim) (.inl ⟨by rfl, ?_⟩) (by with_reducible assumption) ?_; rotate_left; (intro X hX; obtain ⟨r1, r2⟩ := Below.rules hX; clear hX; go_simp; rfl); simp only [List.getElem_toArray, List.getElem_cons_succ, List.getElem_cons_zero, Act.put, List.setIfInBounds_toArray, List.set_cons_succ, List.set_cons_zero])
      (refine any_take 6 ?_ (by rfl) (by kernel_rfl) (fun _ _ _ _ _ hx => hx.elim) (.inl ⟨by rfl, ?_⟩) (by with_reducible assumption) ?_; rotate_left; (intro X hX; obtain ⟨r1, r2⟩ := Below.rules hX; clear hX; go_simp; rfl); simp only [List.getElem_toArray, List.getElem_cons_succ, List.getElem_cons_zero, Act.put, List.setIfInBounds_toArray, List.set_cons_succ, List.set_cons_zero])
      (refine any_take 7 ?_ (by rfl) (by kernel_rfl) (fun _ _ _ _ _ hx => hx.elim) (.inl ⟨by rfl, ?_⟩) (by with_reducible assumption) ?_; rotate_left; (intro X hX; obtain ⟨r1, r2⟩ := Below.rules hX; clear hX; go_simp; rfl); simp only [List.getElem_toArray, List.getElem_cons_succ, List.getElem_cons_zero, Act.put, List.setIfInBounds_toArray, List.set_cons_succ, List.set_cons_zero])
      (refine any_take 8 ?_ (by rfl) (by kernel_rfl) (fun _ _ _ _ _ hx => hx.elim) (.inl ⟨by rfl, ?_⟩) (by with_reducible assumption) ?_; rotate_left; (intro X hX; obtain ⟨r1, r2⟩ := Below.rules hX; clear hX; go_simp; rfl); simp only [List.getElem_toArray, List.getElem_cons_succ, List.getElem_cons_zero, Act.put, List.setIfInBounds_toArray, List.set_cons_succ, List.set_cons_zero])
      (refine any_take 9 ?_ (by rfl) (by kernel_rfl) (fun _ _ _ _ _ hx => hx.elim) (.inl ⟨by rfl, ?_⟩) (by with_reducible assumption) ?_; rotate_left; (intro X hX; obtain ⟨r1, r2⟩ := Below.rules hX; clear hX; go_simp; rfl); simp only [List.getElem_toArray, List.getElem_cons_succ, List.getElem_cons_zero, Act.put, List.setIfInBounds_toArray, List.set_cons_succ, List.set_cons_zero])
      (refine any_take 10 ?_ (by rfl) (by kernel_rfl) (fun _ _ _ _ _ hx => hx.elim) (.inl ⟨by rfl, ?_⟩) (by with_reducible assumption) ?_; rotate_left; (intro X hX; obtain ⟨r1, r2⟩ := Below.rules hX; clear hX; go_simp; rfl); simp only [List.getElem_toArray, List.getElem_cons_succ, List.getElem_cons_zero, Act.put, List.setIfInBounds_toArray, List.set_cons_succ, List.set_cons_zero])
      (refine any_take 11 ?_ (by rfl) (by kernel_rfl) (fun _ _ _ _ _ hx => hx.elim) (.inl ⟨by rfl, ?_⟩) (by with_reducible assumption) ?_; rotate_left; (intro X hX; obtain ⟨r1, r2⟩ := Below.rules hX; clear hX; go_simp; rfl); simp only [List.getElem_toArray, List.getElem_cons_succ, List.getElem_cons_zero, Act.put, List.setIfInBounds_toArray, List.set_cons_succ, List.set_cons_zero])
      (refine any_take 12 ?_ (by rfl) (by kernel_rfl) (fun _ _ _ _ _ hx => hx.elim) (.inl ⟨by rfl, ?_⟩) (by with_reducible assumption) ?_; rotate_left; (intro X hX; obtain ⟨r1, r2⟩ := Below.rules hX; clear hX; go_simp; rfl); simp only [List.getElem_toArray, List.getElem_cons_succ, List.getElem_cons_zero, Act.put, List.setIfInBounds_toArray, List.set_cons_succ, List.set_cons_zero])
      (refine any_take 13 ?_ (by rfl) (by kernel_rfl) (fun _ _ _ _ _ hx => hx.elim) (.inl ⟨by rfl, ?_⟩) (by with_reducible assumption) ?_; rotate_left; (intro X hX; obtain ⟨r1, r2⟩ := Below.rules hX; clear hX; go_simp; rfl); simp only [List.getElem_toArray, List.getElem_cons_succ, List.getElem_cons_zero, Act.put, List.setIfInBounds_toArray, List.set_cons_succ, List.set_cons_zero])
      (refine any_take 14 ?_ (by rfl) (by kernel_rfl) (fun _ _ _ _ _ hx => hx.elim) (.inl ⟨by rfl, ?_⟩) (by with_reducible assumption) ?_; rotate_left; (intro X hX; obtain ⟨r1, r2⟩ := Below.rules hX; clear hX; go_simp; rfl); simp only [List.getElem_toArray, List.getElem_cons_succ, List.getElem_cons_zero, Act.put, List.setIfInBounds_toArray, List.set_cons_succ, List.set_cons_zero])
      (refine any_take 15 ?_ (by rfl) (by kernel_rfl) (fun _ _ _ _ _ hx => hx.elim) (.inl ⟨by rfl, ?_⟩) (by with_reducible assumption) ?_; rotate_left; (intro X hX; obtain ⟨r1, r2⟩ := Below.rules hX; clear hX; go_simp; rfl); simp only [List.getElem_toArray, List.getElem_cons_succ, List.getElem_cons_zero, Act.put, List.setIfInBounds_toArray, List.set_cons_succ, List.set_cons_zero])
      (refine any_take 16 ?_ (by rfl) (by kernel_rfl) (fun _ _ _ _ _ hx => hx.elim) (.inl ⟨by rfl, ?_⟩) (by with_reducible assumption) ?_; rotate_left; (intro X hX; obtain ⟨r1, r2⟩ := Below.rules hX; clear hX; go_simp; rfl); simp only [List.getElem_toArray, List.getElem_cons_succ, List.getElem_cons_zero, Act.put, List.setIfInBounds_toArray, List.set_cons_succ, List.set_cons_zero])
      (refine any_take 17 ?_ (by rfl) (by kernel_rfl) (fun _ _ _ _ _ hx => hx.elim) (.inl ⟨by rfl, ?_⟩) (by with_reducible assumption) ?_; rotate_left; (intro X hX; obtain ⟨r1, r2⟩ := Below.rules hX; clear hX; go_simp; rfl); simp only [List.getElem_toArray, List.getElem_cons_succ, List.getElem_cons_zero, Act.put, List.setIfInBounds_toArray, List.set_cons_succ, List.set_cons_zero])
      have dy1 : Below w6.heap.size w6 w6.drew := by (repeat (first | with_reducible assumption | with_reducible exact Below.refl _ _ | (with_reducible refine Below.setCell ?_ (by first | omega | (simp; omega) | (simp; done)) _) | (with_reducible refine Below.alloc ?_ (by first | omega | (simp; omega) | (simp; done)) _) | (with_reducible refine Below.drew ?_) | (with_reducible refine belowN ?_ _) | assumption | exact Below.refl _ _ | (refine Below.alloc ?_ (by first | omega | (simp; omega) | (simp; done)) _) | (refine Below.drew ?_) | (refine belowN ?_ _) | (refine Below.setCell ?_ (by first | omega | (simp; omega) | (simp; done)) _)))
      generalize w6.drew = uy2 at *
      refine any_run1 (i := 18) (by kernel_rfl) (by rfl) (by kernel_rfl) ?_
      intro K hK
      go_wp2_with fail
      refine hK _ _ (fun _ => dy1) ?_
      clear hK K
      refine any_run1 (i := 19) (by kernel_rfl) (by rfl) (by kernel_rfl) ?_
      intro K hK
      go_wp2_with fail
      refine hK _ _ (fun _ => dy1) ?_
      clear hK K
      refine any_run1 (i := 20) (by kernel_rfl) (by rfl) (by kernel_rfl) ?_
      intro K hK
      go_wp2_with fail
      refine hK _ _ (fun _ => dy1) ?_
      clear hK K
      refine any_done (by kernel_rfl) (NoPanic.normal ?_)
      go_wp2_with fail
      refine (works_any _).mono ?_
      rintro e wz ⟨rfl, hb⟩
      go_wp2_with fail
      go_ret
      exact ⟨rfl, hC.trans ((dy1.trans (hb.mono dy1.size)).mono hC.size)⟩
    · skip
      obtain ⟨hp, hq⟩ := HPQ.out
      have d0y : Below w6.heap.size w6 w6.drew := by (repeat (first | with_reducible assumption | with_reducible exact Below.refl _ _ | (with_reducible refine Below.setCell ?_ (by first | omega | (simp; omega) | (simp; done)) _) | (with_reducible refine Below.alloc ?_ (by first | omega | (simp; omega) | (simp; done)) _) | (with_reducible refine Below.drew ?_) | (with_reducible refine belowN ?_ _) | assumption | exact Below.refl _ _ | (refine Below.alloc ?_ (by first | omega | (simp; omega) | (simp; done)) _) | (refine Below.drew ?_) | (refine belowN ?_ _) | (refine Below.setCell ?_ (by first | omega | (simp; omega) | (simp; done)) _)))
      refine wp_region_noPanic (plain_any [0, 1, 2, 3, 4, 5, 6, 7, 8, 9, 10, 11, 12, 13, 14, 15, 16, 17] (Below w6.heap.size w6) mixed ?_)
      (refine any_take 0 ?_ (by rfl) (by kernel_rfl) (fun _ _ _ _ _ hx => hx.elim) (.inl ⟨by rfl, ?_⟩) (by with_reducible assumption) ?_; rotate_left; (intro X hX; obtain ⟨r1, r2⟩ := Below.rules hX; clear hX; go_simp; rfl); simp only [List.getElem_toArray, List.getElem_cons_succ, List.getElem_cons_zero, Act.put, List.setIfInBounds_toArray, List.set_cons_succ, List.set_cons_zero])
      (refine any_take 1 ?_ (by rfl) (by kernel_rfl) (fun _ _ _ _ _ hx => hx.elim) (.inl ⟨by rfl, ?_⟩) (by with_reducible assumption) ?_; rotate_left; (intro X hX; obtain ⟨r1, r2⟩ := Below.rules hX; clear hX; go_simp; rfl); simp only [List.getElem_toArray, List.getElem_cons_succ, List.getElem_cons_zero, Act.put, List.setIfInBounds_toArray, List.set_cons_succ, List.set_cons_zero])
      (refine any_take 2 ?_ (by rfl) (by kernel_rfl) (fun _ _ _ _ _ hx => hx.elim) (.inl ⟨by rfl, ?_⟩) (by with_reducible assumption) ?_; rotate_left; (intro X hX; obtain ⟨r1, r2⟩ := Below.rules hX; clear hX; go_simp; rfl); simp only [List.getElem_toArray, List.getElem_cons_succ, List.getElem_cons_zero, Act.put, List.setIfInBounds_toArray, List.set_cons_succ, List.set_cons_zero])
      (refine any_take 3 ?_ (by rfl) (by kernel_rfl) (fun _ _ _ _ _ hx => hx.elim) (.inl ⟨by rfl, ?_⟩) (by with_reducible assumption) ?_; rotate_left; (intro X hX; obtain ⟨r1, r2⟩ := Below.rules hX; clear hX; go_simp; rfl); simp only [List.getElem_toArray, List.getElem_cons_succ, List.getElem_cons_zero, Act.put, List.setIfInBounds_toArray, List.set_cons_succ, List.set_cons_zero])
      (refine any_take 4 ?_ (by rfl) (by kernel_rfl) (fun _ _ _ _ _ hx => hx.elim) (.inl ⟨by rfl, ?_⟩) (by with_reducible assumption) ?_; rotate_left; (intro X hX; obtain ⟨r1, r2⟩ := Below.rules hX; clear hX; go_simp; rfl); simp only [List.getElem_toArray, List.getElem_cons_succ, List.getElem_cons_zero, Act.put, List.setIfInBounds_toArray, List.set_cons_succ, List.set_cons_zero])
      (refine any_take 5 ?_ (by rfl) (by kernel_rfl) (fun _ _ _ _ _ hx => hx.elim) (.inl ⟨by rfl, ?_⟩) (by with_reducible assumption) ?_; rotate_left; (intro X hX; obtain ⟨r1, r2⟩ := Below.rules hX; clear hX; go_simp; rfl); simp only [List.getElem_toArray, List.getElem_cons_succ, List.getElem_cons_zero, Act.put, List.setIfInBounds_toArray, List.set_cons_succ, List.set_cons_zero])
      (refine any_take 6 ?_ (by rfl) (by kernel_rfl) (fun _ _ _ _ _ hx => hx.elim) (.inl ⟨by rfl, ?_⟩) (by with_reducible assumption) ?_; rotate_left; (intro X hX; obtain ⟨r1, r2⟩ := Below.rules hX; clear hX; go_simp; rfl); simp only [List.getElem_toArray, List.getElem_cons_succ, List.getElem_cons_zero, Act.put, List.setIfInBounds_toArray, List.set_cons_succ, List.set_cons_zero])
      (refine any_take 7 ?_ (by rfl) (by kernel_rfl) (fun _ _ _ _ _ hx => hx.elim) (.inl ⟨by rfl, ?_⟩) (by with_reducible assumption) ?_; rotate_left; (intro X hX; obtain ⟨r1, r2⟩ := Below.rules hX; clear hX; go_simp; rfl); simp only [List.getElem_toArray, List.getElem_cons_succ, List.getElem_cons_zero, Act.put, List.setIfInBounds_toArray, List.set_cons_succ, List.set_cons_zero])
      (refine any_take 8 ?_ (by rfl) (by kernel_rfl) (fun _ _ _ _ _ hx => hx.elim) (.inl ⟨by rfl, ?_⟩) (by with_reducible assumption) ?_; rotate_left; (intro X hX; obtain ⟨r1, r2⟩ := Below.rules hX; clear hX; go_simp; rfl); simp only [List.getElem_toArray, List.getElem_cons_succ, List.getElem_cons_zero, Act.put, List.setIfInBounds_toArray, List.set_cons_succ, List.set_cons_zero])
      (refine any_take 9 ?_ (by rfl) (by kernel_rfl) (fun _ _ _ _ _ hx => hx.elim) (.inl ⟨by rfl, ?_⟩) (by with_reducible assumption) ?_; rotate_left; (intro X hX; obtain ⟨r1, r2⟩ := Below.rules hX; clear hX; go_simp; rfl); simp only [List.getElem_toArray, List.getElem_cons_succ, List.getElem_cons_zero, Act.put, List.setIfInBounds_toArray, List.set_cons_succ, List.set_cons_zero])
      (refine any_take 10 ?_ (by rfl) (by kernel_rfl) (fun _ _ _ _ _ hx => hx.elim) (.inl ⟨by rfl, ?_⟩) (by with_reducible assumption) ?_; rotate_left; (intro X hX; obtain ⟨r1, r2⟩ := Below.rules hX; clear hX; go_simp; rfl); simp only [List.getElem_toArray, List.getElem_cons_succ, List.getElem_cons_zero, Act.put, List.setIfInBounds_toArray, List.set_cons_succ, List.set_cons_zero])
      (refine any_take 11 ?_ (by rfl) (by kernel_rfl) (fun _ _ _ _ _ hx => hx.elim) (.inl ⟨by rfl, ?_⟩) (by with_reducible assumption) ?_; rotate_left; (intro X hX; obtain ⟨r1, r2⟩ := Below.rules hX; clear hX; go_simp; rfl); simp only [List.getElem_toArray, List.getElem_cons_succ, List.getElem_cons_zero, Act.put, List.setIfInBounds_toArray, List.set_cons_succ, List.set_cons_zero])
      (refine any_take 12 ?_ (by rfl) (by kernel_rfl) (fun _ _ _ _ _ hx => hx.elim) (.inl ⟨by rfl, ?_⟩) (by with_reducible assumption) ?_; rotate_left; (intro X hX; obtain ⟨r1, r2⟩ := Below.rules hX; clear hX; go_simp; rfl); simp only [List.getElem_toArray, List.getElem_cons_succ, List.getElem_cons_zero, Act.put, List.setIfInBounds_toArray, List.set_cons_succ, List.set_cons_zero])
      (refine any_take 13 ?_ (by rfl) (by kernel_rfl) (fun _ _ _ _ _ hx => hx.elim) (.inl ⟨by rfl, ?_⟩) (by with_reducible assumption) ?_; rotate_left; (intro X hX; obtain ⟨r1, r2⟩ := Below.rules hX; clear hX; go_simp; rfl); simp only [List.getElem_toArray, List.getElem_cons_succ, List.getElem_cons_zero, Act.put, List.setIfInBounds_toArray, List.set_cons_succ, List.set_cons_zero])
      (refine any_take 14 ?_ (by rfl) (by kernel_rfl) (fun _ _ _ _ _ hx => hx.elim) (.inl ⟨by rfl, ?_⟩) (by with_reducible assumption) ?_; rotate_left; (intro X hX; obtain ⟨r1, r2⟩ := Below.rules hX; clear hX; go_simp; rfl); simp only [List.getElem_toArray, List.getElem_cons_succ, List.getElem_cons_zero, Act.put, List.setIfInBounds_toArray, List.set_cons_succ, List.set_cons_zero])
      (refine any_take 15 ?_ (by rfl) (by kernel_rfl) (fun _ _ _ _ _ hx => hx.elim) (.inl ⟨by rfl, ?_⟩) (by with_reducible assumption) ?_; rotate_left; (intro X hX; obtain ⟨r1, r2⟩ := Below.rules hX; clear hX; go_simp; rfl); simp only [List.getElem_toArray, List.getElem_cons_succ, List.getElem_cons_zero, Act.put, List.setIfInBounds_toArray, List.set_cons_succ, List.set_cons_zero])
      (refine any_take 16 ?_ (by rfl) (by kernel_rfl) (fun _ _ _ _ _ hx => hx.elim) (.inl ⟨by rfl, ?_⟩) (by with_reducible assumption) ?_; rotate_left; (intro X hX; obtain ⟨r1, r2⟩ := Below.rules hX; clear hX; go_simp; rfl); simp only [List.getElem_toArray, List.getElem_cons_succ, List.getElem_cons_zero, Act.put, List.setIfInBounds_toArray, List.set_cons_succ, List.set_cons_zero])
      (refine any_take 17 ?_ (by rfl) (by kernel_rfl) (fun _ _ _ _ _ hx => hx.elim) (.inl ⟨by rfl, ?_⟩) (by with_reducible assumption) ?_; rotate_left; (intro X hX; obtain ⟨r1, r2⟩ := Below.rules hX; clear hX; go_simp; rfl); simp only [List.getElem_toArray, List.getElem_cons_succ, List.getElem_cons_zero, Act.put, List.setIfInBounds_toArray, List.set_cons_succ, List.set_cons_zero])
      have dy1 : Below w6.heap.size w6 w6.drew := by (repeat (first | with_reducible assumption | with_reducible exact Below.refl _ _ | (with_reducible refine Below.setCell ?_ (by first | omega | (simp; omega) | (simp; done)) _) | (with_reducible refine Below.alloc ?_ (by first | omega | (simp; omega) | (simp; done)) _) | (with_reducible refine Below.drew ?_) | (with_reducible refine belowN ?_ _) | assumption | exact Below.refl _ _ | (refine Below.alloc ?_ (by first | omega | (simp; omega) | (simp; done)) _) | (refine Below.drew ?_) | (refine belowN ?_ _) | (refine Below.setCell ?_ (by first | omega | (simp; omega) | (simp; done)) _)))
      generalize w6.drew = uy2 at *
      refine any_run1 (i := 18) (by kernel_rfl) (by rfl) (by kernel_rfl) ?_
      intro K hK
      go_wp2_with fail
      refine hK _ _ (fun _ => dy1) ?_
      clear hK K
      refine any_run1 (i := 19) (by kernel_rfl) (by rfl) (by kernel_rfl) ?_
      intro K hK
      go_wp2_with fail
      refine hK _ _ (fun _ => dy1) ?_
      clear hK K
      refine any_run1 (i := 20) (by kernel_rfl) (by rfl) (by kernel_rfl) ?_
      intro K hK
      go_wp2_with fail
      refine hK _ _ (fun _ => dy1) ?_
      clear hK K
      refine any_done (by kernel_rfl) (NoPanic.normal ?_)
      go_wp2_with fail
      refine (works_any _).mono ?_
      rintro e wz ⟨rfl, hb⟩
      go_wp2_with fail
      go_ret
      exact ⟨rfl, hC.trans ((dy1.trans (hb.mono dy1.size)).mono hC.size)⟩
    · skip
      obtain ⟨hp, hq⟩ := HPQ.out
      have d0y : Below w6.heap.size w6 w6.drew := by (repeat (first | with_reducible assumption | with_reducible exact Below.refl _ _ | (with_reducible refine Below.setCell ?_ (by first | omega | (simp; omega) | (simp; done)) _) | (with_reducible refine Below.alloc ?_ (by first | omega | (simp; omega) | (simp; done)) _) | (with_reducible refine Below.drew ?_) | (with_reducible refine belowN ?_ _) | assumption | exact Below.refl _ _ | (refine Below.alloc ?_ (by first | omega | (simp; omega) | (simp; done)) _) | (refine Below.drew ?_) | (refine belowN ?_ _) | (refine Below.setCell ?_ (by first | omega | (simp; omega) | (simp; done)) _)))
      refine wp_region_noPanic (plain_any [0, 1, 2, 3, 4, 5, 6, 7, 8, 9, 10, 11, 12, 13, 14, 15, 16, 17] (Below w6.heap.size w6) mixed ?_)
      (refine any_take 0 ?_ (by rfl) (by kernel_rfl) (fun _ _ _ _ _ hx => hx.elim) (.inl ⟨by rfl, ?_⟩) (by with_reducible assumption) ?_; rotate_left; (intro X hX; obtain ⟨r1, r2⟩ := Below.rules hX; clear hX; go_simp; rfl); simp only [List.getElem_toArray, List.getElem_cons_succ, List.getElem_cons_zero, Act.put, List.setIfInBounds_toArray, List.set_cons_succ, List.set_cons_zero])
      (refine any_take 1 ?_ (by rfl) (by kernel_rfl) (fun _ _ _ _ _ hx => hx.elim) (.inl ⟨by rfl, ?_⟩) (by with_reducible assumption) ?_; rotate_left; (intro X hX; obtain ⟨r1, r2⟩ := Below.rules hX; clear hX; go_simp; rfl); simp only [List.getElem_toArray, List.getElem_cons_succ, List.getElem_cons_zero, Act.put, List.setIfInBounds_toArray, List.set_cons_succ, List.set_cons_zero])
      (refine any_take 2 ?_ (by rfl) (by kernel_rfl) (fun _ _ _ _ _ hx => hx.elim) (.inl ⟨by rfl, ?_⟩) (by with_reducible assumption) ?_; rotate_left; (intro X hX; obtain ⟨r1, r2⟩ := Below.rules hX; clear hX; go_simp; rfl); simp only [List.getElem_toArray, List.getElem_cons_succ, List.getElem_cons_zero, Act.put, List.setIfInBounds_toArray, List.set_cons_succ, List.set_cons_zero])
      (refine any_take 3 ?_ (by rfl) (by kernel_rfl) (fun _ _ _ _ _ hx => hx.elim) (.inl ⟨by rfl, ?_⟩) (by with_reducible assumption) ?_; rotate_left; (intro X hX; obtain ⟨r1, r2⟩ := Below.rules hX; clear hX; go_simp; rfl); simp only [List.getElem_toArray, List.getElem_cons_succ, List.getElem_cons_zero, Act.put, List.setIfInBounds_toArray, List.set_cons_succ, List.set_cons_zero])
      (refine any_take 4 ?_ (by rfl) (by kernel_rfl) (fun _ _ _ _ _ hx => hx.elim) (.inl ⟨by rfl, ?_⟩) (by with_reducible assumption) ?_; rotate_left; (intro X hX; obtain ⟨r1, r2⟩ := Below.rules hX; clear hX; go_simp; rfl); simp only [List.getElem_toArray, List.getElem_cons_succ, List.getElem_cons_zero, Act.put, List.setIfInBounds_toArray, List.set_cons_succ, List.set_cons_zero])
      (refine any_take 5 ?_ (by rfl) (by kernel_rfl) (fun _ _ _ _ _ hx => hx.elim) (.inl ⟨by rfl, ?_⟩) (by with_reducible assumption) ?_; rotate_left; (intro X hX; obtain ⟨r1, r2⟩ := Below.rules hX; clear hX; go_simp; rfl); simp only [List.getElem_toArray, List.getElem_cons_succ, List.getElem_cons_zero, Act.put, List.setIfInBounds_toArray, List.set_cons_succ, List.set_cons_zero])
      (refine any_take 6 ?_ (by rfl) (by kernel_rfl) (fun _ _ _ _ _ hx => hx.elim) (.inl ⟨by rfl, ?_⟩) (by with_reducible assumption) ?_; rotate_left; (intro X hX; obtain ⟨r1, r2⟩ := Below.rules hX; clear hX; go_simp; rfl); simp only [List.getElem_toArray, List.getElem_cons_succ, List.getElem_cons_zero, Act.put, List.setIfInBounds_toArray, List.set_cons_succ, List.set_cons_zero])
      (refine any_take 7 ?_ (by rfl) (by kernel_rfl) (fun _ _ _ _ _ hx => hx.elim) (.inl ⟨by rfl, ?_⟩) (by with_reducible assumption) ?_; rotate_left; (intro X hX; obtain ⟨r1, r2⟩ := Below.rules hX; clear hX; go_simp; rfl); simp only [List.getElem_toArray, List.getElem_cons_succ, List.getElem_cons_zero, Act.put, List.setIfInBounds_toArray, List.set_cons_succ, List.set_cons_zero])
      (refine any_take 8 ?_ (by rfl) (by kernel_rfl) (fun _ _ _ _ _ hx => hx.elim) (.inl ⟨by rfl, ?_⟩) (by with_reducible assumption) ?_; rotate_left; (intro X hX; obtain ⟨r1, r2⟩ := Below.rules hX; clear hX; go_simp; rfl); simp only [List.getElem_toArray, List.getElem_cons_succ, List.getElem_cons_zero, Act.put, List.setIfInBounds_toArray, List.set_cons_succ, List.set_cons_zero])
      (refine any_take 9 ?_ (by rfl) (by kernel_rfl) (fun _ _ _ _ _ hx => hx.elim) (.inl ⟨by rfl, ?_⟩) (by with_reducible assumption) ?_; rotate_left; (intro X hX; obtain ⟨r1, r2⟩ := Below.rules hX; clear hX; go_simp; rfl); simp only [List.getElem_toArray, List.getElem_cons_succ, List.getElem_cons_zero, Act.put, List.setIfInBounds_toArray, List.set_cons_succ, List.set_cons_zero])
      (refine any_take 10 ?_ (by rfl) (by kernel_rfl) (fun _ _ _ _ _ hx => hx.elim) (.inl ⟨by rfl, ?_⟩) (by with_reducible assumption) ?_; rotate_left; (intro X hX; obtain ⟨r1, r2⟩ := Below.rules hX; clear hX; go_simp; rfl); simp only [List.getElem_toArray, List.getElem_cons_succ, List.getElem_cons_zero, Act.put, List.setIfInBounds_toArray, List.set_cons_succ, List.set_cons_zero])
      (refine any_take 11 ?_ (by rfl) (by kernel_rfl) (fun _ _ _ _ _ hx => hx.elim) (.inl ⟨by rfl, ?_⟩) (by with_reducible assumption) ?_; rotate_left; (intro X hX; obtain ⟨r1, r2⟩ := Below.rules hX; clear hX; go_simp; rfl); simp only [List.getElem_toArray, List.getElem_cons_succ, List.getElem_cons_zero, Act.put, List.setIfInBounds_toArray, List.set_cons_succ, List.set_cons_zero])
      (refine any_take 12 ?_ (by rfl) (by kernel_rfl) (fun _ _ _ _ _ hx => hx.elim) (.inl ⟨by rfl, ?_⟩) (by with_reducible assumption) ?_; rotate_left; (intro X hX; obtain ⟨r1, r2⟩ := Below.rules hX; clear hX; go_simp; rfl); simp only [List.getElem_toArray, List.getElem_cons_succ, List.getElem_cons_zero, Act.put, List.setIfInBounds_toArray, List.set_cons_succ, List.set_cons_zero])
      (refine any_take 13 ?_ (by rfl) (by kernel_rfl) (fun _ _ _ _ _ hx => hx.elim) (.inl ⟨by rfl, ?_⟩) (by with_reducible assumption) ?_; rotate_left; (intro X hX; obtain ⟨r1, r2⟩ := Below.rules hX; clear hX; go_simp; rfl); simp only [List.getElem_toArray, List.getElem_cons_succ, List.getElem_cons_zero, Act.put, List.setIfInBounds_toArray, List.set_cons_succ, List.set_cons_zero])
      (refine any_take 14 ?_ (by rfl) (by kernel_rfl) (fun _ _ _ _ _ hx => hx.elim) (.inl ⟨by rfl, ?_⟩) (by with_reducible assumption) ?_; rotate_left; (intro X hX; obtain ⟨r1, r2⟩ := Below.rules hX; clear hX; go_simp; rfl); simp only [List.getElem_toArray, List.getElem_cons_succ, List.getElem_cons_zero, Act.put, List.setIfInBounds_toArray, List.set_cons_succ, List.set_cons_zero])
      (refine any_take 15 ?_ (by rfl) (by kernel_rfl) (fun _ _ _ _ _ hx => hx.elim) (.inl ⟨by rfl, ?_⟩) (by with_reducible assumption) ?_; rotate_left; (intro X hX; obtain ⟨r1, r2⟩ := Below.rules hX; clear hX; go_simp; rfl); simp only [List.getElem_toArray, List.getElem_cons_succ, List.getElem_cons_zero, Act.put, List.setIfInBounds_toArray, List.set_cons_succ, List.set_cons_zero])
      (refine any_take 16 ?_ (by rfl) (by kernel_rfl) (fun _ _ _ _ _ hx => hx.elim) (.inl ⟨by rfl, ?_⟩) (by with_reducible assumption) ?_; rotate_left; (intro X hX; obtain ⟨r1, r2⟩ := Below.rules hX; clear hX; go_simp; rfl); simp only [List.getElem_toArray, List.getElem_cons_succ, List.getElem_cons_zero, Act.put, List.setIfInBounds_toArray, List.set_cons_succ, List.set_cons_zero])
      (refine any_take 17 ?_ (by rfl) (by kernel_rfl) (fun _ _ _ _ _ hx => hx.elim) (.inl ⟨by rfl, ?_⟩) (by with_reducible assumption) ?_; rotate_left; (intro X hX; obtain ⟨r1, r2⟩ := Below.rules hX; clear hX; go_simp; rfl); simp only [List.getElem_toArray, List.getElem_cons_succ, List.getElem_cons_zero, Act.put, List.setIfInBounds_toArray, List.set_cons_succ, List.set_cons_zero])
      have dy1 : Below w6.heap.size w6 w6.drew := by (repeat (first | with_reducible assumption | with_reducible exact Below.refl _ _ | (with_reducible refine Below.setCell ?_ (by first | omega | (simp; omega) | (simp; done)) _) | (with_reducible refine Below.alloc ?_ (by first | omega | (simp; omega) | (simp; done)) _) | (with_reducible refine Below.drew ?_) | (with_reducible refine belowN ?_ _) | assumption | exact Below.refl _ _ | (refine Below.alloc ?_ (by first | omega | (simp; omega) | (simp; done)) _) | (refine Below.drew ?_) | (refine belowN ?_ _) | (refine Below.setCell ?_ (by first | omega | (simp; omega) | (simp; done)) _)))
      generalize w6.drew = uy2 at *
      refine any_run1 (i := 18) (by kernel_rfl) (by rfl) (by kernel_rfl) ?_
      intro K hK
      go_wp2_with fail
      refine hK _ _ (fun _ => dy1) ?_
      clear hK K
      refine any_run1 (i := 19) (by kernel_rfl) (by rfl) (by kernel_rfl) ?_
      intro K hK
      go_wp2_with fail
      refine hK _ _ (fun _ => dy1) ?_
      clear hK K
      refine any_run1 (i := 20) (by kernel_rfl) (by rfl) (by kernel_rfl) ?_
      intro K hK
      go_wp2_with fail
      refine hK _ _ (fun _ => dy1) ?_
      clear hK K
      refine any_done (by kernel_rfl) (NoPanic.normal ?_)
      go_wp2_with fail
      refine (HIW3.out uy2 (hC.trans (dy1.mono hC.size)) (by trivial) (by trivial)).mono ?_
      rintro e wi ⟨rfl, hbi⟩
      have hBi := dy1.trans (hbi.mono dy1.size)
      clear hbi
      go_wp2_with fail
      refine (works_any _).mono ?_
      rintro e wz ⟨rfl, hb⟩
      go_wp2_with fail
      go_ret
      exact ⟨rfl, hC.trans ((hBi.trans (hb.mono hBi.size)).mono hC.size)⟩
  | false =>
    obtain rfl : gz = 0 := by simpa using hr
    clear hr
    have hgl := Lib.hid (HLN.out rfl)
    have HLE2 := Lib.hid (HLE.out rfl)
    clear HLE HLN
    obtain ⟨rfl, hb3⟩ := HA3.out (by rw [hgl.out]; omega)
    have c0 : ((0 : Int) != 0) = false := rfl
    rcases hcases with rfl | ⟨rfl, rfl⟩ | ⟨rfl, rfl⟩
    · skip
      obtain ⟨hp, _⟩ := HPQ.out
      have d0y : Below w6.heap.size w6 w6.drew := by (repeat (first | with_reducible assumption | with_reducible exact Below.refl _ _ | (with_reducible refine Below.setCell ?_ (by first | omega | (simp; omega) | (simp; done)) _) | (with_reducible refine Below.alloc ?_ (by first | omega | (simp; omega) | (simp; done)) _) | (with_reducible refine Below.drew ?_) | (with_reducible refine belowN ?_ _) | assumption | exact Below.refl _ _ | (refine Below.alloc ?_ (by first | omega | (simp; omega) | (simp; done)) _) | (refine Below.drew ?_) | (refine belowN ?_ _) | (refine Below.setCell ?_ (by first | omega | (simp; omega) | (simp; done)) _)))
      refine wp_region_noPanic (plain_any [0, 1, 2, 3, 4, 5, 6, 7, 8, 9, 10, 11, 12, 13, 14, 15, 16, 17] (Below w6.heap.size w6) mixed ?_)
      (refine any_take 0 ?_ (by rfl) (by kernel_rfl) (fun _ _ _ _ _ hx => hx.elim) (.inl ⟨by rfl, ?_⟩) (by with_reducible assumption) ?_; rotate_left; (intro X hX; obtain ⟨r1, r2⟩ := Below.rules hX; clear hX; go_simp; rfl); simp only [List.getElem_toArray, List.getElem_cons_succ, List.getElem_cons_zero, Act.put, List.setIfInBounds_toArray, List.set_cons_succ, List.set_cons_zero])
      (refine any_take 1 ?_ (by rfl) (by kernel_rfl) (fun _ _ _ _ _ hx => hx.elim) (.inl ⟨by rfl, ?_⟩) (by with_reducible assumption) ?_; rotate_left; (intro X hX; obtain ⟨r1, r2⟩ := Below.rules hX; clear hX; go_simp; rfl); simp only [List.getElem_toArray, List.getElem_cons_succ, List.getElem_cons_zero, Act.put, List.setIfInBounds_toArray, List.set_cons_succ, List.set_cons_zero])
      (refine any_take 2 ?_ (by rfl) (by kernel_rfl) (fun _ _ _ _ _ hx => hx.elim) (.inl ⟨by rfl, ?_⟩) (by with_reducible assumption) ?_; rotate_left; (intro X hX; obtain ⟨r1, r2⟩ := Below.rules hX; clear hX; go_simp; rfl); simp only [List.getElem_toArray, List.getElem_cons_succ, List.getElem_cons_zero, Act.put, List.setIfInBounds_toArray, List.set_cons_succ, List.set_cons_zero])
      (refine any_take 3 ?_ (by rfl) (by kernel_rfl) (fun _ _ _ _ _ hx => hx.elim) (.inl ⟨by rfl, ?_⟩) (by with_reducible assumption) ?_; rotate_left; (intro X hX; obtain ⟨r1, r2⟩ := Below.rules hX; clear hX; go_simp; rfl); simp only [List.getElem_toArray, List.getElem_cons_succ, List.getElem_cons_zero, Act.put, List.setIfInBounds_toArray, List.set_cons_succ, List.set_cons_zero])
      (refine any_take 4 ?_ (by rfl) (by kernel_rfl) (fun _ _ _ _ _ hx => hx.elim) (.inl ⟨by rfl, ?_⟩) (by with_reducible assumption) ?_; rotate_left; (intro X hX; obtain ⟨r1, r2⟩ := Below.rules hX; clear hX; go_simp; rfl); simp only [List.getElem_toArray, List.getElem_cons_succ, List.getElem_cons_zero, Act.put, List.setIfInBounds_toArray, List.set_cons_succ, List.set_cons_zero])
      (refine any_take 5 ?_ (by rfl) (by kernel_rfl) (fun _ _ _ _ _ hx => hx.elim) (.inl ⟨by rfl, ?_⟩) (by with_reducible assumption) ?_; rotate_left; (intro X hX; obtain ⟨r1, r2⟩ := Below.rules hX; clear hX; go_simp; rfl); simp only [List.getElem_toArray, List.getElem_cons_succ, List.getElem_cons_zero, Act.put, List.setIfInBounds_toArray, List.set_cons_succ, List.set_cons_zero])
      (refine any_take 6 ?_ (by rfl) (by kernel_rfl) (fun _ _ _ _ _ hx => hx.elim) (.inl ⟨by rfl, ?_⟩) (by with_reducible assumption) ?_; rotate_left; (intro X hX; obtain ⟨r1, r2⟩ := Below.rules hX; clear hX; go_simp; rfl); simp only [List.getElem_toArray, List.getElem_cons_succ, List.getElem_cons_zero, Act.put, List.setIfInBounds_toArray, List.set_cons_succ, List.set_cons_zero])
      (refine any_take 7 ?_ (by rfl) (by kernel_rfl) (fun _ _ _ _ _ hx => hx.elim) (.inl ⟨by rfl, ?_⟩) (by with_reducible assumption) ?_; rotate_left; (intro X hX; obtain ⟨r1, r2⟩ := Below.rules hX; clear hX; go_simp; rfl); simp only [List.getElem_toArray, List.getElem_cons_succ, List.getElem_cons_zero, Act.put, List.setIfInBounds_toArray, List.set_cons_succ, List.set_cons_zero])
      (refine any_take 8 ?_ (by rfl) (by kernel_rfl) (fun _ _ _ _ _ hx => hx.elim) (.inl ⟨by rfl, ?_⟩) (by with_reducible assumption) ?_; rotate_left; (intro X hX; obtain ⟨r1, r2⟩ := Below.rules hX; clear hX; go_simp; rfl); simp only [List.getElem_toArray, List.getElem_cons_succ, List.getElem_cons_zero, Act.put, List.setIfInBounds_toArray, List.set_cons_succ, List.set_cons_zero])
      (refine any_take 9 ?_ (by rfl) (by kernel_rfl) (fun _ _ _ _ _ hx => hx.elim) (.inl ⟨by rfl, ?_⟩) (by with_reducible assumption) ?_; rotate_left; (intro X hX; obtain ⟨r1, r2⟩ := Below.rules hX; clear hX; go_simp; rfl); simp only [List.getElem_toArray, List.getElem_cons_succ, List.getElem_cons_zero, Act.put, List.setIfInBounds_toArray, List.set_cons_succ, List.set_cons_zero])
      (refine any_take 10 ?_ (by rfl) (by kernel_rfl) (fun _ _ _ _ _ hx => hx.elim) (.inl ⟨by rfl, ?_⟩) (by with_reducible assumption) ?_; rotate_left; (intro X hX; obtain ⟨r1, r2⟩ := Below.rules hX; clear hX; go_simp; rfl); simp only [List.getElem_toArray, List.getElem_cons_succ, List.getElem_cons_zero, Act.put, List.setIfInBounds_toArray, List.set_cons_succ, List.set_cons_zero])
      (refine any_take 11 ?_ (by rfl) (by kernel_rfl) (fun _ _ _ _ _ hx => hx.elim) (.inl ⟨by rfl, ?_⟩) (by with_reducible assumption) ?_; rotate_left; (intro X hX; obtain ⟨r1, r2⟩ := Below.rules hX; clear hX; go_simp; rfl); simp only [List.getElem_toArray, List.getElem_cons_succ, List.getElem_cons_zero, Act.put, List.setIfInBounds_toArray, List.set_cons_succ, List.set_cons_zero])
      (refine any_take 12 ?_ (by rfl) (by kernel_rfl) (fun _ _ _ _ _ hx => hx.elim) (.inl ⟨by rfl, ?_⟩) (by with_reducible assumption) ?_; rotate_left; (intro X hX; obtain ⟨r1, r2⟩ := Below.rules hX; clear hX; go_simp; rfl); simp only [List.getElem_toArray, List.getElem_cons_succ, List.getElem_cons_zero, Act.put, List.setIfInBounds_toArray, List.set_cons_succ, List.set_cons_zero])
      (refine any_take 13 ?_ (by rfl) (by kernel_rfl) (fun _ _ _ _ _ hx => hx.elim) (.inl ⟨by rfl, ?_⟩) (by with_reducible assumption) ?_; rotate_left; (intro X hX; obtain ⟨r1, r2⟩ := Below.rules hX; clear hX; go_simp; rfl); simp only [List.getElem_toArray, List.getElem_cons_succ, List.getElem_cons_zero, Act.put, List.setIfInBounds_toArray, List.set_cons_succ, List.set_cons_zero])
      (refine any_take 14 ?_ (by rfl) (by kernel_rfl) (fun _ _ _ _ _ hx => hx.elim) (.inl ⟨by rfl, ?_⟩) (by with_reducible assumption) ?_; rotate_left; (intro X hX; obtain ⟨r1, r2⟩ := Below.rules hX; clear hX; go_simp; rfl); simp only [List.getElem_toArray, List.getElem_cons_succ, List.getElem_cons_zero, Act.put, List.setIfInBounds_toArray, List.set_cons_succ, List.set_cons_zero])
      (refine any_take 15 ?_ (by rfl) (by kernel_rfl) (fun _ _ _ _ _ hx => hx.elim) (.inl ⟨by rfl, ?_⟩) (by with_reducible assumption) ?_; rotate_left; (intro X hX; obtain ⟨r1, r2⟩ := Below.rules hX; clear hX; go_simp; rfl); simp only [List.getElem_toArray, List.getElem_cons_succ, List.getElem_cons_zero, Act.put, List.setIfInBounds_toArray, List.set_cons_succ, List.set_cons_zero])
      (refine any_take 16 ?_ (by rfl) (by kernel_rfl) (fun _ _ _ _ _ hx => hx.elim) (.inl ⟨by rfl, ?_⟩) (by with_reducible assumption) ?_; rotate_left; (intro X hX; obtain ⟨r1, r2⟩ := Below.rules hX; clear hX; go_simp; rfl); simp only [List.getElem_toArray, List.getElem_cons_succ, List.getElem_cons_zero, Act.put, List.setIfInBounds_toArray, List.set_cons_succ, List.set_cons_zero])
      (refine any_take 17 ?_ (by rfl) (by kernel_rfl) (fun _ _ _ _ _ hx => hx.elim) (.inl ⟨by rfl, ?_⟩) (by with_reducible assumption) ?_; rotate_left; (intro X hX; obtain ⟨r1, r2⟩ := Below.rules hX; clear hX; go_simp; rfl); simp only [List.getElem_toArray, List.getElem_cons_succ, List.getElem_cons_zero, Act.put, List.setIfInBounds_toArray, List.set_cons_succ, List.set_cons_zero])
      have dy1 : Below w6.heap.size w6 w6.drew := by (repeat (first | with_reducible assumption | with_reducible exact Below.refl _ _ | (with_reducible refine Below.setCell ?_ (by first | omega | (simp; omega) | (simp; done)) _) | (with_reducible refine Below.alloc ?_ (by first | omega | (simp; omega) | (simp; done)) _) | (with_reducible refine Below.drew ?_) | (with_reducible refine belowN ?_ _) | assumption | exact Below.refl _ _ | (refine Below.alloc ?_ (by first | omega | (simp; omega) | (simp; done)) _) | (refine Below.drew ?_) | (refine belowN ?_ _) | (refine Below.setCell ?_ (by first | omega | (simp; omega) | (simp; done)) _)))
      generalize w6.drew = uy2 at *
      refine any_run1 (i := 18) (by kernel_rfl) (by rfl) (by kernel_rfl) ?_
      intro K hK
      go_wp2_with fail
      refine hK _ _ (fun _ => dy1) ?_
      clear hK K
      refine any_run1 (i := 19) (by kernel_rfl) (by rfl) (by kernel_rfl) ?_
      intro K hK
      go_wp2_with fail
      refine hK _ _ (fun _ => dy1) ?_
      clear hK K
      refine any_run1 (i := 20) (by kernel_rfl) (by rfl) (by kernel_rfl) ?_
      intro K hK
      go_wp2_with fail
      refine hK _ _ (fun _ => dy1) ?_
      clear hK K
      refine any_done (by kernel_rfl) (NoPanic.normal ?_)
      go_wp2_with fail
      refine (HGR.out uy2 (hC.trans (dy1.mono hC.size))).mono ?_
      rintro e wg ⟨rfl, hbg⟩
      have hBg := dy1.trans (hbg.mono dy1.size)
      clear hbg
      go_wp2_with fail
      go_loopw [19] (fun iv wr => ∃ j : Nat, j ≤ l.length ∧ iv = .int .i64 j ∧ Below w6.heap.size w6 wr) (fun i _ => l.length - (intOf i).toNat)
      case atStart => exact ⟨0, Nat.zero_le _, rfl, hBg⟩
      case round =>
        obtain ⟨j, hj, rfl, hbr⟩ := hrel
        by_cases hjl : j < l.length
        · have hjg : j < gv.length := by rw [hgl.out]; exact hjl
          have c1 := HCH.out j hjl
          have c2 := HCG.out j hjg
          have hbw : Below w.heap.size w wr := hC.trans (hbr.mono hC.size)
          rw [← hbr.cell (by exact hb4), ← hbr.cell (by exact hb4)] at c1
          rw [← hbw.cell (by exact hb3), ← hbw.cell (by exact hb3)] at c2
          obtain ⟨c10, c11⟩ := c1
          obtain ⟨c20, c21⟩ := c2
          have hb4r : b4_ < wr.heap.size := Nat.lt_of_lt_of_le hb4 hbr.size
          have hb3r : b3_ < wr.heap.size := Nat.lt_of_lt_of_le hb3 hbw.size
          have hle := HLE2.out j hjl
          generalize nthR hs j = R1 at *
          generalize nthR gv j = R2 at *
          have HLW := Lib.hid (show lessW ⟨R1.num, R1.den⟩ ⟨R2.num, R2.den⟩ = false from hle)
          clear hle
          go_wp2_with fail
          have d0x : Below wr.heap.size wr wr.drew := by (repeat (first | with_reducible assumption | with_reducible exact Below.refl _ _ | (with_reducible refine Below.setCell ?_ (by first | omega | (simp; omega) | (simp; done)) _) | (with_reducible refine Below.alloc ?_ (by first | omega | (simp; omega) | (simp; done)) _) | (with_reducible refine Below.drew ?_) | (with_reducible refine belowN ?_ _) | assumption | exact Below.refl _ _ | (refine Below.alloc ?_ (by first | omega | (simp; omega) | (simp; done)) _) | (refine Below.drew ?_) | (refine belowN ?_ _) | (refine Below.setCell ?_ (by first | omega | (simp; omega) | (simp; done)) _)))
          refine wp_region_noPanic (plain_any [0, 1, 2, 3, 4, 5, 6, 7] (Below wr.heap.size wr) mixed ?_)
          (refine any_take 0 ?_ (by rfl) (by kernel_rfl) (fun _ _ _ _ _ hx => hx.elim) (.inl ⟨by rfl, ?_⟩) (by with_reducible assumption) ?_; rotate_left; (intro X hX; obtain ⟨r1, r2⟩ := Below.rules hX; clear hX; go_simp; rfl); simp only [List.getElem_toArray, List.getElem_cons_succ, List.getElem_cons_zero, Act.put, List.setIfInBounds_toArray, List.set_cons_succ, List.set_cons_zero])
          (refine any_take 1 ?_ (by rfl) (by kernel_rfl) (fun _ _ _ _ _ hx => hx.elim) (.inl ⟨by rfl, ?_⟩) (by with_reducible assumption) ?_; rotate_left; (intro X hX; obtain ⟨r1, r2⟩ := Below.rules hX; clear hX; go_simp; rfl); simp only [List.getElem_toArray, List.getElem_cons_succ, List.getElem_cons_zero, Act.put, List.setIfInBounds_toArray, List.set_cons_succ, List.set_cons_zero])
          (refine any_take 2 ?_ (by rfl) (by kernel_rfl) (fun _ _ _ _ _ hx => hx.elim) (.inl ⟨by rfl, ?_⟩) (by with_reducible assumption) ?_; rotate_left; (intro X hX; obtain ⟨r1, r2⟩ := Below.rules hX; clear hX; go_simp; rfl); simp only [List.getElem_toArray, List.getElem_cons_succ, List.getElem_cons_zero, Act.put, List.setIfInBounds_toArray, List.set_cons_succ, List.set_cons_zero])
          (refine any_take 3 ?_ (by rfl) (by kernel_rfl) (fun _ _ _ _ _ hx => hx.elim) (.inl ⟨by rfl, ?_⟩) (by with_reducible assumption) ?_; rotate_left; (intro X hX; obtain ⟨r1, r2⟩ := Below.rules hX; clear hX; go_simp; rfl); simp only [List.getElem_toArray, List.getElem_cons_succ, List.getElem_cons_zero, Act.put, List.setIfInBounds_toArray, List.set_cons_succ, List.set_cons_zero])
          (refine any_take 4 ?_ (by rfl) (by kernel_rfl) (fun _ _ _ _ _ hx => hx.elim) (.inl ⟨by rfl, ?_⟩) (by with_reducible assumption) ?_; rotate_left; (intro X hX; obtain ⟨r1, r2⟩ := Below.rules hX; clear hX; go_simp; rfl); simp only [List.getElem_toArray, List.getElem_cons_succ, List.getElem_cons_zero, Act.put, List.setIfInBounds_toArray, List.set_cons_succ, List.set_cons_zero])
          (refine any_take 5 ?_ (by rfl) (by kernel_rfl) (fun _ _ _ _ _ hx => hx.elim) (.inl ⟨by rfl, ?_⟩) (by with_reducible assumption) ?_; rotate_left; (intro X hX; obtain ⟨r1, r2⟩ := Below.rules hX; clear hX; go_simp; rfl); simp only [List.getElem_toArray, List.getElem_cons_succ, List.getElem_cons_zero, Act.put, List.setIfInBounds_toArray, List.set_cons_succ, List.set_cons_zero])
          (refine any_take 6 ?_ (by rfl) (by kernel_rfl) (fun _ _ _ _ _ hx => hx.elim) (.inl ⟨by rfl, ?_⟩) (by with_reducible assumption) ?_; rotate_left; (intro X hX; obtain ⟨r1, r2⟩ := Below.rules hX; clear hX; go_simp; rfl); simp only [List.getElem_toArray, List.getElem_cons_succ, List.getElem_cons_zero, Act.put, List.setIfInBounds_toArray, List.set_cons_succ, List.set_cons_zero])
          (refine any_take 7 ?_ (by rfl) (by kernel_rfl) (fun _ _ _ _ _ hx => hx.elim) (.inl ⟨by rfl, ?_⟩) (by with_reducible assumption) ?_; rotate_left; (intro X hX; obtain ⟨r1, r2⟩ := Below.rules hX; clear hX; go_simp; rfl); simp only [List.getElem_toArray, List.getElem_cons_succ, List.getElem_cons_zero, Act.put, List.setIfInBounds_toArray, List.set_cons_succ, List.set_cons_zero])
          have dx1 : Below wr.heap.size wr wr.drew := by (repeat (first | with_reducible assumption | with_reducible exact Below.refl _ _ | (with_reducible refine Below.setCell ?_ (by first | omega | (simp; omega) | (simp; done)) _) | (with_reducible refine Below.alloc ?_ (by first | omega | (simp; omega) | (simp; done)) _) | (with_reducible refine Below.drew ?_) | (with_reducible refine belowN ?_ _) | assumption | exact Below.refl _ _ | (refine Below.alloc ?_ (by first | omega | (simp; omega) | (simp; done)) _) | (refine Below.drew ?_) | (refine belowN ?_ _) | (refine Below.setCell ?_ (by first | omega | (simp; omega) | (simp; done)) _)))
          generalize wr.drew = ux2 at *
          refine any_run1 (i := 8) (by kernel_rfl) (by rfl) (by kernel_rfl) ?_
          intro K hK
          have qx5 := dx1.size
          go_wp2_with fail
          refine (refLess_any R1.num R1.den R2.num R2.den _).mono ?_
          rintro e vx4 ⟨rfl, hb⟩
          rw [HLW.out]
          have hb2 : Below ux2.heap.size ux2 vx4 := by rw [← hb]; (repeat (first | with_reducible assumption | with_reducible exact Below.refl _ _ | (with_reducible refine Below.setCell ?_ (by first | omega | (simp; omega) | (simp; done)) _) | (with_reducible refine Below.alloc ?_ (by first | omega | (simp; omega) | (simp; done)) _) | (with_reducible refine Below.drew ?_) | (with_reducible refine belowN ?_ _) | assumption | exact Below.refl _ _ | (refine Below.alloc ?_ (by first | omega | (simp; omega) | (simp; done)) _) | (refine Below.drew ?_) | (refine belowN ?_ _) | (refine Below.setCell ?_ (by first | omega | (simp; omega) | (simp; done)) _)))
          clear hb
          have hb := hb2
          clear hb2
          have ex3 : Below wr.heap.size wr vx4 := dx1.trans (hb.mono dx1.size)
          clear hb
          refine hK _ _ (fun _ => ex3) ?_
          clear hK K
          refine any_done (by kernel_rfl) (NoPanic.normal ?_)
          go_wp2_with fail
          go_roundw
          case rel => exact ⟨j + 1, by omega, by go_num, hbr.trans (ex3.mono hbr.size)⟩
          case measure => simp [intOf]; omega
        · have hje : j = l.length := by omega
          go_wp2_with fail
          refine (works_any _).mono ?_
          rintro e wz ⟨rfl, hb⟩
          go_wp2_with fail
          go_ret
          exact ⟨rfl, hC.trans ((hbr.trans (hb.mono hbr.size)).mono hC.size)⟩
    · skip
      obtain ⟨hp, hq⟩ := HPQ.out
      have d0y : Below w6.heap.size w6 w6.drew := by (repeat (first | with_reducible assumption | with_reducible exact Below.refl _ _ | (with_reducible refine Below.setCell ?_ (by first | omega | (simp; omega) | (simp; done)) _) | (with_reducible refine Below.alloc ?_ (by first | omega | (simp; omega) | (simp; done)) _) | (with_reducible refine Below.drew ?_) | (with_reducible refine belowN ?_ _) | assumption | exact Below.refl _ _ | (refine Below.alloc ?_ (by first | omega | (simp; omega) | (simp; done)) _) | (refine Below.drew ?_) | (refine belowN ?_ _) | (refine Below.setCell ?_ (by first | omega | (simp; omega) | (simp; done)) _)))
      refine wp_region_noPanic (plain_any [0, 1, 2, 3, 4, 5, 6, 7, 8, 9, 10, 11, 12, 13, 14, 15, 16, 17] (Below w6.heap.size w6) mixed ?_)
      (refine any_take 0 ?_ (by rfl) (by kernel_rfl) (fun _ _ _ _ _ hx => hx.elim) (.inl ⟨by rfl, ?_⟩) (by with_reducible assumption) ?_; rotate_left; (intro X hX; obtain ⟨r1, r2⟩ := Below.rules hX; clear hX; go_simp; rfl); simp only [List.getElem_toArray, List.getElem_cons_succ, List.getElem_cons_zero, Act.put, List.setIfInBounds_toArray, List.set_cons_succ, List.set_cons_zero])
      (refine any_take 1 ?_ (by rfl) (by kernel_rfl) (fun _ _ _ _ _ hx => hx.elim) (.inl ⟨by rfl, ?_⟩) (by with_reducible assumption) ?_; rotate_left; (intro X hX; obtain ⟨r1, r2⟩ := Below.rules hX; clear hX; go_simp; rfl); simp only [List.getElem_toArray, List.getElem_cons_succ, List.getElem_cons_zero, Act.put, List.setIfInBounds_toArray, List.set_cons_succ, List.set_cons_zero])
      (refine any_take 2 ?_ (by rfl) (by kernel_rfl) (fun _ _ _ _ _ hx => hx.elim) (.inl ⟨by rfl, ?_⟩) (by with_reducible assumption) ?_; rotate_left; (intro X hX; obtain ⟨r1, r2⟩ := Below.rules hX; clear hX; go_simp; rfl); simp only [List.getElem_toArray, List.getElem_cons_succ, List.getElem_cons_zero, Act.put, List.setIfInBounds_toArray, List.set_cons_succ, List.set_cons_zero])
      (refine any_take 3 ?_ (by rfl) (by kernel_rfl) (fun _ _ _ _ _ hx => hx.elim) (.inl ⟨by rfl, ?_⟩) (by with_reducible assumption) ?_; rotate_left; (intro X hX; obtain ⟨r1, r2⟩ := Below.rules hX; clear hX; go_simp; rfl); simp only [List.getElem_toArray, List.getElem_cons_succ, List.getElem_cons_zero, Act.put, List.setIfInBounds_toArray, List.set_cons_succ, List.set_cons_zero])
      (refine any_take 4 ?_ (by rfl) (by kernel_rfl) (fun _ _ _ _ _ hx => hx.elim) (.inl ⟨by rfl, ?_⟩) (by with_reducible assumption) ?_; rotate_left; (intro X hX; obtain ⟨r1, r2⟩ := Below.rules hX; clear hX; go_simp; rfl); simp only [List.getElem_toArray, List.getElem_cons_succ, List.getElem_cons_zero, Act.put, List.setIfInBounds_toArray, List.set_cons_succ, List.set_cons_zero])
      (refine any_take 5 ?_ (by rfl) (by kernel_rfl) (fun _ _ _ _ _ hx => hx.elim) (.inl ⟨by rfl, ?_⟩) (by with_reducible assumption) ?_; rotate_left; (intro X hX; obtain ⟨r1, r2⟩ := Below.rules hX; clear hX; go_simp; rfl); simp only [List.getElem_toArray, List.getElem_cons_succ, List.getElem_cons_zero, Act.put, List.setIfInBounds_toArray, List.set_cons_succ, List.set_cons_zero])
      (refine any_take 6 ?_ (by rfl) (by kernel_rfl) (fun _ _ _ _ _ hx => hx.elim) (.inl ⟨by rfl, ?_⟩) (by with_reducible assumption) ?_; rotate_left; (intro X hX; obtain ⟨r1, r2⟩ := Below.rules hX; clear hX; go_simp; rfl); simp only [List.getElem_toArray, List.getElem_cons_succ, List.getElem_cons_zero, Act.put, List.setIfInBounds_toArray, List.set_cons_succ, List.set_cons_zero])
      (refine any_take 7 ?_ (by rfl) (by kernel_rfl) (fun _ _ _ _ _ hx => hx.elim) (.inl ⟨by rfl, ?_⟩) (by with_reducible assumption) ?_; rotate_left; (intro X hX; obtain ⟨r1, r2⟩ := Below.rules hX; clear hX; go_simp; rfl); simp only [List.getElem_toArray, List.getElem_cons_succ, List.getElem_cons_zero, Act.put, List.setIfInBounds_toArray, List.set_cons_succ, List.set_cons_zero])
      (refine any_take 8 ?_ (by rfl) (by kernel_rfl) (fun _ _ _ _ _ hx => hx.elim) (.inl ⟨by rfl, ?_⟩) (by with_reducible assumption) ?_; rotate_left; (intro X hX; obtain ⟨r1, r2⟩ := Below.rules hX; clear hX; go_simp; rfl); simp only [List.getElem_toArray, List.getElem_cons_succ, List.getElem_cons_zero, Act.put, List.setIfInBounds_toArray, List.set_cons_succ, List.set_cons_zero])
      (refine any_take 9 ?_ (by rfl) (by kernel_rfl) (fun _ _ _ _ _ hx => hx.elim) (.inl ⟨by rfl, ?_⟩) (by with_reducible assumption) ?_; rotate_left; (intro X hX; obtain ⟨r1, r2⟩ := Below.rules hX; clear hX; go_simp; rfl); simp only [List.getElem_toArray, List.getElem_cons_succ, List.getElem_cons_zero, Act.put, List.setIfInBounds_toArray, List.set_cons_succ, List.set_cons_zero])
      (refine any_take 10 ?_ (by rfl) (by kernel_rfl) (fun _ _ _ _ _ hx => hx.elim) (.inl ⟨by rfl, ?_⟩) (by with_reducible assumption) ?_; rotate_left; (intro X hX; obtain ⟨r1, r2⟩ := Below.rules hX; clear hX; go_simp; rfl); simp only [List.getElem_toArray, List.getElem_cons_succ, List.getElem_cons_zero, Act.put, List.setIfInBounds_toArray, List.set_cons_succ, List.set_cons_zero])
      (refine any_take 11 ?_ (by rfl) (by kernel_rfl) (fun _ _ _ _ _ hx => hx.elim) (.inl ⟨by rfl, ?_⟩) (by with_reducible assumption) ?_; rotate_left; (intro X hX; obtain ⟨r1, r2⟩ := Below.rules hX; clear hX; go_simp; rfl); simp only [List.getElem_toArray, List.getElem_cons_succ, List.getElem_cons_zero, Act.put, List.setIfInBounds_toArray, List.set_cons_succ, List.set_cons_zero])
      (refine any_take 12 ?_ (by rfl) (by kernel_rfl) (fun _ _ _ _ _ hx => hx.elim) (.inl ⟨by rfl, ?_⟩) (by with_reducible assumption) ?_; rotate_left; (intro X hX; obtain ⟨r1, r2⟩ := Below.rules hX; clear hX; go_simp; rfl); simp only [List.getElem_toArray, List.getElem_cons_succ, List.getElem_cons_zero, Act.put, List.setIfInBounds_toArray, List.set_cons_succ, List.set_cons_zero])
      (refine any_take 13 ?_ (by rfl) (by kernel_rfl) (fun _ _ _ _ _ hx => hx.elim) (.inl ⟨by rfl, ?_⟩) (by with_reducible assumption) ?_; rotate_left; (intro X hX; obtain ⟨r1, r2⟩ := Below.rules hX; clear hX; go_simp; rfl); simp only [List.getElem_toArray, List.getElem_cons_succ, List.getElem_cons_zero, Act.put, List.setIfInBounds_toArray, List.set_cons_succ, List.set_cons_zero])
      (refine any_take 14 ?_ (by rfl) (by kernel_rfl) (fun _ _ _ _ _ hx => hx.elim) (.inl ⟨by rfl, ?_⟩) (by with_reducible assumption) ?_; rotate_left; (intro X hX; obtain ⟨r1, r2⟩ := Below.rules hX; clear hX; go_simp; rfl); simp only [List.getElem_toArray, List.getElem_cons_succ, List.getElem_cons_zero, Act.put, List.setIfInBounds_toArray, List.set_cons_succ, List.set_cons_zero])
      (refine any_take 15 ?_ (by rfl) (by kernel_rfl) (fun _ _ _ _ _ hx => hx.elim) (.inl ⟨by rfl, ?_⟩) (by with_reducible assumption) ?_; rotate_left; (intro X hX; obtain ⟨r1, r2⟩ := Below.rules hX; clear hX; go_simp; rfl); simp only [List.getElem_toArray, List.getElem_cons_succ, List.getElem_cons_zero, Act.put, List.setIfInBounds_toArray, List.set_cons_succ, List.set_cons_zero])
      (refine any_take 16 ?_ (by rfl) (by kernel_rfl) (fun _ _ _ _ _ hx => hx.elim) (.inl ⟨by rfl, ?_⟩) (by with_reducible assumption) ?_; rotate_left; (intro X hX; obtain ⟨r1, r2⟩ := Below.rules hX; clear hX; go_simp; rfl); simp only [List.getElem_toArray, List.getElem_cons_succ, List.getElem_cons_zero, Act.put, List.setIfInBounds_toArray, List.set_cons_succ, List.set_cons_zero])
      (refine any_take 17 ?_ (by rfl) (by kernel_rfl) (fun _ _ _ _ _ hx => hx.elim) (.inl ⟨by rfl, ?_⟩) (by with_reducible assumption) ?_; rotate_left; (intro X hX; obtain ⟨r1, r2⟩ := Below.rules hX; clear hX; go_simp; rfl); simp only [List.getElem_toArray, List.getElem_cons_succ, List.getElem_cons_zero, Act.put, List.setIfInBounds_toArray, List.set_cons_succ, List.set_cons_zero])
      have dy1 : Below w6.heap.size w6 w6.drew := by (repeat (first | with_reducible assumption | with_reducible exact Below.refl _ _ | (with_reducible refine Below.setCell ?_ (by first | omega | (simp; omega) | (simp; done)) _) | (with_reducible refine Below.alloc ?_ (by first | omega | (simp; omega) | (simp; done)) _) | (with_reducible refine Below.drew ?_) | (with_reducible refine belowN ?_ _) | assumption | exact Below.refl _ _ | (refine Below.alloc ?_ (by first | omega | (simp; omega) | (simp; done)) _) | (refine Below.drew ?_) | (refine belowN ?_ _) | (refine Below.setCell ?_ (by first | omega | (simp; omega) | (simp; done)) _)))
      generalize w6.drew = uy2 at *
      refine any_run1 (i := 18) (by kernel_rfl) (by rfl) (by kernel_rfl) ?_
      intro K hK
      go_wp2_with fail
      refine hK _ _ (fun _ => dy1) ?_
      clear hK K
      refine any_run1 (i := 19) (by kernel_rfl) (by rfl) (by kernel_rfl) ?_
      intro K hK
      go_wp2_with fail
      refine hK _ _ (fun _ => dy1) ?_
      clear hK K
      refine any_run1 (i := 20) (by kernel_rfl) (by rfl) (by kernel_rfl) ?_
      intro K hK
      go_wp2_with fail
      refine hK _ _ (fun _ => dy1) ?_
      clear hK K
      refine any_done (by kernel_rfl) (NoPanic.normal ?_)
      go_wp2_with fail
      refine (HGR.out uy2 (hC.trans (dy1.mono hC.size))).mono ?_
      rintro e wg ⟨rfl, hbg⟩
      have hBg := dy1.trans (hbg.mono dy1.size)
      clear hbg
      go_wp2_with fail
      go_loopw [19] (fun iv wr => ∃ j : Nat, j ≤ l.length ∧ iv = .int .i64 j ∧ Below w6.heap.size w6 wr) (fun i _ => l.length - (intOf i).toNat)
      case atStart => exact ⟨0, Nat.zero_le _, rfl, hBg⟩
      case round =>
        obtain ⟨j, hj, rfl, hbr⟩ := hrel
        by_cases hjl : j < l.length
        · have hjg : j < gv.length := by rw [hgl.out]; exact hjl
          have c1 := HCH.out j hjl
          have c2 := HCG.out j hjg
          have hbw : Below w.heap.size w wr := hC.trans (hbr.mono hC.size)
          rw [← hbr.cell (by exact hb4), ← hbr.cell (by exact hb4)] at c1
          rw [← hbw.cell (by exact hb3), ← hbw.cell (by exact hb3)] at c2
          obtain ⟨c10, c11⟩ := c1
          obtain ⟨c20, c21⟩ := c2
          have hb4r : b4_ < wr.heap.size := Nat.lt_of_lt_of_le hb4 hbr.size
          have hb3r : b3_ < wr.heap.size := Nat.lt_of_lt_of_le hb3 hbw.size
          have hle := HLE2.out j hjl
          generalize nthR hs j = R1 at *
          generalize nthR gv j = R2 at *
          have HLW := Lib.hid (show lessW ⟨R1.num, R1.den⟩ ⟨R2.num, R2.den⟩ = false from hle)
          clear hle
          go_wp2_with fail
          have d0x : Below wr.heap.size wr wr.drew := by (repeat (first | with_reducible assumption | with_reducible exact Below.refl _ _ | (with_reducible refine Below.setCell ?_ (by first | omega | (simp; omega) | (simp; done)) _) | (with_reducible refine Below.alloc ?_ (by first | omega | (simp; omega) | (simp; done)) _) | (with_reducible refine Below.drew ?_) | (with_reducible refine belowN ?_ _) | assumption | exact Below.refl _ _ | (refine Below.alloc ?_ (by first | omega | (simp; omega) | (simp; done)) _) | (refine Below.drew ?_) | (refine belowN ?_ _) | (refine Below.setCell ?_ (by first | omega | (simp; omega) | (simp; done)) _)))
          refine wp_region_noPanic (plain_any [0, 1, 2, 3, 4, 5, 6, 7] (Below wr.heap.size wr) mixed ?_)
          (refine any_take 0 ?_ (by rfl) (by kernel_rfl) (fun _ _ _ _ _ hx => hx.elim) (.inl ⟨by rfl, ?_⟩) (by with_reducible assumption) ?_; rotate_left; (intro X hX; obtain ⟨r1, r2⟩ := Below.rules hX; clear hX; go_simp; rfl); simp only [List.getElem_toArray, List.getElem_cons_succ, List.getElem_cons_zero, Act.put, List.setIfInBounds_toArray, List.set_cons_succ, List.set_cons_zero])
          (refine any_take 1 ?_ (by rfl) (by kernel_rfl) (fun _ _ _ _ _ hx => hx.elim) (.inl ⟨by rfl, ?_⟩) (by with_reducible assumption) ?_; rotate_left; (intro X hX; obtain ⟨r1, r2⟩ := Below.rules hX; clear hX; go_simp; rfl); simp only [List.getElem_toArray, List.getElem_cons_succ, List.getElem_cons_zero, Act.put, List.setIfInBounds_toArray, List.set_cons_succ, List.set_cons_zero])
          (refine any_take 2 ?_ (by rfl) (by kernel_rfl) (fun _ _ _ _ _ hx => hx.elim) (.inl ⟨by rfl, ?_⟩) (by with_reducible assumption) ?_; rotate_left; (intro X hX; obtain ⟨r1, r2⟩ := Below.rules hX; clear hX; go_simp; rfl); simp only [List.getElem_toArray, List.getElem_cons_succ, List.getElem_cons_zero, Act.put, List.setIfInBounds_toArray, List.set_cons_succ, List.set_cons_zero])
          (refine any_take 3 ?_ (by rfl) (by kernel_rfl) (fun _ _ _ _ _ hx => hx.elim) (.inl ⟨by rfl, ?_⟩) (by with_reducible assumption) ?_; rotate_left; (intro X hX; obtain ⟨r1, r2⟩ := Below.rules hX; clear hX; go_simp; rfl); simp only [List.getElem_toArray, List.getElem_cons_succ, List.getElem_cons_zero, Act.put, List.setIfInBounds_toArray, List.set_cons_succ, List.set_cons_zero])
          (refine any_take 4 ?_ (by rfl) (by kernel_rfl) (fun _ _ _ _ _ hx => hx.elim) (.inl ⟨by rfl, ?_⟩) (by with_reducible assumption) ?_; rotate_left; (intro X hX; obtain ⟨r1, r2⟩ := Below.rules hX; clear hX; go_simp; rfl); simp only [List.getElem_toArray, List.getElem_cons_succ, List.getElem_cons_zero, Act.put, List.setIfInBounds_toArray, List.set_cons_succ, List.set_cons_zero])
          (refine any_take 5 ?_ (by rfl) (by kernel_rfl) (fun _ _ _ _ _ hx => hx.elim) (.inl ⟨by rfl, ?_⟩) (by with_reducible assumption) ?_; rotate_left; (intro X hX; obtain ⟨r1, r2⟩ := Below.rules hX; clear hX; go_simp; rfl); simp only [List.getElem_toArray, List.getElem_cons_succ, List.getElem_cons_zero, Act.put, List.setIfInBounds_toArray, List.set_cons_succ, List.set_cons_zero])
          (refine any_take 6 ?_ (by rfl) (by kernel_rfl) (fun _ _ _ _ _ hx => hx.elim) (.inl ⟨by rfl, ?_⟩) (by with_reducible assumption) ?_; rotate_left; (intro X hX; obtain ⟨r1, r2⟩ := Below.rules hX; clear hX; go_simp; rfl); simp only [List.getElem_toArray, List.getElem_cons_succ, List.getElem_cons_zero, Act.put, List.setIfInBounds_toArray, List.set_cons_succ, List.set_cons_zero])
          (refine any_take 7 ?_ (by rfl) (by kernel_rfl) (fun _ _ _ _ _ hx => hx.elim) (.inl ⟨by rfl, ?_⟩) (by with_reducible assumption) ?_; rotate_left; (intro X hX; obtain ⟨r1, r2⟩ := Below.rules hX; clear hX; go_simp; rfl); simp only [List.getElem_toArray, List.getElem_cons_succ, List.getElem_cons_zero, Act.put, List.setIfInBounds_toArray, List.set_cons_succ, List.set_cons_zero])
          have dx1 : Below wr.heap.size wr wr.drew := by (repeat (first | with_reducible assumption | with_reducible exact Below.refl _ _ | (with_reducible refine Below.setCell ?_ (by first | omega | (simp; omega) | (simp; done)) _) | (with_reducible refine Below.alloc ?_ (by first | omega | (simp; omega) | (simp; done)) _) | (with_reducible refine Below.drew ?_) | (with_reducible refine belowN ?_ _) | assumption | exact Below.refl _ _ | (refine Below.alloc ?_ (by first | omega | (simp; omega) | (simp; done)) _) | (refine Below.drew ?_) | (refine belowN ?_ _) | (refine Below.setCell ?_ (by first | omega | (simp; omega) | (simp; done)) _)))
          generalize wr.drew = ux2 at *
          refine any_run1 (i := 8) (by kernel_rfl) (by rfl) (by kernel_rfl) ?_
          intro K hK
          have qx5 := dx1.size
          go_wp2_with fail
          refine (refLess_any R1.num R1.den R2.num R2.den _).mono ?_
          rintro e vx4 ⟨rfl, hb⟩
          rw [HLW.out]
          have hb2 : Below ux2.heap.size ux2 vx4 := by rw [← hb]; (repeat (first | with_reducible assumption | with_reducible exact Below.refl _ _ | (with_reducible refine Below.setCell ?_ (by first | omega | (simp; omega) | (simp; done)) _) | (with_reducible refine Below.alloc ?_ (by first | omega | (simp; omega) | (simp; done)) _) | (with_reducible refine Below.drew ?_) | (with_reducible refine belowN ?_ _) | assumption | exact Below.refl _ _ | (refine Below.alloc ?_ (by first | omega | (simp; omega) | (simp; done)) _) | (refine Below.drew ?_) | (refine belowN ?_ _) | (refine Below.setCell ?_ (by first | omega | (simp; omega) | (simp; done)) _)))
          clear hb
          have hb := hb2
          clear hb2
          have ex3 : Below wr.heap.size wr vx4 := dx1.trans (hb.mono dx1.size)
          clear hb
          refine hK _ _ (fun _ => ex3) ?_
          clear hK K
          refine any_done (by kernel_rfl) (NoPanic.normal ?_)
          go_wp2_with fail
          go_roundw
          case rel => exact ⟨j + 1, by omega, by go_num, hbr.trans (ex3.mono hbr.size)⟩
          case measure => simp [intOf]; omega
        · have hje : j = l.length := by omega
          go_wp2_with fail
          refine (works_any _).mono ?_
          rintro e wz ⟨rfl, hb⟩
          go_wp2_with fail
          go_ret
          exact ⟨rfl, hC.trans ((hbr.trans (hb.mono hbr.size)).mono hC.size)⟩
    · skip
      obtain ⟨hp, hq⟩ := HPQ.out
      have d0y : Below w6.heap.size w6 w6.drew := by (repeat (first | with_reducible assumption | with_reducible exact Below.refl _ _ | (with_reducible refine Below.setCell ?_ (by first | omega | (simp; omega) | (simp; done)) _) | (with_reducible refine Below.alloc ?_ (by first | omega | (simp; omega) | (simp; done)) _) | (with_reducible refine Below.drew ?_) | (with_reducible refine belowN ?_ _) | assumption | exact Below.refl _ _ | (refine Below.alloc ?_ (by first | omega | (simp; omega) | (simp; done)) _) | (refine Below.drew ?_) | (refine belowN ?_ _) | (refine Below.setCell ?_ (by first | omega | (simp; omega) | (simp; done)) _)))
      refine wp_region_noPanic (plain_any [0, 1, 2, 3, 4, 5, 6, 7, 8, 9, 10, 11, 12, 13, 14, 15, 16, 17] (Below w6.heap.size w6) mixed ?_)
      (refine any_take 0 ?_ (by rfl) (by kernel_rfl) (fun _ _ _ _ _ hx => hx.elim) (.inl ⟨by rfl, ?_⟩) (by with_reducible assumption) ?_; rotate_left; (intro X hX; obtain ⟨r1, r2⟩ := Below.rules hX; clear hX; go_simp; rfl); simp only [List.getElem_toArray, List.getElem_cons_succ, List.getElem_cons_zero, Act.put, List.setIfInBounds_toArray, List.set_cons_succ, List.set_cons_zero])
      (refine any_take 1 ?_ (by rfl) (by kernel_rfl) (fun _ _ _ _ _ hx => hx.elim) (.inl ⟨by rfl, ?_⟩) (by with_reducible assumption) ?_; rotate_left; (intro X hX; obtain ⟨r1, r2⟩ := Below.rules hX; clear hX; go_simp; rfl); simp only [List.getElem_toArray, List.getElem_cons_succ, List.getElem_cons_zero, Act.put, List.setIfInBounds_toArray, List.set_cons_succ, List.set_cons_zero])
      (refine any_take 2 ?_ (by rfl) (by kernel_rfl) (fun _ _ _ _ _ hx => hx.elim) (.inl ⟨by rfl, ?_⟩) (by with_reducible assumption) ?_; rotate_left; (intro X hX; obtain ⟨r1, r2⟩ := Below.rules hX; clear hX; go_simp; rfl); simp only [List.getElem_toArray, List.getElem_cons_succ, List.getElem_cons_zero, Act.put, List.setIfInBounds_toArray, List.set_cons_succ, List.set_cons_zero])
      (refine any_take 3 ?_ (by rfl) (by kernel_rfl) (fun _ _ _ _ _ hx => hx.elim) (.inl ⟨by rfl, ?_⟩) (by with_reducible assumption) ?_; rotate_left; (intro X hX; obtain ⟨r1, r2⟩ := Below.rules hX; clear hX; go_simp; rfl); simp only [List.getElem_toArray, List.getElem_cons_succ, List.getElem_cons_zero, Act.put, List.setIfInBounds_toArray, List.set_cons_succ, List.set_cons_zero])
      (refine any_take 4 ?_ (by rfl) (by kernel_rfl) (fun _ _ _ _ _ hx => hx.elim) (.inl ⟨by rfl, ?_⟩) (by with_reducible assumption) ?_; rotate_left; (intro X hX; obtain ⟨r1, r2⟩ := Below.rules hX; clear hX; go_simp; rfl); simp only [List.getElem_toArray, List.getElem_cons_succ, List.getElem_cons_zero, Act.put, List.setIfInBounds_toArray, List.set_cons_succ, List.set_cons_zero])
      (refine any_take 5 ?_ (by rfl) (by kernel_rfl) (fun _ _ _ _ _ hx => hx.elim) (.inl ⟨by rfl, ?_⟩) (by with_reducible assumption) ?_; rotate_left; (intro X hX; obtain ⟨r1, r2⟩ := Below.rules hX; clear hX; go_simp; rfl); simp only [List.getElem_toArray, List.getElem_cons_succ, List.getElem_cons_zero, Act.put, List.setIfInBounds_toArray, List.set_cons_succ, List.set_cons_zero])
      (refine any_take 6 ?_ (by rfl) (by kernel_rfl) (fun _ _ _ _ _ hx => hx.elim) (.inl ⟨by rfl, ?_⟩) (by with_reducible assumption) ?_; rotate_left; (intro X hX; obtain ⟨r1, r2⟩ := Below.rules hX; clear hX; go_simp; rfl); simp only [List.getElem_toArray, List.getElem_cons_succ, List.getElem_cons_zero, Act.put, List.setIfInBounds_toArray, List.set_cons_succ, List.set_cons_zero])
      (refine any_take 7 ?_ (by rfl) (by kernel_rfl) (fun _ _ _ _ _ hx => hx.elim) (.inl ⟨by rfl, ?_⟩) (by with_reducible assumption) ?_; rotate_left; (intro X hX; obtain ⟨r1, r2⟩ := Below.rules hX; clear hX; go_simp; rfl); simp only [List.getElem_toArray, List.getElem_cons_succ, List.getElem_cons_zero, Act.put, List.setIfInBounds_toArray, List.set_cons_succ, List.set_cons_zero])
      (refine any_take 8 ?_ (by rfl) (by kernel_rfl) (fun _ _ _ _ _ hx => hx.elim) (.inl ⟨by rfl, ?_⟩) (by with_reducible assumption) ?_; rotate_left; (intro X hX; obtain ⟨r1, r2⟩ := Below.rules hX; clear hX; go_simp; rfl); simp only [List.getElem_toArray, List.getElem_cons_succ, List.getElem_cons_zero, Act.put, List.setIfInBounds_toArray, List.set_cons_succ, List.set_cons_zero])
      (refine any_take 9 ?_ (by rfl) (by kernel_rfl) (fun _ _ _ _ _ hx => hx.elim) (.inl ⟨by rfl, ?_⟩) (by with_reducible assumption) ?_; rotate_left; (intro X hX; obtain ⟨r1, r2⟩ := Below.rules hX; clear hX; go_simp; rfl); simp only [List.getElem_toArray, List.getElem_cons_succ, List.getElem_cons_zero, Act.put, List.setIfInBounds_toArray, List.set_cons_succ, List.set_cons_zero])
      (refine any_take 10 ?_ (by rfl) (by kernel_rfl) (fun _ _ _ _ _ hx => hx.elim) (.inl ⟨by rfl, ?_⟩) (by with_reducible assumption) ?_; rotate_left; (intro X hX; obtain ⟨r1, r2⟩ := Below.rules hX; clear hX; go_simp; rfl); simp only [List.getElem_toArray, List.getElem_cons_succ, List.getElem_cons_zero, Act.put, List.setIfInBounds_toArray, List.set_cons_succ, List.set_cons_zero])
      (refine any_take 11 ?_ (by rfl) (by kernel_rfl) (fun _ _ _ _ _ hx => hx.elim) (.inl ⟨by rfl, ?_⟩) (by with_reducible assumption) ?_; rotate_left; (intro X hX; obtain ⟨r1, r2⟩ := Below.rules hX; clear hX; go_simp; rfl); simp only [List.getElem_toArray, List.getElem_cons_succ, List.getElem_cons_zero, Act.put, List.setIfInBounds_toArray, List.set_cons_succ, List.set_cons_zero])
      (refine any_take 12 ?_ (by rfl) (by kernel_rfl) (fun _ _ _ _ _ hx => hx.elim) (.inl ⟨by rfl, ?_⟩) (by with_reducible assumption) ?_; rotate_left; (intro X hX; obtain ⟨r1, r2⟩ := Below.rules hX; clear hX; go_simp; rfl); simp only [List.getElem_toArray, List.getElem_cons_succ, List.getElem_cons_zero, Act.put, List.setIfInBounds_toArray, List.set_cons_succ, List.set_cons_zero])
      (refine any_take 13 ?_ (by rfl) (by kernel_rfl) (fun _ _ _ _ _ hx => hx.elim) (.inl ⟨by rfl, ?_⟩) (by with_reducible assumption) ?_; rotate_left; (intro X hX; obtain ⟨r1, r2⟩ := Below.rules hX; clear hX; go_simp; rfl); simp only [List.getElem_toArray, List.getElem_cons_succ, List.getElem_cons_zero, Act.put, List.setIfInBounds_toArray, List.set_cons_succ, List.set_cons_zero])
      (refine any_take 14 ?_ (by rfl) (by kernel_rfl) (fun _ _ _ _ _ hx => hx.elim) (.inl ⟨by rfl, ?_⟩) (by with_reducible assumption) ?_; rotate_left; (intro X hX; obtain ⟨r1, r2⟩ := Below.rules hX; clear hX; go_simp; rfl); simp only [List.getElem_toArray, List.getElem_cons_succ, List.getElem_cons_zero, Act.put, List.setIfInBounds_toArray, List.set_cons_succ, List.set_cons_zero])
      (refine any_take 15 ?_ (by rfl) (by kernel_rfl) (fun _ _ _ _ _ hx => hx.elim) (.inl ⟨by rfl, ?_⟩) (by with_reducible assumption) ?_; rotate_left; (intro X hX; obtain ⟨r1, r2⟩ := Below.rules hX; clear hX; go_simp; rfl); simp only [List.getElem_toArray, List.getElem_cons_succ, List.getElem_cons_zero, Act.put, List.setIfInBounds_toArray, List.set_cons_succ, List.set_cons_zero])
      (refine any_take 16 ?_ (by rfl) (by kernel_rfl) (fun _ _ _ _ _ hx => hx.elim) (.inl ⟨by rfl, ?_⟩) (by with_reducible assumption) ?_; rotate_left; (intro X hX; obtain ⟨r1, r2⟩ := Below.rules hX; clear hX; go_simp; rfl); simp only [List.getElem_toArray, List.getElem_cons_succ, List.getElem_cons_zero, Act.put, List.setIfInBounds_toArray, List.set_cons_succ, List.set_cons_zero])
      (refine any_take 17 ?_ (by rfl) (by kernel_rfl) (fun _ _ _ _ _ hx => hx.elim) (.inl ⟨by rfl, ?_⟩) (by with_reducible assumption) ?_; rotate_left; (intro X hX; obtain ⟨r1, r2⟩ := Below.rules hX; clear hX; go_simp; rfl); simp only [List.getElem_toArray, List.getElem_cons_succ, List.getElem_cons_zero, Act.put, List.setIfInBounds_toArray, List.set_cons_succ, List.set_cons_zero])
      have dy1 : Below w6.heap.size w6 w6.drew := by (repeat (first | with_reducible assumption | with_reducible exact Below.refl _ _ | (with_reducible refine Below.setCell ?_ (by first | omega | (simp; omega) | (simp; done)) _) | (with_reducible refine Below.alloc ?_ (by first | omega | (simp; omega) | (simp; done)) _) | (with_reducible refine Below.drew ?_) | (with_reducible refine belowN ?_ _) | assumption | exact Below.refl _ _ | (refine Below.alloc ?_ (by first | omega | (simp; omega) | (simp; done)) _) | (refine Below.drew ?_) | (refine belowN ?_ _) | (refine Below.setCell ?_ (by first | omega | (simp; omega) | (simp; done)) _)))
      generalize w6.drew = uy2 at *
      refine any_run1 (i := 18) (by kernel_rfl) (by rfl) (by kernel_rfl) ?_
      intro K hK
      go_wp2_with fail
      refine hK _ _ (fun _ => dy1) ?_
      clear hK K
      refine any_run1 (i := 19) (by kernel_rfl) (by rfl) (by kernel_rfl) ?_
      intro K hK
      go_wp2_with fail
      refine hK _ _ (fun _ => dy1) ?_
      clear hK K
      refine any_run1 (i := 20) (by kernel_rfl) (by rfl) (by kernel_rfl) ?_
      intro K hK
      go_wp2_with fail
      refine hK _ _ (fun _ => dy1) ?_
      clear hK K
      refine any_done (by kernel_rfl) (NoPanic.normal ?_)
      go_wp2_with fail
      refine (HIW3.out uy2 (hC.trans (dy1.mono hC.size)) (by trivial) (by trivial)).mono ?_
      rintro e wi ⟨rfl, hbi⟩
      have hBi := dy1.trans (hbi.mono dy1.size)
      clear hbi
      go_wp2_with fail
      refine (HGR.out wi (hC.trans (hBi.mono hC.size))).mono ?_
      rintro e wg ⟨rfl, hbg⟩
      have hBg := hBi.trans (hbg.mono hBi.size)
      clear hbg
      go_wp2_with fail
      go_loopw [19] (fun iv wr => ∃ j : Nat, j ≤ l.length ∧ iv = .int .i64 j ∧ Below w6.heap.size w6 wr) (fun i _ => l.length - (intOf i).toNat)
      case atStart => exact ⟨0, Nat.zero_le _, rfl, hBg⟩
      case round =>
        obtain ⟨j, hj, rfl, hbr⟩ := hrel
        by_cases hjl : j < l.length
        · have hjg : j < gv.length := by rw [hgl.out]; exact hjl
          have c1 := HCH.out j hjl
          have c2 := HCG.out j hjg
          have hbw : Below w.heap.size w wr := hC.trans (hbr.mono hC.size)
          rw [← hbr.cell (by exact hb4), ← hbr.cell (by exact hb4)] at c1
          rw [← hbw.cell (by exact hb3), ← hbw.cell (by exact hb3)] at c2
          obtain ⟨c10, c11⟩ := c1
          obtain ⟨c20, c21⟩ := c2
          have hb4r : b4_ < wr.heap.size := Nat.lt_of_lt_of_le hb4 hbr.size
          have hb3r : b3_ < wr.heap.size := Nat.lt_of_lt_of_le hb3 hbw.size
          have hle := HLE2.out j hjl
          generalize nthR hs j = R1 at *
          generalize nthR gv j = R2 at *
          have HLW := Lib.hid (show lessW ⟨R1.num, R1.den⟩ ⟨R2.num, R2.den⟩ = false from hle)
          clear hle
          go_wp2_with fail
          have d0x : Below wr.heap.size wr wr.drew := by (repeat (first | with_reducible assumption | with_reducible exact Below.refl _ _ | (with_reducible refine Below.setCell ?_ (by first | omega | (simp; omega) | (simp; done)) _) | (with_reducible refine Below.alloc ?_ (by first | omega | (simp; omega) | (simp; done)) _) | (with_reducible refine Below.drew ?_) | (with_reducible refine belowN ?_ _) | assumption | exact Below.refl _ _ | (refine Below.alloc ?_ (by first | omega | (simp; omega) | (simp; done)) _) | (refine Below.drew ?_) | (refine belowN ?_ _) | (refine Below.setCell ?_ (by first | omega | (simp; omega) | (simp; done)) _)))
          refine wp_region_noPanic (plain_any [0, 1, 2, 3, 4, 5, 6, 7] (Below wr.heap.size wr) mixed ?_)
          (refine any_take 0 ?_ (by rfl) (by kernel_rfl) (fun _ _ _ _ _ hx => hx.elim) (.inl ⟨by rfl, ?_⟩) (by with_reducible assumption) ?_; rotate_left; (intro X hX; obtain ⟨r1, r2⟩ := Below.rules hX; clear hX; go_simp; rfl); simp only [List.getElem_toArray, List.getElem_cons_succ, List.getElem_cons_zero, Act.put, List.setIfInBounds_toArray, List.set_cons_succ, List.set_cons_zero])
          (refine any_take 1 ?_ (by rfl) (by kernel_rfl) (fun _ _ _ _ _ hx => hx.elim) (.inl ⟨by rfl, ?_⟩) (by with_reducible assumption) ?_; rotate_left; (intro X hX; obtain ⟨r1, r2⟩ := Below.rules hX; clear hX; go_simp; rfl); simp only [List.getElem_toArray, List.getElem_cons_succ, List.getElem_cons_zero, Act.put, List.setIfInBounds_toArray, List.set_cons_succ, List.set_cons_zero])
          (refine any_take 2 ?_ (by rfl) (by kernel_rfl) (fun _ _ _ _ _ hx => hx.elim) (.inl ⟨by rfl, ?_⟩) (by with_reducible assumption) ?_; rotate_left; (intro X hX; obtain ⟨r1, r2⟩ := Below.rules hX; clear hX; go_simp; rfl); simp only [List.getElem_toArray, List.getElem_cons_succ, List.getElem_cons_zero, Act.put, List.setIfInBounds_toArray, List.set_cons_succ, List.set_cons_zero])
          (refine any_take 3 ?_ (by rfl) (by kernel_rfl) (fun _ _ _ _ _ hx => hx.elim) (.inl ⟨by rfl, ?_⟩) (by with_reducible assumption) ?_; rotate_left; (intro X hX; obtain ⟨r1, r2⟩ := Below.rules hX; clear hX; go_simp; rfl); simp only [List.getElem_toArray, List.getElem_cons_succ, List.getElem_cons_zero, Act.put, List.setIfInBounds_toArray, List.set_cons_succ, List.set_cons_zero])
          (refine any_take 4 ?_ (by rfl) (by kernel_rfl) (fun _ _ _ _ _ hx => hx.elim) (.inl ⟨by rfl, ?_⟩) (by with_reducible assumption) ?_; rotate_left; (intro X hX; obtain ⟨r1, r2⟩ := Below.rules hX; clear hX; go_simp; rfl); simp only [List.getElem_toArray, List.getElem_cons_succ, List.getElem_cons_zero, Act.put, List.setIfInBounds_toArray, List.set_cons_succ, List.set_cons_zero])
          (refine any_take 5 ?_ (by rfl) (by kernel_rfl) (fun _ _ _ _ _ hx => hx.elim) (.inl ⟨by rfl, ?_⟩) (by with_reducible assumption) ?_; rotate_left; (intro X hX; obtain ⟨r1, r2⟩ := Below.rules hX; clear hX; go_simp; rfl); simp only [List.getElem_toArray, List.getElem_cons_succ, List.getElem_cons_zero, Act.put, List.setIfInBounds_toArray, List.set_cons_succ, List.set_cons_zero])
          (refine any_take 6 ?_ (by rfl) (by kernel_rfl) (fun _ _ _ _ _ hx => hx.elim) (.inl ⟨by rfl, ?_⟩) (by with_reducible assumption) ?_; rotate_left; (intro X hX; obtain ⟨r1, r2⟩ := Below.rules hX; clear hX; go_simp; rfl); simp only [List.getElem_toArray, List.getElem_cons_succ, List.getElem_cons_zero, Act.put, List.setIfInBounds_toArray, List.set_cons_succ, List.set_cons_zero])
          (refine any_take 7 ?_ (by rfl) (by kernel_rfl) (fun _ _ _ _ _ hx => hx.elim) (.inl ⟨by rfl, ?_⟩) (by with_reducible assumption) ?_; rotate_left; (intro X hX; obtain ⟨r1, r2⟩ := Below.rules hX; clear hX; go_simp; rfl); simp only [List.getElem_toArray, List.getElem_cons_succ, List.getElem_cons_zero, Act.put, List.setIfInBounds_toArray, List.set_cons_succ, List.set_cons_zero])
          have dx1 : Below wr.heap.size wr wr.drew := by (repeat (first | with_reducible assumption | with_reducible exact Below.refl _ _ | (with_reducible refine Below.setCell ?_ (by first | omega | (simp; omega) | (simp; done)) _) | (with_reducible refine Below.alloc ?_ (by first | omega | (simp; omega) | (simp; done)) _) | (with_reducible refine Below.drew ?_) | (with_reducible refine belowN ?_ _) | assumption | exact Below.refl _ _ | (refine Below.alloc ?_ (by first | omega | (simp; omega) | (simp; done)) _) | (refine Below.drew ?_) | (refine belowN ?_ _) | (refine Below.setCell ?_ (by first | omega | (simp; omega) | (simp; done)) _)))
          generalize wr.drew = ux2 at *
          refine any_run1 (i := 8) (by kernel_rfl) (by rfl) (by kernel_rfl) ?_
          intro K hK
          have qx5 := dx1.size
          go_wp2_with fail
          refine (refLess_any R1.num R1.den R2.num R2.den _).mono ?_
          rintro e vx4 ⟨rfl, hb⟩
          rw [HLW.out]
          have hb2 : Below ux2.heap.size ux2 vx4 := by rw [← hb]; (repeat (first | with_reducible assumption | with_reducible exact Below.refl _ _ | (with_reducible refine Below.setCell ?_ (by first | omega | (simp; omega) | (simp; done)) _) | (with_reducible refine Below.alloc ?_ (by first | omega | (simp; omega) | (simp; done)) _) | (with_reducible refine Below.drew ?_) | (with_reducible refine belowN ?_ _) | assumption | exact Below.refl _ _ | (refine Below.alloc ?_ (by first | omega | (simp; omega) | (simp; done)) _) | (refine Below.drew ?_) | (refine belowN ?_ _) | (refine Below.setCell ?_ (by first | omega | (simp; omega) | (simp; done)) _)))
          clear hb
          have hb := hb2
          clear hb2
          have ex3 : Below wr.heap.size wr vx4 := dx1.trans (hb.mono dx1.size)
          clear hb
          refine hK _ _ (fun _ => ex3) ?_
          clear hK K
          refine any_done (by kernel_rfl) (NoPanic.normal ?_)
          go_wp2_with fail
          go_roundw
          case rel => exact ⟨j + 1, by omega, by go_num, hbr.trans (ex3.mono hbr.size)⟩
          case measure => simp [intOf]; omega
        · have hje : j = l.length := by omega
          go_wp2_with fail
          refine (works_any _).mono ?_
          rintro e wz ⟨rfl, hb⟩
          go_wp2_with fail
          go_ret
          exact ⟨rfl, hC.trans ((hbr.trans (hb.mono hbr.size)).mono hC.size)⟩
theorem either_row (l : List St) (vl : Value) {w : World} (h : RSt w w.heap.size vl l) (_ : l.length ≤ maxLen) (u : List Int) (vu : Value) (h' : RU w w.heap.size vu u) (hub : ∀ k, k < u.length → 0 ≤ nthI u k ∧ nthI u k ≤ 65535) (_ : u.length ≤ maxLen)
    (gv : List Ra) (vg : Value) (h'' : RRa w w.heap.size vg gv) (_ : ∀ x ∈ gv, okI x.num ∧ okI x.den) (_ : gv.length ≤ maxLen) (x y z : Nat) (hx : x ≤ 255 ∧ y ≤ 255 ∧ z ≤ 255) (W : World) (hw : W = w := by rfl) :
    Calls Try.prog 6 #[vl, vu, vg, .agg #[.int .u8 x, .int .u8 y, .int .u8 z]] W fun e w' => e = .returned (.bool true) ∧ Below W.heap.size W w' := by
  subst hw
  by_cases hl : fineB l = false ∨ 40 < u.length ∨ 40 < gv.length
  · exact either_no l u gv x y z vl vu vg _ hl h h' h''
  · have hv : checkPair l = 0 := by
      refine Classical.byContradiction fun hc => hl (.inl ?_)
      unfold fineB; exact decide_eq_false hc
    cases hw : wedgeF l with
    | some q =>
      obtain ⟨i, k, m⟩ := q
      exact either_w l u gv x y z vl vu vg _ hv (by omega) (by omega) hub h h' h'' i k m hw
    | none => exact either_n l u gv x y z vl vu vg _ hv (by omega) (by omega) hx.1 hx.2.1 hx.2.2 h h' h'' hw
end Go.Proofs.Ytbjmkmambmeifaa

namespace Go.Proofs.Ytbjmkmambmeifaa.crossEither
open Go.ChangeShapes Go.WideShapes Go.ChangeAt Go.RowKit Go.Deep

set_option maxRecDepth 100000 in
theorem lifted (os : Os) (started : os.Started) (H : Type) (enc : TypeId × Value → H) :
    ReturnsInHanded {} Try.checked os 6 .any (Rows.crossEitherSpec.pre6 enc Try.prog Try.f6 Rows.crossEitherRow.domain false) (Rows.crossEitherSpec.post enc Try.prog Try.f6 false true false false) := by
  refine returnsInHanded_of_change (C := Try.checked) own started (by kernel_rfl) Try.func6
    (ChangeSpec.witness6 (enc := enc) (C := Try.checked) false ⟨#[], #[.slice none 0 0, .slice none 0 0, .slice none 0 0, .agg #[.int .u8 0, .int .u8 0, .int .u8 0]], []⟩ 8 (by kernel_rfl) (by kernel_rfl) (by kernel_rfl) (by kernel_rfl)) ?_
  intro W base args ds gs before hval0 hW hcnd _
  have hval : ∀ (j : Nat) t v, Try.f6.params[j]? = some t → args[j]? = some v → Value.okWide Try.prog W .any base t v := hval0
  have hW2 : DataW.Whole enc Try.prog Try.f6.params.toList Rows.crossEitherSpec.vars false W args.toList ds gs before := hW
  obtain ⟨p, q, hA0, hV, rfl, hfz, hnd⟩ := hW
  have hA : DataW.TrodAll enc Try.prog W 0 (fun _ => true) true Try.f6.params.toList args.toList ds p := hA0
  rw [Try.params6] at hA hval
  obtain ⟨v0, vs0, d0, ds0, p0, q0, hargs, rfl, rfl, h0, r0⟩ := trodAll_cons hA
  obtain ⟨v1, vs1, d1, ds1, p1, q1, rfl, rfl, rfl, h1, r1⟩ := trodAll_cons r0
  obtain ⟨v2, vs2, d2, ds2, p2, q2, rfl, rfl, rfl, h2, r2⟩ := trodAll_cons r1
  obtain ⟨v3, vs3, d3, ds3, p3, q3, rfl, rfl, rfl, h3, r3⟩ := trodAll_cons r2
  obtain ⟨rfl, rfl, rfl⟩ := trodAll_nil r3
  obtain rfl : args = #[v0, v1, v2, v3] := by cases args; simp_all
  obtain ⟨rfl, rfl⟩ := trodVars_none hV
  obtain ⟨l0, g0, m0⟩ := open_sts (hval 0 22 v0 rfl rfl) h0
  obtain ⟨l1, g1, k1, m1⟩ := open_u16s (hval 1 50 v1 rfl rfl) h1
  obtain ⟨l2, g2, k2, m2⟩ := open_ras (hval 2 26 v2 rfl rfl) h2
  obtain ⟨x3, y3, z3, rfl, g3⟩ := open_a3 (hval 3 51 v3 rfl rfl) h3
  refine (either_row l0 v0 g0 m0 l1 v1 g1 k1 m1 l2 v2 g2 k2 m2 x3 y3 z3 g3 W).mono fun e W' ⟨he, hg⟩ => ?_
  subst he
  exact ⟨_, rfl, law_done hW2 rfl rfl rfl (by rw [Try.params6]; decide +kernel) hg⟩

theorem over : Rows.crossEitherRow.holds Try.pinned (OpenSpec.ofChange Rows.crossEitherSpec) :=
  OpenClaim.holds_of_wide 6 Try.f6 rfl rfl rfl rfl rfl rfl rfl ⟨rfl, rfl, rfl, rfl, rfl⟩ rfl rfl rfl rfl rfl (by kernel_rfl) Try.func6 (by kernel_rfl)
    (of_decide_eq_true (by kernel_rfl)) (by unfold Func.isWrapper; first | (rw [if_pos (by decide +kernel)]; kernel_rfl) | (rw [if_neg (by decide +kernel)]; exact ⟨rfl, rfl⟩))
    (fun os started H enc _ => lifted os started H enc)

theorem proved : Rows.CrossEitherSaid :=
  over
end Go.Proofs.Ytbjmkmambmeifaa.crossEither
namespace Go.Proofs.Ytbjmkmambmeifaa
theorem crossEither_proved : Rows.CrossEitherSaid := crossEither.proved
#print axioms crossEither_proved
end Go.Proofs.Ytbjmkmambmeifaa
