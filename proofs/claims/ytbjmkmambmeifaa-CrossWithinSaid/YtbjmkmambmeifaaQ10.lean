/- Plain laws: what the kind of a station says. Plain laws: the hull has a line at each station that is under all heights; so the heights that it gives meet everywhere. Plain laws: either there is a wedge, or there are heights that meet everywhere, and the greatest ones. Plain laws: at which tilts blades touch. Plain laws: with lower heights of the others, or a higher own one, spans become narrower and more is ground. Plain laws: where blades meet everywhere, spans follow one another. Plain laws: a pair of which one High is narrower. What the laws of valid pairs have in common: fine, a truth by numbers, the spans of valid pairs. Arguments that are arrays of small numbers. For CrossWithin: a copy of a pair, and one High of it changed. CrossWithin: the walk. CrossWithin answers true for every input: spans of a truth lie in those of Can and hold those of Sure, and with a narrower High no span of Can and of Ground becomes wider, none of Sure narrower. No condition. -/
import Derived.Test.YtbjmkmambmeifaaP16
import Derived.Test.YtbjmkmambmeifaaP3
import Derived.Test.YtbjmkmambmeifaaP23
import Derived.Test.YtbjmkmambmeifaaP19
import Derived.Test.YtbjmkmambmeifaaP24
import Derived.Test.YtbjmkmambmeifaaP10
import Derived.Test.YtbjmkmambmeifaaP2
import Derived.Test.YtbjmkmambmeifaaRows
set_option linter.all false
set_option linter.unnecessarySimpa false
set_option linter.unusedSimpArgs false
set_option linter.unusedVariables false
set_option linter.unusedSectionVars false

namespace Go.Proofs.Ytbjmkmambmeifaa
open Go.RowKit
namespace Ma

theorem ln_mono {l : List St} {hs hs' : List Int} (hg : Gd l) (hle : ∀ i, i < l.length → Y hs i ≤ Y hs' i) {i s k : Nat} (h1 : i < s) (h2 : s < k) (h3 : k < l.length) : ln l hs i s k ≤ ln l hs' i s k := by
  rw [le_ln hg (by omega) h3, ln_mul hg (by omega) h3]
  have y1 := hg.X h1 (by omega); have y2 := hg.X h2 h3
  have d1 := Rat.mul_le_mul_of_nonneg_right (hle i (by omega)) (show 0 ≤ X l k - X l s by grind)
  have d2 := Rat.mul_le_mul_of_nonneg_right (hle k h3) (show 0 ≤ X l s - X l i by grind)
  grind
theorem spanE_iff {l : List St} {hs : List Int} {s : Nat} {own : Int} (hg : Gd l) (hh : Hb l hs) (hs1 : s < l.length) (ho : -1000 ≤ own ∧ own ≤ 1000) : spanE l hs s own = 0 ↔ ∀ i k, i < s → s < k → k < l.length → (own : Rat) ≤ ln l hs i s k := by
  rw [← meets_span hg hh hs1 ho, meets_iff hg hh hs1 ho]
theorem spanE_two (l : List St) (hs : List Int) (s : Nat) (own : Int) : spanE l hs s own = 0 ∨ spanE l hs s own = 22 := by
  unfold spanE; split <;> simp
theorem over_sign {l : List St} {hs : List Int} {s : Nat} {own : Int} (hg : Gd l) (hh : Hb l hs) (hs1 : s < l.length) (ho : -1000 ≤ own ∧ own ≤ 1000) : 0 ≤ (overR l hs s own).num ∧ ((overR l hs s own).num ≤ 0 ↔ spanE l hs s own = 0) := by
  obtain ⟨a1, a2⟩ := over_spec hg hh hs1 ho
  have z : V ⟨0, 1⟩ = 0 := by rw [V_one]; rfl
  have p0 : (0 : Rat) ≤ V (overR l hs s own) := ((a2 _).1 Rat.le_refl).1
  constructor
  · rw [← z, V_le Int.one_pos a1.den] at p0
    simpa using p0
  · have e : (overR l hs s own).num ≤ 0 ↔ V (overR l hs s own) ≤ 0 := by
      rw [← z, V_le a1.den Int.one_pos]; simp
    rw [e, a2, spanE_iff hg hh hs1 ho]
    constructor
    · rintro ⟨_, h⟩ i k b c d
      have := h i k b c d; grind
    · intro h
      refine ⟨Rat.le_refl, fun i k b c d => ?_⟩
      have := h i k b c d; grind
/-- A truth: between the ends. -/
theorem truth_le {l : List St} {t : List Int} (h : checkTruth l t = 0) {i : Nat} (hi : i < l.length) : (nthS l i).lo ≤ nthI t i ∧ nthI t i ≤ (nthS l i).hi := by
  unfold checkTruth at h
  by_cases h1 : checkPair l ≠ 0
  · rw [if_pos h1] at h; exact absurd h h1
  · rw [if_neg h1] at h
    by_cases h2 : t.length ≠ l.length
    · rw [if_pos h2] at h; exact absurd h (by decide)
    · rw [if_neg h2] at h
      by_cases h3 : ∀ k, k < l.length → inSt l t k = true
      · have := h3 i hi
        simpa [inSt, inB] using this
      · rw [if_neg h3] at h; exact absurd h (by decide)
theorem truth_pair {l : List St} {t : List Int} (h : checkTruth l t = 0) : checkPair l = 0 ∧ t.length = l.length := by
  unfold checkTruth at h
  by_cases h1 : checkPair l ≠ 0
  · rw [if_pos h1] at h; exact absurd h h1
  · rw [if_neg h1] at h
    by_cases h2 : t.length ≠ l.length
    · rw [if_pos h2] at h; exact absurd h (by decide)
    · omega
theorem truth_hb {l : List St} {t : List Int} (h : checkTruth l t = 0) : Hb l t := fun i hi => by
  have h1 := truth_le h hi; have h2 := valid_at l (truth_pair h).1 i hi; omega
theorem truth_lo {l : List St} {t : List Int} (h : checkTruth l t = 0) {i : Nat} (hi : i < l.length) : Y (ends l false) i ≤ Y t i := by
  unfold Y; rw [ends_lo l hi]; exact Rat.intCast_le_intCast.2 (truth_le h hi).1
theorem truth_hi {l : List St} {t : List Int} (h : checkTruth l t = 0) {i : Nat} (hi : i < l.length) : Y t i ≤ Y (ends l true) i := by
  unfold Y; rw [ends_hi l hi]; exact Rat.intCast_le_intCast.2 (truth_le h hi).2

/-- Whether a station is the second one of a wedge. -/
def wedAt (l : List St) (s : Nat) : Bool := (List.range s).any fun i => (List.range l.length).any fun m => decide (s < m) && isWedgeB l i s m
theorem wedAt_iff {l : List St} {s : Nat} : wedAt l s = true ↔ ∃ i m, i < s ∧ s < m ∧ m < l.length ∧ isWedgeB l i s m = true := by
  unfold wedAt
  simp only [List.any_eq_true, List.mem_range, Bool.and_eq_true, decide_eq_true_eq]
  constructor
  · rintro ⟨i, hi, m, hm, hsm, hw⟩; exact ⟨i, m, hi, hsm, hm, hw⟩
  · rintro ⟨i, m, hi, hsm, hm, hw⟩; exact ⟨i, hi, m, hm, hsm, hw⟩

theorem kinds_law {l : List St} {t : List Int} {s : Nat} (h : checkTruth l t = 0) (hs : s < l.length) :
    (kindP l s = 0 ∧ spanE l (ends l true) s (nthS l s).lo = 22 ∧ spanE l (ends l false) s (nthS l s).hi = 22 ∧ spanE l t s (nthI t s) = 22 ∧ wedAt l s = true ∧ 0 < (overR l (ends l true) s (nthS l s).lo).num ∧ 0 < (overR l (ends l false) s (nthS l s).hi).num) ∨
    (kindP l s = 2 ∧ spanE l (ends l true) s (nthS l s).lo = 0 ∧ spanE l (ends l false) s (nthS l s).hi = 0 ∧ spanE l t s (nthI t s) = 0 ∧ wedAt l s = false ∧ (overR l (ends l true) s (nthS l s).lo).num = 0 ∧ (overR l (ends l false) s (nthS l s).hi).num = 0) ∨
    (kindP l s = 1 ∧ spanE l (ends l true) s (nthS l s).lo = 0 ∧ spanE l (ends l false) s (nthS l s).hi = 22 ∧ (spanE l t s (nthI t s) = 0 ∨ spanE l t s (nthI t s) = 22) ∧ wedAt l s = false ∧ (overR l (ends l true) s (nthS l s).lo).num = 0 ∧ 0 < (overR l (ends l false) s (nthS l s).hi).num) := by
  have hv := (truth_pair h).1
  have g := gd l hv
  have ht := truth_le h hs
  have h2 := valid_at l hv s hs
  have i1 := spanE_iff g (hb l true hv) hs (lo_rng l hv hs)
  have i2 := spanE_iff g (hb l false hv) hs (hi_rng l hv hs)
  have i4 := spanE_iff g (truth_hb h) hs (own := nthI t s) (by omega)
  have o1 := over_sign g (hb l true hv) hs (lo_rng l hv hs)
  have o2 := over_sign g (hb l false hv) hs (hi_rng l hv hs)
  have tl := Rat.intCast_le_intCast.2 ht.1
  have th := Rat.intCast_le_intCast.2 ht.2
  have s24 : spanE l (ends l false) s (nthS l s).hi = 0 → spanE l t s (nthI t s) = 0 := by
    rw [i2, i4]
    intro hA i k a b c
    have := hA i k a b c
    have m := ln_mono g (fun j hj => truth_lo h hj) a b c
    exact Rat.le_trans th (Rat.le_trans this m)
  have s41 : spanE l t s (nthI t s) = 0 → spanE l (ends l true) s (nthS l s).lo = 0 := by
    rw [i1, i4]
    intro hA i k a b c
    have := hA i k a b c
    have m := ln_mono g (fun j hj => truth_hi h hj) a b c
    exact Rat.le_trans tl (Rat.le_trans this m)
  have w1 : wedAt l s = false ↔ spanE l (ends l true) s (nthS l s).lo = 0 := by
    rw [← Bool.not_eq_true, wedAt_iff, i1]
    constructor
    · intro hn i k a b c
      rw [← Rat.not_lt, ← wedge_iff l hv a b c]
      exact fun hw => hn ⟨i, k, a, b, c, hw⟩
    · rintro hA ⟨i, k, a, b, c, hw⟩
      rw [wedge_iff l hv a b c] at hw
      have := hA i k a b c
      grind
  rw [kind_eq l hv s hs]
  unfold kindR
  rcases spanE_two l (ends l true) s (nthS l s).lo with e1 | e1
  · rcases spanE_two l (ends l false) s (nthS l s).hi with e2 | e2
    · refine .inr (.inl ⟨?_, e1, e2, s24 e2, w1.2 e1, ?_, ?_⟩)
      · rw [if_neg (fun hx => hx e1), if_neg (fun hx => hx e2)]
      · have := o1.2.2 e1; omega
      · have := o2.2.2 e2; omega
    · refine .inr (.inr ⟨?_, e1, e2, spanE_two .., w1.2 e1, ?_, ?_⟩)
      · rw [if_neg (fun hx => hx e1), if_pos (by omega)]
      · have := o1.2.2 e1; omega
      · have : ¬ (overR l (ends l false) s (nthS l s).hi).num ≤ 0 := fun hx => by have := o2.2.1 hx; omega
        omega
  · have n1 : spanE l (ends l true) s (nthS l s).lo ≠ 0 := by omega
    have e4 : spanE l t s (nthI t s) = 22 := by
      rcases spanE_two l t s (nthI t s) with e | e
      · exact absurd (s41 e) n1
      · exact e
    have e2 : spanE l (ends l false) s (nthS l s).hi = 22 := by
      rcases spanE_two l (ends l false) s (nthS l s).hi with e | e
      · have := s24 e; omega
      · exact e
    refine .inl ⟨?_, e1, e2, e4, ?_, ?_, ?_⟩
    · rw [if_pos n1]
    · cases hw : wedAt l s with
      | true => rfl
      | false => exact absurd (w1.1 hw) n1
    · have : ¬ (overR l (ends l true) s (nthS l s).lo).num ≤ 0 := fun hx => n1 (o1.2.1 hx)
      omega
    · have : ¬ (overR l (ends l false) s (nthS l s).hi).num ≤ 0 := fun hx => by have := o2.2.1 hx; omega
      omega
end Ma
end Go.Proofs.Ytbjmkmambmeifaa

namespace Go.Proofs.Ytbjmkmambmeifaa
open Go.RowKit
namespace Ma

theorem hull_sup {l : List St} {hs : List Int} (hg : Gd l) (hh : Hb l hs) {i : Nat} (hi : i < l.length) :
    ∃ al mu : Rat, (∀ v, v < l.length → al + mu * X l v ≤ Y hs v) ∧ V (heightR l hs (hullR l hs l.length).reverse (nthS l i).a) = al + mu * X l i := by
  obtain ⟨m, hm⟩ : ∃ m, l.length = m + 1 := ⟨l.length - 1, by omega⟩
  have hcv := hullR_cv (hs := hs) hg m (by omega)
  rw [← hm] at hcv
  obtain ⟨c1, c2, c3, c4, c5⟩ := cv_list hg _ hcv.1 (by rw [hcv.2]; simp; omega)
  rw [hcv.2] at c3
  have hlen : (hullR l hs l.length).reverse.length = (hullR l hs l.length).length := by simp
  generalize (hullR l hs l.length).reverse = L at *
  generalize (hullR l hs l.length).length = N at *
  have c3' : nm L (N - 1) = m := by simpa using c3
  clear hcv c3
  -- vertices rise
  have hmono : ∀ a b, a ≤ b → b < N → nm L a ≤ nm L b := by
    intro a b
    induction b with
    | zero => intro h _; obtain rfl : a = 0 := by omega
              exact Nat.le_refl _
    | succ b ih =>
      intro h1 h2
      rcases Nat.lt_or_ge b a with h | h
      · obtain rfl : a = b + 1 := by omega
        exact Nat.le_refl _
      · have := ih h (by omega); have := (c4 b h2).1; omega
  have hlt : ∀ j, j < N → nm L j < l.length := fun j hj => by have := hmono j (N - 1) (by omega) (by omega); omega
  have hx : ∀ e, e + 1 < N → X l (nm L e) < X l (nm L (e + 1)) := fun e he => hg.X (c4 e he).1 (hlt _ he)
  have hsup : ∀ e v, e + 1 < N → v < l.length → Y hs (nm L e) + slp (fun j => Y hs (nm L j)) (fun j => X l (nm L j)) e * (X l v - X l (nm L e)) ≤ Y hs v := by
    intro e v he hv
    have hv0 := conv_support (H := fun j => Y hs (nm L j)) (x := fun j => X l (nm L j)) hx c5 e
    generalize slp (fun j => Y hs (nm L j)) (fun j => X l (nm L j)) e = mm at *
    obtain ⟨j, hj, hij, hmin⟩ := least_idx (L := L) (i := v) N ⟨N - 1, by omega, by omega⟩
    rcases Nat.lt_or_eq_of_le hij with h | h
    · rcases Nat.eq_zero_or_pos j with h0 | h0
      · subst h0; omega
      obtain ⟨j, rfl⟩ : ∃ j', j = j' + 1 := ⟨j - 1, by omega⟩
      have hp := hmin j (by omega)
      have a := (c4 j hj).2 v hp h
      have b1 := hv0 j he (by omega)
      have b2 := hv0 (j + 1) he hj
      refine Rat.le_trans ?_ a
      rw [le_ln hg (by omega) (hlt _ hj)]
      have y1 := hg.X hp hv; have y2 := hg.X h (hlt _ hj)
      have d1 := Rat.mul_le_mul_of_nonneg_right b1 (show 0 ≤ X l (nm L (j + 1)) - X l v by grind)
      have d2 := Rat.mul_le_mul_of_nonneg_right b2 (show 0 ≤ X l v - X l (nm L j) by grind)
      grind
    · rw [h]; exact hv0 j he hj
  obtain ⟨j, hj, hij, hmin⟩ := least_idx (L := L) (i := i) N ⟨N - 1, by omega, by omega⟩
  have ha : ∀ j', j' < j → (nthS l (nm L j')).a < (nthS l i).a := fun j' hj' => hg.up _ _ (hmin j' hj') hi
  rcases Nat.lt_or_eq_of_le hij with h | h
  · rcases Nat.eq_zero_or_pos j with h0 | h0
    · subst h0; omega
    obtain ⟨j, rfl⟩ : ∃ j', j = j' + 1 := ⟨j - 1, by omega⟩
    rw [heightR_gt l hs L _ (j + 1) (by omega) ha (hg.up _ _ h (hlt _ hj))]
    have hp := hmin j (by omega)
    obtain ⟨o1, o2⟩ := line_ok hg hh hi (nm L j) (nm L (j + 1)) hp h (hlt _ hj)
    rw [Nat.add_sub_cancel, o2]
    have e1 := slp_mul (H := fun j => Y hs (nm L j)) (x := fun j => X l (nm L j)) hx j hj
    have hs' := fun v hv => hsup j v hj hv
    generalize slp (fun j => Y hs (nm L j)) (fun j => X l (nm L j)) j = mm at *
    refine ⟨Y hs (nm L j) - mm * X l (nm L j), mm, fun v hv => ?_, ?_⟩
    · have := hs' v hv
      grind
    · have y3 := hg.X hp hi; have y4 := hg.X h (hlt _ hj)
      unfold ln
      have : X l (nm L (j + 1)) - X l (nm L j) ≠ 0 := by grind
      have e3 : Y hs (nm L (j + 1)) = Y hs (nm L j) + mm * (X l (nm L (j + 1)) - X l (nm L j)) := by grind
      rw [e3]
      clear hsup hs' c4 c5 hmono hmin ha hlt hx
      grind
  · rw [heightR_eq l hs L _ j (by omega) ha (by rw [← h]), ← h, V_one]
    show ∃ al mu : Rat, _ ∧ Y hs i = _
    rcases Nat.eq_zero_or_pos j with h0 | h0
    · subst h0
      rcases Nat.lt_or_ge 1 N with hN | hN
      · have hs' := fun v hv => hsup 0 v hN hv
        rw [← h] at hs'
        generalize slp (fun j => Y hs (nm L j)) (fun j => X l (nm L j)) 0 = mm at *
        refine ⟨Y hs i - mm * X l i, mm, fun v hv => ?_, ?_⟩
        · have := hs' v hv
          clear hsup hs' c4 c5 hmono hmin ha hlt hx
          grind
        · clear hsup hs' c4 c5 hmono hmin ha hlt hx
          grind
      · have hN1 : N = 1 := by omega
        have hm0 : m = 0 := by rw [← c3', hN1]; exact c2
        refine ⟨Y hs i, 0, fun v hv => ?_, ?_⟩
        · obtain rfl : v = i := by omega
          grind
        · grind
    · obtain ⟨j, rfl⟩ : ∃ j', j = j' + 1 := ⟨j - 1, by omega⟩
      have e1 := slp_mul (H := fun j => Y hs (nm L j)) (x := fun j => X l (nm L j)) hx j hj
      have hs' := fun v hv => hsup j v hj hv
      generalize slp (fun j => Y hs (nm L j)) (fun j => X l (nm L j)) j = mm at *
      rw [← h] at e1
      refine ⟨Y hs (nm L j) - mm * X l (nm L j), mm, fun v hv => ?_, ?_⟩
      · have := hs' v hv
        clear hsup hs' c4 c5 hmono hmin ha hlt hx
        grind
      · clear hsup hs' c4 c5 hmono hmin ha hlt hx
        grind

/-- The heights that are returned meet everywhere. -/
theorem hP_conv {l : List St} (h : checkPair l = 0) {i k m : Nat} (h1 : i < k) (h2 : k < m) (h3 : m < l.length) :
    V (hP l k) * (X l m - X l i) ≤ V (hP l i) * (X l m - X l k) + V (hP l m) * (X l k - X l i) := by
  have g := gd l h
  obtain ⟨al, mu, hsup, he⟩ := hull_sup g (hb l true h) (show k < l.length by omega)
  have he' : V (hP l k) = al + mu * X l k := he
  have low : ∀ v, v < l.length → al + mu * X l v ≤ V (hP l v) := by
    intro v hv
    rw [(hP_spec l h hv).2]
    refine ⟨hsup v hv, fun i' k' a b c => ?_⟩
    rw [le_ln g (by omega) c]
    have y1 := g.X a hv; have y2 := g.X b c
    have d1 := Rat.mul_le_mul_of_nonneg_right (hsup i' (by omega)) (show 0 ≤ X l k' - X l v by grind)
    have d2 := Rat.mul_le_mul_of_nonneg_right (hsup k' c) (show 0 ≤ X l v - X l i' by grind)
    grind
  have y1 := g.X h1 (by omega); have y2 := g.X h2 h3
  have d1 := Rat.mul_le_mul_of_nonneg_right (low i (by omega)) (show 0 ≤ X l m - X l k by grind)
  have d2 := Rat.mul_le_mul_of_nonneg_right (low m h3) (show 0 ≤ X l k - X l i by grind)
  rw [he']
  grind
end Ma
end Go.Proofs.Ytbjmkmambmeifaa

namespace Go.Proofs.Ytbjmkmambmeifaa
open Go.RowKit
namespace Ma

theorem lessW_V2 {a b : Ra} (ha : 0 < a.den) (ha2 : a.den ≤ 1000000000) (ha3 : -1000000000 ≤ a.num) (ha4 : a.num ≤ 1000000000) (hb : 0 < b.den) (hb2 : b.den ≤ 1000000000) (hb3 : -1000000000 ≤ b.num) (hb4 : b.num ≤ 1000000000) : lessW a b = decide (V a < V b) := by
  unfold lessW
  obtain ⟨p1, p2⟩ := mul_bd ha3 ha4 hb hb2
  obtain ⟨q1, q2⟩ := mul_bd hb3 hb4 ha ha2
  rw [wrap_id p1 p2, wrap_id q1 q2]
  simp only [V_lt ha hb]
/-- What is true of allowed heights. -/
theorem chB_at {l : List St} {h : List Ra} {k : Nat} : chB l h k = true ↔ 1 ≤ (nthR h k).den ∧ (nthR h k).den ≤ 1000 ∧ -1000000 ≤ (nthR h k).num ∧ (nthR h k).num ≤ 1000000 ∧ (nthS l k).lo * (nthR h k).den ≤ (nthR h k).num ∧ (nthR h k).num ≤ (nthS l k).hi * (nthR h k).den := by
  simp [chB, inB]
  constructor
  · rintro ⟨⟨a, b⟩, ⟨c, d⟩, e, f⟩; exact ⟨a, b, c, d, e, f⟩
  · rintro ⟨a, b, c, d, e, f⟩; exact ⟨⟨a, b⟩, ⟨c, d⟩, e, f⟩
theorem checkHP_zero {l : List St} {h : List Ra} : checkHP l h = 0 ↔ checkPair l = 0 ∧ h.length = l.length ∧ (∀ k, k < l.length → chB l h k = true) ∧ ∀ i k m, i < k → k < m → m < l.length → gapeB l h i k m = false := by
  rw [check_eq]
  unfold checkHR
  by_cases h0 : checkPair l = 0
  · rw [if_neg (fun hx => hx h0)]
    by_cases h1 : h.length = l.length
    · rw [if_neg (fun hx => hx h1)]
      by_cases h2 : ∀ k, k < l.length → chB l h k = true
      · rw [if_pos h2, ← noGape_iff]
        by_cases h3 : noGape l h = true
        · rw [if_pos h3]; exact ⟨fun _ => ⟨h0, h1, h2, h3⟩, fun _ => rfl⟩
        · rw [if_neg h3]; exact ⟨fun hx => absurd hx (by decide), fun hx => absurd hx.2.2.2 h3⟩
      · rw [if_neg h2]; exact ⟨fun hx => absurd hx (by decide), fun hx => absurd hx.2.2.1 h2⟩
    · rw [if_pos h1]; exact ⟨fun hx => absurd hx (by decide), fun hx => absurd hx.2.1 h1⟩
  · rw [if_pos h0]; exact ⟨fun hx => absurd hx h0, fun hx => absurd hx.1 h0⟩
theorem V_range {r : Ra} {a b : Int} (hd : 0 < r.den) : (a * r.den ≤ r.num ↔ (a : Rat) ≤ V r) ∧ (r.num ≤ b * r.den ↔ V r ≤ (b : Rat)) := by
  constructor
  · rw [← V_one, V_le Int.one_pos hd]; simp
  · rw [← V_one, V_le hd Int.one_pos]; simp
/-- Heights that are allowed and meet everywhere are nowhere above the greatest ones. -/
theorem given_le {l : List St} {g : List Ra} (hz : checkHP l g = 0) {k : Nat} (hk : k < l.length) : V (nthR g k) ≤ V (hP l k) := by
  obtain ⟨h0, h1, h2, h3⟩ := checkHP_zero.1 hz
  have hc := chB_at.1 (h2 k hk)
  have gg := gd l h0
  have hi : ∀ j, j < l.length → V (nthR g j) ≤ Y (ends l true) j := by
    intro j hj
    have := chB_at.1 (h2 j hj)
    unfold Y; rw [ends_hi l hj]
    exact (V_range (a := 0) (by omega)).2.1 this.2.2.2.2.2
  rw [(hP_spec l h0 hk).2]
  refine ⟨hi k hk, fun i m a b c => ?_⟩
  have hg := h3 i k m a b c
  rw [← Bool.not_eq_true, bend_iff l g (by have := chB_at.1 (h2 i (by omega)); omega) (by omega) (by have := chB_at.1 (h2 m c); omega), Rat.not_lt] at hg
  rw [le_ln gg (by omega) c]
  have y1 := gg.X a hk; have y2 := gg.X b c
  have d1 := Rat.mul_le_mul_of_nonneg_right (hi i (by omega)) (show 0 ≤ X l m - X l k by grind)
  have d2 := Rat.mul_le_mul_of_nonneg_right (hi m c) (show 0 ≤ X l k - X l i by grind)
  grind
theorem wedge_no {l : List St} {g : List Ra} {i k m : Nat} (a : i < k) (b : k < m) (c : m < l.length) (hw : isWedgeB l i k m = true) : checkHP l g ≠ 0 := by
  intro hz
  obtain ⟨h0, h1, h2, h3⟩ := checkHP_zero.1 hz
  have hk : k < l.length := by omega
  have hc := chB_at.1 (h2 k hk)
  have e := (V_range (r := nthR g k) (a := (nthS l k).lo) (b := 0) (by omega)).1.1 hc.2.2.2.2.1
  have q := given_le hz hk
  have := ((hP_spec l h0 hk).2 _).1 Rat.le_refl
  have := this.2 i m a b c
  rw [wedge_iff l h0 a b c] at hw
  grind
theorem hP_den {l : List St} (h : checkPair l = 0) {i : Nat} (hi : i < l.length) : (hP l i).den ≤ 1000 := by
  rw [height_eq l h i hi]
  unfold hR
  split
  · rename_i hc
    exact (least_rng l true h i hc.1).2.2
  · show (1 : Int) ≤ 1000; decide
theorem nthR_map {l : List St} (f : Nat → Ra) {i : Nat} (hi : i < l.length) : nthR ((List.range l.length).map f) i = f i := by simp [nthR, hi]
theorem either_none {l : List St} (h : checkPair l = 0) (hw : wedgeF l = none) : heightsErrP l = 0 ∧ (heightsP l).length = l.length ∧ checkHP l (heightsP l) = 0 ∧ (∀ i k m, i < k → k < m → m < l.length → isWedgeB l i k m = false) ∧
    ∀ g, checkHP l g = 0 → ∀ i, i < l.length → lessW (nthR (heightsP l) i) (nthR g i) = false := by
  have he : heightsErrP l = 0 := by rw [heightsErr_eq]; unfold heightsErrR; rw [if_neg (fun hx => hx h), hw]; simp
  have hnw : ∀ i k m, i < k → k < m → m < l.length → isWedgeB l i k m = false := by
    intro i k m a b c
    rw [← Bool.not_eq_true]
    intro hx
    have := wedgeF_iff.2 ⟨i, k, m, a, b, c, hx⟩
    rw [hw] at this; cases this
  have hf : heightsP l = (List.range l.length).map (hP l) := by unfold heightsP; rw [if_pos he]
  have hlo : ∀ k, k < l.length → ((nthS l k).lo : Rat) ≤ V (hP l k) ∧ V (hP l k) ≤ ((nthS l k).hi : Rat) := by
    intro k hk
    have hs := hP_spec l h hk
    constructor
    · rw [hs.2]
      refine ⟨?_, fun i m a b c => ?_⟩
      · unfold Y; rw [ends_hi l hk]; exact Rat.intCast_le_intCast.2 (valid_at l h k hk).2.2.2.1
      · rw [← Rat.not_lt, ← wedge_iff l h a b c, hnw i k m a b c]; simp
    · have := ((hs.2 _).1 Rat.le_refl).1
      unfold Y at this; rw [ends_hi l hk] at this; exact this
  refine ⟨he, by rw [hf]; simp, checkHP_zero.2 ⟨h, by rw [hf]; simp, fun k hk => ?_, fun i k m a b c => ?_⟩, hnw, fun g hz i hi => ?_⟩
  · rw [chB_at, hf, nthR_map _ hk]
    have hd := (hP_spec l h hk).1.den
    have hd2 := hP_den h hk
    have e1 := (V_range (r := hP l k) (a := (nthS l k).lo) (b := (nthS l k).hi) hd).1.2 (hlo k hk).1
    have e2 := (V_range (r := hP l k) (a := (nthS l k).lo) (b := (nthS l k).hi) hd).2.2 (hlo k hk).2
    have hv := valid_at l h k hk
    have m1 := mul_rng (a := (nthS l k).lo) (b := (hP l k).den) (by omega) (by omega) (by omega) hd2
    have m2 := mul_rng (a := (nthS l k).hi) (b := (hP l k).den) (by omega) (by omega) (by omega) hd2
    omega
  · rw [← Bool.not_eq_true, hf, bend_iff l _ (by rw [nthR_map _ (show i < l.length by omega)]; exact (hP_spec l h (show i < l.length by omega)).1.den) (by rw [nthR_map _ (show k < l.length by omega)]; exact (hP_spec l h (show k < l.length by omega)).1.den) (by rw [nthR_map _ c]; exact (hP_spec l h c).1.den), nthR_map _ (show i < l.length by omega), nthR_map _ (show k < l.length by omega), nthR_map _ c, Rat.not_lt]
    exact hP_conv h a b c
  · rw [hf, nthR_map _ hi]
    have hc := chB_at.1 ((checkHP_zero.1 hz).2.2.1 i hi)
    have ho := (hP_spec l h hi).1
    rw [lessW_V2 ho.den ho.den2 ho.num1 ho.num2 (by omega) (by omega) (by omega) (by omega)]
    have := given_le hz hi
    simp; grind
theorem either_some {l : List St} {t : List Int} {i k m : Nat} (ht : checkTruth l t = 0) (hw : wedgeF l = some (i, k, m)) : i < k ∧ k < m ∧ m < l.length ∧ isWedgeB l i k m = true ∧ spanE l t k (nthI t k) = 22 ∧ heightsErrP l = 22 ∧ heightsP l = [] ∧ ∀ g, checkHP l g ≠ 0 := by
  have h := (truth_pair ht).1
  obtain ⟨a, b, c, d⟩ := wedgeF_some hw
  have he : heightsErrP l = 22 := by rw [heightsErr_eq]; unfold heightsErrR; rw [if_neg (fun hx => hx h), hw]; simp
  refine ⟨a, b, c, d, ?_, he, by unfold heightsP; rw [if_neg (by omega)], fun g => wedge_no a b c d⟩
  have hk : k < l.length := by omega
  rcases kinds_law ht hk with hA | hA | hA
  · exact hA.2.2.2.1
  · have : wedAt l k = true := wedAt_iff.2 ⟨i, m, a, b, c, d⟩
    rw [hA.2.2.2.2.1] at this; cases this
  · have : wedAt l k = true := wedAt_iff.2 ⟨i, m, a, b, c, d⟩
    rw [hA.2.2.2.2.1] at this; cases this
end Ma
end Go.Proofs.Ytbjmkmambmeifaa

namespace Go.Proofs.Ytbjmkmambmeifaa
open Go.RowKit
namespace Ma

theorem lo_mem {l : List St} {hs : List Int} {s : Nat} {own : Int} (hg : Gd l) (hh : Hb l hs) (hs1 : s < l.length) (ho : -1000 ≤ own ∧ own ≤ 1000) : -10000 ≤ (loB l hs s own).num ∧ (loB l hs s own).num ≤ 10000 ∧ 0 < (loB l hs s own).den ∧ (loB l hs s own).den ≤ 1000 := by
  have hall : ∀ r, r ∈ ⟨-10000, 1⟩ :: los l hs s own → OkR r := by
    intro r hr
    rcases List.mem_cons.1 hr with rfl | hr
    · exact okR_one _ (by decide) (by decide)
    · obtain ⟨i, hi, rfl⟩ := List.mem_map.1 hr
      exact (los_ok hg hh hs1 ho i (List.mem_range.1 hi)).1
  have hm := (best_max ⟨-10000, 1⟩ (los l hs s own) hall).1
  rcases List.mem_cons.1 hm with h | h
  · unfold loB; rw [h]; decide
  · obtain ⟨i, hi, he⟩ := List.mem_map.1 h
    have hi := List.mem_range.1 hi
    unfold loB; rw [← he]
    have h1 := hg.up i s hi hs1; have h2 := hg.a1 i (by omega); have h3 := hg.a2 s hs1; have h4 := hh i (by omega)
    have := frac_bounds (own - nthI hs i) ((nthS l s).a - (nthS l i).a) (by omega)
    omega
theorem hi_mem {l : List St} {hs : List Int} {s : Nat} {own : Int} (hg : Gd l) (hh : Hb l hs) (hs1 : s < l.length) (ho : -1000 ≤ own ∧ own ≤ 1000) : -10000 ≤ (hiB l hs s own).num ∧ (hiB l hs s own).num ≤ 10000 ∧ 0 < (hiB l hs s own).den ∧ (hiB l hs s own).den ≤ 1000 := by
  have hall : ∀ r, r ∈ ⟨10000, 1⟩ :: his l hs s own → OkR r := by
    intro r hr
    rcases List.mem_cons.1 hr with rfl | hr
    · exact okR_one _ (by decide) (by decide)
    · obtain ⟨i, hi, rfl⟩ := List.mem_map.1 hr
      have := List.mem_range.1 hi
      exact (his_ok hg hh hs1 ho (s + 1 + i) (by omega) (by omega)).1
  have hm := (best_min ⟨10000, 1⟩ (his l hs s own) hall).1
  rcases List.mem_cons.1 hm with h | h
  · unfold hiB; rw [h]; decide
  · obtain ⟨i, hi, he⟩ := List.mem_map.1 h
    have hi := List.mem_range.1 hi
    unfold hiB; rw [← he]
    have hk2 : s + 1 + i < l.length := by omega
    have h1 := hg.up s (s + 1 + i) (by omega) hk2; have h2 := hg.a1 s (by omega); have h3 := hg.a2 _ hk2; have h4 := hh _ hk2
    have := frac_bounds (nthI hs (s + 1 + i) - own) ((nthS l (s + 1 + i)).a - (nthS l s).a) (by omega)
    omega

theorem tilt_V {x : Ra} (h : isTilt x = true) : 0 < x.den ∧ -10000 ≤ V x ∧ V x ≤ 10000 := by
  have := tilt_at x h
  have hd : 0 < x.den := by omega
  refine ⟨hd, ?_, ?_⟩
  · have := (V_range (r := x) (a := -10000) (b := 0) hd).1.1 (by omega)
    exact this
  · have := (V_range (r := x) (a := 0) (b := 10000) hd).2.1 (by omega)
    exact this
/-- The height at a station along a tilt. -/
theorem ctV_le {l : List St} {t : List Int} {x : Ra} (hd : 0 < x.den) {i k : Nat} : ctV l t x i ≤ ctV l t x k ↔ Y t i - V x * X l i ≤ Y t k - V x * X l k := by
  have hp := rpos hd
  unfold ctV
  rw [← Rat.intCast_le_intCast]
  simp only [Rat.intCast_sub, Rat.intCast_mul]
  rw [V_num hd]
  show Y t i * _ - V x * _ * X l i ≤ Y t k * _ - V x * _ * X l k ↔ _
  constructor
  · intro h
    refine Rat.le_of_mul_le_mul_right (c := (x.den : Rat)) ?_ hp
    grind
  · intro h
    have := Rat.mul_le_mul_of_nonneg_right h (Rat.le_of_lt hp)
    grind
theorem ctLeast_iff {l : List St} {t : List Int} {x : Ra} (hd : 0 < x.den) {i : Nat} : ctLeast l t x i = true ↔ ∀ k, k < l.length → Y t i - V x * X l i ≤ Y t k - V x * X l k := by
  unfold ctLeast
  simp only [List.all_eq_true, List.mem_range, decide_eq_true_eq]
  exact ⟨fun h k hk => (ctV_le hd).1 (h k hk), fun h k hk => (ctV_le hd).2 (h k hk)⟩
theorem ct_exists (l : List St) (t : List Int) (x : Ra) (h0 : 0 < l.length) : ∃ i, i < l.length ∧ ctLeast l t x i = true := by
  have key : ∀ n, 0 < n → ∃ i, i < n ∧ ∀ k, k < n → ctV l t x i ≤ ctV l t x k := by
    intro n
    induction n with
    | zero => intro h; omega
    | succ n ih =>
      intro _
      rcases Nat.eq_zero_or_pos n with hz | hz
      · subst hz; exact ⟨0, by omega, fun k hk => by rw [show k = 0 from by omega]; exact Int.le_refl _⟩
      · obtain ⟨i, hi, hA⟩ := ih hz
        by_cases hc : ctV l t x i ≤ ctV l t x n
        · refine ⟨i, by omega, fun k hk => ?_⟩
          rcases Nat.lt_succ_iff_lt_or_eq.1 hk with h | rfl
          · exact hA k h
          · exact hc
        · refine ⟨n, by omega, fun k hk => ?_⟩
          rcases Nat.lt_succ_iff_lt_or_eq.1 hk with h | rfl
          · have := hA k h; omega
          · exact Int.le_refl _
  obtain ⟨i, hi, hA⟩ := key _ h0
  refine ⟨i, hi, ?_⟩
  unfold ctLeast
  simp only [List.all_eq_true, List.mem_range, decide_eq_true_eq]
  exact hA
/-- Along a greater tilt blades touch no earlier. -/
theorem travels {l : List St} {t : List Int} {x y : Ra} (hg : Gd l) (hx : 0 < x.den) (hy : 0 < y.den) (hlt : V x < V y) {i k : Nat} (hi : i < l.length) (hk : k < l.length) (h1 : ctLeast l t x i = true) (h2 : ctLeast l t y k = true) : i ≤ k := by
  have a := (ctLeast_iff hx).1 h1 k hk
  have b := (ctLeast_iff hy).1 h2 i hi
  refine Nat.le_of_not_lt fun hc => ?_
  have c := hg.X hc hi
  have d := Rat.mul_lt_mul_of_pos_right (show V x - V y < 0 by grind) (show 0 < X l i - X l k by grind)
  grind
/-- Blades touch at a station along a tilt just if the tilt is in its span. -/
theorem inside_iff {l : List St} {t : List Int} {x : Ra} (h : checkTruth l t = 0) (hx : isTilt x = true) {i : Nat} (hi : i < l.length) :
    (V (loB l t i (nthI t i)) ≤ V x ∧ V x ≤ V (hiB l t i (nthI t i))) ↔ ctLeast l t x i = true := by
  have hv := (truth_pair h).1
  have g := gd l hv
  obtain ⟨hd, t1, t2⟩ := tilt_V hx
  have ho := truth_hb h i hi
  rw [ctLeast_iff hd, lo_le g (truth_hb h) hi ho, le_hi g (truth_hb h) hi ho]
  have e1 : ∀ j, j < i → (sl1 l t i (nthI t i) j ≤ V x ↔ Y t i - V x * X l i ≤ Y t j - V x * X l j) := by
    intro j hj
    have := g.X hj hi
    unfold sl1
    rw [rdiv_le' (by grind)]
    show Y t i - Y t j ≤ _ ↔ _
    constructor <;> intro h <;> grind
  have e2 : ∀ k, i < k → k < l.length → (V x ≤ sl2 l t i (nthI t i) k ↔ Y t i - V x * X l i ≤ Y t k - V x * X l k) := by
    intro k hk hk2
    have := g.X hk hk2
    unfold sl2
    rw [le_rdiv (by grind)]
    show _ ≤ Y t k - Y t i ↔ _
    constructor <;> intro h <;> grind
  constructor
  · rintro ⟨⟨_, a⟩, _, b⟩ k hk
    rcases Nat.lt_trichotomy k i with hc | rfl | hc
    · exact (e1 k hc).1 (a k hc)
    · exact Rat.le_refl
    · exact (e2 k hc hk).1 (b k hc hk)
  · intro hA
    exact ⟨⟨t1, fun j hj => (e1 j hj).2 (hA j (by omega))⟩, t2, fun k hk hk2 => (e2 k hk hk2).2 (hA k hk2)⟩
theorem ct_mem {l : List St} {t : List Int} {x : Ra} (he : contactErr l t x = 0) {k : Nat} (hk : k < (contactL l t x).length) : ∃ i : Nat, nthI (contactL l t x) k = i ∧ i < l.length ∧ ctLeast l t x i = true := by
  have hf : contactL l t x = ((List.range l.length).filter (ctLeast l t x)).map (fun (i : Nat) => (i : Int)) := by unfold contactL; rw [if_pos he]
  rw [hf] at hk ⊢
  have hk' : k < ((List.range l.length).filter (ctLeast l t x)).length := by simpa using hk
  have hm := List.getElem_mem hk'
  refine ⟨((List.range l.length).filter (ctLeast l t x))[k], by simp [nthI, hk'], ?_, ?_⟩
  · exact List.mem_range.1 (List.mem_filter.1 hm).1
  · exact (List.mem_filter.1 hm).2
theorem ct_any {l : List St} {t : List Int} {x : Ra} (he : contactErr l t x = 0) {i : Nat} (hi : i < l.length) : ((List.range (contactL l t x).length).any fun k => nthI (contactL l t x) k == (i : Int)) = ctLeast l t x i := by
  rw [Bool.eq_iff_iff]
  simp only [List.any_eq_true, List.mem_range, beq_iff_eq]
  constructor
  · rintro ⟨k, hk, h⟩
    obtain ⟨j, hj, hj2, hj3⟩ := ct_mem he hk
    rw [hj] at h
    obtain rfl : j = i := by omega
    exact hj3
  · intro h
    have hf : contactL l t x = ((List.range l.length).filter (ctLeast l t x)).map (fun (i : Nat) => (i : Int)) := by unfold contactL; rw [if_pos he]
    have hm : i ∈ (List.range l.length).filter (ctLeast l t x) := List.mem_filter.2 ⟨List.mem_range.2 hi, h⟩
    obtain ⟨k, hk, hke⟩ := List.getElem_of_mem hm
    refine ⟨k, by rw [hf]; simpa using hk, ?_⟩
    rw [hf]
    simp [nthI, hk, hke]
theorem ct_ne {l : List St} {t : List Int} {x : Ra} (he : contactErr l t x = 0) (h0 : 0 < l.length) : 0 < (contactL l t x).length := by
  obtain ⟨i, hi, h⟩ := ct_exists l t x h0
  have := ct_any he hi
  rw [h] at this
  simp only [List.any_eq_true, List.mem_range] at this
  obtain ⟨k, hk, _⟩ := this
  omega
/-- The tests of the law, in whole numbers. -/
theorem in_num {l : List St} {t : List Int} {x : Ra} (h : checkTruth l t = 0) (hx : isTilt x = true) {i : Nat} (hi : i < l.length) :
    (decide ((loB l t i (nthI t i)).num * x.den ≤ x.num * (loB l t i (nthI t i)).den) && decide (x.num * (hiB l t i (nthI t i)).den ≤ (hiB l t i (nthI t i)).num * x.den)) = ctLeast l t x i := by
  have hv := (truth_pair h).1
  have g := gd l hv
  obtain ⟨hd, _, _⟩ := tilt_V hx
  have ho := truth_hb h i hi
  obtain ⟨_, _, d1, _⟩ := lo_mem g (truth_hb h) hi ho
  obtain ⟨_, _, d2, _⟩ := hi_mem g (truth_hb h) hi ho
  rw [Bool.eq_iff_iff, Bool.and_eq_true, decide_eq_true_eq, decide_eq_true_eq, ← V_le d1 hd, ← V_le hd d2]
  exact inside_iff h hx hi
theorem in_err {l : List St} {t : List Int} {x : Ra} (h : checkTruth l t = 0) (hx : isTilt x = true) {i : Nat} (hi : i < l.length) (he : spanE l t i (nthI t i) = 22) : ctLeast l t x i = false := by
  have hv := (truth_pair h).1
  have g := gd l hv
  have ho := truth_hb h i hi
  obtain ⟨a1, _⟩ := lo_spec g (truth_hb h) hi ho
  obtain ⟨b1, _⟩ := hi_spec g (truth_hb h) hi ho
  rw [← Bool.not_eq_true, ← inside_iff h hx hi]
  rintro ⟨p, q⟩
  unfold spanE at he
  rw [lessW_V b1 a1] at he
  have : ¬ V (hiB l t i (nthI t i)) < V (loB l t i (nthI t i)) := by
    have := Rat.le_trans p q
    rw [Rat.not_lt]; exact this
  rw [if_neg (by simpa using this)] at he
  exact absurd he (by decide)
end Ma
end Go.Proofs.Ytbjmkmambmeifaa

namespace Go.Proofs.Ytbjmkmambmeifaa
open Go.RowKit
namespace Ma

section
variable {l x : List St} {hs hs' : List Int} {s : Nat} {own own' : Int}
/-- hs, own: narrower; hs', own': wider; at the same places. -/
structure Wid (l x : List St) (hs hs' : List Int) (s : Nat) (own own' : Int) : Prop where
  gl : Gd l
  gx : Gd x
  len : x.length = l.length
  pos : ∀ i, i < l.length → (nthS x i).a = (nthS l i).a
  h1 : Hb l hs
  h2 : Hb x hs'
  s1 : s < l.length
  o1 : -1000 ≤ own ∧ own ≤ 1000
  o2 : -1000 ≤ own' ∧ own' ≤ 1000
  le : ∀ i, i < l.length → nthI hs i ≤ nthI hs' i
  ow : own' ≤ own
theorem Wid.xe (w : Wid l x hs hs' s own own') {i : Nat} (hi : i < l.length) : X x i = X l i := by unfold X; rw [w.pos i hi]
theorem Wid.lo (w : Wid l x hs hs' s own own') : V (loB x hs' s own') ≤ V (loB l hs s own) := by
  have hsx : s < x.length := by rw [w.len]; exact w.s1
  obtain ⟨_, _, b1, b2⟩ := lo_spec w.gl w.h1 w.s1 w.o1
  rw [lo_le w.gx w.h2 hsx w.o2]
  refine ⟨b1, fun i hi => Rat.le_trans ?_ (b2 i hi)⟩
  have h := w.gl.X hi w.s1
  unfold sl1
  rw [w.xe w.s1, w.xe (show i < l.length by have := w.s1; omega), rdiv_le (by grind) (by grind)]
  have a := Rat.intCast_le_intCast.2 w.ow
  have b : Y hs i ≤ Y hs' i := Rat.intCast_le_intCast.2 (w.le i (by have := w.s1; omega))
  exact Rat.mul_le_mul_of_nonneg_right (by grind) (by grind)
theorem Wid.hi (w : Wid l x hs hs' s own own') : V (hiB l hs s own) ≤ V (hiB x hs' s own') := by
  have hsx : s < x.length := by rw [w.len]; exact w.s1
  obtain ⟨_, _, b1, b2⟩ := hi_spec w.gl w.h1 w.s1 w.o1
  rw [le_hi w.gx w.h2 hsx w.o2]
  refine ⟨b1, fun k hk hk2 => Rat.le_trans (b2 k hk (by rw [← w.len]; exact hk2)) ?_⟩
  have hkl : k < l.length := by rw [← w.len]; exact hk2
  have h := w.gl.X hk hkl
  unfold sl2
  rw [w.xe w.s1, w.xe hkl, rdiv_le (by grind) (by grind)]
  have a := Rat.intCast_le_intCast.2 w.ow
  have b : Y hs k ≤ Y hs' k := Rat.intCast_le_intCast.2 (w.le k hkl)
  exact Rat.mul_le_mul_of_nonneg_right (by grind) (by grind)
theorem Wid.ln (w : Wid l x hs hs' s own own') {i k : Nat} (h1 : i < s) (h2 : s < k) (h3 : k < l.length) : Ma.ln l hs i s k ≤ Ma.ln x hs' i s k := by
  have e : Ma.ln x hs' i s k = Ma.ln l hs' i s k := by
    unfold Ma.ln
    rw [w.xe w.s1, w.xe h3, w.xe (show i < l.length by omega)]
  rw [e]
  exact ln_mono w.gl (fun j hj => Rat.intCast_le_intCast.2 (w.le j hj)) h1 h2 h3
theorem Wid.err (w : Wid l x hs hs' s own own') (h : spanE l hs s own = 0) : spanE x hs' s own' = 0 := by
  have hsx : s < x.length := by rw [w.len]; exact w.s1
  rw [spanE_iff w.gl w.h1 w.s1 w.o1] at h
  rw [spanE_iff w.gx w.h2 hsx w.o2]
  intro i k a b c
  have c' : k < l.length := by rw [← w.len]; exact c
  exact Rat.le_trans (Rat.intCast_le_intCast.2 w.ow) (Rat.le_trans (h i k a b c') (w.ln a b c'))
theorem Wid.over (w : Wid l x hs hs' s own own') : V (overR x hs' s own') ≤ V (overR l hs s own) := by
  have hsx : s < x.length := by rw [w.len]; exact w.s1
  obtain ⟨_, a⟩ := over_spec w.gl w.h1 w.s1 w.o1
  obtain ⟨_, b⟩ := over_spec w.gx w.h2 hsx w.o2
  obtain ⟨p, q⟩ := (a _).1 Rat.le_refl
  rw [b]
  refine ⟨p, fun i k h1 h2 h3 => ?_⟩
  have h3' : k < l.length := by rw [← w.len]; exact h3
  have m := w.ln h1 h2 h3'
  have o := Rat.intCast_le_intCast.2 w.ow
  have := q i k h1 h2 h3'
  grind
end
theorem over_mem {l : List St} {hs : List Int} {s : Nat} {own : Int} (hg : Gd l) (hh : Hb l hs) (hs1 : s < l.length) (ho : -1000 ≤ own ∧ own ≤ 1000) : -10000000 ≤ (overR l hs s own).num ∧ (overR l hs s own).num ≤ 10000000 ∧ 1 ≤ (overR l hs s own).den ∧ (overR l hs s own).den ≤ 1000 := by
  have hall : ∀ r, r ∈ ⟨0, 1⟩ :: overs l hs s own (s * (l.length - (s + 1))) → OkR r := by
    intro r hr
    rcases List.mem_cons.1 hr with rfl | hr
    · exact okR_one _ (by decide) (by decide)
    · obtain ⟨t, ht, rfl⟩ := List.mem_map.1 (List.mem_filter.1 hr).1
      obtain ⟨a, b, c⟩ := pair_idx (List.mem_range.1 ht)
      exact (over_ok hg hh hs1 ho _ _ a b c).1
  have hm := (best_max ⟨0, 1⟩ _ hall).1
  rcases List.mem_cons.1 hm with h | h
  · unfold overR; rw [h]; decide
  · obtain ⟨t, ht, he⟩ := List.mem_map.1 (List.mem_filter.1 h).1
    obtain ⟨a, b, c⟩ := pair_idx (List.mem_range.1 ht)
    unfold overR; rw [← he]
    unfold pairOver
    simp only
    generalize t / (l.length - (s + 1)) = i at *
    generalize s + 1 + t % (l.length - (s + 1)) = k at *
    have h1 := hg.up i s a hs1; have h2 := hg.up s k b c
    have h3 := hg.a1 i (by omega); have h4 := hg.a2 k c; have h5 := hh i (by omega); have h6 := hh k c
    have m1 := mul_rng h5.1 h5.2 (b := (nthS l k).a - (nthS l s).a) (by omega) (by omega)
    have m2 := mul_rng h6.1 h6.2 (b := (nthS l s).a - (nthS l i).a) (by omega) (by omega)
    have m3 := mul_rng ho.1 ho.2 (b := (nthS l k).a - (nthS l i).a) (by omega) (by omega)
    have := frac_bounds (own * ((nthS l k).a - (nthS l i).a) - (nthI hs i * ((nthS l k).a - (nthS l s).a) + nthI hs k * ((nthS l s).a - (nthS l i).a))) ((nthS l k).a - (nthS l i).a) (by omega)
    omega
theorem lessW_le {a b : Ra} (ha : 0 < a.den ∧ a.den ≤ 1000000000 ∧ -1000000000 ≤ a.num ∧ a.num ≤ 1000000000) (hb : 0 < b.den ∧ b.den ≤ 1000000000 ∧ -1000000000 ≤ b.num ∧ b.num ≤ 1000000000) (h : V b ≤ V a) : lessW a b = false := by
  rw [lessW_V2 ha.1 ha.2.1 ha.2.2.1 ha.2.2.2 hb.1 hb.2.1 hb.2.2.1 hb.2.2.2]
  simp; grind
theorem small_span {l : List St} {hs : List Int} {s : Nat} {own : Int} (hg : Gd l) (hh : Hb l hs) (hs1 : s < l.length) (ho : -1000 ≤ own ∧ own ≤ 1000) : smallR (loB l hs s own) (hiB l hs s own) = true := by
  have a := lo_mem hg hh hs1 ho
  have b := hi_mem hg hh hs1 ho
  unfold smallR
  rw [decide_eq_true_eq]
  omega
theorem Wid.inside {l x : List St} {hs hs' : List Int} {s : Nat} {own own' : Int} (w : Wid l x hs hs' s own own') : insideB (loB l hs s own).num (loB l hs s own).den (hiB l hs s own).num (hiB l hs s own).den (loB x hs' s own').num (loB x hs' s own').den (hiB x hs' s own').num (hiB x hs' s own').den = true := by
  have hsx : s < x.length := by rw [w.len]; exact w.s1
  have a := lo_mem w.gl w.h1 w.s1 w.o1
  have b := hi_mem w.gl w.h1 w.s1 w.o1
  have c := lo_mem w.gx w.h2 hsx w.o2
  have d := hi_mem w.gx w.h2 hsx w.o2
  unfold insideB
  rw [lessW_le (a := ⟨(loB l hs s own).num, (loB l hs s own).den⟩) (b := ⟨(loB x hs' s own').num, (loB x hs' s own').den⟩) (by show _ ∧ _; dsimp only; omega) (by dsimp only; omega) w.lo,
    lessW_le (a := ⟨(hiB x hs' s own').num, (hiB x hs' s own').den⟩) (b := ⟨(hiB l hs s own).num, (hiB l hs s own).den⟩) (by dsimp only; omega) (by dsimp only; omega) w.hi]
  rfl
end Ma
end Go.Proofs.Ytbjmkmambmeifaa

namespace Go.Proofs.Ytbjmkmambmeifaa
open Go.RowKit
namespace Ma

theorem mk_valid {l : List St} (h0 : 0 < l.length) (h1 : l.length ≤ 25) (hb : ∀ k, k < l.length → 0 ≤ (nthS l k).a ∧ (nthS l k).a ≤ 1000 ∧ -1000 ≤ (nthS l k).lo ∧ (nthS l k).lo ≤ (nthS l k).hi ∧ (nthS l k).hi ≤ 1000)
    (hi : ∀ k, k + 1 < l.length → (nthS l k).a < (nthS l (k + 1)).a) : checkPair l = 0 := by
  unfold checkPair
  rw [if_neg (by omega), if_pos]
  intro k hk
  have h := hb k hk
  have hp : prevSt l k ≤ (nthS l k).a := by
    unfold prevSt
    by_cases hz : k = 0
    · rw [if_pos hz]; omega
    · rw [if_neg hz]
      have := hi (k - 1) (by omega)
      rw [show k - 1 + 1 = k by omega] at this
      omega
  simp [okSt, goodSt, inB]
  omega
/-- Spans follow one another. -/
theorem follow {l : List St} {t : List Int} (h : checkTruth l t = 0) (hA : ∀ j, j < l.length → spanE l t j (nthI t j) = 0) {j : Nat} (hj : j + 1 < l.length) : loB l t (j + 1) (nthI t (j + 1)) = hiB l t j (nthI t j) := by
  have hv := (truth_pair h).1
  have g := gd l hv
  have hh := truth_hb h
  have o1 := hh j (by omega)
  have o2 := hh (j + 1) hj
  obtain ⟨a1, _, a2, a3⟩ := lo_spec g hh hj o2
  obtain ⟨b1, _, b2, b3⟩ := hi_spec g hh (show j < l.length by omega) o1
  have tch : ∀ i s k, i < s → s < k → k < l.length → Y t s ≤ ln l t i s k := fun i s k x y z => (spanE_iff g hh (show s < l.length by omega) (hh s (by omega))).1 (hA s (by omega)) i k x y z
  have e : sl1 l t (j + 1) (nthI t (j + 1)) j = sl2 l t j (nthI t j) (j + 1) := rfl
  have bd := (slope_bd g hh hj o2).1 j (by omega)
  refine OkR.ext a1 b1 (Rat.le_antisymm ?_ ?_)
  · refine Rat.le_trans ?_ (?_ : sl1 l t (j + 1) (nthI t (j + 1)) j ≤ _)
    · rw [lo_le g hh hj o2]
      refine ⟨by grind, fun i hi => ?_⟩
      rcases Nat.lt_succ_iff_lt_or_eq.1 hi with hc | rfl
      · have q := tch i j (j + 1) hc (by omega) hj
        rw [le_ln g (by omega) hj] at q
        have y1 := g.X hc (by omega); have y2 := g.X (show j < j + 1 by omega) hj
        unfold sl1
        rw [rdiv_le (by grind) (by grind)]
        show (Y t (j + 1) - Y t i) * _ ≤ (Y t (j + 1) - Y t j) * _
        grind
      · exact Rat.le_refl
    · rw [le_hi g hh (show j < l.length by omega) o1]
      refine ⟨by grind, fun k hk hk2 => ?_⟩
      rcases Nat.eq_or_lt_of_le (show j + 1 ≤ k by omega) with rfl | hc
      · rw [e]; exact Rat.le_refl
      · have q := tch j (j + 1) k (by omega) hc hk2
        rw [le_ln g (by omega) hk2] at q
        have y1 := g.X hc hk2; have y2 := g.X (show j < j + 1 by omega) hj
        unfold sl1 sl2
        rw [rdiv_le (by grind) (by grind)]
        show (Y t (j + 1) - Y t j) * _ ≤ (Y t k - Y t j) * _
        grind
  · refine Rat.le_trans (b3 (j + 1) (by omega) hj) ?_
    rw [← e]
    exact a3 j (by omega)
theorem lo_first (l : List St) (t : List Int) (own : Int) : loB l t 0 own = ⟨-10000, 1⟩ := by simp [loB, los, bestF]
theorem hi_last {l : List St} (t : List Int) (own : Int) {s : Nat} (hs : s + 1 = l.length) : hiB l t s own = ⟨10000, 1⟩ := by
  unfold hiB his
  rw [show l.length - (s + 1) = 0 by omega]
  simp [bestF]

/-- The stations at which blades meet. -/
def flt (l : List St) (t : List Int) (n : Nat) : List Nat := (List.range n).filter fun i => decide (spanE l t i (nthI t i) = 0)
def fx (l : List St) (t : List Int) (n : Nat) : List St := (flt l t n).map (nthS l)
def fy (l : List St) (t : List Int) (n : Nat) : List Int := (flt l t n).map (nthI t)
theorem flt_succ (l : List St) (t : List Int) (n : Nat) : flt l t (n + 1) = flt l t n ++ if spanE l t n (nthI t n) = 0 then [n] else [] := by
  unfold flt
  rw [List.range_succ, List.filter_append]
  congr 1
  by_cases h : spanE l t n (nthI t n) = 0 <;> simp [h]
theorem fx_yes {l : List St} {t : List Int} {n : Nat} (h : spanE l t n (nthI t n) = 0) : fx l t (n + 1) = fx l t n ++ [nthS l n] ∧ fy l t (n + 1) = fy l t n ++ [nthI t n] := by
  unfold fx fy; rw [flt_succ, if_pos h]; simp
theorem fx_no {l : List St} {t : List Int} {n : Nat} (h : spanE l t n (nthI t n) = 22) : fx l t (n + 1) = fx l t n ∧ fy l t (n + 1) = fy l t n := by
  unfold fx fy; rw [flt_succ, if_neg (by omega)]; simp
theorem flt_len (l : List St) (t : List Int) (n : Nat) : (flt l t n).length ≤ n := by
  unfold flt; exact Nat.le_trans (List.length_filter_le _ _) (by simp)
theorem flt_at {l : List St} {t : List Int} {n j : Nat} (hj : j < (flt l t n).length) : (flt l t n)[j] < n ∧ spanE l t (flt l t n)[j] (nthI t (flt l t n)[j]) = 0 := by
  have hm := List.getElem_mem hj
  unfold flt at hm ⊢
  have := List.mem_filter.1 hm
  exact ⟨List.mem_range.1 this.1, by simpa using this.2⟩
theorem flt_lt {l : List St} {t : List Int} {n i j : Nat} (hij : i < j) (hj : j < (flt l t n).length) : (flt l t n)[i] < (flt l t n)[j] := by
  have hp : (flt l t n).Pairwise (· < ·) := List.Pairwise.filter _ List.pairwise_lt_range
  exact List.pairwise_iff_getElem.1 hp i j (by omega) hj hij
theorem fx_at {l : List St} {t : List Int} {n j : Nat} (hj : j < (flt l t n).length) : nthS (fx l t n) j = nthS l (flt l t n)[j] ∧ nthI (fy l t n) j = nthI t (flt l t n)[j] := by
  constructor
  · simp [nthS, fx, hj]
  · simp [nthI, fy, hj]
theorem fx_len (l : List St) (t : List Int) (n : Nat) : (fx l t n).length = (flt l t n).length ∧ (fy l t n).length = (flt l t n).length := by simp [fx, fy]
/-- All that the law needs of the stations at which blades meet. -/
theorem met {l : List St} {t : List Int} (h : checkTruth l t = 0) : 0 < (fx l t l.length).length ∧ checkTruth (fx l t l.length) (fy l t l.length) = 0 ∧
    ∀ j, j < (fx l t l.length).length → spanE (fx l t l.length) (fy l t l.length) j (nthI (fy l t l.length) j) = 0 := by
  have hv := (truth_pair h).1
  have g := gd l hv
  have hh := truth_hb h
  obtain ⟨hn0, hn1⟩ := checkPair_len l hv
  obtain ⟨e1, e2⟩ := fx_len l t l.length
  have h0 : 0 < (flt l t l.length).length := by
    have : 0 ∈ flt l t l.length := by
      unfold flt
      refine List.mem_filter.2 ⟨List.mem_range.2 hn0, ?_⟩
      have : spanE l t 0 (nthI t 0) = 0 := (spanE_iff g hh hn0 (hh 0 hn0)).2 fun i k a _ _ => absurd a (Nat.not_lt_zero _)
      simpa using this
    exact List.length_pos_of_mem this
  have hlen := flt_len l t l.length
  have hvx : checkPair (fx l t l.length) = 0 := by
    refine mk_valid (by omega) (by omega) (fun k hk => ?_) (fun k hk => ?_)
    · rw [e1] at hk
      rw [(fx_at hk).1]
      exact valid_at l hv _ (flt_at hk).1
    · rw [e1] at hk
      rw [(fx_at hk).1, (fx_at (show k < (flt l t l.length).length by omega)).1]
      exact g.up _ _ (flt_lt (Nat.lt_succ_self k) hk) (flt_at hk).1
  have htx : checkTruth (fx l t l.length) (fy l t l.length) = 0 := by
    refine checkTruth_ok _ _ hvx (by omega) (fun k hk => ?_)
    rw [e1] at hk
    unfold inSt
    rw [(fx_at hk).1, (fx_at hk).2]
    have := truth_le h (flt_at hk).1
    simp [inB]; omega
  refine ⟨by omega, htx, fun j hj => ?_⟩
  have gx := gd _ hvx
  rw [spanE_iff gx (truth_hb htx) hj (truth_hb htx j hj)]
  intro i k a b c
  rw [e1] at c hj
  have hi' : i < (flt l t l.length).length := by omega
  have q := (spanE_iff g hh (flt_at hj).1 (hh _ (flt_at hj).1)).1 (flt_at hj).2 _ _ (flt_lt a hj) (flt_lt b c) (flt_at c).1
  have eX : ∀ m (hm : m < (flt l t l.length).length), X (fx l t l.length) m = X l (flt l t l.length)[m] := fun m hm => by unfold X; rw [(fx_at hm).1]
  have eY : ∀ m (hm : m < (flt l t l.length).length), Y (fy l t l.length) m = Y t (flt l t l.length)[m] := fun m hm => by unfold Y; rw [(fx_at hm).2]
  unfold ln at q ⊢
  rw [eX i hi', eX j hj, eX k c, eY i hi', eY k c, (fx_at hj).2]
  exact q
end Ma
end Go.Proofs.Ytbjmkmambmeifaa

namespace Go.Proofs.Ytbjmkmambmeifaa
open Go.RowKit
namespace Ma

/-- One station's Lo and Hi. -/
def put (l : List St) (r : Nat) (lo hi : Int) : List St := l.set r ⟨(nthS l r).a, lo, hi⟩
theorem put_len (l : List St) (r : Nat) (lo hi : Int) : (put l r lo hi).length = l.length := by simp [put]
theorem put_at (l : List St) (r : Nat) (lo hi : Int) {k : Nat} (hk : k < l.length) : nthS (put l r lo hi) k = if k = r then ⟨(nthS l r).a, lo, hi⟩ else nthS l k := by
  unfold put nthS
  rw [List.getD_eq_getElem?_getD, List.getElem?_set]
  by_cases h : r = k
  · subst h; simp [hk]
  · rw [if_neg h, if_neg (fun h2 => h h2.symm), List.getD_eq_getElem?_getD]
theorem put_ok {l : List St} {r : Nat} {lo hi : Int} (h : checkPair l = 0) (hr : r < l.length) (h1 : (nthS l r).lo ≤ lo) (h2 : lo ≤ hi) (h3 : hi ≤ (nthS l r).hi) : checkPair (put l r lo hi) = 0 := by
  obtain ⟨n0, n1⟩ := checkPair_len l h
  refine mk_valid (by rw [put_len]; exact n0) (by rw [put_len]; exact n1) (fun k hk => ?_) (fun k hk => ?_)
  · rw [put_len] at hk
    rw [put_at l r lo hi hk]
    have := valid_at l h k hk
    by_cases hc : k = r
    · subst hc; rw [if_pos rfl]; dsimp only; omega
    · rw [if_neg hc]; exact this
  · rw [put_len] at hk
    rw [put_at l r lo hi hk, put_at l r lo hi (show k < l.length by omega)]
    have := valid_lt l h k (k + 1) (Nat.lt_succ_self k) hk
    by_cases hc : k = r <;> by_cases hc2 : k + 1 = r
    · omega
    · rw [if_pos hc, if_neg hc2]; subst hc; exact this
    · rw [if_neg hc, if_pos hc2]; subst hc2; exact this
    · rw [if_neg hc, if_neg hc2]; exact this
theorem put_a {l : List St} {r : Nat} {lo hi : Int} {k : Nat} (hk : k < l.length) : (nthS (put l r lo hi) k).a = (nthS l k).a := by
  rw [put_at l r lo hi hk]
  by_cases hc : k = r
  · subst hc; rw [if_pos rfl]
  · rw [if_neg hc]
theorem put_in {l : List St} {r : Nat} {lo hi : Int} (h1 : (nthS l r).lo ≤ lo) (h3 : hi ≤ (nthS l r).hi) {k : Nat} (hk : k < l.length) : (nthS l k).lo ≤ (nthS (put l r lo hi) k).lo ∧ (nthS (put l r lo hi) k).hi ≤ (nthS l k).hi := by
  rw [put_at l r lo hi hk]
  by_cases hc : k = r
  · subst hc; rw [if_pos rfl]; exact ⟨h1, h3⟩
  · rw [if_neg hc]; exact ⟨Int.le_refl _, Int.le_refl _⟩

/-- All that the law needs: e: the truth, e1 Can, e2 Sure, f1 and f2 of the narrower pair. -/
theorem within_law {l : List St} {t : List Int} {s r : Nat} {lo hi : Int} (ht : checkTruth l t = 0) (hs : s < l.length) (hr : r < l.length) (h1 : (nthS l r).lo ≤ lo) (h2 : lo ≤ hi) (h3 : hi ≤ (nthS l r).hi) :
    Wid l l t (ends l true) s (nthI t s) (nthS l s).lo ∧ Wid l l (ends l false) t s (nthS l s).hi (nthI t s) ∧ Wid (put l r lo hi) l (ends (put l r lo hi) true) (ends l true) s (nthS (put l r lo hi) s).lo (nthS l s).lo ∧
    Wid l (put l r lo hi) (ends l false) (ends (put l r lo hi) false) s (nthS l s).hi (nthS (put l r lo hi) s).hi ∧ Wid (put l r lo hi) (put l r lo hi) (ends (put l r lo hi) false) (ends (put l r lo hi) true) s (nthS (put l r lo hi) s).hi (nthS (put l r lo hi) s).lo := by
  have h := (truth_pair ht).1
  have hx := put_ok h hr h1 h2 h3
  have hl := put_len l r lo hi
  have hsx : s < (put l r lo hi).length := by rw [hl]; exact hs
  have v := valid_at l h s hs
  have vx := valid_at _ hx s hsx
  have tt := truth_le ht hs
  have pin := fun k (hk : k < l.length) => put_in (lo := lo) (hi := hi) h1 h3 hk
  refine ⟨⟨gd l h, gd l h, rfl, fun _ _ => rfl, truth_hb ht, hb l true h, hs, by omega, by omega, fun i hi => ?_, by omega⟩,
    ⟨gd l h, gd l h, rfl, fun _ _ => rfl, hb l false h, truth_hb ht, hs, by omega, by omega, fun i hi => ?_, by omega⟩,
    ⟨gd _ hx, gd l h, hl.symm, fun i hi => (put_a (by rw [← hl]; exact hi)).symm, hb _ true hx, hb l true h, hsx, by omega, by omega, fun i hi => ?_, (pin s hs).1⟩,
    ⟨gd l h, gd _ hx, hl, fun i hi => put_a hi, hb l false h, hb _ false hx, hs, by omega, by omega, fun i hi => ?_, (pin s hs).2⟩,
    ⟨gd _ hx, gd _ hx, rfl, fun _ _ => rfl, hb _ false hx, hb _ true hx, hsx, by omega, by omega, fun i hi => ?_, by omega⟩⟩
  · rw [ends_hi l hi]; exact (truth_le ht hi).2
  · rw [ends_lo l hi]; exact (truth_le ht hi).1
  · have hi' : i < l.length := by rw [← hl]; exact hi
    rw [ends_hi _ hi, ends_hi l hi']; exact (pin i hi').2
  · rw [ends_lo l hi, ends_lo _ (by rw [hl]; exact hi)]; exact (pin i hi).1
  · rw [ends_lo _ hi, ends_hi _ hi]; exact (valid_at _ hx i hi).2.2.2.1
theorem inside_over {l x : List St} {hs hs' hs2 hs2' : List Int} {s : Nat} {o o' o2 o2' : Int} (w : Wid x l hs hs' s o o') (w2 : Wid l x hs2 hs2' s o2 o2') : insideB (overR x hs s o).num (overR x hs s o).den (overR x hs2' s o2').num (overR x hs2' s o2').den (overR l hs' s o').num (overR l hs' s o').den (overR l hs2 s o2).num (overR l hs2 s o2).den = true := by
  have a := over_mem w.gl w.h1 w.s1 w.o1
  have b := over_mem w.gx w.h2 (by rw [w.len]; exact w.s1) w.o2
  have c := over_mem w2.gl w2.h1 w2.s1 w2.o1
  have d := over_mem w2.gx w2.h2 (by rw [w2.len]; exact w2.s1) w2.o2
  unfold insideB
  rw [lessW_le (a := ⟨(overR x hs s o).num, (overR x hs s o).den⟩) (b := ⟨(overR l hs' s o').num, (overR l hs' s o').den⟩) (by dsimp only; omega) (by dsimp only; omega) w.over,
    lessW_le (a := ⟨(overR l hs2 s o2).num, (overR l hs2 s o2).den⟩) (b := ⟨(overR x hs2' s o2').num, (overR x hs2' s o2').den⟩) (by dsimp only; omega) (by dsimp only; omega) w2.over]
  rfl
theorem small_over {l : List St} {hs hs2 : List Int} {s : Nat} {o o2 : Int} (hg : Gd l) (h1 : Hb l hs) (h2 : Hb l hs2) (hs1 : s < l.length) (ho : -1000 ≤ o ∧ o ≤ 1000) (ho2 : -1000 ≤ o2 ∧ o2 ≤ 1000) : smallR ⟨(overR l hs s o).num, (overR l hs s o).den⟩ ⟨(overR l hs2 s o2).num, (overR l hs2 s o2).den⟩ = true := by
  have a := over_mem hg h1 hs1 ho
  have b := over_mem hg h2 hs1 ho2
  unfold smallR
  rw [decide_eq_true_eq]
  dsimp only
  omega
end Ma
end Go.Proofs.Ytbjmkmambmeifaa

namespace Go.Proofs.Ytbjmkmambmeifaa
open Go.RowKit

theorem fine_all (l : List St) (vl : Value) (w : World) (h : RSt w w.heap.size vl l) :
    Calls Try.prog 37 #[vl] w fun e w' => e = .returned (.bool (fineB l)) ∧ Below w.heap.size w w' := by
  by_cases hg : 35 < l.length
  · obtain ⟨A, cap, b, off, rfl, _, _⟩ := h.cells
    have d1 : decide (35 < (l.length : Int)) = true := by simp; omega
    have HF := Lib.hid (show fineB l = false by unfold fineB; rw [checkPair, if_pos (.inr (by omega))]; rfl)
    go_enter Try.func37, Try.ntmps37
    go_wp2_with fail
    refine (great_any _ _ _ _).mono ?_
    rintro e w1 ⟨rfl, rfl⟩
    go_wp2_with fail
    go_ret
    exact ⟨by rw [HF.out]; rfl, by (repeat (first | with_reducible assumption | with_reducible exact Below.refl _ _ | (with_reducible refine Below.setCell ?_ (by first | omega | (simp; omega) | (simp; done)) _) | (with_reducible refine Below.alloc ?_ (by first | omega | (simp; omega) | (simp; done)) _) | (with_reducible refine Below.drew ?_) | (with_reducible refine belowN ?_ _) | assumption | exact Below.refl _ _ | (refine Below.alloc ?_ (by first | omega | (simp; omega) | (simp; done)) _) | (refine Below.drew ?_) | (refine belowN ?_ _) | (refine Below.setCell ?_ (by first | omega | (simp; omega) | (simp; done)) _)))⟩
  · exact fine_any l vl w (by omega) h
/-- A truth by numbers is one. -/
theorem truthR_ok {l : List St} (u : List Int) (hv : checkPair l = 0) (hu : ∀ k, k < u.length → 0 ≤ nthI u k ∧ nthI u k ≤ 65535) : checkTruth l (truthR l u) = 0 := by
  refine checkTruth_ok l _ hv (truthR_length l u) (fun k hk => ?_)
  unfold inSt
  rw [truthR_at l u k hk]
  have h := valid_at l hv k hk
  unfold truthAt
  have : 0 ≤ (if 0 < u.length then nthI u (k % u.length) % ((nthS l k).hi - (nthS l k).lo + 1) else 0) ∧ (if 0 < u.length then nthI u (k % u.length) % ((nthS l k).hi - (nthS l k).lo + 1) else 0) ≤ (nthS l k).hi - (nthS l k).lo := by
    split
    · have h1 := Int.emod_nonneg (nthI u (k % u.length)) (show (nthS l k).hi - (nthS l k).lo + 1 ≠ 0 by omega)
      have h2 := Int.emod_lt_of_pos (nthI u (k % u.length)) (show 0 < (nthS l k).hi - (nthS l k).lo + 1 by omega)
      omega
    · omega
  simp [inB]
  omega

theorem kindsP_len2 {l : List St} (hv : checkPair l = 0) : (kindsP l).length = l.length := by simp [kindsP, hv]
theorem groundV_ok {l : List St} (hv : checkPair l = 0) {s : Nat} (hs : s < l.length) : groundV l s = .tuple #[.agg #[.int .i64 (overR l (ends l true) s (nthS l s).lo).num, .int .i64 (overR l (ends l true) s (nthS l s).lo).den, .int .i64 (overR l (ends l false) s (nthS l s).hi).num, .int .i64 (overR l (ends l false) s (nthS l s).hi).den], .int .i64 0] := by
  unfold groundV
  rw [if_neg (by rw [checkStation, if_neg (by simpa using hv), if_pos (by omega)]; simp), Int.toNat_natCast]
theorem tiltsV_ok {l : List St} {t : List Int} (h : checkTruth l t = 0) {s : Nat} (hs : s < l.length) : tiltsV l t s = spanV l t s (nthI t s) := by
  unfold tiltsV
  rw [if_neg (by simpa using h), if_neg (by simp; omega), Int.toNat_natCast]

end Go.Proofs.Ytbjmkmambmeifaa

namespace Go.Proofs.Ytbjmkmambmeifaa
open Go.ChangeShapes Go.WideShapes Go.ChangeAt Go.RowKit Go.Deep

section
variable {H : Type} {enc : TypeId × Value → H} {w : World} {base : Nat} {spare : Nat → Bool} {held : Bool} {P : Program}
theorem okWide_arr {r : Reach} {b0 : Nat} {t : TypeId} {n : Nat} {e : TypeId} {v : Value} (ht : P.underlying t = some (.array n e)) (h : Value.okWide P w r b0 t v) : ∃ cs, v = .agg cs ∧ cs.size = P.cellsOf t := by
  simp only [Value.okWide, ht] at h
  obtain ⟨cs, h1, h2, _⟩ := h
  exact ⟨cs, h1, h2⟩
theorem arr_int {t e : TypeId} {n : Nat} {k : IntKind} (ht : P.underlying t = some (.array n e)) (he : P.underlying e = some (.int k)) (hc : P.cellsOf e = 1) {fuel : Nat} {cs : List Value} {x : DataW H × List MemPlace}
    (h : DataW.trod enc P w base spare held fuel t cs = some x) : ∀ i, i < n → ∃ m, cs[i]? = some (.int k m) ∧ (Lit.int k m).wf = true := by
  obtain ⟨xs, m, _, _, hcl, hxl, hf⟩ := DataW.trod_array ht h
  intro i hi
  have h1 := hf i hi
  rw [hc, Nat.mul_one] at h1
  rw [List.getElem?_eq_getElem (show i < xs.length by omega)] at h1
  obtain ⟨y, e0, _, w0⟩ := DataW.trod_int he h1
  refine ⟨y, ?_, w0⟩
  have : ((cs.drop i).take 1)[0]? = some (.int k y) := by rw [e0]; rfl
  rw [List.getElem?_take_of_lt (by decide), List.getElem?_drop] at this
  simpa using this
end
section
variable {H : Type} {enc : TypeId × Value → H} {w : World} {base : Nat} {spare : Nat → Bool} {held : Bool}
theorem cells5 : Try.prog.cellsOf 5 = 1 := by kernel_rfl
theorem cells51 : Try.prog.cellsOf 51 = 3 := by kernel_rfl
theorem cells66 : Try.prog.cellsOf 66 = 2 := by kernel_rfl
theorem byte_wf {n : Int} (h : (Lit.int .u8 n).wf = true) : ∃ m : Nat, n = m ∧ m ≤ 255 := by
  have hb : 0 ≤ n ∧ n ≤ 255 := by simpa [Lit.wf, IntKind.min, IntKind.max, IntKind.signed, IntKind.bits] using h
  exact ⟨n.toNat, by omega, by omega⟩
theorem word_wf {n : Int} (h : (Lit.int .u16 n).wf = true) : ∃ m : Nat, n = m ∧ m ≤ 65535 := by
  have hb : 0 ≤ n ∧ n ≤ 65535 := by simpa [Lit.wf, IntKind.min, IntKind.max, IntKind.signed, IntKind.bits] using h
  exact ⟨n.toNat, by omega, by omega⟩
set_option maxRecDepth 100000 in
theorem open_a3 {v : Value} {d : DataW H} {ps : List MemPlace} {r : Reach} {b0 : Nat} (hval : Value.okWide Try.prog w r b0 51 v) (hd : DataW.Trod enc Try.prog w base spare held 51 v d ps) : ∃ x y z : Nat, v = .agg #[.int .u8 x, .int .u8 y, .int .u8 z] ∧ x ≤ 255 ∧ y ≤ 255 ∧ z ≤ 255 := by
  obtain ⟨cs, rfl, hsz⟩ := okWide_arr Try.underlying51 hval
  obtain ⟨fuel, hd⟩ := hd
  have hA := arr_int Try.underlying51 Try.underlying5 cells5 hd
  obtain ⟨x, h0, w0⟩ := hA 0 (by decide)
  obtain ⟨y, h1, w1⟩ := hA 1 (by decide)
  obtain ⟨z, h2, w2⟩ := hA 2 (by decide)
  obtain ⟨x, rfl, q0⟩ := byte_wf w0
  obtain ⟨y, rfl, q1⟩ := byte_wf w1
  obtain ⟨z, rfl, q2⟩ := byte_wf w2
  refine ⟨x, y, z, ?_, q0, q1, q2⟩
  rw [cells51] at hsz
  congr 1
  apply Array.ext
  · simpa using hsz
  · intro i hi _
    have hc : ∀ j (hj : j < cs.size) v, (Value.agg cs).cells.toList[j]? = some v → cs[j] = v := by
      intro j hj v hv
      have hv' : cs.toList[j]? = some v := hv
      rw [Array.getElem?_toList, Array.getElem?_eq_getElem hj] at hv'
      exact Option.some.inj hv'
    match i, hi with
    | 0, hi => exact hc 0 hi _ h0
    | 1, hi => exact hc 1 hi _ h1
    | 2, hi => exact hc 2 hi _ h2
    | i + 3, hi => omega
set_option maxRecDepth 100000 in
theorem open_a2 {v : Value} {d : DataW H} {ps : List MemPlace} {r : Reach} {b0 : Nat} (hval : Value.okWide Try.prog w r b0 66 v) (hd : DataW.Trod enc Try.prog w base spare held 66 v d ps) : ∃ x y : Nat, v = .agg #[.int .u16 x, .int .u16 y] ∧ x ≤ 65535 ∧ y ≤ 65535 := by
  obtain ⟨cs, rfl, hsz⟩ := okWide_arr Try.underlying66 hval
  obtain ⟨fuel, hd⟩ := hd
  have hA := arr_int Try.underlying66 Try.underlying65 cells65 hd
  obtain ⟨x, h0, w0⟩ := hA 0 (by decide)
  obtain ⟨y, h1, w1⟩ := hA 1 (by decide)
  obtain ⟨x, rfl, q0⟩ := word_wf w0
  obtain ⟨y, rfl, q1⟩ := word_wf w1
  refine ⟨x, y, ?_, q0, q1⟩
  rw [cells66] at hsz
  congr 1
  apply Array.ext
  · simpa using hsz
  · intro i hi _
    have hc : ∀ j (hj : j < cs.size) v, (Value.agg cs).cells.toList[j]? = some v → cs[j] = v := by
      intro j hj v hv
      have hv' : cs.toList[j]? = some v := hv
      rw [Array.getElem?_toList, Array.getElem?_eq_getElem hj] at hv'
      exact Option.some.inj hv'
    match i, hi with
    | 0, hi => exact hc 0 hi _ h0
    | 1, hi => exact hc 1 hi _ h1
    | i + 2, hi => omega
end
end Go.Proofs.Ytbjmkmambmeifaa

namespace Go.Proofs.Ytbjmkmambmeifaa
open Go.RowKit

theorem app_all {W : World} {base B : Nat} {v src : Value} {l : List St} (h : W.ownsRow base 62 3 v 0 []) (hs : RSt W B src l) (hn0 : 0 < l.length) (hn : l.length ≤ 1000) (hbase : base ≤ W.heap.size) :
    ∃ g cap w2 cur, (Builtin.append_ #[22, 22] 22 #[v, src]).run Try.prog W = .ok (.slice (some ⟨g, 0, none⟩) l.length cap) w2 ∧ BK w2 g cur 62 ∧ base ≤ g ∧ l.length ≤ cap ∧ cur.size = cap * 3 ∧ cur.toList.take (l.length * 3) = ofS l ∧
      (∀ w0, Below base w0 W → Below base w0 w2) ∧ W.heap.size ≤ w2.heap.size := by
  obtain ⟨A, c, b, off, hv, hl, hA, hc⟩ := hs
  obtain ⟨rfl, hb⟩ := hA (by omega)
  subst hv
  obtain ⟨i0, hi0, hz0, hz1, hz2⟩ := info_parts st_info
  obtain ⟨v', w2, hrun, hown', hgr, hnil, _⟩ := run_append_own_at (P := Try.prog) (w := W) base 22 22 62 i0 _ 3 24 st_slice hi0 hz0 hz1 hz2 rfl (by decide) v 0 [] h ⟨b, off, none⟩ l.length c (ofS l) (ofS_length l)
    (fun j u hu => by
      have hj : j < (ofS l).length := (List.getElem?_eq_some_iff.1 hu).1
      have e : (⟨b, off, none⟩ : Addr).add j = ⟨b, off + j, none⟩ := by unfold Addr.add; split <;> simp_all
      rw [e, hc j hj]; exact hu)
    (fun u hu => by
      obtain ⟨s, _, hs⟩ := List.mem_flatMap.1 hu
      simp at hs
      rcases hs with rfl | rfl | rfl <;> rfl) (by unfold maxLen; omega) (by omega) hbase
  obtain ⟨hl2, h2⟩ := hown'
  rcases h2 with ⟨_, hz⟩ | ⟨g, cap, cur, hv, hbg, hh, h3, h4, h5, h6⟩
  · omega
  · rw [Nat.zero_add] at hv h3 h6
    rw [List.nil_append] at h6
    subst hv
    refine ⟨g, cap, w2, cur, hrun, hh, hbg, h3, h5, h6, fun w0 hbw => Below.grown hbw hgr hbase fun k hk => (h.lt k hk).1, hgr.size⟩
/-- The copy with a High changed. -/
theorem put_rs {W : World} {g cap r T : Nat} {cur : Array Value} {l : List St} {lo hi : Int} (hb : BK W g ((cur.setIfInBounds (r * 3 + 1) (.int .i64 lo)).setIfInBounds (r * 3 + 2) (.int .i64 hi)) T) (hsz : cur.size = cap * 3) (hcap : l.length ≤ cap) (htk : cur.toList.take (l.length * 3) = ofS l) (hr : r < l.length) :
    RSt W W.heap.size (.slice (some ⟨g, 0, none⟩) l.length cap) (Ma.put l r lo hi) := by
  have hlen := Ma.put_len l r lo hi
  refine ⟨some ⟨g, 0, none⟩, cap, g, 0, by rw [hlen], ⟨by rw [ofS_length], by rw [hlen]; exact hcap⟩, fun _ => ⟨rfl, hb.lt⟩, fun j hj => ?_⟩
  rw [ofS_length, hlen] at hj
  rw [Nat.zero_add, hb.cell]
  obtain ⟨k, c, hk, hc, rfl⟩ : ∃ k c, k < l.length ∧ c < 3 ∧ j = k * 3 + c := ⟨j / 3, j % 3, by omega, Nat.mod_lt _ (by decide), by omega⟩
  have h3 := ofS_at (Ma.put l r lo hi) k (by rw [hlen]; exact hk)
  have h4 := ofS_at l k hk
  rw [Ma.put_at l r lo hi hk] at h3
  have hold : ∀ i, i < l.length * 3 → cur[i]? = (ofS l)[i]? := by
    intro i hi
    rw [← htk, List.getElem?_take_of_lt hi, Array.getElem?_toList]
  have hkc : k * 3 + c < cur.size := by rw [hsz]; omega
  rw [Array.getElem?_setIfInBounds, Array.getElem?_setIfInBounds]
  by_cases hkr : k = r
  · subst hkr
    rw [if_pos rfl] at h3
    obtain ⟨q0, q1, q2⟩ := h3
    match c, hc with
    | 0, _ =>
      rw [if_neg (by omega), if_neg (by omega), hold _ (by omega)]
      exact h4.1.trans q0.symm
    | 1, _ =>
      rw [if_neg (by omega), if_pos rfl, if_pos (by omega)]
      exact q1.symm
    | 2, _ =>
      rw [if_pos rfl, if_pos (by simp; omega)]
      exact q2.symm
  · rw [if_neg hkr] at h3
    rw [if_neg (by omega), if_neg (by omega), hold _ (by omega)]
    obtain ⟨q0, q1, q2⟩ := h3
    obtain ⟨p0, p1, p2⟩ := h4
    match c, hc with
    | 0, _ => exact p0.trans q0.symm
    | 1, _ => exact p1.trans q1.symm
    | 2, _ => exact p2.trans q2.symm
end Go.Proofs.Ytbjmkmambmeifaa

namespace Go.Proofs.Ytbjmkmambmeifaa
open Go.RowKit

set_option maxRecDepth 100000 in
theorem within_no (l : List St) (u : List Int) (st rw' x y : Nat) (vl vu : Value) (w : World) (hl : fineB l = false ∨ 40 < u.length) (h : RSt w w.heap.size vl l) (h' : RU w w.heap.size vu u) :
    Calls Try.prog 10 #[vl, vu, .int .u8 st, .int .u8 rw', .agg #[.int .u16 x, .int .u16 y]] w fun e w' => e = .returned (.bool true) ∧ Below w.heap.size w w' := by
  obtain ⟨A2, cap2, bu, offu, rfl, _, _⟩ := h'
  have hf := fun W (hb : Below w.heap.size w W) => fine_all l vl W ((RS.below h hb).more hb.size)
  obtain ⟨p, hp⟩ : ∃ p, fineB l = p := ⟨_, rfl⟩
  obtain ⟨q, hq⟩ : ∃ q, decide (40 < (u.length : Int)) = q := ⟨_, rfl⟩
  have ho : p = false ∨ (p = true ∧ q = true) := by
    rcases hl with hl | hl
    · exact .inl (hp.symm.trans hl)
    · cases p with
      | false => exact .inl rfl
      | true => exact .inr ⟨rfl, by rw [← hq]; simp; omega⟩
  rw [hp] at hf
  have HF := Lib.hid hf
  clear hl hf h hp
  rcases ho with rfl | ⟨rfl, rfl⟩
  all_goals
    go_enter Try.func10, Try.ntmps10
    go_wp2_with fail
    refine (HF.out _ (by (repeat (first | with_reducible assumption | with_reducible exact Below.refl _ _ | (with_reducible refine Below.setCell ?_ (by first | omega | (simp; omega) | (simp; done)) _) | (with_reducible refine Below.alloc ?_ (by first | omega | (simp; omega) | (simp; done)) _) | (with_reducible refine Below.drew ?_) | (with_reducible refine belowN ?_ _) | assumption | exact Below.refl _ _ | (refine Below.alloc ?_ (by first | omega | (simp; omega) | (simp; done)) _) | (refine Below.drew ?_) | (refine belowN ?_ _) | (refine Below.setCell ?_ (by first | omega | (simp; omega) | (simp; done)) _))))).mono ?_
    rintro e w1 ⟨rfl, hb0⟩
    have hB1 : Below w.heap.size w w1 := (Below.trans (a := w) (B := w.heap.size) (by (repeat (first | with_reducible assumption | with_reducible exact Below.refl _ _ | (with_reducible refine Below.setCell ?_ (by first | omega | (simp; omega) | (simp; done)) _) | (with_reducible refine Below.alloc ?_ (by first | omega | (simp; omega) | (simp; done)) _) | (with_reducible refine Below.drew ?_) | (with_reducible refine belowN ?_ _) | assumption | exact Below.refl _ _ | (refine Below.alloc ?_ (by first | omega | (simp; omega) | (simp; done)) _) | (refine Below.drew ?_) | (refine belowN ?_ _) | (refine Below.setCell ?_ (by first | omega | (simp; omega) | (simp; done)) _)))) (hb0.mono (by first | omega | (simp; omega) | (simp; done))))
    clear hb0
    go_wp2_with fail
    refine (works_any _).mono ?_
    rintro e w2 ⟨rfl, hb1⟩
    go_wp2_with fail
    go_ret
    exact ⟨rfl, hB1.trans (hb1.mono hB1.size)⟩

/-- The ends of a span that is returned. -/
def spN (l : List St) (hs : List Int) (s : Nat) (own : Int) (r : Ra) (f : Ra → Int) : Int := if spanE l hs s own = 0 then f r else 0
theorem spanV_full (l : List St) (hs : List Int) (s : Nat) (own : Int) : spanV l hs s own = .tuple #[.agg #[.int .i64 (spN l hs s own (loB l hs s own) Ra.num), .int .i64 (spN l hs s own (loB l hs s own) Ra.den), .int .i64 (spN l hs s own (hiB l hs s own) Ra.num), .int .i64 (spN l hs s own (hiB l hs s own) Ra.den)], .int .i64 (spanE l hs s own)] := by
  unfold spN spanV spanE
  split <;> simp_all
theorem spN_0 {l : List St} {hs : List Int} {s : Nat} {own : Int} {r : Ra} {f : Ra → Int} (h : spanE l hs s own = 0) : spN l hs s own r f = f r := by unfold spN; rw [if_pos h]
theorem small_true {a b c d : Int} (h : smallR ⟨a, b⟩ ⟨c, d⟩ = true) (W : World) : Calls Try.prog 43 #[.agg #[.int .i64 a, .int .i64 b, .int .i64 c, .int .i64 d]] W fun e w' => e = .returned (.bool true) ∧ Below W.heap.size W w' :=
  (small_any a b c d W).mono fun e w' ⟨he, hw⟩ => ⟨by rw [he, h], by rw [← hw]; (repeat (first | with_reducible assumption | with_reducible exact Below.refl _ _ | (with_reducible refine Below.setCell ?_ (by first | omega | (simp; omega) | (simp; done)) _) | (with_reducible refine Below.alloc ?_ (by first | omega | (simp; omega) | (simp; done)) _) | (with_reducible refine Below.drew ?_) | (with_reducible refine belowN ?_ _) | assumption | exact Below.refl _ _ | (refine Below.alloc ?_ (by first | omega | (simp; omega) | (simp; done)) _) | (refine Below.drew ?_) | (refine belowN ?_ _) | (refine Below.setCell ?_ (by first | omega | (simp; omega) | (simp; done)) _)))⟩
theorem inside_true {a b c d a' b' c' d' : Int} (h : insideB a b c d a' b' c' d' = true) (W : World) : Calls Try.prog 44 #[.agg #[.int .i64 a, .int .i64 b, .int .i64 c, .int .i64 d], .agg #[.int .i64 a', .int .i64 b', .int .i64 c', .int .i64 d']] W fun e w' => e = .returned (.bool true) ∧ Below W.heap.size W w' :=
  (inside_any a b c d a' b' c' d' W).mono fun e w' ⟨he, hw⟩ => ⟨by rw [he, h], hw⟩

theorem combos {e e1 e2 f1 f2 : Int} (c1 : e = 0 → e1 = 0) (c2 : e2 = 0 → e = 0) (c3 : f1 = 0 → e1 = 0) (c4 : e2 = 0 → f2 = 0) (c5 : f2 = 0 → f1 = 0) (we : e = 0 ∨ e = 22) (we1 : e1 = 0 ∨ e1 = 22) (we2 : e2 = 0 ∨ e2 = 22) (wf1 : f1 = 0 ∨ f1 = 22) (wf2 : f2 = 0 ∨ f2 = 22) :
    (e1 = 22 ∧ e = 22 ∧ e2 = 22 ∧ f1 = 22 ∧ f2 = 22) ∨ (e1 = 0 ∧ e = 22 ∧ e2 = 22 ∧ f1 = 22 ∧ f2 = 22) ∨ (e1 = 0 ∧ e = 22 ∧ e2 = 22 ∧ f1 = 0 ∧ f2 = 22) ∨ (e1 = 0 ∧ e = 22 ∧ e2 = 22 ∧ f1 = 0 ∧ f2 = 0) ∨
      (e1 = 0 ∧ e = 0 ∧ e2 = 22 ∧ f1 = 22 ∧ f2 = 22) ∨ (e1 = 0 ∧ e = 0 ∧ e2 = 22 ∧ f1 = 0 ∧ f2 = 22) ∨ (e1 = 0 ∧ e = 0 ∧ e2 = 22 ∧ f1 = 0 ∧ f2 = 0) ∨ (e1 = 0 ∧ e = 0 ∧ e2 = 0 ∧ f1 = 0 ∧ f2 = 0) := by
  rcases we with rfl | rfl <;> rcases we1 with rfl | rfl <;> rcases we2 with rfl | rfl <;> rcases wf1 with rfl | rfl <;> rcases wf2 with rfl | rfl <;> simp_all
theorem small_sp {l : List St} {hs : List Int} {s : Nat} {own : Int} (hg : Ma.Gd l) (hh : Ma.Hb l hs) (hs1 : s < l.length) (ho : -1000 ≤ own ∧ own ≤ 1000) (e : spanE l hs s own = 0) :
    smallR ⟨spN l hs s own (loB l hs s own) Ra.num, spN l hs s own (loB l hs s own) Ra.den⟩ ⟨spN l hs s own (hiB l hs s own) Ra.num, spN l hs s own (hiB l hs s own) Ra.den⟩ = true := by
  rw [spN_0 e, spN_0 e, spN_0 e, spN_0 e]; exact Ma.small_span hg hh hs1 ho
theorem inside_sp {l x : List St} {hs hs' : List Int} {s : Nat} {own own' : Int} (w : Ma.Wid l x hs hs' s own own') (e : spanE l hs s own = 0) :
    insideB (spN l hs s own (loB l hs s own) Ra.num) (spN l hs s own (loB l hs s own) Ra.den) (spN l hs s own (hiB l hs s own) Ra.num) (spN l hs s own (hiB l hs s own) Ra.den)
      (spN x hs' s own' (loB x hs' s own') Ra.num) (spN x hs' s own' (loB x hs' s own') Ra.den) (spN x hs' s own' (hiB x hs' s own') Ra.num) (spN x hs' s own' (hiB x hs' s own') Ra.den) = true := by
  have e' := w.err e
  rw [spN_0 e, spN_0 e, spN_0 e, spN_0 e, spN_0 e', spN_0 e', spN_0 e', spN_0 e']; exact w.inside

set_option maxRecDepth 100000 in
set_option maxHeartbeats 16000000 in
theorem within_yes (l : List St) (u : List Int) (st ro x y : Nat) (vl vu : Value) (w : World) (hv : checkPair l = 0) (hu : ¬ 40 < u.length) (hst : st ≤ 255) (hro : ro ≤ 255) (hxy : x ≤ 65535 ∧ y ≤ 65535) (hub : ∀ k, k < u.length → 0 ≤ nthI u k ∧ nthI u k ≤ 65535) (h : RSt w w.heap.size vl l) (h' : RU w w.heap.size vu u) :
    Calls Try.prog 10 #[vl, vu, .int .u8 st, .int .u8 ro, .agg #[.int .u16 x, .int .u16 y]] w fun e w' => e = .returned (.bool true) ∧ Below w.heap.size w w' := by
  have hn := checkPair_len l hv
  obtain ⟨s, hse⟩ : ∃ s, st % l.length = s := ⟨_, rfl⟩
  obtain ⟨r, hre⟩ : ∃ r, ro % l.length = r := ⟨_, rfl⟩
  have hs : s < l.length := by rw [← hse]; exact Nat.mod_lt _ hn.1
  have hr : r < l.length := by rw [← hre]; exact Nat.mod_lt _ hn.1
  have hmod : (st : Int) % (l.length : Int) = (s : Int) := by rw [← hse]; omega
  have hmod2 : (ro : Int) % (l.length : Int) = (r : Int) := by rw [← hre]; omega
  have vr := valid_at l hv r hr
  obtain ⟨lo', hlo⟩ : ∃ a, min (nthS l r).hi ((nthS l r).lo + x) = a := ⟨_, rfl⟩
  obtain ⟨hi', hhi⟩ : ∃ a, max lo' ((nthS l r).hi - y) = a := ⟨_, rfl⟩
  have b1 : (nthS l r).lo ≤ lo' := by omega
  have b2 : lo' ≤ hi' := by omega
  have b3 : hi' ≤ (nthS l r).hi := by omega
  have hF := fun W (hb : Below w.heap.size w W) => fine_all l vl W ((RS.below h hb).more hb.size)
  rw [show fineB l = true from decide_eq_true hv] at hF
  have htv := truthR_ok u hv hub
  have hTr := fun W (hb : Below w.heap.size w W) => truth_any l u vl vu W hv (by omega) hub ((RS.below h hb).more hb.size) ((RS.below h' hb).more hb.size)
  have hTi := fun W v (hb : Below w.heap.size w W) (hr : RI W W.heap.size v (truthR l u)) => tilts_any l (truthR l u) s vl v W (by omega) (by rw [truthR_length]; omega) ((RS.below h hb).more hb.size) hr
  have hCan := fun W (hb : Below w.heap.size w W) => canP_any l s vl W (by omega) ((RS.below h hb).more hb.size)
  have hSure := fun W (hb : Below w.heap.size w W) => sureP_any l s vl W (by omega) ((RS.below h hb).more hb.size)
  have hGr := fun W (hb : Below w.heap.size w W) => groundP_any l s vl W (by omega) ((RS.below h hb).more hb.size)
  have hxv := Ma.put_ok hv hr b1 b2 b3
  have hxl := Ma.put_len l r lo' hi'
  have hsx : s < (Ma.put l r lo' hi').length := by rw [hxl]; exact hs
  have hCan2 := fun W v (hx : RSt W W.heap.size v (Ma.put l r lo' hi')) => canP_any _ s v W (by omega) hx
  have hSure2 := fun W v (hx : RSt W W.heap.size v (Ma.put l r lo' hi')) => sureP_any _ s v W (by omega) hx
  have hGr2 := fun W v (hx : RSt W W.heap.size v (Ma.put l r lo' hi')) => groundP_any _ s v W (by omega) hx
  rw [canV_ok l hv s hs, spanV_full] at hCan
  rw [sureV_ok l hv s hs, spanV_full] at hSure
  simp only [groundV_ok hv hs] at hGr
  simp only [tiltsV_ok htv hs, spanV_full] at hTi
  simp only [canV_ok _ hxv s hsx, spanV_full] at hCan2
  simp only [sureV_ok _ hxv s hsx, spanV_full] at hSure2
  simp only [groundV_ok hxv hsx] at hGr2
  obtain ⟨W1, W2, W3, W4, W5⟩ := Ma.within_law htv hs hr b1 b2 b3
  have St := small_sp W1.gl W1.h1 W1.s1 W1.o1
  have Sc := small_sp W1.gx W1.h2 W1.s1 W1.o2
  have Sv := small_sp W2.gl W2.h1 W2.s1 W2.o1
  have Sd := small_sp W5.gx W5.h2 W5.s1 W5.o2
  have Sz := small_sp W5.gl W5.h1 W5.s1 W5.o1
  have Sg := Ma.small_over (hs := ends l true) (hs2 := ends l false) W1.gl W1.h2 W2.h1 hs W1.o2 W2.o1
  have Sk := Ma.small_over (hs := ends (Ma.put l r lo' hi') true) (hs2 := ends (Ma.put l r lo' hi') false) W5.gl W5.h2 W5.h1 hsx W5.o2 W5.o1
  have Itc := inside_sp W1
  have Ivt := inside_sp W2
  have Idc := inside_sp W3
  have Ivz := inside_sp W4
  have Ikg := Ma.inside_over W3 W4
  have c1 := W1.err
  have c2 := W2.err
  have c3 := W3.err
  have c4 := W4.err
  have c5 := W5.err
  have we := Ma.spanE_two l (truthR l u) s (nthI (truthR l u) s)
  have we1 := Ma.spanE_two l (ends l true) s (nthS l s).lo
  have we2 := Ma.spanE_two l (ends l false) s (nthS l s).hi
  have wf1 := Ma.spanE_two (Ma.put l r lo' hi') (ends (Ma.put l r lo' hi') true) s (nthS (Ma.put l r lo' hi') s).lo
  have wf2 := Ma.spanE_two (Ma.put l r lo' hi') (ends (Ma.put l r lo' hi') false) s (nthS (Ma.put l r lo' hi') s).hi
  clear W1 W2 W3 W4 W5
  generalize spN l (truthR l u) s (nthI (truthR l u) s) (loB l (truthR l u) s (nthI (truthR l u) s)) Ra.num = t1 at *
  generalize spN l (truthR l u) s (nthI (truthR l u) s) (loB l (truthR l u) s (nthI (truthR l u) s)) Ra.den = t2 at *
  generalize spN l (truthR l u) s (nthI (truthR l u) s) (hiB l (truthR l u) s (nthI (truthR l u) s)) Ra.num = t3 at *
  generalize spN l (truthR l u) s (nthI (truthR l u) s) (hiB l (truthR l u) s (nthI (truthR l u) s)) Ra.den = t4 at *
  generalize spN l (ends l true) s (nthS l s).lo (loB l (ends l true) s (nthS l s).lo) Ra.num = c1 at *
  generalize spN l (ends l true) s (nthS l s).lo (loB l (ends l true) s (nthS l s).lo) Ra.den = c2 at *
  generalize spN l (ends l true) s (nthS l s).lo (hiB l (ends l true) s (nthS l s).lo) Ra.num = c3 at *
  generalize spN l (ends l true) s (nthS l s).lo (hiB l (ends l true) s (nthS l s).lo) Ra.den = c4 at *
  generalize spN l (ends l false) s (nthS l s).hi (loB l (ends l false) s (nthS l s).hi) Ra.num = v1 at *
  generalize spN l (ends l false) s (nthS l s).hi (loB l (ends l false) s (nthS l s).hi) Ra.den = v2 at *
  generalize spN l (ends l false) s (nthS l s).hi (hiB l (ends l false) s (nthS l s).hi) Ra.num = v3 at *
  generalize spN l (ends l false) s (nthS l s).hi (hiB l (ends l false) s (nthS l s).hi) Ra.den = v4 at *
  generalize spN (Ma.put l r lo' hi') (ends (Ma.put l r lo' hi') true) s (nthS (Ma.put l r lo' hi') s).lo (loB (Ma.put l r lo' hi') (ends (Ma.put l r lo' hi') true) s (nthS (Ma.put l r lo' hi') s).lo) Ra.num = m1 at *
  generalize spN (Ma.put l r lo' hi') (ends (Ma.put l r lo' hi') true) s (nthS (Ma.put l r lo' hi') s).lo (loB (Ma.put l r lo' hi') (ends (Ma.put l r lo' hi') true) s (nthS (Ma.put l r lo' hi') s).lo) Ra.den = m2 at *
  generalize spN (Ma.put l r lo' hi') (ends (Ma.put l r lo' hi') true) s (nthS (Ma.put l r lo' hi') s).lo (hiB (Ma.put l r lo' hi') (ends (Ma.put l r lo' hi') true) s (nthS (Ma.put l r lo' hi') s).lo) Ra.num = m3 at *
  generalize spN (Ma.put l r lo' hi') (ends (Ma.put l r lo' hi') true) s (nthS (Ma.put l r lo' hi') s).lo (hiB (Ma.put l r lo' hi') (ends (Ma.put l r lo' hi') true) s (nthS (Ma.put l r lo' hi') s).lo) Ra.den = m4 at *
  generalize spN (Ma.put l r lo' hi') (ends (Ma.put l r lo' hi') false) s (nthS (Ma.put l r lo' hi') s).hi (loB (Ma.put l r lo' hi') (ends (Ma.put l r lo' hi') false) s (nthS (Ma.put l r lo' hi') s).hi) Ra.num = z1 at *
  generalize spN (Ma.put l r lo' hi') (ends (Ma.put l r lo' hi') false) s (nthS (Ma.put l r lo' hi') s).hi (loB (Ma.put l r lo' hi') (ends (Ma.put l r lo' hi') false) s (nthS (Ma.put l r lo' hi') s).hi) Ra.den = z2 at *
  generalize spN (Ma.put l r lo' hi') (ends (Ma.put l r lo' hi') false) s (nthS (Ma.put l r lo' hi') s).hi (hiB (Ma.put l r lo' hi') (ends (Ma.put l r lo' hi') false) s (nthS (Ma.put l r lo' hi') s).hi) Ra.num = z3 at *
  generalize spN (Ma.put l r lo' hi') (ends (Ma.put l r lo' hi') false) s (nthS (Ma.put l r lo' hi') s).hi (hiB (Ma.put l r lo' hi') (ends (Ma.put l r lo' hi') false) s (nthS (Ma.put l r lo' hi') s).hi) Ra.den = z4 at *
  generalize spanE l (truthR l u) s (nthI (truthR l u) s) = e at *
  generalize spanE l (ends l true) s (nthS l s).lo = e1 at *
  generalize spanE l (ends l false) s (nthS l s).hi = e2 at *
  generalize spanE (Ma.put l r lo' hi') (ends (Ma.put l r lo' hi') true) s (nthS (Ma.put l r lo' hi') s).lo = f1 at *
  generalize spanE (Ma.put l r lo' hi') (ends (Ma.put l r lo' hi') false) s (nthS (Ma.put l r lo' hi') s).hi = f2 at *
  generalize overR l (ends l true) s (nthS l s).lo = g1 at *
  generalize overR l (ends l false) s (nthS l s).hi = g2 at *
  generalize overR (Ma.put l r lo' hi') (ends (Ma.put l r lo' hi') true) s (nthS (Ma.put l r lo' hi') s).lo = k1 at *
  generalize overR (Ma.put l r lo' hi') (ends (Ma.put l r lo' hi') false) s (nthS (Ma.put l r lo' hi') s).hi = k2 at *
  have HW : (e1 = 22 ∧ e = 22 ∧ e2 = 22 ∧ f1 = 22 ∧ f2 = 22) ∨ (e1 = 0 ∧ e = 22 ∧ e2 = 22 ∧ f1 = 22 ∧ f2 = 22) ∨ (e1 = 0 ∧ e = 22 ∧ e2 = 22 ∧ f1 = 0 ∧ f2 = 22) ∨ (e1 = 0 ∧ e = 22 ∧ e2 = 22 ∧ f1 = 0 ∧ f2 = 0) ∨
      (e1 = 0 ∧ e = 0 ∧ e2 = 22 ∧ f1 = 22 ∧ f2 = 22) ∨ (e1 = 0 ∧ e = 0 ∧ e2 = 22 ∧ f1 = 0 ∧ f2 = 22) ∨ (e1 = 0 ∧ e = 0 ∧ e2 = 22 ∧ f1 = 0 ∧ f2 = 0) ∨ (e1 = 0 ∧ e = 0 ∧ e2 = 0 ∧ f1 = 0 ∧ f2 = 0) := combos c1 c2 c3 c4 c5 we we1 we2 wf1 wf2
  clear c1 c2 c3 c4 c5 we we1 we2 wf1 wf2
  generalize truthR l u = tt at *
  have HTL : tt.length = tt.length := rfl
  clear HTL hxv hxl hsx htv vr
  have HP : ∀ (w1 : World) (g cap : Nat) (cur : Array Value) (T : Nat), BK w1 g ((cur.setIfInBounds (r * 3 + 1) (.int .i64 lo')).setIfInBounds (r * 3 + 2) (.int .i64 hi')) T → cur.size = cap * 3 → l.length ≤ cap → cur.toList.take (l.length * 3) = ofS l → RSt w1 w1.heap.size (.slice (some ⟨g, 0, none⟩) l.length cap) (Ma.put l r lo' hi') := fun w1 g cap cur T hb hsz hcap htk => put_rs hb hsz hcap htk hr
  generalize (Ma.put l r lo' hi') = X at *
  have HF := Lib.hid hF; have HT := Lib.hid hTr; have HTI := Lib.hid hTi; have HC := Lib.hid hCan; have HS := Lib.hid hSure; have HG := Lib.hid hGr; have HC2 := Lib.hid hCan2; have HS2 := Lib.hid hSure2; have HG2 := Lib.hid hGr2
  have HSt := Lib.hid St; have HSc := Lib.hid Sc; have HSv := Lib.hid Sv; have HSd := Lib.hid Sd; have HSz := Lib.hid Sz; have HSg := Lib.hid Sg; have HSk := Lib.hid Sk; have HItc := Lib.hid Itc; have HIvt := Lib.hid Ivt; have HIdc := Lib.hid Idc; have HIvz := Lib.hid Ivz; have HIkg := Lib.hid Ikg
  have HPR := Lib.hid HP; have HRS := Lib.hid h; have HLO := Lib.hid hlo; have HHI := Lib.hid hhi; have HB := Lib.hid (And.intro b1 (And.intro b2 b3)); have HVS := Lib.hid (valid_at l hv r hr)
  clear hF hTr hTi hCan hSure hGr hCan2 hSure2 hGr2 St Sc Sv Sd Sz Sg Sk Itc Ivt Idc Ivz Ikg HP hlo hhi b1 b2 b3 hv hub
  obtain ⟨A, cap, b, off, rfl, hA, hcl⟩ := h.cells
  obtain ⟨rfl, hbl⟩ := hA (by omega)
  clear hA
  have HCL := Lib.hid (hcl r hr)
  clear hcl h
  obtain ⟨A2, cap2, bu, offu, rfl, q1, q2, q3⟩ := h'
  clear q1 q2 q3
  have d2 : decide (40 < (u.length : Int)) = false := by simp; omega
  have hC : Below w.heap.size w w := Below.refl _ _
  have HSE := Lib.hid hse; have HRE := Lib.hid hre
  clear hse hre hu
  rcases HW with ⟨rfl, rfl, rfl, rfl, rfl⟩ | ⟨rfl, rfl, rfl, rfl, rfl⟩ | ⟨rfl, rfl, rfl, rfl, rfl⟩ | ⟨rfl, rfl, rfl, rfl, rfl⟩ | ⟨rfl, rfl, rfl, rfl, rfl⟩ | ⟨rfl, rfl, rfl, rfl, rfl⟩ | ⟨rfl, rfl, rfl, rfl, rfl⟩ | ⟨rfl, rfl, rfl, rfl, rfl⟩
  all_goals
    go_enter Try.func10, Try.ntmps10
    go_wp2_with fail
    have bx : BK (w.alloc (.cells #[.int .u16 x, .int .u16 y] 66)) w.heap.size #[.int .u16 x, .int .u16 y] 66 := BK.new _ _ _
    have hC2 : Below w.heap.size w (w.alloc (.cells #[.int .u16 x, .int .u16 y] 66)) := by (repeat (first | with_reducible assumption | with_reducible exact Below.refl _ _ | (with_reducible refine Below.setCell ?_ (by first | omega | (simp; omega) | (simp; done)) _) | (with_reducible refine Below.alloc ?_ (by first | omega | (simp; omega) | (simp; done)) _) | (with_reducible refine Below.drew ?_) | (with_reducible refine belowN ?_ _) | assumption | exact Below.refl _ _ | (refine Below.alloc ?_ (by first | omega | (simp; omega) | (simp; done)) _) | (refine Below.drew ?_) | (refine belowN ?_ _) | (refine Below.setCell ?_ (by first | omega | (simp; omega) | (simp; done)) _)))
    clear hC; have hC := hC2; clear hC2
    obtain ⟨gbx, hgbx⟩ : ∃ g, w.heap.size = g := ⟨_, rfl⟩
    rw [hgbx] at bx
    try rw [hgbx]
    generalize (w.alloc (.cells #[.int .u16 x, .int .u16 y] 66)) = wa at *
    clear hgbx
    refine (HF.out _ hC).mono ?_
    rintro e_ wa ⟨rfl, hb⟩
    have hC2 : Below w.heap.size w wa := hC.trans (hb.mono hC.size)
    clear hC; have hC := hC2; clear hC2
    have bx_ := bx.below hb bx.lt; clear bx; have bx := bx_; clear bx_
    clear hb
    have lbx := bx.lt
    have bxc0 := bx.cell 0
    have bxc1 := bx.cell 1
    simp at bxc0 bxc1
    go_wp2_with fail
    clear lbx bxc0 bxc1
    refine (HT.out _ hC).mono ?_
    rintro e_ wa ⟨vt, rfl, ht, hb⟩
    have hC2 : Below w.heap.size w wa := hC.trans (hb.mono hC.size)
    clear hC; have hC := hC2; clear hC2
    have bx_ := bx.below hb bx.lt; clear bx; have bx := bx_; clear bx_
    clear hb
    have lbx := bx.lt
    have bxc0 := bx.cell 0
    have bxc1 := bx.cell 1
    simp at bxc0 bxc1
    go_wp2_with fail
    clear lbx bxc0 bxc1
    refine (HTI.out _ vt hC ht).mono ?_
    rintro e_ wa ⟨rfl, hb⟩
    have hC2 : Below w.heap.size w wa := hC.trans (hb.mono hC.size)
    clear hC; have hC := hC2; clear hC2
    have bx_ := bx.below hb bx.lt; clear bx; have bx := bx_; clear bx_
    have ht_ := (RS.below ht hb).more hb.size; clear ht; have ht := ht_; clear ht_
    clear hb
    clear ht
    go_wp2_with fail
    have bt : BK (wa.alloc (.cells #[.int .i64 t1, .int .i64 t2, .int .i64 t3, .int .i64 t4] 34)) wa.heap.size #[.int .i64 t1, .int .i64 t2, .int .i64 t3, .int .i64 t4] 34 := BK.new _ _ _
    have hb : Below wa.heap.size wa (wa.alloc (.cells #[.int .i64 t1, .int .i64 t2, .int .i64 t3, .int .i64 t4] 34)) := Below.alloc (Below.refl _ _) (Nat.le_refl _) _
    have bx_ := bx.below hb bx.lt; clear bx; have bx := bx_; clear bx_
    have hC2 := hC.trans (hb.mono hC.size); clear hC hb; have hC := hC2; clear hC2
    obtain ⟨gbt, hgbt⟩ : ∃ g, wa.heap.size = g := ⟨_, rfl⟩
    rw [hgbt] at bt
    try rw [hgbt]
    generalize (wa.alloc (.cells #[.int .i64 t1, .int .i64 t2, .int .i64 t3, .int .i64 t4] 34)) = wa at *
    clear hgbt
    refine (HC.out _ hC).mono ?_
    rintro e_ wa ⟨rfl, hb⟩
    have hC2 : Below w.heap.size w wa := hC.trans (hb.mono hC.size)
    clear hC; have hC := hC2; clear hC2
    have bx_ := bx.below hb bx.lt; clear bx; have bx := bx_; clear bx_
    have bt_ := bt.below hb bt.lt; clear bt; have bt := bt_; clear bt_
    clear hb
    go_wp2_with fail
    have bc : BK (wa.alloc (.cells #[.int .i64 c1, .int .i64 c2, .int .i64 c3, .int .i64 c4] 34)) wa.heap.size #[.int .i64 c1, .int .i64 c2, .int .i64 c3, .int .i64 c4] 34 := BK.new _ _ _
    have hb : Below wa.heap.size wa (wa.alloc (.cells #[.int .i64 c1, .int .i64 c2, .int .i64 c3, .int .i64 c4] 34)) := Below.alloc (Below.refl _ _) (Nat.le_refl _) _
    have bx_ := bx.below hb bx.lt; clear bx; have bx := bx_; clear bx_
    have bt_ := bt.below hb bt.lt; clear bt; have bt := bt_; clear bt_
    have hC2 := hC.trans (hb.mono hC.size); clear hC hb; have hC := hC2; clear hC2
    obtain ⟨gbc, hgbc⟩ : ∃ g, wa.heap.size = g := ⟨_, rfl⟩
    rw [hgbc] at bc
    try rw [hgbc]
    generalize (wa.alloc (.cells #[.int .i64 c1, .int .i64 c2, .int .i64 c3, .int .i64 c4] 34)) = wa at *
    clear hgbc
    refine (HS.out _ hC).mono ?_
    rintro e_ wa ⟨rfl, hb⟩
    have hC2 : Below w.heap.size w wa := hC.trans (hb.mono hC.size)
    clear hC; have hC := hC2; clear hC2
    have bx_ := bx.below hb bx.lt; clear bx; have bx := bx_; clear bx_
    have bt_ := bt.below hb bt.lt; clear bt; have bt := bt_; clear bt_
    have bc_ := bc.below hb bc.lt; clear bc; have bc := bc_; clear bc_
    clear hb
    go_wp2_with fail
    have bv : BK (wa.alloc (.cells #[.int .i64 v1, .int .i64 v2, .int .i64 v3, .int .i64 v4] 34)) wa.heap.size #[.int .i64 v1, .int .i64 v2, .int .i64 v3, .int .i64 v4] 34 := BK.new _ _ _
    have hb : Below wa.heap.size wa (wa.alloc (.cells #[.int .i64 v1, .int .i64 v2, .int .i64 v3, .int .i64 v4] 34)) := Below.alloc (Below.refl _ _) (Nat.le_refl _) _
    have bx_ := bx.below hb bx.lt; clear bx; have bx := bx_; clear bx_
    have bt_ := bt.below hb bt.lt; clear bt; have bt := bt_; clear bt_
    have bc_ := bc.below hb bc.lt; clear bc; have bc := bc_; clear bc_
    have hC2 := hC.trans (hb.mono hC.size); clear hC hb; have hC := hC2; clear hC2
    obtain ⟨gbv, hgbv⟩ : ∃ g, wa.heap.size = g := ⟨_, rfl⟩
    rw [hgbv] at bv
    try rw [hgbv]
    generalize (wa.alloc (.cells #[.int .i64 v1, .int .i64 v2, .int .i64 v3, .int .i64 v4] 34)) = wa at *
    clear hgbv
    refine (HG.out _ hC).mono ?_
    rintro e_ wa ⟨rfl, hb⟩
    have hC2 : Below w.heap.size w wa := hC.trans (hb.mono hC.size)
    clear hC; have hC := hC2; clear hC2
    have bx_ := bx.below hb bx.lt; clear bx; have bx := bx_; clear bx_
    have bt_ := bt.below hb bt.lt; clear bt; have bt := bt_; clear bt_
    have bc_ := bc.below hb bc.lt; clear bc; have bc := bc_; clear bc_
    have bv_ := bv.below hb bv.lt; clear bv; have bv := bv_; clear bv_
    clear hb
    have lbx := bx.lt
    have bxc0 := bx.cell 0
    have bxc1 := bx.cell 1
    simp at bxc0 bxc1
    have lbt := bt.lt
    have btc0 := bt.cell 0
    have btc1 := bt.cell 1
    have btc2 := bt.cell 2
    have btc3 := bt.cell 3
    simp at btc0 btc1 btc2 btc3
    have lbc := bc.lt
    have bcc0 := bc.cell 0
    have bcc1 := bc.cell 1
    have bcc2 := bc.cell 2
    have bcc3 := bc.cell 3
    simp at bcc0 bcc1 bcc2 bcc3
    have lbv := bv.lt
    have bvc0 := bv.cell 0
    have bvc1 := bv.cell 1
    have bvc2 := bv.cell 2
    have bvc3 := bv.cell 3
    simp at bvc0 bvc1 bvc2 bvc3
    go_wp2_with fail
    clear lbx bxc0 bxc1
    clear lbt btc0 btc1 btc2 btc3
    clear lbc bcc0 bcc1 bcc2 bcc3
    clear lbv bvc0 bvc1 bvc2 bvc3
    have bg : BK (wa.alloc (.cells #[.int .i64 g1.num, .int .i64 g1.den, .int .i64 g2.num, .int .i64 g2.den] 34)) wa.heap.size #[.int .i64 g1.num, .int .i64 g1.den, .int .i64 g2.num, .int .i64 g2.den] 34 := BK.new _ _ _
    have hb : Below wa.heap.size wa (wa.alloc (.cells #[.int .i64 g1.num, .int .i64 g1.den, .int .i64 g2.num, .int .i64 g2.den] 34)) := Below.alloc (Below.refl _ _) (Nat.le_refl _) _
    have bx_ := bx.below hb bx.lt; clear bx; have bx := bx_; clear bx_
    have bt_ := bt.below hb bt.lt; clear bt; have bt := bt_; clear bt_
    have bc_ := bc.below hb bc.lt; clear bc; have bc := bc_; clear bc_
    have bv_ := bv.below hb bv.lt; clear bv; have bv := bv_; clear bv_
    have hC2 := hC.trans (hb.mono hC.size); clear hC hb; have hC := hC2; clear hC2
    obtain ⟨gbg, hgbg⟩ : ∃ g, wa.heap.size = g := ⟨_, rfl⟩
    rw [hgbg] at bg
    try rw [hgbg]
    generalize (wa.alloc (.cells #[.int .i64 g1.num, .int .i64 g1.den, .int .i64 g2.num, .int .i64 g2.den] 34)) = wa at *
    clear hgbg
    refine (small_true HSg.out _).mono ?_
    rintro e_ wa ⟨rfl, hb⟩
    have hC2 : Below w.heap.size w wa := hC.trans (hb.mono hC.size)
    clear hC; have hC := hC2; clear hC2
    have bx_ := bx.below hb bx.lt; clear bx; have bx := bx_; clear bx_
    have bt_ := bt.below hb bt.lt; clear bt; have bt := bt_; clear bt_
    have bc_ := bc.below hb bc.lt; clear bc; have bc := bc_; clear bc_
    have bv_ := bv.below hb bv.lt; clear bv; have bv := bv_; clear bv_
    have bg_ := bg.below hb bg.lt; clear bg; have bg := bg_; clear bg_
    clear hb
    have lbx := bx.lt
    have bxc0 := bx.cell 0
    have bxc1 := bx.cell 1
    simp at bxc0 bxc1
    have lbt := bt.lt
    have btc0 := bt.cell 0
    have btc1 := bt.cell 1
    have btc2 := bt.cell 2
    have btc3 := bt.cell 3
    simp at btc0 btc1 btc2 btc3
    have lbc := bc.lt
    have bcc0 := bc.cell 0
    have bcc1 := bc.cell 1
    have bcc2 := bc.cell 2
    have bcc3 := bc.cell 3
    simp at bcc0 bcc1 bcc2 bcc3
    have lbv := bv.lt
    have bvc0 := bv.cell 0
    have bvc1 := bv.cell 1
    have bvc2 := bv.cell 2
    have bvc3 := bv.cell 3
    simp at bvc0 bvc1 bvc2 bvc3
    have lbg := bg.lt
    have bgc0 := bg.cell 0
    have bgc1 := bg.cell 1
    have bgc2 := bg.cell 2
    have bgc3 := bg.cell 3
    simp at bgc0 bgc1 bgc2 bgc3
    go_upto_region 12 with fail
    clear lbx bxc0 bxc1
    clear lbt btc0 btc1 btc2 btc3
    clear lbc bcc0 bcc1 bcc2 bcc3
    clear lbv bvc0 bvc1 bvc2 bvc3
    clear lbg bgc0 bgc1 bgc2 bgc3
    first
    | (with_reducible refine (small_true (HSt.out (by trivial)) _).mono ?_
       rintro e_ wa ⟨rfl, hb⟩
       have hC2 : Below w.heap.size w wa := hC.trans (hb.mono hC.size)
       clear hC; have hC := hC2; clear hC2
       have bx_ := bx.below hb bx.lt; clear bx; have bx := bx_; clear bx_
       have bt_ := bt.below hb bt.lt; clear bt; have bt := bt_; clear bt_
       have bc_ := bc.below hb bc.lt; clear bc; have bc := bc_; clear bc_
       have bv_ := bv.below hb bv.lt; clear bv; have bv := bv_; clear bv_
       have bg_ := bg.below hb bg.lt; clear bg; have bg := bg_; clear bg_
       clear hb
       have lbx := bx.lt
       have bxc0 := bx.cell 0
       have bxc1 := bx.cell 1
       simp at bxc0 bxc1
       have lbt := bt.lt
       have btc0 := bt.cell 0
       have btc1 := bt.cell 1
       have btc2 := bt.cell 2
       have btc3 := bt.cell 3
       simp at btc0 btc1 btc2 btc3
       have lbc := bc.lt
       have bcc0 := bc.cell 0
       have bcc1 := bc.cell 1
       have bcc2 := bc.cell 2
       have bcc3 := bc.cell 3
       simp at bcc0 bcc1 bcc2 bcc3
       have lbv := bv.lt
       have bvc0 := bv.cell 0
       have bvc1 := bv.cell 1
       have bvc2 := bv.cell 2
       have bvc3 := bv.cell 3
       simp at bvc0 bvc1 bvc2 bvc3
       have lbg := bg.lt
       have bgc0 := bg.cell 0
       have bgc1 := bg.cell 1
       have bgc2 := bg.cell 2
       have bgc3 := bg.cell 3
       simp at bgc0 bgc1 bgc2 bgc3
       go_upto_region 12 with fail
       clear lbx bxc0 bxc1
       clear lbt btc0 btc1 btc2 btc3
       clear lbc bcc0 bcc1 bcc2 bcc3
       clear lbv bvc0 bvc1 bvc2 bvc3
       clear lbg bgc0 bgc1 bgc2 bgc3)
    | skip
    first
    | (with_reducible refine (small_true (HSc.out (by trivial)) _).mono ?_
       rintro e_ wa ⟨rfl, hb⟩
       have hC2 : Below w.heap.size w wa := hC.trans (hb.mono hC.size)
       clear hC; have hC := hC2; clear hC2
       have bx_ := bx.below hb bx.lt; clear bx; have bx := bx_; clear bx_
       have bt_ := bt.below hb bt.lt; clear bt; have bt := bt_; clear bt_
       have bc_ := bc.below hb bc.lt; clear bc; have bc := bc_; clear bc_
       have bv_ := bv.below hb bv.lt; clear bv; have bv := bv_; clear bv_
       have bg_ := bg.below hb bg.lt; clear bg; have bg := bg_; clear bg_
       clear hb
       have lbx := bx.lt
       have bxc0 := bx.cell 0
       have bxc1 := bx.cell 1
       simp at bxc0 bxc1
       have lbt := bt.lt
       have btc0 := bt.cell 0
       have btc1 := bt.cell 1
       have btc2 := bt.cell 2
       have btc3 := bt.cell 3
       simp at btc0 btc1 btc2 btc3
       have lbc := bc.lt
       have bcc0 := bc.cell 0
       have bcc1 := bc.cell 1
       have bcc2 := bc.cell 2
       have bcc3 := bc.cell 3
       simp at bcc0 bcc1 bcc2 bcc3
       have lbv := bv.lt
       have bvc0 := bv.cell 0
       have bvc1 := bv.cell 1
       have bvc2 := bv.cell 2
       have bvc3 := bv.cell 3
       simp at bvc0 bvc1 bvc2 bvc3
       have lbg := bg.lt
       have bgc0 := bg.cell 0
       have bgc1 := bg.cell 1
       have bgc2 := bg.cell 2
       have bgc3 := bg.cell 3
       simp at bgc0 bgc1 bgc2 bgc3
       go_upto_region 12 with fail
       clear lbx bxc0 bxc1
       clear lbt btc0 btc1 btc2 btc3
       clear lbc bcc0 bcc1 bcc2 bcc3
       clear lbv bvc0 bvc1 bvc2 bvc3
       clear lbg bgc0 bgc1 bgc2 bgc3)
    | skip
    first
    | (with_reducible refine (small_true (HSv.out (by trivial)) _).mono ?_
       rintro e_ wa ⟨rfl, hb⟩
       have hC2 : Below w.heap.size w wa := hC.trans (hb.mono hC.size)
       clear hC; have hC := hC2; clear hC2
       have bx_ := bx.below hb bx.lt; clear bx; have bx := bx_; clear bx_
       have bt_ := bt.below hb bt.lt; clear bt; have bt := bt_; clear bt_
       have bc_ := bc.below hb bc.lt; clear bc; have bc := bc_; clear bc_
       have bv_ := bv.below hb bv.lt; clear bv; have bv := bv_; clear bv_
       have bg_ := bg.below hb bg.lt; clear bg; have bg := bg_; clear bg_
       clear hb
       have lbx := bx.lt
       have bxc0 := bx.cell 0
       have bxc1 := bx.cell 1
       simp at bxc0 bxc1
       have lbt := bt.lt
       have btc0 := bt.cell 0
       have btc1 := bt.cell 1
       have btc2 := bt.cell 2
       have btc3 := bt.cell 3
       simp at btc0 btc1 btc2 btc3
       have lbc := bc.lt
       have bcc0 := bc.cell 0
       have bcc1 := bc.cell 1
       have bcc2 := bc.cell 2
       have bcc3 := bc.cell 3
       simp at bcc0 bcc1 bcc2 bcc3
       have lbv := bv.lt
       have bvc0 := bv.cell 0
       have bvc1 := bv.cell 1
       have bvc2 := bv.cell 2
       have bvc3 := bv.cell 3
       simp at bvc0 bvc1 bvc2 bvc3
       have lbg := bg.lt
       have bgc0 := bg.cell 0
       have bgc1 := bg.cell 1
       have bgc2 := bg.cell 2
       have bgc3 := bg.cell 3
       simp at bgc0 bgc1 bgc2 bgc3
       go_upto_region 12 with fail
       clear lbx bxc0 bxc1
       clear lbt btc0 btc1 btc2 btc3
       clear lbc bcc0 bcc1 bcc2 bcc3
       clear lbv bvc0 bvc1 bvc2 bvc3
       clear lbg bgc0 bgc1 bgc2 bgc3)
    | skip
    first
    | (with_reducible refine (inside_true (HItc.out (by trivial)) _).mono ?_
       rintro e_ wa ⟨rfl, hb⟩
       have hC2 : Below w.heap.size w wa := hC.trans (hb.mono hC.size)
       clear hC; have hC := hC2; clear hC2
       have bx_ := bx.below hb bx.lt; clear bx; have bx := bx_; clear bx_
       have bt_ := bt.below hb bt.lt; clear bt; have bt := bt_; clear bt_
       have bc_ := bc.below hb bc.lt; clear bc; have bc := bc_; clear bc_
       have bv_ := bv.below hb bv.lt; clear bv; have bv := bv_; clear bv_
       have bg_ := bg.below hb bg.lt; clear bg; have bg := bg_; clear bg_
       clear hb
       have lbx := bx.lt
       have bxc0 := bx.cell 0
       have bxc1 := bx.cell 1
       simp at bxc0 bxc1
       have lbt := bt.lt
       have btc0 := bt.cell 0
       have btc1 := bt.cell 1
       have btc2 := bt.cell 2
       have btc3 := bt.cell 3
       simp at btc0 btc1 btc2 btc3
       have lbc := bc.lt
       have bcc0 := bc.cell 0
       have bcc1 := bc.cell 1
       have bcc2 := bc.cell 2
       have bcc3 := bc.cell 3
       simp at bcc0 bcc1 bcc2 bcc3
       have lbv := bv.lt
       have bvc0 := bv.cell 0
       have bvc1 := bv.cell 1
       have bvc2 := bv.cell 2
       have bvc3 := bv.cell 3
       simp at bvc0 bvc1 bvc2 bvc3
       have lbg := bg.lt
       have bgc0 := bg.cell 0
       have bgc1 := bg.cell 1
       have bgc2 := bg.cell 2
       have bgc3 := bg.cell 3
       simp at bgc0 bgc1 bgc2 bgc3
       go_upto_region 12 with fail
       clear lbx bxc0 bxc1
       clear lbt btc0 btc1 btc2 btc3
       clear lbc bcc0 bcc1 bcc2 bcc3
       clear lbv bvc0 bvc1 bvc2 bvc3
       clear lbg bgc0 bgc1 bgc2 bgc3)
    | skip
    first
    | (with_reducible refine (inside_true (HIvt.out (by trivial)) _).mono ?_
       rintro e_ wa ⟨rfl, hb⟩
       have hC2 : Below w.heap.size w wa := hC.trans (hb.mono hC.size)
       clear hC; have hC := hC2; clear hC2
       have bx_ := bx.below hb bx.lt; clear bx; have bx := bx_; clear bx_
       have bt_ := bt.below hb bt.lt; clear bt; have bt := bt_; clear bt_
       have bc_ := bc.below hb bc.lt; clear bc; have bc := bc_; clear bc_
       have bv_ := bv.below hb bv.lt; clear bv; have bv := bv_; clear bv_
       have bg_ := bg.below hb bg.lt; clear bg; have bg := bg_; clear bg_
       clear hb
       have lbx := bx.lt
       have bxc0 := bx.cell 0
       have bxc1 := bx.cell 1
       simp at bxc0 bxc1
       have lbt := bt.lt
       have btc0 := bt.cell 0
       have btc1 := bt.cell 1
       have btc2 := bt.cell 2
       have btc3 := bt.cell 3
       simp at btc0 btc1 btc2 btc3
       have lbc := bc.lt
       have bcc0 := bc.cell 0
       have bcc1 := bc.cell 1
       have bcc2 := bc.cell 2
       have bcc3 := bc.cell 3
       simp at bcc0 bcc1 bcc2 bcc3
       have lbv := bv.lt
       have bvc0 := bv.cell 0
       have bvc1 := bv.cell 1
       have bvc2 := bv.cell 2
       have bvc3 := bv.cell 3
       simp at bvc0 bvc1 bvc2 bvc3
       have lbg := bg.lt
       have bgc0 := bg.cell 0
       have bgc1 := bg.cell 1
       have bgc2 := bg.cell 2
       have bgc3 := bg.cell 3
       simp at bgc0 bgc1 bgc2 bgc3
       go_upto_region 12 with fail
       clear lbx bxc0 bxc1
       clear lbt btc0 btc1 btc2 btc3
       clear lbc bcc0 bcc1 bcc2 bcc3
       clear lbv bvc0 bvc1 bvc2 bvc3
       clear lbg bgc0 bgc1 bgc2 bgc3)
    | skip
    have hbk0 : BK (wa.alloc (.cells #[] 62)) wa.heap.size #[] 62 := BK.new _ _ _
    have hown : World.ownsRow (wa.alloc (.cells #[] 62)) wa.heap.size 62 3 (.slice (some ⟨wa.heap.size, 0, none⟩) 0 0) 0 [] := ⟨rfl, .inr ⟨wa.heap.size, 0, #[], rfl, Nat.le_refl _, hbk0, Nat.le_refl _, by unfold maxLen; omega, rfl, rfl⟩⟩
    have hbX : Below wa.heap.size wa (wa.alloc (.cells #[] 62)) := Below.alloc (Below.refl _ _) (Nat.le_refl _) _
    have hCX : Below w.heap.size w (wa.alloc (.cells #[] 62)) := hC.trans (hbX.mono hC.size)
    obtain ⟨gx, capx, wb, cur, hrun, hxb, hxg, hxc, hxs, hxt, hbel, hsz2⟩ := app_all hown ((RS.below HRS.out hCX).more hCX.size) hn.1 (by omega) (by simp)
    have hb := hbel wa hbX
    have HRUN := Lib.hid hrun
    clear hrun hown hbk0 hbX hCX hbel hsz2
    go_wp2_with (at_builtin; refine wpList_append_run rfl (.tmp 129) (.tmp 130) 22 _ rfl HRUN.out ?_)
    clear HRUN
    have nfbx : gbx ≠ gx := Nat.ne_of_lt (Nat.lt_of_lt_of_le bx.lt hxg)
    have nfbt : gbt ≠ gx := Nat.ne_of_lt (Nat.lt_of_lt_of_le bt.lt hxg)
    have nfbc : gbc ≠ gx := Nat.ne_of_lt (Nat.lt_of_lt_of_le bc.lt hxg)
    have nfbv : gbv ≠ gx := Nat.ne_of_lt (Nat.lt_of_lt_of_le bv.lt hxg)
    have nfbg : gbg ≠ gx := Nat.ne_of_lt (Nat.lt_of_lt_of_le bg.lt hxg)
    have hxg2 : w.heap.size ≤ gx := Nat.le_trans hC.size hxg
    have hC2 : Below w.heap.size w wb := hC.trans (hb.mono hC.size)
    clear hC; have hC := hC2; clear hC2
    have bx_ := bx.below hb bx.lt; clear bx; have bx := bx_; clear bx_
    have bt_ := bt.below hb bt.lt; clear bt; have bt := bt_; clear bt_
    have bc_ := bc.below hb bc.lt; clear bc; have bc := bc_; clear bc_
    have bv_ := bv.below hb bv.lt; clear bv; have bv := bv_; clear bv_
    have bg_ := bg.below hb bg.lt; clear bg; have bg := bg_; clear bg_
    clear hb hxg
    have hold : ∀ i, i < l.length * 3 → cur[i]? = (ofS l)[i]? := fun i hi => by rw [← hxt, List.getElem?_take_of_lt hi, Array.getElem?_toList]
    have hof := ofS_at l r hr
    have hlo1 : cur[r * 3 + 1]? = some (.int .i64 (nthS l r).lo) := (hold _ (by omega)).trans hof.2.1
    have hhi1 : cur[r * 3 + 2]? = some (.int .i64 (nthS l r).hi) := (hold _ (by omega)).trans hof.2.2
    have HL1 := Lib.hid hlo1; have HH1 := Lib.hid hhi1; have HXT := Lib.hid hxt; have HXS := Lib.hid hxs
    have hvr := HVS.out
    have hr1 : r * 3 + 1 < cur.size := by rw [hxs]; omega
    have hr2 : r * 3 + 2 < cur.size := by rw [hxs]; omega
    have HR1 := Lib.hid hr1; have HR2 := Lib.hid hr2
    clear hold hof hlo1 hhi1 hxt hxs hr1 hr2
    obtain ⟨lo, hlq⟩ : ∃ a, (nthS l r).lo = a := ⟨_, rfl⟩
    obtain ⟨hi, hhq⟩ : ∃ a, (nthS l r).hi = a := ⟨_, rfl⟩
    have hlo := HLO.out
    have hhi := HHI.out
    have hbb := HB.out
    have hc1 := hxb.cell (r * 3 + 1)
    have hc2 := hxb.cell (r * 3 + 2)
    rw [HL1.out, hlq] at hc1
    rw [HH1.out, hhq] at hc2
    have hc3 : wb.cell? ⟨gx, r * 3 + 1 + 1, none⟩ = some (.int .i64 hi) := hc2
    have hf1 := hxb.frozen (r * 3 + 1)
    have lgx := hxb.lt
    rw [hlq, hhq] at hlo hvr hbb
    rw [hhq] at hhi
    have hm1 : (if lo + (x : Int) < hi then lo + (x : Int) else hi) = lo' := by rw [← hlo]; split <;> omega
    have HLOX := Lib.hid hlo; have HHIX := Lib.hid hhi; have HHQ := Lib.hid hhq; have HLQ := Lib.hid hlq
    have ww1 : IntKind.i64.wrap (x : Int) = (x : Int) := by rw [IntKind.wrap_i64]; omega
    have ww2 : IntKind.i64.wrap (lo + (x : Int)) = lo + (x : Int) := by rw [IntKind.wrap_i64]; omega
    have ww3 : IntKind.i64.wrap (y : Int) = (y : Int) := by rw [IntKind.wrap_i64]; omega
    have ww4 : IntKind.i64.wrap (hi - (y : Int)) = hi - (y : Int) := by rw [IntKind.wrap_i64]; omega
    clear hhi hlq hhq hvr hlo
    have HBB := Lib.hid hbb
    clear hbb
    have lbx := bx.lt
    have bxc0 := bx.cell 0
    have bxc1 := bx.cell 1
    simp at bxc0 bxc1
    have d0p : Below wb.heap.size wb wb.drew := by (repeat (first | with_reducible assumption | with_reducible exact Below.refl _ _ | (with_reducible refine Below.setCell ?_ (by first | omega | (simp; omega) | (simp; done)) _) | (with_reducible refine Below.alloc ?_ (by first | omega | (simp; omega) | (simp; done)) _) | (with_reducible refine Below.drew ?_) | (with_reducible refine belowN ?_ _) | assumption | exact Below.refl _ _ | (refine Below.alloc ?_ (by first | omega | (simp; omega) | (simp; done)) _) | (refine Below.drew ?_) | (refine belowN ?_ _) | (refine Below.setCell ?_ (by first | omega | (simp; omega) | (simp; done)) _)))
    refine wp_region_noPanic (plain_any [0, 1, 2, 3, 4, 5, 6, 7, 8, 9, 10, 11, 12, 13, 14, 15] (Below wb.heap.size wb) mixed ?_)
    (refine any_take 0 ?_ (by rfl) (by kernel_rfl) (fun _ _ _ _ _ hx => hx.elim) (.inl ⟨by rfl, ?_⟩) (by with_reducible assumption) ?_; rotate_left; (intro X hX; obtain ⟨r1, r2⟩ := Below.rules hX; clear hX; go_simp; rfl); simp only [List.getElem_toArray, List.getElem_cons_succ, List.getElem_cons_zero, Act.put, List.setIfInBounds_toArray, List.set_cons_succ, List.set_cons_zero])
    (refine any_take 1 ?_ (by rfl) (by kernel_rfl) (fun _ _ _ _ _ hx => hx.elim) (.inl ⟨by rfl, ?_⟩) (by with_reducible assumption) ?_; rotate_left; (intro X hX; obtain ⟨r1, r2⟩ := Below.rules hX; clear hX; go_simp; rfl); simp only [List.getElem_toArray, List.getElem_cons_succ, List.getElem_cons_zero, Act.put, List.setIfInBounds_toArray, List.set_cons_succ, List.set_cons_zero])
    (refine any_take 2 ?_ (by rfl) (by kernel_rfl) (fun _ _ _ _ _ hx => hx.elim) (.inl ⟨by rfl, ?_⟩) (by with_reducible assumption) ?_; rotate_left; (intro X hX; obtain ⟨r1, r2⟩ := Below.rules hX; clear hX; go_simp; rfl); simp only [List.getElem_toArray, List.getElem_cons_succ, List.getElem_cons_zero, Act.put, List.setIfInBounds_toArray, List.set_cons_succ, List.set_cons_zero])
    (refine any_take 3 ?_ (by rfl) (by kernel_rfl) (fun _ _ _ _ _ hx => hx.elim) (.inl ⟨by rfl, ?_⟩) (by with_reducible assumption) ?_; rotate_left; (intro X hX; obtain ⟨r1, r2⟩ := Below.rules hX; clear hX; go_simp; rfl); simp only [List.getElem_toArray, List.getElem_cons_succ, List.getElem_cons_zero, Act.put, List.setIfInBounds_toArray, List.set_cons_succ, List.set_cons_zero])
    (refine any_take 4 ?_ (by rfl) (by kernel_rfl) (fun _ _ _ _ _ hx => hx.elim) (.inl ⟨by rfl, ?_⟩) (by with_reducible assumption) ?_; rotate_left; (intro X hX; obtain ⟨r1, r2⟩ := Below.rules hX; clear hX; go_simp; rfl); simp only [List.getElem_toArray, List.getElem_cons_succ, List.getElem_cons_zero, Act.put, List.setIfInBounds_toArray, List.set_cons_succ, List.set_cons_zero])
    (refine any_take 5 ?_ (by rfl) (by kernel_rfl) (fun _ _ _ _ _ hx => hx.elim) (.inl ⟨by rfl, ?_⟩) (by with_reducible assumption) ?_; rotate_left; (intro X hX; obtain ⟨r1, r2⟩ := Below.rules hX; clear hX; go_simp; rfl); simp only [List.getElem_toArray, List.getElem_cons_succ, List.getElem_cons_zero, Act.put, List.setIfInBounds_toArray, List.set_cons_succ, List.set_cons_zero])
    (refine any_take 6 ?_ (by rfl) (by kernel_rfl) (fun _ _ _ _ _ hx => hx.elim) (.inl ⟨by rfl, ?_⟩) (by with_reducible assumption) ?_; rotate_left; (intro X hX; obtain ⟨r1, r2⟩ := Below.rules hX; clear hX; go_simp; rfl); simp only [List.getElem_toArray, List.getElem_cons_succ, List.getElem_cons_zero, Act.put, List.setIfInBounds_toArray, List.set_cons_succ, List.set_cons_zero])
    (refine any_take 7 ?_ (by rfl) (by kernel_rfl) (fun _ _ _ _ _ hx => hx.elim) (.inl ⟨by rfl, ?_⟩) (by with_reducible assumption) ?_; rotate_left; (intro X hX; obtain ⟨r1, r2⟩ := Below.rules hX; clear hX; go_simp; rfl); simp only [List.getElem_toArray, List.getElem_cons_succ, List.getElem_cons_zero, Act.put, List.setIfInBounds_toArray, List.set_cons_succ, List.set_cons_zero])
    (refine any_take 8 ?_ (by rfl) (by kernel_rfl) (fun _ _ _ _ _ hx => hx.elim) (.inl ⟨by rfl, ?_⟩) (by with_reducible assumption) ?_; rotate_left; (intro X hX; obtain ⟨r1, r2⟩ := Below.rules hX; clear hX; go_simp; rfl); simp only [List.getElem_toArray, List.getElem_cons_succ, List.getElem_cons_zero, Act.put, List.setIfInBounds_toArray, List.set_cons_succ, List.set_cons_zero])
    (refine any_take 9 ?_ (by rfl) (by kernel_rfl) (fun _ _ _ _ _ hx => hx.elim) (.inl ⟨by rfl, ?_⟩) (by with_reducible assumption) ?_; rotate_left; (intro X hX; obtain ⟨r1, r2⟩ := Below.rules hX; clear hX; go_simp; rfl); simp only [List.getElem_toArray, List.getElem_cons_succ, List.getElem_cons_zero, Act.put, List.setIfInBounds_toArray, List.set_cons_succ, List.set_cons_zero])
    (refine any_take 10 ?_ (by rfl) (by kernel_rfl) (fun _ _ _ _ _ hx => hx.elim) (.inl ⟨by rfl, ?_⟩) (by with_reducible assumption) ?_; rotate_left; (intro X hX; obtain ⟨r1, r2⟩ := Below.rules hX; clear hX; go_simp; rfl); simp only [List.getElem_toArray, List.getElem_cons_succ, List.getElem_cons_zero, Act.put, List.setIfInBounds_toArray, List.set_cons_succ, List.set_cons_zero])
    (refine any_take 11 ?_ (by rfl) (by kernel_rfl) (fun _ _ _ _ _ hx => hx.elim) (.inl ⟨by rfl, ?_⟩) (by with_reducible assumption) ?_; rotate_left; (intro X hX; obtain ⟨r1, r2⟩ := Below.rules hX; clear hX; go_simp; rfl); simp only [List.getElem_toArray, List.getElem_cons_succ, List.getElem_cons_zero, Act.put, List.setIfInBounds_toArray, List.set_cons_succ, List.set_cons_zero])
    (refine any_take 12 ?_ (by rfl) (by kernel_rfl) (fun _ _ _ _ _ hx => hx.elim) (.inl ⟨by rfl, ?_⟩) (by with_reducible assumption) ?_; rotate_left; (intro X hX; obtain ⟨r1, r2⟩ := Below.rules hX; clear hX; go_simp; rfl); simp only [List.getElem_toArray, List.getElem_cons_succ, List.getElem_cons_zero, Act.put, List.setIfInBounds_toArray, List.set_cons_succ, List.set_cons_zero])
    (refine any_take 13 ?_ (by rfl) (by kernel_rfl) (fun _ _ _ _ _ hx => hx.elim) (.inl ⟨by rfl, ?_⟩) (by with_reducible assumption) ?_; rotate_left; (intro X hX; obtain ⟨r1, r2⟩ := Below.rules hX; clear hX; go_simp; rfl); simp only [List.getElem_toArray, List.getElem_cons_succ, List.getElem_cons_zero, Act.put, List.setIfInBounds_toArray, List.set_cons_succ, List.set_cons_zero])
    (refine any_take 14 ?_ (by rfl) (by kernel_rfl) (fun _ _ _ _ _ hx => hx.elim) (.inl ⟨by rfl, ?_⟩) (by with_reducible assumption) ?_; rotate_left; (intro X hX; obtain ⟨r1, r2⟩ := Below.rules hX; clear hX; go_simp; rfl); simp only [List.getElem_toArray, List.getElem_cons_succ, List.getElem_cons_zero, Act.put, List.setIfInBounds_toArray, List.set_cons_succ, List.set_cons_zero])
    (refine any_take 15 ?_ (by rfl) (by kernel_rfl) (fun _ _ _ _ _ hx => hx.elim) (.inl ⟨by rfl, ?_⟩) (by with_reducible assumption) ?_; rotate_left; (intro X hX; obtain ⟨r1, r2⟩ := Below.rules hX; clear hX; go_simp; rfl); simp only [List.getElem_toArray, List.getElem_cons_succ, List.getElem_cons_zero, Act.put, List.setIfInBounds_toArray, List.set_cons_succ, List.set_cons_zero])
    have dp1 : Below wb.heap.size wb wb.drew := by (repeat (first | with_reducible assumption | with_reducible exact Below.refl _ _ | (with_reducible refine Below.setCell ?_ (by first | omega | (simp; omega) | (simp; done)) _) | (with_reducible refine Below.alloc ?_ (by first | omega | (simp; omega) | (simp; done)) _) | (with_reducible refine Below.drew ?_) | (with_reducible refine belowN ?_ _) | assumption | exact Below.refl _ _ | (refine Below.alloc ?_ (by first | omega | (simp; omega) | (simp; done)) _) | (refine Below.drew ?_) | (refine belowN ?_ _) | (refine Below.setCell ?_ (by first | omega | (simp; omega) | (simp; done)) _)))
    have hdr : Below wb.heap.size wb wb.drew := Below.drew (Below.refl _ _)
    have bx_ := bx.below hdr bx.lt; clear bx; have bx := bx_; clear bx_
    have bt_ := bt.below hdr bt.lt; clear bt; have bt := bt_; clear bt_
    have bc_ := bc.below hdr bc.lt; clear bc; have bc := bc_; clear bc_
    have bv_ := bv.below hdr bv.lt; clear bv; have bv := bv_; clear bv_
    have bg_ := bg.below hdr bg.lt; clear bg; have bg := bg_; clear bg_
    have hxb_ := hxb.below hdr hxb.lt; clear hxb; have hxb := hxb_; clear hxb_
    clear hdr
    generalize wb.drew = up2 at *
    refine any_run1 (i := 16) (by kernel_rfl) (by rfl) (by kernel_rfl) ?_
    intro K hK
    have lgy := hxb.lt
    have yq := hxb.cell (r * 3 + 1)
    rw [HL1.out] at yq
    have fq := hxb.frozen (r * 3 + 1)
    go_wp2_with fail
    clear lgy yq fq
    have hC2 : Below w.heap.size w (up2.setCell ⟨gx, r * 3 + 1, none⟩ (.int .i64 lo')) := Below.setCell (hC.trans (dp1.mono hC.size)) hxg2 _
    clear hC; have hC := hC2; clear hC2
    have bx_ : BK (up2.setCell ⟨gx, r * 3 + 1, none⟩ (.int .i64 lo')) gbx _ _ := bx.far nfbx _; clear bx; have bx := bx_; clear bx_
    have bt_ : BK (up2.setCell ⟨gx, r * 3 + 1, none⟩ (.int .i64 lo')) gbt _ _ := bt.far nfbt _; clear bt; have bt := bt_; clear bt_
    have bc_ : BK (up2.setCell ⟨gx, r * 3 + 1, none⟩ (.int .i64 lo')) gbc _ _ := bc.far nfbc _; clear bc; have bc := bc_; clear bc_
    have bv_ : BK (up2.setCell ⟨gx, r * 3 + 1, none⟩ (.int .i64 lo')) gbv _ _ := bv.far nfbv _; clear bv; have bv := bv_; clear bv_
    have bg_ : BK (up2.setCell ⟨gx, r * 3 + 1, none⟩ (.int .i64 lo')) gbg _ _ := bg.far nfbg _; clear bg; have bg := bg_; clear bg_
    have hxb_ : BK (up2.setCell ⟨gx, r * 3 + 1, none⟩ (.int .i64 lo')) gx _ _ := hxb.set (r * 3 + 1) (.int .i64 lo'); clear hxb; have hxb := hxb_; clear hxb_
    refine hK _ _ (fun hx => (Bool.false_ne_true (hx.symm.trans (by kernel_rfl))).elim) ?_
    clear hK K
    refine any_done (by kernel_rfl) (NoPanic.normal ?_)
    go_wp2_with fail
    generalize (up2.setCell ⟨gx, r * 3 + 1, none⟩ (.int .i64 lo')) = wa at *
    clear hc1 hc2 hc3 hf1 lgx lbx bxc0 bxc1 ww1 ww2 hm1
    have HL2 := Lib.hid (show (cur.setIfInBounds (r * 3 + 1) (.int .i64 lo'))[r * 3 + 1]? = some (.int .i64 lo') by rw [Array.getElem?_setIfInBounds, if_pos rfl, if_pos HR1.out])
    have HH2 := Lib.hid (show (cur.setIfInBounds (r * 3 + 1) (.int .i64 lo'))[r * 3 + 1 + 1]? = some (.int .i64 (nthS l r).hi) by rw [Array.getElem?_setIfInBounds, if_neg (by omega)]; exact HH1.out)
    have hc1 := hxb.cell (r * 3 + 1)
    have hc2 := hxb.cell (r * 3 + 1 + 1)
    rw [HL2.out] at hc1
    rw [HH2.out, HHQ.out] at hc2
    have lgx := hxb.lt
    have hhi := HHIX.out
    have hm2 : (if lo' < hi - (y : Int) then hi - (y : Int) else lo') = hi' := by rw [← hhi]; split <;> omega
    have hm3 : (if hi - (y : Int) < lo' then lo' else hi - (y : Int)) = hi' := by rw [← hhi]; split <;> omega
    clear hhi
    have lbx := bx.lt
    have bxc0 := bx.cell 0
    have bxc1 := bx.cell 1
    simp at bxc0 bxc1
    have d0q : Below wa.heap.size wa wa.drew := by (repeat (first | with_reducible assumption | with_reducible exact Below.refl _ _ | (with_reducible refine Below.setCell ?_ (by first | omega | (simp; omega) | (simp; done)) _) | (with_reducible refine Below.alloc ?_ (by first | omega | (simp; omega) | (simp; done)) _) | (with_reducible refine Below.drew ?_) | (with_reducible refine belowN ?_ _) | assumption | exact Below.refl _ _ | (refine Below.alloc ?_ (by first | omega | (simp; omega) | (simp; done)) _) | (refine Below.drew ?_) | (refine belowN ?_ _) | (refine Below.setCell ?_ (by first | omega | (simp; omega) | (simp; done)) _)))
    refine wp_region_noPanic (plain_any [0, 1, 2, 3, 4, 5, 6, 7, 8, 9, 10, 11, 12, 13, 14, 15] (Below wa.heap.size wa) mixed ?_)
    (refine any_take 0 ?_ (by rfl) (by kernel_rfl) (fun _ _ _ _ _ hx => hx.elim) (.inl ⟨by rfl, ?_⟩) (by with_reducible assumption) ?_; rotate_left; (intro X hX; obtain ⟨r1, r2⟩ := Below.rules hX; clear hX; go_simp; rfl); simp only [List.getElem_toArray, List.getElem_cons_succ, List.getElem_cons_zero, Act.put, List.setIfInBounds_toArray, List.set_cons_succ, List.set_cons_zero])
    (refine any_take 1 ?_ (by rfl) (by kernel_rfl) (fun _ _ _ _ _ hx => hx.elim) (.inl ⟨by rfl, ?_⟩) (by with_reducible assumption) ?_; rotate_left; (intro X hX; obtain ⟨r1, r2⟩ := Below.rules hX; clear hX; go_simp; rfl); simp only [List.getElem_toArray, List.getElem_cons_succ, List.getElem_cons_zero, Act.put, List.setIfInBounds_toArray, List.set_cons_succ, List.set_cons_zero])
    (refine any_take 2 ?_ (by rfl) (by kernel_rfl) (fun _ _ _ _ _ hx => hx.elim) (.inl ⟨by rfl, ?_⟩) (by with_reducible assumption) ?_; rotate_left; (intro X hX; obtain ⟨r1, r2⟩ := Below.rules hX; clear hX; go_simp; rfl); simp only [List.getElem_toArray, List.getElem_cons_succ, List.getElem_cons_zero, Act.put, List.setIfInBounds_toArray, List.set_cons_succ, List.set_cons_zero])
    (refine any_take 3 ?_ (by rfl) (by kernel_rfl) (fun _ _ _ _ _ hx => hx.elim) (.inl ⟨by rfl, ?_⟩) (by with_reducible assumption) ?_; rotate_left; (intro X hX; obtain ⟨r1, r2⟩ := Below.rules hX; clear hX; go_simp; rfl); simp only [List.getElem_toArray, List.getElem_cons_succ, List.getElem_cons_zero, Act.put, List.setIfInBounds_toArray, List.set_cons_succ, List.set_cons_zero])
    (refine any_take 4 ?_ (by rfl) (by kernel_rfl) (fun _ _ _ _ _ hx => hx.elim) (.inl ⟨by rfl, ?_⟩) (by with_reducible assumption) ?_; rotate_left; (intro X hX; obtain ⟨r1, r2⟩ := Below.rules hX; clear hX; go_simp; rfl); simp only [List.getElem_toArray, List.getElem_cons_succ, List.getElem_cons_zero, Act.put, List.setIfInBounds_toArray, List.set_cons_succ, List.set_cons_zero])
    (refine any_take 5 ?_ (by rfl) (by kernel_rfl) (fun _ _ _ _ _ hx => hx.elim) (.inl ⟨by rfl, ?_⟩) (by with_reducible assumption) ?_; rotate_left; (intro X hX; obtain ⟨r1, r2⟩ := Below.rules hX; clear hX; go_simp; rfl); simp only [List.getElem_toArray, List.getElem_cons_succ, List.getElem_cons_zero, Act.put, List.setIfInBounds_toArray, List.set_cons_succ, List.set_cons_zero])
    (refine any_take 6 ?_ (by rfl) (by kernel_rfl) (fun _ _ _ _ _ hx => hx.elim) (.inl ⟨by rfl, ?_⟩) (by with_reducible assumption) ?_; rotate_left; (intro X hX; obtain ⟨r1, r2⟩ := Below.rules hX; clear hX; go_simp; rfl); simp only [List.getElem_toArray, List.getElem_cons_succ, List.getElem_cons_zero, Act.put, List.setIfInBounds_toArray, List.set_cons_succ, List.set_cons_zero])
    (refine any_take 7 ?_ (by rfl) (by kernel_rfl) (fun _ _ _ _ _ hx => hx.elim) (.inl ⟨by rfl, ?_⟩) (by with_reducible assumption) ?_; rotate_left; (intro X hX; obtain ⟨r1, r2⟩ := Below.rules hX; clear hX; go_simp; rfl); simp only [List.getElem_toArray, List.getElem_cons_succ, List.getElem_cons_zero, Act.put, List.setIfInBounds_toArray, List.set_cons_succ, List.set_cons_zero])
    (refine any_take 8 ?_ (by rfl) (by kernel_rfl) (fun _ _ _ _ _ hx => hx.elim) (.inl ⟨by rfl, ?_⟩) (by with_reducible assumption) ?_; rotate_left; (intro X hX; obtain ⟨r1, r2⟩ := Below.rules hX; clear hX; go_simp; rfl); simp only [List.getElem_toArray, List.getElem_cons_succ, List.getElem_cons_zero, Act.put, List.setIfInBounds_toArray, List.set_cons_succ, List.set_cons_zero])
    (refine any_take 9 ?_ (by rfl) (by kernel_rfl) (fun _ _ _ _ _ hx => hx.elim) (.inl ⟨by rfl, ?_⟩) (by with_reducible assumption) ?_; rotate_left; (intro X hX; obtain ⟨r1, r2⟩ := Below.rules hX; clear hX; go_simp; rfl); simp only [List.getElem_toArray, List.getElem_cons_succ, List.getElem_cons_zero, Act.put, List.setIfInBounds_toArray, List.set_cons_succ, List.set_cons_zero])
    (refine any_take 10 ?_ (by rfl) (by kernel_rfl) (fun _ _ _ _ _ hx => hx.elim) (.inl ⟨by rfl, ?_⟩) (by with_reducible assumption) ?_; rotate_left; (intro X hX; obtain ⟨r1, r2⟩ := Below.rules hX; clear hX; go_simp; rfl); simp only [List.getElem_toArray, List.getElem_cons_succ, List.getElem_cons_zero, Act.put, List.setIfInBounds_toArray, List.set_cons_succ, List.set_cons_zero])
    (refine any_take 11 ?_ (by rfl) (by kernel_rfl) (fun _ _ _ _ _ hx => hx.elim) (.inl ⟨by rfl, ?_⟩) (by with_reducible assumption) ?_; rotate_left; (intro X hX; obtain ⟨r1, r2⟩ := Below.rules hX; clear hX; go_simp; rfl); simp only [List.getElem_toArray, List.getElem_cons_succ, List.getElem_cons_zero, Act.put, List.setIfInBounds_toArray, List.set_cons_succ, List.set_cons_zero])
    (refine any_take 12 ?_ (by rfl) (by kernel_rfl) (fun _ _ _ _ _ hx => hx.elim) (.inl ⟨by rfl, ?_⟩) (by with_reducible assumption) ?_; rotate_left; (intro X hX; obtain ⟨r1, r2⟩ := Below.rules hX; clear hX; go_simp; rfl); simp only [List.getElem_toArray, List.getElem_cons_succ, List.getElem_cons_zero, Act.put, List.setIfInBounds_toArray, List.set_cons_succ, List.set_cons_zero])
    (refine any_take 13 ?_ (by rfl) (by kernel_rfl) (fun _ _ _ _ _ hx => hx.elim) (.inl ⟨by rfl, ?_⟩) (by with_reducible assumption) ?_; rotate_left; (intro X hX; obtain ⟨r1, r2⟩ := Below.rules hX; clear hX; go_simp; rfl); simp only [List.getElem_toArray, List.getElem_cons_succ, List.getElem_cons_zero, Act.put, List.setIfInBounds_toArray, List.set_cons_succ, List.set_cons_zero])
    (refine any_take 14 ?_ (by rfl) (by kernel_rfl) (fun _ _ _ _ _ hx => hx.elim) (.inl ⟨by rfl, ?_⟩) (by with_reducible assumption) ?_; rotate_left; (intro X hX; obtain ⟨r1, r2⟩ := Below.rules hX; clear hX; go_simp; rfl); simp only [List.getElem_toArray, List.getElem_cons_succ, List.getElem_cons_zero, Act.put, List.setIfInBounds_toArray, List.set_cons_succ, List.set_cons_zero])
    (refine any_take 15 ?_ (by rfl) (by kernel_rfl) (fun _ _ _ _ _ hx => hx.elim) (.inl ⟨by rfl, ?_⟩) (by with_reducible assumption) ?_; rotate_left; (intro X hX; obtain ⟨r1, r2⟩ := Below.rules hX; clear hX; go_simp; rfl); simp only [List.getElem_toArray, List.getElem_cons_succ, List.getElem_cons_zero, Act.put, List.setIfInBounds_toArray, List.set_cons_succ, List.set_cons_zero])
    have dq1 : Below wa.heap.size wa wa.drew := by (repeat (first | with_reducible assumption | with_reducible exact Below.refl _ _ | (with_reducible refine Below.setCell ?_ (by first | omega | (simp; omega) | (simp; done)) _) | (with_reducible refine Below.alloc ?_ (by first | omega | (simp; omega) | (simp; done)) _) | (with_reducible refine Below.drew ?_) | (with_reducible refine belowN ?_ _) | assumption | exact Below.refl _ _ | (refine Below.alloc ?_ (by first | omega | (simp; omega) | (simp; done)) _) | (refine Below.drew ?_) | (refine belowN ?_ _) | (refine Below.setCell ?_ (by first | omega | (simp; omega) | (simp; done)) _)))
    have hdr : Below wa.heap.size wa wa.drew := Below.drew (Below.refl _ _)
    have bx_ := bx.below hdr bx.lt; clear bx; have bx := bx_; clear bx_
    have bt_ := bt.below hdr bt.lt; clear bt; have bt := bt_; clear bt_
    have bc_ := bc.below hdr bc.lt; clear bc; have bc := bc_; clear bc_
    have bv_ := bv.below hdr bv.lt; clear bv; have bv := bv_; clear bv_
    have bg_ := bg.below hdr bg.lt; clear bg; have bg := bg_; clear bg_
    have hxb_ := hxb.below hdr hxb.lt; clear hxb; have hxb := hxb_; clear hxb_
    clear hdr
    generalize wa.drew = uq2 at *
    refine any_run1 (i := 16) (by kernel_rfl) (by rfl) (by kernel_rfl) ?_
    intro K hK
    have lgy := hxb.lt
    have yq := hxb.cell (r * 3 + 1 + 1)
    rw [HH2.out] at yq
    have fq := hxb.frozen (r * 3 + 1 + 1)
    go_wp2_with fail
    clear lgy yq fq
    have hC2 : Below w.heap.size w (uq2.setCell ⟨gx, r * 3 + 1 + 1, none⟩ (.int .i64 hi')) := Below.setCell (hC.trans (dq1.mono hC.size)) hxg2 _
    clear hC; have hC := hC2; clear hC2
    have bx_ : BK (uq2.setCell ⟨gx, r * 3 + 1 + 1, none⟩ (.int .i64 hi')) gbx _ _ := bx.far nfbx _; clear bx; have bx := bx_; clear bx_
    have bt_ : BK (uq2.setCell ⟨gx, r * 3 + 1 + 1, none⟩ (.int .i64 hi')) gbt _ _ := bt.far nfbt _; clear bt; have bt := bt_; clear bt_
    have bc_ : BK (uq2.setCell ⟨gx, r * 3 + 1 + 1, none⟩ (.int .i64 hi')) gbc _ _ := bc.far nfbc _; clear bc; have bc := bc_; clear bc_
    have bv_ : BK (uq2.setCell ⟨gx, r * 3 + 1 + 1, none⟩ (.int .i64 hi')) gbv _ _ := bv.far nfbv _; clear bv; have bv := bv_; clear bv_
    have bg_ : BK (uq2.setCell ⟨gx, r * 3 + 1 + 1, none⟩ (.int .i64 hi')) gbg _ _ := bg.far nfbg _; clear bg; have bg := bg_; clear bg_
    have hxb_ : BK (uq2.setCell ⟨gx, r * 3 + 1 + 1, none⟩ (.int .i64 hi')) gx _ _ := hxb.set (r * 3 + 1 + 1) (.int .i64 hi'); clear hxb; have hxb := hxb_; clear hxb_
    refine hK _ _ (fun hx => (Bool.false_ne_true (hx.symm.trans (by kernel_rfl))).elim) ?_
    clear hK K
    refine any_done (by kernel_rfl) (NoPanic.normal ?_)
    go_wp2_with fail
    generalize (uq2.setCell ⟨gx, r * 3 + 1 + 1, none⟩ (.int .i64 hi')) = wa at *
    clear hc1 hc2 lgx lbx bxc0 bxc1 ww3 ww4 hm2 hm3
    have hX := HPR.out wa gx capx cur _ hxb HXS.out hxc HXT.out
    refine (HC2.out _ _ hX).mono ?_
    rintro e_ wa ⟨rfl, hb⟩
    have hC2 : Below w.heap.size w wa := hC.trans (hb.mono hC.size)
    clear hC; have hC := hC2; clear hC2
    have bx_ := bx.below hb bx.lt; clear bx; have bx := bx_; clear bx_
    have bt_ := bt.below hb bt.lt; clear bt; have bt := bt_; clear bt_
    have bc_ := bc.below hb bc.lt; clear bc; have bc := bc_; clear bc_
    have bv_ := bv.below hb bv.lt; clear bv; have bv := bv_; clear bv_
    have bg_ := bg.below hb bg.lt; clear bg; have bg := bg_; clear bg_
    have hX_ := (RS.below hX hb).more hb.size; clear hX; have hX := hX_; clear hX_
    clear hb
    go_wp2_with fail
    have bd : BK (wa.alloc (.cells #[.int .i64 m1, .int .i64 m2, .int .i64 m3, .int .i64 m4] 34)) wa.heap.size #[.int .i64 m1, .int .i64 m2, .int .i64 m3, .int .i64 m4] 34 := BK.new _ _ _
    have hb : Below wa.heap.size wa (wa.alloc (.cells #[.int .i64 m1, .int .i64 m2, .int .i64 m3, .int .i64 m4] 34)) := Below.alloc (Below.refl _ _) (Nat.le_refl _) _
    have bx_ := bx.below hb bx.lt; clear bx; have bx := bx_; clear bx_
    have bt_ := bt.below hb bt.lt; clear bt; have bt := bt_; clear bt_
    have bc_ := bc.below hb bc.lt; clear bc; have bc := bc_; clear bc_
    have bv_ := bv.below hb bv.lt; clear bv; have bv := bv_; clear bv_
    have bg_ := bg.below hb bg.lt; clear bg; have bg := bg_; clear bg_
    have hX_ := (RS.below hX hb).more hb.size; clear hX; have hX := hX_; clear hX_
    have hC2 := hC.trans (hb.mono hC.size); clear hC hb; have hC := hC2; clear hC2
    obtain ⟨gbd, hgbd⟩ : ∃ g, wa.heap.size = g := ⟨_, rfl⟩
    rw [hgbd] at bd
    try rw [hgbd]
    generalize (wa.alloc (.cells #[.int .i64 m1, .int .i64 m2, .int .i64 m3, .int .i64 m4] 34)) = wa at *
    clear hgbd
    refine (HS2.out _ _ hX).mono ?_
    rintro e_ wa ⟨rfl, hb⟩
    have hC2 : Below w.heap.size w wa := hC.trans (hb.mono hC.size)
    clear hC; have hC := hC2; clear hC2
    have bx_ := bx.below hb bx.lt; clear bx; have bx := bx_; clear bx_
    have bt_ := bt.below hb bt.lt; clear bt; have bt := bt_; clear bt_
    have bc_ := bc.below hb bc.lt; clear bc; have bc := bc_; clear bc_
    have bv_ := bv.below hb bv.lt; clear bv; have bv := bv_; clear bv_
    have bg_ := bg.below hb bg.lt; clear bg; have bg := bg_; clear bg_
    have hX_ := (RS.below hX hb).more hb.size; clear hX; have hX := hX_; clear hX_
    have bd_ := bd.below hb bd.lt; clear bd; have bd := bd_; clear bd_
    clear hb
    go_wp2_with fail
    have bz : BK (wa.alloc (.cells #[.int .i64 z1, .int .i64 z2, .int .i64 z3, .int .i64 z4] 34)) wa.heap.size #[.int .i64 z1, .int .i64 z2, .int .i64 z3, .int .i64 z4] 34 := BK.new _ _ _
    have hb : Below wa.heap.size wa (wa.alloc (.cells #[.int .i64 z1, .int .i64 z2, .int .i64 z3, .int .i64 z4] 34)) := Below.alloc (Below.refl _ _) (Nat.le_refl _) _
    have bx_ := bx.below hb bx.lt; clear bx; have bx := bx_; clear bx_
    have bt_ := bt.below hb bt.lt; clear bt; have bt := bt_; clear bt_
    have bc_ := bc.below hb bc.lt; clear bc; have bc := bc_; clear bc_
    have bv_ := bv.below hb bv.lt; clear bv; have bv := bv_; clear bv_
    have bg_ := bg.below hb bg.lt; clear bg; have bg := bg_; clear bg_
    have hX_ := (RS.below hX hb).more hb.size; clear hX; have hX := hX_; clear hX_
    have bd_ := bd.below hb bd.lt; clear bd; have bd := bd_; clear bd_
    have hC2 := hC.trans (hb.mono hC.size); clear hC hb; have hC := hC2; clear hC2
    obtain ⟨gbz, hgbz⟩ : ∃ g, wa.heap.size = g := ⟨_, rfl⟩
    rw [hgbz] at bz
    try rw [hgbz]
    generalize (wa.alloc (.cells #[.int .i64 z1, .int .i64 z2, .int .i64 z3, .int .i64 z4] 34)) = wa at *
    clear hgbz
    refine (HG2.out _ _ hX).mono ?_
    rintro e_ wa ⟨rfl, hb⟩
    have hC2 : Below w.heap.size w wa := hC.trans (hb.mono hC.size)
    clear hC; have hC := hC2; clear hC2
    have bx_ := bx.below hb bx.lt; clear bx; have bx := bx_; clear bx_
    have bt_ := bt.below hb bt.lt; clear bt; have bt := bt_; clear bt_
    have bc_ := bc.below hb bc.lt; clear bc; have bc := bc_; clear bc_
    have bv_ := bv.below hb bv.lt; clear bv; have bv := bv_; clear bv_
    have bg_ := bg.below hb bg.lt; clear bg; have bg := bg_; clear bg_
    have hX_ := (RS.below hX hb).more hb.size; clear hX; have hX := hX_; clear hX_
    have bd_ := bd.below hb bd.lt; clear bd; have bd := bd_; clear bd_
    have bz_ := bz.below hb bz.lt; clear bz; have bz := bz_; clear bz_
    clear hb
    have lbx := bx.lt
    have bxc0 := bx.cell 0
    have bxc1 := bx.cell 1
    simp at bxc0 bxc1
    have lbt := bt.lt
    have btc0 := bt.cell 0
    have btc1 := bt.cell 1
    have btc2 := bt.cell 2
    have btc3 := bt.cell 3
    simp at btc0 btc1 btc2 btc3
    have lbc := bc.lt
    have bcc0 := bc.cell 0
    have bcc1 := bc.cell 1
    have bcc2 := bc.cell 2
    have bcc3 := bc.cell 3
    simp at bcc0 bcc1 bcc2 bcc3
    have lbv := bv.lt
    have bvc0 := bv.cell 0
    have bvc1 := bv.cell 1
    have bvc2 := bv.cell 2
    have bvc3 := bv.cell 3
    simp at bvc0 bvc1 bvc2 bvc3
    have lbg := bg.lt
    have bgc0 := bg.cell 0
    have bgc1 := bg.cell 1
    have bgc2 := bg.cell 2
    have bgc3 := bg.cell 3
    simp at bgc0 bgc1 bgc2 bgc3
    have lbd := bd.lt
    have bdc0 := bd.cell 0
    have bdc1 := bd.cell 1
    have bdc2 := bd.cell 2
    have bdc3 := bd.cell 3
    simp at bdc0 bdc1 bdc2 bdc3
    have lbz := bz.lt
    have bzc0 := bz.cell 0
    have bzc1 := bz.cell 1
    have bzc2 := bz.cell 2
    have bzc3 := bz.cell 3
    simp at bzc0 bzc1 bzc2 bzc3
    go_wp2_with fail
    clear lbx bxc0 bxc1
    clear lbt btc0 btc1 btc2 btc3
    clear lbc bcc0 bcc1 bcc2 bcc3
    clear lbv bvc0 bvc1 bvc2 bvc3
    clear lbg bgc0 bgc1 bgc2 bgc3
    clear lbd bdc0 bdc1 bdc2 bdc3
    clear lbz bzc0 bzc1 bzc2 bzc3
    have bk : BK (wa.alloc (.cells #[.int .i64 k1.num, .int .i64 k1.den, .int .i64 k2.num, .int .i64 k2.den] 34)) wa.heap.size #[.int .i64 k1.num, .int .i64 k1.den, .int .i64 k2.num, .int .i64 k2.den] 34 := BK.new _ _ _
    have hb : Below wa.heap.size wa (wa.alloc (.cells #[.int .i64 k1.num, .int .i64 k1.den, .int .i64 k2.num, .int .i64 k2.den] 34)) := Below.alloc (Below.refl _ _) (Nat.le_refl _) _
    have bx_ := bx.below hb bx.lt; clear bx; have bx := bx_; clear bx_
    have bt_ := bt.below hb bt.lt; clear bt; have bt := bt_; clear bt_
    have bc_ := bc.below hb bc.lt; clear bc; have bc := bc_; clear bc_
    have bv_ := bv.below hb bv.lt; clear bv; have bv := bv_; clear bv_
    have bg_ := bg.below hb bg.lt; clear bg; have bg := bg_; clear bg_
    have hX_ := (RS.below hX hb).more hb.size; clear hX; have hX := hX_; clear hX_
    have bd_ := bd.below hb bd.lt; clear bd; have bd := bd_; clear bd_
    have bz_ := bz.below hb bz.lt; clear bz; have bz := bz_; clear bz_
    have hC2 := hC.trans (hb.mono hC.size); clear hC hb; have hC := hC2; clear hC2
    obtain ⟨gbk, hgbk⟩ : ∃ g, wa.heap.size = g := ⟨_, rfl⟩
    rw [hgbk] at bk
    try rw [hgbk]
    generalize (wa.alloc (.cells #[.int .i64 k1.num, .int .i64 k1.den, .int .i64 k2.num, .int .i64 k2.den] 34)) = wa at *
    clear hgbk
    refine (small_true HSk.out _).mono ?_
    rintro e_ wa ⟨rfl, hb⟩
    have hC2 : Below w.heap.size w wa := hC.trans (hb.mono hC.size)
    clear hC; have hC := hC2; clear hC2
    have bx_ := bx.below hb bx.lt; clear bx; have bx := bx_; clear bx_
    have bt_ := bt.below hb bt.lt; clear bt; have bt := bt_; clear bt_
    have bc_ := bc.below hb bc.lt; clear bc; have bc := bc_; clear bc_
    have bv_ := bv.below hb bv.lt; clear bv; have bv := bv_; clear bv_
    have bg_ := bg.below hb bg.lt; clear bg; have bg := bg_; clear bg_
    have hX_ := (RS.below hX hb).more hb.size; clear hX; have hX := hX_; clear hX_
    have bd_ := bd.below hb bd.lt; clear bd; have bd := bd_; clear bd_
    have bz_ := bz.below hb bz.lt; clear bz; have bz := bz_; clear bz_
    have bk_ := bk.below hb bk.lt; clear bk; have bk := bk_; clear bk_
    clear hb
    have lbx := bx.lt
    have bxc0 := bx.cell 0
    have bxc1 := bx.cell 1
    simp at bxc0 bxc1
    have lbt := bt.lt
    have btc0 := bt.cell 0
    have btc1 := bt.cell 1
    have btc2 := bt.cell 2
    have btc3 := bt.cell 3
    simp at btc0 btc1 btc2 btc3
    have lbc := bc.lt
    have bcc0 := bc.cell 0
    have bcc1 := bc.cell 1
    have bcc2 := bc.cell 2
    have bcc3 := bc.cell 3
    simp at bcc0 bcc1 bcc2 bcc3
    have lbv := bv.lt
    have bvc0 := bv.cell 0
    have bvc1 := bv.cell 1
    have bvc2 := bv.cell 2
    have bvc3 := bv.cell 3
    simp at bvc0 bvc1 bvc2 bvc3
    have lbg := bg.lt
    have bgc0 := bg.cell 0
    have bgc1 := bg.cell 1
    have bgc2 := bg.cell 2
    have bgc3 := bg.cell 3
    simp at bgc0 bgc1 bgc2 bgc3
    have lbd := bd.lt
    have bdc0 := bd.cell 0
    have bdc1 := bd.cell 1
    have bdc2 := bd.cell 2
    have bdc3 := bd.cell 3
    simp at bdc0 bdc1 bdc2 bdc3
    have lbz := bz.lt
    have bzc0 := bz.cell 0
    have bzc1 := bz.cell 1
    have bzc2 := bz.cell 2
    have bzc3 := bz.cell 3
    simp at bzc0 bzc1 bzc2 bzc3
    have lbk := bk.lt
    have bkc0 := bk.cell 0
    have bkc1 := bk.cell 1
    have bkc2 := bk.cell 2
    have bkc3 := bk.cell 3
    simp at bkc0 bkc1 bkc2 bkc3
    go_wp2_with fail
    clear lbx bxc0 bxc1
    clear lbt btc0 btc1 btc2 btc3
    clear lbc bcc0 bcc1 bcc2 bcc3
    clear lbv bvc0 bvc1 bvc2 bvc3
    clear lbg bgc0 bgc1 bgc2 bgc3
    clear lbd bdc0 bdc1 bdc2 bdc3
    clear lbz bzc0 bzc1 bzc2 bzc3
    clear lbk bkc0 bkc1 bkc2 bkc3
    first
    | (with_reducible refine (small_true (HSd.out (by trivial)) _).mono ?_
       rintro e_ wa ⟨rfl, hb⟩
       have hC2 : Below w.heap.size w wa := hC.trans (hb.mono hC.size)
       clear hC; have hC := hC2; clear hC2
       have bx_ := bx.below hb bx.lt; clear bx; have bx := bx_; clear bx_
       have bt_ := bt.below hb bt.lt; clear bt; have bt := bt_; clear bt_
       have bc_ := bc.below hb bc.lt; clear bc; have bc := bc_; clear bc_
       have bv_ := bv.below hb bv.lt; clear bv; have bv := bv_; clear bv_
       have bg_ := bg.below hb bg.lt; clear bg; have bg := bg_; clear bg_
       have hX_ := (RS.below hX hb).more hb.size; clear hX; have hX := hX_; clear hX_
       have bd_ := bd.below hb bd.lt; clear bd; have bd := bd_; clear bd_
       have bz_ := bz.below hb bz.lt; clear bz; have bz := bz_; clear bz_
       have bk_ := bk.below hb bk.lt; clear bk; have bk := bk_; clear bk_
       clear hb
       have lbx := bx.lt
       have bxc0 := bx.cell 0
       have bxc1 := bx.cell 1
       simp at bxc0 bxc1
       have lbt := bt.lt
       have btc0 := bt.cell 0
       have btc1 := bt.cell 1
       have btc2 := bt.cell 2
       have btc3 := bt.cell 3
       simp at btc0 btc1 btc2 btc3
       have lbc := bc.lt
       have bcc0 := bc.cell 0
       have bcc1 := bc.cell 1
       have bcc2 := bc.cell 2
       have bcc3 := bc.cell 3
       simp at bcc0 bcc1 bcc2 bcc3
       have lbv := bv.lt
       have bvc0 := bv.cell 0
       have bvc1 := bv.cell 1
       have bvc2 := bv.cell 2
       have bvc3 := bv.cell 3
       simp at bvc0 bvc1 bvc2 bvc3
       have lbg := bg.lt
       have bgc0 := bg.cell 0
       have bgc1 := bg.cell 1
       have bgc2 := bg.cell 2
       have bgc3 := bg.cell 3
       simp at bgc0 bgc1 bgc2 bgc3
       have lbd := bd.lt
       have bdc0 := bd.cell 0
       have bdc1 := bd.cell 1
       have bdc2 := bd.cell 2
       have bdc3 := bd.cell 3
       simp at bdc0 bdc1 bdc2 bdc3
       have lbz := bz.lt
       have bzc0 := bz.cell 0
       have bzc1 := bz.cell 1
       have bzc2 := bz.cell 2
       have bzc3 := bz.cell 3
       simp at bzc0 bzc1 bzc2 bzc3
       have lbk := bk.lt
       have bkc0 := bk.cell 0
       have bkc1 := bk.cell 1
       have bkc2 := bk.cell 2
       have bkc3 := bk.cell 3
       simp at bkc0 bkc1 bkc2 bkc3
       go_wp2_with fail
       clear lbx bxc0 bxc1
       clear lbt btc0 btc1 btc2 btc3
       clear lbc bcc0 bcc1 bcc2 bcc3
       clear lbv bvc0 bvc1 bvc2 bvc3
       clear lbg bgc0 bgc1 bgc2 bgc3
       clear lbd bdc0 bdc1 bdc2 bdc3
       clear lbz bzc0 bzc1 bzc2 bzc3
       clear lbk bkc0 bkc1 bkc2 bkc3)
    | skip
    first
    | (with_reducible refine (small_true (HSz.out (by trivial)) _).mono ?_
       rintro e_ wa ⟨rfl, hb⟩
       have hC2 : Below w.heap.size w wa := hC.trans (hb.mono hC.size)
       clear hC; have hC := hC2; clear hC2
       have bx_ := bx.below hb bx.lt; clear bx; have bx := bx_; clear bx_
       have bt_ := bt.below hb bt.lt; clear bt; have bt := bt_; clear bt_
       have bc_ := bc.below hb bc.lt; clear bc; have bc := bc_; clear bc_
       have bv_ := bv.below hb bv.lt; clear bv; have bv := bv_; clear bv_
       have bg_ := bg.below hb bg.lt; clear bg; have bg := bg_; clear bg_
       have hX_ := (RS.below hX hb).more hb.size; clear hX; have hX := hX_; clear hX_
       have bd_ := bd.below hb bd.lt; clear bd; have bd := bd_; clear bd_
       have bz_ := bz.below hb bz.lt; clear bz; have bz := bz_; clear bz_
       have bk_ := bk.below hb bk.lt; clear bk; have bk := bk_; clear bk_
       clear hb
       have lbx := bx.lt
       have bxc0 := bx.cell 0
       have bxc1 := bx.cell 1
       simp at bxc0 bxc1
       have lbt := bt.lt
       have btc0 := bt.cell 0
       have btc1 := bt.cell 1
       have btc2 := bt.cell 2
       have btc3 := bt.cell 3
       simp at btc0 btc1 btc2 btc3
       have lbc := bc.lt
       have bcc0 := bc.cell 0
       have bcc1 := bc.cell 1
       have bcc2 := bc.cell 2
       have bcc3 := bc.cell 3
       simp at bcc0 bcc1 bcc2 bcc3
       have lbv := bv.lt
       have bvc0 := bv.cell 0
       have bvc1 := bv.cell 1
       have bvc2 := bv.cell 2
       have bvc3 := bv.cell 3
       simp at bvc0 bvc1 bvc2 bvc3
       have lbg := bg.lt
       have bgc0 := bg.cell 0
       have bgc1 := bg.cell 1
       have bgc2 := bg.cell 2
       have bgc3 := bg.cell 3
       simp at bgc0 bgc1 bgc2 bgc3
       have lbd := bd.lt
       have bdc0 := bd.cell 0
       have bdc1 := bd.cell 1
       have bdc2 := bd.cell 2
       have bdc3 := bd.cell 3
       simp at bdc0 bdc1 bdc2 bdc3
       have lbz := bz.lt
       have bzc0 := bz.cell 0
       have bzc1 := bz.cell 1
       have bzc2 := bz.cell 2
       have bzc3 := bz.cell 3
       simp at bzc0 bzc1 bzc2 bzc3
       have lbk := bk.lt
       have bkc0 := bk.cell 0
       have bkc1 := bk.cell 1
       have bkc2 := bk.cell 2
       have bkc3 := bk.cell 3
       simp at bkc0 bkc1 bkc2 bkc3
       go_wp2_with fail
       clear lbx bxc0 bxc1
       clear lbt btc0 btc1 btc2 btc3
       clear lbc bcc0 bcc1 bcc2 bcc3
       clear lbv bvc0 bvc1 bvc2 bvc3
       clear lbg bgc0 bgc1 bgc2 bgc3
       clear lbd bdc0 bdc1 bdc2 bdc3
       clear lbz bzc0 bzc1 bzc2 bzc3
       clear lbk bkc0 bkc1 bkc2 bkc3)
    | skip
    first
    | (with_reducible refine (inside_true (HIdc.out (by trivial)) _).mono ?_
       rintro e_ wa ⟨rfl, hb⟩
       have hC2 : Below w.heap.size w wa := hC.trans (hb.mono hC.size)
       clear hC; have hC := hC2; clear hC2
       have bx_ := bx.below hb bx.lt; clear bx; have bx := bx_; clear bx_
       have bt_ := bt.below hb bt.lt; clear bt; have bt := bt_; clear bt_
       have bc_ := bc.below hb bc.lt; clear bc; have bc := bc_; clear bc_
       have bv_ := bv.below hb bv.lt; clear bv; have bv := bv_; clear bv_
       have bg_ := bg.below hb bg.lt; clear bg; have bg := bg_; clear bg_
       have hX_ := (RS.below hX hb).more hb.size; clear hX; have hX := hX_; clear hX_
       have bd_ := bd.below hb bd.lt; clear bd; have bd := bd_; clear bd_
       have bz_ := bz.below hb bz.lt; clear bz; have bz := bz_; clear bz_
       have bk_ := bk.below hb bk.lt; clear bk; have bk := bk_; clear bk_
       clear hb
       have lbx := bx.lt
       have bxc0 := bx.cell 0
       have bxc1 := bx.cell 1
       simp at bxc0 bxc1
       have lbt := bt.lt
       have btc0 := bt.cell 0
       have btc1 := bt.cell 1
       have btc2 := bt.cell 2
       have btc3 := bt.cell 3
       simp at btc0 btc1 btc2 btc3
       have lbc := bc.lt
       have bcc0 := bc.cell 0
       have bcc1 := bc.cell 1
       have bcc2 := bc.cell 2
       have bcc3 := bc.cell 3
       simp at bcc0 bcc1 bcc2 bcc3
       have lbv := bv.lt
       have bvc0 := bv.cell 0
       have bvc1 := bv.cell 1
       have bvc2 := bv.cell 2
       have bvc3 := bv.cell 3
       simp at bvc0 bvc1 bvc2 bvc3
       have lbg := bg.lt
       have bgc0 := bg.cell 0
       have bgc1 := bg.cell 1
       have bgc2 := bg.cell 2
       have bgc3 := bg.cell 3
       simp at bgc0 bgc1 bgc2 bgc3
       have lbd := bd.lt
       have bdc0 := bd.cell 0
       have bdc1 := bd.cell 1
       have bdc2 := bd.cell 2
       have bdc3 := bd.cell 3
       simp at bdc0 bdc1 bdc2 bdc3
       have lbz := bz.lt
       have bzc0 := bz.cell 0
       have bzc1 := bz.cell 1
       have bzc2 := bz.cell 2
       have bzc3 := bz.cell 3
       simp at bzc0 bzc1 bzc2 bzc3
       have lbk := bk.lt
       have bkc0 := bk.cell 0
       have bkc1 := bk.cell 1
       have bkc2 := bk.cell 2
       have bkc3 := bk.cell 3
       simp at bkc0 bkc1 bkc2 bkc3
       go_wp2_with fail
       clear lbx bxc0 bxc1
       clear lbt btc0 btc1 btc2 btc3
       clear lbc bcc0 bcc1 bcc2 bcc3
       clear lbv bvc0 bvc1 bvc2 bvc3
       clear lbg bgc0 bgc1 bgc2 bgc3
       clear lbd bdc0 bdc1 bdc2 bdc3
       clear lbz bzc0 bzc1 bzc2 bzc3
       clear lbk bkc0 bkc1 bkc2 bkc3)
    | skip
    first
    | (with_reducible refine (inside_true (HIvz.out (by trivial)) _).mono ?_
       rintro e_ wa ⟨rfl, hb⟩
       have hC2 : Below w.heap.size w wa := hC.trans (hb.mono hC.size)
       clear hC; have hC := hC2; clear hC2
       have bx_ := bx.below hb bx.lt; clear bx; have bx := bx_; clear bx_
       have bt_ := bt.below hb bt.lt; clear bt; have bt := bt_; clear bt_
       have bc_ := bc.below hb bc.lt; clear bc; have bc := bc_; clear bc_
       have bv_ := bv.below hb bv.lt; clear bv; have bv := bv_; clear bv_
       have bg_ := bg.below hb bg.lt; clear bg; have bg := bg_; clear bg_
       have hX_ := (RS.below hX hb).more hb.size; clear hX; have hX := hX_; clear hX_
       have bd_ := bd.below hb bd.lt; clear bd; have bd := bd_; clear bd_
       have bz_ := bz.below hb bz.lt; clear bz; have bz := bz_; clear bz_
       have bk_ := bk.below hb bk.lt; clear bk; have bk := bk_; clear bk_
       clear hb
       have lbx := bx.lt
       have bxc0 := bx.cell 0
       have bxc1 := bx.cell 1
       simp at bxc0 bxc1
       have lbt := bt.lt
       have btc0 := bt.cell 0
       have btc1 := bt.cell 1
       have btc2 := bt.cell 2
       have btc3 := bt.cell 3
       simp at btc0 btc1 btc2 btc3
       have lbc := bc.lt
       have bcc0 := bc.cell 0
       have bcc1 := bc.cell 1
       have bcc2 := bc.cell 2
       have bcc3 := bc.cell 3
       simp at bcc0 bcc1 bcc2 bcc3
       have lbv := bv.lt
       have bvc0 := bv.cell 0
       have bvc1 := bv.cell 1
       have bvc2 := bv.cell 2
       have bvc3 := bv.cell 3
       simp at bvc0 bvc1 bvc2 bvc3
       have lbg := bg.lt
       have bgc0 := bg.cell 0
       have bgc1 := bg.cell 1
       have bgc2 := bg.cell 2
       have bgc3 := bg.cell 3
       simp at bgc0 bgc1 bgc2 bgc3
       have lbd := bd.lt
       have bdc0 := bd.cell 0
       have bdc1 := bd.cell 1
       have bdc2 := bd.cell 2
       have bdc3 := bd.cell 3
       simp at bdc0 bdc1 bdc2 bdc3
       have lbz := bz.lt
       have bzc0 := bz.cell 0
       have bzc1 := bz.cell 1
       have bzc2 := bz.cell 2
       have bzc3 := bz.cell 3
       simp at bzc0 bzc1 bzc2 bzc3
       have lbk := bk.lt
       have bkc0 := bk.cell 0
       have bkc1 := bk.cell 1
       have bkc2 := bk.cell 2
       have bkc3 := bk.cell 3
       simp at bkc0 bkc1 bkc2 bkc3
       go_wp2_with fail
       clear lbx bxc0 bxc1
       clear lbt btc0 btc1 btc2 btc3
       clear lbc bcc0 bcc1 bcc2 bcc3
       clear lbv bvc0 bvc1 bvc2 bvc3
       clear lbg bgc0 bgc1 bgc2 bgc3
       clear lbd bdc0 bdc1 bdc2 bdc3
       clear lbz bzc0 bzc1 bzc2 bzc3
       clear lbk bkc0 bkc1 bkc2 bkc3)
    | skip
    refine (inside_true HIkg.out _).mono ?_
    rintro e_ wa ⟨rfl, hb⟩
    have hC2 : Below w.heap.size w wa := hC.trans (hb.mono hC.size)
    clear hC; have hC := hC2; clear hC2
    have bx_ := bx.below hb bx.lt; clear bx; have bx := bx_; clear bx_
    have bt_ := bt.below hb bt.lt; clear bt; have bt := bt_; clear bt_
    have bc_ := bc.below hb bc.lt; clear bc; have bc := bc_; clear bc_
    have bv_ := bv.below hb bv.lt; clear bv; have bv := bv_; clear bv_
    have bg_ := bg.below hb bg.lt; clear bg; have bg := bg_; clear bg_
    have hX_ := (RS.below hX hb).more hb.size; clear hX; have hX := hX_; clear hX_
    have bd_ := bd.below hb bd.lt; clear bd; have bd := bd_; clear bd_
    have bz_ := bz.below hb bz.lt; clear bz; have bz := bz_; clear bz_
    have bk_ := bk.below hb bk.lt; clear bk; have bk := bk_; clear bk_
    clear hb
    go_wp2_with fail
    refine (works_any _).mono ?_
    rintro e_ wa ⟨rfl, hb⟩
    have hC2 : Below w.heap.size w wa := hC.trans (hb.mono hC.size)
    clear hC; have hC := hC2; clear hC2
    have bx_ := bx.below hb bx.lt; clear bx; have bx := bx_; clear bx_
    have bt_ := bt.below hb bt.lt; clear bt; have bt := bt_; clear bt_
    have bc_ := bc.below hb bc.lt; clear bc; have bc := bc_; clear bc_
    have bv_ := bv.below hb bv.lt; clear bv; have bv := bv_; clear bv_
    have bg_ := bg.below hb bg.lt; clear bg; have bg := bg_; clear bg_
    have hX_ := (RS.below hX hb).more hb.size; clear hX; have hX := hX_; clear hX_
    have bd_ := bd.below hb bd.lt; clear bd; have bd := bd_; clear bd_
    have bz_ := bz.below hb bz.lt; clear bz; have bz := bz_; clear bz_
    have bk_ := bk.below hb bk.lt; clear bk; have bk := bk_; clear bk_
    clear hb
    go_wp2_with fail
    go_ret
    exact ⟨rfl, hC⟩
theorem within_row (l : List St) (vl : Value) {w : World} (h : RSt w w.heap.size vl l) (_ : l.length ≤ maxLen) (u : List Int) (vu : Value) (h' : RU w w.heap.size vu u) (hub : ∀ k, k < u.length → 0 ≤ nthI u k ∧ nthI u k ≤ 65535) (_ : u.length ≤ maxLen)
    (st : Int) (hst : (Lit.int .u8 st).wf = true) (ro : Int) (hro : (Lit.int .u8 ro).wf = true) (x y : Nat) (hxy : x ≤ 65535 ∧ y ≤ 65535) (W : World) (hw : W = w := by rfl) :
    Calls Try.prog 10 #[vl, vu, .int .u8 st, .int .u8 ro, .agg #[.int .u16 x, .int .u16 y]] W fun e w' => e = .returned (.bool true) ∧ Below W.heap.size W w' := by
  subst hw
  obtain ⟨st, rfl, q1⟩ := byte_wf hst
  obtain ⟨ro, rfl, q2⟩ := byte_wf hro
  by_cases hl : fineB l = false ∨ 40 < u.length
  · exact within_no l u st ro x y vl vu _ hl h h'
  · have hv : checkPair l = 0 := by
      refine Classical.byContradiction fun hc => hl (.inl ?_)
      unfold fineB; exact decide_eq_false hc
    exact within_yes l u st ro x y vl vu _ hv (by omega) q1 q2 hxy hub h h'
end Go.Proofs.Ytbjmkmambmeifaa

namespace Go.Proofs.Ytbjmkmambmeifaa.crossWithin
open Go.ChangeShapes Go.WideShapes Go.ChangeAt Go.RowKit Go.Deep

set_option maxRecDepth 100000 in
theorem lifted (os : Os) (started : os.Started) (H : Type) (enc : TypeId × Value → H) :
    ReturnsInHanded {} Try.checked os 10 .any (Rows.crossWithinSpec.pre6 enc Try.prog Try.f10 Rows.crossWithinRow.domain false) (Rows.crossWithinSpec.post enc Try.prog Try.f10 false true false false) := by
  refine returnsInHanded_of_change (C := Try.checked) own started (by kernel_rfl) Try.func10
    (ChangeSpec.witness6 (enc := enc) (C := Try.checked) false ⟨#[], #[.slice none 0 0, .slice none 0 0, .int .u8 0, .int .u8 0, .agg #[.int .u16 0, .int .u16 0]], []⟩ 8 (by kernel_rfl) (by kernel_rfl) (by kernel_rfl) (by kernel_rfl)) ?_
  intro W base args ds gs before hval0 hW hcnd _
  have hval : ∀ (j : Nat) t v, Try.f10.params[j]? = some t → args[j]? = some v → Value.okWide Try.prog W .any base t v := hval0
  have hW2 : DataW.Whole enc Try.prog Try.f10.params.toList Rows.crossWithinSpec.vars false W args.toList ds gs before := hW
  obtain ⟨p, q, hA0, hV, rfl, hfz, hnd⟩ := hW
  have hA : DataW.TrodAll enc Try.prog W 0 (fun _ => true) true Try.f10.params.toList args.toList ds p := hA0
  rw [Try.params10] at hA hval
  obtain ⟨v0, vs0, d0, ds0, p0, q0, hargs, rfl, rfl, h0, r0⟩ := trodAll_cons hA
  obtain ⟨v1, vs1, d1, ds1, p1, q1, rfl, rfl, rfl, h1, r1⟩ := trodAll_cons r0
  obtain ⟨v2, vs2, d2, ds2, p2, q2, rfl, rfl, rfl, h2, r2⟩ := trodAll_cons r1
  obtain ⟨v3, vs3, d3, ds3, p3, q3, rfl, rfl, rfl, h3, r3⟩ := trodAll_cons r2
  obtain ⟨v4, vs4, d4, ds4, p4, q4, rfl, rfl, rfl, h4, r4⟩ := trodAll_cons r3
  obtain ⟨rfl, rfl, rfl⟩ := trodAll_nil r4
  obtain rfl : args = #[v0, v1, v2, v3, v4] := by cases args; simp_all
  obtain ⟨rfl, rfl⟩ := trodVars_none hV
  obtain ⟨l0, g0, m0⟩ := open_sts (hval 0 22 v0 rfl rfl) h0
  obtain ⟨l1, g1, k1, m1⟩ := open_u16s (hval 1 50 v1 rfl rfl) h1
  obtain ⟨l2, rfl, rfl, rfl, g2⟩ := open_int Try.underlying5 (hval 2 5 v2 rfl rfl) h2
  obtain ⟨l3, rfl, rfl, rfl, g3⟩ := open_int Try.underlying5 (hval 3 5 v3 rfl rfl) h3
  obtain ⟨x4, y4, rfl, g4⟩ := open_a2 (hval 4 66 v4 rfl rfl) h4
  refine (within_row l0 v0 g0 m0 l1 v1 g1 k1 m1 l2 g2 l3 g3 x4 y4 g4 W).mono fun e W' ⟨he, hg⟩ => ?_
  subst he
  exact ⟨_, rfl, law_done hW2 rfl rfl rfl (by rw [Try.params10]; decide +kernel) hg⟩

theorem over : Rows.crossWithinRow.holds Try.pinned (OpenSpec.ofChange Rows.crossWithinSpec) :=
  OpenClaim.holds_of_wide 10 Try.f10 rfl rfl rfl rfl rfl rfl rfl ⟨rfl, rfl, rfl, rfl, rfl⟩ rfl rfl rfl rfl rfl (by kernel_rfl) Try.func10 (by kernel_rfl)
    (of_decide_eq_true (by kernel_rfl)) (by unfold Func.isWrapper; first | (rw [if_pos (by decide +kernel)]; kernel_rfl) | (rw [if_neg (by decide +kernel)]; exact ⟨rfl, rfl⟩))
    (fun os started H enc _ => lifted os started H enc)

theorem proved : Rows.CrossWithinSaid :=
  over
end Go.Proofs.Ytbjmkmambmeifaa.crossWithin
namespace Go.Proofs.Ytbjmkmambmeifaa
theorem crossWithin_proved : Rows.CrossWithinSaid := crossWithin.proved
#print axioms crossWithin_proved
end Go.Proofs.Ytbjmkmambmeifaa
