/- Plain laws: what the kind of a station says. Plain laws: the hull has a line at each station that is under all heights; so the heights that it gives meet everywhere. Plain laws: either there is a wedge, or there are heights that meet everywhere, and the greatest ones. Plain laws: at which tilts blades touch. Plain laws: where blades meet everywhere, spans follow one another. Plain laws: pairs that are tilted, and pairs that are turned round. What the laws of valid pairs have in common: fine, a truth by numbers, the spans of valid pairs. Arguments that are arrays of small numbers. CrossFollow: the walk. For CrossTilted: two lists of stations that grow side by side. For CrossTilted: the spans of pairs that are tilted, or turned round. CrossTilted: the walk. CrossTilted: for arguments that are read. CrossTilted answers true for every input: if each High is greater by as many times its At, spans are moved by as much, and kinds, wedges and what is ground stay; if the blades are turned round, spans have the other sign. No condition. -/
import Derived.Test.YtbjmkmambmeifaaP12
import Derived.Test.YtbjmkmambmeifaaP3
import Derived.Test.YtbjmkmambmeifaaP18
import Derived.Test.YtbjmkmambmeifaaP15
import Derived.Test.YtbjmkmambmeifaaP9
import Derived.Test.YtbjmkmambmeifaaP19
import Derived.Test.YtbjmkmambmeifaaP2
import Derived.Test.YtbjmkmambmeifaaP8
import Derived.Test.YtbjmkmambmeifaaRows
set_option linter.all false
set_option linter.unnecessarySimpa false
set_option linter.unusedSimpArgs false
set_option linter.unusedVariables false
set_option linter.unusedSectionVars false

namespace Go.Proofs.Ytbjmkmambmeifaa
open Go.RowKit
namespace Ma

theorem ln_mono {l : List St} {hs hs' : List Int} (hg : Gd l) (hle : ∀ i, i < l.length → Y hs i ≤ Y hs' i) {i s k : Nat} (h1 : i < s) (h2 : s < k) (h3 : k < l.length) : ln l hs i s k ≤ ln l hs' i s k := by
  rw [le_ln hg (by omega) h3, ln_mul hg (by omega) h3]
  have y1 := hg.X h1 (by omega); have y2 := hg.X h2 h3
  have d1 := Rat.mul_le_mul_of_nonneg_right (hle i (by omega)) (show 0 ≤ X l k - X l s by grind)
  have d2 := Rat.mul_le_mul_of_nonneg_right (hle k h3) (show 0 ≤ X l s - X l i by grind)
  grind
theorem spanE_iff {l : List St} {hs : List Int} {s : Nat} {own : Int} (hg : Gd l) (hh : Hb l hs) (hs1 : s < l.length) (ho : -1000 ≤ own ∧ own ≤ 1000) : spanE l hs s own = 0 ↔ ∀ i k, i < s → s < k → k < l.length → (own : Rat) ≤ ln l hs i s k := by
  rw [← meets_span hg hh hs1 ho, meets_iff hg hh hs1 ho]
theorem spanE_two (l : List St) (hs : List Int) (s : Nat) (own : Int) : spanE l hs s own = 0 ∨ spanE l hs s own = 22 := by
  unfold spanE; split <;> simp
theorem over_sign {l : List St} {hs : List Int} {s : Nat} {own : Int} (hg : Gd l) (hh : Hb l hs) (hs1 : s < l.length) (ho : -1000 ≤ own ∧ own ≤ 1000) : 0 ≤ (overR l hs s own).num ∧ ((overR l hs s own).num ≤ 0 ↔ spanE l hs s own = 0) := by
  obtain ⟨a1, a2⟩ := over_spec hg hh hs1 ho
  have z : V ⟨0, 1⟩ = 0 := by rw [V_one]; rfl
  have p0 : (0 : Rat) ≤ V (overR l hs s own) := ((a2 _).1 Rat.le_refl).1
  constructor
  · rw [← z, V_le Int.one_pos a1.den] at p0
    simpa using p0
  · have e : (overR l hs s own).num ≤ 0 ↔ V (overR l hs s own) ≤ 0 := by
      rw [← z, V_le a1.den Int.one_pos]; simp
    rw [e, a2, spanE_iff hg hh hs1 ho]
    constructor
    · rintro ⟨_, h⟩ i k b c d
      have := h i k b c d; grind
    · intro h
      refine ⟨Rat.le_refl, fun i k b c d => ?_⟩
      have := h i k b c d; grind
/-- A truth: between the ends. -/
theorem truth_le {l : List St} {t : List Int} (h : checkTruth l t = 0) {i : Nat} (hi : i < l.length) : (nthS l i).lo ≤ nthI t i ∧ nthI t i ≤ (nthS l i).hi := by
  unfold checkTruth at h
  by_cases h1 : checkPair l ≠ 0
  · rw [if_pos h1] at h; exact absurd h h1
  · rw [if_neg h1] at h
    by_cases h2 : t.length ≠ l.length
    · rw [if_pos h2] at h; exact absurd h (by decide)
    · rw [if_neg h2] at h
      by_cases h3 : ∀ k, k < l.length → inSt l t k = true
      · have := h3 i hi
        simpa [inSt, inB] using this
      · rw [if_neg h3] at h; exact absurd h (by decide)
theorem truth_pair {l : List St} {t : List Int} (h : checkTruth l t = 0) : checkPair l = 0 ∧ t.length = l.length := by
  unfold checkTruth at h
  by_cases h1 : checkPair l ≠ 0
  · rw [if_pos h1] at h; exact absurd h h1
  · rw [if_neg h1] at h
    by_cases h2 : t.length ≠ l.length
    · rw [if_pos h2] at h; exact absurd h (by decide)
    · omega
theorem truth_hb {l : List St} {t : List Int} (h : checkTruth l t = 0) : Hb l t := fun i hi => by
  have h1 := truth_le h hi; have h2 := valid_at l (truth_pair h).1 i hi; omega
theorem truth_lo {l : List St} {t : List Int} (h : checkTruth l t = 0) {i : Nat} (hi : i < l.length) : Y (ends l false) i ≤ Y t i := by
  unfold Y; rw [ends_lo l hi]; exact Rat.intCast_le_intCast.2 (truth_le h hi).1
theorem truth_hi {l : List St} {t : List Int} (h : checkTruth l t = 0) {i : Nat} (hi : i < l.length) : Y t i ≤ Y (ends l true) i := by
  unfold Y; rw [ends_hi l hi]; exact Rat.intCast_le_intCast.2 (truth_le h hi).2

/-- Whether a station is the second one of a wedge. -/
def wedAt (l : List St) (s : Nat) : Bool := (List.range s).any fun i => (List.range l.length).any fun m => decide (s < m) && isWedgeB l i s m
theorem wedAt_iff {l : List St} {s : Nat} : wedAt l s = true ↔ ∃ i m, i < s ∧ s < m ∧ m < l.length ∧ isWedgeB l i s m = true := by
  unfold wedAt
  simp only [List.any_eq_true, List.mem_range, Bool.and_eq_true, decide_eq_true_eq]
  constructor
  · rintro ⟨i, hi, m, hm, hsm, hw⟩; exact ⟨i, m, hi, hsm, hm, hw⟩
  · rintro ⟨i, m, hi, hsm, hm, hw⟩; exact ⟨i, hi, m, hm, hsm, hw⟩

theorem kinds_law {l : List St} {t : List Int} {s : Nat} (h : checkTruth l t = 0) (hs : s < l.length) :
    (kindP l s = 0 ∧ spanE l (ends l true) s (nthS l s).lo = 22 ∧ spanE l (ends l false) s (nthS l s).hi = 22 ∧ spanE l t s (nthI t s) = 22 ∧ wedAt l s = true ∧ 0 < (overR l (ends l true) s (nthS l s).lo).num ∧ 0 < (overR l (ends l false) s (nthS l s).hi).num) ∨
    (kindP l s = 2 ∧ spanE l (ends l true) s (nthS l s).lo = 0 ∧ spanE l (ends l false) s (nthS l s).hi = 0 ∧ spanE l t s (nthI t s) = 0 ∧ wedAt l s = false ∧ (overR l (ends l true) s (nthS l s).lo).num = 0 ∧ (overR l (ends l false) s (nthS l s).hi).num = 0) ∨
    (kindP l s = 1 ∧ spanE l (ends l true) s (nthS l s).lo = 0 ∧ spanE l (ends l false) s (nthS l s).hi = 22 ∧ (spanE l t s (nthI t s) = 0 ∨ spanE l t s (nthI t s) = 22) ∧ wedAt l s = false ∧ (overR l (ends l true) s (nthS l s).lo).num = 0 ∧ 0 < (overR l (ends l false) s (nthS l s).hi).num) := by
  have hv := (truth_pair h).1
  have g := gd l hv
  have ht := truth_le h hs
  have h2 := valid_at l hv s hs
  have i1 := spanE_iff g (hb l true hv) hs (lo_rng l hv hs)
  have i2 := spanE_iff g (hb l false hv) hs (hi_rng l hv hs)
  have i4 := spanE_iff g (truth_hb h) hs (own := nthI t s) (by omega)
  have o1 := over_sign g (hb l true hv) hs (lo_rng l hv hs)
  have o2 := over_sign g (hb l false hv) hs (hi_rng l hv hs)
  have tl := Rat.intCast_le_intCast.2 ht.1
  have th := Rat.intCast_le_intCast.2 ht.2
  have s24 : spanE l (ends l false) s (nthS l s).hi = 0 → spanE l t s (nthI t s) = 0 := by
    rw [i2, i4]
    intro hA i k a b c
    have := hA i k a b c
    have m := ln_mono g (fun j hj => truth_lo h hj) a b c
    exact Rat.le_trans th (Rat.le_trans this m)
  have s41 : spanE l t s (nthI t s) = 0 → spanE l (ends l true) s (nthS l s).lo = 0 := by
    rw [i1, i4]
    intro hA i k a b c
    have := hA i k a b c
    have m := ln_mono g (fun j hj => truth_hi h hj) a b c
    exact Rat.le_trans tl (Rat.le_trans this m)
  have w1 : wedAt l s = false ↔ spanE l (ends l true) s (nthS l s).lo = 0 := by
    rw [← Bool.not_eq_true, wedAt_iff, i1]
    constructor
    · intro hn i k a b c
      rw [← Rat.not_lt, ← wedge_iff l hv a b c]
      exact fun hw => hn ⟨i, k, a, b, c, hw⟩
    · rintro hA ⟨i, k, a, b, c, hw⟩
      rw [wedge_iff l hv a b c] at hw
      have := hA i k a b c
      grind
  rw [kind_eq l hv s hs]
  unfold kindR
  rcases spanE_two l (ends l true) s (nthS l s).lo with e1 | e1
  · rcases spanE_two l (ends l false) s (nthS l s).hi with e2 | e2
    · refine .inr (.inl ⟨?_, e1, e2, s24 e2, w1.2 e1, ?_, ?_⟩)
      · rw [if_neg (fun hx => hx e1), if_neg (fun hx => hx e2)]
      · have := o1.2.2 e1; omega
      · have := o2.2.2 e2; omega
    · refine .inr (.inr ⟨?_, e1, e2, spanE_two .., w1.2 e1, ?_, ?_⟩)
      · rw [if_neg (fun hx => hx e1), if_pos (by omega)]
      · have := o1.2.2 e1; omega
      · have : ¬ (overR l (ends l false) s (nthS l s).hi).num ≤ 0 := fun hx => by have := o2.2.1 hx; omega
        omega
  · have n1 : spanE l (ends l true) s (nthS l s).lo ≠ 0 := by omega
    have e4 : spanE l t s (nthI t s) = 22 := by
      rcases spanE_two l t s (nthI t s) with e | e
      · exact absurd (s41 e) n1
      · exact e
    have e2 : spanE l (ends l false) s (nthS l s).hi = 22 := by
      rcases spanE_two l (ends l false) s (nthS l s).hi with e | e
      · have := s24 e; omega
      · exact e
    refine .inl ⟨?_, e1, e2, e4, ?_, ?_, ?_⟩
    · rw [if_pos n1]
    · cases hw : wedAt l s with
      | true => rfl
      | false => exact absurd (w1.1 hw) n1
    · have : ¬ (overR l (ends l true) s (nthS l s).lo).num ≤ 0 := fun hx => n1 (o1.2.1 hx)
      omega
    · have : ¬ (overR l (ends l false) s (nthS l s).hi).num ≤ 0 := fun hx => by have := o2.2.1 hx; omega
      omega
end Ma
end Go.Proofs.Ytbjmkmambmeifaa

namespace Go.Proofs.Ytbjmkmambmeifaa
open Go.RowKit
namespace Ma

theorem hull_sup {l : List St} {hs : List Int} (hg : Gd l) (hh : Hb l hs) {i : Nat} (hi : i < l.length) :
    ∃ al mu : Rat, (∀ v, v < l.length → al + mu * X l v ≤ Y hs v) ∧ V (heightR l hs (hullR l hs l.length).reverse (nthS l i).a) = al + mu * X l i := by
  obtain ⟨m, hm⟩ : ∃ m, l.length = m + 1 := ⟨l.length - 1, by omega⟩
  have hcv := hullR_cv (hs := hs) hg m (by omega)
  rw [← hm] at hcv
  obtain ⟨c1, c2, c3, c4, c5⟩ := cv_list hg _ hcv.1 (by rw [hcv.2]; simp; omega)
  rw [hcv.2] at c3
  have hlen : (hullR l hs l.length).reverse.length = (hullR l hs l.length).length := by simp
  generalize (hullR l hs l.length).reverse = L at *
  generalize (hullR l hs l.length).length = N at *
  have c3' : nm L (N - 1) = m := by simpa using c3
  clear hcv c3
  -- vertices rise
  have hmono : ∀ a b, a ≤ b → b < N → nm L a ≤ nm L b := by
    intro a b
    induction b with
    | zero => intro h _; obtain rfl : a = 0 := by omega
              exact Nat.le_refl _
    | succ b ih =>
      intro h1 h2
      rcases Nat.lt_or_ge b a with h | h
      · obtain rfl : a = b + 1 := by omega
        exact Nat.le_refl _
      · have := ih h (by omega); have := (c4 b h2).1; omega
  have hlt : ∀ j, j < N → nm L j < l.length := fun j hj => by have := hmono j (N - 1) (by omega) (by omega); omega
  have hx : ∀ e, e + 1 < N → X l (nm L e) < X l (nm L (e + 1)) := fun e he => hg.X (c4 e he).1 (hlt _ he)
  have hsup : ∀ e v, e + 1 < N → v < l.length → Y hs (nm L e) + slp (fun j => Y hs (nm L j)) (fun j => X l (nm L j)) e * (X l v - X l (nm L e)) ≤ Y hs v := by
    intro e v he hv
    have hv0 := conv_support (H := fun j => Y hs (nm L j)) (x := fun j => X l (nm L j)) hx c5 e
    generalize slp (fun j => Y hs (nm L j)) (fun j => X l (nm L j)) e = mm at *
    obtain ⟨j, hj, hij, hmin⟩ := least_idx (L := L) (i := v) N ⟨N - 1, by omega, by omega⟩
    rcases Nat.lt_or_eq_of_le hij with h | h
    · rcases Nat.eq_zero_or_pos j with h0 | h0
      · subst h0; omega
      obtain ⟨j, rfl⟩ : ∃ j', j = j' + 1 := ⟨j - 1, by omega⟩
      have hp := hmin j (by omega)
      have a := (c4 j hj).2 v hp h
      have b1 := hv0 j he (by omega)
      have b2 := hv0 (j + 1) he hj
      refine Rat.le_trans ?_ a
      rw [le_ln hg (by omega) (hlt _ hj)]
      have y1 := hg.X hp hv; have y2 := hg.X h (hlt _ hj)
      have d1 := Rat.mul_le_mul_of_nonneg_right b1 (show 0 ≤ X l (nm L (j + 1)) - X l v by grind)
      have d2 := Rat.mul_le_mul_of_nonneg_right b2 (show 0 ≤ X l v - X l (nm L j) by grind)
      grind
    · rw [h]; exact hv0 j he hj
  obtain ⟨j, hj, hij, hmin⟩ := least_idx (L := L) (i := i) N ⟨N - 1, by omega, by omega⟩
  have ha : ∀ j', j' < j → (nthS l (nm L j')).a < (nthS l i).a := fun j' hj' => hg.up _ _ (hmin j' hj') hi
  rcases Nat.lt_or_eq_of_le hij with h | h
  · rcases Nat.eq_zero_or_pos j with h0 | h0
    · subst h0; omega
    obtain ⟨j, rfl⟩ : ∃ j', j = j' + 1 := ⟨j - 1, by omega⟩
    rw [heightR_gt l hs L _ (j + 1) (by omega) ha (hg.up _ _ h (hlt _ hj))]
    have hp := hmin j (by omega)
    obtain ⟨o1, o2⟩ := line_ok hg hh hi (nm L j) (nm L (j + 1)) hp h (hlt _ hj)
    rw [Nat.add_sub_cancel, o2]
    have e1 := slp_mul (H := fun j => Y hs (nm L j)) (x := fun j => X l (nm L j)) hx j hj
    have hs' := fun v hv => hsup j v hj hv
    generalize slp (fun j => Y hs (nm L j)) (fun j => X l (nm L j)) j = mm at *
    refine ⟨Y hs (nm L j) - mm * X l (nm L j), mm, fun v hv => ?_, ?_⟩
    · have := hs' v hv
      grind
    · have y3 := hg.X hp hi; have y4 := hg.X h (hlt _ hj)
      unfold ln
      have : X l (nm L (j + 1)) - X l (nm L j) ≠ 0 := by grind
      have e3 : Y hs (nm L (j + 1)) = Y hs (nm L j) + mm * (X l (nm L (j + 1)) - X l (nm L j)) := by grind
      rw [e3]
      clear hsup hs' c4 c5 hmono hmin ha hlt hx
      grind
  · rw [heightR_eq l hs L _ j (by omega) ha (by rw [← h]), ← h, V_one]
    show ∃ al mu : Rat, _ ∧ Y hs i = _
    rcases Nat.eq_zero_or_pos j with h0 | h0
    · subst h0
      rcases Nat.lt_or_ge 1 N with hN | hN
      · have hs' := fun v hv => hsup 0 v hN hv
        rw [← h] at hs'
        generalize slp (fun j => Y hs (nm L j)) (fun j => X l (nm L j)) 0 = mm at *
        refine ⟨Y hs i - mm * X l i, mm, fun v hv => ?_, ?_⟩
        · have := hs' v hv
          clear hsup hs' c4 c5 hmono hmin ha hlt hx
          grind
        · clear hsup hs' c4 c5 hmono hmin ha hlt hx
          grind
      · have hN1 : N = 1 := by omega
        have hm0 : m = 0 := by rw [← c3', hN1]; exact c2
        refine ⟨Y hs i, 0, fun v hv => ?_, ?_⟩
        · obtain rfl : v = i := by omega
          grind
        · grind
    · obtain ⟨j, rfl⟩ : ∃ j', j = j' + 1 := ⟨j - 1, by omega⟩
      have e1 := slp_mul (H := fun j => Y hs (nm L j)) (x := fun j => X l (nm L j)) hx j hj
      have hs' := fun v hv => hsup j v hj hv
      generalize slp (fun j => Y hs (nm L j)) (fun j => X l (nm L j)) j = mm at *
      rw [← h] at e1
      refine ⟨Y hs (nm L j) - mm * X l (nm L j), mm, fun v hv => ?_, ?_⟩
      · have := hs' v hv
        clear hsup hs' c4 c5 hmono hmin ha hlt hx
        grind
      · clear hsup hs' c4 c5 hmono hmin ha hlt hx
        grind

/-- The heights that are returned meet everywhere. -/
theorem hP_conv {l : List St} (h : checkPair l = 0) {i k m : Nat} (h1 : i < k) (h2 : k < m) (h3 : m < l.length) :
    V (hP l k) * (X l m - X l i) ≤ V (hP l i) * (X l m - X l k) + V (hP l m) * (X l k - X l i) := by
  have g := gd l h
  obtain ⟨al, mu, hsup, he⟩ := hull_sup g (hb l true h) (show k < l.length by omega)
  have he' : V (hP l k) = al + mu * X l k := he
  have low : ∀ v, v < l.length → al + mu * X l v ≤ V (hP l v) := by
    intro v hv
    rw [(hP_spec l h hv).2]
    refine ⟨hsup v hv, fun i' k' a b c => ?_⟩
    rw [le_ln g (by omega) c]
    have y1 := g.X a hv; have y2 := g.X b c
    have d1 := Rat.mul_le_mul_of_nonneg_right (hsup i' (by omega)) (show 0 ≤ X l k' - X l v by grind)
    have d2 := Rat.mul_le_mul_of_nonneg_right (hsup k' c) (show 0 ≤ X l v - X l i' by grind)
    grind
  have y1 := g.X h1 (by omega); have y2 := g.X h2 h3
  have d1 := Rat.mul_le_mul_of_nonneg_right (low i (by omega)) (show 0 ≤ X l m - X l k by grind)
  have d2 := Rat.mul_le_mul_of_nonneg_right (low m h3) (show 0 ≤ X l k - X l i by grind)
  rw [he']
  grind
end Ma
end Go.Proofs.Ytbjmkmambmeifaa

namespace Go.Proofs.Ytbjmkmambmeifaa
open Go.RowKit
namespace Ma

theorem lessW_V2 {a b : Ra} (ha : 0 < a.den) (ha2 : a.den ≤ 1000000000) (ha3 : -1000000000 ≤ a.num) (ha4 : a.num ≤ 1000000000) (hb : 0 < b.den) (hb2 : b.den ≤ 1000000000) (hb3 : -1000000000 ≤ b.num) (hb4 : b.num ≤ 1000000000) : lessW a b = decide (V a < V b) := by
  unfold lessW
  obtain ⟨p1, p2⟩ := mul_bd ha3 ha4 hb hb2
  obtain ⟨q1, q2⟩ := mul_bd hb3 hb4 ha ha2
  rw [wrap_id p1 p2, wrap_id q1 q2]
  simp only [V_lt ha hb]
/-- What is true of allowed heights. -/
theorem chB_at {l : List St} {h : List Ra} {k : Nat} : chB l h k = true ↔ 1 ≤ (nthR h k).den ∧ (nthR h k).den ≤ 1000 ∧ -1000000 ≤ (nthR h k).num ∧ (nthR h k).num ≤ 1000000 ∧ (nthS l k).lo * (nthR h k).den ≤ (nthR h k).num ∧ (nthR h k).num ≤ (nthS l k).hi * (nthR h k).den := by
  simp [chB, inB]
  constructor
  · rintro ⟨⟨a, b⟩, ⟨c, d⟩, e, f⟩; exact ⟨a, b, c, d, e, f⟩
  · rintro ⟨a, b, c, d, e, f⟩; exact ⟨⟨a, b⟩, ⟨c, d⟩, e, f⟩
theorem checkHP_zero {l : List St} {h : List Ra} : checkHP l h = 0 ↔ checkPair l = 0 ∧ h.length = l.length ∧ (∀ k, k < l.length → chB l h k = true) ∧ ∀ i k m, i < k → k < m → m < l.length → gapeB l h i k m = false := by
  rw [check_eq]
  unfold checkHR
  by_cases h0 : checkPair l = 0
  · rw [if_neg (fun hx => hx h0)]
    by_cases h1 : h.length = l.length
    · rw [if_neg (fun hx => hx h1)]
      by_cases h2 : ∀ k, k < l.length → chB l h k = true
      · rw [if_pos h2, ← noGape_iff]
        by_cases h3 : noGape l h = true
        · rw [if_pos h3]; exact ⟨fun _ => ⟨h0, h1, h2, h3⟩, fun _ => rfl⟩
        · rw [if_neg h3]; exact ⟨fun hx => absurd hx (by decide), fun hx => absurd hx.2.2.2 h3⟩
      · rw [if_neg h2]; exact ⟨fun hx => absurd hx (by decide), fun hx => absurd hx.2.2.1 h2⟩
    · rw [if_pos h1]; exact ⟨fun hx => absurd hx (by decide), fun hx => absurd hx.2.1 h1⟩
  · rw [if_pos h0]; exact ⟨fun hx => absurd hx h0, fun hx => absurd hx.1 h0⟩
theorem V_range {r : Ra} {a b : Int} (hd : 0 < r.den) : (a * r.den ≤ r.num ↔ (a : Rat) ≤ V r) ∧ (r.num ≤ b * r.den ↔ V r ≤ (b : Rat)) := by
  constructor
  · rw [← V_one, V_le Int.one_pos hd]; simp
  · rw [← V_one, V_le hd Int.one_pos]; simp
/-- Heights that are allowed and meet everywhere are nowhere above the greatest ones. -/
theorem given_le {l : List St} {g : List Ra} (hz : checkHP l g = 0) {k : Nat} (hk : k < l.length) : V (nthR g k) ≤ V (hP l k) := by
  obtain ⟨h0, h1, h2, h3⟩ := checkHP_zero.1 hz
  have hc := chB_at.1 (h2 k hk)
  have gg := gd l h0
  have hi : ∀ j, j < l.length → V (nthR g j) ≤ Y (ends l true) j := by
    intro j hj
    have := chB_at.1 (h2 j hj)
    unfold Y; rw [ends_hi l hj]
    exact (V_range (a := 0) (by omega)).2.1 this.2.2.2.2.2
  rw [(hP_spec l h0 hk).2]
  refine ⟨hi k hk, fun i m a b c => ?_⟩
  have hg := h3 i k m a b c
  rw [← Bool.not_eq_true, bend_iff l g (by have := chB_at.1 (h2 i (by omega)); omega) (by omega) (by have := chB_at.1 (h2 m c); omega), Rat.not_lt] at hg
  rw [le_ln gg (by omega) c]
  have y1 := gg.X a hk; have y2 := gg.X b c
  have d1 := Rat.mul_le_mul_of_nonneg_right (hi i (by omega)) (show 0 ≤ X l m - X l k by grind)
  have d2 := Rat.mul_le_mul_of_nonneg_right (hi m c) (show 0 ≤ X l k - X l i by grind)
  grind
theorem wedge_no {l : List St} {g : List Ra} {i k m : Nat} (a : i < k) (b : k < m) (c : m < l.length) (hw : isWedgeB l i k m = true) : checkHP l g ≠ 0 := by
  intro hz
  obtain ⟨h0, h1, h2, h3⟩ := checkHP_zero.1 hz
  have hk : k < l.length := by omega
  have hc := chB_at.1 (h2 k hk)
  have e := (V_range (r := nthR g k) (a := (nthS l k).lo) (b := 0) (by omega)).1.1 hc.2.2.2.2.1
  have q := given_le hz hk
  have := ((hP_spec l h0 hk).2 _).1 Rat.le_refl
  have := this.2 i m a b c
  rw [wedge_iff l h0 a b c] at hw
  grind
theorem hP_den {l : List St} (h : checkPair l = 0) {i : Nat} (hi : i < l.length) : (hP l i).den ≤ 1000 := by
  rw [height_eq l h i hi]
  unfold hR
  split
  · rename_i hc
    exact (least_rng l true h i hc.1).2.2
  · show (1 : Int) ≤ 1000; decide
theorem nthR_map {l : List St} (f : Nat → Ra) {i : Nat} (hi : i < l.length) : nthR ((List.range l.length).map f) i = f i := by simp [nthR, hi]
theorem either_none {l : List St} (h : checkPair l = 0) (hw : wedgeF l = none) : heightsErrP l = 0 ∧ (heightsP l).length = l.length ∧ checkHP l (heightsP l) = 0 ∧ (∀ i k m, i < k → k < m → m < l.length → isWedgeB l i k m = false) ∧
    ∀ g, checkHP l g = 0 → ∀ i, i < l.length → lessW (nthR (heightsP l) i) (nthR g i) = false := by
  have he : heightsErrP l = 0 := by rw [heightsErr_eq]; unfold heightsErrR; rw [if_neg (fun hx => hx h), hw]; simp
  have hnw : ∀ i k m, i < k → k < m → m < l.length → isWedgeB l i k m = false := by
    intro i k m a b c
    rw [← Bool.not_eq_true]
    intro hx
    have := wedgeF_iff.2 ⟨i, k, m, a, b, c, hx⟩
    rw [hw] at this; cases this
  have hf : heightsP l = (List.range l.length).map (hP l) := by unfold heightsP; rw [if_pos he]
  have hlo : ∀ k, k < l.length → ((nthS l k).lo : Rat) ≤ V (hP l k) ∧ V (hP l k) ≤ ((nthS l k).hi : Rat) := by
    intro k hk
    have hs := hP_spec l h hk
    constructor
    · rw [hs.2]
      refine ⟨?_, fun i m a b c => ?_⟩
      · unfold Y; rw [ends_hi l hk]; exact Rat.intCast_le_intCast.2 (valid_at l h k hk).2.2.2.1
      · rw [← Rat.not_lt, ← wedge_iff l h a b c, hnw i k m a b c]; simp
    · have := ((hs.2 _).1 Rat.le_refl).1
      unfold Y at this; rw [ends_hi l hk] at this; exact this
  refine ⟨he, by rw [hf]; simp, checkHP_zero.2 ⟨h, by rw [hf]; simp, fun k hk => ?_, fun i k m a b c => ?_⟩, hnw, fun g hz i hi => ?_⟩
  · rw [chB_at, hf, nthR_map _ hk]
    have hd := (hP_spec l h hk).1.den
    have hd2 := hP_den h hk
    have e1 := (V_range (r := hP l k) (a := (nthS l k).lo) (b := (nthS l k).hi) hd).1.2 (hlo k hk).1
    have e2 := (V_range (r := hP l k) (a := (nthS l k).lo) (b := (nthS l k).hi) hd).2.2 (hlo k hk).2
    have hv := valid_at l h k hk
    have m1 := mul_rng (a := (nthS l k).lo) (b := (hP l k).den) (by omega) (by omega) (by omega) hd2
    have m2 := mul_rng (a := (nthS l k).hi) (b := (hP l k).den) (by omega) (by omega) (by omega) hd2
    omega
  · rw [← Bool.not_eq_true, hf, bend_iff l _ (by rw [nthR_map _ (show i < l.length by omega)]; exact (hP_spec l h (show i < l.length by omega)).1.den) (by rw [nthR_map _ (show k < l.length by omega)]; exact (hP_spec l h (show k < l.length by omega)).1.den) (by rw [nthR_map _ c]; exact (hP_spec l h c).1.den), nthR_map _ (show i < l.length by omega), nthR_map _ (show k < l.length by omega), nthR_map _ c, Rat.not_lt]
    exact hP_conv h a b c
  · rw [hf, nthR_map _ hi]
    have hc := chB_at.1 ((checkHP_zero.1 hz).2.2.1 i hi)
    have ho := (hP_spec l h hi).1
    rw [lessW_V2 ho.den ho.den2 ho.num1 ho.num2 (by omega) (by omega) (by omega) (by omega)]
    have := given_le hz hi
    simp; grind
theorem either_some {l : List St} {t : List Int} {i k m : Nat} (ht : checkTruth l t = 0) (hw : wedgeF l = some (i, k, m)) : i < k ∧ k < m ∧ m < l.length ∧ isWedgeB l i k m = true ∧ spanE l t k (nthI t k) = 22 ∧ heightsErrP l = 22 ∧ heightsP l = [] ∧ ∀ g, checkHP l g ≠ 0 := by
  have h := (truth_pair ht).1
  obtain ⟨a, b, c, d⟩ := wedgeF_some hw
  have he : heightsErrP l = 22 := by rw [heightsErr_eq]; unfold heightsErrR; rw [if_neg (fun hx => hx h), hw]; simp
  refine ⟨a, b, c, d, ?_, he, by unfold heightsP; rw [if_neg (by omega)], fun g => wedge_no a b c d⟩
  have hk : k < l.length := by omega
  rcases kinds_law ht hk with hA | hA | hA
  · exact hA.2.2.2.1
  · have : wedAt l k = true := wedAt_iff.2 ⟨i, m, a, b, c, d⟩
    rw [hA.2.2.2.2.1] at this; cases this
  · have : wedAt l k = true := wedAt_iff.2 ⟨i, m, a, b, c, d⟩
    rw [hA.2.2.2.2.1] at this; cases this
end Ma
end Go.Proofs.Ytbjmkmambmeifaa

namespace Go.Proofs.Ytbjmkmambmeifaa
open Go.RowKit
namespace Ma

theorem lo_mem {l : List St} {hs : List Int} {s : Nat} {own : Int} (hg : Gd l) (hh : Hb l hs) (hs1 : s < l.length) (ho : -1000 ≤ own ∧ own ≤ 1000) : -10000 ≤ (loB l hs s own).num ∧ (loB l hs s own).num ≤ 10000 ∧ 0 < (loB l hs s own).den ∧ (loB l hs s own).den ≤ 1000 := by
  have hall : ∀ r, r ∈ ⟨-10000, 1⟩ :: los l hs s own → OkR r := by
    intro r hr
    rcases List.mem_cons.1 hr with rfl | hr
    · exact okR_one _ (by decide) (by decide)
    · obtain ⟨i, hi, rfl⟩ := List.mem_map.1 hr
      exact (los_ok hg hh hs1 ho i (List.mem_range.1 hi)).1
  have hm := (best_max ⟨-10000, 1⟩ (los l hs s own) hall).1
  rcases List.mem_cons.1 hm with h | h
  · unfold loB; rw [h]; decide
  · obtain ⟨i, hi, he⟩ := List.mem_map.1 h
    have hi := List.mem_range.1 hi
    unfold loB; rw [← he]
    have h1 := hg.up i s hi hs1; have h2 := hg.a1 i (by omega); have h3 := hg.a2 s hs1; have h4 := hh i (by omega)
    have := frac_bounds (own - nthI hs i) ((nthS l s).a - (nthS l i).a) (by omega)
    omega
theorem hi_mem {l : List St} {hs : List Int} {s : Nat} {own : Int} (hg : Gd l) (hh : Hb l hs) (hs1 : s < l.length) (ho : -1000 ≤ own ∧ own ≤ 1000) : -10000 ≤ (hiB l hs s own).num ∧ (hiB l hs s own).num ≤ 10000 ∧ 0 < (hiB l hs s own).den ∧ (hiB l hs s own).den ≤ 1000 := by
  have hall : ∀ r, r ∈ ⟨10000, 1⟩ :: his l hs s own → OkR r := by
    intro r hr
    rcases List.mem_cons.1 hr with rfl | hr
    · exact okR_one _ (by decide) (by decide)
    · obtain ⟨i, hi, rfl⟩ := List.mem_map.1 hr
      have := List.mem_range.1 hi
      exact (his_ok hg hh hs1 ho (s + 1 + i) (by omega) (by omega)).1
  have hm := (best_min ⟨10000, 1⟩ (his l hs s own) hall).1
  rcases List.mem_cons.1 hm with h | h
  · unfold hiB; rw [h]; decide
  · obtain ⟨i, hi, he⟩ := List.mem_map.1 h
    have hi := List.mem_range.1 hi
    unfold hiB; rw [← he]
    have hk2 : s + 1 + i < l.length := by omega
    have h1 := hg.up s (s + 1 + i) (by omega) hk2; have h2 := hg.a1 s (by omega); have h3 := hg.a2 _ hk2; have h4 := hh _ hk2
    have := frac_bounds (nthI hs (s + 1 + i) - own) ((nthS l (s + 1 + i)).a - (nthS l s).a) (by omega)
    omega

theorem tilt_V {x : Ra} (h : isTilt x = true) : 0 < x.den ∧ -10000 ≤ V x ∧ V x ≤ 10000 := by
  have := tilt_at x h
  have hd : 0 < x.den := by omega
  refine ⟨hd, ?_, ?_⟩
  · have := (V_range (r := x) (a := -10000) (b := 0) hd).1.1 (by omega)
    exact this
  · have := (V_range (r := x) (a := 0) (b := 10000) hd).2.1 (by omega)
    exact this
/-- The height at a station along a tilt. -/
theorem ctV_le {l : List St} {t : List Int} {x : Ra} (hd : 0 < x.den) {i k : Nat} : ctV l t x i ≤ ctV l t x k ↔ Y t i - V x * X l i ≤ Y t k - V x * X l k := by
  have hp := rpos hd
  unfold ctV
  rw [← Rat.intCast_le_intCast]
  simp only [Rat.intCast_sub, Rat.intCast_mul]
  rw [V_num hd]
  show Y t i * _ - V x * _ * X l i ≤ Y t k * _ - V x * _ * X l k ↔ _
  constructor
  · intro h
    refine Rat.le_of_mul_le_mul_right (c := (x.den : Rat)) ?_ hp
    grind
  · intro h
    have := Rat.mul_le_mul_of_nonneg_right h (Rat.le_of_lt hp)
    grind
theorem ctLeast_iff {l : List St} {t : List Int} {x : Ra} (hd : 0 < x.den) {i : Nat} : ctLeast l t x i = true ↔ ∀ k, k < l.length → Y t i - V x * X l i ≤ Y t k - V x * X l k := by
  unfold ctLeast
  simp only [List.all_eq_true, List.mem_range, decide_eq_true_eq]
  exact ⟨fun h k hk => (ctV_le hd).1 (h k hk), fun h k hk => (ctV_le hd).2 (h k hk)⟩
theorem ct_exists (l : List St) (t : List Int) (x : Ra) (h0 : 0 < l.length) : ∃ i, i < l.length ∧ ctLeast l t x i = true := by
  have key : ∀ n, 0 < n → ∃ i, i < n ∧ ∀ k, k < n → ctV l t x i ≤ ctV l t x k := by
    intro n
    induction n with
    | zero => intro h; omega
    | succ n ih =>
      intro _
      rcases Nat.eq_zero_or_pos n with hz | hz
      · subst hz; exact ⟨0, by omega, fun k hk => by rw [show k = 0 from by omega]; exact Int.le_refl _⟩
      · obtain ⟨i, hi, hA⟩ := ih hz
        by_cases hc : ctV l t x i ≤ ctV l t x n
        · refine ⟨i, by omega, fun k hk => ?_⟩
          rcases Nat.lt_succ_iff_lt_or_eq.1 hk with h | rfl
          · exact hA k h
          · exact hc
        · refine ⟨n, by omega, fun k hk => ?_⟩
          rcases Nat.lt_succ_iff_lt_or_eq.1 hk with h | rfl
          · have := hA k h; omega
          · exact Int.le_refl _
  obtain ⟨i, hi, hA⟩ := key _ h0
  refine ⟨i, hi, ?_⟩
  unfold ctLeast
  simp only [List.all_eq_true, List.mem_range, decide_eq_true_eq]
  exact hA
/-- Along a greater tilt blades touch no earlier. -/
theorem travels {l : List St} {t : List Int} {x y : Ra} (hg : Gd l) (hx : 0 < x.den) (hy : 0 < y.den) (hlt : V x < V y) {i k : Nat} (hi : i < l.length) (hk : k < l.length) (h1 : ctLeast l t x i = true) (h2 : ctLeast l t y k = true) : i ≤ k := by
  have a := (ctLeast_iff hx).1 h1 k hk
  have b := (ctLeast_iff hy).1 h2 i hi
  refine Nat.le_of_not_lt fun hc => ?_
  have c := hg.X hc hi
  have d := Rat.mul_lt_mul_of_pos_right (show V x - V y < 0 by grind) (show 0 < X l i - X l k by grind)
  grind
/-- Blades touch at a station along a tilt just if the tilt is in its span. -/
theorem inside_iff {l : List St} {t : List Int} {x : Ra} (h : checkTruth l t = 0) (hx : isTilt x = true) {i : Nat} (hi : i < l.length) :
    (V (loB l t i (nthI t i)) ≤ V x ∧ V x ≤ V (hiB l t i (nthI t i))) ↔ ctLeast l t x i = true := by
  have hv := (truth_pair h).1
  have g := gd l hv
  obtain ⟨hd, t1, t2⟩ := tilt_V hx
  have ho := truth_hb h i hi
  rw [ctLeast_iff hd, lo_le g (truth_hb h) hi ho, le_hi g (truth_hb h) hi ho]
  have e1 : ∀ j, j < i → (sl1 l t i (nthI t i) j ≤ V x ↔ Y t i - V x * X l i ≤ Y t j - V x * X l j) := by
    intro j hj
    have := g.X hj hi
    unfold sl1
    rw [rdiv_le' (by grind)]
    show Y t i - Y t j ≤ _ ↔ _
    constructor <;> intro h <;> grind
  have e2 : ∀ k, i < k → k < l.length → (V x ≤ sl2 l t i (nthI t i) k ↔ Y t i - V x * X l i ≤ Y t k - V x * X l k) := by
    intro k hk hk2
    have := g.X hk hk2
    unfold sl2
    rw [le_rdiv (by grind)]
    show _ ≤ Y t k - Y t i ↔ _
    constructor <;> intro h <;> grind
  constructor
  · rintro ⟨⟨_, a⟩, _, b⟩ k hk
    rcases Nat.lt_trichotomy k i with hc | rfl | hc
    · exact (e1 k hc).1 (a k hc)
    · exact Rat.le_refl
    · exact (e2 k hc hk).1 (b k hc hk)
  · intro hA
    exact ⟨⟨t1, fun j hj => (e1 j hj).2 (hA j (by omega))⟩, t2, fun k hk hk2 => (e2 k hk hk2).2 (hA k hk2)⟩
theorem ct_mem {l : List St} {t : List Int} {x : Ra} (he : contactErr l t x = 0) {k : Nat} (hk : k < (contactL l t x).length) : ∃ i : Nat, nthI (contactL l t x) k = i ∧ i < l.length ∧ ctLeast l t x i = true := by
  have hf : contactL l t x = ((List.range l.length).filter (ctLeast l t x)).map (fun (i : Nat) => (i : Int)) := by unfold contactL; rw [if_pos he]
  rw [hf] at hk ⊢
  have hk' : k < ((List.range l.length).filter (ctLeast l t x)).length := by simpa using hk
  have hm := List.getElem_mem hk'
  refine ⟨((List.range l.length).filter (ctLeast l t x))[k], by simp [nthI, hk'], ?_, ?_⟩
  · exact List.mem_range.1 (List.mem_filter.1 hm).1
  · exact (List.mem_filter.1 hm).2
theorem ct_any {l : List St} {t : List Int} {x : Ra} (he : contactErr l t x = 0) {i : Nat} (hi : i < l.length) : ((List.range (contactL l t x).length).any fun k => nthI (contactL l t x) k == (i : Int)) = ctLeast l t x i := by
  rw [Bool.eq_iff_iff]
  simp only [List.any_eq_true, List.mem_range, beq_iff_eq]
  constructor
  · rintro ⟨k, hk, h⟩
    obtain ⟨j, hj, hj2, hj3⟩ := ct_mem he hk
    rw [hj] at h
    obtain rfl : j = i := by omega
    exact hj3
  · intro h
    have hf : contactL l t x = ((List.range l.length).filter (ctLeast l t x)).map (fun (i : Nat) => (i : Int)) := by unfold contactL; rw [if_pos he]
    have hm : i ∈ (List.range l.length).filter (ctLeast l t x) := List.mem_filter.2 ⟨List.mem_range.2 hi, h⟩
    obtain ⟨k, hk, hke⟩ := List.getElem_of_mem hm
    refine ⟨k, by rw [hf]; simpa using hk, ?_⟩
    rw [hf]
    simp [nthI, hk, hke]
theorem ct_ne {l : List St} {t : List Int} {x : Ra} (he : contactErr l t x = 0) (h0 : 0 < l.length) : 0 < (contactL l t x).length := by
  obtain ⟨i, hi, h⟩ := ct_exists l t x h0
  have := ct_any he hi
  rw [h] at this
  simp only [List.any_eq_true, List.mem_range] at this
  obtain ⟨k, hk, _⟩ := this
  omega
/-- The tests of the law, in whole numbers. -/
theorem in_num {l : List St} {t : List Int} {x : Ra} (h : checkTruth l t = 0) (hx : isTilt x = true) {i : Nat} (hi : i < l.length) :
    (decide ((loB l t i (nthI t i)).num * x.den ≤ x.num * (loB l t i (nthI t i)).den) && decide (x.num * (hiB l t i (nthI t i)).den ≤ (hiB l t i (nthI t i)).num * x.den)) = ctLeast l t x i := by
  have hv := (truth_pair h).1
  have g := gd l hv
  obtain ⟨hd, _, _⟩ := tilt_V hx
  have ho := truth_hb h i hi
  obtain ⟨_, _, d1, _⟩ := lo_mem g (truth_hb h) hi ho
  obtain ⟨_, _, d2, _⟩ := hi_mem g (truth_hb h) hi ho
  rw [Bool.eq_iff_iff, Bool.and_eq_true, decide_eq_true_eq, decide_eq_true_eq, ← V_le d1 hd, ← V_le hd d2]
  exact inside_iff h hx hi
theorem in_err {l : List St} {t : List Int} {x : Ra} (h : checkTruth l t = 0) (hx : isTilt x = true) {i : Nat} (hi : i < l.length) (he : spanE l t i (nthI t i) = 22) : ctLeast l t x i = false := by
  have hv := (truth_pair h).1
  have g := gd l hv
  have ho := truth_hb h i hi
  obtain ⟨a1, _⟩ := lo_spec g (truth_hb h) hi ho
  obtain ⟨b1, _⟩ := hi_spec g (truth_hb h) hi ho
  rw [← Bool.not_eq_true, ← inside_iff h hx hi]
  rintro ⟨p, q⟩
  unfold spanE at he
  rw [lessW_V b1 a1] at he
  have : ¬ V (hiB l t i (nthI t i)) < V (loB l t i (nthI t i)) := by
    have := Rat.le_trans p q
    rw [Rat.not_lt]; exact this
  rw [if_neg (by simpa using this)] at he
  exact absurd he (by decide)
end Ma
end Go.Proofs.Ytbjmkmambmeifaa

namespace Go.Proofs.Ytbjmkmambmeifaa
open Go.RowKit
namespace Ma

theorem mk_valid {l : List St} (h0 : 0 < l.length) (h1 : l.length ≤ 25) (hb : ∀ k, k < l.length → 0 ≤ (nthS l k).a ∧ (nthS l k).a ≤ 1000 ∧ -1000 ≤ (nthS l k).lo ∧ (nthS l k).lo ≤ (nthS l k).hi ∧ (nthS l k).hi ≤ 1000)
    (hi : ∀ k, k + 1 < l.length → (nthS l k).a < (nthS l (k + 1)).a) : checkPair l = 0 := by
  unfold checkPair
  rw [if_neg (by omega), if_pos]
  intro k hk
  have h := hb k hk
  have hp : prevSt l k ≤ (nthS l k).a := by
    unfold prevSt
    by_cases hz : k = 0
    · rw [if_pos hz]; omega
    · rw [if_neg hz]
      have := hi (k - 1) (by omega)
      rw [show k - 1 + 1 = k by omega] at this
      omega
  simp [okSt, goodSt, inB]
  omega
/-- Spans follow one another. -/
theorem follow {l : List St} {t : List Int} (h : checkTruth l t = 0) (hA : ∀ j, j < l.length → spanE l t j (nthI t j) = 0) {j : Nat} (hj : j + 1 < l.length) : loB l t (j + 1) (nthI t (j + 1)) = hiB l t j (nthI t j) := by
  have hv := (truth_pair h).1
  have g := gd l hv
  have hh := truth_hb h
  have o1 := hh j (by omega)
  have o2 := hh (j + 1) hj
  obtain ⟨a1, _, a2, a3⟩ := lo_spec g hh hj o2
  obtain ⟨b1, _, b2, b3⟩ := hi_spec g hh (show j < l.length by omega) o1
  have tch : ∀ i s k, i < s → s < k → k < l.length → Y t s ≤ ln l t i s k := fun i s k x y z => (spanE_iff g hh (show s < l.length by omega) (hh s (by omega))).1 (hA s (by omega)) i k x y z
  have e : sl1 l t (j + 1) (nthI t (j + 1)) j = sl2 l t j (nthI t j) (j + 1) := rfl
  have bd := (slope_bd g hh hj o2).1 j (by omega)
  refine OkR.ext a1 b1 (Rat.le_antisymm ?_ ?_)
  · refine Rat.le_trans ?_ (?_ : sl1 l t (j + 1) (nthI t (j + 1)) j ≤ _)
    · rw [lo_le g hh hj o2]
      refine ⟨by grind, fun i hi => ?_⟩
      rcases Nat.lt_succ_iff_lt_or_eq.1 hi with hc | rfl
      · have q := tch i j (j + 1) hc (by omega) hj
        rw [le_ln g (by omega) hj] at q
        have y1 := g.X hc (by omega); have y2 := g.X (show j < j + 1 by omega) hj
        unfold sl1
        rw [rdiv_le (by grind) (by grind)]
        show (Y t (j + 1) - Y t i) * _ ≤ (Y t (j + 1) - Y t j) * _
        grind
      · exact Rat.le_refl
    · rw [le_hi g hh (show j < l.length by omega) o1]
      refine ⟨by grind, fun k hk hk2 => ?_⟩
      rcases Nat.eq_or_lt_of_le (show j + 1 ≤ k by omega) with rfl | hc
      · rw [e]; exact Rat.le_refl
      · have q := tch j (j + 1) k (by omega) hc hk2
        rw [le_ln g (by omega) hk2] at q
        have y1 := g.X hc hk2; have y2 := g.X (show j < j + 1 by omega) hj
        unfold sl1 sl2
        rw [rdiv_le (by grind) (by grind)]
        show (Y t (j + 1) - Y t j) * _ ≤ (Y t k - Y t j) * _
        grind
  · refine Rat.le_trans (b3 (j + 1) (by omega) hj) ?_
    rw [← e]
    exact a3 j (by omega)
theorem lo_first (l : List St) (t : List Int) (own : Int) : loB l t 0 own = ⟨-10000, 1⟩ := by simp [loB, los, bestF]
theorem hi_last {l : List St} (t : List Int) (own : Int) {s : Nat} (hs : s + 1 = l.length) : hiB l t s own = ⟨10000, 1⟩ := by
  unfold hiB his
  rw [show l.length - (s + 1) = 0 by omega]
  simp [bestF]

/-- The stations at which blades meet. -/
def flt (l : List St) (t : List Int) (n : Nat) : List Nat := (List.range n).filter fun i => decide (spanE l t i (nthI t i) = 0)
def fx (l : List St) (t : List Int) (n : Nat) : List St := (flt l t n).map (nthS l)
def fy (l : List St) (t : List Int) (n : Nat) : List Int := (flt l t n).map (nthI t)
theorem flt_succ (l : List St) (t : List Int) (n : Nat) : flt l t (n + 1) = flt l t n ++ if spanE l t n (nthI t n) = 0 then [n] else [] := by
  unfold flt
  rw [List.range_succ, List.filter_append]
  congr 1
  by_cases h : spanE l t n (nthI t n) = 0 <;> simp [h]
theorem fx_yes {l : List St} {t : List Int} {n : Nat} (h : spanE l t n (nthI t n) = 0) : fx l t (n + 1) = fx l t n ++ [nthS l n] ∧ fy l t (n + 1) = fy l t n ++ [nthI t n] := by
  unfold fx fy; rw [flt_succ, if_pos h]; simp
theorem fx_no {l : List St} {t : List Int} {n : Nat} (h : spanE l t n (nthI t n) = 22) : fx l t (n + 1) = fx l t n ∧ fy l t (n + 1) = fy l t n := by
  unfold fx fy; rw [flt_succ, if_neg (by omega)]; simp
theorem flt_len (l : List St) (t : List Int) (n : Nat) : (flt l t n).length ≤ n := by
  unfold flt; exact Nat.le_trans (List.length_filter_le _ _) (by simp)
theorem flt_at {l : List St} {t : List Int} {n j : Nat} (hj : j < (flt l t n).length) : (flt l t n)[j] < n ∧ spanE l t (flt l t n)[j] (nthI t (flt l t n)[j]) = 0 := by
  have hm := List.getElem_mem hj
  unfold flt at hm ⊢
  have := List.mem_filter.1 hm
  exact ⟨List.mem_range.1 this.1, by simpa using this.2⟩
theorem flt_lt {l : List St} {t : List Int} {n i j : Nat} (hij : i < j) (hj : j < (flt l t n).length) : (flt l t n)[i] < (flt l t n)[j] := by
  have hp : (flt l t n).Pairwise (· < ·) := List.Pairwise.filter _ List.pairwise_lt_range
  exact List.pairwise_iff_getElem.1 hp i j (by omega) hj hij
theorem fx_at {l : List St} {t : List Int} {n j : Nat} (hj : j < (flt l t n).length) : nthS (fx l t n) j = nthS l (flt l t n)[j] ∧ nthI (fy l t n) j = nthI t (flt l t n)[j] := by
  constructor
  · simp [nthS, fx, hj]
  · simp [nthI, fy, hj]
theorem fx_len (l : List St) (t : List Int) (n : Nat) : (fx l t n).length = (flt l t n).length ∧ (fy l t n).length = (flt l t n).length := by simp [fx, fy]
/-- All that the law needs of the stations at which blades meet. -/
theorem met {l : List St} {t : List Int} (h : checkTruth l t = 0) : 0 < (fx l t l.length).length ∧ checkTruth (fx l t l.length) (fy l t l.length) = 0 ∧
    ∀ j, j < (fx l t l.length).length → spanE (fx l t l.length) (fy l t l.length) j (nthI (fy l t l.length) j) = 0 := by
  have hv := (truth_pair h).1
  have g := gd l hv
  have hh := truth_hb h
  obtain ⟨hn0, hn1⟩ := checkPair_len l hv
  obtain ⟨e1, e2⟩ := fx_len l t l.length
  have h0 : 0 < (flt l t l.length).length := by
    have : 0 ∈ flt l t l.length := by
      unfold flt
      refine List.mem_filter.2 ⟨List.mem_range.2 hn0, ?_⟩
      have : spanE l t 0 (nthI t 0) = 0 := (spanE_iff g hh hn0 (hh 0 hn0)).2 fun i k a _ _ => absurd a (Nat.not_lt_zero _)
      simpa using this
    exact List.length_pos_of_mem this
  have hlen := flt_len l t l.length
  have hvx : checkPair (fx l t l.length) = 0 := by
    refine mk_valid (by omega) (by omega) (fun k hk => ?_) (fun k hk => ?_)
    · rw [e1] at hk
      rw [(fx_at hk).1]
      exact valid_at l hv _ (flt_at hk).1
    · rw [e1] at hk
      rw [(fx_at hk).1, (fx_at (show k < (flt l t l.length).length by omega)).1]
      exact g.up _ _ (flt_lt (Nat.lt_succ_self k) hk) (flt_at hk).1
  have htx : checkTruth (fx l t l.length) (fy l t l.length) = 0 := by
    refine checkTruth_ok _ _ hvx (by omega) (fun k hk => ?_)
    rw [e1] at hk
    unfold inSt
    rw [(fx_at hk).1, (fx_at hk).2]
    have := truth_le h (flt_at hk).1
    simp [inB]; omega
  refine ⟨by omega, htx, fun j hj => ?_⟩
  have gx := gd _ hvx
  rw [spanE_iff gx (truth_hb htx) hj (truth_hb htx j hj)]
  intro i k a b c
  rw [e1] at c hj
  have hi' : i < (flt l t l.length).length := by omega
  have q := (spanE_iff g hh (flt_at hj).1 (hh _ (flt_at hj).1)).1 (flt_at hj).2 _ _ (flt_lt a hj) (flt_lt b c) (flt_at c).1
  have eX : ∀ m (hm : m < (flt l t l.length).length), X (fx l t l.length) m = X l (flt l t l.length)[m] := fun m hm => by unfold X; rw [(fx_at hm).1]
  have eY : ∀ m (hm : m < (flt l t l.length).length), Y (fy l t l.length) m = Y t (flt l t l.length)[m] := fun m hm => by unfold Y; rw [(fx_at hm).2]
  unfold ln at q ⊢
  rw [eX i hi', eX j hj, eX k c, eY i hi', eY k c, (fx_at hj).2]
  exact q
end Ma
end Go.Proofs.Ytbjmkmambmeifaa

namespace Go.Proofs.Ytbjmkmambmeifaa
open Go.RowKit
namespace Ma

/-- Each High greater by m times its At. -/
def tlt (l : List St) (m : Int) : List St := l.map fun s => ⟨s.a, s.lo + m * s.a, s.hi + m * s.a⟩
/-- The last station first. -/
def rnd (l : List St) : List St := (List.range l.length).map fun i => ⟨1000 - (nthS l (l.length - 1 - i)).a, (nthS l (l.length - 1 - i)).lo, (nthS l (l.length - 1 - i)).hi⟩
theorem tlt_len (l : List St) (m : Int) : (tlt l m).length = l.length := by simp [tlt]
theorem rnd_len (l : List St) : (rnd l).length = l.length := by simp [rnd]
theorem tlt_at (l : List St) (m : Int) {k : Nat} (hk : k < l.length) : nthS (tlt l m) k = ⟨(nthS l k).a, (nthS l k).lo + m * (nthS l k).a, (nthS l k).hi + m * (nthS l k).a⟩ := by simp [nthS, tlt, hk]
theorem rnd_at (l : List St) {k : Nat} (hk : k < l.length) : nthS (rnd l) k = ⟨1000 - (nthS l (l.length - 1 - k)).a, (nthS l (l.length - 1 - k)).lo, (nthS l (l.length - 1 - k)).hi⟩ := by
  have : (rnd l)[k]? = some ⟨1000 - (nthS l (l.length - 1 - k)).a, (nthS l (l.length - 1 - k)).lo, (nthS l (l.length - 1 - k)).hi⟩ := by simp [rnd, hk]
  unfold nthS at this ⊢
  rw [List.getD_eq_getElem?_getD, this]; rfl
theorem rnd_ok {l : List St} (h : checkPair l = 0) : checkPair (rnd l) = 0 := by
  obtain ⟨n0, n1⟩ := checkPair_len l h
  refine mk_valid (by rw [rnd_len]; exact n0) (by rw [rnd_len]; exact n1) (fun k hk => ?_) (fun k hk => ?_)
  · rw [rnd_len] at hk
    rw [rnd_at l hk]
    have := valid_at l h (l.length - 1 - k) (by omega)
    dsimp only; omega
  · rw [rnd_len] at hk
    rw [rnd_at l hk, rnd_at l (show k < l.length by omega)]
    have := valid_lt l h (l.length - 1 - (k + 1)) (l.length - 1 - k) (by omega) (by omega)
    dsimp only; omega
theorem OkR.neg {r : Ra} (h : OkR r) : OkR ⟨-r.num, r.den⟩ := ⟨h.den, by show Int.gcd (-r.num) r.den = 1; rw [Int.neg_gcd]; exact h.co, by have := h.num2; show -1000000000 ≤ -r.num; omega, by have := h.num1; show -r.num ≤ 1000000000; omega, h.den2⟩
theorem V_neg (r : Ra) : V ⟨-r.num, r.den⟩ = -V r := by
  show ((-r.num : Int) : Rat) / _ = -((r.num : Rat) / _)
  rw [Rat.intCast_neg]
  grind

section
variable {l : List St} {b : Bool} {s : Nat} (h : checkPair l = 0) (hs : s < l.length)
include h hs
theorem rnd_s : l.length - 1 - s < (rnd l).length := by rw [rnd_len]; omega
theorem rnd_X {k : Nat} (hk : k < l.length) : X (rnd l) k = 1000 - X l (l.length - 1 - k) := by
  unfold X; rw [rnd_at l hk]
  show ((1000 - (nthS l (l.length - 1 - k)).a : Int) : Rat) = _
  rw [Rat.intCast_sub]; rfl
theorem rnd_Y {k : Nat} (hk : k < l.length) : Y (ends (rnd l) b) k = Y (ends l b) (l.length - 1 - k) := by
  unfold Y
  rw [ends_at _ _ _ (by rw [rnd_len]; exact hk), ends_at _ _ _ (show l.length - 1 - k < l.length by omega), rnd_at l hk]
theorem rnd_lo {own : Int} (ho : -1000 ≤ own ∧ own ≤ 1000) : loB (rnd l) (ends (rnd l) b) (l.length - 1 - s) own = ⟨-(hiB l (ends l b) s own).num, (hiB l (ends l b) s own).den⟩ := by
  have hv := rnd_ok h
  have g := gd l h; have gr := gd _ hv
  have hb1 := hb l b h; have hb2 := hb _ b hv
  have hsr := rnd_s h hs
  have a := lo_spec gr hb2 hsr ho
  have c := hi_spec g hb1 hs ho
  refine OkR.ext a.1 c.1.neg ?_
  rw [V_neg]
  have key : ∀ q : Rat, V (loB (rnd l) (ends (rnd l) b) (l.length - 1 - s) own) ≤ -q ↔ q ≤ V (hiB l (ends l b) s own) := by
    intro q
    rw [lo_le gr hb2 hsr ho, le_hi g hb1 hs ho]
    have e : ∀ k, s < k → k < l.length → sl1 (rnd l) (ends (rnd l) b) (l.length - 1 - s) own (l.length - 1 - k) = -sl2 l (ends l b) s own k := by
      intro k hk hk2
      have y := g.X hk hk2
      unfold sl1 sl2
      rw [rnd_X h hs (show l.length - 1 - s < l.length by omega), rnd_X h hs (show l.length - 1 - k < l.length by omega), rnd_Y h hs (show l.length - 1 - k < l.length by omega), show l.length - 1 - (l.length - 1 - s) = s by omega, show l.length - 1 - (l.length - 1 - k) = k by omega]
      have d : X l k - X l s ≠ 0 := by grind
      have d2 : (1000 - X l s) - (1000 - X l k) = X l k - X l s := by grind
      rw [d2]
      grind
    constructor
    · rintro ⟨p, q2⟩
      refine ⟨by grind, fun k hk hk2 => ?_⟩
      have := q2 (l.length - 1 - k) (by omega)
      rw [e k hk hk2] at this
      grind
    · rintro ⟨p, q2⟩
      refine ⟨by grind, fun i hi => ?_⟩
      have := q2 (l.length - 1 - i) (by omega) (by omega)
      have e2 := e (l.length - 1 - i) (by omega) (by omega)
      rw [show l.length - 1 - (l.length - 1 - i) = i by omega] at e2
      rw [e2]
      grind
  refine Rat.le_antisymm ((key _).2 Rat.le_refl) ?_
  have k2 := (key (-V (loB (rnd l) (ends (rnd l) b) (l.length - 1 - s) own))).1 (by rw [Rat.neg_neg]; exact Rat.le_refl)
  grind
theorem rnd_rnd : rnd (rnd l) = l := by
  refine List.ext_getElem (by rw [rnd_len, rnd_len]) (fun k h1 h2 => ?_)
  have e : ∀ (m : List St) (j : Nat) (hj : j < m.length), m[j] = nthS m j := fun m j hj => by simp [nthS, hj]
  rw [e _ _ h1, e _ _ h2, rnd_at _ (by rw [rnd_len]; exact h2), rnd_len, rnd_at l (show l.length - 1 - k < l.length by omega), show l.length - 1 - (l.length - 1 - k) = k by omega]
  show (⟨1000 - (1000 - _), _, _⟩ : St) = _
  cases hq : nthS l k
  simp
  omega
theorem rnd_ln {i k : Nat} (h1 : i < s) (h2 : s < k) (h3 : k < l.length) : ln (rnd l) (ends (rnd l) b) (l.length - 1 - k) (l.length - 1 - s) (l.length - 1 - i) = ln l (ends l b) i s k := by
  have y1 := (gd l h).X h1 hs; have y2 := (gd l h).X h2 h3
  unfold ln
  rw [rnd_X h hs (show l.length - 1 - k < l.length by omega), rnd_X h hs (show l.length - 1 - s < l.length by omega), rnd_X h hs (show l.length - 1 - i < l.length by omega), rnd_Y h hs (show l.length - 1 - k < l.length by omega), rnd_Y h hs (show l.length - 1 - i < l.length by omega),
    show l.length - 1 - (l.length - 1 - s) = s by omega, show l.length - 1 - (l.length - 1 - k) = k by omega, show l.length - 1 - (l.length - 1 - i) = i by omega]
  have d : X l k - X l i ≠ 0 := by grind
  have d2 : (1000 - X l i) - (1000 - X l k) = X l k - X l i := by grind
  rw [d2]
  grind
theorem rnd_over {own : Int} (ho : -1000 ≤ own ∧ own ≤ 1000) : overR (rnd l) (ends (rnd l) b) (l.length - 1 - s) own = overR l (ends l b) s own := by
  have hv := rnd_ok h
  have g := gd l h; have gr := gd _ hv
  obtain ⟨a1, a2⟩ := over_spec gr (hb _ b hv) (rnd_s h hs) ho
  obtain ⟨c1, c2⟩ := over_spec g (hb l b h) hs ho
  have key : ∀ q, V (overR (rnd l) (ends (rnd l) b) (l.length - 1 - s) own) ≤ q ↔ V (overR l (ends l b) s own) ≤ q := by
    intro q
    rw [a2, c2]
    constructor
    · rintro ⟨p, hA⟩
      refine ⟨p, fun i k x y z => ?_⟩
      have := hA (l.length - 1 - k) (l.length - 1 - i) (by omega) (by omega) (by rw [rnd_len]; omega)
      rwa [rnd_ln h hs x y z] at this
    · rintro ⟨p, hA⟩
      refine ⟨p, fun i k x y z => ?_⟩
      rw [rnd_len] at z
      have := hA (l.length - 1 - k) (l.length - 1 - i) (by omega) (by omega) (by omega)
      have e := rnd_ln (b := b) h hs (i := l.length - 1 - k) (k := l.length - 1 - i) (by omega) (by omega) (by omega)
      rw [show l.length - 1 - (l.length - 1 - k) = k by omega, show l.length - 1 - (l.length - 1 - i) = i by omega] at e
      rw [e]; exact this
  exact OkR.ext a1 c1 (Rat.le_antisymm ((key _).2 Rat.le_refl) ((key _).1 Rat.le_refl))
theorem rnd_err {own : Int} (ho : -1000 ≤ own ∧ own ≤ 1000) : spanE (rnd l) (ends (rnd l) b) (l.length - 1 - s) own = spanE l (ends l b) s own := by
  have hv := rnd_ok h
  have a := over_sign (gd _ hv) (hb _ b hv) (rnd_s h hs) ho
  have c := over_sign (gd l h) (hb l b h) hs ho
  rw [rnd_over h hs ho] at a
  rcases spanE_two (rnd l) (ends (rnd l) b) (l.length - 1 - s) own with e1 | e1 <;> rcases spanE_two l (ends l b) s own with e2 | e2
  · rw [e1, e2]
  · have := c.2.1 (a.2.2 e1); omega
  · have := a.2.1 (c.2.2 e2); omega
  · rw [e1, e2]
end

section
variable {l : List St} {m : Int} {b : Bool} {s : Nat} (h : checkPair l = 0) (hx : checkPair (tlt l m) = 0) (hs : s < l.length)
include h hx hs
theorem tlt_s : s < (tlt l m).length := by rw [tlt_len]; exact hs
theorem tlt_X {k : Nat} (hk : k < l.length) : X (tlt l m) k = X l k := by unfold X; rw [tlt_at l m hk]
theorem tlt_Y {k : Nat} (hk : k < l.length) : Y (ends (tlt l m) b) k = Y (ends l b) k + (m : Rat) * X l k := by
  unfold Y
  rw [ends_at _ _ _ (by rw [tlt_len]; exact hk), ends_at _ _ _ hk, tlt_at l m hk]
  cases b
  · simp only [Bool.false_eq_true, if_false]; rw [Rat.intCast_add, Rat.intCast_mul]; rfl
  · simp only [if_true]; rw [Rat.intCast_add, Rat.intCast_mul]; rfl
theorem tlt_ln {i k : Nat} (h1 : i < s) (h2 : s < k) (h3 : k < l.length) : ln (tlt l m) (ends (tlt l m) b) i s k = ln l (ends l b) i s k + (m : Rat) * X l s := by
  have y1 := (gd l h).X h1 hs; have y2 := (gd l h).X h2 h3
  unfold ln
  rw [tlt_X h hx hs hs, tlt_X h hx hs h3, tlt_X h hx hs (show i < l.length by omega), tlt_Y h hx hs h3, tlt_Y h hx hs (show i < l.length by omega)]
  have d : X l k - X l i ≠ 0 := by grind
  grind
theorem tlt_over {own own' : Int} (ho : -1000 ≤ own ∧ own ≤ 1000) (ho' : -1000 ≤ own' ∧ own' ≤ 1000) (he : own' = own + m * (nthS l s).a) : overR (tlt l m) (ends (tlt l m) b) s own' = overR l (ends l b) s own := by
  obtain ⟨a1, a2⟩ := over_spec (gd _ hx) (hb _ b hx) (tlt_s h hx hs) ho'
  obtain ⟨c1, c2⟩ := over_spec (gd l h) (hb l b h) hs ho
  have eo : (own' : Rat) = (own : Rat) + (m : Rat) * X l s := by rw [he, Rat.intCast_add, Rat.intCast_mul]; rfl
  have key : ∀ q, V (overR (tlt l m) (ends (tlt l m) b) s own') ≤ q ↔ V (overR l (ends l b) s own) ≤ q := by
    intro q
    rw [a2, c2, tlt_len]
    constructor
    · rintro ⟨p, hA⟩
      refine ⟨p, fun i k x y z => ?_⟩
      have := hA i k x y z
      rw [tlt_ln h hx hs x y z, eo] at this
      grind
    · rintro ⟨p, hA⟩
      refine ⟨p, fun i k x y z => ?_⟩
      have := hA i k x y z
      rw [tlt_ln h hx hs x y z, eo]
      grind
  exact OkR.ext a1 c1 (Rat.le_antisymm ((key _).2 Rat.le_refl) ((key _).1 Rat.le_refl))
theorem tlt_err {own own' : Int} (ho : -1000 ≤ own ∧ own ≤ 1000) (ho' : -1000 ≤ own' ∧ own' ≤ 1000) (he : own' = own + m * (nthS l s).a) : spanE (tlt l m) (ends (tlt l m) b) s own' = spanE l (ends l b) s own := by
  have a := over_sign (gd _ hx) (hb _ b hx) (tlt_s h hx hs) ho'
  have c := over_sign (gd l h) (hb l b h) hs ho
  rw [tlt_over h hx hs ho ho' he] at a
  rcases spanE_two (tlt l m) (ends (tlt l m) b) s own' with e1 | e1 <;> rcases spanE_two l (ends l b) s own with e2 | e2
  · rw [e1, e2]
  · have := c.2.1 (a.2.2 e1); omega
  · have := a.2.1 (c.2.2 e2); omega
  · rw [e1, e2]
end
theorem OkR.add {m : Int} {r : Ra} (hr : OkR r) (hn : -1000000 ≤ r.num ∧ r.num ≤ 1000000 ∧ r.den ≤ 1000) (hm : -128 ≤ m ∧ m ≤ 127) : OkR ⟨r.num + m * r.den, r.den⟩ ∧ V ⟨r.num + m * r.den, r.den⟩ = V r + (m : Rat) := by
  have hd := hr.den
  have p : -128000 ≤ m * r.den ∧ m * r.den ≤ 128000 := by
    constructor
    · have := Int.mul_le_mul_of_nonneg_right hm.1 (show 0 ≤ r.den by omega); omega
    · have := Int.mul_le_mul_of_nonneg_right hm.2 (show 0 ≤ r.den by omega); omega
  constructor
  · refine ⟨hd, ?_, by dsimp only; omega, by dsimp only; omega, hr.den2⟩
    show Int.gcd (r.num + m * r.den) r.den = 1
    rw [Int.gcd_add_mul_right_left]
    exact hr.co
  · show ((r.num + m * r.den : Int) : Rat) / _ = (r.num : Rat) / _ + _
    rw [Rat.intCast_add, Rat.intCast_mul]
    have := rpos hd
    have d : ((r.den : Int) : Rat) ≠ 0 := by grind
    grind

section
variable {l : List St} {m : Int} {b : Bool} {s : Nat} (h : checkPair l = 0) (hx : checkPair (tlt l m) = 0) (hs : s < l.length)
include h hx hs
theorem tlt_lo {own own' : Int} (ho : -1000 ≤ own ∧ own ≤ 1000) (ho' : -1000 ≤ own' ∧ own' ≤ 1000) (he : own' = own + m * (nthS l s).a) (hm : -128 ≤ m ∧ m ≤ 127) (h0 : 0 < s) :
    loB (tlt l m) (ends (tlt l m) b) s own' = ⟨(loB l (ends l b) s own).num + m * (loB l (ends l b) s own).den, (loB l (ends l b) s own).den⟩ := by
  have g := gd l h; have gx := gd _ hx
  have hsx := tlt_s h hx hs
  have a := lo_spec gx (hb _ b hx) hsx ho'
  have c := lo_spec g (hb l b h) hs ho
  have cm := lo_mem g (hb l b h) hs ho
  obtain ⟨d1, d2⟩ := OkR.add c.1 (by omega) hm
  refine OkR.ext a.1 d1 ?_
  rw [d2]
  have eo : (own' : Rat) = (own : Rat) + (m : Rat) * X l s := by rw [he, Rat.intCast_add, Rat.intCast_mul]; rfl
  have e : ∀ i, i < s → sl1 (tlt l m) (ends (tlt l m) b) s own' i = sl1 l (ends l b) s own i + (m : Rat) := by
    intro i hi
    have y := g.X hi hs
    unfold sl1
    rw [tlt_X h hx hs hs, tlt_X h hx hs (show i < l.length by omega), tlt_Y h hx hs (show i < l.length by omega), eo]
    have d : X l s - X l i ≠ 0 := by grind
    grind
  have bl := (slope_bd g (hb l b h) hs ho).1 0 h0
  have bx := (slope_bd gx (hb _ b hx) hsx ho').1 0 h0
  have m1 := Rat.intCast_le_intCast.2 hm.1
  have m2 := Rat.intCast_le_intCast.2 hm.2
  have k1 : ((-128 : Int) : Rat) = -128 := rfl
  have k2 : ((127 : Int) : Rat) = 127 := rfl
  refine Rat.le_antisymm ?_ ?_
  · rw [lo_le gx (hb _ b hx) hsx ho']
    have c0 := c.2.2.2 0 h0
    refine ⟨by grind, fun i hi => ?_⟩
    rw [e i hi]
    have := c.2.2.2 i hi
    grind
  · have : V (loB l (ends l b) s own) ≤ V (loB (tlt l m) (ends (tlt l m) b) s own') - (m : Rat) := by
      rw [lo_le g (hb l b h) hs ho]
      have a0 := a.2.2.2 0 h0
      refine ⟨by grind, fun i hi => ?_⟩
      have := a.2.2.2 i hi
      rw [e i hi] at this
      grind
    grind
theorem tlt_hi {own own' : Int} (ho : -1000 ≤ own ∧ own ≤ 1000) (ho' : -1000 ≤ own' ∧ own' ≤ 1000) (he : own' = own + m * (nthS l s).a) (hm : -128 ≤ m ∧ m ≤ 127) (h0 : s + 1 < l.length) :
    hiB (tlt l m) (ends (tlt l m) b) s own' = ⟨(hiB l (ends l b) s own).num + m * (hiB l (ends l b) s own).den, (hiB l (ends l b) s own).den⟩ := by
  have g := gd l h; have gx := gd _ hx
  have hsx := tlt_s h hx hs
  have hl := tlt_len l m
  have a := hi_spec gx (hb _ b hx) hsx ho'
  have c := hi_spec g (hb l b h) hs ho
  have cm := hi_mem g (hb l b h) hs ho
  obtain ⟨d1, d2⟩ := OkR.add c.1 (by omega) hm
  refine OkR.ext a.1 d1 ?_
  rw [d2]
  have eo : (own' : Rat) = (own : Rat) + (m : Rat) * X l s := by rw [he, Rat.intCast_add, Rat.intCast_mul]; rfl
  have e : ∀ k, s < k → k < l.length → sl2 (tlt l m) (ends (tlt l m) b) s own' k = sl2 l (ends l b) s own k + (m : Rat) := by
    intro k hk hk2
    have y := g.X hk hk2
    unfold sl2
    rw [tlt_X h hx hs hs, tlt_X h hx hs hk2, tlt_Y h hx hs hk2, eo]
    have d : X l k - X l s ≠ 0 := by grind
    grind
  have bl := (slope_bd g (hb l b h) hs ho).2 (s + 1) (by omega) h0
  have bx := (slope_bd gx (hb _ b hx) hsx ho').2 (s + 1) (by omega) (by omega)
  have m1 := Rat.intCast_le_intCast.2 hm.1
  have m2 := Rat.intCast_le_intCast.2 hm.2
  have k1 : ((-128 : Int) : Rat) = -128 := rfl
  have k2 : ((127 : Int) : Rat) = 127 := rfl
  refine Rat.le_antisymm ?_ ?_
  · have : V (hiB (tlt l m) (ends (tlt l m) b) s own') - (m : Rat) ≤ V (hiB l (ends l b) s own) := by
      rw [le_hi g (hb l b h) hs ho]
      have a0 := a.2.2.2 (s + 1) (by omega) (by omega)
      refine ⟨by grind, fun k hk hk2 => ?_⟩
      have := a.2.2.2 k hk (by omega)
      rw [e k hk hk2] at this
      grind
    grind
  · rw [le_hi gx (hb _ b hx) hsx ho']
    have c0 := c.2.2.2 (s + 1) (by omega) h0
    refine ⟨by grind, fun k hk hk2 => ?_⟩
    have hk3 : k < l.length := by omega
    rw [e k hk hk3]
    have := c.2.2.2 k hk hk3
    grind
end
theorem find_congr {α : Type} {p q : α → Bool} : ∀ (L : List α), (∀ x ∈ L, p x = q x) → L.find? p = L.find? q
  | [], _ => rfl
  | a :: L, hh => by
    rw [List.find?_cons, List.find?_cons, hh a (by simp), find_congr L fun x hx => hh x (by simp [hx])]
theorem findSome_congr {α β : Type} {p q : α → Option β} : ∀ (L : List α), (∀ x ∈ L, p x = q x) → L.findSome? p = L.findSome? q
  | [], _ => rfl
  | a :: L, hh => by
    rw [List.findSome?_cons, List.findSome?_cons, hh a (by simp), findSome_congr L fun x hx => hh x (by simp [hx])]
theorem tlt_wedge {l : List St} {m : Int} (h : checkPair l = 0) (hx : checkPair (tlt l m) = 0) : wedgeF (tlt l m) = wedgeF l := by
  have hl := tlt_len l m
  have key : ∀ i k j, i < k → k < j → j < l.length → isWedgeB (tlt l m) i k j = isWedgeB l i k j := by
    intro i k j a b c
    have hk : k < l.length := by omega
    rw [Bool.eq_iff_iff, wedge_iff _ hx a b (by omega), wedge_iff l h a b c, tlt_ln h hx hk a b c, tlt_at l m hk]
    show _ < (((nthS l k).lo + m * (nthS l k).a : Int) : Rat) ↔ _
    rw [Rat.intCast_add, Rat.intCast_mul]
    show _ < _ + _ * X l k ↔ _
    constructor <;> intro q <;> grind
  unfold wedgeF
  rw [hl]
  refine findSome_congr _ fun i hi => ?_
  unfold wK
  rw [hl]
  refine findSome_congr _ fun k hk => ?_
  by_cases hik : i < k
  · rw [if_pos hik, if_pos hik]
    congr 1
    unfold wM
    rw [hl]
    refine find_congr _ fun j hj => ?_
    by_cases hkj : k < j
    · rw [key i k j hik hkj (List.mem_range.1 hj)]
    · simp [hkj]
  · rw [if_neg hik, if_neg hik]
theorem tlt_wedgeV {l : List St} {m : Int} (h : checkPair l = 0) (hx : checkPair (tlt l m) = 0) : wedgeV (tlt l m) = wedgeV l := by
  unfold wedgeV
  rw [if_neg (fun q => q hx), if_neg (fun q => q h), tlt_wedge h hx]
theorem tlt_kinds {l : List St} {m : Int} (h : checkPair l = 0) (hx : checkPair (tlt l m) = 0) : kindsP (tlt l m) = kindsP l := by
  rw [kinds_eq, kinds_eq]
  unfold kindsR
  rw [if_pos hx, if_pos h, tlt_len]
  refine List.map_congr_left fun i hi => ?_
  have hi := List.mem_range.1 hi
  have e := tlt_at l m hi
  have o1 := lo_rng l h hi; have o2 := hi_rng l h hi
  have o3 := lo_rng _ hx (show i < (tlt l m).length by rw [tlt_len]; exact hi)
  have o4 := hi_rng _ hx (show i < (tlt l m).length by rw [tlt_len]; exact hi)
  unfold kindR
  rw [tlt_err h hx hi o1 o3 (by rw [e]), tlt_err h hx hi o2 o4 (by rw [e])]
end Ma
end Go.Proofs.Ytbjmkmambmeifaa

namespace Go.Proofs.Ytbjmkmambmeifaa
open Go.RowKit

theorem fine_all (l : List St) (vl : Value) (w : World) (h : RSt w w.heap.size vl l) :
    Calls Try.prog 37 #[vl] w fun e w' => e = .returned (.bool (fineB l)) ∧ Below w.heap.size w w' := by
  by_cases hg : 35 < l.length
  · obtain ⟨A, cap, b, off, rfl, _, _⟩ := h.cells
    have d1 : decide (35 < (l.length : Int)) = true := by simp; omega
    have HF := Lib.hid (show fineB l = false by unfold fineB; rw [checkPair, if_pos (.inr (by omega))]; rfl)
    go_enter Try.func37, Try.ntmps37
    go_wp2_with fail
    refine (great_any _ _ _ _).mono ?_
    rintro e w1 ⟨rfl, rfl⟩
    go_wp2_with fail
    go_ret
    exact ⟨by rw [HF.out]; rfl, by exact bel_of⟩
  · exact fine_any l vl w (by omega) h
/-- A truth by numbers is one. -/
theorem truthR_ok {l : List St} (u : List Int) (hv : checkPair l = 0) (hu : ∀ k, k < u.length → 0 ≤ nthI u k ∧ nthI u k ≤ 65535) : checkTruth l (truthR l u) = 0 := by
  refine checkTruth_ok l _ hv (truthR_length l u) (fun k hk => ?_)
  unfold inSt
  rw [truthR_at l u k hk]
  have h := valid_at l hv k hk
  unfold truthAt
  have : 0 ≤ (if 0 < u.length then nthI u (k % u.length) % ((nthS l k).hi - (nthS l k).lo + 1) else 0) ∧ (if 0 < u.length then nthI u (k % u.length) % ((nthS l k).hi - (nthS l k).lo + 1) else 0) ≤ (nthS l k).hi - (nthS l k).lo := by
    split
    · have h1 := Int.emod_nonneg (nthI u (k % u.length)) (show (nthS l k).hi - (nthS l k).lo + 1 ≠ 0 by omega)
      have h2 := Int.emod_lt_of_pos (nthI u (k % u.length)) (show 0 < (nthS l k).hi - (nthS l k).lo + 1 by omega)
      omega
    · omega
  simp [inB]
  omega

theorem kindsP_len2 {l : List St} (hv : checkPair l = 0) : (kindsP l).length = l.length := by simp [kindsP, hv]
theorem groundV_ok {l : List St} (hv : checkPair l = 0) {s : Nat} (hs : s < l.length) : groundV l s = .tuple #[.agg #[.int .i64 (overR l (ends l true) s (nthS l s).lo).num, .int .i64 (overR l (ends l true) s (nthS l s).lo).den, .int .i64 (overR l (ends l false) s (nthS l s).hi).num, .int .i64 (overR l (ends l false) s (nthS l s).hi).den], .int .i64 0] := by
  unfold groundV
  rw [if_neg (by rw [checkStation, if_neg (by simpa using hv), if_pos (by omega)]; simp), Int.toNat_natCast]
theorem tiltsV_ok {l : List St} {t : List Int} (h : checkTruth l t = 0) {s : Nat} (hs : s < l.length) : tiltsV l t s = spanV l t s (nthI t s) := by
  unfold tiltsV
  rw [if_neg (by simpa using h), if_neg (by simp; omega), Int.toNat_natCast]

end Go.Proofs.Ytbjmkmambmeifaa

namespace Go.Proofs.Ytbjmkmambmeifaa
open Go.ChangeShapes Go.WideShapes Go.ChangeAt Go.RowKit Go.Deep

section
variable {H : Type} {enc : TypeId × Value → H} {w : World} {base : Nat} {spare : Nat → Bool} {held : Bool} {P : Program}
theorem okWide_arr {r : Reach} {b0 : Nat} {t : TypeId} {n : Nat} {e : TypeId} {v : Value} (ht : P.underlying t = some (.array n e)) (h : Value.okWide P w r b0 t v) : ∃ cs, v = .agg cs ∧ cs.size = P.cellsOf t := by
  simp only [Value.okWide, ht] at h
  obtain ⟨cs, h1, h2, _⟩ := h
  exact ⟨cs, h1, h2⟩
theorem arr_int {t e : TypeId} {n : Nat} {k : IntKind} (ht : P.underlying t = some (.array n e)) (he : P.underlying e = some (.int k)) (hc : P.cellsOf e = 1) {fuel : Nat} {cs : List Value} {x : DataW H × List MemPlace}
    (h : DataW.trod enc P w base spare held fuel t cs = some x) : ∀ i, i < n → ∃ m, cs[i]? = some (.int k m) ∧ (Lit.int k m).wf = true := by
  obtain ⟨xs, m, _, _, hcl, hxl, hf⟩ := DataW.trod_array ht h
  intro i hi
  have h1 := hf i hi
  rw [hc, Nat.mul_one] at h1
  rw [List.getElem?_eq_getElem (show i < xs.length by omega)] at h1
  obtain ⟨y, e0, _, w0⟩ := DataW.trod_int he h1
  refine ⟨y, ?_, w0⟩
  have : ((cs.drop i).take 1)[0]? = some (.int k y) := by rw [e0]; rfl
  rw [List.getElem?_take_of_lt (by decide), List.getElem?_drop] at this
  simpa using this
end
section
variable {H : Type} {enc : TypeId × Value → H} {w : World} {base : Nat} {spare : Nat → Bool} {held : Bool}
theorem cells5 : Try.prog.cellsOf 5 = 1 := by kernel_rfl
theorem cells51 : Try.prog.cellsOf 51 = 3 := by kernel_rfl
theorem cells66 : Try.prog.cellsOf 66 = 2 := by kernel_rfl
theorem byte_wf {n : Int} (h : (Lit.int .u8 n).wf = true) : ∃ m : Nat, n = m ∧ m ≤ 255 := by
  have hb : 0 ≤ n ∧ n ≤ 255 := by simpa [Lit.wf, IntKind.min, IntKind.max, IntKind.signed, IntKind.bits] using h
  exact ⟨n.toNat, by omega, by omega⟩
theorem word_wf {n : Int} (h : (Lit.int .u16 n).wf = true) : ∃ m : Nat, n = m ∧ m ≤ 65535 := by
  have hb : 0 ≤ n ∧ n ≤ 65535 := by simpa [Lit.wf, IntKind.min, IntKind.max, IntKind.signed, IntKind.bits] using h
  exact ⟨n.toNat, by omega, by omega⟩
set_option maxRecDepth 100000 in
theorem open_a3 {v : Value} {d : DataW H} {ps : List MemPlace} {r : Reach} {b0 : Nat} (hval : Value.okWide Try.prog w r b0 51 v) (hd : DataW.Trod enc Try.prog w base spare held 51 v d ps) : ∃ x y z : Nat, v = .agg #[.int .u8 x, .int .u8 y, .int .u8 z] ∧ x ≤ 255 ∧ y ≤ 255 ∧ z ≤ 255 := by
  obtain ⟨cs, rfl, hsz⟩ := okWide_arr Try.underlying51 hval
  obtain ⟨fuel, hd⟩ := hd
  have hA := arr_int Try.underlying51 Try.underlying5 cells5 hd
  obtain ⟨x, h0, w0⟩ := hA 0 (by decide)
  obtain ⟨y, h1, w1⟩ := hA 1 (by decide)
  obtain ⟨z, h2, w2⟩ := hA 2 (by decide)
  obtain ⟨x, rfl, q0⟩ := byte_wf w0
  obtain ⟨y, rfl, q1⟩ := byte_wf w1
  obtain ⟨z, rfl, q2⟩ := byte_wf w2
  refine ⟨x, y, z, ?_, q0, q1, q2⟩
  rw [cells51] at hsz
  congr 1
  apply Array.ext
  · simpa using hsz
  · intro i hi _
    have hc : ∀ j (hj : j < cs.size) v, (Value.agg cs).cells.toList[j]? = some v → cs[j] = v := by
      intro j hj v hv
      have hv' : cs.toList[j]? = some v := hv
      rw [Array.getElem?_toList, Array.getElem?_eq_getElem hj] at hv'
      exact Option.some.inj hv'
    match i, hi with
    | 0, hi => exact hc 0 hi _ h0
    | 1, hi => exact hc 1 hi _ h1
    | 2, hi => exact hc 2 hi _ h2
    | i + 3, hi => omega
set_option maxRecDepth 100000 in
theorem open_a2 {v : Value} {d : DataW H} {ps : List MemPlace} {r : Reach} {b0 : Nat} (hval : Value.okWide Try.prog w r b0 66 v) (hd : DataW.Trod enc Try.prog w base spare held 66 v d ps) : ∃ x y : Nat, v = .agg #[.int .u16 x, .int .u16 y] ∧ x ≤ 65535 ∧ y ≤ 65535 := by
  obtain ⟨cs, rfl, hsz⟩ := okWide_arr Try.underlying66 hval
  obtain ⟨fuel, hd⟩ := hd
  have hA := arr_int Try.underlying66 Try.underlying65 cells65 hd
  obtain ⟨x, h0, w0⟩ := hA 0 (by decide)
  obtain ⟨y, h1, w1⟩ := hA 1 (by decide)
  obtain ⟨x, rfl, q0⟩ := word_wf w0
  obtain ⟨y, rfl, q1⟩ := word_wf w1
  refine ⟨x, y, ?_, q0, q1⟩
  rw [cells66] at hsz
  congr 1
  apply Array.ext
  · simpa using hsz
  · intro i hi _
    have hc : ∀ j (hj : j < cs.size) v, (Value.agg cs).cells.toList[j]? = some v → cs[j] = v := by
      intro j hj v hv
      have hv' : cs.toList[j]? = some v := hv
      rw [Array.getElem?_toList, Array.getElem?_eq_getElem hj] at hv'
      exact Option.some.inj hv'
    match i, hi with
    | 0, hi => exact hc 0 hi _ h0
    | 1, hi => exact hc 1 hi _ h1
    | i + 2, hi => omega
end
end Go.Proofs.Ytbjmkmambmeifaa

namespace Go.Proofs.Ytbjmkmambmeifaa
open Go.RowKit

theorem own_keep {W W' : World} {base e e' sz n : Nat} {v : Value} {xs : List Value} (h : W.ownsRow base e sz v n xs) (hk : ∀ k cs t, BK W k cs t → t ≠ e' → BK W' k cs t) (hne : e ≠ e') : W'.ownsRow base e sz v n xs := by
  obtain ⟨hl, h2⟩ := h
  refine ⟨hl, ?_⟩
  rcases h2 with h2 | ⟨g, cap, cur, h3, h4, h5, h6⟩
  · exact .inl h2
  · exact .inr ⟨g, cap, cur, h3, h4, hk _ _ _ h5 hne, h6⟩
/-- What is appended, the element lying in a block that is known. -/
theorem app_b {P : Program} {t e size bytes : Nat} {z : Value} (hinf : (P.info? e).map (fun i => (i.zero, i.size, i.bytes)) = some (some z, size, bytes)) (ht : P.underlying t = some (.slice e)) (hzs : z.cells.size = size) (hsz : 0 < size) (hb1 : bytes ≤ 1000)
    {base n : Nat} {W : World} {xs news : List Value} {v : Value} (hown : W.ownsRow base e size v n xs) {g tn : Nat} (hg : BK W g news.toArray tn) (hl : news.length = size) (h1 : ∀ u ∈ news, u.oneCell' = true) (hn : n ≤ 100000) (hbase : base ≤ W.heap.size) (ty : Nat) :
    ∃ v' w2, (Builtin.append_ #[t, t] ty #[v, .slice (some ⟨g, 0, none⟩) 1 1]).run P W = .ok v' w2 ∧ w2.ownsRow base e size v' (n + 1) (xs ++ news) ∧ (∀ w0, Below base w0 W → Below base w0 w2) ∧ W.heap.size ≤ w2.heap.size ∧ (∀ k cs t, BK W k cs t → t ≠ e → BK w2 k cs t) := by
  obtain ⟨i0, hi0, hz0, hz1, hz2⟩ := info_parts hinf
  obtain ⟨g', cap', w2, hrun, hown', hgr, _⟩ := app1 (P := P) t ty e i0 z size bytes ht hi0 hz0 hz1 hz2 hzs hsz hb1 base W v n xs hown g news tn hg hl h1 hn hbase
  refine ⟨_, w2, hrun, hown', fun w0 hbw => Below.grown hbw hgr hbase fun k hk => (hown.lt k hk).1, hgr.size, ?_⟩
  intro k cs t hk hte
  refine hk.grown hgr ?_
  intro hq
  obtain ⟨c, hc⟩ := own_block hown hq.symm
  unfold BK at hk
  rw [hk] at hc; injection hc with hc; injection hc with _ hc; exact hte hc
theorem app_b_st {W : World} {base g tn : Nat} {v : Value} {l : List St} {x : St} (h : OwnS W base v l) (hg : BK W g #[.int .i64 x.a, .int .i64 x.lo, .int .i64 x.hi] tn) (hn : l.length ≤ 100000) (hbase : base ≤ W.heap.size) :
    ∃ v' w2, (Builtin.append_ #[22, 22] 22 #[v, .slice (some ⟨g, 0, none⟩) 1 1]).run Try.prog W = .ok v' w2 ∧ OwnS w2 base v' (l ++ [x]) ∧ (∀ w0, Below base w0 W → Below base w0 w2) ∧ W.heap.size ≤ w2.heap.size ∧ (∀ k cs t, BK W k cs t → t ≠ 62 → BK w2 k cs t) := by
  obtain ⟨v', w2, h1, h2, h3⟩ := app_b (news := [.int .i64 x.a, .int .i64 x.lo, .int .i64 x.hi]) st_info st_slice rfl (by decide) (by decide) h hg rfl (by simp [Value.oneCell']) hn hbase 22
  refine ⟨v', w2, h1, ?_, h3⟩
  unfold OwnS
  rw [← ofS_app, List.length_append]
  exact h2
theorem app_b_i64 {W : World} {base g tn : Nat} {v : Value} {l : List Int} {x : Int} (h : OwnI 2 W base v l) (hg : BK W g #[.int .i64 x] tn) (hn : l.length ≤ 100000) (hbase : base ≤ W.heap.size) :
    ∃ v' w2, (Builtin.append_ #[23, 23] 23 #[v, .slice (some ⟨g, 0, none⟩) 1 1]).run Try.prog W = .ok v' w2 ∧ OwnI 2 w2 base v' (l ++ [x]) ∧ (∀ w0, Below base w0 W → Below base w0 w2) ∧ W.heap.size ≤ w2.heap.size ∧ (∀ k cs t, BK W k cs t → t ≠ 2 → BK w2 k cs t) := by
  obtain ⟨v', w2, h1, h2, h3⟩ := app_b (news := [.int .i64 x]) i64_info i64_slice rfl (by decide) (by decide) h hg rfl (by simp [Value.oneCell']) hn hbase 23
  refine ⟨v', w2, h1, ?_, h3⟩
  unfold OwnI
  rw [← ofI_app, List.length_append]
  exact h2
end Go.Proofs.Ytbjmkmambmeifaa

namespace Go.Proofs.Ytbjmkmambmeifaa
open Go.RowKit

/-- Two lists that do not share a block. -/
def Apart (v v2 : Value) : Prop := v.ownBlock = none ∨ v2.ownBlock = none ∨ v.ownBlock ≠ v2.ownBlock
theorem Apart.symm {v v2 : Value} (h : Apart v v2) : Apart v2 v := by
  rcases h with h | h | h
  · exact .inr (.inl h)
  · exact .inl h
  · exact .inr (.inr fun he => h he.symm)
theorem app_c {W : World} {base g tn : Nat} {v v2 : Value} {l l2 : List St} {x : St} (h : OwnS W base v l) (h2 : OwnS W base v2 l2) (hd : Apart v v2) (hg : BK W g #[.int .i64 x.a, .int .i64 x.lo, .int .i64 x.hi] tn) (hn : l.length ≤ 100000) (hbase : base ≤ W.heap.size) :
    ∃ v' w2, (Builtin.append_ #[22, 22] 22 #[v, .slice (some ⟨g, 0, none⟩) 1 1]).run Try.prog W = .ok v' w2 ∧ OwnS w2 base v' (l ++ [x]) ∧ OwnS w2 base v2 l2 ∧ Apart v' v2 ∧ (∀ w0, Below base w0 W → Below base w0 w2) ∧ W.heap.size ≤ w2.heap.size := by
  obtain ⟨i0, hi0, hz0, hz1, hz2⟩ := info_parts st_info
  obtain ⟨g', cap', w2, hrun, hown', hgr, hg'⟩ := app1 (P := Try.prog) 22 22 62 i0 _ 3 24 st_slice hi0 hz0 hz1 hz2 rfl (by decide) (by decide) base W v l.length (ofS l) h g [.int .i64 x.a, .int .i64 x.lo, .int .i64 x.hi] tn hg rfl (by simp [Value.oneCell']) hn hbase
  refine ⟨_, w2, hrun, ?_, ?_, ?_, fun w0 hbw => Below.grown hbw hgr hbase fun k hk => (World.ownsRow.lt h k hk).1, hgr.size⟩
  · unfold OwnS
    rw [← ofS_app, List.length_append]
    exact hown'
  · refine World.ownsRow.kept h2 hgr ?_
    rcases hd with hd | hd | hd
    · cases hb : v2.ownBlock with
      | none => exact .inl rfl
      | some k => exact .inr (by rw [hd]; simp)
    · exact .inl hd
    · exact .inr fun he => hd he.symm
  · rcases hg' with hg' | hg'
    · rcases hd with hd | hd | hd
      · rw [hd] at hg'; cases hg'
      · exact .inr (.inl hd)
      · refine .inr (.inr ?_)
        show some g' ≠ _
        rw [← hg']; exact hd
    · cases hb : v2.ownBlock with
      | none => exact .inr (.inl hb)
      | some k =>
        refine .inr (.inr ?_)
        show some g' ≠ _
        rw [hb, hg']
        obtain ⟨c, hc⟩ := own_block h2 hb
        have := (Array.getElem?_eq_some_iff.1 hc).1
        intro he
        injection he with he
        omega
theorem tlt_take (l : List St) (m : Int) {k : Nat} (hk : k < l.length) : (Ma.tlt l m).take (k + 1) = (Ma.tlt l m).take k ++ [⟨(nthS l k).a, (nthS l k).lo + m * (nthS l k).a, (nthS l k).hi + m * (nthS l k).a⟩] := by
  rw [List.take_add_one]
  have := Ma.tlt_at l m hk
  have e : (Ma.tlt l m)[k]? = some (nthS (Ma.tlt l m) k) := by simp [nthS, Ma.tlt_len, hk]
  rw [e, this]; rfl
theorem rnd_take (l : List St) {k : Nat} (hk : k < l.length) : (Ma.rnd l).take (k + 1) = (Ma.rnd l).take k ++ [⟨1000 - (nthS l (l.length - 1 - k)).a, (nthS l (l.length - 1 - k)).lo, (nthS l (l.length - 1 - k)).hi⟩] := by
  rw [List.take_add_one]
  have := Ma.rnd_at l hk
  have e : (Ma.rnd l)[k]? = some (nthS (Ma.rnd l) k) := by simp [nthS, Ma.rnd_len, hk]
  rw [e, this]; rfl
end Go.Proofs.Ytbjmkmambmeifaa

namespace Go.Proofs.Ytbjmkmambmeifaa
open Go.RowKit

/-- The ends of a span that is returned. -/
def spT (l : List St) (hs : List Int) (s : Nat) (own : Int) (r : Ra) (f : Ra → Int) : Int := if spanE l hs s own = 0 then f r else 0
theorem spanT_full (l : List St) (hs : List Int) (s : Nat) (own : Int) : spanV l hs s own = .tuple #[.agg #[.int .i64 (spT l hs s own (loB l hs s own) Ra.num), .int .i64 (spT l hs s own (loB l hs s own) Ra.den), .int .i64 (spT l hs s own (hiB l hs s own) Ra.num), .int .i64 (spT l hs s own (hiB l hs s own) Ra.den)], .int .i64 (spanE l hs s own)] := by
  unfold spT spanV spanE
  split <;> simp_all
theorem rnd_hi {l : List St} {b : Bool} {s : Nat} (h : checkPair l = 0) (hs : s < l.length) {own : Int} (ho : -1000 ≤ own ∧ own ≤ 1000) : hiB (Ma.rnd l) (ends (Ma.rnd l) b) (l.length - 1 - s) own = ⟨-(loB l (ends l b) s own).num, (loB l (ends l b) s own).den⟩ := by
  have hv := Ma.rnd_ok h
  have hr := Ma.rnd_s h hs
  have e := Ma.rnd_lo (b := b) hv hr ho
  rw [Ma.rnd_rnd h hs, Ma.rnd_len, show l.length - 1 - (l.length - 1 - s) = s by omega] at e
  rw [e]
  simp
theorem rnd_own {l : List St} {s : Nat} (hs : s < l.length) : (nthS (Ma.rnd l) (l.length - 1 - s)).lo = (nthS l s).lo ∧ (nthS (Ma.rnd l) (l.length - 1 - s)).hi = (nthS l s).hi := by
  rw [Ma.rnd_at l (show l.length - 1 - s < l.length by omega), show l.length - 1 - (l.length - 1 - s) = s by omega]
  exact ⟨rfl, rfl⟩
theorem rnd_can {l : List St} {s : Nat} (h : checkPair l = 0) (hs : s < l.length) : canV (Ma.rnd l) ((l.length - 1 - s : Nat) : Int) =
    .tuple #[.agg #[.int .i64 (-(spT l (ends l true) s (nthS l s).lo (hiB l (ends l true) s (nthS l s).lo) Ra.num)), .int .i64 (spT l (ends l true) s (nthS l s).lo (hiB l (ends l true) s (nthS l s).lo) Ra.den),
      .int .i64 (-(spT l (ends l true) s (nthS l s).lo (loB l (ends l true) s (nthS l s).lo) Ra.num)), .int .i64 (spT l (ends l true) s (nthS l s).lo (loB l (ends l true) s (nthS l s).lo) Ra.den)], .int .i64 (spanE l (ends l true) s (nthS l s).lo)] := by
  have ho := Ma.lo_rng l h hs
  rw [canV_ok _ (Ma.rnd_ok h) _ (Ma.rnd_s h hs), spanT_full, (rnd_own hs).1]
  unfold spT
  rw [Ma.rnd_err h hs ho, Ma.rnd_lo h hs ho, rnd_hi h hs ho]
  by_cases he : spanE l (ends l true) s (nthS l s).lo = 0
  · simp only [if_pos he]
  · simp only [if_neg he]; rfl
theorem rnd_ground {l : List St} {s : Nat} (h : checkPair l = 0) (hs : s < l.length) : groundV (Ma.rnd l) ((l.length - 1 - s : Nat) : Int) = groundV l (s : Int) := by
  rw [groundV_ok (Ma.rnd_ok h) (Ma.rnd_s h hs), groundV_ok h hs, (rnd_own hs).1, (rnd_own hs).2, Ma.rnd_over h hs (Ma.lo_rng l h hs), Ma.rnd_over h hs (Ma.hi_rng l h hs)]
theorem tlt_ground {l : List St} {m : Int} {s : Nat} (h : checkPair l = 0) (hx : checkPair (Ma.tlt l m) = 0) (hs : s < l.length) : groundV (Ma.tlt l m) (s : Int) = groundV l (s : Int) := by
  have e := Ma.tlt_at l m hs
  have hsx := Ma.tlt_s h hx hs
  rw [groundV_ok hx hsx, groundV_ok h hs, Ma.tlt_over h hx hs (Ma.lo_rng l h hs) (Ma.lo_rng _ hx hsx) (by rw [e]), Ma.tlt_over h hx hs (Ma.hi_rng l h hs) (Ma.hi_rng _ hx hsx) (by rw [e])]
/-- The span of a tilted pair. -/
theorem tlt_can {l : List St} {m : Int} {s : Nat} (h : checkPair l = 0) (hx : checkPair (Ma.tlt l m) = 0) (hs : s < l.length) (hm : -128 ≤ m ∧ m ≤ 127) (he : spanE l (ends l true) s (nthS l s).lo = 0) :
    ∃ x1 x2 x3 x4 : Int, canV (Ma.tlt l m) (s : Int) = .tuple #[.agg #[.int .i64 x1, .int .i64 x2, .int .i64 x3, .int .i64 x4], .int .i64 0] ∧ smallR ⟨x1, x2⟩ ⟨x3, x4⟩ = true ∧
      (s = 0 → x1 = -10000 ∧ x2 = 1) ∧ (0 < s → x1 = (loB l (ends l true) s (nthS l s).lo).num + m * (loB l (ends l true) s (nthS l s).lo).den ∧ x2 = (loB l (ends l true) s (nthS l s).lo).den) ∧
      (s + 1 = l.length → x3 = 10000 ∧ x4 = 1) ∧ (s + 1 < l.length → x3 = (hiB l (ends l true) s (nthS l s).lo).num + m * (hiB l (ends l true) s (nthS l s).lo).den ∧ x4 = (hiB l (ends l true) s (nthS l s).lo).den) := by
  have e := Ma.tlt_at l m hs
  have hsx := Ma.tlt_s h hx hs
  have o1 := Ma.lo_rng l h hs
  have o2 := Ma.lo_rng _ hx hsx
  have ee : (nthS (Ma.tlt l m) s).lo = (nthS l s).lo + m * (nthS l s).a := by rw [e]
  have hE := Ma.tlt_err (b := true) h hx hs o1 o2 ee
  rw [he] at hE
  refine ⟨(loB (Ma.tlt l m) (ends (Ma.tlt l m) true) s (nthS (Ma.tlt l m) s).lo).num, (loB (Ma.tlt l m) (ends (Ma.tlt l m) true) s (nthS (Ma.tlt l m) s).lo).den, (hiB (Ma.tlt l m) (ends (Ma.tlt l m) true) s (nthS (Ma.tlt l m) s).lo).num, (hiB (Ma.tlt l m) (ends (Ma.tlt l m) true) s (nthS (Ma.tlt l m) s).lo).den, ?_, ?_, ?_, ?_, ?_, ?_⟩
  · rw [canV_ok _ hx _ hsx, spanT_full]
    unfold spT
    rw [hE]
    simp
  · have a := Ma.lo_mem (Ma.gd _ hx) (Ma.hb _ true hx) hsx o2
    have b := Ma.hi_mem (Ma.gd _ hx) (Ma.hb _ true hx) hsx o2
    unfold smallR
    rw [decide_eq_true_eq]
    dsimp only
    omega
  · rintro rfl
    rw [Ma.lo_first]; exact ⟨rfl, rfl⟩
  · intro h0
    rw [Ma.tlt_lo h hx hs o1 o2 ee hm h0]; exact ⟨rfl, rfl⟩
  · intro h0
    rw [Ma.hi_last _ _ (by rw [Ma.tlt_len]; exact h0)]; exact ⟨rfl, rfl⟩
  · intro h0
    rw [Ma.tlt_hi h hx hs o1 o2 ee hm h0]; exact ⟨rfl, rfl⟩
/-- A span that is not there is nothing. -/
theorem tlt_can22 {l : List St} {m : Int} {s : Nat} (h : checkPair l = 0) (hx : checkPair (Ma.tlt l m) = 0) (hs : s < l.length) (he : spanE l (ends l true) s (nthS l s).lo = 22) : canV (Ma.tlt l m) (s : Int) = errV 22 ∧ canV l (s : Int) = errV 22 := by
  have e := Ma.tlt_at l m hs
  have hsx := Ma.tlt_s h hx hs
  have hE := Ma.tlt_err (b := true) h hx hs (Ma.lo_rng l h hs) (Ma.lo_rng _ hx hsx) (by rw [e])
  rw [he] at hE
  constructor
  · rw [canV_ok _ hx _ hsx, spanT_full]
    unfold spT errV
    rw [hE]; simp
  · rw [canV_ok _ h _ hs, spanT_full]
    unfold spT errV
    rw [he]; simp
theorem spT_0 {l : List St} {hs : List Int} {s : Nat} {own : Int} {r : Ra} {f : Ra → Int} (h : spanE l hs s own = 0) : spT l hs s own r f = f r := by unfold spT; rw [if_pos h]
theorem spT_22 {l : List St} {hs : List Int} {s : Nat} {own : Int} {r : Ra} {f : Ra → Int} (h : spanE l hs s own = 22) : spT l hs s own r f = 0 := by unfold spT; rw [if_neg (by omega)]
/-- What the law needs of a span that is moved; a: of the pair; x: of the tilted one. -/
def Moved (n s : Nat) (m a1 a2 a3 a4 x1 x2 x3 x4 : Int) : Prop :=
  smallR ⟨a1, a2⟩ ⟨a3, a4⟩ = true ∧ smallR ⟨x1, x2⟩ ⟨x3, x4⟩ = true ∧ (s = 0 → x1 = -10000 ∧ x2 = 1) ∧ (0 < s → x1 = a1 + m * a2 ∧ x2 = a2) ∧ (s + 1 = n → x3 = 10000 ∧ x4 = 1) ∧ (s + 1 < n → x3 = a3 + m * a4 ∧ x4 = a4)
theorem moved {l : List St} {m : Int} {s : Nat} (h : checkPair l = 0) (hx : checkPair (Ma.tlt l m) = 0) (hs : s < l.length) (hm : -128 ≤ m ∧ m ≤ 127) (he : spanE l (ends l true) s (nthS l s).lo = 0) :
    ∃ x1 x2 x3 x4 : Int, canV (Ma.tlt l m) (s : Int) = .tuple #[.agg #[.int .i64 x1, .int .i64 x2, .int .i64 x3, .int .i64 x4], .int .i64 0] ∧
      Moved l.length s m (spT l (ends l true) s (nthS l s).lo (loB l (ends l true) s (nthS l s).lo) Ra.num) (spT l (ends l true) s (nthS l s).lo (loB l (ends l true) s (nthS l s).lo) Ra.den) (spT l (ends l true) s (nthS l s).lo (hiB l (ends l true) s (nthS l s).lo) Ra.num) (spT l (ends l true) s (nthS l s).lo (hiB l (ends l true) s (nthS l s).lo) Ra.den) x1 x2 x3 x4 := by
  obtain ⟨x1, x2, x3, x4, q1, q2, q3, q4, q5, q6⟩ := tlt_can h hx hs hm he
  refine ⟨x1, x2, x3, x4, q1, ?_, q2, q3, ?_, q5, ?_⟩
  · rw [spT_0 he, spT_0 he, spT_0 he, spT_0 he]
    have a := Ma.lo_mem (Ma.gd l h) (Ma.hb l true h) hs (Ma.lo_rng l h hs)
    have b := Ma.hi_mem (Ma.gd l h) (Ma.hb l true h) hs (Ma.lo_rng l h hs)
    unfold smallR
    rw [decide_eq_true_eq]
    dsimp only
    omega
  · rw [spT_0 he, spT_0 he]; exact q4
  · rw [spT_0 he, spT_0 he]; exact q6
end Go.Proofs.Ytbjmkmambmeifaa

namespace Go.Proofs.Ytbjmkmambmeifaa
open Go.RowKit

theorem region_cut {P : Program} {id : Nat} {os : Array Oper} {dr : Bool} {Q : Exit → Act → World → Prop} {a : Act} {w : World} {F : Nat → Nat → Act} {R : Nat → Nat → World → Prop}
    (h : (Code.region id os dr).wp P (fun e a' w' => ∃ x y, e = .normal ∧ a' = F x y ∧ R x y w') a w) (hr : ∀ x y w', R x y w' → Q .normal (F x y) w') : (Code.region id os dr).wp P Q a w :=
  Code.wp_mono (fun e a' w' ⟨x, y, he, ha, hR⟩ => by subst he ha; exact hr x y w' hR) h

theorem station_below (a b c : Int) (W : World) : Calls Try.prog 45 #[.int .i64 a, .int .i64 b, .int .i64 c] W fun e w' => e = .returned (.agg #[.int .i64 a, .int .i64 b, .int .i64 c]) ∧ Below W.heap.size W w' :=
  (station_any a b c W).mono fun e w' ⟨he, hw⟩ => ⟨he, by rw [← hw]; exact bel_of⟩

theorem smallT {a b c d : Int} (h : smallR ⟨a, b⟩ ⟨c, d⟩ = true) (W : World) : Calls Try.prog 43 #[.agg #[.int .i64 a, .int .i64 b, .int .i64 c, .int .i64 d]] W fun e w' => e = .returned (.bool true) ∧ Below W.heap.size W w' :=
  (small_any a b c d W).mono fun e w' ⟨he, hw⟩ => ⟨by rw [he, h], by rw [← hw]; exact bel_of⟩
set_option maxRecDepth 100000 in
theorem tilted_no (l : List St) (m : Int) (st : Nat) (vl : Value) (w : World) (hl : fineB l = false) (h : RSt w w.heap.size vl l) :
    Calls Try.prog 11 #[vl, .int .i8 m, .int .u8 st] w fun e w' => e = .returned (.bool true) ∧ Below w.heap.size w w' := by
  have hf := fine_all l vl w h
  rw [hl] at hf
  have HF := Lib.hid hf
  clear hl hf h
  go_enter Try.func11, Try.ntmps11
  go_wp2_with fail
  refine HF.out.mono ?_
  rintro e w1 ⟨rfl, hb0⟩
  go_wp2_with fail
  refine (works_any _).mono ?_
  rintro e w2 ⟨rfl, hb1⟩
  go_wp2_with fail
  go_ret
  exact ⟨rfl, hb0.trans (hb1.mono hb0.size)⟩

set_option maxRecDepth 100000 in
set_option maxHeartbeats 16000000 in
theorem tilted_yes (l : List St) (m : Int) (st : Nat) (vl : Value) (w : World) (hv : checkPair l = 0) (hm : -128 ≤ m ∧ m ≤ 127) (hst : st ≤ 255) (h : RSt w w.heap.size vl l) :
    Calls Try.prog 11 #[vl, .int .i8 m, .int .u8 st] w fun e w' => e = .returned (.bool true) ∧ Below w.heap.size w w' := by
  have hn := checkPair_len l hv
  obtain ⟨s, hse⟩ : ∃ s, st % l.length = s := ⟨_, rfl⟩
  have hs : s < l.length := by rw [← hse]; exact Nat.mod_lt _ hn.1
  have hmod : (st : Int) % (l.length : Int) = (s : Int) := by rw [← hse]; omega
  have hF := fine_all l vl w h
  rw [show fineB l = true from decide_eq_true hv] at hF
  have hva := fun i (hi : i < l.length) => valid_at l hv i hi
  obtain ⟨s', hsq⟩ : ∃ s', l.length - 1 - s = s' := ⟨_, rfl⟩
  have hns : (l.length : Int) - 1 - (s : Int) = (s' : Int) := by omega
  have hCa := fun W (hb : Below w.heap.size w W) => canP_any l s vl W (by omega) ((RS.below h hb).more hb.size)
  have hGa := fun W (hb : Below w.heap.size w W) => groundP_any l s vl W (by omega) ((RS.below h hb).more hb.size)
  have hCb := fun W v (hy : RSt W W.heap.size v (Ma.rnd l)) => canP_any (Ma.rnd l) ((l.length - 1 - s : Nat) : Int) v W (by rw [Ma.rnd_len]; omega) hy
  have hGb := fun W v (hy : RSt W W.heap.size v (Ma.rnd l)) => groundP_any (Ma.rnd l) ((l.length - 1 - s : Nat) : Int) v W (by rw [Ma.rnd_len]; omega) hy
  have hFx := fun W v (hx : RSt W W.heap.size v (Ma.tlt l m)) => fine_all (Ma.tlt l m) v W hx
  simp only [rnd_can hv hs] at hCb
  simp only [rnd_ground hv hs, groundV_ok hv hs] at hGb
  simp only [groundV_ok hv hs] at hGa
  rw [canV_ok l hv s hs, spanT_full] at hCa
  have bL := Ma.lo_mem (Ma.gd l hv) (Ma.hb l true hv) hs (Ma.lo_rng l hv hs)
  have bH := Ma.hi_mem (Ma.gd l hv) (Ma.hb l true hv) hs (Ma.lo_rng l hv hs)
  have q1 : -10000 ≤ spT l (ends l true) s (nthS l s).lo (loB l (ends l true) s (nthS l s).lo) Ra.num ∧ spT l (ends l true) s (nthS l s).lo (loB l (ends l true) s (nthS l s).lo) Ra.num ≤ 10000 := by unfold spT; split <;> omega
  have q3 : -10000 ≤ spT l (ends l true) s (nthS l s).lo (hiB l (ends l true) s (nthS l s).lo) Ra.num ∧ spT l (ends l true) s (nthS l s).lo (hiB l (ends l true) s (nthS l s).lo) Ra.num ≤ 10000 := by unfold spT; split <;> omega
  rw [hsq] at hCb hGb
  clear hsq bL bH
  have hMov := fun (hx : checkPair (Ma.tlt l m) = 0) => moved hv hx hs hm
  have hNot : ∀ (hx : checkPair (Ma.tlt l m) = 0), spanE l (ends l true) s (nthS l s).lo = 22 → canV (Ma.tlt l m) (s : Int) = .tuple #[.agg #[.int .i64 0, .int .i64 0, .int .i64 0, .int .i64 0], .int .i64 22] := fun hx he => (tlt_can22 hv hx hs he).1
  have hZ : spanE l (ends l true) s (nthS l s).lo = 22 → spT l (ends l true) s (nthS l s).lo (loB l (ends l true) s (nthS l s).lo) Ra.num = 0 ∧ spT l (ends l true) s (nthS l s).lo (loB l (ends l true) s (nthS l s).lo) Ra.den = 0 ∧ spT l (ends l true) s (nthS l s).lo (hiB l (ends l true) s (nthS l s).lo) Ra.num = 0 ∧ spT l (ends l true) s (nthS l s).lo (hiB l (ends l true) s (nthS l s).lo) Ra.den = 0 := fun he => ⟨spT_22 he, spT_22 he, spT_22 he, spT_22 he⟩
  have hE2 := Ma.spanE_two l (ends l true) s (nthS l s).lo
  have hGx : ∀ (hx : checkPair (Ma.tlt l m) = 0) W v, RSt W W.heap.size v (Ma.tlt l m) → Calls Try.prog 28 #[v, .int .i64 s] W fun e w' => e = .returned (.tuple #[.agg #[.int .i64 (overR l (ends l true) s (nthS l s).lo).num, .int .i64 (overR l (ends l true) s (nthS l s).lo).den, .int .i64 (overR l (ends l false) s (nthS l s).hi).num, .int .i64 (overR l (ends l false) s (nthS l s).hi).den], .int .i64 0]) ∧ Below W.heap.size W w' := by
    intro hx W v hr
    have h1 := groundP_any (Ma.tlt l m) s v W (by rw [Ma.tlt_len]; omega) hr
    rw [tlt_ground hv hx hs, groundV_ok hv hs] at h1
    exact h1
  have hCx := fun W v (hr : RSt W W.heap.size v (Ma.tlt l m)) => canP_any (Ma.tlt l m) s v W (by rw [Ma.tlt_len]; omega) hr
  have hKl := fun W (hb : Below w.heap.size w W) => kindsP_any l vl W (by omega) ((RS.below h hb).more hb.size)
  rw [hv] at hKl
  have hKx : ∀ (hx : checkPair (Ma.tlt l m) = 0) W v, RSt W W.heap.size v (Ma.tlt l m) → Calls Try.prog 30 #[v] W fun e w' => ∃ v2, e = .returned (.tuple #[v2, .int .i64 0]) ∧ RI w' w'.heap.size v2 (kindsP l) ∧ Below W.heap.size W w' := by
    intro hx W v hr
    have h1 := kindsP_any (Ma.tlt l m) v W (by rw [Ma.tlt_len]; omega) hr
    rw [Ma.tlt_kinds hv hx, hx] at h1
    exact h1
  have hKL := Lib.hid (show (kindsP l).length ≤ 1000 from Nat.le_trans (kindsP_len l) (by omega))
  obtain ⟨u1, u2, u3, u4, hu⟩ := wedgeV_form l
  have hWl := fun W (hb : Below w.heap.size w W) => wedgeP_any l vl W (by omega) ((RS.below h hb).more hb.size)
  rw [hu] at hWl
  have hWx : ∀ (hx : checkPair (Ma.tlt l m) = 0) W v, RSt W W.heap.size v (Ma.tlt l m) → Calls Try.prog 32 #[v] W fun e w' => e = .returned (.tuple #[.agg #[.int .i64 u1, .int .i64 u2, .int .i64 u3], .int .i64 u4]) ∧ Below W.heap.size W w' := by
    intro hx W v hr
    have h1 := wedgeP_any (Ma.tlt l m) v W (by rw [Ma.tlt_len]; omega) hr
    rw [Ma.tlt_wedgeV hv hx, hu] at h1
    exact h1
  clear hu
  have HMov := Lib.hid hMov; have HNot := Lib.hid hNot; have HZ := Lib.hid hZ; have HE2 := Lib.hid hE2; have HGx := Lib.hid hGx; have HCx := Lib.hid hCx; have HKl := Lib.hid hKl; have HKx := Lib.hid hKx; have HWl := Lib.hid hWl; have HWx := Lib.hid hWx
  clear hMov hNot hZ hE2 hGx hCx hKl hKx hWl hWx
  generalize spT l (ends l true) s (nthS l s).lo (loB l (ends l true) s (nthS l s).lo) Ra.num = a1 at *
  generalize spT l (ends l true) s (nthS l s).lo (loB l (ends l true) s (nthS l s).lo) Ra.den = a2 at *
  generalize spT l (ends l true) s (nthS l s).lo (hiB l (ends l true) s (nthS l s).lo) Ra.num = a3 at *
  generalize spT l (ends l true) s (nthS l s).lo (hiB l (ends l true) s (nthS l s).lo) Ra.den = a4 at *
  generalize spanE l (ends l true) s (nthS l s).lo = e at *
  generalize overR l (ends l true) s (nthS l s).lo = g1 at *
  generalize overR l (ends l false) s (nthS l s).hi = g2 at *
  have HCa := Lib.hid hCa; have HGa := Lib.hid hGa; have HCb := Lib.hid hCb; have HGb := Lib.hid hGb; have HFx := Lib.hid hFx
  have ww1 : IntKind.i64.wrap (-a1) = -a1 := by rw [IntKind.wrap_i64]; omega
  have ww3 : IntKind.i64.wrap (-a3) = -a3 := by rw [IntKind.wrap_i64]; omega
  have WW1 := Lib.hid ww1; have WW3 := Lib.hid ww3
  clear hCa hGa hCb hGb hFx ww1 ww3
  have HF := Lib.hid hF; have HVA := Lib.hid hva; have HSE := Lib.hid hse; have HRS := Lib.hid h
  obtain ⟨A, cap, b, off, rfl, hA, hcl⟩ := h.cells
  obtain ⟨rfl, hbl⟩ := hA (by omega)
  have HCL := Lib.hid hcl
  clear hA hcl h hF hva hse
  have hC : Below w.heap.size w w := Below.refl _ _
  go_enter Try.func11, Try.ntmps11
  go_wp2_with fail
  refine (HF.out).mono ?_
  rintro e w1 ⟨rfl, hb⟩
  replace hC : Below w.heap.size w w1 := hC.trans (hb.mono hC.size)
  clear hb
  go_wp2_with fail
  simp only [hmod]
  go_loopw [9, 10, 11] (fun xv yv iv wr => ∃ i : Nat, i ≤ l.length ∧ iv = .int .i64 i ∧ OwnS wr w1.heap.size xv ((Ma.tlt l m).take i) ∧ OwnS wr w1.heap.size yv ((Ma.rnd l).take i) ∧ Apart xv yv ∧ Below w1.heap.size w1 wr) (fun _ _ i _ => l.length - (intOf i).toNat)
  case atStart => exact ⟨0, Nat.zero_le _, rfl, OwnS.nil _ _, OwnS.nil _ _, .inl rfl, Below.refl _ _⟩
  case round =>
    obtain ⟨i, hi, rfl, ox, oy, hap, hbr⟩ := hrel
    by_cases hil : i < l.length
    · have hbw := hC.trans (hbr.mono hC.size)
      have hxl : ((Ma.tlt l m).take i).length ≤ 25 := by rw [List.length_take]; omega
      have hyl : ((Ma.rnd l).take i).length ≤ 25 := by rw [List.length_take]; omega
      have hv1 := HVA.out i hil
      have hv2 := HVA.out (l.length - 1 - i) (by omega)
      have c1 := HCL.out i hil
      have c2 := HCL.out (l.length - 1 - i) (by omega)
      have c0 := c1
      rw [← hC.cell (by exact hbl), ← hC.cell (by exact hbl), ← hC.cell (by exact hbl)] at c0
      rw [← hbw.cell (by exact hbl), ← hbw.cell (by exact hbl), ← hbw.cell (by exact hbl)] at c1
      have HC2 := Lib.hid c2
      clear c2
      obtain ⟨c10, c11, c12⟩ := c1
      obtain ⟨c00, c01, c02⟩ := c0
      have hb0 : b < w1.heap.size := Nat.lt_of_lt_of_le hbl hC.size
      have hbb : b < wr.heap.size := Nat.lt_of_lt_of_le hbl hbw.size
      have HTX := Lib.hid (tlt_take l m hil)
      have HTY := Lib.hid (rnd_take l hil)
      generalize nthS l i = S at *
      generalize nthS l (l.length - 1 - i) = R at *
      have p1 : -128000 ≤ m * S.a ∧ m * S.a ≤ 128000 := by
        constructor
        · have := Int.mul_le_mul_of_nonneg_right hm.1 hv1.1; omega
        · have := Int.mul_le_mul_of_nonneg_right hm.2 hv1.1; omega
      obtain ⟨j, hj⟩ : ∃ j, l.length - 1 - i = j := ⟨_, rfl⟩
      have hjl : j < l.length := by omega
      have hnx : (l.length : Int) - 1 - (i : Int) = (j : Int) := by omega
      rw [hj] at HC2
      clear hj
      have ww1 : IntKind.i64.wrap (S.lo + m * S.a) = S.lo + m * S.a := by rw [IntKind.wrap_i64]; omega
      have ww2 : IntKind.i64.wrap (S.hi + m * S.a) = S.hi + m * S.a := by rw [IntKind.wrap_i64]; omega
      go_wp2_with fail
      have d0y : Below w1.heap.size w1 wr.drew := by exact bel_of
      refine wp_region_noPanic (plain_any [0, 1, 2, 3, 4, 5, 6, 7, 8, 9, 10, 11, 12, 13, 14, 15, 16, 17, 18, 19, 20, 21] (Below w1.heap.size w1) mixed ?_)
      (refine any_take 0 ?_ (by rfl) (by kernel_rfl) (fun _ _ _ _ _ hx => hx.elim) (.inl ⟨by rfl, ?_⟩) (by with_reducible assumption) ?_; rotate_left; (intro X hX; obtain ⟨r1, r2⟩ := Below.rules hX; clear hX; go_simp; rfl); simp only [List.getElem_toArray, List.getElem_cons_succ, List.getElem_cons_zero, Act.put, List.setIfInBounds_toArray, List.set_cons_succ, List.set_cons_zero])
      (refine any_take 1 ?_ (by rfl) (by kernel_rfl) (fun _ _ _ _ _ hx => hx.elim) (.inl ⟨by rfl, ?_⟩) (by with_reducible assumption) ?_; rotate_left; (intro X hX; obtain ⟨r1, r2⟩ := Below.rules hX; clear hX; go_simp; rfl); simp only [List.getElem_toArray, List.getElem_cons_succ, List.getElem_cons_zero, Act.put, List.setIfInBounds_toArray, List.set_cons_succ, List.set_cons_zero])
      (refine any_take 2 ?_ (by rfl) (by kernel_rfl) (fun _ _ _ _ _ hx => hx.elim) (.inl ⟨by rfl, ?_⟩) (by with_reducible assumption) ?_; rotate_left; (intro X hX; obtain ⟨r1, r2⟩ := Below.rules hX; clear hX; go_simp; rfl); simp only [List.getElem_toArray, List.getElem_cons_succ, List.getElem_cons_zero, Act.put, List.setIfInBounds_toArray, List.set_cons_succ, List.set_cons_zero])
      (refine any_take 3 ?_ (by rfl) (by kernel_rfl) (fun _ _ _ _ _ hx => hx.elim) (.inl ⟨by rfl, ?_⟩) (by with_reducible assumption) ?_; rotate_left; (intro X hX; obtain ⟨r1, r2⟩ := Below.rules hX; clear hX; go_simp; rfl); simp only [List.getElem_toArray, List.getElem_cons_succ, List.getElem_cons_zero, Act.put, List.setIfInBounds_toArray, List.set_cons_succ, List.set_cons_zero])
      (refine any_take 4 ?_ (by rfl) (by kernel_rfl) (fun _ _ _ _ _ hx => hx.elim) (.inl ⟨by rfl, ?_⟩) (by with_reducible assumption) ?_; rotate_left; (intro X hX; obtain ⟨r1, r2⟩ := Below.rules hX; clear hX; go_simp; rfl); simp only [List.getElem_toArray, List.getElem_cons_succ, List.getElem_cons_zero, Act.put, List.setIfInBounds_toArray, List.set_cons_succ, List.set_cons_zero])
      (refine any_take 5 ?_ (by rfl) (by kernel_rfl) (fun _ _ _ _ _ hx => hx.elim) (.inl ⟨by rfl, ?_⟩) (by with_reducible assumption) ?_; rotate_left; (intro X hX; obtain ⟨r1, r2⟩ := Below.rules hX; clear hX; go_simp; rfl); simp only [List.getElem_toArray, List.getElem_cons_succ, List.getElem_cons_zero, Act.put, List.setIfInBounds_toArray, List.set_cons_succ, List.set_cons_zero])
      (refine any_take 6 ?_ (by rfl) (by kernel_rfl) (fun _ _ _ _ _ hx => hx.elim) (.inl ⟨by rfl, ?_⟩) (by with_reducible assumption) ?_; rotate_left; (intro X hX; obtain ⟨r1, r2⟩ := Below.rules hX; clear hX; go_simp; rfl); simp only [List.getElem_toArray, List.getElem_cons_succ, List.getElem_cons_zero, Act.put, List.setIfInBounds_toArray, List.set_cons_succ, List.set_cons_zero])
      (refine any_take 7 ?_ (by rfl) (by kernel_rfl) (fun _ _ _ _ _ hx => hx.elim) (.inl ⟨by rfl, ?_⟩) (by with_reducible assumption) ?_; rotate_left; (intro X hX; obtain ⟨r1, r2⟩ := Below.rules hX; clear hX; go_simp; rfl); simp only [List.getElem_toArray, List.getElem_cons_succ, List.getElem_cons_zero, Act.put, List.setIfInBounds_toArray, List.set_cons_succ, List.set_cons_zero])
      (refine any_take 8 ?_ (by rfl) (by kernel_rfl) (fun _ _ _ _ _ hx => hx.elim) (.inl ⟨by rfl, ?_⟩) (by with_reducible assumption) ?_; rotate_left; (intro X hX; obtain ⟨r1, r2⟩ := Below.rules hX; clear hX; go_simp; rfl); simp only [List.getElem_toArray, List.getElem_cons_succ, List.getElem_cons_zero, Act.put, List.setIfInBounds_toArray, List.set_cons_succ, List.set_cons_zero])
      (refine any_take 9 ?_ (by rfl) (by kernel_rfl) (fun _ _ _ _ _ hx => hx.elim) (.inl ⟨by rfl, ?_⟩) (by with_reducible assumption) ?_; rotate_left; (intro X hX; obtain ⟨r1, r2⟩ := Below.rules hX; clear hX; go_simp; rfl); simp only [List.getElem_toArray, List.getElem_cons_succ, List.getElem_cons_zero, Act.put, List.setIfInBounds_toArray, List.set_cons_succ, List.set_cons_zero])
      (refine any_take 10 ?_ (by rfl) (by kernel_rfl) (fun _ _ _ _ _ hx => hx.elim) (.inl ⟨by rfl, ?_⟩) (by with_reducible assumption) ?_; rotate_left; (intro X hX; obtain ⟨r1, r2⟩ := Below.rules hX; clear hX; go_simp; rfl); simp only [List.getElem_toArray, List.getElem_cons_succ, List.getElem_cons_zero, Act.put, List.setIfInBounds_toArray, List.set_cons_succ, List.set_cons_zero])
      (refine any_take 11 ?_ (by rfl) (by kernel_rfl) (fun _ _ _ _ _ hx => hx.elim) (.inl ⟨by rfl, ?_⟩) (by with_reducible assumption) ?_; rotate_left; (intro X hX; obtain ⟨r1, r2⟩ := Below.rules hX; clear hX; go_simp; rfl); simp only [List.getElem_toArray, List.getElem_cons_succ, List.getElem_cons_zero, Act.put, List.setIfInBounds_toArray, List.set_cons_succ, List.set_cons_zero])
      (refine any_take 12 ?_ (by rfl) (by kernel_rfl) (fun _ _ _ _ _ hx => hx.elim) (.inl ⟨by rfl, ?_⟩) (by with_reducible assumption) ?_; rotate_left; (intro X hX; obtain ⟨r1, r2⟩ := Below.rules hX; clear hX; go_simp; rfl); simp only [List.getElem_toArray, List.getElem_cons_succ, List.getElem_cons_zero, Act.put, List.setIfInBounds_toArray, List.set_cons_succ, List.set_cons_zero])
      (refine any_take 13 ?_ (by rfl) (by kernel_rfl) (fun _ _ _ _ _ hx => hx.elim) (.inl ⟨by rfl, ?_⟩) (by with_reducible assumption) ?_; rotate_left; (intro X hX; obtain ⟨r1, r2⟩ := Below.rules hX; clear hX; go_simp; rfl); simp only [List.getElem_toArray, List.getElem_cons_succ, List.getElem_cons_zero, Act.put, List.setIfInBounds_toArray, List.set_cons_succ, List.set_cons_zero])
      (refine any_take 14 ?_ (by rfl) (by kernel_rfl) (fun _ _ _ _ _ hx => hx.elim) (.inl ⟨by rfl, ?_⟩) (by with_reducible assumption) ?_; rotate_left; (intro X hX; obtain ⟨r1, r2⟩ := Below.rules hX; clear hX; go_simp; rfl); simp only [List.getElem_toArray, List.getElem_cons_succ, List.getElem_cons_zero, Act.put, List.setIfInBounds_toArray, List.set_cons_succ, List.set_cons_zero])
      (refine any_take 15 ?_ (by rfl) (by kernel_rfl) (fun _ _ _ _ _ hx => hx.elim) (.inl ⟨by rfl, ?_⟩) (by with_reducible assumption) ?_; rotate_left; (intro X hX; obtain ⟨r1, r2⟩ := Below.rules hX; clear hX; go_simp; rfl); simp only [List.getElem_toArray, List.getElem_cons_succ, List.getElem_cons_zero, Act.put, List.setIfInBounds_toArray, List.set_cons_succ, List.set_cons_zero])
      (refine any_take 16 ?_ (by rfl) (by kernel_rfl) (fun _ _ _ _ _ hx => hx.elim) (.inl ⟨by rfl, ?_⟩) (by with_reducible assumption) ?_; rotate_left; (intro X hX; obtain ⟨r1, r2⟩ := Below.rules hX; clear hX; go_simp; rfl); simp only [List.getElem_toArray, List.getElem_cons_succ, List.getElem_cons_zero, Act.put, List.setIfInBounds_toArray, List.set_cons_succ, List.set_cons_zero])
      (refine any_take 17 ?_ (by rfl) (by kernel_rfl) (fun _ _ _ _ _ hx => hx.elim) (.inl ⟨by rfl, ?_⟩) (by with_reducible assumption) ?_; rotate_left; (intro X hX; obtain ⟨r1, r2⟩ := Below.rules hX; clear hX; go_simp; rfl); simp only [List.getElem_toArray, List.getElem_cons_succ, List.getElem_cons_zero, Act.put, List.setIfInBounds_toArray, List.set_cons_succ, List.set_cons_zero])
      (refine any_take 18 ?_ (by rfl) (by kernel_rfl) (fun _ _ _ _ _ hx => hx.elim) (.inl ⟨by rfl, ?_⟩) (by with_reducible assumption) ?_; rotate_left; (intro X hX; obtain ⟨r1, r2⟩ := Below.rules hX; clear hX; go_simp; rfl); simp only [List.getElem_toArray, List.getElem_cons_succ, List.getElem_cons_zero, Act.put, List.setIfInBounds_toArray, List.set_cons_succ, List.set_cons_zero])
      (refine any_take 19 ?_ (by rfl) (by kernel_rfl) (fun _ _ _ _ _ hx => hx.elim) (.inl ⟨by rfl, ?_⟩) (by with_reducible assumption) ?_; rotate_left; (intro X hX; obtain ⟨r1, r2⟩ := Below.rules hX; clear hX; go_simp; rfl); simp only [List.getElem_toArray, List.getElem_cons_succ, List.getElem_cons_zero, Act.put, List.setIfInBounds_toArray, List.set_cons_succ, List.set_cons_zero])
      (refine any_take 20 ?_ (by rfl) (by kernel_rfl) (fun _ _ _ _ _ hx => hx.elim) (.inl ⟨by rfl, ?_⟩) (by with_reducible assumption) ?_; rotate_left; (intro X hX; obtain ⟨r1, r2⟩ := Below.rules hX; clear hX; go_simp; rfl); simp only [List.getElem_toArray, List.getElem_cons_succ, List.getElem_cons_zero, Act.put, List.setIfInBounds_toArray, List.set_cons_succ, List.set_cons_zero])
      (refine any_take 21 ?_ (by rfl) (by kernel_rfl) (fun _ _ _ _ _ hx => hx.elim) (.inl ⟨by rfl, ?_⟩) (by with_reducible assumption) ?_; rotate_left; (intro X hX; obtain ⟨r1, r2⟩ := Below.rules hX; clear hX; go_simp; rfl); simp only [List.getElem_toArray, List.getElem_cons_succ, List.getElem_cons_zero, Act.put, List.setIfInBounds_toArray, List.set_cons_succ, List.set_cons_zero])
      have dy1 : Below w1.heap.size w1 wr.drew := by exact bel_of
      have hdr : Below wr.heap.size wr wr.drew := Below.drew (Below.refl _ _)
      replace ox := OwnS.below ox hdr
      replace oy := OwnS.below oy hdr
      clear hdr
      generalize wr.drew = uy2 at *
      refine any_run1 (i := 22) (by kernel_rfl) (by rfl) (by kernel_rfl) ?_
      intro K hK
      have qy5 := dy1.size
      go_wp2_with fail
      refine (station_below S.a (S.lo + m * S.a) (S.hi + m * S.a) _).mono ?_
      rintro e vy4 ⟨rfl, hb⟩
      have ey3 : Below w1.heap.size w1 vy4 := dy1.trans (hb.mono dy1.size)
      replace ox := OwnS.below ox hb
      replace oy := OwnS.below oy hb
      clear hb
      refine hK _ _ (fun _ => ey3) ?_
      clear hK K
      refine any_run1 (i := 23) (by kernel_rfl) (by rfl) (by kernel_rfl) ?_
      intro K hK
      have qy7 := ey3.size
      have ey6 : Below w1.heap.size w1 (vy4.alloc (.cells #[.int .i64 S.a, .int .i64 (S.lo + m * S.a), .int .i64 (S.hi + m * S.a)] 62)) := Below.alloc ey3 ey3.size _
      have hnx : Below vy4.heap.size vy4 (vy4.alloc (.cells #[.int .i64 S.a, .int .i64 (S.lo + m * S.a), .int .i64 (S.hi + m * S.a)] 62)) := Below.alloc (Below.refl _ _) (Nat.le_refl _) _
      go_wp2_with fail
      replace ox := OwnS.below ox hnx
      replace oy := OwnS.below oy hnx
      have bS : BK (vy4.alloc (.cells #[.int .i64 S.a, .int .i64 (S.lo + m * S.a), .int .i64 (S.hi + m * S.a)] 62)) vy4.heap.size #[.int .i64 S.a, .int .i64 (S.lo + m * S.a), .int .i64 (S.hi + m * S.a)] 62 := BK.new _ _ _
      refine hK _ _ (fun _ => ey6) ?_
      clear hK K hnx
      generalize (vy4.alloc (.cells #[.int .i64 S.a, .int .i64 (S.lo + m * S.a), .int .i64 (S.hi + m * S.a)] 62)) = vy8 at *
      obtain ⟨gbS, hgbS⟩ : ∃ g, vy4.heap.size = g := ⟨_, rfl⟩
      have hqbS : w1.heap.size ≤ gbS := by omega
      rw [hgbS] at bS
      try rw [hgbS]
      clear hgbS
      refine any_run1 (i := 24) (by kernel_rfl) (by rfl) (by kernel_rfl) ?_
      intro K hK
      have qy11 := ey6.size
      obtain ⟨xy12, vy10, hrun, hown, hoth, hap2, hbel, hsz⟩ := app_c (x := ⟨S.a, S.lo + m * S.a, S.hi + m * S.a⟩) ox oy hap bS (by omega) (by omega)
      have HRUN := Lib.hid hrun; clear hrun
      have ey9 : Below w1.heap.size w1 vy10 := hbel _ ey6
      clear ox oy hap bS; have ox := hown; have oy := hoth; have hap := hap2; clear hown hoth hap2 hbel
      refine wp_append_run (.tmp 55) (.tmp 78) 22 _ rfl HRUN.out ?_
      refine hK _ _ (fun _ => ey9) ?_
      clear hK K HRUN
      simp only [List.getElem_toArray, List.getElem_cons_succ, List.getElem_cons_zero, Act.put, List.setIfInBounds_toArray, List.set_cons_succ, List.set_cons_zero]
      refine any_run1 (i := 25) (by kernel_rfl) (by rfl) (by kernel_rfl) ?_
      intro K hK
      go_wp2_with fail
      refine hK _ _ (fun _ => ey9) ?_
      clear hK K
      refine any_done (by kernel_rfl) (NoPanic.normal ?_)
      have hBw := hC.trans (ey9.mono hC.size)
      have c2 := HC2.out
      rw [← hBw.cell (by exact hbl), ← hBw.cell (by exact hbl), ← hBw.cell (by exact hbl)] at c2
      obtain ⟨c20, c21, c22⟩ := c2
      have hbW : b < vy10.heap.size := Nat.lt_of_lt_of_le hbl hBw.size
      clear ww1 ww2 p1 c10 c11 c12 c00 c01 c02
      have hsV := (ey9).size
      go_wp2_with fail
      have hbR : Below vy10.heap.size vy10 (vy10.alloc (.cells #[.int .i64 R.a, .int .i64 R.lo, .int .i64 R.hi] 62)) := Below.alloc (Below.refl _ _) (Nat.le_refl _) _
      refine (station_below (1000 - R.a) R.lo R.hi _).mono ?_
      rintro e ws ⟨rfl, hb⟩
      have hbs : Below vy10.heap.size vy10 ws := hbR.trans (hb.mono hbR.size)
      have hbs2 : Below vy10.heap.size vy10 (ws.alloc (.cells #[.int .i64 (1000 - R.a), .int .i64 R.lo, .int .i64 R.hi] 62)) := by have := hbs.size; exact bel_of
      have hF2 : Below w1.heap.size w1 (ws.alloc (.cells #[.int .i64 (1000 - R.a), .int .i64 R.lo, .int .i64 R.hi] 62)) := (ey9).trans (hbs2.mono hsV)
      have ox2 := OwnS.below ox hbs2
      have oy2 := OwnS.below oy hbs2
      have bS : BK (ws.alloc (.cells #[.int .i64 (1000 - R.a), .int .i64 R.lo, .int .i64 R.hi] 62)) ws.heap.size #[.int .i64 (1000 - R.a), .int .i64 R.lo, .int .i64 R.hi] 62 := BK.new _ _ _
      have hsz2 := hF2.size
      obtain ⟨yv2, wy, hrun, hown, hoth, hap2, hbel, hsz⟩ := app_c (x := ⟨1000 - R.a, R.lo, R.hi⟩) oy2 ox2 hap.symm bS (by omega) hsz2
      have hFy : Below w1.heap.size w1 wy := hbel _ hF2
      have HRUN := Lib.hid hrun
      clear hrun bS ox oy ox2 oy2 hbs hbs2 hF2 hbR hb hbel hap c20 c21 c22
      go_wp2_with (at_builtin; refine wpList_append_run rfl (.tmp 87) (.tmp 98) 22 _ rfl HRUN.out ?_)
      go_roundw
      case rel => exact ⟨i + 1, by omega, by go_num, by rw [HTX.out]; exact hoth, by rw [HTY.out]; exact hown, hap2.symm, hFy⟩
      case measure => simp [intOf]; omega
    · have hie : i = l.length := by omega
      rw [hie, List.take_of_length_le (by rw [Ma.tlt_len]; exact Nat.le_refl _)] at ox
      rw [hie, List.take_of_length_le (by rw [Ma.rnd_len]; exact Nat.le_refl _)] at oy
      clear hie
      have hCq := hC.trans (hbr.mono hC.size)
      clear hC
      have hC := hCq
      clear hCq
      have hX := ox.ri
      have hY := oy.ri
      clear ox oy hap hbr HVA HCL
      go_wp2_with fail
      refine (HCa.out wr hC).mono ?_
      rintro e w1 ⟨rfl, hb⟩
      replace hC : Below w.heap.size w w1 := hC.trans (hb.mono hC.size)
      replace hX := (RS.below hX hb).more hb.size
      replace hY := (RS.below hY hb).more hb.size
      clear hb
      go_wp2_with fail
      have ba : BK (w1.alloc (.cells #[.int .i64 a1, .int .i64 a2, .int .i64 a3, .int .i64 a4] 34)) w1.heap.size #[.int .i64 a1, .int .i64 a2, .int .i64 a3, .int .i64 a4] 34 := BK.new _ _ _
      replace hC : Below w.heap.size w (w1.alloc (.cells #[.int .i64 a1, .int .i64 a2, .int .i64 a3, .int .i64 a4] 34)) := Below.alloc hC hC.size _
      replace hX := (RS.below hX (w' := (w1.alloc (.cells #[.int .i64 a1, .int .i64 a2, .int .i64 a3, .int .i64 a4] 34))) (Below.alloc (Below.refl _ _) (Nat.le_refl _) _)).more (B' := (w1.alloc (.cells #[.int .i64 a1, .int .i64 a2, .int .i64 a3, .int .i64 a4] 34)).heap.size) (by simp)
      replace hY := (RS.below hY (w' := (w1.alloc (.cells #[.int .i64 a1, .int .i64 a2, .int .i64 a3, .int .i64 a4] 34))) (Below.alloc (Below.refl _ _) (Nat.le_refl _) _)).more (B' := (w1.alloc (.cells #[.int .i64 a1, .int .i64 a2, .int .i64 a3, .int .i64 a4] 34)).heap.size) (by simp)
      generalize (w1.alloc (.cells #[.int .i64 a1, .int .i64 a2, .int .i64 a3, .int .i64 a4] 34)) = Wba at *
      obtain ⟨gba, hgba⟩ : ∃ g, w1.heap.size = g := ⟨_, rfl⟩
      rw [hgba] at ba
      try rw [hgba]
      clear hgba
      refine (HCb.out Wba _ hY).mono ?_
      rintro e w2 ⟨rfl, hb⟩
      replace hC : Below w.heap.size w w2 := hC.trans (hb.mono hC.size)
      replace hX := (RS.below hX hb).more hb.size
      replace hY := (RS.below hY hb).more hb.size
      replace ba := ba.below hb ba.lt
      clear hb
      go_wp2_with fail
      have bb : BK (w2.alloc (.cells #[.int .i64 (-a3), .int .i64 a4, .int .i64 (-a1), .int .i64 a2] 34)) w2.heap.size #[.int .i64 (-a3), .int .i64 a4, .int .i64 (-a1), .int .i64 a2] 34 := BK.new _ _ _
      replace hC : Below w.heap.size w (w2.alloc (.cells #[.int .i64 (-a3), .int .i64 a4, .int .i64 (-a1), .int .i64 a2] 34)) := Below.alloc hC hC.size _
      replace hX := (RS.below hX (w' := (w2.alloc (.cells #[.int .i64 (-a3), .int .i64 a4, .int .i64 (-a1), .int .i64 a2] 34))) (Below.alloc (Below.refl _ _) (Nat.le_refl _) _)).more (B' := (w2.alloc (.cells #[.int .i64 (-a3), .int .i64 a4, .int .i64 (-a1), .int .i64 a2] 34)).heap.size) (by simp)
      replace hY := (RS.below hY (w' := (w2.alloc (.cells #[.int .i64 (-a3), .int .i64 a4, .int .i64 (-a1), .int .i64 a2] 34))) (Below.alloc (Below.refl _ _) (Nat.le_refl _) _)).more (B' := (w2.alloc (.cells #[.int .i64 (-a3), .int .i64 a4, .int .i64 (-a1), .int .i64 a2] 34)).heap.size) (by simp)
      replace ba := ba.alloc (.cells #[.int .i64 (-a3), .int .i64 a4, .int .i64 (-a1), .int .i64 a2] 34)
      generalize (w2.alloc (.cells #[.int .i64 (-a3), .int .i64 a4, .int .i64 (-a1), .int .i64 a2] 34)) = Wbb at *
      obtain ⟨gbb, hgbb⟩ : ∃ g, w2.heap.size = g := ⟨_, rfl⟩
      rw [hgbb] at bb
      try rw [hgbb]
      clear hgbb
      refine (HGa.out Wbb hC).mono ?_
      rintro e w3 ⟨rfl, hb⟩
      replace hC : Below w.heap.size w w3 := hC.trans (hb.mono hC.size)
      replace hX := (RS.below hX hb).more hb.size
      replace hY := (RS.below hY hb).more hb.size
      replace ba := ba.below hb ba.lt
      replace bb := bb.below hb bb.lt
      clear hb
      go_wp2_with fail
      have bg : BK (w3.alloc (.cells #[.int .i64 g1.num, .int .i64 g1.den, .int .i64 g2.num, .int .i64 g2.den] 34)) w3.heap.size #[.int .i64 g1.num, .int .i64 g1.den, .int .i64 g2.num, .int .i64 g2.den] 34 := BK.new _ _ _
      replace hC : Below w.heap.size w (w3.alloc (.cells #[.int .i64 g1.num, .int .i64 g1.den, .int .i64 g2.num, .int .i64 g2.den] 34)) := Below.alloc hC hC.size _
      replace hX := (RS.below hX (w' := (w3.alloc (.cells #[.int .i64 g1.num, .int .i64 g1.den, .int .i64 g2.num, .int .i64 g2.den] 34))) (Below.alloc (Below.refl _ _) (Nat.le_refl _) _)).more (B' := (w3.alloc (.cells #[.int .i64 g1.num, .int .i64 g1.den, .int .i64 g2.num, .int .i64 g2.den] 34)).heap.size) (by simp)
      replace hY := (RS.below hY (w' := (w3.alloc (.cells #[.int .i64 g1.num, .int .i64 g1.den, .int .i64 g2.num, .int .i64 g2.den] 34))) (Below.alloc (Below.refl _ _) (Nat.le_refl _) _)).more (B' := (w3.alloc (.cells #[.int .i64 g1.num, .int .i64 g1.den, .int .i64 g2.num, .int .i64 g2.den] 34)).heap.size) (by simp)
      replace ba := ba.alloc (.cells #[.int .i64 g1.num, .int .i64 g1.den, .int .i64 g2.num, .int .i64 g2.den] 34)
      replace bb := bb.alloc (.cells #[.int .i64 g1.num, .int .i64 g1.den, .int .i64 g2.num, .int .i64 g2.den] 34)
      generalize (w3.alloc (.cells #[.int .i64 g1.num, .int .i64 g1.den, .int .i64 g2.num, .int .i64 g2.den] 34)) = Wbg at *
      obtain ⟨gbg, hgbg⟩ : ∃ g, w3.heap.size = g := ⟨_, rfl⟩
      rw [hgbg] at bg
      try rw [hgbg]
      clear hgbg
      refine (HGb.out Wbg _ hY).mono ?_
      rintro e w4 ⟨rfl, hb⟩
      replace hC : Below w.heap.size w w4 := hC.trans (hb.mono hC.size)
      replace hX := (RS.below hX hb).more hb.size
      replace hY := (RS.below hY hb).more hb.size
      replace ba := ba.below hb ba.lt
      replace bb := bb.below hb bb.lt
      replace bg := bg.below hb bg.lt
      clear hb
      go_wp2_with fail
      have bh : BK (w4.alloc (.cells #[.int .i64 g1.num, .int .i64 g1.den, .int .i64 g2.num, .int .i64 g2.den] 34)) w4.heap.size #[.int .i64 g1.num, .int .i64 g1.den, .int .i64 g2.num, .int .i64 g2.den] 34 := BK.new _ _ _
      replace hC : Below w.heap.size w (w4.alloc (.cells #[.int .i64 g1.num, .int .i64 g1.den, .int .i64 g2.num, .int .i64 g2.den] 34)) := Below.alloc hC hC.size _
      replace hX := (RS.below hX (w' := (w4.alloc (.cells #[.int .i64 g1.num, .int .i64 g1.den, .int .i64 g2.num, .int .i64 g2.den] 34))) (Below.alloc (Below.refl _ _) (Nat.le_refl _) _)).more (B' := (w4.alloc (.cells #[.int .i64 g1.num, .int .i64 g1.den, .int .i64 g2.num, .int .i64 g2.den] 34)).heap.size) (by simp)
      replace hY := (RS.below hY (w' := (w4.alloc (.cells #[.int .i64 g1.num, .int .i64 g1.den, .int .i64 g2.num, .int .i64 g2.den] 34))) (Below.alloc (Below.refl _ _) (Nat.le_refl _) _)).more (B' := (w4.alloc (.cells #[.int .i64 g1.num, .int .i64 g1.den, .int .i64 g2.num, .int .i64 g2.den] 34)).heap.size) (by simp)
      replace ba := ba.alloc (.cells #[.int .i64 g1.num, .int .i64 g1.den, .int .i64 g2.num, .int .i64 g2.den] 34)
      replace bb := bb.alloc (.cells #[.int .i64 g1.num, .int .i64 g1.den, .int .i64 g2.num, .int .i64 g2.den] 34)
      replace bg := bg.alloc (.cells #[.int .i64 g1.num, .int .i64 g1.den, .int .i64 g2.num, .int .i64 g2.den] 34)
      generalize (w4.alloc (.cells #[.int .i64 g1.num, .int .i64 g1.den, .int .i64 g2.num, .int .i64 g2.den] 34)) = Wbh at *
      obtain ⟨gbh, hgbh⟩ : ∃ g, w4.heap.size = g := ⟨_, rfl⟩
      rw [hgbh] at bh
      try rw [hgbh]
      clear hgbh
      have ww1 := WW1.out
      have ww3 := WW3.out
      have lba := ba.lt
      have bac0 := ba.cell 0
      have bac1 := ba.cell 1
      have bac2 := ba.cell 2
      have bac3 := ba.cell 3
      simp at bac0 bac1 bac2 bac3
      have lbb := bb.lt
      have bbc0 := bb.cell 0
      have bbc1 := bb.cell 1
      have bbc2 := bb.cell 2
      have bbc3 := bb.cell 3
      simp at bbc0 bbc1 bbc2 bbc3
      have lbg := bg.lt
      have bgc0 := bg.cell 0
      have bgc1 := bg.cell 1
      have bgc2 := bg.cell 2
      have bgc3 := bg.cell 3
      simp at bgc0 bgc1 bgc2 bgc3
      have lbh := bh.lt
      have bhc0 := bh.cell 0
      have bhc1 := bh.cell 1
      have bhc2 := bh.cell 2
      have bhc3 := bh.cell 3
      simp at bhc0 bhc1 bhc2 bhc3
      have d0v : Below Wbh.heap.size Wbh Wbh.drew := by exact bel_of
      refine wp_region_noPanic (plain_any [0, 1, 2, 3, 4, 5, 6, 7, 8, 9, 10, 11, 12, 13, 14, 15, 16, 17, 18, 19, 20, 21, 22, 23, 24, 25, 27, 28, 29, 30, 31, 32, 33, 34, 35, 36, 37, 38, 40, 41] (Below Wbh.heap.size Wbh) mixed ?_)
      (refine any_take 0 ?_ (by rfl) (by kernel_rfl) (fun _ _ _ _ _ hx => hx.elim) (.inl ⟨by rfl, ?_⟩) (by with_reducible assumption) ?_; rotate_left; (intro X hX; obtain ⟨r1, r2⟩ := Below.rules hX; clear hX; go_simp; rfl); simp only [List.getElem_toArray, List.getElem_cons_succ, List.getElem_cons_zero, Act.put, List.setIfInBounds_toArray, List.set_cons_succ, List.set_cons_zero])
      (refine any_take 1 ?_ (by rfl) (by kernel_rfl) (fun _ _ _ _ _ hx => hx.elim) (.inl ⟨by rfl, ?_⟩) (by with_reducible assumption) ?_; rotate_left; (intro X hX; obtain ⟨r1, r2⟩ := Below.rules hX; clear hX; go_simp; rfl); simp only [List.getElem_toArray, List.getElem_cons_succ, List.getElem_cons_zero, Act.put, List.setIfInBounds_toArray, List.set_cons_succ, List.set_cons_zero])
      (refine any_take 2 ?_ (by rfl) (by kernel_rfl) (fun _ _ _ _ _ hx => hx.elim) (.inl ⟨by rfl, ?_⟩) (by with_reducible assumption) ?_; rotate_left; (intro X hX; obtain ⟨r1, r2⟩ := Below.rules hX; clear hX; go_simp; rfl); simp only [List.getElem_toArray, List.getElem_cons_succ, List.getElem_cons_zero, Act.put, List.setIfInBounds_toArray, List.set_cons_succ, List.set_cons_zero])
      (refine any_take 3 ?_ (by rfl) (by kernel_rfl) (fun _ _ _ _ _ hx => hx.elim) (.inl ⟨by rfl, ?_⟩) (by with_reducible assumption) ?_; rotate_left; (intro X hX; obtain ⟨r1, r2⟩ := Below.rules hX; clear hX; go_simp; rfl); simp only [List.getElem_toArray, List.getElem_cons_succ, List.getElem_cons_zero, Act.put, List.setIfInBounds_toArray, List.set_cons_succ, List.set_cons_zero])
      (refine any_take 4 ?_ (by rfl) (by kernel_rfl) (fun _ _ _ _ _ hx => hx.elim) (.inl ⟨by rfl, ?_⟩) (by with_reducible assumption) ?_; rotate_left; (intro X hX; obtain ⟨r1, r2⟩ := Below.rules hX; clear hX; go_simp; rfl); simp only [List.getElem_toArray, List.getElem_cons_succ, List.getElem_cons_zero, Act.put, List.setIfInBounds_toArray, List.set_cons_succ, List.set_cons_zero])
      (refine any_take 5 ?_ (by rfl) (by kernel_rfl) (fun _ _ _ _ _ hx => hx.elim) (.inl ⟨by rfl, ?_⟩) (by with_reducible assumption) ?_; rotate_left; (intro X hX; obtain ⟨r1, r2⟩ := Below.rules hX; clear hX; go_simp; rfl); simp only [List.getElem_toArray, List.getElem_cons_succ, List.getElem_cons_zero, Act.put, List.setIfInBounds_toArray, List.set_cons_succ, List.set_cons_zero])
      (refine any_take 6 ?_ (by rfl) (by kernel_rfl) (fun _ _ _ _ _ hx => hx.elim) (.inl ⟨by rfl, ?_⟩) (by with_reducible assumption) ?_; rotate_left; (intro X hX; obtain ⟨r1, r2⟩ := Below.rules hX; clear hX; go_simp; rfl); simp only [List.getElem_toArray, List.getElem_cons_succ, List.getElem_cons_zero, Act.put, List.setIfInBounds_toArray, List.set_cons_succ, List.set_cons_zero])
      (refine any_take 7 ?_ (by rfl) (by kernel_rfl) (fun _ _ _ _ _ hx => hx.elim) (.inl ⟨by rfl, ?_⟩) (by with_reducible assumption) ?_; rotate_left; (intro X hX; obtain ⟨r1, r2⟩ := Below.rules hX; clear hX; go_simp; rfl); simp only [List.getElem_toArray, List.getElem_cons_succ, List.getElem_cons_zero, Act.put, List.setIfInBounds_toArray, List.set_cons_succ, List.set_cons_zero])
      (refine any_take 8 ?_ (by rfl) (by kernel_rfl) (fun _ _ _ _ _ hx => hx.elim) (.inl ⟨by rfl, ?_⟩) (by with_reducible assumption) ?_; rotate_left; (intro X hX; obtain ⟨r1, r2⟩ := Below.rules hX; clear hX; go_simp; rfl); simp only [List.getElem_toArray, List.getElem_cons_succ, List.getElem_cons_zero, Act.put, List.setIfInBounds_toArray, List.set_cons_succ, List.set_cons_zero])
      (refine any_take 9 ?_ (by rfl) (by kernel_rfl) (fun _ _ _ _ _ hx => hx.elim) (.inl ⟨by rfl, ?_⟩) (by with_reducible assumption) ?_; rotate_left; (intro X hX; obtain ⟨r1, r2⟩ := Below.rules hX; clear hX; go_simp; rfl); simp only [List.getElem_toArray, List.getElem_cons_succ, List.getElem_cons_zero, Act.put, List.setIfInBounds_toArray, List.set_cons_succ, List.set_cons_zero])
      (refine any_take 10 ?_ (by rfl) (by kernel_rfl) (fun _ _ _ _ _ hx => hx.elim) (.inl ⟨by rfl, ?_⟩) (by with_reducible assumption) ?_; rotate_left; (intro X hX; obtain ⟨r1, r2⟩ := Below.rules hX; clear hX; go_simp; rfl); simp only [List.getElem_toArray, List.getElem_cons_succ, List.getElem_cons_zero, Act.put, List.setIfInBounds_toArray, List.set_cons_succ, List.set_cons_zero])
      (refine any_take 11 ?_ (by rfl) (by kernel_rfl) (fun _ _ _ _ _ hx => hx.elim) (.inl ⟨by rfl, ?_⟩) (by with_reducible assumption) ?_; rotate_left; (intro X hX; obtain ⟨r1, r2⟩ := Below.rules hX; clear hX; go_simp; rfl); simp only [List.getElem_toArray, List.getElem_cons_succ, List.getElem_cons_zero, Act.put, List.setIfInBounds_toArray, List.set_cons_succ, List.set_cons_zero])
      (refine any_take 12 ?_ (by rfl) (by kernel_rfl) (fun _ _ _ _ _ hx => hx.elim) (.inl ⟨by rfl, ?_⟩) (by with_reducible assumption) ?_; rotate_left; (intro X hX; obtain ⟨r1, r2⟩ := Below.rules hX; clear hX; go_simp; rfl); simp only [List.getElem_toArray, List.getElem_cons_succ, List.getElem_cons_zero, Act.put, List.setIfInBounds_toArray, List.set_cons_succ, List.set_cons_zero])
      (refine any_take 13 ?_ (by rfl) (by kernel_rfl) (fun _ _ _ _ _ hx => hx.elim) (.inl ⟨by rfl, ?_⟩) (by with_reducible assumption) ?_; rotate_left; (intro X hX; obtain ⟨r1, r2⟩ := Below.rules hX; clear hX; go_simp; rfl); simp only [List.getElem_toArray, List.getElem_cons_succ, List.getElem_cons_zero, Act.put, List.setIfInBounds_toArray, List.set_cons_succ, List.set_cons_zero])
      (refine any_take 14 ?_ (by rfl) (by kernel_rfl) (fun _ _ _ _ _ hx => hx.elim) (.inl ⟨by rfl, ?_⟩) (by with_reducible assumption) ?_; rotate_left; (intro X hX; obtain ⟨r1, r2⟩ := Below.rules hX; clear hX; go_simp; rfl); simp only [List.getElem_toArray, List.getElem_cons_succ, List.getElem_cons_zero, Act.put, List.setIfInBounds_toArray, List.set_cons_succ, List.set_cons_zero])
      (refine any_take 15 ?_ (by rfl) (by kernel_rfl) (fun _ _ _ _ _ hx => hx.elim) (.inl ⟨by rfl, ?_⟩) (by with_reducible assumption) ?_; rotate_left; (intro X hX; obtain ⟨r1, r2⟩ := Below.rules hX; clear hX; go_simp; rfl); simp only [List.getElem_toArray, List.getElem_cons_succ, List.getElem_cons_zero, Act.put, List.setIfInBounds_toArray, List.set_cons_succ, List.set_cons_zero])
      (refine any_take 16 ?_ (by rfl) (by kernel_rfl) (fun _ _ _ _ _ hx => hx.elim) (.inl ⟨by rfl, ?_⟩) (by with_reducible assumption) ?_; rotate_left; (intro X hX; obtain ⟨r1, r2⟩ := Below.rules hX; clear hX; go_simp; rfl); simp only [List.getElem_toArray, List.getElem_cons_succ, List.getElem_cons_zero, Act.put, List.setIfInBounds_toArray, List.set_cons_succ, List.set_cons_zero])
      (refine any_take 17 ?_ (by rfl) (by kernel_rfl) (fun _ _ _ _ _ hx => hx.elim) (.inl ⟨by rfl, ?_⟩) (by with_reducible assumption) ?_; rotate_left; (intro X hX; obtain ⟨r1, r2⟩ := Below.rules hX; clear hX; go_simp; rfl); simp only [List.getElem_toArray, List.getElem_cons_succ, List.getElem_cons_zero, Act.put, List.setIfInBounds_toArray, List.set_cons_succ, List.set_cons_zero])
      (refine any_take 18 ?_ (by rfl) (by kernel_rfl) (fun _ _ _ _ _ hx => hx.elim) (.inl ⟨by rfl, ?_⟩) (by with_reducible assumption) ?_; rotate_left; (intro X hX; obtain ⟨r1, r2⟩ := Below.rules hX; clear hX; go_simp; rfl); simp only [List.getElem_toArray, List.getElem_cons_succ, List.getElem_cons_zero, Act.put, List.setIfInBounds_toArray, List.set_cons_succ, List.set_cons_zero])
      (refine any_take 19 ?_ (by rfl) (by kernel_rfl) (fun _ _ _ _ _ hx => hx.elim) (.inl ⟨by rfl, ?_⟩) (by with_reducible assumption) ?_; rotate_left; (intro X hX; obtain ⟨r1, r2⟩ := Below.rules hX; clear hX; go_simp; rfl); simp only [List.getElem_toArray, List.getElem_cons_succ, List.getElem_cons_zero, Act.put, List.setIfInBounds_toArray, List.set_cons_succ, List.set_cons_zero])
      (refine any_take 20 ?_ (by rfl) (by kernel_rfl) (fun _ _ _ _ _ hx => hx.elim) (.inl ⟨by rfl, ?_⟩) (by with_reducible assumption) ?_; rotate_left; (intro X hX; obtain ⟨r1, r2⟩ := Below.rules hX; clear hX; go_simp; rfl); simp only [List.getElem_toArray, List.getElem_cons_succ, List.getElem_cons_zero, Act.put, List.setIfInBounds_toArray, List.set_cons_succ, List.set_cons_zero])
      (refine any_take 21 ?_ (by rfl) (by kernel_rfl) (fun _ _ _ _ _ hx => hx.elim) (.inl ⟨by rfl, ?_⟩) (by with_reducible assumption) ?_; rotate_left; (intro X hX; obtain ⟨r1, r2⟩ := Below.rules hX; clear hX; go_simp; rfl); simp only [List.getElem_toArray, List.getElem_cons_succ, List.getElem_cons_zero, Act.put, List.setIfInBounds_toArray, List.set_cons_succ, List.set_cons_zero])
      (refine any_take 22 ?_ (by rfl) (by kernel_rfl) (fun _ _ _ _ _ hx => hx.elim) (.inl ⟨by rfl, ?_⟩) (by with_reducible assumption) ?_; rotate_left; (intro X hX; obtain ⟨r1, r2⟩ := Below.rules hX; clear hX; go_simp; rfl); simp only [List.getElem_toArray, List.getElem_cons_succ, List.getElem_cons_zero, Act.put, List.setIfInBounds_toArray, List.set_cons_succ, List.set_cons_zero])
      (refine any_take 23 ?_ (by rfl) (by kernel_rfl) (fun _ _ _ _ _ hx => hx.elim) (.inl ⟨by rfl, ?_⟩) (by with_reducible assumption) ?_; rotate_left; (intro X hX; obtain ⟨r1, r2⟩ := Below.rules hX; clear hX; go_simp; rfl); simp only [List.getElem_toArray, List.getElem_cons_succ, List.getElem_cons_zero, Act.put, List.setIfInBounds_toArray, List.set_cons_succ, List.set_cons_zero])
      (refine any_take 24 ?_ (by rfl) (by kernel_rfl) (fun _ _ _ _ _ hx => hx.elim) (.inl ⟨by rfl, ?_⟩) (by with_reducible assumption) ?_; rotate_left; (intro X hX; obtain ⟨r1, r2⟩ := Below.rules hX; clear hX; go_simp; rfl); simp only [List.getElem_toArray, List.getElem_cons_succ, List.getElem_cons_zero, Act.put, List.setIfInBounds_toArray, List.set_cons_succ, List.set_cons_zero])
      (refine any_take 25 ?_ (by rfl) (by kernel_rfl) (fun _ _ _ _ _ hx => hx.elim) (.inl ⟨by rfl, ?_⟩) (by with_reducible assumption) ?_; rotate_left; (intro X hX; obtain ⟨r1, r2⟩ := Below.rules hX; clear hX; go_simp; rfl); simp only [List.getElem_toArray, List.getElem_cons_succ, List.getElem_cons_zero, Act.put, List.setIfInBounds_toArray, List.set_cons_succ, List.set_cons_zero])
      have dv1 : Below Wbh.heap.size Wbh Wbh.drew := by exact bel_of
      have hdr : Below Wbh.heap.size Wbh Wbh.drew := Below.drew (Below.refl _ _)
      replace ba := ba.below hdr ba.lt
      replace bb := bb.below hdr bb.lt
      replace bg := bg.below hdr bg.lt
      replace bh := bh.below hdr bh.lt
      replace hX := (RS.below hX hdr).more hdr.size
      replace hY := (RS.below hY hdr).more hdr.size
      clear hdr
      generalize Wbh.drew = uv2 at *
      refine any_run1 (i := 26) (by kernel_rfl) (by rfl) (by kernel_rfl) ?_
      intro K hK
      have qv5 := dv1.size
      go_wp2_with fail
      refine (of_any (-a3) a4 _).mono ?_
      rintro e vv4 ⟨rfl, hb⟩
      have hb2 : Below uv2.heap.size uv2 vv4 := by rw [← hb]; exact bel_of
      clear hb
      have hb := hb2
      clear hb2
      have ev3 : Below Wbh.heap.size Wbh vv4 := dv1.trans (hb.mono dv1.size)
      replace ba := ba.below hb ba.lt
      replace bb := bb.below hb bb.lt
      replace bg := bg.below hb bg.lt
      replace bh := bh.below hb bh.lt
      replace hX := (RS.below hX hb).more hb.size
      replace hY := (RS.below hY hb).more hb.size
      clear hb
      refine hK _ _ (fun _ => ev3) ?_
      clear hK K
      (refine any_take 27 ?_ (by rfl) (by kernel_rfl) (fun _ _ _ _ _ hx => hx.elim) (.inl ⟨by rfl, ?_⟩) (by with_reducible assumption) ?_; rotate_left; (intro X hX; obtain ⟨r1, r2⟩ := Below.rules hX; clear hX; go_simp; rfl); simp only [List.getElem_toArray, List.getElem_cons_succ, List.getElem_cons_zero, Act.put, List.setIfInBounds_toArray, List.set_cons_succ, List.set_cons_zero])
      (refine any_take 28 ?_ (by rfl) (by kernel_rfl) (fun _ _ _ _ _ hx => hx.elim) (.inl ⟨by rfl, ?_⟩) (by with_reducible assumption) ?_; rotate_left; (intro X hX; obtain ⟨r1, r2⟩ := Below.rules hX; clear hX; go_simp; rfl); simp only [List.getElem_toArray, List.getElem_cons_succ, List.getElem_cons_zero, Act.put, List.setIfInBounds_toArray, List.set_cons_succ, List.set_cons_zero])
      (refine any_take 29 ?_ (by rfl) (by kernel_rfl) (fun _ _ _ _ _ hx => hx.elim) (.inl ⟨by rfl, ?_⟩) (by with_reducible assumption) ?_; rotate_left; (intro X hX; obtain ⟨r1, r2⟩ := Below.rules hX; clear hX; go_simp; rfl); simp only [List.getElem_toArray, List.getElem_cons_succ, List.getElem_cons_zero, Act.put, List.setIfInBounds_toArray, List.set_cons_succ, List.set_cons_zero])
      (refine any_take 30 ?_ (by rfl) (by kernel_rfl) (fun _ _ _ _ _ hx => hx.elim) (.inl ⟨by rfl, ?_⟩) (by with_reducible assumption) ?_; rotate_left; (intro X hX; obtain ⟨r1, r2⟩ := Below.rules hX; clear hX; go_simp; rfl); simp only [List.getElem_toArray, List.getElem_cons_succ, List.getElem_cons_zero, Act.put, List.setIfInBounds_toArray, List.set_cons_succ, List.set_cons_zero])
      (refine any_take 31 ?_ (by rfl) (by kernel_rfl) (fun _ _ _ _ _ hx => hx.elim) (.inl ⟨by rfl, ?_⟩) (by with_reducible assumption) ?_; rotate_left; (intro X hX; obtain ⟨r1, r2⟩ := Below.rules hX; clear hX; go_simp; rfl); simp only [List.getElem_toArray, List.getElem_cons_succ, List.getElem_cons_zero, Act.put, List.setIfInBounds_toArray, List.set_cons_succ, List.set_cons_zero])
      (refine any_take 32 ?_ (by rfl) (by kernel_rfl) (fun _ _ _ _ _ hx => hx.elim) (.inl ⟨by rfl, ?_⟩) (by with_reducible assumption) ?_; rotate_left; (intro X hX; obtain ⟨r1, r2⟩ := Below.rules hX; clear hX; go_simp; rfl); simp only [List.getElem_toArray, List.getElem_cons_succ, List.getElem_cons_zero, Act.put, List.setIfInBounds_toArray, List.set_cons_succ, List.set_cons_zero])
      (refine any_take 33 ?_ (by rfl) (by kernel_rfl) (fun _ _ _ _ _ hx => hx.elim) (.inl ⟨by rfl, ?_⟩) (by with_reducible assumption) ?_; rotate_left; (intro X hX; obtain ⟨r1, r2⟩ := Below.rules hX; clear hX; go_simp; rfl); simp only [List.getElem_toArray, List.getElem_cons_succ, List.getElem_cons_zero, Act.put, List.setIfInBounds_toArray, List.set_cons_succ, List.set_cons_zero])
      (refine any_take 34 ?_ (by rfl) (by kernel_rfl) (fun _ _ _ _ _ hx => hx.elim) (.inl ⟨by rfl, ?_⟩) (by with_reducible assumption) ?_; rotate_left; (intro X hX; obtain ⟨r1, r2⟩ := Below.rules hX; clear hX; go_simp; rfl); simp only [List.getElem_toArray, List.getElem_cons_succ, List.getElem_cons_zero, Act.put, List.setIfInBounds_toArray, List.set_cons_succ, List.set_cons_zero])
      (refine any_take 35 ?_ (by rfl) (by kernel_rfl) (fun _ _ _ _ _ hx => hx.elim) (.inl ⟨by rfl, ?_⟩) (by with_reducible assumption) ?_; rotate_left; (intro X hX; obtain ⟨r1, r2⟩ := Below.rules hX; clear hX; go_simp; rfl); simp only [List.getElem_toArray, List.getElem_cons_succ, List.getElem_cons_zero, Act.put, List.setIfInBounds_toArray, List.set_cons_succ, List.set_cons_zero])
      (refine any_take 36 ?_ (by rfl) (by kernel_rfl) (fun _ _ _ _ _ hx => hx.elim) (.inl ⟨by rfl, ?_⟩) (by with_reducible assumption) ?_; rotate_left; (intro X hX; obtain ⟨r1, r2⟩ := Below.rules hX; clear hX; go_simp; rfl); simp only [List.getElem_toArray, List.getElem_cons_succ, List.getElem_cons_zero, Act.put, List.setIfInBounds_toArray, List.set_cons_succ, List.set_cons_zero])
      (refine any_take 37 ?_ (by rfl) (by kernel_rfl) (fun _ _ _ _ _ hx => hx.elim) (.inl ⟨by rfl, ?_⟩) (by with_reducible assumption) ?_; rotate_left; (intro X hX; obtain ⟨r1, r2⟩ := Below.rules hX; clear hX; go_simp; rfl); simp only [List.getElem_toArray, List.getElem_cons_succ, List.getElem_cons_zero, Act.put, List.setIfInBounds_toArray, List.set_cons_succ, List.set_cons_zero])
      (refine any_take 38 ?_ (by rfl) (by kernel_rfl) (fun _ _ _ _ _ hx => hx.elim) (.inl ⟨by rfl, ?_⟩) (by with_reducible assumption) ?_; rotate_left; (intro X hX; obtain ⟨r1, r2⟩ := Below.rules hX; clear hX; go_simp; rfl); simp only [List.getElem_toArray, List.getElem_cons_succ, List.getElem_cons_zero, Act.put, List.setIfInBounds_toArray, List.set_cons_succ, List.set_cons_zero])
      refine any_run1 (i := 39) (by kernel_rfl) (by rfl) (by kernel_rfl) ?_
      intro K hK
      have qv8 := ev3.size
      go_wp2_with fail
      refine (of_any (-a1) a2 _).mono ?_
      rintro e vv7 ⟨rfl, hb⟩
      have hb2 : Below vv4.heap.size vv4 vv7 := by rw [← hb]; exact bel_of
      clear hb
      have hb := hb2
      clear hb2
      have ev6 : Below Wbh.heap.size Wbh vv7 := ev3.trans (hb.mono ev3.size)
      replace ba := ba.below hb ba.lt
      replace bb := bb.below hb bb.lt
      replace bg := bg.below hb bg.lt
      replace bh := bh.below hb bh.lt
      replace hX := (RS.below hX hb).more hb.size
      replace hY := (RS.below hY hb).more hb.size
      clear hb
      refine hK _ _ (fun _ => ev6) ?_
      clear hK K
      (refine any_take 40 ?_ (by rfl) (by kernel_rfl) (fun _ _ _ _ _ hx => hx.elim) (.inl ⟨by rfl, ?_⟩) (by with_reducible assumption) ?_; rotate_left; (intro X hX; obtain ⟨r1, r2⟩ := Below.rules hX; clear hX; go_simp; rfl); simp only [List.getElem_toArray, List.getElem_cons_succ, List.getElem_cons_zero, Act.put, List.setIfInBounds_toArray, List.set_cons_succ, List.set_cons_zero])
      (refine any_take 41 ?_ (by rfl) (by kernel_rfl) (fun _ _ _ _ _ hx => hx.elim) (.inl ⟨by rfl, ?_⟩) (by with_reducible assumption) ?_; rotate_left; (intro X hX; obtain ⟨r1, r2⟩ := Below.rules hX; clear hX; go_simp; rfl); simp only [List.getElem_toArray, List.getElem_cons_succ, List.getElem_cons_zero, Act.put, List.setIfInBounds_toArray, List.set_cons_succ, List.set_cons_zero])
      refine any_done (by kernel_rfl) (NoPanic.normal ?_)
      go_wp2_with fail
      clear ww1 ww3
      clear lba bac0 bac1 bac2 bac3
      clear lbb bbc0 bbc1 bbc2 bbc3
      clear lbg bgc0 bgc1 bgc2 bgc3
      clear lbh bhc0 bhc1 bhc2 bhc3
      have hC2 : Below w.heap.size w vv7 := hC.trans (ev6.mono hC.size)
      clear hC; have hC := hC2; clear hC2
      clear bb bh hY
      by_cases hfx : checkPair (Ma.tlt l m) = 0
      ·skip
       have hq := HFx.out vv7 _ hX
       rw [show fineB (Ma.tlt l m) = true from decide_eq_true hfx] at hq
       have HQ := Lib.hid hq
       have HFX := Lib.hid hfx
       clear hq hfx
       refine (HQ.out).mono ?_
       rintro e w5 ⟨rfl, hb⟩
       replace hC : Below w.heap.size w w5 := hC.trans (hb.mono hC.size)
       replace ba := ba.below hb ba.lt
       replace bg := bg.below hb bg.lt
       replace hX := (RS.below hX hb).more hb.size
       clear hb
       generalize kindsP l = ks at *
       rcases HE2.out with he | he
       ·skip
        have hMv := HMov.out HFX.out he
        obtain ⟨x1, x2, x3, x4, hcx, hmv⟩ := hMv
        have hcc := HCx.out w5 _ hX
        rw [hcx] at hcc
        have HCXX := Lib.hid hcc
        subst he
        have HMV := Lib.hid hmv
        clear hcc hcx hmv HNot HZ
        go_wp2_with fail
        refine (HCXX.out).mono ?_
        rintro e w6 ⟨rfl, hb⟩
        replace hC : Below w.heap.size w w6 := hC.trans (hb.mono hC.size)
        replace ba := ba.below hb ba.lt
        replace bg := bg.below hb bg.lt
        replace hX := (RS.below hX hb).more hb.size
        clear hb
        go_wp2_with fail
        have bd : BK (w6.alloc (.cells #[.int .i64 x1, .int .i64 x2, .int .i64 x3, .int .i64 x4] 34)) w6.heap.size #[.int .i64 x1, .int .i64 x2, .int .i64 x3, .int .i64 x4] 34 := BK.new _ _ _
        replace hC : Below w.heap.size w (w6.alloc (.cells #[.int .i64 x1, .int .i64 x2, .int .i64 x3, .int .i64 x4] 34)) := Below.alloc hC hC.size _
        replace ba := ba.alloc (.cells #[.int .i64 x1, .int .i64 x2, .int .i64 x3, .int .i64 x4] 34)
        replace bg := bg.alloc (.cells #[.int .i64 x1, .int .i64 x2, .int .i64 x3, .int .i64 x4] 34)
        replace hX := (RS.below hX (w' := (w6.alloc (.cells #[.int .i64 x1, .int .i64 x2, .int .i64 x3, .int .i64 x4] 34))) (Below.alloc (Below.refl _ _) (Nat.le_refl _) _)).more (B' := (w6.alloc (.cells #[.int .i64 x1, .int .i64 x2, .int .i64 x3, .int .i64 x4] 34)).heap.size) (by simp)
        generalize (w6.alloc (.cells #[.int .i64 x1, .int .i64 x2, .int .i64 x3, .int .i64 x4] 34)) = Wbd at *
        obtain ⟨gbd, hgbd⟩ : ∃ g, w6.heap.size = g := ⟨_, rfl⟩
        rw [hgbd] at bd
        try rw [hgbd]
        clear hgbd
        refine (HKl.out Wbd hC).mono ?_
        rintro e w7 ⟨vk, rfl, hk, hb⟩
        replace hC : Below w.heap.size w w7 := hC.trans (hb.mono hC.size)
        replace ba := ba.below hb ba.lt
        replace bg := bg.below hb bg.lt
        replace hX := (RS.below hX hb).more hb.size
        replace bd := bd.below hb bd.lt
        clear hb
        go_wp2_with fail
        refine (HKx.out HFX.out w7 _ hX).mono ?_
        rintro e w8 ⟨vq, rfl, hq, hb⟩
        replace hC : Below w.heap.size w w8 := hC.trans (hb.mono hC.size)
        replace ba := ba.below hb ba.lt
        replace bg := bg.below hb bg.lt
        replace hX := (RS.below hX hb).more hb.size
        replace bd := bd.below hb bd.lt
        replace hk := (RS.below hk hb).more hb.size
        clear hb
        go_wp2_with fail
        refine (HWl.out w8 hC).mono ?_
        rintro e w9 ⟨rfl, hb⟩
        replace hC : Below w.heap.size w w9 := hC.trans (hb.mono hC.size)
        replace ba := ba.below hb ba.lt
        replace bg := bg.below hb bg.lt
        replace hX := (RS.below hX hb).more hb.size
        replace bd := bd.below hb bd.lt
        replace hk := (RS.below hk hb).more hb.size
        replace hq := (RS.below hq hb).more hb.size
        clear hb
        go_wp2_with fail
        have bu : BK (w9.alloc (.cells #[.int .i64 u1, .int .i64 u2, .int .i64 u3] 44)) w9.heap.size #[.int .i64 u1, .int .i64 u2, .int .i64 u3] 44 := BK.new _ _ _
        replace hC : Below w.heap.size w (w9.alloc (.cells #[.int .i64 u1, .int .i64 u2, .int .i64 u3] 44)) := Below.alloc hC hC.size _
        replace ba := ba.alloc (.cells #[.int .i64 u1, .int .i64 u2, .int .i64 u3] 44)
        replace bg := bg.alloc (.cells #[.int .i64 u1, .int .i64 u2, .int .i64 u3] 44)
        replace hX := (RS.below hX (w' := (w9.alloc (.cells #[.int .i64 u1, .int .i64 u2, .int .i64 u3] 44))) (Below.alloc (Below.refl _ _) (Nat.le_refl _) _)).more (B' := (w9.alloc (.cells #[.int .i64 u1, .int .i64 u2, .int .i64 u3] 44)).heap.size) (by simp)
        replace bd := bd.alloc (.cells #[.int .i64 u1, .int .i64 u2, .int .i64 u3] 44)
        replace hk := (RS.below hk (w' := (w9.alloc (.cells #[.int .i64 u1, .int .i64 u2, .int .i64 u3] 44))) (Below.alloc (Below.refl _ _) (Nat.le_refl _) _)).more (B' := (w9.alloc (.cells #[.int .i64 u1, .int .i64 u2, .int .i64 u3] 44)).heap.size) (by simp)
        replace hq := (RS.below hq (w' := (w9.alloc (.cells #[.int .i64 u1, .int .i64 u2, .int .i64 u3] 44))) (Below.alloc (Below.refl _ _) (Nat.le_refl _) _)).more (B' := (w9.alloc (.cells #[.int .i64 u1, .int .i64 u2, .int .i64 u3] 44)).heap.size) (by simp)
        generalize (w9.alloc (.cells #[.int .i64 u1, .int .i64 u2, .int .i64 u3] 44)) = Wbu at *
        obtain ⟨gbu, hgbu⟩ : ∃ g, w9.heap.size = g := ⟨_, rfl⟩
        rw [hgbu] at bu
        try rw [hgbu]
        clear hgbu
        refine (HWx.out HFX.out Wbu _ hX).mono ?_
        rintro e w10 ⟨rfl, hb⟩
        replace hC : Below w.heap.size w w10 := hC.trans (hb.mono hC.size)
        replace ba := ba.below hb ba.lt
        replace bg := bg.below hb bg.lt
        replace hX := (RS.below hX hb).more hb.size
        replace bd := bd.below hb bd.lt
        replace hk := (RS.below hk hb).more hb.size
        replace hq := (RS.below hq hb).more hb.size
        replace bu := bu.below hb bu.lt
        clear hb
        go_wp2_with fail
        have bv : BK (w10.alloc (.cells #[.int .i64 u1, .int .i64 u2, .int .i64 u3] 44)) w10.heap.size #[.int .i64 u1, .int .i64 u2, .int .i64 u3] 44 := BK.new _ _ _
        replace hC : Below w.heap.size w (w10.alloc (.cells #[.int .i64 u1, .int .i64 u2, .int .i64 u3] 44)) := Below.alloc hC hC.size _
        replace ba := ba.alloc (.cells #[.int .i64 u1, .int .i64 u2, .int .i64 u3] 44)
        replace bg := bg.alloc (.cells #[.int .i64 u1, .int .i64 u2, .int .i64 u3] 44)
        replace hX := (RS.below hX (w' := (w10.alloc (.cells #[.int .i64 u1, .int .i64 u2, .int .i64 u3] 44))) (Below.alloc (Below.refl _ _) (Nat.le_refl _) _)).more (B' := (w10.alloc (.cells #[.int .i64 u1, .int .i64 u2, .int .i64 u3] 44)).heap.size) (by simp)
        replace bd := bd.alloc (.cells #[.int .i64 u1, .int .i64 u2, .int .i64 u3] 44)
        replace hk := (RS.below hk (w' := (w10.alloc (.cells #[.int .i64 u1, .int .i64 u2, .int .i64 u3] 44))) (Below.alloc (Below.refl _ _) (Nat.le_refl _) _)).more (B' := (w10.alloc (.cells #[.int .i64 u1, .int .i64 u2, .int .i64 u3] 44)).heap.size) (by simp)
        replace hq := (RS.below hq (w' := (w10.alloc (.cells #[.int .i64 u1, .int .i64 u2, .int .i64 u3] 44))) (Below.alloc (Below.refl _ _) (Nat.le_refl _) _)).more (B' := (w10.alloc (.cells #[.int .i64 u1, .int .i64 u2, .int .i64 u3] 44)).heap.size) (by simp)
        replace bu := bu.alloc (.cells #[.int .i64 u1, .int .i64 u2, .int .i64 u3] 44)
        generalize (w10.alloc (.cells #[.int .i64 u1, .int .i64 u2, .int .i64 u3] 44)) = Wbv at *
        obtain ⟨gbv, hgbv⟩ : ∃ g, w10.heap.size = g := ⟨_, rfl⟩
        rw [hgbv] at bv
        try rw [hgbv]
        clear hgbv
        refine (HGx.out HFX.out Wbv _ hX).mono ?_
        rintro e w11 ⟨rfl, hb⟩
        replace hC : Below w.heap.size w w11 := hC.trans (hb.mono hC.size)
        replace ba := ba.below hb ba.lt
        replace bg := bg.below hb bg.lt
        replace hX := (RS.below hX hb).more hb.size
        replace bd := bd.below hb bd.lt
        replace hk := (RS.below hk hb).more hb.size
        replace hq := (RS.below hq hb).more hb.size
        replace bu := bu.below hb bu.lt
        replace bv := bv.below hb bv.lt
        clear hb
        go_wp2_with fail
        have bk : BK (w11.alloc (.cells #[.int .i64 g1.num, .int .i64 g1.den, .int .i64 g2.num, .int .i64 g2.den] 34)) w11.heap.size #[.int .i64 g1.num, .int .i64 g1.den, .int .i64 g2.num, .int .i64 g2.den] 34 := BK.new _ _ _
        replace hC : Below w.heap.size w (w11.alloc (.cells #[.int .i64 g1.num, .int .i64 g1.den, .int .i64 g2.num, .int .i64 g2.den] 34)) := Below.alloc hC hC.size _
        replace ba := ba.alloc (.cells #[.int .i64 g1.num, .int .i64 g1.den, .int .i64 g2.num, .int .i64 g2.den] 34)
        replace bg := bg.alloc (.cells #[.int .i64 g1.num, .int .i64 g1.den, .int .i64 g2.num, .int .i64 g2.den] 34)
        replace hX := (RS.below hX (w' := (w11.alloc (.cells #[.int .i64 g1.num, .int .i64 g1.den, .int .i64 g2.num, .int .i64 g2.den] 34))) (Below.alloc (Below.refl _ _) (Nat.le_refl _) _)).more (B' := (w11.alloc (.cells #[.int .i64 g1.num, .int .i64 g1.den, .int .i64 g2.num, .int .i64 g2.den] 34)).heap.size) (by simp)
        replace bd := bd.alloc (.cells #[.int .i64 g1.num, .int .i64 g1.den, .int .i64 g2.num, .int .i64 g2.den] 34)
        replace hk := (RS.below hk (w' := (w11.alloc (.cells #[.int .i64 g1.num, .int .i64 g1.den, .int .i64 g2.num, .int .i64 g2.den] 34))) (Below.alloc (Below.refl _ _) (Nat.le_refl _) _)).more (B' := (w11.alloc (.cells #[.int .i64 g1.num, .int .i64 g1.den, .int .i64 g2.num, .int .i64 g2.den] 34)).heap.size) (by simp)
        replace hq := (RS.below hq (w' := (w11.alloc (.cells #[.int .i64 g1.num, .int .i64 g1.den, .int .i64 g2.num, .int .i64 g2.den] 34))) (Below.alloc (Below.refl _ _) (Nat.le_refl _) _)).more (B' := (w11.alloc (.cells #[.int .i64 g1.num, .int .i64 g1.den, .int .i64 g2.num, .int .i64 g2.den] 34)).heap.size) (by simp)
        replace bu := bu.alloc (.cells #[.int .i64 g1.num, .int .i64 g1.den, .int .i64 g2.num, .int .i64 g2.den] 34)
        replace bv := bv.alloc (.cells #[.int .i64 g1.num, .int .i64 g1.den, .int .i64 g2.num, .int .i64 g2.den] 34)
        generalize (w11.alloc (.cells #[.int .i64 g1.num, .int .i64 g1.den, .int .i64 g2.num, .int .i64 g2.den] 34)) = Wbk at *
        obtain ⟨gbk, hgbk⟩ : ∃ g, w11.heap.size = g := ⟨_, rfl⟩
        rw [hgbk] at bk
        try rw [hgbk]
        clear hgbk
        refine (ints_same ks vk vq Wbk hKL.out hk hq).mono ?_
        rintro e w12 ⟨rfl, hb⟩
        replace hC : Below w.heap.size w w12 := hC.trans (hb.mono hC.size)
        replace ba := ba.below hb ba.lt
        replace bg := bg.below hb bg.lt
        replace hX := (RS.below hX hb).more hb.size
        replace bd := bd.below hb bd.lt
        replace hk := (RS.below hk hb).more hb.size
        replace hq := (RS.below hq hb).more hb.size
        replace bu := bu.below hb bu.lt
        replace bv := bv.below hb bv.lt
        replace bk := bk.below hb bk.lt
        clear hb
        clear hk hq hX
        have lba := ba.lt
        have bac0 := ba.cell 0
        have bac1 := ba.cell 1
        have bac2 := ba.cell 2
        have bac3 := ba.cell 3
        simp at bac0 bac1 bac2 bac3
        have lbg := bg.lt
        have bgc0 := bg.cell 0
        have bgc1 := bg.cell 1
        have bgc2 := bg.cell 2
        have bgc3 := bg.cell 3
        simp at bgc0 bgc1 bgc2 bgc3
        have lbd := bd.lt
        have bdc0 := bd.cell 0
        have bdc1 := bd.cell 1
        have bdc2 := bd.cell 2
        have bdc3 := bd.cell 3
        simp at bdc0 bdc1 bdc2 bdc3
        have lbu := bu.lt
        have buc0 := bu.cell 0
        have buc1 := bu.cell 1
        have buc2 := bu.cell 2
        simp at buc0 buc1 buc2
        have lbv := bv.lt
        have bvc0 := bv.cell 0
        have bvc1 := bv.cell 1
        have bvc2 := bv.cell 2
        simp at bvc0 bvc1 bvc2
        have lbk := bk.lt
        have bkc0 := bk.cell 0
        have bkc1 := bk.cell 1
        have bkc2 := bk.cell 2
        have bkc3 := bk.cell 3
        simp at bkc0 bkc1 bkc2 bkc3
        go_wp2_with fail
        clear lba bac0 bac1 bac2 bac3
        clear lbg bgc0 bgc1 bgc2 bgc3
        clear lbd bdc0 bdc1 bdc2 bdc3
        clear lbu buc0 buc1 buc2
        clear lbv bvc0 bvc1 bvc2
        clear lbk bkc0 bkc1 bkc2 bkc3
        clear bg bu bv bk
        refine (smallT HMV.out.1 _).mono ?_
        rintro e w13 ⟨rfl, hb⟩
        replace hC : Below w.heap.size w w13 := hC.trans (hb.mono hC.size)
        replace ba := ba.below hb ba.lt
        replace bd := bd.below hb bd.lt
        clear hb
        have lba := ba.lt
        have bac0 := ba.cell 0
        have bac1 := ba.cell 1
        have bac2 := ba.cell 2
        have bac3 := ba.cell 3
        simp at bac0 bac1 bac2 bac3
        have lbd := bd.lt
        have bdc0 := bd.cell 0
        have bdc1 := bd.cell 1
        have bdc2 := bd.cell 2
        have bdc3 := bd.cell 3
        simp at bdc0 bdc1 bdc2 bdc3
        go_wp2_with fail
        clear lba bac0 bac1 bac2 bac3
        clear lbd bdc0 bdc1 bdc2 bdc3
        refine (smallT HMV.out.2.1 _).mono ?_
        rintro e w14 ⟨rfl, hb⟩
        replace hC : Below w.heap.size w w14 := hC.trans (hb.mono hC.size)
        replace ba := ba.below hb ba.lt
        replace bd := bd.below hb bd.lt
        clear hb
        have lba := ba.lt
        have bac0 := ba.cell 0
        have bac1 := ba.cell 1
        have bac2 := ba.cell 2
        have bac3 := ba.cell 3
        simp at bac0 bac1 bac2 bac3
        have lbd := bd.lt
        have bdc0 := bd.cell 0
        have bdc1 := bd.cell 1
        have bdc2 := bd.cell 2
        have bdc3 := bd.cell 3
        simp at bdc0 bdc1 bdc2 bdc3
        go_wp2_with fail
        have hsm := HMV.out.1
        unfold smallR at hsm
        rw [decide_eq_true_eq] at hsm
        dsimp only at hsm
        have p2 : -128000 ≤ m * a2 ∧ m * a2 ≤ 128000 := by
          constructor
          · have := Int.mul_le_mul_of_nonneg_right hm.1 (show 0 ≤ a2 by omega); omega
          · have := Int.mul_le_mul_of_nonneg_right hm.2 (show 0 ≤ a2 by omega); omega
        have p4 : -128000 ≤ m * a4 ∧ m * a4 ≤ 128000 := by
          constructor
          · have := Int.mul_le_mul_of_nonneg_right hm.1 (show 0 ≤ a4 by omega); omega
          · have := Int.mul_le_mul_of_nonneg_right hm.2 (show 0 ≤ a4 by omega); omega
        have wz0 : IntKind.i64.wrap m = m := by rw [IntKind.wrap_i64]; omega
        have wz1 : IntKind.i64.wrap (m * a2) = m * a2 := by rw [IntKind.wrap_i64]; omega
        have wz2 : IntKind.i64.wrap (a1 + m * a2) = a1 + m * a2 := by rw [IntKind.wrap_i64]; omega
        have wz3 : IntKind.i64.wrap (m * a4) = m * a4 := by rw [IntKind.wrap_i64]; omega
        have wz4 : IntKind.i64.wrap (a3 + m * a4) = a3 + m * a4 := by rw [IntKind.wrap_i64]; omega
        clear hsm p2 p4
        apply region_cut (R := fun x y W => Below w.heap.size w W ∧ BK W gbd #[.int .i64 x1, .int .i64 x2, .int .i64 x3, .int .i64 x4] 34 ∧ BK W x #[.int .i64 (a1 + m * a2), .int .i64 a2] 25 ∧ BK W y #[.int .i64 (a3 + m * a4), .int .i64 a4] 25 ∧ w.heap.size ≤ x ∧ w.heap.size ≤ y ∧ gbd ≠ x ∧ gbd ≠ y ∧ x ≠ y)
        case h =>
         have bdk := bd
         have d0k : Below w14.heap.size w14 w14.drew := by exact bel_of
         refine wp_region_noPanic (plain_any [0, 1, 2, 3, 4, 5, 6, 7, 8, 9, 10, 11, 12, 14, 15, 16, 17, 18, 19, 20, 21, 22, 23, 24, 25, 26] (Below w14.heap.size w14) mixed ?_)
         (refine any_take 0 ?_ (by rfl) (by kernel_rfl) (fun _ _ _ _ _ hx => hx.elim) (.inl ⟨by rfl, ?_⟩) (by with_reducible assumption) ?_; rotate_left; (intro X hX; obtain ⟨r1, r2⟩ := Below.rules hX; clear hX; go_simp; rfl); simp only [List.getElem_toArray, List.getElem_cons_succ, List.getElem_cons_zero, Act.put, List.setIfInBounds_toArray, List.set_cons_succ, List.set_cons_zero])
         (refine any_take 1 ?_ (by rfl) (by kernel_rfl) (fun _ _ _ _ _ hx => hx.elim) (.inl ⟨by rfl, ?_⟩) (by with_reducible assumption) ?_; rotate_left; (intro X hX; obtain ⟨r1, r2⟩ := Below.rules hX; clear hX; go_simp; rfl); simp only [List.getElem_toArray, List.getElem_cons_succ, List.getElem_cons_zero, Act.put, List.setIfInBounds_toArray, List.set_cons_succ, List.set_cons_zero])
         (refine any_take 2 ?_ (by rfl) (by kernel_rfl) (fun _ _ _ _ _ hx => hx.elim) (.inl ⟨by rfl, ?_⟩) (by with_reducible assumption) ?_; rotate_left; (intro X hX; obtain ⟨r1, r2⟩ := Below.rules hX; clear hX; go_simp; rfl); simp only [List.getElem_toArray, List.getElem_cons_succ, List.getElem_cons_zero, Act.put, List.setIfInBounds_toArray, List.set_cons_succ, List.set_cons_zero])
         (refine any_take 3 ?_ (by rfl) (by kernel_rfl) (fun _ _ _ _ _ hx => hx.elim) (.inl ⟨by rfl, ?_⟩) (by with_reducible assumption) ?_; rotate_left; (intro X hX; obtain ⟨r1, r2⟩ := Below.rules hX; clear hX; go_simp; rfl); simp only [List.getElem_toArray, List.getElem_cons_succ, List.getElem_cons_zero, Act.put, List.setIfInBounds_toArray, List.set_cons_succ, List.set_cons_zero])
         (refine any_take 4 ?_ (by rfl) (by kernel_rfl) (fun _ _ _ _ _ hx => hx.elim) (.inl ⟨by rfl, ?_⟩) (by with_reducible assumption) ?_; rotate_left; (intro X hX; obtain ⟨r1, r2⟩ := Below.rules hX; clear hX; go_simp; rfl); simp only [List.getElem_toArray, List.getElem_cons_succ, List.getElem_cons_zero, Act.put, List.setIfInBounds_toArray, List.set_cons_succ, List.set_cons_zero])
         (refine any_take 5 ?_ (by rfl) (by kernel_rfl) (fun _ _ _ _ _ hx => hx.elim) (.inl ⟨by rfl, ?_⟩) (by with_reducible assumption) ?_; rotate_left; (intro X hX; obtain ⟨r1, r2⟩ := Below.rules hX; clear hX; go_simp; rfl); simp only [List.getElem_toArray, List.getElem_cons_succ, List.getElem_cons_zero, Act.put, List.setIfInBounds_toArray, List.set_cons_succ, List.set_cons_zero])
         (refine any_take 6 ?_ (by rfl) (by kernel_rfl) (fun _ _ _ _ _ hx => hx.elim) (.inl ⟨by rfl, ?_⟩) (by with_reducible assumption) ?_; rotate_left; (intro X hX; obtain ⟨r1, r2⟩ := Below.rules hX; clear hX; go_simp; rfl); simp only [List.getElem_toArray, List.getElem_cons_succ, List.getElem_cons_zero, Act.put, List.setIfInBounds_toArray, List.set_cons_succ, List.set_cons_zero])
         (refine any_take 7 ?_ (by rfl) (by kernel_rfl) (fun _ _ _ _ _ hx => hx.elim) (.inl ⟨by rfl, ?_⟩) (by with_reducible assumption) ?_; rotate_left; (intro X hX; obtain ⟨r1, r2⟩ := Below.rules hX; clear hX; go_simp; rfl); simp only [List.getElem_toArray, List.getElem_cons_succ, List.getElem_cons_zero, Act.put, List.setIfInBounds_toArray, List.set_cons_succ, List.set_cons_zero])
         (refine any_take 8 ?_ (by rfl) (by kernel_rfl) (fun _ _ _ _ _ hx => hx.elim) (.inl ⟨by rfl, ?_⟩) (by with_reducible assumption) ?_; rotate_left; (intro X hX; obtain ⟨r1, r2⟩ := Below.rules hX; clear hX; go_simp; rfl); simp only [List.getElem_toArray, List.getElem_cons_succ, List.getElem_cons_zero, Act.put, List.setIfInBounds_toArray, List.set_cons_succ, List.set_cons_zero])
         (refine any_take 9 ?_ (by rfl) (by kernel_rfl) (fun _ _ _ _ _ hx => hx.elim) (.inl ⟨by rfl, ?_⟩) (by with_reducible assumption) ?_; rotate_left; (intro X hX; obtain ⟨r1, r2⟩ := Below.rules hX; clear hX; go_simp; rfl); simp only [List.getElem_toArray, List.getElem_cons_succ, List.getElem_cons_zero, Act.put, List.setIfInBounds_toArray, List.set_cons_succ, List.set_cons_zero])
         (refine any_take 10 ?_ (by rfl) (by kernel_rfl) (fun _ _ _ _ _ hx => hx.elim) (.inl ⟨by rfl, ?_⟩) (by with_reducible assumption) ?_; rotate_left; (intro X hX; obtain ⟨r1, r2⟩ := Below.rules hX; clear hX; go_simp; rfl); simp only [List.getElem_toArray, List.getElem_cons_succ, List.getElem_cons_zero, Act.put, List.setIfInBounds_toArray, List.set_cons_succ, List.set_cons_zero])
         (refine any_take 11 ?_ (by rfl) (by kernel_rfl) (fun _ _ _ _ _ hx => hx.elim) (.inl ⟨by rfl, ?_⟩) (by with_reducible assumption) ?_; rotate_left; (intro X hX; obtain ⟨r1, r2⟩ := Below.rules hX; clear hX; go_simp; rfl); simp only [List.getElem_toArray, List.getElem_cons_succ, List.getElem_cons_zero, Act.put, List.setIfInBounds_toArray, List.set_cons_succ, List.set_cons_zero])
         (refine any_take 12 ?_ (by rfl) (by kernel_rfl) (fun _ _ _ _ _ hx => hx.elim) (.inl ⟨by rfl, ?_⟩) (by with_reducible assumption) ?_; rotate_left; (intro X hX; obtain ⟨r1, r2⟩ := Below.rules hX; clear hX; go_simp; rfl); simp only [List.getElem_toArray, List.getElem_cons_succ, List.getElem_cons_zero, Act.put, List.setIfInBounds_toArray, List.set_cons_succ, List.set_cons_zero])
         (refine any_take 14 ?_ (by rfl) (by kernel_rfl) (fun _ _ _ _ _ hx => hx.elim) (.inl ⟨by rfl, ?_⟩) (by with_reducible assumption) ?_; rotate_left; (intro X hX; obtain ⟨r1, r2⟩ := Below.rules hX; clear hX; go_simp; rfl); simp only [List.getElem_toArray, List.getElem_cons_succ, List.getElem_cons_zero, Act.put, List.setIfInBounds_toArray, List.set_cons_succ, List.set_cons_zero])
         (refine any_take 15 ?_ (by rfl) (by kernel_rfl) (fun _ _ _ _ _ hx => hx.elim) (.inl ⟨by rfl, ?_⟩) (by with_reducible assumption) ?_; rotate_left; (intro X hX; obtain ⟨r1, r2⟩ := Below.rules hX; clear hX; go_simp; rfl); simp only [List.getElem_toArray, List.getElem_cons_succ, List.getElem_cons_zero, Act.put, List.setIfInBounds_toArray, List.set_cons_succ, List.set_cons_zero])
         (refine any_take 16 ?_ (by rfl) (by kernel_rfl) (fun _ _ _ _ _ hx => hx.elim) (.inl ⟨by rfl, ?_⟩) (by with_reducible assumption) ?_; rotate_left; (intro X hX; obtain ⟨r1, r2⟩ := Below.rules hX; clear hX; go_simp; rfl); simp only [List.getElem_toArray, List.getElem_cons_succ, List.getElem_cons_zero, Act.put, List.setIfInBounds_toArray, List.set_cons_succ, List.set_cons_zero])
         (refine any_take 17 ?_ (by rfl) (by kernel_rfl) (fun _ _ _ _ _ hx => hx.elim) (.inl ⟨by rfl, ?_⟩) (by with_reducible assumption) ?_; rotate_left; (intro X hX; obtain ⟨r1, r2⟩ := Below.rules hX; clear hX; go_simp; rfl); simp only [List.getElem_toArray, List.getElem_cons_succ, List.getElem_cons_zero, Act.put, List.setIfInBounds_toArray, List.set_cons_succ, List.set_cons_zero])
         (refine any_take 18 ?_ (by rfl) (by kernel_rfl) (fun _ _ _ _ _ hx => hx.elim) (.inl ⟨by rfl, ?_⟩) (by with_reducible assumption) ?_; rotate_left; (intro X hX; obtain ⟨r1, r2⟩ := Below.rules hX; clear hX; go_simp; rfl); simp only [List.getElem_toArray, List.getElem_cons_succ, List.getElem_cons_zero, Act.put, List.setIfInBounds_toArray, List.set_cons_succ, List.set_cons_zero])
         (refine any_take 19 ?_ (by rfl) (by kernel_rfl) (fun _ _ _ _ _ hx => hx.elim) (.inl ⟨by rfl, ?_⟩) (by with_reducible assumption) ?_; rotate_left; (intro X hX; obtain ⟨r1, r2⟩ := Below.rules hX; clear hX; go_simp; rfl); simp only [List.getElem_toArray, List.getElem_cons_succ, List.getElem_cons_zero, Act.put, List.setIfInBounds_toArray, List.set_cons_succ, List.set_cons_zero])
         (refine any_take 20 ?_ (by rfl) (by kernel_rfl) (fun _ _ _ _ _ hx => hx.elim) (.inl ⟨by rfl, ?_⟩) (by with_reducible assumption) ?_; rotate_left; (intro X hX; obtain ⟨r1, r2⟩ := Below.rules hX; clear hX; go_simp; rfl); simp only [List.getElem_toArray, List.getElem_cons_succ, List.getElem_cons_zero, Act.put, List.setIfInBounds_toArray, List.set_cons_succ, List.set_cons_zero])
         (refine any_take 21 ?_ (by rfl) (by kernel_rfl) (fun _ _ _ _ _ hx => hx.elim) (.inl ⟨by rfl, ?_⟩) (by with_reducible assumption) ?_; rotate_left; (intro X hX; obtain ⟨r1, r2⟩ := Below.rules hX; clear hX; go_simp; rfl); simp only [List.getElem_toArray, List.getElem_cons_succ, List.getElem_cons_zero, Act.put, List.setIfInBounds_toArray, List.set_cons_succ, List.set_cons_zero])
         (refine any_take 22 ?_ (by rfl) (by kernel_rfl) (fun _ _ _ _ _ hx => hx.elim) (.inl ⟨by rfl, ?_⟩) (by with_reducible assumption) ?_; rotate_left; (intro X hX; obtain ⟨r1, r2⟩ := Below.rules hX; clear hX; go_simp; rfl); simp only [List.getElem_toArray, List.getElem_cons_succ, List.getElem_cons_zero, Act.put, List.setIfInBounds_toArray, List.set_cons_succ, List.set_cons_zero])
         (refine any_take 23 ?_ (by rfl) (by kernel_rfl) (fun _ _ _ _ _ hx => hx.elim) (.inl ⟨by rfl, ?_⟩) (by with_reducible assumption) ?_; rotate_left; (intro X hX; obtain ⟨r1, r2⟩ := Below.rules hX; clear hX; go_simp; rfl); simp only [List.getElem_toArray, List.getElem_cons_succ, List.getElem_cons_zero, Act.put, List.setIfInBounds_toArray, List.set_cons_succ, List.set_cons_zero])
         (refine any_take 24 ?_ (by rfl) (by kernel_rfl) (fun _ _ _ _ _ hx => hx.elim) (.inl ⟨by rfl, ?_⟩) (by with_reducible assumption) ?_; rotate_left; (intro X hX; obtain ⟨r1, r2⟩ := Below.rules hX; clear hX; go_simp; rfl); simp only [List.getElem_toArray, List.getElem_cons_succ, List.getElem_cons_zero, Act.put, List.setIfInBounds_toArray, List.set_cons_succ, List.set_cons_zero])
         (refine any_take 25 ?_ (by rfl) (by kernel_rfl) (fun _ _ _ _ _ hx => hx.elim) (.inl ⟨by rfl, ?_⟩) (by with_reducible assumption) ?_; rotate_left; (intro X hX; obtain ⟨r1, r2⟩ := Below.rules hX; clear hX; go_simp; rfl); simp only [List.getElem_toArray, List.getElem_cons_succ, List.getElem_cons_zero, Act.put, List.setIfInBounds_toArray, List.set_cons_succ, List.set_cons_zero])
         (refine any_take 26 ?_ (by rfl) (by kernel_rfl) (fun _ _ _ _ _ hx => hx.elim) (.inl ⟨by rfl, ?_⟩) (by with_reducible assumption) ?_; rotate_left; (intro X hX; obtain ⟨r1, r2⟩ := Below.rules hX; clear hX; go_simp; rfl); simp only [List.getElem_toArray, List.getElem_cons_succ, List.getElem_cons_zero, Act.put, List.setIfInBounds_toArray, List.set_cons_succ, List.set_cons_zero])
         have dk1 : Below w14.heap.size w14 w14.drew := by exact bel_of
         have hdr : Below w14.heap.size w14 w14.drew := Below.drew (Below.refl _ _)
         replace bdk := bdk.below hdr bdk.lt
         clear hdr
         generalize w14.drew = uk2 at *
         refine any_run3 (i := 13) (j := 28) (k := 29) (by kernel_rfl) (by rfl) (by rfl) (by rfl) (by rfl) (by rfl) (by rfl) ?_ ?_ ?_
         ·skip
          intro K hK
          have qk5 := dk1.size
          go_wp2_with fail
          refine (of_any (a1 + m * a2) a2 _).mono ?_
          rintro e vk4 ⟨rfl, hb⟩
          have hb2 : Below uk2.heap.size uk2 vk4 := by rw [← hb]; exact bel_of
          clear hb
          have hb := hb2
          clear hb2
          have ek3 : Below w14.heap.size w14 vk4 := dk1.trans (hb.mono dk1.size)
          replace bdk := bdk.below hb bdk.lt
          clear hb
          refine hK _ _ (fun _ => ek3) ?_
          clear hK K
          refine any_run3 (i := 27) (j := 28) (k := 29) (by kernel_rfl) (by rfl) (by rfl) (by rfl) (by rfl) (by rfl) (by rfl) ?_ ?_ ?_
          ·skip
           intro K hK
           have qk8 := ek3.size
           go_wp2_with fail
           refine (of_any (a3 + m * a4) a4 _).mono ?_
           rintro e vk7 ⟨rfl, hb⟩
           have hb2 : Below vk4.heap.size vk4 vk7 := by rw [← hb]; exact bel_of
           clear hb
           have hb := hb2
           clear hb2
           have ek6 : Below w14.heap.size w14 vk7 := ek3.trans (hb.mono ek3.size)
           replace bdk := bdk.below hb bdk.lt
           clear hb
           refine hK _ _ (fun _ => ek6) ?_
           clear hK K
           refine any_run2 (i := 28) (j := 29) (by kernel_rfl) (by rfl) (by rfl) (by rfl) (by rfl) ?_ ?_
           ·skip
            intro K hK
            have qk10 := ek6.size
            have ek9 : Below w14.heap.size w14 (vk7.alloc (.cells #[.int .i64 0, .int .i64 0] 25)) := Below.alloc ek6 ek6.size _
            have hnx : Below vk7.heap.size vk7 (vk7.alloc (.cells #[.int .i64 0, .int .i64 0] 25)) := Below.alloc (Below.refl _ _) (Nat.le_refl _) _
            go_wp2_with fail
            have nebdkbL : gbd ≠ vk7.heap.size := Nat.ne_of_lt bdk.lt
            replace bdk := bdk.below hnx bdk.lt
            have bL : BK (vk7.alloc (.cells #[.int .i64 0, .int .i64 0] 25)) vk7.heap.size #[.int .i64 0, .int .i64 0] 25 := BK.new _ _ _
            refine hK _ _ (fun _ => ek9) ?_
            clear hK K hnx
            generalize (vk7.alloc (.cells #[.int .i64 0, .int .i64 0] 25)) = vk11 at *
            obtain ⟨gbL, hgbL⟩ : ∃ g, vk7.heap.size = g := ⟨_, rfl⟩
            have hqbL : w14.heap.size ≤ gbL := by omega
            rw [hgbL] at bL nebdkbL
            try rw [hgbL]
            clear hgbL
            refine any_run1 (i := 29) (by kernel_rfl) (by rfl) (by kernel_rfl) ?_
            intro K hK
            have qk13 := ek9.size
            have ek12 : Below w14.heap.size w14 (vk11.alloc (.cells #[.int .i64 0, .int .i64 0] 25)) := Below.alloc ek9 ek9.size _
            have hnx : Below vk11.heap.size vk11 (vk11.alloc (.cells #[.int .i64 0, .int .i64 0] 25)) := Below.alloc (Below.refl _ _) (Nat.le_refl _) _
            go_wp2_with fail
            have nebdkbR : gbd ≠ vk11.heap.size := Nat.ne_of_lt bdk.lt
            have nebLbR : gbL ≠ vk11.heap.size := Nat.ne_of_lt bL.lt
            replace bdk := bdk.below hnx bdk.lt
            replace bL := bL.below hnx bL.lt
            have bR : BK (vk11.alloc (.cells #[.int .i64 0, .int .i64 0] 25)) vk11.heap.size #[.int .i64 0, .int .i64 0] 25 := BK.new _ _ _
            refine hK _ _ (fun _ => ek12) ?_
            clear hK K hnx
            generalize (vk11.alloc (.cells #[.int .i64 0, .int .i64 0] 25)) = vk14 at *
            obtain ⟨gbR, hgbR⟩ : ∃ g, vk11.heap.size = g := ⟨_, rfl⟩
            have hqbR : w14.heap.size ≤ gbR := by omega
            rw [hgbR] at bR nebdkbR nebLbR
            try rw [hgbR]
            clear hgbR
            refine any_run1 (i := 30) (by kernel_rfl) (by rfl) (by kernel_rfl) ?_
            intro K hK
            have lbL := bL.lt
            have y0 := bL.cell 0
            have f0 := bL.frozen 0
            have y1 := bL.cell 1
            have f1 := bL.frozen 1
            simp at y0 y1
            go_wp2_with fail
            have ek15 : Below w14.heap.size w14 ((vk14.setCell ⟨gbL, 0, none⟩ (.int .i64 (a1 + m * a2))).setCell ⟨gbL, 1, none⟩ (.int .i64 a2)) := by exact bel_of
            have bdk_ : BK ((vk14.setCell ⟨gbL, 0, none⟩ (.int .i64 (a1 + m * a2))).setCell ⟨gbL, 1, none⟩ (.int .i64 a2)) gbd _ _ := (BK.far (BK.far bdk (p := ⟨gbL, 0, none⟩) (by first | assumption | exact Ne.symm (by assumption)) _) (p := ⟨gbL, 1, none⟩) (by first | assumption | exact Ne.symm (by assumption)) _); clear bdk; have bdk := bdk_; clear bdk_
            have bR_ : BK ((vk14.setCell ⟨gbL, 0, none⟩ (.int .i64 (a1 + m * a2))).setCell ⟨gbL, 1, none⟩ (.int .i64 a2)) gbR _ _ := (BK.far (BK.far bR (p := ⟨gbL, 0, none⟩) (by first | assumption | exact Ne.symm (by assumption)) _) (p := ⟨gbL, 1, none⟩) (by first | assumption | exact Ne.symm (by assumption)) _); clear bR; have bR := bR_; clear bR_
            have bL_ := ((bL.set 0 (.int .i64 (a1 + m * a2))).set 1 (.int .i64 a2))
            simp at bL_
            clear bL; have bL := bL_; clear bL_
            clear y0 f0 y1 f1
            refine hK _ _ (fun _ => ek15) ?_
            clear hK K
            generalize ((vk14.setCell ⟨gbL, 0, none⟩ (.int .i64 (a1 + m * a2))).setCell ⟨gbL, 1, none⟩ (.int .i64 a2)) = vk16 at *
            refine any_run1 (i := 31) (by kernel_rfl) (by rfl) (by kernel_rfl) ?_
            intro K hK
            have lbR := bR.lt
            have y0 := bR.cell 0
            have f0 := bR.frozen 0
            have y1 := bR.cell 1
            have f1 := bR.frozen 1
            simp at y0 y1
            go_wp2_with fail
            have ek17 : Below w14.heap.size w14 ((vk16.setCell ⟨gbR, 0, none⟩ (.int .i64 (a3 + m * a4))).setCell ⟨gbR, 1, none⟩ (.int .i64 a4)) := by exact bel_of
            have bdk_ : BK ((vk16.setCell ⟨gbR, 0, none⟩ (.int .i64 (a3 + m * a4))).setCell ⟨gbR, 1, none⟩ (.int .i64 a4)) gbd _ _ := (BK.far (BK.far bdk (p := ⟨gbR, 0, none⟩) (by first | assumption | exact Ne.symm (by assumption)) _) (p := ⟨gbR, 1, none⟩) (by first | assumption | exact Ne.symm (by assumption)) _); clear bdk; have bdk := bdk_; clear bdk_
            have bL_ : BK ((vk16.setCell ⟨gbR, 0, none⟩ (.int .i64 (a3 + m * a4))).setCell ⟨gbR, 1, none⟩ (.int .i64 a4)) gbL _ _ := (BK.far (BK.far bL (p := ⟨gbR, 0, none⟩) (by first | assumption | exact Ne.symm (by assumption)) _) (p := ⟨gbR, 1, none⟩) (by first | assumption | exact Ne.symm (by assumption)) _); clear bL; have bL := bL_; clear bL_
            have bR_ := ((bR.set 0 (.int .i64 (a3 + m * a4))).set 1 (.int .i64 a4))
            simp at bR_
            clear bR; have bR := bR_; clear bR_
            clear y0 f0 y1 f1
            refine hK _ _ (fun _ => ek17) ?_
            clear hK K
            generalize ((vk16.setCell ⟨gbR, 0, none⟩ (.int .i64 (a3 + m * a4))).setCell ⟨gbR, 1, none⟩ (.int .i64 a4)) = vk18 at *
            refine any_done (by kernel_rfl) (NoPanic.normal ?_)
            exact ⟨gbL, gbR, rfl, rfl, hC.trans (ek17.mono hC.size), bdk, bL, bR, Nat.le_trans hC.size (by omega), Nat.le_trans hC.size (by omega), (by assumption), (by assumption), (by first | assumption | exact Ne.symm (by assumption))⟩
           ·skip
            intro K hK
            have qk20 := ek6.size
            have ek19 : Below w14.heap.size w14 (vk7.alloc (.cells #[.int .i64 0, .int .i64 0] 25)) := Below.alloc ek6 ek6.size _
            have hnx : Below vk7.heap.size vk7 (vk7.alloc (.cells #[.int .i64 0, .int .i64 0] 25)) := Below.alloc (Below.refl _ _) (Nat.le_refl _) _
            go_wp2_with fail
            have nebdkbR : gbd ≠ vk7.heap.size := Nat.ne_of_lt bdk.lt
            replace bdk := bdk.below hnx bdk.lt
            have bR : BK (vk7.alloc (.cells #[.int .i64 0, .int .i64 0] 25)) vk7.heap.size #[.int .i64 0, .int .i64 0] 25 := BK.new _ _ _
            refine hK _ _ (fun _ => ek19) ?_
            clear hK K hnx
            generalize (vk7.alloc (.cells #[.int .i64 0, .int .i64 0] 25)) = vk21 at *
            obtain ⟨gbR, hgbR⟩ : ∃ g, vk7.heap.size = g := ⟨_, rfl⟩
            have hqbR : w14.heap.size ≤ gbR := by omega
            rw [hgbR] at bR nebdkbR
            try rw [hgbR]
            clear hgbR
            refine any_run1 (i := 28) (by kernel_rfl) (by rfl) (by kernel_rfl) ?_
            intro K hK
            have qk23 := ek19.size
            have ek22 : Below w14.heap.size w14 (vk21.alloc (.cells #[.int .i64 0, .int .i64 0] 25)) := Below.alloc ek19 ek19.size _
            have hnx : Below vk21.heap.size vk21 (vk21.alloc (.cells #[.int .i64 0, .int .i64 0] 25)) := Below.alloc (Below.refl _ _) (Nat.le_refl _) _
            go_wp2_with fail
            have nebdkbL : gbd ≠ vk21.heap.size := Nat.ne_of_lt bdk.lt
            have nebRbL : gbR ≠ vk21.heap.size := Nat.ne_of_lt bR.lt
            replace bdk := bdk.below hnx bdk.lt
            replace bR := bR.below hnx bR.lt
            have bL : BK (vk21.alloc (.cells #[.int .i64 0, .int .i64 0] 25)) vk21.heap.size #[.int .i64 0, .int .i64 0] 25 := BK.new _ _ _
            refine hK _ _ (fun _ => ek22) ?_
            clear hK K hnx
            generalize (vk21.alloc (.cells #[.int .i64 0, .int .i64 0] 25)) = vk24 at *
            obtain ⟨gbL, hgbL⟩ : ∃ g, vk21.heap.size = g := ⟨_, rfl⟩
            have hqbL : w14.heap.size ≤ gbL := by omega
            rw [hgbL] at bL nebdkbL nebRbL
            try rw [hgbL]
            clear hgbL
            refine any_run1 (i := 30) (by kernel_rfl) (by rfl) (by kernel_rfl) ?_
            intro K hK
            have lbL := bL.lt
            have y0 := bL.cell 0
            have f0 := bL.frozen 0
            have y1 := bL.cell 1
            have f1 := bL.frozen 1
            simp at y0 y1
            go_wp2_with fail
            have ek25 : Below w14.heap.size w14 ((vk24.setCell ⟨gbL, 0, none⟩ (.int .i64 (a1 + m * a2))).setCell ⟨gbL, 1, none⟩ (.int .i64 a2)) := by exact bel_of
            have bdk_ : BK ((vk24.setCell ⟨gbL, 0, none⟩ (.int .i64 (a1 + m * a2))).setCell ⟨gbL, 1, none⟩ (.int .i64 a2)) gbd _ _ := (BK.far (BK.far bdk (p := ⟨gbL, 0, none⟩) (by first | assumption | exact Ne.symm (by assumption)) _) (p := ⟨gbL, 1, none⟩) (by first | assumption | exact Ne.symm (by assumption)) _); clear bdk; have bdk := bdk_; clear bdk_
            have bR_ : BK ((vk24.setCell ⟨gbL, 0, none⟩ (.int .i64 (a1 + m * a2))).setCell ⟨gbL, 1, none⟩ (.int .i64 a2)) gbR _ _ := (BK.far (BK.far bR (p := ⟨gbL, 0, none⟩) (by first | assumption | exact Ne.symm (by assumption)) _) (p := ⟨gbL, 1, none⟩) (by first | assumption | exact Ne.symm (by assumption)) _); clear bR; have bR := bR_; clear bR_
            have bL_ := ((bL.set 0 (.int .i64 (a1 + m * a2))).set 1 (.int .i64 a2))
            simp at bL_
            clear bL; have bL := bL_; clear bL_
            clear y0 f0 y1 f1
            refine hK _ _ (fun _ => ek25) ?_
            clear hK K
            generalize ((vk24.setCell ⟨gbL, 0, none⟩ (.int .i64 (a1 + m * a2))).setCell ⟨gbL, 1, none⟩ (.int .i64 a2)) = vk26 at *
            refine any_run1 (i := 31) (by kernel_rfl) (by rfl) (by kernel_rfl) ?_
            intro K hK
            have lbR := bR.lt
            have y0 := bR.cell 0
            have f0 := bR.frozen 0
            have y1 := bR.cell 1
            have f1 := bR.frozen 1
            simp at y0 y1
            go_wp2_with fail
            have ek27 : Below w14.heap.size w14 ((vk26.setCell ⟨gbR, 0, none⟩ (.int .i64 (a3 + m * a4))).setCell ⟨gbR, 1, none⟩ (.int .i64 a4)) := by exact bel_of
            have bdk_ : BK ((vk26.setCell ⟨gbR, 0, none⟩ (.int .i64 (a3 + m * a4))).setCell ⟨gbR, 1, none⟩ (.int .i64 a4)) gbd _ _ := (BK.far (BK.far bdk (p := ⟨gbR, 0, none⟩) (by first | assumption | exact Ne.symm (by assumption)) _) (p := ⟨gbR, 1, none⟩) (by first | assumption | exact Ne.symm (by assumption)) _); clear bdk; have bdk := bdk_; clear bdk_
            have bL_ : BK ((vk26.setCell ⟨gbR, 0, none⟩ (.int .i64 (a3 + m * a4))).setCell ⟨gbR, 1, none⟩ (.int .i64 a4)) gbL _ _ := (BK.far (BK.far bL (p := ⟨gbR, 0, none⟩) (by first | assumption | exact Ne.symm (by assumption)) _) (p := ⟨gbR, 1, none⟩) (by first | assumption | exact Ne.symm (by assumption)) _); clear bL; have bL := bL_; clear bL_
            have bR_ := ((bR.set 0 (.int .i64 (a3 + m * a4))).set 1 (.int .i64 a4))
            simp at bR_
            clear bR; have bR := bR_; clear bR_
            clear y0 f0 y1 f1
            refine hK _ _ (fun _ => ek27) ?_
            clear hK K
            generalize ((vk26.setCell ⟨gbR, 0, none⟩ (.int .i64 (a3 + m * a4))).setCell ⟨gbR, 1, none⟩ (.int .i64 a4)) = vk28 at *
            refine any_done (by kernel_rfl) (NoPanic.normal ?_)
            exact ⟨gbL, gbR, rfl, rfl, hC.trans (ek27.mono hC.size), bdk, bL, bR, Nat.le_trans hC.size (by omega), Nat.le_trans hC.size (by omega), (by assumption), (by assumption), (by first | assumption | exact Ne.symm (by assumption))⟩
          ·skip
           intro K hK
           have qk30 := ek3.size
           have ek29 : Below w14.heap.size w14 (vk4.alloc (.cells #[.int .i64 0, .int .i64 0] 25)) := Below.alloc ek3 ek3.size _
           have hnx : Below vk4.heap.size vk4 (vk4.alloc (.cells #[.int .i64 0, .int .i64 0] 25)) := Below.alloc (Below.refl _ _) (Nat.le_refl _) _
           go_wp2_with fail
           have nebdkbL : gbd ≠ vk4.heap.size := Nat.ne_of_lt bdk.lt
           replace bdk := bdk.below hnx bdk.lt
           have bL : BK (vk4.alloc (.cells #[.int .i64 0, .int .i64 0] 25)) vk4.heap.size #[.int .i64 0, .int .i64 0] 25 := BK.new _ _ _
           refine hK _ _ (fun _ => ek29) ?_
           clear hK K hnx
           generalize (vk4.alloc (.cells #[.int .i64 0, .int .i64 0] 25)) = vk31 at *
           obtain ⟨gbL, hgbL⟩ : ∃ g, vk4.heap.size = g := ⟨_, rfl⟩
           have hqbL : w14.heap.size ≤ gbL := by omega
           rw [hgbL] at bL nebdkbL
           try rw [hgbL]
           clear hgbL
           refine any_run2 (i := 27) (j := 29) (by kernel_rfl) (by rfl) (by rfl) (by rfl) (by rfl) ?_ ?_
           ·skip
            intro K hK
            have qk34 := ek29.size
            go_wp2_with fail
            refine (of_any (a3 + m * a4) a4 _).mono ?_
            rintro e vk33 ⟨rfl, hb⟩
            have hb2 : Below vk31.heap.size vk31 vk33 := by rw [← hb]; exact bel_of
            clear hb
            have hb := hb2
            clear hb2
            have ek32 : Below w14.heap.size w14 vk33 := ek29.trans (hb.mono ek29.size)
            replace bdk := bdk.below hb bdk.lt
            replace bL := bL.below hb bL.lt
            clear hb
            refine hK _ _ (fun _ => ek32) ?_
            clear hK K
            refine any_run1 (i := 29) (by kernel_rfl) (by rfl) (by kernel_rfl) ?_
            intro K hK
            have qk36 := ek32.size
            have ek35 : Below w14.heap.size w14 (vk33.alloc (.cells #[.int .i64 0, .int .i64 0] 25)) := Below.alloc ek32 ek32.size _
            have hnx : Below vk33.heap.size vk33 (vk33.alloc (.cells #[.int .i64 0, .int .i64 0] 25)) := Below.alloc (Below.refl _ _) (Nat.le_refl _) _
            go_wp2_with fail
            have nebdkbR : gbd ≠ vk33.heap.size := Nat.ne_of_lt bdk.lt
            have nebLbR : gbL ≠ vk33.heap.size := Nat.ne_of_lt bL.lt
            replace bdk := bdk.below hnx bdk.lt
            replace bL := bL.below hnx bL.lt
            have bR : BK (vk33.alloc (.cells #[.int .i64 0, .int .i64 0] 25)) vk33.heap.size #[.int .i64 0, .int .i64 0] 25 := BK.new _ _ _
            refine hK _ _ (fun _ => ek35) ?_
            clear hK K hnx
            generalize (vk33.alloc (.cells #[.int .i64 0, .int .i64 0] 25)) = vk37 at *
            obtain ⟨gbR, hgbR⟩ : ∃ g, vk33.heap.size = g := ⟨_, rfl⟩
            have hqbR : w14.heap.size ≤ gbR := by omega
            rw [hgbR] at bR nebdkbR nebLbR
            try rw [hgbR]
            clear hgbR
            refine any_run1 (i := 30) (by kernel_rfl) (by rfl) (by kernel_rfl) ?_
            intro K hK
            have lbL := bL.lt
            have y0 := bL.cell 0
            have f0 := bL.frozen 0
            have y1 := bL.cell 1
            have f1 := bL.frozen 1
            simp at y0 y1
            go_wp2_with fail
            have ek38 : Below w14.heap.size w14 ((vk37.setCell ⟨gbL, 0, none⟩ (.int .i64 (a1 + m * a2))).setCell ⟨gbL, 1, none⟩ (.int .i64 a2)) := by exact bel_of
            have bdk_ : BK ((vk37.setCell ⟨gbL, 0, none⟩ (.int .i64 (a1 + m * a2))).setCell ⟨gbL, 1, none⟩ (.int .i64 a2)) gbd _ _ := (BK.far (BK.far bdk (p := ⟨gbL, 0, none⟩) (by first | assumption | exact Ne.symm (by assumption)) _) (p := ⟨gbL, 1, none⟩) (by first | assumption | exact Ne.symm (by assumption)) _); clear bdk; have bdk := bdk_; clear bdk_
            have bR_ : BK ((vk37.setCell ⟨gbL, 0, none⟩ (.int .i64 (a1 + m * a2))).setCell ⟨gbL, 1, none⟩ (.int .i64 a2)) gbR _ _ := (BK.far (BK.far bR (p := ⟨gbL, 0, none⟩) (by first | assumption | exact Ne.symm (by assumption)) _) (p := ⟨gbL, 1, none⟩) (by first | assumption | exact Ne.symm (by assumption)) _); clear bR; have bR := bR_; clear bR_
            have bL_ := ((bL.set 0 (.int .i64 (a1 + m * a2))).set 1 (.int .i64 a2))
            simp at bL_
            clear bL; have bL := bL_; clear bL_
            clear y0 f0 y1 f1
            refine hK _ _ (fun _ => ek38) ?_
            clear hK K
            generalize ((vk37.setCell ⟨gbL, 0, none⟩ (.int .i64 (a1 + m * a2))).setCell ⟨gbL, 1, none⟩ (.int .i64 a2)) = vk39 at *
            refine any_run1 (i := 31) (by kernel_rfl) (by rfl) (by kernel_rfl) ?_
            intro K hK
            have lbR := bR.lt
            have y0 := bR.cell 0
            have f0 := bR.frozen 0
            have y1 := bR.cell 1
            have f1 := bR.frozen 1
            simp at y0 y1
            go_wp2_with fail
            have ek40 : Below w14.heap.size w14 ((vk39.setCell ⟨gbR, 0, none⟩ (.int .i64 (a3 + m * a4))).setCell ⟨gbR, 1, none⟩ (.int .i64 a4)) := by exact bel_of
            have bdk_ : BK ((vk39.setCell ⟨gbR, 0, none⟩ (.int .i64 (a3 + m * a4))).setCell ⟨gbR, 1, none⟩ (.int .i64 a4)) gbd _ _ := (BK.far (BK.far bdk (p := ⟨gbR, 0, none⟩) (by first | assumption | exact Ne.symm (by assumption)) _) (p := ⟨gbR, 1, none⟩) (by first | assumption | exact Ne.symm (by assumption)) _); clear bdk; have bdk := bdk_; clear bdk_
            have bL_ : BK ((vk39.setCell ⟨gbR, 0, none⟩ (.int .i64 (a3 + m * a4))).setCell ⟨gbR, 1, none⟩ (.int .i64 a4)) gbL _ _ := (BK.far (BK.far bL (p := ⟨gbR, 0, none⟩) (by first | assumption | exact Ne.symm (by assumption)) _) (p := ⟨gbR, 1, none⟩) (by first | assumption | exact Ne.symm (by assumption)) _); clear bL; have bL := bL_; clear bL_
            have bR_ := ((bR.set 0 (.int .i64 (a3 + m * a4))).set 1 (.int .i64 a4))
            simp at bR_
            clear bR; have bR := bR_; clear bR_
            clear y0 f0 y1 f1
            refine hK _ _ (fun _ => ek40) ?_
            clear hK K
            generalize ((vk39.setCell ⟨gbR, 0, none⟩ (.int .i64 (a3 + m * a4))).setCell ⟨gbR, 1, none⟩ (.int .i64 a4)) = vk41 at *
            refine any_done (by kernel_rfl) (NoPanic.normal ?_)
            exact ⟨gbL, gbR, rfl, rfl, hC.trans (ek40.mono hC.size), bdk, bL, bR, Nat.le_trans hC.size (by omega), Nat.le_trans hC.size (by omega), (by assumption), (by assumption), (by first | assumption | exact Ne.symm (by assumption))⟩
           ·skip
            intro K hK
            have qk43 := ek29.size
            have ek42 : Below w14.heap.size w14 (vk31.alloc (.cells #[.int .i64 0, .int .i64 0] 25)) := Below.alloc ek29 ek29.size _
            have hnx : Below vk31.heap.size vk31 (vk31.alloc (.cells #[.int .i64 0, .int .i64 0] 25)) := Below.alloc (Below.refl _ _) (Nat.le_refl _) _
            go_wp2_with fail
            have nebdkbR : gbd ≠ vk31.heap.size := Nat.ne_of_lt bdk.lt
            have nebLbR : gbL ≠ vk31.heap.size := Nat.ne_of_lt bL.lt
            replace bdk := bdk.below hnx bdk.lt
            replace bL := bL.below hnx bL.lt
            have bR : BK (vk31.alloc (.cells #[.int .i64 0, .int .i64 0] 25)) vk31.heap.size #[.int .i64 0, .int .i64 0] 25 := BK.new _ _ _
            refine hK _ _ (fun _ => ek42) ?_
            clear hK K hnx
            generalize (vk31.alloc (.cells #[.int .i64 0, .int .i64 0] 25)) = vk44 at *
            obtain ⟨gbR, hgbR⟩ : ∃ g, vk31.heap.size = g := ⟨_, rfl⟩
            have hqbR : w14.heap.size ≤ gbR := by omega
            rw [hgbR] at bR nebdkbR nebLbR
            try rw [hgbR]
            clear hgbR
            refine any_run1 (i := 27) (by kernel_rfl) (by rfl) (by kernel_rfl) ?_
            intro K hK
            have qk47 := ek42.size
            go_wp2_with fail
            refine (of_any (a3 + m * a4) a4 _).mono ?_
            rintro e vk46 ⟨rfl, hb⟩
            have hb2 : Below vk44.heap.size vk44 vk46 := by rw [← hb]; exact bel_of
            clear hb
            have hb := hb2
            clear hb2
            have ek45 : Below w14.heap.size w14 vk46 := ek42.trans (hb.mono ek42.size)
            replace bdk := bdk.below hb bdk.lt
            replace bL := bL.below hb bL.lt
            replace bR := bR.below hb bR.lt
            clear hb
            refine hK _ _ (fun _ => ek45) ?_
            clear hK K
            refine any_run1 (i := 30) (by kernel_rfl) (by rfl) (by kernel_rfl) ?_
            intro K hK
            have lbL := bL.lt
            have y0 := bL.cell 0
            have f0 := bL.frozen 0
            have y1 := bL.cell 1
            have f1 := bL.frozen 1
            simp at y0 y1
            go_wp2_with fail
            have ek48 : Below w14.heap.size w14 ((vk46.setCell ⟨gbL, 0, none⟩ (.int .i64 (a1 + m * a2))).setCell ⟨gbL, 1, none⟩ (.int .i64 a2)) := by exact bel_of
            have bdk_ : BK ((vk46.setCell ⟨gbL, 0, none⟩ (.int .i64 (a1 + m * a2))).setCell ⟨gbL, 1, none⟩ (.int .i64 a2)) gbd _ _ := (BK.far (BK.far bdk (p := ⟨gbL, 0, none⟩) (by first | assumption | exact Ne.symm (by assumption)) _) (p := ⟨gbL, 1, none⟩) (by first | assumption | exact Ne.symm (by assumption)) _); clear bdk; have bdk := bdk_; clear bdk_
            have bR_ : BK ((vk46.setCell ⟨gbL, 0, none⟩ (.int .i64 (a1 + m * a2))).setCell ⟨gbL, 1, none⟩ (.int .i64 a2)) gbR _ _ := (BK.far (BK.far bR (p := ⟨gbL, 0, none⟩) (by first | assumption | exact Ne.symm (by assumption)) _) (p := ⟨gbL, 1, none⟩) (by first | assumption | exact Ne.symm (by assumption)) _); clear bR; have bR := bR_; clear bR_
            have bL_ := ((bL.set 0 (.int .i64 (a1 + m * a2))).set 1 (.int .i64 a2))
            simp at bL_
            clear bL; have bL := bL_; clear bL_
            clear y0 f0 y1 f1
            refine hK _ _ (fun _ => ek48) ?_
            clear hK K
            generalize ((vk46.setCell ⟨gbL, 0, none⟩ (.int .i64 (a1 + m * a2))).setCell ⟨gbL, 1, none⟩ (.int .i64 a2)) = vk49 at *
            refine any_run1 (i := 31) (by kernel_rfl) (by rfl) (by kernel_rfl) ?_
            intro K hK
            have lbR := bR.lt
            have y0 := bR.cell 0
            have f0 := bR.frozen 0
            have y1 := bR.cell 1
            have f1 := bR.frozen 1
            simp at y0 y1
            go_wp2_with fail
            have ek50 : Below w14.heap.size w14 ((vk49.setCell ⟨gbR, 0, none⟩ (.int .i64 (a3 + m * a4))).setCell ⟨gbR, 1, none⟩ (.int .i64 a4)) := by exact bel_of
            have bdk_ : BK ((vk49.setCell ⟨gbR, 0, none⟩ (.int .i64 (a3 + m * a4))).setCell ⟨gbR, 1, none⟩ (.int .i64 a4)) gbd _ _ := (BK.far (BK.far bdk (p := ⟨gbR, 0, none⟩) (by first | assumption | exact Ne.symm (by assumption)) _) (p := ⟨gbR, 1, none⟩) (by first | assumption | exact Ne.symm (by assumption)) _); clear bdk; have bdk := bdk_; clear bdk_
            have bL_ : BK ((vk49.setCell ⟨gbR, 0, none⟩ (.int .i64 (a3 + m * a4))).setCell ⟨gbR, 1, none⟩ (.int .i64 a4)) gbL _ _ := (BK.far (BK.far bL (p := ⟨gbR, 0, none⟩) (by first | assumption | exact Ne.symm (by assumption)) _) (p := ⟨gbR, 1, none⟩) (by first | assumption | exact Ne.symm (by assumption)) _); clear bL; have bL := bL_; clear bL_
            have bR_ := ((bR.set 0 (.int .i64 (a3 + m * a4))).set 1 (.int .i64 a4))
            simp at bR_
            clear bR; have bR := bR_; clear bR_
            clear y0 f0 y1 f1
            refine hK _ _ (fun _ => ek50) ?_
            clear hK K
            generalize ((vk49.setCell ⟨gbR, 0, none⟩ (.int .i64 (a3 + m * a4))).setCell ⟨gbR, 1, none⟩ (.int .i64 a4)) = vk51 at *
            refine any_done (by kernel_rfl) (NoPanic.normal ?_)
            exact ⟨gbL, gbR, rfl, rfl, hC.trans (ek50.mono hC.size), bdk, bL, bR, Nat.le_trans hC.size (by omega), Nat.le_trans hC.size (by omega), (by assumption), (by assumption), (by first | assumption | exact Ne.symm (by assumption))⟩
          ·skip
           intro K hK
           have qk53 := ek3.size
           have ek52 : Below w14.heap.size w14 (vk4.alloc (.cells #[.int .i64 0, .int .i64 0] 25)) := Below.alloc ek3 ek3.size _
           have hnx : Below vk4.heap.size vk4 (vk4.alloc (.cells #[.int .i64 0, .int .i64 0] 25)) := Below.alloc (Below.refl _ _) (Nat.le_refl _) _
           go_wp2_with fail
           have nebdkbR : gbd ≠ vk4.heap.size := Nat.ne_of_lt bdk.lt
           replace bdk := bdk.below hnx bdk.lt
           have bR : BK (vk4.alloc (.cells #[.int .i64 0, .int .i64 0] 25)) vk4.heap.size #[.int .i64 0, .int .i64 0] 25 := BK.new _ _ _
           refine hK _ _ (fun _ => ek52) ?_
           clear hK K hnx
           generalize (vk4.alloc (.cells #[.int .i64 0, .int .i64 0] 25)) = vk54 at *
           obtain ⟨gbR, hgbR⟩ : ∃ g, vk4.heap.size = g := ⟨_, rfl⟩
           have hqbR : w14.heap.size ≤ gbR := by omega
           rw [hgbR] at bR nebdkbR
           try rw [hgbR]
           clear hgbR
           refine any_run2 (i := 27) (j := 28) (by kernel_rfl) (by rfl) (by rfl) (by rfl) (by rfl) ?_ ?_
           ·skip
            intro K hK
            have qk57 := ek52.size
            go_wp2_with fail
            refine (of_any (a3 + m * a4) a4 _).mono ?_
            rintro e vk56 ⟨rfl, hb⟩
            have hb2 : Below vk54.heap.size vk54 vk56 := by rw [← hb]; exact bel_of
            clear hb
            have hb := hb2
            clear hb2
            have ek55 : Below w14.heap.size w14 vk56 := ek52.trans (hb.mono ek52.size)
            replace bdk := bdk.below hb bdk.lt
            replace bR := bR.below hb bR.lt
            clear hb
            refine hK _ _ (fun _ => ek55) ?_
            clear hK K
            refine any_run1 (i := 28) (by kernel_rfl) (by rfl) (by kernel_rfl) ?_
            intro K hK
            have qk59 := ek55.size
            have ek58 : Below w14.heap.size w14 (vk56.alloc (.cells #[.int .i64 0, .int .i64 0] 25)) := Below.alloc ek55 ek55.size _
            have hnx : Below vk56.heap.size vk56 (vk56.alloc (.cells #[.int .i64 0, .int .i64 0] 25)) := Below.alloc (Below.refl _ _) (Nat.le_refl _) _
            go_wp2_with fail
            have nebdkbL : gbd ≠ vk56.heap.size := Nat.ne_of_lt bdk.lt
            have nebRbL : gbR ≠ vk56.heap.size := Nat.ne_of_lt bR.lt
            replace bdk := bdk.below hnx bdk.lt
            replace bR := bR.below hnx bR.lt
            have bL : BK (vk56.alloc (.cells #[.int .i64 0, .int .i64 0] 25)) vk56.heap.size #[.int .i64 0, .int .i64 0] 25 := BK.new _ _ _
            refine hK _ _ (fun _ => ek58) ?_
            clear hK K hnx
            generalize (vk56.alloc (.cells #[.int .i64 0, .int .i64 0] 25)) = vk60 at *
            obtain ⟨gbL, hgbL⟩ : ∃ g, vk56.heap.size = g := ⟨_, rfl⟩
            have hqbL : w14.heap.size ≤ gbL := by omega
            rw [hgbL] at bL nebdkbL nebRbL
            try rw [hgbL]
            clear hgbL
            refine any_run1 (i := 30) (by kernel_rfl) (by rfl) (by kernel_rfl) ?_
            intro K hK
            have lbL := bL.lt
            have y0 := bL.cell 0
            have f0 := bL.frozen 0
            have y1 := bL.cell 1
            have f1 := bL.frozen 1
            simp at y0 y1
            go_wp2_with fail
            have ek61 : Below w14.heap.size w14 ((vk60.setCell ⟨gbL, 0, none⟩ (.int .i64 (a1 + m * a2))).setCell ⟨gbL, 1, none⟩ (.int .i64 a2)) := by exact bel_of
            have bdk_ : BK ((vk60.setCell ⟨gbL, 0, none⟩ (.int .i64 (a1 + m * a2))).setCell ⟨gbL, 1, none⟩ (.int .i64 a2)) gbd _ _ := (BK.far (BK.far bdk (p := ⟨gbL, 0, none⟩) (by first | assumption | exact Ne.symm (by assumption)) _) (p := ⟨gbL, 1, none⟩) (by first | assumption | exact Ne.symm (by assumption)) _); clear bdk; have bdk := bdk_; clear bdk_
            have bR_ : BK ((vk60.setCell ⟨gbL, 0, none⟩ (.int .i64 (a1 + m * a2))).setCell ⟨gbL, 1, none⟩ (.int .i64 a2)) gbR _ _ := (BK.far (BK.far bR (p := ⟨gbL, 0, none⟩) (by first | assumption | exact Ne.symm (by assumption)) _) (p := ⟨gbL, 1, none⟩) (by first | assumption | exact Ne.symm (by assumption)) _); clear bR; have bR := bR_; clear bR_
            have bL_ := ((bL.set 0 (.int .i64 (a1 + m * a2))).set 1 (.int .i64 a2))
            simp at bL_
            clear bL; have bL := bL_; clear bL_
            clear y0 f0 y1 f1
            refine hK _ _ (fun _ => ek61) ?_
            clear hK K
            generalize ((vk60.setCell ⟨gbL, 0, none⟩ (.int .i64 (a1 + m * a2))).setCell ⟨gbL, 1, none⟩ (.int .i64 a2)) = vk62 at *
            refine any_run1 (i := 31) (by kernel_rfl) (by rfl) (by kernel_rfl) ?_
            intro K hK
            have lbR := bR.lt
            have y0 := bR.cell 0
            have f0 := bR.frozen 0
            have y1 := bR.cell 1
            have f1 := bR.frozen 1
            simp at y0 y1
            go_wp2_with fail
            have ek63 : Below w14.heap.size w14 ((vk62.setCell ⟨gbR, 0, none⟩ (.int .i64 (a3 + m * a4))).setCell ⟨gbR, 1, none⟩ (.int .i64 a4)) := by exact bel_of
            have bdk_ : BK ((vk62.setCell ⟨gbR, 0, none⟩ (.int .i64 (a3 + m * a4))).setCell ⟨gbR, 1, none⟩ (.int .i64 a4)) gbd _ _ := (BK.far (BK.far bdk (p := ⟨gbR, 0, none⟩) (by first | assumption | exact Ne.symm (by assumption)) _) (p := ⟨gbR, 1, none⟩) (by first | assumption | exact Ne.symm (by assumption)) _); clear bdk; have bdk := bdk_; clear bdk_
            have bL_ : BK ((vk62.setCell ⟨gbR, 0, none⟩ (.int .i64 (a3 + m * a4))).setCell ⟨gbR, 1, none⟩ (.int .i64 a4)) gbL _ _ := (BK.far (BK.far bL (p := ⟨gbR, 0, none⟩) (by first | assumption | exact Ne.symm (by assumption)) _) (p := ⟨gbR, 1, none⟩) (by first | assumption | exact Ne.symm (by assumption)) _); clear bL; have bL := bL_; clear bL_
            have bR_ := ((bR.set 0 (.int .i64 (a3 + m * a4))).set 1 (.int .i64 a4))
            simp at bR_
            clear bR; have bR := bR_; clear bR_
            clear y0 f0 y1 f1
            refine hK _ _ (fun _ => ek63) ?_
            clear hK K
            generalize ((vk62.setCell ⟨gbR, 0, none⟩ (.int .i64 (a3 + m * a4))).setCell ⟨gbR, 1, none⟩ (.int .i64 a4)) = vk64 at *
            refine any_done (by kernel_rfl) (NoPanic.normal ?_)
            exact ⟨gbL, gbR, rfl, rfl, hC.trans (ek63.mono hC.size), bdk, bL, bR, Nat.le_trans hC.size (by omega), Nat.le_trans hC.size (by omega), (by assumption), (by assumption), (by first | assumption | exact Ne.symm (by assumption))⟩
           ·skip
            intro K hK
            have qk66 := ek52.size
            have ek65 : Below w14.heap.size w14 (vk54.alloc (.cells #[.int .i64 0, .int .i64 0] 25)) := Below.alloc ek52 ek52.size _
            have hnx : Below vk54.heap.size vk54 (vk54.alloc (.cells #[.int .i64 0, .int .i64 0] 25)) := Below.alloc (Below.refl _ _) (Nat.le_refl _) _
            go_wp2_with fail
            have nebdkbL : gbd ≠ vk54.heap.size := Nat.ne_of_lt bdk.lt
            have nebRbL : gbR ≠ vk54.heap.size := Nat.ne_of_lt bR.lt
            replace bdk := bdk.below hnx bdk.lt
            replace bR := bR.below hnx bR.lt
            have bL : BK (vk54.alloc (.cells #[.int .i64 0, .int .i64 0] 25)) vk54.heap.size #[.int .i64 0, .int .i64 0] 25 := BK.new _ _ _
            refine hK _ _ (fun _ => ek65) ?_
            clear hK K hnx
            generalize (vk54.alloc (.cells #[.int .i64 0, .int .i64 0] 25)) = vk67 at *
            obtain ⟨gbL, hgbL⟩ : ∃ g, vk54.heap.size = g := ⟨_, rfl⟩
            have hqbL : w14.heap.size ≤ gbL := by omega
            rw [hgbL] at bL nebdkbL nebRbL
            try rw [hgbL]
            clear hgbL
            refine any_run1 (i := 27) (by kernel_rfl) (by rfl) (by kernel_rfl) ?_
            intro K hK
            have qk70 := ek65.size
            go_wp2_with fail
            refine (of_any (a3 + m * a4) a4 _).mono ?_
            rintro e vk69 ⟨rfl, hb⟩
            have hb2 : Below vk67.heap.size vk67 vk69 := by rw [← hb]; exact bel_of
            clear hb
            have hb := hb2
            clear hb2
            have ek68 : Below w14.heap.size w14 vk69 := ek65.trans (hb.mono ek65.size)
            replace bdk := bdk.below hb bdk.lt
            replace bR := bR.below hb bR.lt
            replace bL := bL.below hb bL.lt
            clear hb
            refine hK _ _ (fun _ => ek68) ?_
            clear hK K
            refine any_run1 (i := 30) (by kernel_rfl) (by rfl) (by kernel_rfl) ?_
            intro K hK
            have lbL := bL.lt
            have y0 := bL.cell 0
            have f0 := bL.frozen 0
            have y1 := bL.cell 1
            have f1 := bL.frozen 1
            simp at y0 y1
            go_wp2_with fail
            have ek71 : Below w14.heap.size w14 ((vk69.setCell ⟨gbL, 0, none⟩ (.int .i64 (a1 + m * a2))).setCell ⟨gbL, 1, none⟩ (.int .i64 a2)) := by exact bel_of
            have bdk_ : BK ((vk69.setCell ⟨gbL, 0, none⟩ (.int .i64 (a1 + m * a2))).setCell ⟨gbL, 1, none⟩ (.int .i64 a2)) gbd _ _ := (BK.far (BK.far bdk (p := ⟨gbL, 0, none⟩) (by first | assumption | exact Ne.symm (by assumption)) _) (p := ⟨gbL, 1, none⟩) (by first | assumption | exact Ne.symm (by assumption)) _); clear bdk; have bdk := bdk_; clear bdk_
            have bR_ : BK ((vk69.setCell ⟨gbL, 0, none⟩ (.int .i64 (a1 + m * a2))).setCell ⟨gbL, 1, none⟩ (.int .i64 a2)) gbR _ _ := (BK.far (BK.far bR (p := ⟨gbL, 0, none⟩) (by first | assumption | exact Ne.symm (by assumption)) _) (p := ⟨gbL, 1, none⟩) (by first | assumption | exact Ne.symm (by assumption)) _); clear bR; have bR := bR_; clear bR_
            have bL_ := ((bL.set 0 (.int .i64 (a1 + m * a2))).set 1 (.int .i64 a2))
            simp at bL_
            clear bL; have bL := bL_; clear bL_
            clear y0 f0 y1 f1
            refine hK _ _ (fun _ => ek71) ?_
            clear hK K
            generalize ((vk69.setCell ⟨gbL, 0, none⟩ (.int .i64 (a1 + m * a2))).setCell ⟨gbL, 1, none⟩ (.int .i64 a2)) = vk72 at *
            refine any_run1 (i := 31) (by kernel_rfl) (by rfl) (by kernel_rfl) ?_
            intro K hK
            have lbR := bR.lt
            have y0 := bR.cell 0
            have f0 := bR.frozen 0
            have y1 := bR.cell 1
            have f1 := bR.frozen 1
            simp at y0 y1
            go_wp2_with fail
            have ek73 : Below w14.heap.size w14 ((vk72.setCell ⟨gbR, 0, none⟩ (.int .i64 (a3 + m * a4))).setCell ⟨gbR, 1, none⟩ (.int .i64 a4)) := by exact bel_of
            have bdk_ : BK ((vk72.setCell ⟨gbR, 0, none⟩ (.int .i64 (a3 + m * a4))).setCell ⟨gbR, 1, none⟩ (.int .i64 a4)) gbd _ _ := (BK.far (BK.far bdk (p := ⟨gbR, 0, none⟩) (by first | assumption | exact Ne.symm (by assumption)) _) (p := ⟨gbR, 1, none⟩) (by first | assumption | exact Ne.symm (by assumption)) _); clear bdk; have bdk := bdk_; clear bdk_
            have bL_ : BK ((vk72.setCell ⟨gbR, 0, none⟩ (.int .i64 (a3 + m * a4))).setCell ⟨gbR, 1, none⟩ (.int .i64 a4)) gbL _ _ := (BK.far (BK.far bL (p := ⟨gbR, 0, none⟩) (by first | assumption | exact Ne.symm (by assumption)) _) (p := ⟨gbR, 1, none⟩) (by first | assumption | exact Ne.symm (by assumption)) _); clear bL; have bL := bL_; clear bL_
            have bR_ := ((bR.set 0 (.int .i64 (a3 + m * a4))).set 1 (.int .i64 a4))
            simp at bR_
            clear bR; have bR := bR_; clear bR_
            clear y0 f0 y1 f1
            refine hK _ _ (fun _ => ek73) ?_
            clear hK K
            generalize ((vk72.setCell ⟨gbR, 0, none⟩ (.int .i64 (a3 + m * a4))).setCell ⟨gbR, 1, none⟩ (.int .i64 a4)) = vk74 at *
            refine any_done (by kernel_rfl) (NoPanic.normal ?_)
            exact ⟨gbL, gbR, rfl, rfl, hC.trans (ek73.mono hC.size), bdk, bL, bR, Nat.le_trans hC.size (by omega), Nat.le_trans hC.size (by omega), (by assumption), (by assumption), (by first | assumption | exact Ne.symm (by assumption))⟩
         ·skip
          intro K hK
          have qk76 := dk1.size
          have ek75 : Below w14.heap.size w14 (uk2.alloc (.cells #[.int .i64 0, .int .i64 0] 25)) := Below.alloc dk1 dk1.size _
          have hnx : Below uk2.heap.size uk2 (uk2.alloc (.cells #[.int .i64 0, .int .i64 0] 25)) := Below.alloc (Below.refl _ _) (Nat.le_refl _) _
          go_wp2_with fail
          have nebdkbL : gbd ≠ uk2.heap.size := Nat.ne_of_lt bdk.lt
          replace bdk := bdk.below hnx bdk.lt
          have bL : BK (uk2.alloc (.cells #[.int .i64 0, .int .i64 0] 25)) uk2.heap.size #[.int .i64 0, .int .i64 0] 25 := BK.new _ _ _
          refine hK _ _ (fun _ => ek75) ?_
          clear hK K hnx
          generalize (uk2.alloc (.cells #[.int .i64 0, .int .i64 0] 25)) = vk77 at *
          obtain ⟨gbL, hgbL⟩ : ∃ g, uk2.heap.size = g := ⟨_, rfl⟩
          have hqbL : w14.heap.size ≤ gbL := by omega
          rw [hgbL] at bL nebdkbL
          try rw [hgbL]
          clear hgbL
          refine any_run2 (i := 13) (j := 29) (by kernel_rfl) (by rfl) (by rfl) (by rfl) (by rfl) ?_ ?_
          ·skip
           intro K hK
           have qk80 := ek75.size
           go_wp2_with fail
           refine (of_any (a1 + m * a2) a2 _).mono ?_
           rintro e vk79 ⟨rfl, hb⟩
           have hb2 : Below vk77.heap.size vk77 vk79 := by rw [← hb]; exact bel_of
           clear hb
           have hb := hb2
           clear hb2
           have ek78 : Below w14.heap.size w14 vk79 := ek75.trans (hb.mono ek75.size)
           replace bdk := bdk.below hb bdk.lt
           replace bL := bL.below hb bL.lt
           clear hb
           refine hK _ _ (fun _ => ek78) ?_
           clear hK K
           refine any_run2 (i := 27) (j := 29) (by kernel_rfl) (by rfl) (by rfl) (by rfl) (by rfl) ?_ ?_
           ·skip
            intro K hK
            have qk83 := ek78.size
            go_wp2_with fail
            refine (of_any (a3 + m * a4) a4 _).mono ?_
            rintro e vk82 ⟨rfl, hb⟩
            have hb2 : Below vk79.heap.size vk79 vk82 := by rw [← hb]; exact bel_of
            clear hb
            have hb := hb2
            clear hb2
            have ek81 : Below w14.heap.size w14 vk82 := ek78.trans (hb.mono ek78.size)
            replace bdk := bdk.below hb bdk.lt
            replace bL := bL.below hb bL.lt
            clear hb
            refine hK _ _ (fun _ => ek81) ?_
            clear hK K
            refine any_run1 (i := 29) (by kernel_rfl) (by rfl) (by kernel_rfl) ?_
            intro K hK
            have qk85 := ek81.size
            have ek84 : Below w14.heap.size w14 (vk82.alloc (.cells #[.int .i64 0, .int .i64 0] 25)) := Below.alloc ek81 ek81.size _
            have hnx : Below vk82.heap.size vk82 (vk82.alloc (.cells #[.int .i64 0, .int .i64 0] 25)) := Below.alloc (Below.refl _ _) (Nat.le_refl _) _
            go_wp2_with fail
            have nebdkbR : gbd ≠ vk82.heap.size := Nat.ne_of_lt bdk.lt
            have nebLbR : gbL ≠ vk82.heap.size := Nat.ne_of_lt bL.lt
            replace bdk := bdk.below hnx bdk.lt
            replace bL := bL.below hnx bL.lt
            have bR : BK (vk82.alloc (.cells #[.int .i64 0, .int .i64 0] 25)) vk82.heap.size #[.int .i64 0, .int .i64 0] 25 := BK.new _ _ _
            refine hK _ _ (fun _ => ek84) ?_
            clear hK K hnx
            generalize (vk82.alloc (.cells #[.int .i64 0, .int .i64 0] 25)) = vk86 at *
            obtain ⟨gbR, hgbR⟩ : ∃ g, vk82.heap.size = g := ⟨_, rfl⟩
            have hqbR : w14.heap.size ≤ gbR := by omega
            rw [hgbR] at bR nebdkbR nebLbR
            try rw [hgbR]
            clear hgbR
            refine any_run1 (i := 30) (by kernel_rfl) (by rfl) (by kernel_rfl) ?_
            intro K hK
            have lbL := bL.lt
            have y0 := bL.cell 0
            have f0 := bL.frozen 0
            have y1 := bL.cell 1
            have f1 := bL.frozen 1
            simp at y0 y1
            go_wp2_with fail
            have ek87 : Below w14.heap.size w14 ((vk86.setCell ⟨gbL, 0, none⟩ (.int .i64 (a1 + m * a2))).setCell ⟨gbL, 1, none⟩ (.int .i64 a2)) := by exact bel_of
            have bdk_ : BK ((vk86.setCell ⟨gbL, 0, none⟩ (.int .i64 (a1 + m * a2))).setCell ⟨gbL, 1, none⟩ (.int .i64 a2)) gbd _ _ := (BK.far (BK.far bdk (p := ⟨gbL, 0, none⟩) (by first | assumption | exact Ne.symm (by assumption)) _) (p := ⟨gbL, 1, none⟩) (by first | assumption | exact Ne.symm (by assumption)) _); clear bdk; have bdk := bdk_; clear bdk_
            have bR_ : BK ((vk86.setCell ⟨gbL, 0, none⟩ (.int .i64 (a1 + m * a2))).setCell ⟨gbL, 1, none⟩ (.int .i64 a2)) gbR _ _ := (BK.far (BK.far bR (p := ⟨gbL, 0, none⟩) (by first | assumption | exact Ne.symm (by assumption)) _) (p := ⟨gbL, 1, none⟩) (by first | assumption | exact Ne.symm (by assumption)) _); clear bR; have bR := bR_; clear bR_
            have bL_ := ((bL.set 0 (.int .i64 (a1 + m * a2))).set 1 (.int .i64 a2))
            simp at bL_
            clear bL; have bL := bL_; clear bL_
            clear y0 f0 y1 f1
            refine hK _ _ (fun _ => ek87) ?_
            clear hK K
            generalize ((vk86.setCell ⟨gbL, 0, none⟩ (.int .i64 (a1 + m * a2))).setCell ⟨gbL, 1, none⟩ (.int .i64 a2)) = vk88 at *
            refine any_run1 (i := 31) (by kernel_rfl) (by rfl) (by kernel_rfl) ?_
            intro K hK
            have lbR := bR.lt
            have y0 := bR.cell 0
            have f0 := bR.frozen 0
            have y1 := bR.cell 1
            have f1 := bR.frozen 1
            simp at y0 y1
            go_wp2_with fail
            have ek89 : Below w14.heap.size w14 ((vk88.setCell ⟨gbR, 0, none⟩ (.int .i64 (a3 + m * a4))).setCell ⟨gbR, 1, none⟩ (.int .i64 a4)) := by exact bel_of
            have bdk_ : BK ((vk88.setCell ⟨gbR, 0, none⟩ (.int .i64 (a3 + m * a4))).setCell ⟨gbR, 1, none⟩ (.int .i64 a4)) gbd _ _ := (BK.far (BK.far bdk (p := ⟨gbR, 0, none⟩) (by first | assumption | exact Ne.symm (by assumption)) _) (p := ⟨gbR, 1, none⟩) (by first | assumption | exact Ne.symm (by assumption)) _); clear bdk; have bdk := bdk_; clear bdk_
            have bL_ : BK ((vk88.setCell ⟨gbR, 0, none⟩ (.int .i64 (a3 + m * a4))).setCell ⟨gbR, 1, none⟩ (.int .i64 a4)) gbL _ _ := (BK.far (BK.far bL (p := ⟨gbR, 0, none⟩) (by first | assumption | exact Ne.symm (by assumption)) _) (p := ⟨gbR, 1, none⟩) (by first | assumption | exact Ne.symm (by assumption)) _); clear bL; have bL := bL_; clear bL_
            have bR_ := ((bR.set 0 (.int .i64 (a3 + m * a4))).set 1 (.int .i64 a4))
            simp at bR_
            clear bR; have bR := bR_; clear bR_
            clear y0 f0 y1 f1
            refine hK _ _ (fun _ => ek89) ?_
            clear hK K
            generalize ((vk88.setCell ⟨gbR, 0, none⟩ (.int .i64 (a3 + m * a4))).setCell ⟨gbR, 1, none⟩ (.int .i64 a4)) = vk90 at *
            refine any_done (by kernel_rfl) (NoPanic.normal ?_)
            exact ⟨gbL, gbR, rfl, rfl, hC.trans (ek89.mono hC.size), bdk, bL, bR, Nat.le_trans hC.size (by omega), Nat.le_trans hC.size (by omega), (by assumption), (by assumption), (by first | assumption | exact Ne.symm (by assumption))⟩
           ·skip
            intro K hK
            have qk92 := ek78.size
            have ek91 : Below w14.heap.size w14 (vk79.alloc (.cells #[.int .i64 0, .int .i64 0] 25)) := Below.alloc ek78 ek78.size _
            have hnx : Below vk79.heap.size vk79 (vk79.alloc (.cells #[.int .i64 0, .int .i64 0] 25)) := Below.alloc (Below.refl _ _) (Nat.le_refl _) _
            go_wp2_with fail
            have nebdkbR : gbd ≠ vk79.heap.size := Nat.ne_of_lt bdk.lt
            have nebLbR : gbL ≠ vk79.heap.size := Nat.ne_of_lt bL.lt
            replace bdk := bdk.below hnx bdk.lt
            replace bL := bL.below hnx bL.lt
            have bR : BK (vk79.alloc (.cells #[.int .i64 0, .int .i64 0] 25)) vk79.heap.size #[.int .i64 0, .int .i64 0] 25 := BK.new _ _ _
            refine hK _ _ (fun _ => ek91) ?_
            clear hK K hnx
            generalize (vk79.alloc (.cells #[.int .i64 0, .int .i64 0] 25)) = vk93 at *
            obtain ⟨gbR, hgbR⟩ : ∃ g, vk79.heap.size = g := ⟨_, rfl⟩
            have hqbR : w14.heap.size ≤ gbR := by omega
            rw [hgbR] at bR nebdkbR nebLbR
            try rw [hgbR]
            clear hgbR
            refine any_run1 (i := 27) (by kernel_rfl) (by rfl) (by kernel_rfl) ?_
            intro K hK
            have qk96 := ek91.size
            go_wp2_with fail
            refine (of_any (a3 + m * a4) a4 _).mono ?_
            rintro e vk95 ⟨rfl, hb⟩
            have hb2 : Below vk93.heap.size vk93 vk95 := by rw [← hb]; exact bel_of
            clear hb
            have hb := hb2
            clear hb2
            have ek94 : Below w14.heap.size w14 vk95 := ek91.trans (hb.mono ek91.size)
            replace bdk := bdk.below hb bdk.lt
            replace bL := bL.below hb bL.lt
            replace bR := bR.below hb bR.lt
            clear hb
            refine hK _ _ (fun _ => ek94) ?_
            clear hK K
            refine any_run1 (i := 30) (by kernel_rfl) (by rfl) (by kernel_rfl) ?_
            intro K hK
            have lbL := bL.lt
            have y0 := bL.cell 0
            have f0 := bL.frozen 0
            have y1 := bL.cell 1
            have f1 := bL.frozen 1
            simp at y0 y1
            go_wp2_with fail
            have ek97 : Below w14.heap.size w14 ((vk95.setCell ⟨gbL, 0, none⟩ (.int .i64 (a1 + m * a2))).setCell ⟨gbL, 1, none⟩ (.int .i64 a2)) := by exact bel_of
            have bdk_ : BK ((vk95.setCell ⟨gbL, 0, none⟩ (.int .i64 (a1 + m * a2))).setCell ⟨gbL, 1, none⟩ (.int .i64 a2)) gbd _ _ := (BK.far (BK.far bdk (p := ⟨gbL, 0, none⟩) (by first | assumption | exact Ne.symm (by assumption)) _) (p := ⟨gbL, 1, none⟩) (by first | assumption | exact Ne.symm (by assumption)) _); clear bdk; have bdk := bdk_; clear bdk_
            have bR_ : BK ((vk95.setCell ⟨gbL, 0, none⟩ (.int .i64 (a1 + m * a2))).setCell ⟨gbL, 1, none⟩ (.int .i64 a2)) gbR _ _ := (BK.far (BK.far bR (p := ⟨gbL, 0, none⟩) (by first | assumption | exact Ne.symm (by assumption)) _) (p := ⟨gbL, 1, none⟩) (by first | assumption | exact Ne.symm (by assumption)) _); clear bR; have bR := bR_; clear bR_
            have bL_ := ((bL.set 0 (.int .i64 (a1 + m * a2))).set 1 (.int .i64 a2))
            simp at bL_
            clear bL; have bL := bL_; clear bL_
            clear y0 f0 y1 f1
            refine hK _ _ (fun _ => ek97) ?_
            clear hK K
            generalize ((vk95.setCell ⟨gbL, 0, none⟩ (.int .i64 (a1 + m * a2))).setCell ⟨gbL, 1, none⟩ (.int .i64 a2)) = vk98 at *
            refine any_run1 (i := 31) (by kernel_rfl) (by rfl) (by kernel_rfl) ?_
            intro K hK
            have lbR := bR.lt
            have y0 := bR.cell 0
            have f0 := bR.frozen 0
            have y1 := bR.cell 1
            have f1 := bR.frozen 1
            simp at y0 y1
            go_wp2_with fail
            have ek99 : Below w14.heap.size w14 ((vk98.setCell ⟨gbR, 0, none⟩ (.int .i64 (a3 + m * a4))).setCell ⟨gbR, 1, none⟩ (.int .i64 a4)) := by exact bel_of
            have bdk_ : BK ((vk98.setCell ⟨gbR, 0, none⟩ (.int .i64 (a3 + m * a4))).setCell ⟨gbR, 1, none⟩ (.int .i64 a4)) gbd _ _ := (BK.far (BK.far bdk (p := ⟨gbR, 0, none⟩) (by first | assumption | exact Ne.symm (by assumption)) _) (p := ⟨gbR, 1, none⟩) (by first | assumption | exact Ne.symm (by assumption)) _); clear bdk; have bdk := bdk_; clear bdk_
            have bL_ : BK ((vk98.setCell ⟨gbR, 0, none⟩ (.int .i64 (a3 + m * a4))).setCell ⟨gbR, 1, none⟩ (.int .i64 a4)) gbL _ _ := (BK.far (BK.far bL (p := ⟨gbR, 0, none⟩) (by first | assumption | exact Ne.symm (by assumption)) _) (p := ⟨gbR, 1, none⟩) (by first | assumption | exact Ne.symm (by assumption)) _); clear bL; have bL := bL_; clear bL_
            have bR_ := ((bR.set 0 (.int .i64 (a3 + m * a4))).set 1 (.int .i64 a4))
            simp at bR_
            clear bR; have bR := bR_; clear bR_
            clear y0 f0 y1 f1
            refine hK _ _ (fun _ => ek99) ?_
            clear hK K
            generalize ((vk98.setCell ⟨gbR, 0, none⟩ (.int .i64 (a3 + m * a4))).setCell ⟨gbR, 1, none⟩ (.int .i64 a4)) = vk100 at *
            refine any_done (by kernel_rfl) (NoPanic.normal ?_)
            exact ⟨gbL, gbR, rfl, rfl, hC.trans (ek99.mono hC.size), bdk, bL, bR, Nat.le_trans hC.size (by omega), Nat.le_trans hC.size (by omega), (by assumption), (by assumption), (by first | assumption | exact Ne.symm (by assumption))⟩
          ·skip
           intro K hK
           have qk102 := ek75.size
           have ek101 : Below w14.heap.size w14 (vk77.alloc (.cells #[.int .i64 0, .int .i64 0] 25)) := Below.alloc ek75 ek75.size _
           have hnx : Below vk77.heap.size vk77 (vk77.alloc (.cells #[.int .i64 0, .int .i64 0] 25)) := Below.alloc (Below.refl _ _) (Nat.le_refl _) _
           go_wp2_with fail
           have nebdkbR : gbd ≠ vk77.heap.size := Nat.ne_of_lt bdk.lt
           have nebLbR : gbL ≠ vk77.heap.size := Nat.ne_of_lt bL.lt
           replace bdk := bdk.below hnx bdk.lt
           replace bL := bL.below hnx bL.lt
           have bR : BK (vk77.alloc (.cells #[.int .i64 0, .int .i64 0] 25)) vk77.heap.size #[.int .i64 0, .int .i64 0] 25 := BK.new _ _ _
           refine hK _ _ (fun _ => ek101) ?_
           clear hK K hnx
           generalize (vk77.alloc (.cells #[.int .i64 0, .int .i64 0] 25)) = vk103 at *
           obtain ⟨gbR, hgbR⟩ : ∃ g, vk77.heap.size = g := ⟨_, rfl⟩
           have hqbR : w14.heap.size ≤ gbR := by omega
           rw [hgbR] at bR nebdkbR nebLbR
           try rw [hgbR]
           clear hgbR
           refine any_run1 (i := 13) (by kernel_rfl) (by rfl) (by kernel_rfl) ?_
           intro K hK
           have qk106 := ek101.size
           go_wp2_with fail
           refine (of_any (a1 + m * a2) a2 _).mono ?_
           rintro e vk105 ⟨rfl, hb⟩
           have hb2 : Below vk103.heap.size vk103 vk105 := by rw [← hb]; exact bel_of
           clear hb
           have hb := hb2
           clear hb2
           have ek104 : Below w14.heap.size w14 vk105 := ek101.trans (hb.mono ek101.size)
           replace bdk := bdk.below hb bdk.lt
           replace bL := bL.below hb bL.lt
           replace bR := bR.below hb bR.lt
           clear hb
           refine hK _ _ (fun _ => ek104) ?_
           clear hK K
           refine any_run1 (i := 27) (by kernel_rfl) (by rfl) (by kernel_rfl) ?_
           intro K hK
           have qk109 := ek104.size
           go_wp2_with fail
           refine (of_any (a3 + m * a4) a4 _).mono ?_
           rintro e vk108 ⟨rfl, hb⟩
           have hb2 : Below vk105.heap.size vk105 vk108 := by rw [← hb]; exact bel_of
           clear hb
           have hb := hb2
           clear hb2
           have ek107 : Below w14.heap.size w14 vk108 := ek104.trans (hb.mono ek104.size)
           replace bdk := bdk.below hb bdk.lt
           replace bL := bL.below hb bL.lt
           replace bR := bR.below hb bR.lt
           clear hb
           refine hK _ _ (fun _ => ek107) ?_
           clear hK K
           refine any_run1 (i := 30) (by kernel_rfl) (by rfl) (by kernel_rfl) ?_
           intro K hK
           have lbL := bL.lt
           have y0 := bL.cell 0
           have f0 := bL.frozen 0
           have y1 := bL.cell 1
           have f1 := bL.frozen 1
           simp at y0 y1
           go_wp2_with fail
           have ek110 : Below w14.heap.size w14 ((vk108.setCell ⟨gbL, 0, none⟩ (.int .i64 (a1 + m * a2))).setCell ⟨gbL, 1, none⟩ (.int .i64 a2)) := by exact bel_of
           have bdk_ : BK ((vk108.setCell ⟨gbL, 0, none⟩ (.int .i64 (a1 + m * a2))).setCell ⟨gbL, 1, none⟩ (.int .i64 a2)) gbd _ _ := (BK.far (BK.far bdk (p := ⟨gbL, 0, none⟩) (by first | assumption | exact Ne.symm (by assumption)) _) (p := ⟨gbL, 1, none⟩) (by first | assumption | exact Ne.symm (by assumption)) _); clear bdk; have bdk := bdk_; clear bdk_
           have bR_ : BK ((vk108.setCell ⟨gbL, 0, none⟩ (.int .i64 (a1 + m * a2))).setCell ⟨gbL, 1, none⟩ (.int .i64 a2)) gbR _ _ := (BK.far (BK.far bR (p := ⟨gbL, 0, none⟩) (by first | assumption | exact Ne.symm (by assumption)) _) (p := ⟨gbL, 1, none⟩) (by first | assumption | exact Ne.symm (by assumption)) _); clear bR; have bR := bR_; clear bR_
           have bL_ := ((bL.set 0 (.int .i64 (a1 + m * a2))).set 1 (.int .i64 a2))
           simp at bL_
           clear bL; have bL := bL_; clear bL_
           clear y0 f0 y1 f1
           refine hK _ _ (fun _ => ek110) ?_
           clear hK K
           generalize ((vk108.setCell ⟨gbL, 0, none⟩ (.int .i64 (a1 + m * a2))).setCell ⟨gbL, 1, none⟩ (.int .i64 a2)) = vk111 at *
           refine any_run1 (i := 31) (by kernel_rfl) (by rfl) (by kernel_rfl) ?_
           intro K hK
           have lbR := bR.lt
           have y0 := bR.cell 0
           have f0 := bR.frozen 0
           have y1 := bR.cell 1
           have f1 := bR.frozen 1
           simp at y0 y1
           go_wp2_with fail
           have ek112 : Below w14.heap.size w14 ((vk111.setCell ⟨gbR, 0, none⟩ (.int .i64 (a3 + m * a4))).setCell ⟨gbR, 1, none⟩ (.int .i64 a4)) := by exact bel_of
           have bdk_ : BK ((vk111.setCell ⟨gbR, 0, none⟩ (.int .i64 (a3 + m * a4))).setCell ⟨gbR, 1, none⟩ (.int .i64 a4)) gbd _ _ := (BK.far (BK.far bdk (p := ⟨gbR, 0, none⟩) (by first | assumption | exact Ne.symm (by assumption)) _) (p := ⟨gbR, 1, none⟩) (by first | assumption | exact Ne.symm (by assumption)) _); clear bdk; have bdk := bdk_; clear bdk_
           have bL_ : BK ((vk111.setCell ⟨gbR, 0, none⟩ (.int .i64 (a3 + m * a4))).setCell ⟨gbR, 1, none⟩ (.int .i64 a4)) gbL _ _ := (BK.far (BK.far bL (p := ⟨gbR, 0, none⟩) (by first | assumption | exact Ne.symm (by assumption)) _) (p := ⟨gbR, 1, none⟩) (by first | assumption | exact Ne.symm (by assumption)) _); clear bL; have bL := bL_; clear bL_
           have bR_ := ((bR.set 0 (.int .i64 (a3 + m * a4))).set 1 (.int .i64 a4))
           simp at bR_
           clear bR; have bR := bR_; clear bR_
           clear y0 f0 y1 f1
           refine hK _ _ (fun _ => ek112) ?_
           clear hK K
           generalize ((vk111.setCell ⟨gbR, 0, none⟩ (.int .i64 (a3 + m * a4))).setCell ⟨gbR, 1, none⟩ (.int .i64 a4)) = vk113 at *
           refine any_done (by kernel_rfl) (NoPanic.normal ?_)
           exact ⟨gbL, gbR, rfl, rfl, hC.trans (ek112.mono hC.size), bdk, bL, bR, Nat.le_trans hC.size (by omega), Nat.le_trans hC.size (by omega), (by assumption), (by assumption), (by first | assumption | exact Ne.symm (by assumption))⟩
         ·skip
          intro K hK
          have qk115 := dk1.size
          have ek114 : Below w14.heap.size w14 (uk2.alloc (.cells #[.int .i64 0, .int .i64 0] 25)) := Below.alloc dk1 dk1.size _
          have hnx : Below uk2.heap.size uk2 (uk2.alloc (.cells #[.int .i64 0, .int .i64 0] 25)) := Below.alloc (Below.refl _ _) (Nat.le_refl _) _
          go_wp2_with fail
          have nebdkbR : gbd ≠ uk2.heap.size := Nat.ne_of_lt bdk.lt
          replace bdk := bdk.below hnx bdk.lt
          have bR : BK (uk2.alloc (.cells #[.int .i64 0, .int .i64 0] 25)) uk2.heap.size #[.int .i64 0, .int .i64 0] 25 := BK.new _ _ _
          refine hK _ _ (fun _ => ek114) ?_
          clear hK K hnx
          generalize (uk2.alloc (.cells #[.int .i64 0, .int .i64 0] 25)) = vk116 at *
          obtain ⟨gbR, hgbR⟩ : ∃ g, uk2.heap.size = g := ⟨_, rfl⟩
          have hqbR : w14.heap.size ≤ gbR := by omega
          rw [hgbR] at bR nebdkbR
          try rw [hgbR]
          clear hgbR
          refine any_run2 (i := 13) (j := 28) (by kernel_rfl) (by rfl) (by rfl) (by rfl) (by rfl) ?_ ?_
          ·skip
           intro K hK
           have qk119 := ek114.size
           go_wp2_with fail
           refine (of_any (a1 + m * a2) a2 _).mono ?_
           rintro e vk118 ⟨rfl, hb⟩
           have hb2 : Below vk116.heap.size vk116 vk118 := by rw [← hb]; exact bel_of
           clear hb
           have hb := hb2
           clear hb2
           have ek117 : Below w14.heap.size w14 vk118 := ek114.trans (hb.mono ek114.size)
           replace bdk := bdk.below hb bdk.lt
           replace bR := bR.below hb bR.lt
           clear hb
           refine hK _ _ (fun _ => ek117) ?_
           clear hK K
           refine any_run2 (i := 27) (j := 28) (by kernel_rfl) (by rfl) (by rfl) (by rfl) (by rfl) ?_ ?_
           ·skip
            intro K hK
            have qk122 := ek117.size
            go_wp2_with fail
            refine (of_any (a3 + m * a4) a4 _).mono ?_
            rintro e vk121 ⟨rfl, hb⟩
            have hb2 : Below vk118.heap.size vk118 vk121 := by rw [← hb]; exact bel_of
            clear hb
            have hb := hb2
            clear hb2
            have ek120 : Below w14.heap.size w14 vk121 := ek117.trans (hb.mono ek117.size)
            replace bdk := bdk.below hb bdk.lt
            replace bR := bR.below hb bR.lt
            clear hb
            refine hK _ _ (fun _ => ek120) ?_
            clear hK K
            refine any_run1 (i := 28) (by kernel_rfl) (by rfl) (by kernel_rfl) ?_
            intro K hK
            have qk124 := ek120.size
            have ek123 : Below w14.heap.size w14 (vk121.alloc (.cells #[.int .i64 0, .int .i64 0] 25)) := Below.alloc ek120 ek120.size _
            have hnx : Below vk121.heap.size vk121 (vk121.alloc (.cells #[.int .i64 0, .int .i64 0] 25)) := Below.alloc (Below.refl _ _) (Nat.le_refl _) _
            go_wp2_with fail
            have nebdkbL : gbd ≠ vk121.heap.size := Nat.ne_of_lt bdk.lt
            have nebRbL : gbR ≠ vk121.heap.size := Nat.ne_of_lt bR.lt
            replace bdk := bdk.below hnx bdk.lt
            replace bR := bR.below hnx bR.lt
            have bL : BK (vk121.alloc (.cells #[.int .i64 0, .int .i64 0] 25)) vk121.heap.size #[.int .i64 0, .int .i64 0] 25 := BK.new _ _ _
            refine hK _ _ (fun _ => ek123) ?_
            clear hK K hnx
            generalize (vk121.alloc (.cells #[.int .i64 0, .int .i64 0] 25)) = vk125 at *
            obtain ⟨gbL, hgbL⟩ : ∃ g, vk121.heap.size = g := ⟨_, rfl⟩
            have hqbL : w14.heap.size ≤ gbL := by omega
            rw [hgbL] at bL nebdkbL nebRbL
            try rw [hgbL]
            clear hgbL
            refine any_run1 (i := 30) (by kernel_rfl) (by rfl) (by kernel_rfl) ?_
            intro K hK
            have lbL := bL.lt
            have y0 := bL.cell 0
            have f0 := bL.frozen 0
            have y1 := bL.cell 1
            have f1 := bL.frozen 1
            simp at y0 y1
            go_wp2_with fail
            have ek126 : Below w14.heap.size w14 ((vk125.setCell ⟨gbL, 0, none⟩ (.int .i64 (a1 + m * a2))).setCell ⟨gbL, 1, none⟩ (.int .i64 a2)) := by exact bel_of
            have bdk_ : BK ((vk125.setCell ⟨gbL, 0, none⟩ (.int .i64 (a1 + m * a2))).setCell ⟨gbL, 1, none⟩ (.int .i64 a2)) gbd _ _ := (BK.far (BK.far bdk (p := ⟨gbL, 0, none⟩) (by first | assumption | exact Ne.symm (by assumption)) _) (p := ⟨gbL, 1, none⟩) (by first | assumption | exact Ne.symm (by assumption)) _); clear bdk; have bdk := bdk_; clear bdk_
            have bR_ : BK ((vk125.setCell ⟨gbL, 0, none⟩ (.int .i64 (a1 + m * a2))).setCell ⟨gbL, 1, none⟩ (.int .i64 a2)) gbR _ _ := (BK.far (BK.far bR (p := ⟨gbL, 0, none⟩) (by first | assumption | exact Ne.symm (by assumption)) _) (p := ⟨gbL, 1, none⟩) (by first | assumption | exact Ne.symm (by assumption)) _); clear bR; have bR := bR_; clear bR_
            have bL_ := ((bL.set 0 (.int .i64 (a1 + m * a2))).set 1 (.int .i64 a2))
            simp at bL_
            clear bL; have bL := bL_; clear bL_
            clear y0 f0 y1 f1
            refine hK _ _ (fun _ => ek126) ?_
            clear hK K
            generalize ((vk125.setCell ⟨gbL, 0, none⟩ (.int .i64 (a1 + m * a2))).setCell ⟨gbL, 1, none⟩ (.int .i64 a2)) = vk127 at *
            refine any_run1 (i := 31) (by kernel_rfl) (by rfl) (by kernel_rfl) ?_
            intro K hK
            have lbR := bR.lt
            have y0 := bR.cell 0
            have f0 := bR.frozen 0
            have y1 := bR.cell 1
            have f1 := bR.frozen 1
            simp at y0 y1
            go_wp2_with fail
            have ek128 : Below w14.heap.size w14 ((vk127.setCell ⟨gbR, 0, none⟩ (.int .i64 (a3 + m * a4))).setCell ⟨gbR, 1, none⟩ (.int .i64 a4)) := by exact bel_of
            have bdk_ : BK ((vk127.setCell ⟨gbR, 0, none⟩ (.int .i64 (a3 + m * a4))).setCell ⟨gbR, 1, none⟩ (.int .i64 a4)) gbd _ _ := (BK.far (BK.far bdk (p := ⟨gbR, 0, none⟩) (by first | assumption | exact Ne.symm (by assumption)) _) (p := ⟨gbR, 1, none⟩) (by first | assumption | exact Ne.symm (by assumption)) _); clear bdk; have bdk := bdk_; clear bdk_
            have bL_ : BK ((vk127.setCell ⟨gbR, 0, none⟩ (.int .i64 (a3 + m * a4))).setCell ⟨gbR, 1, none⟩ (.int .i64 a4)) gbL _ _ := (BK.far (BK.far bL (p := ⟨gbR, 0, none⟩) (by first | assumption | exact Ne.symm (by assumption)) _) (p := ⟨gbR, 1, none⟩) (by first | assumption | exact Ne.symm (by assumption)) _); clear bL; have bL := bL_; clear bL_
            have bR_ := ((bR.set 0 (.int .i64 (a3 + m * a4))).set 1 (.int .i64 a4))
            simp at bR_
            clear bR; have bR := bR_; clear bR_
            clear y0 f0 y1 f1
            refine hK _ _ (fun _ => ek128) ?_
            clear hK K
            generalize ((vk127.setCell ⟨gbR, 0, none⟩ (.int .i64 (a3 + m * a4))).setCell ⟨gbR, 1, none⟩ (.int .i64 a4)) = vk129 at *
            refine any_done (by kernel_rfl) (NoPanic.normal ?_)
            exact ⟨gbL, gbR, rfl, rfl, hC.trans (ek128.mono hC.size), bdk, bL, bR, Nat.le_trans hC.size (by omega), Nat.le_trans hC.size (by omega), (by assumption), (by assumption), (by first | assumption | exact Ne.symm (by assumption))⟩
           ·skip
            intro K hK
            have qk131 := ek117.size
            have ek130 : Below w14.heap.size w14 (vk118.alloc (.cells #[.int .i64 0, .int .i64 0] 25)) := Below.alloc ek117 ek117.size _
            have hnx : Below vk118.heap.size vk118 (vk118.alloc (.cells #[.int .i64 0, .int .i64 0] 25)) := Below.alloc (Below.refl _ _) (Nat.le_refl _) _
            go_wp2_with fail
            have nebdkbL : gbd ≠ vk118.heap.size := Nat.ne_of_lt bdk.lt
            have nebRbL : gbR ≠ vk118.heap.size := Nat.ne_of_lt bR.lt
            replace bdk := bdk.below hnx bdk.lt
            replace bR := bR.below hnx bR.lt
            have bL : BK (vk118.alloc (.cells #[.int .i64 0, .int .i64 0] 25)) vk118.heap.size #[.int .i64 0, .int .i64 0] 25 := BK.new _ _ _
            refine hK _ _ (fun _ => ek130) ?_
            clear hK K hnx
            generalize (vk118.alloc (.cells #[.int .i64 0, .int .i64 0] 25)) = vk132 at *
            obtain ⟨gbL, hgbL⟩ : ∃ g, vk118.heap.size = g := ⟨_, rfl⟩
            have hqbL : w14.heap.size ≤ gbL := by omega
            rw [hgbL] at bL nebdkbL nebRbL
            try rw [hgbL]
            clear hgbL
            refine any_run1 (i := 27) (by kernel_rfl) (by rfl) (by kernel_rfl) ?_
            intro K hK
            have qk135 := ek130.size
            go_wp2_with fail
            refine (of_any (a3 + m * a4) a4 _).mono ?_
            rintro e vk134 ⟨rfl, hb⟩
            have hb2 : Below vk132.heap.size vk132 vk134 := by rw [← hb]; exact bel_of
            clear hb
            have hb := hb2
            clear hb2
            have ek133 : Below w14.heap.size w14 vk134 := ek130.trans (hb.mono ek130.size)
            replace bdk := bdk.below hb bdk.lt
            replace bR := bR.below hb bR.lt
            replace bL := bL.below hb bL.lt
            clear hb
            refine hK _ _ (fun _ => ek133) ?_
            clear hK K
            refine any_run1 (i := 30) (by kernel_rfl) (by rfl) (by kernel_rfl) ?_
            intro K hK
            have lbL := bL.lt
            have y0 := bL.cell 0
            have f0 := bL.frozen 0
            have y1 := bL.cell 1
            have f1 := bL.frozen 1
            simp at y0 y1
            go_wp2_with fail
            have ek136 : Below w14.heap.size w14 ((vk134.setCell ⟨gbL, 0, none⟩ (.int .i64 (a1 + m * a2))).setCell ⟨gbL, 1, none⟩ (.int .i64 a2)) := by exact bel_of
            have bdk_ : BK ((vk134.setCell ⟨gbL, 0, none⟩ (.int .i64 (a1 + m * a2))).setCell ⟨gbL, 1, none⟩ (.int .i64 a2)) gbd _ _ := (BK.far (BK.far bdk (p := ⟨gbL, 0, none⟩) (by first | assumption | exact Ne.symm (by assumption)) _) (p := ⟨gbL, 1, none⟩) (by first | assumption | exact Ne.symm (by assumption)) _); clear bdk; have bdk := bdk_; clear bdk_
            have bR_ : BK ((vk134.setCell ⟨gbL, 0, none⟩ (.int .i64 (a1 + m * a2))).setCell ⟨gbL, 1, none⟩ (.int .i64 a2)) gbR _ _ := (BK.far (BK.far bR (p := ⟨gbL, 0, none⟩) (by first | assumption | exact Ne.symm (by assumption)) _) (p := ⟨gbL, 1, none⟩) (by first | assumption | exact Ne.symm (by assumption)) _); clear bR; have bR := bR_; clear bR_
            have bL_ := ((bL.set 0 (.int .i64 (a1 + m * a2))).set 1 (.int .i64 a2))
            simp at bL_
            clear bL; have bL := bL_; clear bL_
            clear y0 f0 y1 f1
            refine hK _ _ (fun _ => ek136) ?_
            clear hK K
            generalize ((vk134.setCell ⟨gbL, 0, none⟩ (.int .i64 (a1 + m * a2))).setCell ⟨gbL, 1, none⟩ (.int .i64 a2)) = vk137 at *
            refine any_run1 (i := 31) (by kernel_rfl) (by rfl) (by kernel_rfl) ?_
            intro K hK
            have lbR := bR.lt
            have y0 := bR.cell 0
            have f0 := bR.frozen 0
            have y1 := bR.cell 1
            have f1 := bR.frozen 1
            simp at y0 y1
            go_wp2_with fail
            have ek138 : Below w14.heap.size w14 ((vk137.setCell ⟨gbR, 0, none⟩ (.int .i64 (a3 + m * a4))).setCell ⟨gbR, 1, none⟩ (.int .i64 a4)) := by exact bel_of
            have bdk_ : BK ((vk137.setCell ⟨gbR, 0, none⟩ (.int .i64 (a3 + m * a4))).setCell ⟨gbR, 1, none⟩ (.int .i64 a4)) gbd _ _ := (BK.far (BK.far bdk (p := ⟨gbR, 0, none⟩) (by first | assumption | exact Ne.symm (by assumption)) _) (p := ⟨gbR, 1, none⟩) (by first | assumption | exact Ne.symm (by assumption)) _); clear bdk; have bdk := bdk_; clear bdk_
            have bL_ : BK ((vk137.setCell ⟨gbR, 0, none⟩ (.int .i64 (a3 + m * a4))).setCell ⟨gbR, 1, none⟩ (.int .i64 a4)) gbL _ _ := (BK.far (BK.far bL (p := ⟨gbR, 0, none⟩) (by first | assumption | exact Ne.symm (by assumption)) _) (p := ⟨gbR, 1, none⟩) (by first | assumption | exact Ne.symm (by assumption)) _); clear bL; have bL := bL_; clear bL_
            have bR_ := ((bR.set 0 (.int .i64 (a3 + m * a4))).set 1 (.int .i64 a4))
            simp at bR_
            clear bR; have bR := bR_; clear bR_
            clear y0 f0 y1 f1
            refine hK _ _ (fun _ => ek138) ?_
            clear hK K
            generalize ((vk137.setCell ⟨gbR, 0, none⟩ (.int .i64 (a3 + m * a4))).setCell ⟨gbR, 1, none⟩ (.int .i64 a4)) = vk139 at *
            refine any_done (by kernel_rfl) (NoPanic.normal ?_)
            exact ⟨gbL, gbR, rfl, rfl, hC.trans (ek138.mono hC.size), bdk, bL, bR, Nat.le_trans hC.size (by omega), Nat.le_trans hC.size (by omega), (by assumption), (by assumption), (by first | assumption | exact Ne.symm (by assumption))⟩
          ·skip
           intro K hK
           have qk141 := ek114.size
           have ek140 : Below w14.heap.size w14 (vk116.alloc (.cells #[.int .i64 0, .int .i64 0] 25)) := Below.alloc ek114 ek114.size _
           have hnx : Below vk116.heap.size vk116 (vk116.alloc (.cells #[.int .i64 0, .int .i64 0] 25)) := Below.alloc (Below.refl _ _) (Nat.le_refl _) _
           go_wp2_with fail
           have nebdkbL : gbd ≠ vk116.heap.size := Nat.ne_of_lt bdk.lt
           have nebRbL : gbR ≠ vk116.heap.size := Nat.ne_of_lt bR.lt
           replace bdk := bdk.below hnx bdk.lt
           replace bR := bR.below hnx bR.lt
           have bL : BK (vk116.alloc (.cells #[.int .i64 0, .int .i64 0] 25)) vk116.heap.size #[.int .i64 0, .int .i64 0] 25 := BK.new _ _ _
           refine hK _ _ (fun _ => ek140) ?_
           clear hK K hnx
           generalize (vk116.alloc (.cells #[.int .i64 0, .int .i64 0] 25)) = vk142 at *
           obtain ⟨gbL, hgbL⟩ : ∃ g, vk116.heap.size = g := ⟨_, rfl⟩
           have hqbL : w14.heap.size ≤ gbL := by omega
           rw [hgbL] at bL nebdkbL nebRbL
           try rw [hgbL]
           clear hgbL
           refine any_run1 (i := 13) (by kernel_rfl) (by rfl) (by kernel_rfl) ?_
           intro K hK
           have qk145 := ek140.size
           go_wp2_with fail
           refine (of_any (a1 + m * a2) a2 _).mono ?_
           rintro e vk144 ⟨rfl, hb⟩
           have hb2 : Below vk142.heap.size vk142 vk144 := by rw [← hb]; exact bel_of
           clear hb
           have hb := hb2
           clear hb2
           have ek143 : Below w14.heap.size w14 vk144 := ek140.trans (hb.mono ek140.size)
           replace bdk := bdk.below hb bdk.lt
           replace bR := bR.below hb bR.lt
           replace bL := bL.below hb bL.lt
           clear hb
           refine hK _ _ (fun _ => ek143) ?_
           clear hK K
           refine any_run1 (i := 27) (by kernel_rfl) (by rfl) (by kernel_rfl) ?_
           intro K hK
           have qk148 := ek143.size
           go_wp2_with fail
           refine (of_any (a3 + m * a4) a4 _).mono ?_
           rintro e vk147 ⟨rfl, hb⟩
           have hb2 : Below vk144.heap.size vk144 vk147 := by rw [← hb]; exact bel_of
           clear hb
           have hb := hb2
           clear hb2
           have ek146 : Below w14.heap.size w14 vk147 := ek143.trans (hb.mono ek143.size)
           replace bdk := bdk.below hb bdk.lt
           replace bR := bR.below hb bR.lt
           replace bL := bL.below hb bL.lt
           clear hb
           refine hK _ _ (fun _ => ek146) ?_
           clear hK K
           refine any_run1 (i := 30) (by kernel_rfl) (by rfl) (by kernel_rfl) ?_
           intro K hK
           have lbL := bL.lt
           have y0 := bL.cell 0
           have f0 := bL.frozen 0
           have y1 := bL.cell 1
           have f1 := bL.frozen 1
           simp at y0 y1
           go_wp2_with fail
           have ek149 : Below w14.heap.size w14 ((vk147.setCell ⟨gbL, 0, none⟩ (.int .i64 (a1 + m * a2))).setCell ⟨gbL, 1, none⟩ (.int .i64 a2)) := by exact bel_of
           have bdk_ : BK ((vk147.setCell ⟨gbL, 0, none⟩ (.int .i64 (a1 + m * a2))).setCell ⟨gbL, 1, none⟩ (.int .i64 a2)) gbd _ _ := (BK.far (BK.far bdk (p := ⟨gbL, 0, none⟩) (by first | assumption | exact Ne.symm (by assumption)) _) (p := ⟨gbL, 1, none⟩) (by first | assumption | exact Ne.symm (by assumption)) _); clear bdk; have bdk := bdk_; clear bdk_
           have bR_ : BK ((vk147.setCell ⟨gbL, 0, none⟩ (.int .i64 (a1 + m * a2))).setCell ⟨gbL, 1, none⟩ (.int .i64 a2)) gbR _ _ := (BK.far (BK.far bR (p := ⟨gbL, 0, none⟩) (by first | assumption | exact Ne.symm (by assumption)) _) (p := ⟨gbL, 1, none⟩) (by first | assumption | exact Ne.symm (by assumption)) _); clear bR; have bR := bR_; clear bR_
           have bL_ := ((bL.set 0 (.int .i64 (a1 + m * a2))).set 1 (.int .i64 a2))
           simp at bL_
           clear bL; have bL := bL_; clear bL_
           clear y0 f0 y1 f1
           refine hK _ _ (fun _ => ek149) ?_
           clear hK K
           generalize ((vk147.setCell ⟨gbL, 0, none⟩ (.int .i64 (a1 + m * a2))).setCell ⟨gbL, 1, none⟩ (.int .i64 a2)) = vk150 at *
           refine any_run1 (i := 31) (by kernel_rfl) (by rfl) (by kernel_rfl) ?_
           intro K hK
           have lbR := bR.lt
           have y0 := bR.cell 0
           have f0 := bR.frozen 0
           have y1 := bR.cell 1
           have f1 := bR.frozen 1
           simp at y0 y1
           go_wp2_with fail
           have ek151 : Below w14.heap.size w14 ((vk150.setCell ⟨gbR, 0, none⟩ (.int .i64 (a3 + m * a4))).setCell ⟨gbR, 1, none⟩ (.int .i64 a4)) := by exact bel_of
           have bdk_ : BK ((vk150.setCell ⟨gbR, 0, none⟩ (.int .i64 (a3 + m * a4))).setCell ⟨gbR, 1, none⟩ (.int .i64 a4)) gbd _ _ := (BK.far (BK.far bdk (p := ⟨gbR, 0, none⟩) (by first | assumption | exact Ne.symm (by assumption)) _) (p := ⟨gbR, 1, none⟩) (by first | assumption | exact Ne.symm (by assumption)) _); clear bdk; have bdk := bdk_; clear bdk_
           have bL_ : BK ((vk150.setCell ⟨gbR, 0, none⟩ (.int .i64 (a3 + m * a4))).setCell ⟨gbR, 1, none⟩ (.int .i64 a4)) gbL _ _ := (BK.far (BK.far bL (p := ⟨gbR, 0, none⟩) (by first | assumption | exact Ne.symm (by assumption)) _) (p := ⟨gbR, 1, none⟩) (by first | assumption | exact Ne.symm (by assumption)) _); clear bL; have bL := bL_; clear bL_
           have bR_ := ((bR.set 0 (.int .i64 (a3 + m * a4))).set 1 (.int .i64 a4))
           simp at bR_
           clear bR; have bR := bR_; clear bR_
           clear y0 f0 y1 f1
           refine hK _ _ (fun _ => ek151) ?_
           clear hK K
           generalize ((vk150.setCell ⟨gbR, 0, none⟩ (.int .i64 (a3 + m * a4))).setCell ⟨gbR, 1, none⟩ (.int .i64 a4)) = vk152 at *
           refine any_done (by kernel_rfl) (NoPanic.normal ?_)
           exact ⟨gbL, gbR, rfl, rfl, hC.trans (ek151.mono hC.size), bdk, bL, bR, Nat.le_trans hC.size (by omega), Nat.le_trans hC.size (by omega), (by assumption), (by assumption), (by first | assumption | exact Ne.symm (by assumption))⟩
        case hr =>
         intro gx gy W hR
         obtain ⟨hC2, bd2, bL, bR, hx0, hy0, hdx, hdy, hxy⟩ := hR
         clear hC bd ba wz0 wz1 wz2 wz3 wz4
         have hC := hC2
         have bd := bd2
         clear hC2 bd2
         have wn : IntKind.i64.wrap ((l.length : Int) - 1) = (l.length : Int) - 1 := by rw [IntKind.wrap_i64]; omega
         obtain ⟨_, _, mv1, mv2, mv3, mv4⟩ := HMV.out
         clear HMV
         have M1 := Lib.hid mv1
         have M2 := Lib.hid mv2
         have M3 := Lib.hid mv3
         have M4 := Lib.hid mv4
         clear mv1 mv2 mv3 mv4
         by_cases hs0 : s = 0
         ·skip
          have z0 : ((s : Int) == 0) = true := beq_iff_eq.2 (by omega)
          obtain ⟨e1, e2⟩ := M1.out hs0
          rw [e1, e2] at bd
          clear e1 e2
          by_cases hs1 : s + 1 = l.length
          ·skip
           have z1 : ((s : Int) == (l.length : Int) - 1) = true := beq_iff_eq.2 (by omega)
           obtain ⟨e1, e2⟩ := M3.out hs1
           rw [e1, e2] at bd
           clear e1 e2 M1 M2 M3 M4
           have HS := Lib.hid hs1
           clear hs1
           have HT := Lib.hid hs0
           clear hs0
           go_wp2_with fail
           refine (of_any (-10000) 1 _).mono ?_
           rintro e VW2 ⟨rfl, hb0⟩
           have hb : Below W.heap.size W VW2 := by rw [← hb0]; exact bel_of
           clear hb0
           have hC2 : Below w.heap.size w VW2 := hC.trans (hb.mono hC.size)
           have bd2 := bd.below hb bd.lt
           have o2 := bR.below hb bR.lt
           have n2 := bL.below hb bL.lt
           clear hC bd bL bR hb
           have hC := hC2
           have bd := bd2
           have bR := o2
           have bL := n2
           clear hC2 bd2 o2 n2
           have lq := bL.lt
           have yc0 := bL.cell 0
           have yf0 := bL.frozen 0
           have yc1 := bL.cell 1
           have yf1 := bL.frozen 1
           simp at yc0 yc1
           go_upto_region 36 with fail
           have hC2 : Below w.heap.size w ((VW2.setCell ⟨gx, 0, none⟩ (.int .i64 (-10000))).setCell ⟨gx, 1, none⟩ (.int .i64 1)) := by exact bel_of
           have bd2 : BK ((VW2.setCell ⟨gx, 0, none⟩ (.int .i64 (-10000))).setCell ⟨gx, 1, none⟩ (.int .i64 1)) gbd _ _ := BK.far (BK.far bd (by assumption) _) (by assumption) _
           have o2 : BK ((VW2.setCell ⟨gx, 0, none⟩ (.int .i64 (-10000))).setCell ⟨gx, 1, none⟩ (.int .i64 1)) gy _ _ := BK.far (BK.far bR (by first | assumption | exact Ne.symm (by assumption)) _) (by first | assumption | exact Ne.symm (by assumption)) _
           have n2 := (bL.set 0 (.int .i64 (-10000))).set 1 (.int .i64 1)
           simp at n2
           clear lq yc0 yf0 yc1 yf1 hC bd bL bR
           have hC := hC2
           have bd := bd2
           have bR := o2
           have bL := n2
           clear hC2 bd2 o2 n2
           generalize ((VW2.setCell ⟨gx, 0, none⟩ (.int .i64 (-10000))).setCell ⟨gx, 1, none⟩ (.int .i64 1)) = W2 at *
           go_wp2_with fail
           refine (of_any (10000) 1 _).mono ?_
           rintro e VW3 ⟨rfl, hb0⟩
           have hb : Below W2.heap.size W2 VW3 := by rw [← hb0]; exact bel_of
           clear hb0
           have hC2 : Below w.heap.size w VW3 := hC.trans (hb.mono hC.size)
           have bd2 := bd.below hb bd.lt
           have o2 := bL.below hb bL.lt
           have n2 := bR.below hb bR.lt
           clear hC bd bL bR hb
           have hC := hC2
           have bd := bd2
           have bL := o2
           have bR := n2
           clear hC2 bd2 o2 n2
           have lq := bR.lt
           have yc0 := bR.cell 0
           have yf0 := bR.frozen 0
           have yc1 := bR.cell 1
           have yf1 := bR.frozen 1
           simp at yc0 yc1
           go_upto_region 38 with fail
           have hC2 : Below w.heap.size w ((VW3.setCell ⟨gy, 0, none⟩ (.int .i64 (10000))).setCell ⟨gy, 1, none⟩ (.int .i64 1)) := by exact bel_of
           have bd2 : BK ((VW3.setCell ⟨gy, 0, none⟩ (.int .i64 (10000))).setCell ⟨gy, 1, none⟩ (.int .i64 1)) gbd _ _ := BK.far (BK.far bd (by assumption) _) (by assumption) _
           have o2 : BK ((VW3.setCell ⟨gy, 0, none⟩ (.int .i64 (10000))).setCell ⟨gy, 1, none⟩ (.int .i64 1)) gx _ _ := BK.far (BK.far bL (by first | assumption | exact Ne.symm (by assumption)) _) (by first | assumption | exact Ne.symm (by assumption)) _
           have n2 := (bR.set 0 (.int .i64 (10000))).set 1 (.int .i64 1)
           simp at n2
           clear lq yc0 yf0 yc1 yf1 hC bd bL bR
           have hC := hC2
           have bd := bd2
           have bL := o2
           have bR := n2
           clear hC2 bd2 o2 n2
           generalize ((VW3.setCell ⟨gy, 0, none⟩ (.int .i64 (10000))).setCell ⟨gy, 1, none⟩ (.int .i64 1)) = W3 at *
           have lbd := bd.lt
           have bdc0 := bd.cell 0
           have bdc1 := bd.cell 1
           have bdc2 := bd.cell 2
           have bdc3 := bd.cell 3
           simp at bdc0 bdc1 bdc2 bdc3
           have lbL := bL.lt
           have bLc0 := bL.cell 0
           have bLc1 := bL.cell 1
           simp at bLc0 bLc1
           have lbR := bR.lt
           have bRc0 := bR.cell 0
           have bRc1 := bR.cell 1
           simp at bRc0 bRc1
           go_wp2_with fail
           refine (works_any _).mono ?_
           rintro e wz ⟨rfl, hb⟩
           have hC2 : Below w.heap.size w wz := hC.trans (hb.mono hC.size)
           go_wp2_with fail
           go_ret
           exact ⟨rfl, hC2⟩
          ·skip
           have z1 : ((s : Int) == (l.length : Int) - 1) = false := beq_eq_false_iff_ne.2 (by omega)
           obtain ⟨e1, e2⟩ := M4.out (by omega)
           rw [e1, e2] at bd
           clear e1 e2 M1 M2 M3 M4
           have HS := Lib.hid hs1
           clear hs1
           have HT := Lib.hid hs0
           clear hs0
           go_wp2_with fail
           refine (of_any (-10000) 1 _).mono ?_
           rintro e VW2 ⟨rfl, hb0⟩
           have hb : Below W.heap.size W VW2 := by rw [← hb0]; exact bel_of
           clear hb0
           have hC2 : Below w.heap.size w VW2 := hC.trans (hb.mono hC.size)
           have bd2 := bd.below hb bd.lt
           have o2 := bR.below hb bR.lt
           have n2 := bL.below hb bL.lt
           clear hC bd bL bR hb
           have hC := hC2
           have bd := bd2
           have bR := o2
           have bL := n2
           clear hC2 bd2 o2 n2
           have lq := bL.lt
           have yc0 := bL.cell 0
           have yf0 := bL.frozen 0
           have yc1 := bL.cell 1
           have yf1 := bL.frozen 1
           simp at yc0 yc1
           go_upto_region 36 with fail
           have hC2 : Below w.heap.size w ((VW2.setCell ⟨gx, 0, none⟩ (.int .i64 (-10000))).setCell ⟨gx, 1, none⟩ (.int .i64 1)) := by exact bel_of
           have bd2 : BK ((VW2.setCell ⟨gx, 0, none⟩ (.int .i64 (-10000))).setCell ⟨gx, 1, none⟩ (.int .i64 1)) gbd _ _ := BK.far (BK.far bd (by assumption) _) (by assumption) _
           have o2 : BK ((VW2.setCell ⟨gx, 0, none⟩ (.int .i64 (-10000))).setCell ⟨gx, 1, none⟩ (.int .i64 1)) gy _ _ := BK.far (BK.far bR (by first | assumption | exact Ne.symm (by assumption)) _) (by first | assumption | exact Ne.symm (by assumption)) _
           have n2 := (bL.set 0 (.int .i64 (-10000))).set 1 (.int .i64 1)
           simp at n2
           clear lq yc0 yf0 yc1 yf1 hC bd bL bR
           have hC := hC2
           have bd := bd2
           have bR := o2
           have bL := n2
           clear hC2 bd2 o2 n2
           generalize ((VW2.setCell ⟨gx, 0, none⟩ (.int .i64 (-10000))).setCell ⟨gx, 1, none⟩ (.int .i64 1)) = W2 at *
           go_upto_region 38 with fail
           have lbd := bd.lt
           have bdc0 := bd.cell 0
           have bdc1 := bd.cell 1
           have bdc2 := bd.cell 2
           have bdc3 := bd.cell 3
           simp at bdc0 bdc1 bdc2 bdc3
           have lbL := bL.lt
           have bLc0 := bL.cell 0
           have bLc1 := bL.cell 1
           simp at bLc0 bLc1
           have lbR := bR.lt
           have bRc0 := bR.cell 0
           have bRc1 := bR.cell 1
           simp at bRc0 bRc1
           go_wp2_with fail
           refine (works_any _).mono ?_
           rintro e wz ⟨rfl, hb⟩
           have hC2 : Below w.heap.size w wz := hC.trans (hb.mono hC.size)
           go_wp2_with fail
           go_ret
           exact ⟨rfl, hC2⟩
         ·skip
          have z0 : ((s : Int) == 0) = false := beq_eq_false_iff_ne.2 (by omega)
          obtain ⟨e1, e2⟩ := M2.out (by omega)
          rw [e1, e2] at bd
          clear e1 e2
          by_cases hs1 : s + 1 = l.length
          ·skip
           have z1 : ((s : Int) == (l.length : Int) - 1) = true := beq_iff_eq.2 (by omega)
           obtain ⟨e1, e2⟩ := M3.out hs1
           rw [e1, e2] at bd
           clear e1 e2 M1 M2 M3 M4
           have HS := Lib.hid hs1
           clear hs1
           go_wp2_with fail
           refine (of_any (10000) 1 _).mono ?_
           rintro e VW3 ⟨rfl, hb0⟩
           have hb : Below W.heap.size W VW3 := by rw [← hb0]; exact bel_of
           clear hb0
           have hC2 : Below w.heap.size w VW3 := hC.trans (hb.mono hC.size)
           have bd2 := bd.below hb bd.lt
           have o2 := bL.below hb bL.lt
           have n2 := bR.below hb bR.lt
           clear hC bd bL bR hb
           have hC := hC2
           have bd := bd2
           have bL := o2
           have bR := n2
           clear hC2 bd2 o2 n2
           have lq := bR.lt
           have yc0 := bR.cell 0
           have yf0 := bR.frozen 0
           have yc1 := bR.cell 1
           have yf1 := bR.frozen 1
           simp at yc0 yc1
           go_upto_region 38 with fail
           have hC2 : Below w.heap.size w ((VW3.setCell ⟨gy, 0, none⟩ (.int .i64 (10000))).setCell ⟨gy, 1, none⟩ (.int .i64 1)) := by exact bel_of
           have bd2 : BK ((VW3.setCell ⟨gy, 0, none⟩ (.int .i64 (10000))).setCell ⟨gy, 1, none⟩ (.int .i64 1)) gbd _ _ := BK.far (BK.far bd (by assumption) _) (by assumption) _
           have o2 : BK ((VW3.setCell ⟨gy, 0, none⟩ (.int .i64 (10000))).setCell ⟨gy, 1, none⟩ (.int .i64 1)) gx _ _ := BK.far (BK.far bL (by first | assumption | exact Ne.symm (by assumption)) _) (by first | assumption | exact Ne.symm (by assumption)) _
           have n2 := (bR.set 0 (.int .i64 (10000))).set 1 (.int .i64 1)
           simp at n2
           clear lq yc0 yf0 yc1 yf1 hC bd bL bR
           have hC := hC2
           have bd := bd2
           have bL := o2
           have bR := n2
           clear hC2 bd2 o2 n2
           generalize ((VW3.setCell ⟨gy, 0, none⟩ (.int .i64 (10000))).setCell ⟨gy, 1, none⟩ (.int .i64 1)) = W3 at *
           have lbd := bd.lt
           have bdc0 := bd.cell 0
           have bdc1 := bd.cell 1
           have bdc2 := bd.cell 2
           have bdc3 := bd.cell 3
           simp at bdc0 bdc1 bdc2 bdc3
           have lbL := bL.lt
           have bLc0 := bL.cell 0
           have bLc1 := bL.cell 1
           simp at bLc0 bLc1
           have lbR := bR.lt
           have bRc0 := bR.cell 0
           have bRc1 := bR.cell 1
           simp at bRc0 bRc1
           go_wp2_with fail
           refine (works_any _).mono ?_
           rintro e wz ⟨rfl, hb⟩
           have hC2 : Below w.heap.size w wz := hC.trans (hb.mono hC.size)
           go_wp2_with fail
           go_ret
           exact ⟨rfl, hC2⟩
          ·skip
           have z1 : ((s : Int) == (l.length : Int) - 1) = false := beq_eq_false_iff_ne.2 (by omega)
           obtain ⟨e1, e2⟩ := M4.out (by omega)
           rw [e1, e2] at bd
           clear e1 e2 M1 M2 M3 M4
           have HS := Lib.hid hs1
           clear hs1
           go_upto_region 38 with fail
           have lbd := bd.lt
           have bdc0 := bd.cell 0
           have bdc1 := bd.cell 1
           have bdc2 := bd.cell 2
           have bdc3 := bd.cell 3
           simp at bdc0 bdc1 bdc2 bdc3
           have lbL := bL.lt
           have bLc0 := bL.cell 0
           have bLc1 := bL.cell 1
           simp at bLc0 bLc1
           have lbR := bR.lt
           have bRc0 := bR.cell 0
           have bRc1 := bR.cell 1
           simp at bRc0 bRc1
           go_wp2_with fail
           refine (works_any _).mono ?_
           rintro e wz ⟨rfl, hb⟩
           have hC2 : Below w.heap.size w wz := hC.trans (hb.mono hC.size)
           go_wp2_with fail
           go_ret
           exact ⟨rfl, hC2⟩
       ·skip
        have hcx := HNot.out HFX.out he
        have hcc := HCx.out w5 _ hX
        rw [hcx] at hcc
        have HCXX := Lib.hid hcc
        obtain ⟨rfl, rfl, rfl, rfl⟩ := HZ.out he
        subst he
        clear hcc hcx HMov HZ
        go_wp2_with fail
        refine (HCXX.out).mono ?_
        rintro e w15 ⟨rfl, hb⟩
        replace hC : Below w.heap.size w w15 := hC.trans (hb.mono hC.size)
        replace ba := ba.below hb ba.lt
        replace bg := bg.below hb bg.lt
        replace hX := (RS.below hX hb).more hb.size
        clear hb
        go_wp2_with fail
        have bd : BK (w15.alloc (.cells #[.int .i64 0, .int .i64 0, .int .i64 0, .int .i64 0] 34)) w15.heap.size #[.int .i64 0, .int .i64 0, .int .i64 0, .int .i64 0] 34 := BK.new _ _ _
        replace hC : Below w.heap.size w (w15.alloc (.cells #[.int .i64 0, .int .i64 0, .int .i64 0, .int .i64 0] 34)) := Below.alloc hC hC.size _
        replace ba := ba.alloc (.cells #[.int .i64 0, .int .i64 0, .int .i64 0, .int .i64 0] 34)
        replace bg := bg.alloc (.cells #[.int .i64 0, .int .i64 0, .int .i64 0, .int .i64 0] 34)
        replace hX := (RS.below hX (w' := (w15.alloc (.cells #[.int .i64 0, .int .i64 0, .int .i64 0, .int .i64 0] 34))) (Below.alloc (Below.refl _ _) (Nat.le_refl _) _)).more (B' := (w15.alloc (.cells #[.int .i64 0, .int .i64 0, .int .i64 0, .int .i64 0] 34)).heap.size) (by simp)
        generalize (w15.alloc (.cells #[.int .i64 0, .int .i64 0, .int .i64 0, .int .i64 0] 34)) = Wbd at *
        obtain ⟨gbd, hgbd⟩ : ∃ g, w15.heap.size = g := ⟨_, rfl⟩
        rw [hgbd] at bd
        try rw [hgbd]
        clear hgbd
        refine (HKl.out Wbd hC).mono ?_
        rintro e w16 ⟨vk, rfl, hk, hb⟩
        replace hC : Below w.heap.size w w16 := hC.trans (hb.mono hC.size)
        replace ba := ba.below hb ba.lt
        replace bg := bg.below hb bg.lt
        replace hX := (RS.below hX hb).more hb.size
        replace bd := bd.below hb bd.lt
        clear hb
        go_wp2_with fail
        refine (HKx.out HFX.out w16 _ hX).mono ?_
        rintro e w17 ⟨vq, rfl, hq, hb⟩
        replace hC : Below w.heap.size w w17 := hC.trans (hb.mono hC.size)
        replace ba := ba.below hb ba.lt
        replace bg := bg.below hb bg.lt
        replace hX := (RS.below hX hb).more hb.size
        replace bd := bd.below hb bd.lt
        replace hk := (RS.below hk hb).more hb.size
        clear hb
        go_wp2_with fail
        refine (HWl.out w17 hC).mono ?_
        rintro e w18 ⟨rfl, hb⟩
        replace hC : Below w.heap.size w w18 := hC.trans (hb.mono hC.size)
        replace ba := ba.below hb ba.lt
        replace bg := bg.below hb bg.lt
        replace hX := (RS.below hX hb).more hb.size
        replace bd := bd.below hb bd.lt
        replace hk := (RS.below hk hb).more hb.size
        replace hq := (RS.below hq hb).more hb.size
        clear hb
        go_wp2_with fail
        have bu : BK (w18.alloc (.cells #[.int .i64 u1, .int .i64 u2, .int .i64 u3] 44)) w18.heap.size #[.int .i64 u1, .int .i64 u2, .int .i64 u3] 44 := BK.new _ _ _
        replace hC : Below w.heap.size w (w18.alloc (.cells #[.int .i64 u1, .int .i64 u2, .int .i64 u3] 44)) := Below.alloc hC hC.size _
        replace ba := ba.alloc (.cells #[.int .i64 u1, .int .i64 u2, .int .i64 u3] 44)
        replace bg := bg.alloc (.cells #[.int .i64 u1, .int .i64 u2, .int .i64 u3] 44)
        replace hX := (RS.below hX (w' := (w18.alloc (.cells #[.int .i64 u1, .int .i64 u2, .int .i64 u3] 44))) (Below.alloc (Below.refl _ _) (Nat.le_refl _) _)).more (B' := (w18.alloc (.cells #[.int .i64 u1, .int .i64 u2, .int .i64 u3] 44)).heap.size) (by simp)
        replace bd := bd.alloc (.cells #[.int .i64 u1, .int .i64 u2, .int .i64 u3] 44)
        replace hk := (RS.below hk (w' := (w18.alloc (.cells #[.int .i64 u1, .int .i64 u2, .int .i64 u3] 44))) (Below.alloc (Below.refl _ _) (Nat.le_refl _) _)).more (B' := (w18.alloc (.cells #[.int .i64 u1, .int .i64 u2, .int .i64 u3] 44)).heap.size) (by simp)
        replace hq := (RS.below hq (w' := (w18.alloc (.cells #[.int .i64 u1, .int .i64 u2, .int .i64 u3] 44))) (Below.alloc (Below.refl _ _) (Nat.le_refl _) _)).more (B' := (w18.alloc (.cells #[.int .i64 u1, .int .i64 u2, .int .i64 u3] 44)).heap.size) (by simp)
        generalize (w18.alloc (.cells #[.int .i64 u1, .int .i64 u2, .int .i64 u3] 44)) = Wbu at *
        obtain ⟨gbu, hgbu⟩ : ∃ g, w18.heap.size = g := ⟨_, rfl⟩
        rw [hgbu] at bu
        try rw [hgbu]
        clear hgbu
        refine (HWx.out HFX.out Wbu _ hX).mono ?_
        rintro e w19 ⟨rfl, hb⟩
        replace hC : Below w.heap.size w w19 := hC.trans (hb.mono hC.size)
        replace ba := ba.below hb ba.lt
        replace bg := bg.below hb bg.lt
        replace hX := (RS.below hX hb).more hb.size
        replace bd := bd.below hb bd.lt
        replace hk := (RS.below hk hb).more hb.size
        replace hq := (RS.below hq hb).more hb.size
        replace bu := bu.below hb bu.lt
        clear hb
        go_wp2_with fail
        have bv : BK (w19.alloc (.cells #[.int .i64 u1, .int .i64 u2, .int .i64 u3] 44)) w19.heap.size #[.int .i64 u1, .int .i64 u2, .int .i64 u3] 44 := BK.new _ _ _
        replace hC : Below w.heap.size w (w19.alloc (.cells #[.int .i64 u1, .int .i64 u2, .int .i64 u3] 44)) := Below.alloc hC hC.size _
        replace ba := ba.alloc (.cells #[.int .i64 u1, .int .i64 u2, .int .i64 u3] 44)
        replace bg := bg.alloc (.cells #[.int .i64 u1, .int .i64 u2, .int .i64 u3] 44)
        replace hX := (RS.below hX (w' := (w19.alloc (.cells #[.int .i64 u1, .int .i64 u2, .int .i64 u3] 44))) (Below.alloc (Below.refl _ _) (Nat.le_refl _) _)).more (B' := (w19.alloc (.cells #[.int .i64 u1, .int .i64 u2, .int .i64 u3] 44)).heap.size) (by simp)
        replace bd := bd.alloc (.cells #[.int .i64 u1, .int .i64 u2, .int .i64 u3] 44)
        replace hk := (RS.below hk (w' := (w19.alloc (.cells #[.int .i64 u1, .int .i64 u2, .int .i64 u3] 44))) (Below.alloc (Below.refl _ _) (Nat.le_refl _) _)).more (B' := (w19.alloc (.cells #[.int .i64 u1, .int .i64 u2, .int .i64 u3] 44)).heap.size) (by simp)
        replace hq := (RS.below hq (w' := (w19.alloc (.cells #[.int .i64 u1, .int .i64 u2, .int .i64 u3] 44))) (Below.alloc (Below.refl _ _) (Nat.le_refl _) _)).more (B' := (w19.alloc (.cells #[.int .i64 u1, .int .i64 u2, .int .i64 u3] 44)).heap.size) (by simp)
        replace bu := bu.alloc (.cells #[.int .i64 u1, .int .i64 u2, .int .i64 u3] 44)
        generalize (w19.alloc (.cells #[.int .i64 u1, .int .i64 u2, .int .i64 u3] 44)) = Wbv at *
        obtain ⟨gbv, hgbv⟩ : ∃ g, w19.heap.size = g := ⟨_, rfl⟩
        rw [hgbv] at bv
        try rw [hgbv]
        clear hgbv
        refine (HGx.out HFX.out Wbv _ hX).mono ?_
        rintro e w20 ⟨rfl, hb⟩
        replace hC : Below w.heap.size w w20 := hC.trans (hb.mono hC.size)
        replace ba := ba.below hb ba.lt
        replace bg := bg.below hb bg.lt
        replace hX := (RS.below hX hb).more hb.size
        replace bd := bd.below hb bd.lt
        replace hk := (RS.below hk hb).more hb.size
        replace hq := (RS.below hq hb).more hb.size
        replace bu := bu.below hb bu.lt
        replace bv := bv.below hb bv.lt
        clear hb
        go_wp2_with fail
        have bk : BK (w20.alloc (.cells #[.int .i64 g1.num, .int .i64 g1.den, .int .i64 g2.num, .int .i64 g2.den] 34)) w20.heap.size #[.int .i64 g1.num, .int .i64 g1.den, .int .i64 g2.num, .int .i64 g2.den] 34 := BK.new _ _ _
        replace hC : Below w.heap.size w (w20.alloc (.cells #[.int .i64 g1.num, .int .i64 g1.den, .int .i64 g2.num, .int .i64 g2.den] 34)) := Below.alloc hC hC.size _
        replace ba := ba.alloc (.cells #[.int .i64 g1.num, .int .i64 g1.den, .int .i64 g2.num, .int .i64 g2.den] 34)
        replace bg := bg.alloc (.cells #[.int .i64 g1.num, .int .i64 g1.den, .int .i64 g2.num, .int .i64 g2.den] 34)
        replace hX := (RS.below hX (w' := (w20.alloc (.cells #[.int .i64 g1.num, .int .i64 g1.den, .int .i64 g2.num, .int .i64 g2.den] 34))) (Below.alloc (Below.refl _ _) (Nat.le_refl _) _)).more (B' := (w20.alloc (.cells #[.int .i64 g1.num, .int .i64 g1.den, .int .i64 g2.num, .int .i64 g2.den] 34)).heap.size) (by simp)
        replace bd := bd.alloc (.cells #[.int .i64 g1.num, .int .i64 g1.den, .int .i64 g2.num, .int .i64 g2.den] 34)
        replace hk := (RS.below hk (w' := (w20.alloc (.cells #[.int .i64 g1.num, .int .i64 g1.den, .int .i64 g2.num, .int .i64 g2.den] 34))) (Below.alloc (Below.refl _ _) (Nat.le_refl _) _)).more (B' := (w20.alloc (.cells #[.int .i64 g1.num, .int .i64 g1.den, .int .i64 g2.num, .int .i64 g2.den] 34)).heap.size) (by simp)
        replace hq := (RS.below hq (w' := (w20.alloc (.cells #[.int .i64 g1.num, .int .i64 g1.den, .int .i64 g2.num, .int .i64 g2.den] 34))) (Below.alloc (Below.refl _ _) (Nat.le_refl _) _)).more (B' := (w20.alloc (.cells #[.int .i64 g1.num, .int .i64 g1.den, .int .i64 g2.num, .int .i64 g2.den] 34)).heap.size) (by simp)
        replace bu := bu.alloc (.cells #[.int .i64 g1.num, .int .i64 g1.den, .int .i64 g2.num, .int .i64 g2.den] 34)
        replace bv := bv.alloc (.cells #[.int .i64 g1.num, .int .i64 g1.den, .int .i64 g2.num, .int .i64 g2.den] 34)
        generalize (w20.alloc (.cells #[.int .i64 g1.num, .int .i64 g1.den, .int .i64 g2.num, .int .i64 g2.den] 34)) = Wbk at *
        obtain ⟨gbk, hgbk⟩ : ∃ g, w20.heap.size = g := ⟨_, rfl⟩
        rw [hgbk] at bk
        try rw [hgbk]
        clear hgbk
        refine (ints_same ks vk vq Wbk hKL.out hk hq).mono ?_
        rintro e w21 ⟨rfl, hb⟩
        replace hC : Below w.heap.size w w21 := hC.trans (hb.mono hC.size)
        replace ba := ba.below hb ba.lt
        replace bg := bg.below hb bg.lt
        replace hX := (RS.below hX hb).more hb.size
        replace bd := bd.below hb bd.lt
        replace hk := (RS.below hk hb).more hb.size
        replace hq := (RS.below hq hb).more hb.size
        replace bu := bu.below hb bu.lt
        replace bv := bv.below hb bv.lt
        replace bk := bk.below hb bk.lt
        clear hb
        clear hk hq hX
        have lba := ba.lt
        have bac0 := ba.cell 0
        have bac1 := ba.cell 1
        have bac2 := ba.cell 2
        have bac3 := ba.cell 3
        simp at bac0 bac1 bac2 bac3
        have lbg := bg.lt
        have bgc0 := bg.cell 0
        have bgc1 := bg.cell 1
        have bgc2 := bg.cell 2
        have bgc3 := bg.cell 3
        simp at bgc0 bgc1 bgc2 bgc3
        have lbd := bd.lt
        have bdc0 := bd.cell 0
        have bdc1 := bd.cell 1
        have bdc2 := bd.cell 2
        have bdc3 := bd.cell 3
        simp at bdc0 bdc1 bdc2 bdc3
        have lbu := bu.lt
        have buc0 := bu.cell 0
        have buc1 := bu.cell 1
        have buc2 := bu.cell 2
        simp at buc0 buc1 buc2
        have lbv := bv.lt
        have bvc0 := bv.cell 0
        have bvc1 := bv.cell 1
        have bvc2 := bv.cell 2
        simp at bvc0 bvc1 bvc2
        have lbk := bk.lt
        have bkc0 := bk.cell 0
        have bkc1 := bk.cell 1
        have bkc2 := bk.cell 2
        have bkc3 := bk.cell 3
        simp at bkc0 bkc1 bkc2 bkc3
        go_wp2_with fail
        refine (works_any w21).mono ?_
        rintro e w22 ⟨rfl, hb⟩
        replace hC : Below w.heap.size w w22 := hC.trans (hb.mono hC.size)
        replace ba := ba.below hb ba.lt
        replace bg := bg.below hb bg.lt
        replace bd := bd.below hb bd.lt
        replace bu := bu.below hb bu.lt
        replace bv := bv.below hb bv.lt
        replace bk := bk.below hb bk.lt
        clear hb
        go_wp2_with fail
        go_ret
        exact ⟨rfl, hC⟩
      ·skip
       have hq := HFx.out vv7 _ hX
       rw [show fineB (Ma.tlt l m) = false from decide_eq_false hfx] at hq
       have HQ := Lib.hid hq
       clear hq hfx
       refine (HQ.out).mono ?_
       rintro e w23 ⟨rfl, hb⟩
       replace hC : Below w.heap.size w w23 := hC.trans (hb.mono hC.size)
       replace ba := ba.below hb ba.lt
       replace bg := bg.below hb bg.lt
       replace hX := (RS.below hX hb).more hb.size
       clear hb
       go_wp2_with fail
       refine (works_any w23).mono ?_
       rintro e w24 ⟨rfl, hb⟩
       replace hC : Below w.heap.size w w24 := hC.trans (hb.mono hC.size)
       replace ba := ba.below hb ba.lt
       replace bg := bg.below hb bg.lt
       replace hX := (RS.below hX hb).more hb.size
       clear hb
       go_wp2_with fail
       go_ret
       exact ⟨rfl, hC⟩
end Go.Proofs.Ytbjmkmambmeifaa

namespace Go.Proofs.Ytbjmkmambmeifaa
open Go.RowKit
theorem tilted_row (l : List St) (vl : Value) {w : World} (h : RSt w w.heap.size vl l) (_ : l.length ≤ maxLen) (m : Int) (hm : (Lit.int .i8 m).wf = true) (st : Int) (hst : (Lit.int .u8 st).wf = true) (W : World) (hw : W = w := by rfl) :
    Calls Try.prog 11 #[vl, .int .i8 m, .int .u8 st] W fun e w' => e = .returned (.bool true) ∧ Below W.heap.size W w' := by
  subst hw
  obtain ⟨st, rfl, q1⟩ := byte_wf hst
  have hb : -128 ≤ m ∧ m ≤ 127 := by simpa [Lit.wf, IntKind.min, IntKind.max, IntKind.signed, IntKind.bits] using hm
  by_cases hl : fineB l = false
  · exact tilted_no l m st vl _ hl h
  · have hv : checkPair l = 0 := by
      refine Classical.byContradiction fun hc => hl ?_
      unfold fineB; exact decide_eq_false hc
    exact tilted_yes l m st vl _ hv hb q1 h
end Go.Proofs.Ytbjmkmambmeifaa

namespace Go.Proofs.Ytbjmkmambmeifaa.crossTilted
open Go.ChangeShapes Go.WideShapes Go.ChangeAt Go.RowKit Go.Deep

set_option maxRecDepth 100000 in
theorem lifted (os : Os) (started : os.Started) (H : Type) (enc : TypeId × Value → H) :
    ReturnsInHanded {} Try.checked os 11 .any (Rows.crossTiltedSpec.pre6 enc Try.prog Try.f11 Rows.crossTiltedRow.domain false) (Rows.crossTiltedSpec.post enc Try.prog Try.f11 false true false false) := by
  refine returnsInHanded_of_change (C := Try.checked) own started (by kernel_rfl) Try.func11
    (ChangeSpec.witness6 (enc := enc) (C := Try.checked) false ⟨#[], #[.slice none 0 0, .int .i8 0, .int .u8 0], []⟩ 8 (by kernel_rfl) (by kernel_rfl) (by kernel_rfl) (by kernel_rfl)) ?_
  intro W base args ds gs before hval0 hW hcnd _
  have hval : ∀ (j : Nat) t v, Try.f11.params[j]? = some t → args[j]? = some v → Value.okWide Try.prog W .any base t v := hval0
  have hW2 : DataW.Whole enc Try.prog Try.f11.params.toList Rows.crossTiltedSpec.vars false W args.toList ds gs before := hW
  obtain ⟨p, q, hA0, hV, rfl, hfz, hnd⟩ := hW
  have hA : DataW.TrodAll enc Try.prog W 0 (fun _ => true) true Try.f11.params.toList args.toList ds p := hA0
  rw [Try.params11] at hA hval
  obtain ⟨v0, vs0, d0, ds0, p0, q0, hargs, rfl, rfl, h0, r0⟩ := trodAll_cons hA
  obtain ⟨v1, vs1, d1, ds1, p1, q1, rfl, rfl, rfl, h1, r1⟩ := trodAll_cons r0
  obtain ⟨v2, vs2, d2, ds2, p2, q2, rfl, rfl, rfl, h2, r2⟩ := trodAll_cons r1
  obtain ⟨rfl, rfl, rfl⟩ := trodAll_nil r2
  obtain rfl : args = #[v0, v1, v2] := by cases args; simp_all
  obtain ⟨rfl, rfl⟩ := trodVars_none hV
  obtain ⟨l0, g0, m0⟩ := open_sts (hval 0 22 v0 rfl rfl) h0
  obtain ⟨l1, rfl, rfl, rfl, g1⟩ := open_int Try.underlying71 (hval 1 71 v1 rfl rfl) h1
  obtain ⟨l2, rfl, rfl, rfl, g2⟩ := open_int Try.underlying5 (hval 2 5 v2 rfl rfl) h2
  refine (tilted_row l0 v0 g0 m0 l1 g1 l2 g2 W).mono fun e W' ⟨he, hg⟩ => ?_
  subst he
  exact ⟨_, rfl, law_done hW2 rfl rfl rfl (by rw [Try.params11]; decide +kernel) hg⟩

theorem over : Rows.crossTiltedRow.holds Try.pinned (OpenSpec.ofChange Rows.crossTiltedSpec) :=
  OpenClaim.holds_of_wide 11 Try.f11 rfl rfl rfl rfl rfl rfl rfl ⟨rfl, rfl, rfl, rfl, rfl⟩ rfl rfl rfl rfl rfl (by kernel_rfl) Try.func11 (by kernel_rfl)
    (of_decide_eq_true (by kernel_rfl)) (by unfold Func.isWrapper; first | (rw [if_pos (by decide +kernel)]; kernel_rfl) | (rw [if_neg (by decide +kernel)]; exact ⟨rfl, rfl⟩))
    (fun os started H enc _ => lifted os started H enc)

theorem proved : Rows.CrossTiltedSaid :=
  over
end Go.Proofs.Ytbjmkmambmeifaa.crossTilted
namespace Go.Proofs.Ytbjmkmambmeifaa
theorem crossTilted_proved : Rows.CrossTiltedSaid := crossTilted.proved
#print axioms crossTilted_proved
end Go.Proofs.Ytbjmkmambmeifaa
