/- Plain laws: ratios by their values, spans, lines and the hull of heights. Ground. -/
import Derived.Test.YtbjmkmambmeifaaP8
import Derived.Test.YtbjmkmambmeifaaP10
import Derived.Test.YtbjmkmambmeifaaP2
import Derived.Test.YtbjmkmambmeifaaP9
set_option linter.all false
set_option linter.unnecessarySimpa false
set_option linter.unusedSimpArgs false
set_option linter.unusedVariables false
set_option linter.unusedSectionVars false

namespace Go.Proofs.Ytbjmkmambmeifaa
open Go.RowKit
namespace Ma

/-- The value of a ratio. -/
def V (r : Ra) : Rat := (r.num : Rat) / (r.den : Rat)

theorem rpos {d : Int} (h : 0 < d) : (0 : Rat) < (d : Rat) := by
  have := Rat.intCast_lt_intCast.2 h; simpa using this
theorem rdiv_lt {a b c d : Rat} (hb : 0 < b) (hd : 0 < d) : a / b < c / d ↔ a * d < c * b := by
  have e : c / d * b * d = c * b := by
    have : d ≠ 0 := by grind
    grind
  rw [Rat.div_lt_iff hb, ← Rat.mul_lt_mul_right hd, e]
theorem rdiv_le {a b c d : Rat} (hb : 0 < b) (hd : 0 < d) : a / b ≤ c / d ↔ a * d ≤ c * b := by
  rw [← Rat.not_lt, rdiv_lt hd hb, Rat.not_lt]
theorem le_rdiv {a b c : Rat} (hc : 0 < c) : a ≤ b / c ↔ a * c ≤ b := by
  rw [← Rat.not_lt, Rat.div_lt_iff hc, Rat.not_lt]
theorem rdiv_le' {a b c : Rat} (hb : 0 < b) : a / b ≤ c ↔ a ≤ c * b := by
  rw [← Rat.not_lt, Rat.lt_div_iff hb, Rat.not_lt]
theorem V_lt {a b : Ra} (ha : 0 < a.den) (hb : 0 < b.den) : V a < V b ↔ a.num * b.den < b.num * a.den := by
  unfold V
  rw [rdiv_lt (rpos ha) (rpos hb), ← Rat.intCast_mul, ← Rat.intCast_mul]
  exact Rat.intCast_lt_intCast
theorem V_le {a b : Ra} (ha : 0 < a.den) (hb : 0 < b.den) : V a ≤ V b ↔ a.num * b.den ≤ b.num * a.den := by
  rw [← Rat.not_lt, V_lt hb ha]; omega

/-- A ratio in least terms whose numbers are not too great for a product of two. -/
structure OkR (r : Ra) : Prop where
  den : 0 < r.den
  co : Int.gcd r.num r.den = 1
  num1 : -1000000000 ≤ r.num
  num2 : r.num ≤ 1000000000
  den2 : r.den ≤ 1000000000

theorem wrap_id {i : Int} (h1 : -9000000000000000000 ≤ i) (h2 : i ≤ 9000000000000000000) : wrap64 i = i := by
  unfold wrap64; omega
theorem mul_bd {a b : Int} (h1 : -1000000000 ≤ a) (h2 : a ≤ 1000000000) (h3 : 0 < b) (h4 : b ≤ 1000000000) : -9000000000000000000 ≤ a * b ∧ a * b ≤ 9000000000000000000 := by
  constructor
  · have := Int.mul_le_mul_of_nonneg_right (show -1000000000 ≤ a from h1) (show 0 ≤ b by omega); omega
  · have := Int.mul_le_mul_of_nonneg_right (show a ≤ 1000000000 from h2) (show 0 ≤ b by omega); omega
theorem lessW_V {a b : Ra} (ha : OkR a) (hb : OkR b) : lessW a b = decide (V a < V b) := by
  unfold lessW
  obtain ⟨p1, p2⟩ := mul_bd ha.num1 ha.num2 hb.den hb.den2
  obtain ⟨q1, q2⟩ := mul_bd hb.num1 hb.num2 ha.den ha.den2
  rw [wrap_id p1 p2, wrap_id q1 q2]
  simp only [V_lt ha.den hb.den]
theorem OkR.ext {a b : Ra} (ha : OkR a) (hb : OkR b) (h : V a = V b) : a = b := by
  have h1 := (V_le ha.den hb.den).1 (by rw [h]; exact Rat.le_refl)
  have h2 := (V_le hb.den ha.den).1 (by rw [h]; exact Rat.le_refl)
  have e : a.num * b.den = b.num * a.den := by omega
  obtain ⟨an, ad⟩ := a; obtain ⟨bn, bd⟩ := b
  have c1 := ha.co; have c2 := hb.co; have d1 := ha.den; have d2 := hb.den
  simp only at *
  have hda : ad ∣ bd := by
    have : ad ∣ an * bd := by rw [e]; exact Int.dvd_mul_left ..
    have h := Int.dvd_gcd_mul_iff_dvd_mul.2 this
    rw [Int.gcd_comm, c1] at h; simpa using h
  have hdb : bd ∣ ad := by
    have : bd ∣ bn * ad := by rw [← e]; exact Int.dvd_mul_left ..
    have h := Int.dvd_gcd_mul_iff_dvd_mul.2 this
    rw [Int.gcd_comm, c2] at h; simpa using h
  have hd : ad = bd := Int.dvd_antisymm (by omega) (by omega) hda hdb
  subst hd
  have := Int.eq_of_mul_eq_mul_right (by omega) e
  subst this; rfl

theorem frac_ok {n d : Int} (h1 : -1000000000 ≤ n) (h2 : n ≤ 1000000000) (h3 : 0 < d) (h4 : d ≤ 1000000000) : OkR (frac n d) ∧ V (frac n d) = (n : Rat) / (d : Rat) := by
  have hg : 0 < Int.gcd n d := Int.gcd_pos_of_ne_zero_right _ (by omega)
  obtain ⟨u, hu⟩ : ((Int.gcd n d : Nat) : Int) ∣ n := Int.gcd_dvd_left ..
  obtain ⟨v, hv⟩ : ((Int.gcd n d : Nat) : Int) ∣ d := Int.gcd_dvd_right ..
  have eu : n / (Int.gcd n d : Int) = u := Int.ediv_eq_of_eq_mul_right (by omega) hu
  have ev : d / (Int.gcd n d : Int) = v := Int.ediv_eq_of_eq_mul_right (by omega) hv
  have hgi : (1 : Int) ≤ (Int.gcd n d : Int) := by omega
  have hvp : 0 < v := by
    rcases Int.lt_or_le 0 v with h | h
    · exact h
    · have := Int.mul_le_mul_of_nonneg_left h (show (0 : Int) ≤ (Int.gcd n d : Int) by omega)
      omega
  have hco : Int.gcd u v = 1 := by
    have := Int.gcd_ediv_gcd_ediv_gcd hg
    rwa [eu, ev] at this
  refine ⟨⟨?_, ?_, ?_, ?_, ?_⟩, ?_⟩
  · simp only [frac, ev]; exact hvp
  · simp only [frac, ev, eu]; exact hco
  · simp only [frac, eu]
    rcases Int.lt_or_le u 0 with h | h
    · have := Int.mul_le_mul_of_nonpos_right hgi (show u ≤ 0 by omega); omega
    · omega
  · simp only [frac, eu]
    rcases Int.lt_or_le u 0 with h | h
    · omega
    · have := Int.mul_le_mul_of_nonneg_right hgi h; omega
  · simp only [frac, ev]
    have := Int.mul_le_mul_of_nonneg_right hgi (show 0 ≤ v by omega); omega
  · have g0 := rpos (show (0 : Int) < (Int.gcd n d : Int) by omega)
    have v0 := rpos hvp
    have e1 : (n : Rat) = ((Int.gcd n d : Int) : Rat) * (u : Rat) := by rw [← Rat.intCast_mul, ← hu]
    have e2 : (d : Rat) = ((Int.gcd n d : Int) : Rat) * (v : Rat) := by rw [← Rat.intCast_mul, ← hv]
    simp only [V, frac, eu, ev]
    rw [e1, e2]
    have n1 : ((Int.gcd n d : Int) : Rat) ≠ 0 := by grind
    have n2 : (v : Rat) ≠ 0 := by grind
    grind

theorem best_min (x : Ra) (t : List Ra) (h : ∀ r, r ∈ x :: t → OkR r) : bestF (fun y o => lessW y o) (x :: t) ∈ x :: t ∧ ∀ r, r ∈ x :: t → V (bestF (fun y o => lessW y o) (x :: t)) ≤ V r := by
  induction t generalizing x with
  | nil => simp [bestF]
  | cons y t ih =>
    have hx := h x (by simp); have hy := h y (by simp)
    have e : bestF (fun y o => lessW y o) (x :: y :: t) = bestF (fun y o => lessW y o) ((if lessW y x then y else x) :: t) := rfl
    rw [e]
    rw [lessW_V hy hx]
    by_cases c : V y < V x
    · simp only [c, decide_true, if_true]
      obtain ⟨i1, i2⟩ := ih y (fun r hr => h r (by simp at hr ⊢; grind))
      refine ⟨by simp at i1 ⊢; grind, fun r hr => ?_⟩
      have := i2 y (by simp)
      rcases List.mem_cons.1 hr with rfl | hr
      · grind
      · exact i2 r hr
    · simp only [c, decide_false, Bool.false_eq_true, if_false]
      obtain ⟨i1, i2⟩ := ih x (fun r hr => h r (by simp at hr ⊢; grind))
      refine ⟨by simp at i1 ⊢; grind, fun r hr => ?_⟩
      have := i2 x (by simp)
      rcases List.mem_cons.1 hr with rfl | hr
      · exact this
      · rcases List.mem_cons.1 hr with rfl | hr
        · grind
        · exact i2 r (by simp [hr])
theorem best_max (x : Ra) (t : List Ra) (h : ∀ r, r ∈ x :: t → OkR r) : bestF (fun y o => lessW o y) (x :: t) ∈ x :: t ∧ ∀ r, r ∈ x :: t → V r ≤ V (bestF (fun y o => lessW o y) (x :: t)) := by
  induction t generalizing x with
  | nil => simp [bestF]
  | cons y t ih =>
    have hx := h x (by simp); have hy := h y (by simp)
    have e : bestF (fun y o => lessW o y) (x :: y :: t) = bestF (fun y o => lessW o y) ((if lessW x y then y else x) :: t) := rfl
    rw [e]
    rw [lessW_V hx hy]
    by_cases c : V x < V y
    · simp only [c, decide_true, if_true]
      obtain ⟨i1, i2⟩ := ih y (fun r hr => h r (by simp at hr ⊢; grind))
      refine ⟨by simp at i1 ⊢; grind, fun r hr => ?_⟩
      have := i2 y (by simp)
      rcases List.mem_cons.1 hr with rfl | hr
      · grind
      · exact i2 r hr
    · simp only [c, decide_false, Bool.false_eq_true, if_false]
      obtain ⟨i1, i2⟩ := ih x (fun r hr => h r (by simp at hr ⊢; grind))
      refine ⟨by simp at i1 ⊢; grind, fun r hr => ?_⟩
      have := i2 x (by simp)
      rcases List.mem_cons.1 hr with rfl | hr
      · exact this
      · rcases List.mem_cons.1 hr with rfl | hr
        · grind
        · exact i2 r (by simp [hr])

/-- Stations rise, and numbers are as they are in a valid pair. -/
structure Gd (l : List St) : Prop where
  a1 : ∀ i, i < l.length → 0 ≤ (nthS l i).a
  a2 : ∀ i, i < l.length → (nthS l i).a ≤ 1000
  up : ∀ i j, i < j → j < l.length → (nthS l i).a < (nthS l j).a
def Hb (l : List St) (hs : List Int) : Prop := ∀ i, i < l.length → -1000 ≤ nthI hs i ∧ nthI hs i ≤ 1000
def X (l : List St) (i : Nat) : Rat := ((nthS l i).a : Rat)
def Y (hs : List Int) (i : Nat) : Rat := ((nthI hs i : Int) : Rat)
theorem Gd.X {l : List St} (h : Gd l) {i j : Nat} (hij : i < j) (hj : j < l.length) : X l i < X l j := Rat.intCast_lt_intCast.2 (h.up i j hij hj)
/-- The line from one station to a later one, at one between. -/
def ln (l : List St) (hs : List Int) (i s k : Nat) : Rat := (Y hs i * (X l k - X l s) + Y hs k * (X l s - X l i)) / (X l k - X l i)
def sl1 (l : List St) (hs : List Int) (s : Nat) (own : Int) (i : Nat) : Rat := ((own : Rat) - Y hs i) / (X l s - X l i)
def sl2 (l : List St) (hs : List Int) (s : Nat) (own : Int) (k : Nat) : Rat := (Y hs k - (own : Rat)) / (X l k - X l s)

theorem okR_one (n : Int) (h1 : -1000000000 ≤ n) (h2 : n ≤ 1000000000) : OkR ⟨n, 1⟩ := ⟨Int.one_pos, by simp, h1, h2, by show (1 : Int) ≤ _; decide⟩
theorem V_one (n : Int) : V ⟨n, 1⟩ = (n : Rat) := by
  show (n : Rat) / ((1 : Int) : Rat) = n
  have : ((1 : Int) : Rat) = 1 := rfl
  rw [this]; grind

section
variable {l : List St} {hs : List Int} {s : Nat} {own : Int} (hg : Gd l) (hh : Hb l hs) (hs1 : s < l.length) (ho : -1000 ≤ own ∧ own ≤ 1000)
include hg hh hs1 ho

theorem los_ok : ∀ i, i < s → OkR (frac (own - nthI hs i) ((nthS l s).a - (nthS l i).a)) ∧ V (frac (own - nthI hs i) ((nthS l s).a - (nthS l i).a)) = sl1 l hs s own i := by
  intro i hi
  have h1 := hg.up i s hi hs1; have h2 := hg.a1 i (by omega); have h3 := hg.a2 s hs1; have h4 := hh i (by omega)
  obtain ⟨k1, k2⟩ := frac_ok (n := own - nthI hs i) (d := (nthS l s).a - (nthS l i).a) (by omega) (by omega) (by omega) (by omega)
  refine ⟨k1, k2.trans ?_⟩
  simp only [sl1, X, Y, Rat.intCast_sub]
theorem his_ok : ∀ k, s < k → k < l.length → OkR (frac (nthI hs k - own) ((nthS l k).a - (nthS l s).a)) ∧ V (frac (nthI hs k - own) ((nthS l k).a - (nthS l s).a)) = sl2 l hs s own k := by
  intro k hk hk2
  have h1 := hg.up s k hk hk2; have h2 := hg.a1 s (by omega); have h3 := hg.a2 k hk2; have h4 := hh k (by omega)
  obtain ⟨k1, k2⟩ := frac_ok (n := nthI hs k - own) (d := (nthS l k).a - (nthS l s).a) (by omega) (by omega) (by omega) (by omega)
  refine ⟨k1, k2.trans ?_⟩
  simp only [sl2, X, Y, Rat.intCast_sub]
theorem lo_spec : OkR (loB l hs s own) ∧ (V (loB l hs s own) = -10000 ∨ ∃ i, i < s ∧ V (loB l hs s own) = sl1 l hs s own i) ∧ -10000 ≤ V (loB l hs s own) ∧ ∀ i, i < s → sl1 l hs s own i ≤ V (loB l hs s own) := by
  have hall : ∀ r, r ∈ ⟨-10000, 1⟩ :: los l hs s own → OkR r := by
    intro r hr
    rcases List.mem_cons.1 hr with rfl | hr
    · exact okR_one _ (by decide) (by decide)
    · obtain ⟨i, hi, rfl⟩ := List.mem_map.1 hr
      exact (los_ok hg hh hs1 ho i (List.mem_range.1 hi)).1
  obtain ⟨h1, h2⟩ := best_max ⟨-10000, 1⟩ (los l hs s own) hall
  refine ⟨hall _ h1, ?_, ?_, ?_⟩
  · rcases List.mem_cons.1 h1 with h | h
    · left
      show V (bestF _ _) = _
      rw [h, V_one]; rfl
    · right
      obtain ⟨i, hi, he⟩ := List.mem_map.1 h
      refine ⟨i, List.mem_range.1 hi, ?_⟩
      show V (bestF _ _) = _
      rw [← he]; exact (los_ok hg hh hs1 ho i (List.mem_range.1 hi)).2
  · have := h2 ⟨-10000, 1⟩ (by simp)
    rw [V_one] at this; exact this
  · intro i hi
    rw [← (los_ok hg hh hs1 ho i hi).2]
    exact h2 _ (List.mem_cons_of_mem _ (List.mem_map.2 ⟨i, List.mem_range.2 hi, rfl⟩))
theorem hi_spec : OkR (hiB l hs s own) ∧ (V (hiB l hs s own) = 10000 ∨ ∃ k, s < k ∧ k < l.length ∧ V (hiB l hs s own) = sl2 l hs s own k) ∧ V (hiB l hs s own) ≤ 10000 ∧ ∀ k, s < k → k < l.length → V (hiB l hs s own) ≤ sl2 l hs s own k := by
  have hall : ∀ r, r ∈ ⟨10000, 1⟩ :: his l hs s own → OkR r := by
    intro r hr
    rcases List.mem_cons.1 hr with rfl | hr
    · exact okR_one _ (by decide) (by decide)
    · obtain ⟨i, hi, rfl⟩ := List.mem_map.1 hr
      have := List.mem_range.1 hi
      exact (his_ok hg hh hs1 ho (s + 1 + i) (by omega) (by omega)).1
  obtain ⟨h1, h2⟩ := best_min ⟨10000, 1⟩ (his l hs s own) hall
  refine ⟨hall _ h1, ?_, ?_, ?_⟩
  · rcases List.mem_cons.1 h1 with h | h
    · left
      show V (bestF _ _) = _
      rw [h, V_one]; rfl
    · right
      obtain ⟨i, hi, he⟩ := List.mem_map.1 h
      have := List.mem_range.1 hi
      refine ⟨s + 1 + i, by omega, by omega, ?_⟩
      show V (bestF _ _) = _
      rw [← he]; exact (his_ok hg hh hs1 ho _ (by omega) (by omega)).2
  · have := h2 ⟨10000, 1⟩ (by simp)
    rw [V_one] at this; exact this
  · intro k hk hk2
    rw [← (his_ok hg hh hs1 ho k hk hk2).2]
    refine h2 _ (List.mem_cons_of_mem _ (List.mem_map.2 ⟨k - (s + 1), List.mem_range.2 (by omega), ?_⟩))
    rw [show s + 1 + (k - (s + 1)) = k by omega]
theorem lo_le {q : Rat} : V (loB l hs s own) ≤ q ↔ -10000 ≤ q ∧ ∀ i, i < s → sl1 l hs s own i ≤ q := by
  obtain ⟨_, h1, h2, h3⟩ := lo_spec hg hh hs1 ho
  constructor
  · intro h
    exact ⟨Rat.le_trans h2 h, fun i hi => Rat.le_trans (h3 i hi) h⟩
  · rintro ⟨a, b⟩
    rcases h1 with h1 | ⟨i, hi, h1⟩
    · rw [h1]; exact a
    · rw [h1]; exact b i hi
theorem le_hi {q : Rat} : q ≤ V (hiB l hs s own) ↔ q ≤ 10000 ∧ ∀ k, s < k → k < l.length → q ≤ sl2 l hs s own k := by
  obtain ⟨_, h1, h2, h3⟩ := hi_spec hg hh hs1 ho
  constructor
  · intro h
    exact ⟨Rat.le_trans h h2, fun i hi hi2 => Rat.le_trans h (h3 i hi hi2)⟩
  · rintro ⟨a, b⟩
    rcases h1 with h1 | ⟨i, hi, hi2, h1⟩
    · rw [h1]; exact a
    · rw [h1]; exact b i hi hi2
end

section
variable {l : List St} {hs : List Int} {s : Nat} {own : Int} (hg : Gd l) (hh : Hb l hs) (hs1 : s < l.length) (ho : -1000 ≤ own ∧ own ≤ 1000)
/-- Indices of pairs, one before and one behind. -/
theorem pair_idx {n s t : Nat} (ht : t < s * (n - (s + 1))) : t / (n - (s + 1)) < s ∧ s < s + 1 + t % (n - (s + 1)) ∧ s + 1 + t % (n - (s + 1)) < n := by
  have hp : 0 < n - (s + 1) := by
    rcases Nat.eq_zero_or_pos (n - (s + 1)) with h | h
    · rw [h] at ht; simp at ht
    · exact h
  have h1 : t / (n - (s + 1)) < s := Nat.div_lt_of_lt_mul (by rw [Nat.mul_comm]; exact ht)
  have h2 := Nat.mod_lt t hp
  omega
theorem idx_pair {n s i k : Nat} (hi : i < s) (hk : s < k) (hk2 : k < n) : ∃ t, t < s * (n - (s + 1)) ∧ t / (n - (s + 1)) = i ∧ s + 1 + t % (n - (s + 1)) = k := by
  have hp : 0 < n - (s + 1) := by omega
  refine ⟨(n - (s + 1)) * i + (k - (s + 1)), ?_, ?_, ?_⟩
  · calc (n - (s + 1)) * i + (k - (s + 1)) < (n - (s + 1)) * i + (n - (s + 1)) := by omega
      _ = (n - (s + 1)) * (i + 1) := by rw [Nat.mul_succ]
      _ ≤ (n - (s + 1)) * s := Nat.mul_le_mul_left _ (by omega)
      _ = s * (n - (s + 1)) := Nat.mul_comm ..
  · rw [Nat.mul_add_div hp, Nat.div_eq_of_lt (by omega)]; omega
  · rw [Nat.mul_add_mod, Nat.mod_eq_of_lt (by omega)]; omega
theorem mul_rng {a b : Int} (h1 : -1000 ≤ a) (h2 : a ≤ 1000) (h3 : 0 ≤ b) (h4 : b ≤ 1000) : -1000000 ≤ a * b ∧ a * b ≤ 1000000 := by
  constructor
  · have := Int.mul_le_mul_of_nonneg_right h1 h3; omega
  · have := Int.mul_le_mul_of_nonneg_right h2 h3; omega
include hg hh hs1
theorem line_ok : ∀ i k, i < s → s < k → k < l.length → OkR (frac (nthI hs i * ((nthS l k).a - (nthS l s).a) + nthI hs k * ((nthS l s).a - (nthS l i).a)) ((nthS l k).a - (nthS l i).a)) ∧
    V (frac (nthI hs i * ((nthS l k).a - (nthS l s).a) + nthI hs k * ((nthS l s).a - (nthS l i).a)) ((nthS l k).a - (nthS l i).a)) = ln l hs i s k := by
  intro i k hi hk hk2
  have h1 := hg.up i s hi hs1; have h2 := hg.up s k hk hk2
  have h3 := hg.a1 i (by omega); have h4 := hg.a2 k hk2; have h5 := hh i (by omega); have h6 := hh k hk2
  have m1 := mul_rng h5.1 h5.2 (b := (nthS l k).a - (nthS l s).a) (by omega) (by omega)
  have m2 := mul_rng h6.1 h6.2 (b := (nthS l s).a - (nthS l i).a) (by omega) (by omega)
  obtain ⟨k1, k2⟩ := frac_ok (n := nthI hs i * ((nthS l k).a - (nthS l s).a) + nthI hs k * ((nthS l s).a - (nthS l i).a)) (d := (nthS l k).a - (nthS l i).a) (by omega) (by omega) (by omega) (by omega)
  refine ⟨k1, k2.trans ?_⟩
  simp only [ln, X, Y, Rat.intCast_sub, Rat.intCast_add, Rat.intCast_mul]
theorem least_spec (hp : 0 < s * (l.length - (s + 1))) : OkR (leastR l hs s) ∧ (∃ i k, i < s ∧ s < k ∧ k < l.length ∧ V (leastR l hs s) = ln l hs i s k) ∧ ∀ i k, i < s → s < k → k < l.length → V (leastR l hs s) ≤ ln l hs i s k := by
  have hall : ∀ r, r ∈ (List.range (s * (l.length - (s + 1)))).map (pairLine l hs s) → OkR r := by
    intro r hr
    obtain ⟨t, ht, rfl⟩ := List.mem_map.1 hr
    obtain ⟨a, b, c⟩ := pair_idx (List.mem_range.1 ht)
    exact (line_ok hg hh hs1 _ _ a b c).1
  obtain ⟨x, t, hxt⟩ : ∃ x t, (List.range (s * (l.length - (s + 1)))).map (pairLine l hs s) = x :: t := by
    cases h : (List.range (s * (l.length - (s + 1)))).map (pairLine l hs s) with
    | nil =>
      have := congrArg List.length h
      rw [List.length_map, List.length_range] at this
      rw [this] at hp
      exact absurd hp (Nat.lt_irrefl _)
    | cons x t => exact ⟨x, t, rfl⟩
  have e : leastR l hs s = bestF (fun y o => lessW y o) (x :: t) := by rw [← hxt]; rfl
  rw [hxt] at hall
  obtain ⟨h1, h2⟩ := best_min x t hall
  rw [← e] at h1 h2
  refine ⟨hall _ h1, ?_, ?_⟩
  · rw [← hxt] at h1
    obtain ⟨t, ht, he⟩ := List.mem_map.1 h1
    obtain ⟨a, b, c⟩ := pair_idx (List.mem_range.1 ht)
    exact ⟨_, _, a, b, c, by rw [← he]; exact (line_ok hg hh hs1 _ _ a b c).2⟩
  · intro i k hi hk hk2
    obtain ⟨t, ht, e1, e2⟩ := idx_pair hi hk hk2
    rw [← (line_ok hg hh hs1 i k hi hk hk2).2]
    refine h2 _ ?_
    rw [← hxt]
    refine List.mem_map.2 ⟨t, List.mem_range.2 ht, ?_⟩
    simp only [pairLine, e1, e2]
include ho
theorem over_ok : ∀ i k, i < s → s < k → k < l.length → OkR (frac (own * ((nthS l k).a - (nthS l i).a) - (nthI hs i * ((nthS l k).a - (nthS l s).a) + nthI hs k * ((nthS l s).a - (nthS l i).a))) ((nthS l k).a - (nthS l i).a)) ∧
    V (frac (own * ((nthS l k).a - (nthS l i).a) - (nthI hs i * ((nthS l k).a - (nthS l s).a) + nthI hs k * ((nthS l s).a - (nthS l i).a))) ((nthS l k).a - (nthS l i).a)) = (own : Rat) - ln l hs i s k := by
  intro i k hi hk hk2
  have h1 := hg.up i s hi hs1; have h2 := hg.up s k hk hk2
  have h3 := hg.a1 i (by omega); have h4 := hg.a2 k hk2; have h5 := hh i (by omega); have h6 := hh k hk2
  have m1 := mul_rng h5.1 h5.2 (b := (nthS l k).a - (nthS l s).a) (by omega) (by omega)
  have m2 := mul_rng h6.1 h6.2 (b := (nthS l s).a - (nthS l i).a) (by omega) (by omega)
  have m3 := mul_rng ho.1 ho.2 (b := (nthS l k).a - (nthS l i).a) (by omega) (by omega)
  obtain ⟨k1, k2⟩ := frac_ok (n := own * ((nthS l k).a - (nthS l i).a) - (nthI hs i * ((nthS l k).a - (nthS l s).a) + nthI hs k * ((nthS l s).a - (nthS l i).a))) (d := (nthS l k).a - (nthS l i).a) (by omega) (by omega) (by omega) (by omega)
  refine ⟨k1, k2.trans ?_⟩
  have hx := hg.X (show i < k by omega) hk2
  have hne : X l k - X l i ≠ 0 := by grind
  have hx2 : ((nthS l k).a : Rat) - ((nthS l i).a : Rat) ≠ 0 := hne
  simp only [ln, X, Y, Rat.intCast_sub, Rat.intCast_add, Rat.intCast_mul]
  grind
theorem over_spec : OkR (overR l hs s own) ∧ ∀ q, V (overR l hs s own) ≤ q ↔ 0 ≤ q ∧ ∀ i k, i < s → s < k → k < l.length → (own : Rat) - ln l hs i s k ≤ q := by
  have hall : ∀ r, r ∈ ⟨0, 1⟩ :: overs l hs s own (s * (l.length - (s + 1))) → OkR r := by
    intro r hr
    rcases List.mem_cons.1 hr with rfl | hr
    · exact okR_one _ (by decide) (by decide)
    · obtain ⟨t, ht, rfl⟩ := List.mem_map.1 (List.mem_filter.1 hr).1
      obtain ⟨a, b, c⟩ := pair_idx (List.mem_range.1 ht)
      exact (over_ok hg hh hs1 ho _ _ a b c).1
  obtain ⟨h1, h2⟩ := best_max _ _ hall
  refine ⟨hall _ h1, fun q => ⟨fun h => ⟨?_, fun i k hi hk hk2 => ?_⟩, fun ⟨a, b⟩ => ?_⟩⟩
  · have := h2 ⟨0, 1⟩ (by simp)
    rw [V_one] at this
    exact Rat.le_trans this h
  · obtain ⟨t, ht, e1, e2⟩ := idx_pair hi hk hk2
    rw [← (over_ok hg hh hs1 ho i k hi hk hk2).2]
    have e : pairOver l hs s own t = frac (own * ((nthS l k).a - (nthS l i).a) - (nthI hs i * ((nthS l k).a - (nthS l s).a) + nthI hs k * ((nthS l s).a - (nthS l i).a))) ((nthS l k).a - (nthS l i).a) := by
      simp only [pairOver, e1, e2]
    rw [← e]
    by_cases hz : pairOver l hs s own t = ⟨0, 1⟩
    · have := h2 ⟨0, 1⟩ (by simp)
      rw [hz]
      exact Rat.le_trans this h
    · refine Rat.le_trans (h2 _ (List.mem_cons_of_mem _ (List.mem_filter.2 ⟨List.mem_map.2 ⟨t, List.mem_range.2 ht, rfl⟩, by simpa using hz⟩))) h
  · rcases List.mem_cons.1 h1 with hb | hb
    · show V (bestF _ _) ≤ q
      rw [hb, V_one]; exact a
    · obtain ⟨t, ht, he⟩ := List.mem_map.1 (List.mem_filter.1 hb).1
      obtain ⟨a1, b1, c1⟩ := pair_idx (List.mem_range.1 ht)
      show V (bestF _ _) ≤ q
      rw [← he]
      show V (frac _ _) ≤ q
      rw [(over_ok hg hh hs1 ho _ _ a1 b1 c1).2]
      exact b _ _ a1 b1 c1
/-- By how much a station is above the least line: the reference's way. -/
theorem above_spec (hlb : 0 < s * (l.length - (s + 1)) → -2000000 ≤ (leastR l hs s).num ∧ (leastR l hs s).num ≤ 2000000 ∧ (leastR l hs s).den ≤ 1000) :
    OkR (aboveR l hs s own) ∧ ∀ q, V (aboveR l hs s own) ≤ q ↔ 0 ≤ q ∧ ∀ i k, i < s → s < k → k < l.length → (own : Rat) - ln l hs i s k ≤ q := by
  by_cases hp : 0 < s * (l.length - (s + 1))
  · obtain ⟨k1, ⟨i0, k0, hi0, hk0, hkn0, he⟩, k3⟩ := least_spec hg hh hs1 hp
    obtain ⟨b1, b2, b3⟩ := hlb hp
    have hdp := rpos k1.den
    have hV : V (leastR l hs s) * ((leastR l hs s).den : Rat) = ((leastR l hs s).num : Rat) := by
      unfold V
      have : ((leastR l hs s).den : Rat) ≠ 0 := by grind
      grind
    by_cases hle : own * (leastR l hs s).den ≤ (leastR l hs s).num
    · have e : aboveR l hs s own = ⟨0, 1⟩ := by rw [aboveR, if_pos (.inr hle)]
      have hVo : (own : Rat) ≤ V (leastR l hs s) := by
        have h1 := Rat.intCast_le_intCast.2 hle
        rw [Rat.intCast_mul, ← hV] at h1
        exact Rat.le_of_mul_le_mul_right h1 hdp
      rw [e]
      refine ⟨okR_one _ (by decide) (by decide), fun q => ?_⟩
      rw [V_one]
      constructor
      · intro h
        refine ⟨h, fun i k a b c => ?_⟩
        have := k3 i k a b c
        have h0 : ((0 : Int) : Rat) = 0 := rfl
        grind
      · intro h; exact h.1
    · have e : aboveR l hs s own = frac (own * (leastR l hs s).den - (leastR l hs s).num) (leastR l hs s).den := by rw [aboveR, if_neg (by omega)]
      have m := mul_rng ho.1 ho.2 (b := (leastR l hs s).den) (by have := k1.den; omega) b3
      obtain ⟨f1, f2⟩ := frac_ok (n := own * (leastR l hs s).den - (leastR l hs s).num) (d := (leastR l hs s).den) (by omega) (by omega) k1.den (by omega)
      have f3 : V (aboveR l hs s own) = (own : Rat) - V (leastR l hs s) := by
        rw [e, f2, Rat.intCast_sub, Rat.intCast_mul, ← hV]
        have : ((leastR l hs s).den : Rat) ≠ 0 := by grind
        grind
      have hVo : V (leastR l hs s) < (own : Rat) := by
        have h1 := Rat.intCast_lt_intCast.2 (show (leastR l hs s).num < own * (leastR l hs s).den by omega)
        rw [Rat.intCast_mul, ← hV] at h1
        exact (Rat.mul_lt_mul_right hdp).1 h1
      refine ⟨by rw [e]; exact f1, fun q => ?_⟩
      rw [f3]
      constructor
      · intro h
        refine ⟨by grind, fun i k a b c => ?_⟩
        have := k3 i k a b c
        grind
      · rintro ⟨a, b⟩
        have := b i0 k0 hi0 hk0 hkn0
        grind
  · have e : aboveR l hs s own = ⟨0, 1⟩ := by rw [aboveR, if_pos (.inl hp)]
    rw [e]
    refine ⟨okR_one _ (by decide) (by decide), fun q => ?_⟩
    rw [V_one]
    constructor
    · intro h
      refine ⟨h, fun i k a b c => ?_⟩
      obtain ⟨t, ht, _⟩ := idx_pair a b c
      omega
    · intro h; exact h.1
theorem over_above (hlb : 0 < s * (l.length - (s + 1)) → -2000000 ≤ (leastR l hs s).num ∧ (leastR l hs s).num ≤ 2000000 ∧ (leastR l hs s).den ≤ 1000) : overR l hs s own = aboveR l hs s own := by
  obtain ⟨a1, a2⟩ := over_spec hg hh hs1 ho
  obtain ⟨b1, b2⟩ := above_spec hg hh hs1 ho hlb
  refine OkR.ext a1 b1 ?_
  have h1 := (a2 _).2 ((b2 _).1 Rat.le_refl)
  have h2 := (b2 _).2 ((a2 _).1 Rat.le_refl)
  exact Rat.le_antisymm h1 h2

/-- Slopes before and behind: a line at a station is not under it just if they rise. -/
theorem slopes_iff : ∀ i k, i < s → s < k → k < l.length → (sl1 l hs s own i ≤ sl2 l hs s own k ↔ (own : Rat) ≤ ln l hs i s k) := by
  intro i k hi hk hk2
  have h1 := hg.X hi hs1; have h2 := hg.X hk hk2
  have d1 : 0 < X l s - X l i := by grind
  have d2 : 0 < X l k - X l s := by grind
  have d3 : 0 < X l k - X l i := by grind
  unfold sl1 sl2 ln
  rw [rdiv_le d1 d2, le_rdiv d3]
  constructor
  · intro h; grind
  · intro h; grind
theorem above_iff : ∀ i k, i < s → s < k → k < l.length → (aboveB (nthS l i).a (nthI hs i) (nthS l s).a own (nthS l k).a (nthI hs k) = false ↔ (own : Rat) ≤ ln l hs i s k) := by
  intro i k hi hk hk2
  rw [← slopes_iff hg hh hs1 ho i k hi hk hk2]
  have h1 := hg.X hi hs1; have h2 := hg.X hk hk2
  have d1 : 0 < X l s - X l i := by grind
  have d2 : 0 < X l k - X l s := by grind
  unfold sl1 sl2 aboveB
  rw [rdiv_le d1 d2]
  simp only [decide_eq_false_iff_not, Int.not_lt]
  rw [← Rat.intCast_le_intCast, Rat.intCast_mul, Rat.intCast_mul]
  simp only [Rat.intCast_sub, X, Y]
theorem slope_bd : (∀ i, i < s → -2000 ≤ sl1 l hs s own i ∧ sl1 l hs s own i ≤ 2000) ∧ (∀ k, s < k → k < l.length → -2000 ≤ sl2 l hs s own k ∧ sl2 l hs s own k ≤ 2000) := by
  constructor
  · intro i hi
    have h1 := hg.up i s hi hs1; have h4 := hh i (by omega)
    have hx := Rat.intCast_le_intCast.2 (show (nthS l i).a + 1 ≤ (nthS l s).a by omega)
    have hy1 := Rat.intCast_le_intCast.2 (show -2000 ≤ own - nthI hs i by omega)
    have hy2 := Rat.intCast_le_intCast.2 (show own - nthI hs i ≤ 2000 by omega)
    rw [Rat.intCast_sub] at hy1 hy2
    rw [Rat.intCast_add] at hx
    have c1 : ((-2000 : Int) : Rat) = -2000 := rfl
    have c2 : ((2000 : Int) : Rat) = 2000 := rfl
    have c3 : ((1 : Int) : Rat) = 1 := rfl
    have d1 : 0 < X l s - X l i := by unfold X; grind
    unfold sl1
    rw [le_rdiv d1, rdiv_le' d1]
    unfold X Y
    grind
  · intro k hk hk2
    have h1 := hg.up s k hk hk2; have h4 := hh k (by omega)
    have hx := Rat.intCast_le_intCast.2 (show (nthS l s).a + 1 ≤ (nthS l k).a by omega)
    have hy1 := Rat.intCast_le_intCast.2 (show -2000 ≤ nthI hs k - own by omega)
    have hy2 := Rat.intCast_le_intCast.2 (show nthI hs k - own ≤ 2000 by omega)
    rw [Rat.intCast_sub] at hy1 hy2
    rw [Rat.intCast_add] at hx
    have c1 : ((-2000 : Int) : Rat) = -2000 := rfl
    have c2 : ((2000 : Int) : Rat) = 2000 := rfl
    have c3 : ((1 : Int) : Rat) = 1 := rfl
    have d1 : 0 < X l k - X l s := by unfold X; grind
    unfold sl2
    rw [le_rdiv d1, rdiv_le' d1]
    unfold X Y
    grind
/-- Blades touch at a station just if it is above no line. -/
theorem touch_iff : lessW (hiB l hs s own) (loB l hs s own) = false ↔ ∀ i k, i < s → s < k → k < l.length → (own : Rat) ≤ ln l hs i s k := by
  obtain ⟨a1, _⟩ := lo_spec hg hh hs1 ho
  obtain ⟨b1, _⟩ := hi_spec hg hh hs1 ho
  obtain ⟨c1, c2⟩ := slope_bd hg hh hs1 ho
  rw [lessW_V b1 a1]
  simp only [decide_eq_false_iff_not, Rat.not_lt]
  rw [lo_le hg hh hs1 ho]
  constructor
  · rintro ⟨_, h⟩ i k hi hk hk2
    rw [← slopes_iff hg hh hs1 ho i k hi hk hk2]
    have := h i hi
    rw [le_hi hg hh hs1 ho] at this
    exact this.2 k hk hk2
  · intro h
    constructor
    · rw [le_hi hg hh hs1 ho]
      refine ⟨by decide, fun k hk hk2 => ?_⟩
      have := (c2 k hk hk2).1
      grind
    · intro i hi
      rw [le_hi hg hh hs1 ho]
      have := (c1 i hi).2
      refine ⟨by grind, fun k hk hk2 => ?_⟩
      exact (slopes_iff hg hh hs1 ho i k hi hk hk2).2 (h i k hi hk hk2)
theorem meets_iff : meetsB l hs s own = true ↔ ∀ i k, i < s → s < k → k < l.length → (own : Rat) ≤ ln l hs i s k := by
  unfold meetsB
  rw [List.all_eq_true]
  constructor
  · intro h i k hi hk hk2
    obtain ⟨t, ht, e1, e2⟩ := idx_pair hi hk hk2
    have := h t (List.mem_range.2 ht)
    rw [← above_iff hg hh hs1 ho i k hi hk hk2]
    simpa [pairUp, e1, e2] using this
  · intro h t ht
    obtain ⟨a, b, c⟩ := pair_idx (List.mem_range.1 ht)
    have := (above_iff hg hh hs1 ho _ _ a b c).2 (h _ _ a b c)
    simp [pairUp, this]
end

section
variable {H x : Nat → Rat} {n : Nat}
theorem sum_le (m : Rat) (i : Nat) : ∀ k, i ≤ k → (∀ a, i ≤ a → a < k → H (a + 1) - H a ≤ m * (x (a + 1) - x a)) → H k - H i ≤ m * (x k - x i) := by
  intro k
  induction k with
  | zero => intro h _; obtain rfl : i = 0 := by omega
            grind
  | succ k ih =>
    intro h1 h2
    rcases Nat.lt_or_ge k i with h | h
    · obtain rfl : i = k + 1 := by omega
      grind
    · have h3 := ih h (fun a b c => h2 a b (by omega))
      have h4 := h2 k h (by omega)
      grind
theorem sum_ge (m : Rat) (i : Nat) : ∀ k, i ≤ k → (∀ a, i ≤ a → a < k → m * (x (a + 1) - x a) ≤ H (a + 1) - H a) → m * (x k - x i) ≤ H k - H i := by
  intro k
  induction k with
  | zero => intro h _; obtain rfl : i = 0 := by omega
            grind
  | succ k ih =>
    intro h1 h2
    rcases Nat.lt_or_ge k i with h | h
    · obtain rfl : i = k + 1 := by omega
      grind
    · have h3 := ih h (fun a b c => h2 a b (by omega))
      have h4 := h2 k h (by omega)
      grind
variable (hx : ∀ i, i + 1 < n → x i < x (i + 1)) (hc : ∀ i, i + 2 < n → (H (i + 1) - H i) * (x (i + 2) - x (i + 1)) ≤ (H (i + 2) - H (i + 1)) * (x (i + 1) - x i))
def slp (H x : Nat → Rat) (i : Nat) : Rat := (H (i + 1) - H i) / (x (i + 1) - x i)
include hx
theorem slp_mul (i : Nat) (hi : i + 1 < n) : slp H x i * (x (i + 1) - x i) = H (i + 1) - H i := by
  have := hx i hi
  have h : x (i + 1) - x i ≠ 0 := by grind
  unfold slp
  grind
theorem x_lt : ∀ i j, i < j → j < n → x i < x j := by
  intro i j
  induction j with
  | zero => intro h; omega
  | succ j ih =>
    intro h1 h2
    have h3 := hx j h2
    rcases Nat.lt_succ_iff_lt_or_eq.1 h1 with h | rfl
    · have := ih h (by omega); grind
    · exact h3
include hc
theorem slp_mono (i : Nat) : ∀ j, i ≤ j → j + 1 < n → slp H x i ≤ slp H x j := by
  intro j
  induction j with
  | zero => intro h _; obtain rfl : i = 0 := by omega
            exact Rat.le_refl
  | succ j ih =>
    intro h1 h2
    rcases Nat.lt_or_ge j i with h | h
    · obtain rfl : i = j + 1 := by omega
      exact Rat.le_refl
    · refine Rat.le_trans (ih h (by omega)) ?_
      have a := hx j (by omega); have b := hx (j + 1) h2
      unfold slp
      rw [rdiv_le (by grind) (by grind)]
      exact hc j (by omega)
theorem conv_up (e : Nat) (k v : Nat) (hek : e ≤ k) (hkv : k ≤ v) (hv : v < n) (he : e + 1 < n) : slp H x e * (x v - x k) ≤ H v - H k := by
  refine sum_ge _ _ _ hkv (fun a ha1 ha2 => ?_)
  have h1 := slp_mono hx hc e a (by omega) (by omega)
  have h2 := slp_mul (H := H) hx a (by omega)
  have h3 := hx a (by omega)
  have h4 := Rat.mul_le_mul_of_nonneg_right h1 (show 0 ≤ x (a + 1) - x a by grind)
  grind
theorem conv_dn (e : Nat) (i k : Nat) (hik : i ≤ k) (hke : k ≤ e + 1) (he : e + 1 < n) : H k - H i ≤ slp H x e * (x k - x i) := by
  refine sum_le _ _ _ hik (fun a ha1 ha2 => ?_)
  have h1 := slp_mono hx hc a e (by omega) he
  have h2 := slp_mul (H := H) hx a (by omega)
  have h3 := hx a (by omega)
  have h4 := Rat.mul_le_mul_of_nonneg_right h1 (show 0 ≤ x (a + 1) - x a by grind)
  grind
/-- An edge of what is convex is nowhere above it. -/
theorem conv_support (e v : Nat) (he : e + 1 < n) (hv : v < n) : H e + slp H x e * (x v - x e) ≤ H v := by
  rcases Nat.le_total e v with h | h
  · have := conv_up hx hc e e v (Nat.le_refl _) h hv he
    grind
  · have := conv_dn hx hc e v e h (by omega) he
    grind
theorem conv_all (i k m : Nat) (hik : i < k) (hkm : k < m) (hm : m < n) : (H k - H i) * (x m - x k) ≤ (H m - H k) * (x k - x i) := by
  have h1 := conv_dn hx hc (k - 1) i k (by omega) (by omega) (by omega)
  have h2 := conv_up hx hc (k - 1) k m (by omega) (by omega) hm (by omega)
  have h3 := x_lt hx i k hik (by omega)
  have h4 := x_lt hx k m hkm hm
  have h5 := Rat.mul_le_mul_of_nonneg_right h1 (show 0 ≤ x m - x k by grind)
  have h6 := Rat.mul_le_mul_of_nonneg_right h2 (show 0 ≤ x k - x i by grind)
  grind
end

/-- What holds of the stack of a hull: the stations between two of its points are not under their line, and it is convex. -/
def Cv (l : List St) (hs : List Int) : List Nat → Prop
  | [] => False
  | [q] => q = 0
  | q :: p :: r => p < q ∧ (∀ j, p < j → j < q → ln l hs p j q ≤ Y hs j) ∧ (∀ o, r.head? = some o → (Y hs p - Y hs o) * (X l q - X l p) ≤ (Y hs q - Y hs p) * (X l p - X l o)) ∧ Cv l hs (p :: r)

theorem ln_le {l : List St} {hs : List Int} (hg : Gd l) {i s k : Nat} (h1 : i < k) (h2 : k < l.length) {q : Rat} : ln l hs i s k ≤ q ↔ Y hs i * (X l k - X l s) + Y hs k * (X l s - X l i) ≤ q * (X l k - X l i) := by
  have := hg.X h1 h2
  unfold ln
  rw [rdiv_le' (by grind)]
theorem le_ln {l : List St} {hs : List Int} (hg : Gd l) {i s k : Nat} (h1 : i < k) (h2 : k < l.length) {q : Rat} : q ≤ ln l hs i s k ↔ q * (X l k - X l i) ≤ Y hs i * (X l k - X l s) + Y hs k * (X l s - X l i) := by
  have := hg.X h1 h2
  unfold ln
  rw [le_rdiv (by grind)]
theorem ln_mul {l : List St} {hs : List Int} (hg : Gd l) {i s k : Nat} (h1 : i < k) (h2 : k < l.length) : ln l hs i s k * (X l k - X l i) = Y hs i * (X l k - X l s) + Y hs k * (X l s - X l i) := by
  have := hg.X h1 h2
  have h : X l k - X l i ≠ 0 := by grind
  unfold ln
  grind

theorem abv_iff {l : List St} {hs : List Int} {p q k : Nat} : aboveB (nthS l p).a (nthI hs p) (nthS l q).a (nthI hs q) (nthS l k).a (nthI hs k) = true ↔ (Y hs k - Y hs q) * (X l q - X l p) < (Y hs q - Y hs p) * (X l k - X l q) := by
  unfold aboveB
  simp only [decide_eq_true_eq]
  rw [← Rat.intCast_lt_intCast, Rat.intCast_mul, Rat.intCast_mul]
  simp only [Rat.intCast_sub, X, Y]

/-- A station above a line lifts the lines from and to it. -/
theorem lift1 {l : List St} {hs : List Int} (hg : Gd l) {p q k j : Nat} (h1 : p < q) (h2 : q < j) (h3 : j < k) (h4 : k < l.length) (h : (Y hs k - Y hs q) * (X l q - X l p) < (Y hs q - Y hs p) * (X l k - X l q)) (hj : ln l hs q j k ≤ Y hs j) : ln l hs p j k ≤ Y hs j := by
  refine Rat.le_trans ?_ hj
  rw [ln_le hg (by omega) h4]
  have e := ln_mul (hs := hs) (s := j) hg (show q < k by omega) h4
  have x1 := hg.X h1 (by omega); have x2 := hg.X h2 (by omega); have x3 := hg.X h3 h4
  refine Rat.le_of_mul_le_mul_right (c := X l k - X l q) ?_ (by grind)
  have f := Rat.mul_le_mul_of_nonneg_right (Rat.le_of_lt h) (show 0 ≤ X l k - X l j by grind)
  have e2 : ln l hs q j k * (X l k - X l p) * (X l k - X l q) = (Y hs q * (X l k - X l j) + Y hs k * (X l j - X l q)) * (X l k - X l p) := by rw [← e]; grind
  rw [e2]
  clear e e2 hj
  grind
theorem lift2 {l : List St} {hs : List Int} (hg : Gd l) {p q k j : Nat} (h1 : p < j) (h2 : j < q) (h3 : q < k) (h4 : k < l.length) (h : (Y hs k - Y hs q) * (X l q - X l p) < (Y hs q - Y hs p) * (X l k - X l q)) (hj : ln l hs p j q ≤ Y hs j) : ln l hs p j k ≤ Y hs j := by
  refine Rat.le_trans ?_ hj
  rw [ln_le hg (by omega) h4]
  have e := ln_mul (hs := hs) (s := j) hg (show p < q by omega) (by omega)
  have x1 := hg.X h1 (by omega); have x2 := hg.X h2 (by omega); have x3 := hg.X h3 h4
  refine Rat.le_of_mul_le_mul_right (c := X l q - X l p) ?_ (by grind)
  have f := Rat.mul_le_mul_of_nonneg_right (Rat.le_of_lt h) (show 0 ≤ X l j - X l p by grind)
  have e2 : ln l hs p j q * (X l k - X l p) * (X l q - X l p) = (Y hs p * (X l q - X l j) + Y hs q * (X l j - X l p)) * (X l k - X l p) := by rw [← e]; grind
  rw [e2]
  clear e e2 hj
  grind
theorem lift3 {l : List St} {hs : List Int} (hg : Gd l) {p q k : Nat} (h1 : p < q) (h3 : q < k) (h4 : k < l.length) (h : (Y hs k - Y hs q) * (X l q - X l p) < (Y hs q - Y hs p) * (X l k - X l q)) : ln l hs p q k ≤ Y hs q := by
  rw [ln_le hg (by omega) h4]
  grind

theorem popR_cv {l : List St} {hs : List Int} (hg : Gd l) (k : Nat) (hk : k < l.length) : ∀ S, Cv l hs S → (∀ q, S.head? = some q → q < k ∧ ∀ j, q < j → j < k → ln l hs q j k ≤ Y hs j) → Cv l hs (k :: popR l hs k S)
  | [], h, _ => h.elim
  | [q], h, h2 => by
    have h3 := h2 q rfl
    exact ⟨h3.1, h3.2, fun o ho => by simp at ho, h⟩
  | q :: p :: r, h, h2 => by
    obtain ⟨a, b, c, d⟩ := h
    obtain ⟨e, f⟩ := h2 q rfl
    rw [popR]
    by_cases hz : aboveB (nthS l p).a (nthI hs p) (nthS l q).a (nthI hs q) (nthS l k).a (nthI hs k) = true
    · rw [if_pos hz]
      rw [abv_iff] at hz
      refine popR_cv hg k hk (p :: r) d (fun p' hp' => ?_)
      obtain rfl : p = p' := by simpa using hp'
      refine ⟨by omega, fun j hj1 hj2 => ?_⟩
      rcases Nat.lt_trichotomy j q with hj | rfl | hj
      · exact lift2 hg hj1 hj e hk hz (b j hj1 hj)
      · exact lift3 hg a e hk hz
      · exact lift1 hg a hj hj2 hk hz (f j hj hj2)
    · rw [if_neg hz]
      rw [abv_iff] at hz
      refine ⟨e, f, fun o ho => ?_, a, b, c, d⟩
      obtain rfl : p = o := by simpa using ho
      grind
theorem hullR_cv {l : List St} {hs : List Int} (hg : Gd l) : ∀ n, n < l.length → Cv l hs (hullR l hs (n + 1)) ∧ (hullR l hs (n + 1)).head? = some n
  | 0, _ => ⟨rfl, rfl⟩
  | n + 1, h => by
    obtain ⟨a, b⟩ := hullR_cv (hs := hs) hg n (by omega)
    refine ⟨popR_cv hg (n + 1) h _ a (fun q hq => ?_), rfl⟩
    obtain rfl : n = q := by rw [b] at hq; simpa using hq
    exact ⟨by omega, fun j h1 h2 => by omega⟩

theorem nm_app1 (L : List Nat) (q j : Nat) (h : j < L.length) : nm (L ++ [q]) j = nm L j := by simp [nm, List.getElem?_append, h]
theorem nm_app2 (L : List Nat) (q : Nat) : nm (L ++ [q]) L.length = q := by simp [nm]

theorem cv_list {l : List St} {hs : List Int} (hg : Gd l) : ∀ S, Cv l hs S → S.head?.getD 0 < l.length →
    0 < S.length ∧ nm S.reverse 0 = 0 ∧ nm S.reverse (S.length - 1) = S.head?.getD 0 ∧
    (∀ j, j + 1 < S.length → nm S.reverse j < nm S.reverse (j + 1) ∧ ∀ i, nm S.reverse j < i → i < nm S.reverse (j + 1) → ln l hs (nm S.reverse j) i (nm S.reverse (j + 1)) ≤ Y hs i) ∧
    (∀ j, j + 2 < S.length → (Y hs (nm S.reverse (j + 1)) - Y hs (nm S.reverse j)) * (X l (nm S.reverse (j + 2)) - X l (nm S.reverse (j + 1))) ≤ (Y hs (nm S.reverse (j + 2)) - Y hs (nm S.reverse (j + 1))) * (X l (nm S.reverse (j + 1)) - X l (nm S.reverse j)))
  | [], h, _ => h.elim
  | [q], h, _ => by
    subst h
    refine ⟨by simp, rfl, rfl, fun j hj => ?_, fun j hj => ?_⟩
    · simp at hj
    · simp at hj
  | q :: p :: r, h, hq => by
    obtain ⟨a, b, c, d⟩ := h
    have hq' : q < l.length := by simpa using hq
    obtain ⟨i1, i2, i3, i4, i5⟩ := cv_list hg (p :: r) d (by simp; omega)
    have hr : (q :: p :: r).reverse = (p :: r).reverse ++ [q] := by simp
    have hlr : (p :: r).reverse.length = (p :: r).length := by simp
    rw [hr]
    generalize hL : (p :: r).reverse = L at *
    have hlp : (p :: r).length = r.length + 1 := by simp
    have hlq : (q :: p :: r).length = r.length + 2 := by simp
    rw [hlp] at hlr i1 i3 i4 i5
    rw [hlq]
    have hlast : nm (L ++ [q]) (r.length + 1) = q := by rw [← hlr]; exact nm_app2 L q
    have hpen : nm (L ++ [q]) r.length = p := by
      rw [nm_app1 _ _ _ (by omega)]
      have : nm L (r.length + 1 - 1) = p := by simpa using i3
      simpa using this
    refine ⟨by omega, by rw [nm_app1 _ _ _ (by omega)]; exact i2, by show nm _ (r.length + 1) = _; rw [hlast]; rfl, fun j hj => ?_, fun j hj => ?_⟩
    · rcases Nat.lt_or_ge (j + 1) (r.length + 1) with h | h
      · rw [nm_app1 _ _ _ (by omega), nm_app1 _ _ _ (by omega)]
        exact i4 j h
      · obtain rfl : j = r.length := by omega
        rw [hlast, hpen]
        exact ⟨a, b⟩
    · rcases Nat.lt_or_ge (j + 2) (r.length + 1) with h | h
      · rw [nm_app1 _ _ _ (by omega), nm_app1 _ _ _ (by omega), nm_app1 _ _ _ (by omega)]
        exact i5 j h
      · obtain ⟨m, hm⟩ : ∃ m, r.length = m + 1 := ⟨j, by omega⟩
        obtain rfl : j = m := by omega
        have e2 : nm (L ++ [q]) (j + 2) = q := by rw [show j + 2 = r.length + 1 by omega]; exact hlast
        have e1 : nm (L ++ [q]) (j + 1) = p := by rw [show j + 1 = r.length by omega]; exact hpen
        rw [e2, e1]
        refine c _ ?_
        rw [nm_app1 _ _ _ (by omega), ← hL]
        cases r with
        | nil => simp at hm
        | cons o r' =>
          simp only [List.head?_cons, Option.some.injEq, nm, List.reverse_cons]
          have : r'.length = j := by simpa using hm
          subst this
          simp

theorem least_idx {L : List Nat} {i : Nat} : ∀ n, (∃ j, j < n ∧ i ≤ nm L j) → ∃ j, j < n ∧ i ≤ nm L j ∧ ∀ j', j' < j → nm L j' < i
  | 0, ⟨j, hj, _⟩ => by omega
  | n + 1, ⟨j, hj, hij⟩ => by
    by_cases h : ∃ j, j < n ∧ i ≤ nm L j
    · obtain ⟨a, b, c, d⟩ := least_idx n h
      exact ⟨a, by omega, c, d⟩
    · have h' : ∀ j', j' < n → nm L j' < i := fun j' hj' => Nat.lt_of_not_le fun hc => h ⟨j', hj', hc⟩
      have : j = n := by
        rcases Nat.lt_or_ge j n with h2 | h2
        · exact absurd ⟨j, h2, hij⟩ h
        · omega
      subst this
      exact ⟨j, hj, hij, h'⟩
/-- The height of the hull at a station: no more than its own and that of each line, and one of them. -/
theorem hull_spec {l : List St} {hs : List Int} (hg : Gd l) (hh : Hb l hs) {i : Nat} (hi : i < l.length) :
    OkR (heightR l hs (hullR l hs l.length).reverse (nthS l i).a) ∧ ∀ q, q ≤ V (heightR l hs (hullR l hs l.length).reverse (nthS l i).a) ↔ q ≤ Y hs i ∧ ∀ i' k, i' < i → i < k → k < l.length → q ≤ ln l hs i' i k := by
  obtain ⟨m, hm⟩ : ∃ m, l.length = m + 1 := ⟨l.length - 1, by omega⟩
  have hcv := hullR_cv (hs := hs) hg m (by omega)
  rw [← hm] at hcv
  obtain ⟨c1, c2, c3, c4, c5⟩ := cv_list hg _ hcv.1 (by rw [hcv.2]; simp; omega)
  rw [hcv.2] at c3
  have hlen : (hullR l hs l.length).reverse.length = (hullR l hs l.length).length := by simp
  generalize (hullR l hs l.length).reverse = L at *
  generalize (hullR l hs l.length).length = N at *
  have c3' : nm L (N - 1) = m := by simpa using c3
  clear hcv c3
  -- vertices rise
  have hmono : ∀ a b, a ≤ b → b < N → nm L a ≤ nm L b := by
    intro a b
    induction b with
    | zero => intro h _; obtain rfl : a = 0 := by omega
              exact Nat.le_refl _
    | succ b ih =>
      intro h1 h2
      rcases Nat.lt_or_ge b a with h | h
      · obtain rfl : a = b + 1 := by omega
        exact Nat.le_refl _
      · have := ih h (by omega); have := (c4 b h2).1; omega
  have hlt : ∀ j, j < N → nm L j < l.length := fun j hj => by have := hmono j (N - 1) (by omega) (by omega); omega
  have hx : ∀ e, e + 1 < N → X l (nm L e) < X l (nm L (e + 1)) := fun e he => hg.X (c4 e he).1 (hlt _ he)
  have hsup : ∀ e v, e + 1 < N → v < l.length → Y hs (nm L e) + slp (fun j => Y hs (nm L j)) (fun j => X l (nm L j)) e * (X l v - X l (nm L e)) ≤ Y hs v := by
    intro e v he hv
    have hv0 := conv_support (H := fun j => Y hs (nm L j)) (x := fun j => X l (nm L j)) hx c5 e
    generalize slp (fun j => Y hs (nm L j)) (fun j => X l (nm L j)) e = mm at *
    obtain ⟨j, hj, hij, hmin⟩ := least_idx (L := L) (i := v) N ⟨N - 1, by omega, by omega⟩
    rcases Nat.lt_or_eq_of_le hij with h | h
    · rcases Nat.eq_zero_or_pos j with h0 | h0
      · subst h0; omega
      obtain ⟨j, rfl⟩ : ∃ j', j = j' + 1 := ⟨j - 1, by omega⟩
      have hp := hmin j (by omega)
      have a := (c4 j hj).2 v hp h
      have b1 := hv0 j he (by omega)
      have b2 := hv0 (j + 1) he hj
      refine Rat.le_trans ?_ a
      rw [le_ln hg (by omega) (hlt _ hj)]
      have y1 := hg.X hp hv; have y2 := hg.X h (hlt _ hj)
      have d1 := Rat.mul_le_mul_of_nonneg_right b1 (show 0 ≤ X l (nm L (j + 1)) - X l v by grind)
      have d2 := Rat.mul_le_mul_of_nonneg_right b2 (show 0 ≤ X l v - X l (nm L j) by grind)
      grind
    · rw [h]; exact hv0 j he hj
  obtain ⟨j, hj, hij, hmin⟩ := least_idx (L := L) (i := i) N ⟨N - 1, by omega, by omega⟩
  have ha : ∀ j', j' < j → (nthS l (nm L j')).a < (nthS l i).a := fun j' hj' => hg.up _ _ (hmin j' hj') hi
  rcases Nat.lt_or_eq_of_le hij with h | h
  · rcases Nat.eq_zero_or_pos j with h0 | h0
    · subst h0; omega
    obtain ⟨j, rfl⟩ : ∃ j', j = j' + 1 := ⟨j - 1, by omega⟩
    rw [heightR_gt l hs L _ (j + 1) (by omega) ha (hg.up _ _ h (hlt _ hj))]
    have hp := hmin j (by omega)
    obtain ⟨o1, o2⟩ := line_ok hg hh hi (nm L j) (nm L (j + 1)) hp h (hlt _ hj)
    rw [Nat.add_sub_cancel]
    refine ⟨o1, fun q => ?_⟩
    rw [o2]
    constructor
    · intro hq
      refine ⟨Rat.le_trans hq ((c4 j hj).2 i hp h), fun i' k h1 h2 h3 => Rat.le_trans hq ?_⟩
      have s1 := hsup j i' hj (by omega)
      have s2 := hsup j k hj h3
      have e1 := slp_mul (H := fun j => Y hs (nm L j)) (x := fun j => X l (nm L j)) hx j hj
      generalize slp (fun j => Y hs (nm L j)) (fun j => X l (nm L j)) j = mm at *
      rw [le_ln hg (by omega) h3]
      have y1 := hg.X h1 hi; have y2 := hg.X h2 h3; have y3 := hg.X hp hi; have y4 := hg.X h (hlt _ hj)
      have e2 : ln l hs (nm L j) i (nm L (j + 1)) = Y hs (nm L j) + mm * (X l i - X l (nm L j)) := by
        unfold ln
        have : X l (nm L (j + 1)) - X l (nm L j) ≠ 0 := by grind
        have e3 : Y hs (nm L (j + 1)) = Y hs (nm L j) + mm * (X l (nm L (j + 1)) - X l (nm L j)) := by grind
        rw [e3]
        grind
      rw [e2]
      have d1 := Rat.mul_le_mul_of_nonneg_right s1 (show 0 ≤ X l k - X l i by grind)
      have d2 := Rat.mul_le_mul_of_nonneg_right s2 (show 0 ≤ X l i - X l i' by grind)
      clear e1 e2 s1 s2
      grind
    · rintro ⟨_, hq⟩
      exact hq _ _ hp h (hlt _ hj)
  · rw [heightR_eq l hs L _ j (by omega) ha (by rw [← h]), ← h]
    have hb := hh i hi
    refine ⟨okR_one _ (by omega) (by omega), fun q => ?_⟩
    rw [V_one]
    refine ⟨fun hq => ⟨hq, fun i' k h1 h2 h3 => Rat.le_trans hq ?_⟩, fun hq => hq.1⟩
    rcases Nat.eq_zero_or_pos j with h0 | h0
    · subst h0; omega
    obtain ⟨j, rfl⟩ : ∃ j', j = j' + 1 := ⟨j - 1, by omega⟩
    have s1 := hsup j i' hj (by omega)
    have s2 := hsup j k hj h3
    have e1 := slp_mul (H := fun j => Y hs (nm L j)) (x := fun j => X l (nm L j)) hx j hj
    generalize slp (fun j => Y hs (nm L j)) (fun j => X l (nm L j)) j = mm at *
    rw [← h] at e1
    rw [le_ln hg (by omega) h3]
    have y1 := hg.X h1 hi; have y2 := hg.X h2 h3
    have d1 := Rat.mul_le_mul_of_nonneg_right s1 (show 0 ≤ X l k - X l i by grind)
    have d2 := Rat.mul_le_mul_of_nonneg_right s2 (show 0 ≤ X l i - X l i' by grind)
    show Y hs i * _ ≤ _
    have e3 : Y hs i = Y hs (nm L j) + mm * (X l i - X l (nm L j)) := by grind
    rw [e3]
    clear e1 s1 s2 e3 hsup c4 c5 hmono hmin ha hlt hx
    grind

end Ma
end Go.Proofs.Ytbjmkmambmeifaa

namespace Go.Proofs.Ytbjmkmambmeifaa
open Go.RowKit

def groundV (l : List St) (s : Int) : Value := if checkStation l s ≠ 0 then errV (checkStation l s) else
  .tuple #[.agg #[.int .i64 (overR l (ends l true) s.toNat (nthS l s.toNat).lo).num, .int .i64 (overR l (ends l true) s.toNat (nthS l s.toNat).lo).den, .int .i64 (overR l (ends l false) s.toNat (nthS l s.toNat).hi).num, .int .i64 (overR l (ends l false) s.toNat (nthS l s.toNat).hi).den], .int .i64 0]

set_option maxRecDepth 100000 in
set_option maxHeartbeats 4000000 in
theorem groundP_any (l : List St) (s : Int) (vl : Value) (w : World) (hl : l.length ≤ 1000) (h : RSt w w.heap.size vl l) :
    Calls Try.prog 28 #[vl, .int .i64 s] w fun e w' => e = .returned (groundV l s) ∧ Below w.heap.size w w' := by
  by_cases hp : checkStation l s = 0
  · obtain ⟨hv, k, rfl, hk⟩ := checkStation_zero l s hp
    obtain ⟨hn0, hn1⟩ := checkPair_len l hv
    have hat := fun w1 (hb : Below w.heap.size w w1) => at_ok l k true vl w1 hl ((h.below hb).more hb.size) hv hk
    have hat2 := fun w1 (hb : Below w.heap.size w w1) => at_ok l k false vl w1 hl ((h.below hb).more hb.size) hv hk
    simp only [Bool.not_true, Bool.not_false] at hat hat2
    have ho1 := ends_at l false k hk
    have ho2 := ends_at l true k hk
    simp only [Bool.false_eq_true, if_true, if_false] at ho1 ho2
    have hov := fun W vb b c (hr : RB W (.pointer vb) l (ends l b)) => over_any l (ends l b) k (nthI (ends l c) k) (nthS l k).lo (nthS l k).hi vb W hn1 hk hr (valid_lt l hv) (valid_a l hv) (ends_rng l _ hv) (ends_rng l _ hv k hk)
    have hV : groundV l k = .tuple #[.agg #[.int .i64 (overR l (ends l true) k (nthI (ends l false) k)).num, .int .i64 (overR l (ends l true) k (nthI (ends l false) k)).den, .int .i64 (overR l (ends l false) k (nthI (ends l true) k)).num, .int .i64 (overR l (ends l false) k (nthI (ends l true) k)).den], .int .i64 0] := by
      unfold groundV
      rw [if_neg (by simpa using hp), Int.toNat_natCast, ho1, ho2]
    have hv1 := fun W vb (hr : RB W (.pointer vb) l (ends l true)) => hov W vb true false hr
    have hv2 := fun W vb (hr : RB W (.pointer vb) l (ends l false)) => hov W vb false true hr
    obtain ⟨F, hF⟩ : ∃ F, overR l (ends l true) k (nthI (ends l false) k) = F := ⟨_, rfl⟩
    obtain ⟨G, hG⟩ : ∃ G, overR l (ends l false) k (nthI (ends l true) k) = G := ⟨_, rfl⟩
    rw [hF] at hv1 hV
    rw [hG] at hv2 hV
    have HV := Lib.hid hV; have HAT := Lib.hid hat; have HAT2 := Lib.hid hat2; have H1 := Lib.hid hv1; have H2 := Lib.hid hv2
    clear hV hat hat2 hov hv1 hv2 hF hG hp hv ho1 ho2 h
    go_enter Try.func28, Try.ntmps28
    go_wp2_with fail
    refine (HAT.out _ (by exact bel_of)).mono ?_
    rintro e w1 ⟨g, rfl, hR, hb1⟩
    have hB1 : Below w.heap.size w w1 := (Below.trans (a := w) (B := w.heap.size) (by exact bel_of) (hb1.mono (by first | omega | (simp; omega) | (simp; done))))
    have b1 : BK w1 w.heap.size #[.int .i64 0, .int .i64 0, .int .i64 0, .int .i64 0] 34 := BK.below (BK.new _ _ _) hb1 (by simp)
    have hlt1 := b1.lt
    clear hb1
    unfold ptV
    go_wp2_with fail
    refine (HAT2.out _ (by exact bel_of)).mono ?_
    rintro e w2 ⟨g2, rfl, hR2, hb2⟩
    have hB2 : Below w.heap.size w w2 := (Below.trans (a := w) (B := w.heap.size) (by exact bel_of) (hb2.mono (by first | omega | (simp; omega) | (simp; done))))
    have b2 : BK w2 w.heap.size #[.int .i64 0, .int .i64 0, .int .i64 0, .int .i64 0] 34 := (b1.alloc _).below hb2 (by simp; omega)
    have p2 : BK w2 w1.heap.size #[.int .i64 (nthS l k).a, .int .i64 (nthS l k).lo, .int .i64 (nthS l k).hi, .int .i64 k, .int .i64 (nthI (ends l false) k)] 85 := BK.below (BK.new _ _ _) hb2 (by simp)
    have hR1 := hR.below (W' := w2) (Below.trans (b := w1.alloc (.cells #[.int .i64 (nthS l k).a, .int .i64 (nthS l k).lo, .int .i64 (nthS l k).hi, .int .i64 k, .int .i64 (nthI (ends l false) k)] 85)) (by exact bel_of) (hb2.mono (by simp)))
    have hlt2 := b2.lt
    have hlp2 := p2.lt
    clear hb2 hR b1
    unfold ptV
    go_wp2_with fail
    have p3 : BK (w2.alloc (.cells #[.int .i64 (nthS l k).a, .int .i64 (nthS l k).lo, .int .i64 (nthS l k).hi, .int .i64 k, .int .i64 (nthI (ends l true) k)] 85)) w2.heap.size #[.int .i64 (nthS l k).a, .int .i64 (nthS l k).lo, .int .i64 (nthS l k).hi, .int .i64 k, .int .i64 (nthI (ends l true) k)] 85 := BK.new _ _ _
    have p4 := p2.alloc (.cells #[.int .i64 (nthS l k).a, .int .i64 (nthS l k).lo, .int .i64 (nthS l k).hi, .int .i64 k, .int .i64 (nthI (ends l true) k)] 85)
    have b3 := b2.alloc (.cells #[.int .i64 (nthS l k).a, .int .i64 (nthS l k).lo, .int .i64 (nthS l k).hi, .int .i64 k, .int .i64 (nthI (ends l true) k)] 85)
    have hR3 := hR1.below (W' := w2.alloc (.cells #[.int .i64 (nthS l k).a, .int .i64 (nthS l k).lo, .int .i64 (nthS l k).hi, .int .i64 k, .int .i64 (nthI (ends l true) k)] 85)) (by exact bel_of)
    have hR4 := hR2.below (W' := w2.alloc (.cells #[.int .i64 (nthS l k).a, .int .i64 (nthS l k).lo, .int .i64 (nthS l k).hi, .int .i64 k, .int .i64 (nthI (ends l true) k)] 85)) (by exact bel_of)
    have hB3 : Below w.heap.size w (w2.alloc (.cells #[.int .i64 (nthS l k).a, .int .i64 (nthS l k).lo, .int .i64 (nthS l k).hi, .int .i64 k, .int .i64 (nthI (ends l true) k)] 85)) := by exact bel_of
    clear p2 b2 hR1 hR2
    generalize w2.alloc (.cells #[.int .i64 (nthS l k).a, .int .i64 (nthS l k).lo, .int .i64 (nthS l k).hi, .int .i64 k, .int .i64 (nthI (ends l true) k)] 85) = W at p3 p4 b3 hR3 hR4 hB3 ⊢
    obtain ⟨gp, hgp⟩ : ∃ gp, w1.heap.size = gp := ⟨_, rfl⟩
    obtain ⟨gq, hgq⟩ : ∃ gq, w2.heap.size = gq := ⟨_, rfl⟩
    rw [hgp] at p4 ⊢
    rw [hgq] at p3 ⊢
    clear hgp hgq
    have hlt3 := b3.lt
    have lp3 := p3.lt
    have lp4 := p4.lt
    have m0 := p3.cell 0
    have m1 := p3.cell 1
    have m2 := p3.cell 2
    have m3 := p3.cell 3
    have m4 := p3.cell 4
    have n0 := p4.cell 0
    have n1 := p4.cell 1
    have n2 := p4.cell 2
    have n3 := p4.cell 3
    have n4 := p4.cell 4
    simp at m0 m1 m2 m3 m4 n0 n1 n2 n3 n4
    refine wp_region_noPanic (plain_any [0, 1, 3, 4] (Below W.heap.size W) mixed ?_)
    (refine any_take 0 ?_ (by rfl) (by kernel_rfl) (fun _ _ _ _ _ hx => hx.elim) (.inl ⟨by rfl, ?_⟩) (by exact bel_of) ?_; rotate_left; (intro X hX; obtain ⟨r1, r2⟩ := Below.rules hX; clear hX; go_simp; rfl); simp only [Act.put, List.setIfInBounds_toArray, List.set_cons_succ, List.set_cons_zero])
    (refine any_take 1 ?_ (by rfl) (by kernel_rfl) (fun _ _ _ _ _ hx => hx.elim) (.inl ⟨by rfl, ?_⟩) (by exact bel_of) ?_; rotate_left; (intro X hX; obtain ⟨r1, r2⟩ := Below.rules hX; clear hX; go_simp; rfl); simp only [Act.put, List.setIfInBounds_toArray, List.set_cons_succ, List.set_cons_zero])
    (refine any_take 3 ?_ (by rfl) (by kernel_rfl) (fun _ _ _ _ _ hx => hx.elim) (.inl ⟨by rfl, ?_⟩) (by exact bel_of) ?_; rotate_left; (intro X hX; obtain ⟨r1, r2⟩ := Below.rules hX; clear hX; go_simp; rfl); simp only [Act.put, List.setIfInBounds_toArray, List.set_cons_succ, List.set_cons_zero])
    (refine any_take 4 ?_ (by rfl) (by kernel_rfl) (fun _ _ _ _ _ hx => hx.elim) (.inl ⟨by rfl, ?_⟩) (by exact bel_of) ?_; rotate_left; (intro X hX; obtain ⟨r1, r2⟩ := Below.rules hX; clear hX; go_simp; rfl); simp only [Act.put, List.setIfInBounds_toArray, List.set_cons_succ, List.set_cons_zero])
    refine any_run1 (i := 2) (by kernel_rfl) (by rfl) (by rfl) ?_
    intro K hK
    go_wp2_with fail
    refine (H1.out _ _ (hR3.below (by exact bel_of))).mono ?_
    rintro e w3 ⟨rfl, hb3⟩
    have hb3' : Below W.heap.size W w3 := Below.trans (b := W.drew) (by exact bel_of) hb3
    refine hK _ _ (fun _ => hb3') ?_
    clear hK K
    refine any_run1 (i := 5) (by kernel_rfl) (by rfl) (by rfl) ?_
    intro K hK
    go_wp2_with fail
    refine (H2.out _ _ (hR4.below hb3')).mono ?_
    rintro e w4 ⟨rfl, hb4⟩
    have hb4' : Below W.heap.size W w4 := hb3'.trans (hb4.mono hb3'.size)
    refine hK _ _ (fun _ => hb4') ?_
    clear hK K
    have hB4 : Below w.heap.size w w4 := hB3.trans (hb4'.mono hB3.size)
    have b4 := b3.below hb4' hlt3
    clear hb3 hb4 hb3' hb4' hR3 hR4 b3 p3 p4 m0 m1 m2 m3 m4 n0 n1 n2 n3 n4
    have y0 := b4.cell 0
    have y1 := b4.cell 1
    have y2 := b4.cell 2
    have y3 := b4.cell 3
    have f0 := b4.frozen 0
    have f1 := b4.frozen 1
    have f2 := b4.frozen 2
    have f3 := b4.frozen 3
    simp at y0 y1 y2 y3
    refine any_run1 (i := 6) (by kernel_rfl) (by rfl) (by rfl) ?_
    intro K hK
    go_wp2_with fail
    refine hK _ _ (fun hx => (Bool.false_ne_true (hx.symm.trans (by kernel_rfl))).elim) ?_
    clear hK K
    refine any_run1 (i := 7) (by kernel_rfl) (by rfl) (by rfl) ?_
    intro K hK
    go_wp2_with fail
    refine hK _ _ (fun hx => (Bool.false_ne_true (hx.symm.trans (by kernel_rfl))).elim) ?_
    clear hK K
    refine any_run1 (i := 8) (by kernel_rfl) (by rfl) (by rfl) ?_
    intro K hK
    go_wp2_with fail
    refine hK _ _ (fun hx => (Bool.false_ne_true (hx.symm.trans (by kernel_rfl))).elim) ?_
    clear hK K
    refine any_done (by kernel_rfl) (NoPanic.normal ?_)
    go_wp2_with fail
    have b5 := ((((b4.set 0 (.int .i64 F.num)).set 1 (.int .i64 F.den)).set 2 (.int .i64 G.num)).set 3 (.int .i64 G.den))
    simp at b5
    refine ret_bk (w := w) (n := w.heap.size) b5 (by exact bel_of) (v := .tuple #[.agg #[.int .i64 F.num, .int .i64 F.den, .int .i64 G.num, .int .i64 G.den], .int .i64 0]) ?_ ?_
    · intro W' hb'
      have z0 := hb'.cell 0
      have z1 := hb'.cell 1
      have z2 := hb'.cell 2
      have z3 := hb'.cell 3
      simp at z0 z1 z2 z3
      simp [results, Try.results28, go_sem, z0, z1, z2, z3]
    exact ⟨by rw [HV.out], by exact bel_of⟩
  · obtain ⟨e0, he0⟩ : ∃ e0, checkStation l s = e0 := ⟨_, rfl⟩
    have hat := fun w1 (hb : Below w.heap.size w w1) => at_bad l s true vl w1 hl ((h.below hb).more hb.size) hp
    have hV : groundV l s = errV (checkStation l s) := by unfold groundV; rw [if_pos hp]
    rw [he0] at hat hp hV
    have hpb : (e0 != 0) = true := by simpa using hp
    have HV := Lib.hid hV; have HAT := Lib.hid hat
    clear hV hat he0 hp h
    go_enter Try.func28, Try.ntmps28
    go_wp2_with fail
    refine (HAT.out _ (by exact bel_of)).mono ?_
    rintro e w1 ⟨rfl, hb1⟩
    have hB1 : Below w.heap.size w w1 := (Below.trans (a := w) (B := w.heap.size) (by exact bel_of) (hb1.mono (by first | omega | (simp; omega) | (simp; done))))
    have b1 : BK w1 w.heap.size #[.int .i64 0, .int .i64 0, .int .i64 0, .int .i64 0] 34 := BK.below (BK.new _ _ _) hb1 (by simp)
    have hlt1 := b1.lt
    clear hb1
    have y0 := b1.cell 0
    have y1 := b1.cell 1
    have y2 := b1.cell 2
    have y3 := b1.cell 3
    have f0 := b1.frozen 0
    have f1 := b1.frozen 1
    have f2 := b1.frozen 2
    have f3 := b1.frozen 3
    simp at y0 y1 y2 y3
    go_wp2_with fail
    have b5 := ((((b1.set 0 (.int .i64 0)).set 1 (.int .i64 0)).set 2 (.int .i64 0)).set 3 (.int .i64 0)).alloc (.cells #[.int .i64 0, .int .i64 0, .int .i64 0, .int .i64 0, .int .i64 0] 85)
    simp at b5
    refine ret_bk (w := w) (n := w.heap.size) b5 (by exact bel_of) (v := .tuple #[.agg #[.int .i64 0, .int .i64 0, .int .i64 0, .int .i64 0], .int .i64 e0]) ?_ ?_
    · intro W' hb'
      have z0 := hb'.cell 0
      have z1 := hb'.cell 1
      have z2 := hb'.cell 2
      have z3 := hb'.cell 3
      simp at z0 z1 z2 z3
      simp [results, Try.results28, go_sem, z0, z1, z2, z3]
    exact ⟨by rw [HV.out]; rfl, by exact bel_of⟩
end Go.Proofs.Ytbjmkmambmeifaa
