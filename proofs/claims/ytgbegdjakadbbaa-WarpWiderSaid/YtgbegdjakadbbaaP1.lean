/- Plain: blades, blows, and what blows cost at least, from a station on, by the bend before it. Plain: what blows before a station cost at least, by the bend up to there; what blows cost with a number at a station. Plain: best blows, chosen from the beginning on; pulls, and their bound; no blows cost less, and some cost as much. The k-th number of a list. Words for memory: a slice that reads as a list, whatever its element type. -/
import Derived.Lib.Hide
import Derived.WalkKit
import Derived.WalkSpells
import Derived.WalkLawsBesides
import Derived.Outline
set_option linter.all false
set_option linter.unnecessarySimpa false
set_option linter.unusedSimpArgs false
set_option linter.unusedVariables false
set_option linter.unusedSectionVars false

namespace Vp
structure Rg where
  lo : Int
  hi : Int
  deriving DecidableEq, Inhabited
/-- A station of a blade. -/
structure St where
  ang : Int
  lo : Int
  hi : Int
  hard : Int
  deriving DecidableEq, Inhabited
def never : Int := 1099511627776
def cst (s : St) (d : Int) : Int := s.hard * max d (-d)
def tub (s : St) : Rg := ⟨s.lo - s.ang, s.hi - s.ang⟩
def okSB (s : St) : Bool := decide (-100 ≤ s.ang ∧ s.ang ≤ 100 ∧ -100 ≤ s.lo ∧ s.lo ≤ 100 ∧ -100 ≤ s.hi ∧ s.hi ≤ 100 ∧ s.lo ≤ s.hi ∧ 1 ≤ s.hard ∧ s.hard ≤ 9)
theorem okSB_iff {s : St} : okSB s = true ↔ -100 ≤ s.ang ∧ s.ang ≤ 100 ∧ -100 ≤ s.lo ∧ s.lo ≤ 100 ∧ -100 ≤ s.hi ∧ s.hi ≤ 100 ∧ s.lo ≤ s.hi ∧ 1 ≤ s.hard ∧ s.hard ≤ 9 := decide_eq_true_iff
/-- The error of a blade. -/
def blaE (l : List St) (m : Int) : Int := if l.length = 0 ∨ 20 < l.length then 6 else if l.all okSB = true then (if 0 ≤ m ∧ m ≤ 200 then 0 else 2) else 3
structure OkB (l : List St) (m : Int) : Prop where
  one : 1 ≤ l.length
  few : l.length ≤ 20
  all : ∀ s ∈ l, okSB s = true
  lo : 0 ≤ m
  hi : m ≤ 200
theorem blaE_ok {l : List St} {m : Int} : blaE l m = 0 ↔ OkB l m := by
  unfold blaE
  constructor
  · intro h
    split at h
    · omega
    · split at h
      · rename_i h1 h2
        split at h
        · rename_i h3
          exact ⟨by omega, by omega, by simpa using h2, h3.1, h3.2⟩
        · omega
      · omega
  · intro h
    have h1 := h.one; have h2 := h.few
    rw [if_neg (by omega), if_pos (by simpa using h.all), if_pos ⟨h.lo, h.hi⟩]

/-- The least of so many numbers, never if there are none. -/
def mins (F : Int → Int) (lo : Int) : Nat → Int
  | 0 => never
  | n + 1 => min (mins F lo n) (F (lo + n))
theorem mins_never (F : Int → Int) (lo : Int) : ∀ n, mins F lo n ≤ never
  | 0 => Int.le_refl _
  | n + 1 => by have := mins_never F lo n; simp only [mins]; omega
theorem mins_le (F : Int → Int) (lo : Int) : ∀ (n : Nat) (g : Int), lo ≤ g → g < lo + n → mins F lo n ≤ F g
  | 0, g, h1, h2 => by omega
  | n + 1, g, h1, h2 => by
    simp only [mins]
    by_cases hg : g = lo + n
    · subst hg; omega
    · have := mins_le F lo n g h1 (by omega); omega
theorem mins_at (F : Int → Int) (lo : Int) : ∀ n, mins F lo n < never → ∃ g, lo ≤ g ∧ g < lo + n ∧ F g = mins F lo n
  | 0, h => by simp [mins] at h
  | n + 1, h => by
    simp only [mins] at h ⊢
    by_cases hc : mins F lo n ≤ F (lo + n)
    · obtain ⟨g, h1, h2, h3⟩ := mins_at F lo n (by omega)
      exact ⟨g, h1, by omega, by omega⟩
    · exact ⟨lo + n, by omega, by omega, by omega⟩
theorem mins_ge {F : Int → Int} {lo : Int} {n : Nat} {x : Int} (hx : x ≤ never) (h : ∀ g, lo ≤ g → g < lo + n → x ≤ F g) : x ≤ mins F lo n := by
  by_cases hc : mins F lo n < never
  · obtain ⟨g, h1, h2, h3⟩ := mins_at F lo n hc
    rw [← h3]; exact h g h1 h2
  · omega
/-- How many numbers there are from one to another one. -/
def cnt (lo hi : Int) : Nat := (hi + 1 - lo).toNat
theorem cnt_lt {lo hi g : Int} : (lo ≤ g ∧ g < lo + cnt lo hi) ↔ (lo ≤ g ∧ g ≤ hi) := by unfold cnt; omega
/-- The bends after a station, from a bend before it. -/
def bLo (s : St) (m f : Int) : Int := max (tub s).lo (f - m)
def bHi (s : St) (m f : Int) : Int := min (tub s).hi (f + m)
/-- What blows cost at least, by the bend before the first of these stations. -/
def tgo (m : Int) : List St → Int → Int
  | [], _ => 0
  | s :: l, f => mins (fun g => tgo m l g + cst s (g - f)) (bLo s m f) (cnt (bLo s m f) (bHi s m f))
theorem tgo_never (m : Int) : ∀ (l : List St) (f : Int), tgo m l f ≤ never
  | [], _ => by simp [tgo, never]
  | s :: l, f => mins_never _ _ _
theorem tgo_le_step {m : Int} {s : St} {l : List St} {f g : Int} (h1 : (tub s).lo ≤ g) (h2 : g ≤ (tub s).hi) (h3 : f - m ≤ g) (h4 : g ≤ f + m) : tgo m (s :: l) f ≤ tgo m l g + cst s (g - f) := by
  have := cnt_lt (lo := bLo s m f) (hi := bHi s m f) (g := g)
  have hb : bLo s m f ≤ g ∧ g ≤ bHi s m f := by unfold bLo bHi; omega
  exact mins_le _ _ _ g (this.2 hb).1 (this.2 hb).2
theorem tgo_at_step {m : Int} {s : St} {l : List St} {f : Int} (h : tgo m (s :: l) f < never) : ∃ g, (tub s).lo ≤ g ∧ g ≤ (tub s).hi ∧ f - m ≤ g ∧ g ≤ f + m ∧ tgo m (s :: l) f = tgo m l g + cst s (g - f) := by
  obtain ⟨g, h1, h2, h3⟩ := mins_at _ _ _ h
  have := (cnt_lt (lo := bLo s m f) (hi := bHi s m f) (g := g)).1 ⟨h1, h2⟩
  unfold bLo bHi at this
  exact ⟨g, by omega, by omega, by omega, by omega, h3.symm⟩

/-- These blows, from this bend on, make these stations straight. -/
def Fe (m : Int) : List St → Int → List Int → Prop
  | [], _, [] => True
  | s :: l, f, d :: ds => (-m ≤ d ∧ d ≤ m) ∧ ((tub s).lo ≤ f + d ∧ f + d ≤ (tub s).hi) ∧ Fe m l (f + d) ds
  | _, _, _ => False
def sumC : List St → List Int → Int
  | s :: l, d :: ds => cst s d + sumC l ds
  | _, _ => 0
theorem Fe.length {m : Int} : ∀ {l : List St} {f : Int} {ds : List Int}, Fe m l f ds → ds.length = l.length
  | [], _, [], _ => rfl
  | s :: l, f, d :: ds, h => by simp [Fe.length h.2.2]
  | [], _, _ :: _, h => h.elim
  | _ :: _, _, [], h => h.elim
theorem tgo_le {m : Int} : ∀ {l : List St} {f : Int} {ds : List Int}, Fe m l f ds → tgo m l f ≤ sumC l ds
  | [], _, [], _ => Int.le_refl _
  | s :: l, f, d :: ds, h => by
    obtain ⟨h1, h2, h3⟩ := h
    have := tgo_le h3
    have h4 := tgo_le_step (m := m) (s := s) (l := l) (f := f) (g := f + d) h2.1 h2.2 (by omega) (by omega)
    rw [show f + d - f = d by omega] at h4
    simp only [sumC]; omega
  | [], _, _ :: _, h => h.elim
  | _ :: _, _, [], h => h.elim
theorem cst_nonneg {s : St} (h : okSB s = true) (d : Int) : 0 ≤ cst s d := by
  have := okSB_iff.1 h
  exact Int.mul_nonneg (by omega) (by omega)
theorem tgo_nonneg {m : Int} : ∀ {l : List St} (_ : ∀ s ∈ l, okSB s = true) (f : Int), 0 ≤ tgo m l f
  | [], _, f => Int.le_refl _
  | s :: l, h, f => mins_ge (by simp [never]) fun g _ _ => by
    have h1 := tgo_nonneg (m := m) (l := l) (fun x hx => h x (by simp [hx])) g
    have h2 := cst_nonneg (h s (by simp)) (g - f)
    omega
theorem tgo_ex {m : Int} : ∀ {l : List St} {f : Int} (_ : ∀ s ∈ l, okSB s = true), tgo m l f < never → ∃ ds, Fe m l f ds ∧ sumC l ds = tgo m l f
  | [], f, _, _ => ⟨[], trivial, rfl⟩
  | s :: l, f, ho, h => by
    obtain ⟨g, h1, h2, h3, h4, h5⟩ := tgo_at_step h
    have h6 := cst_nonneg (ho s (by simp)) (g - f)
    obtain ⟨ds, h7, h8⟩ := tgo_ex (m := m) (l := l) (f := g) (fun x hx => ho x (by simp [hx])) (by omega)
    refine ⟨(g - f) :: ds, ⟨by omega, by omega, ?_⟩, ?_⟩
    · rw [show f + (g - f) = g by omega]; exact h7
    · simp only [sumC]; omega
theorem cst_le {s : St} (h : okSB s = true) {d m : Int} (h1 : -m ≤ d) (h2 : d ≤ m) : cst s d ≤ 9 * m := by
  have := okSB_iff.1 h
  unfold cst
  exact Int.mul_le_mul (by omega) (by omega) (by omega) (by omega)
theorem sumC_le {m : Int} : ∀ {l : List St} {f : Int} {ds : List Int} (_ : ∀ s ∈ l, okSB s = true), Fe m l f ds → sumC l ds ≤ 9 * m * l.length
  | [], _, [], _, _ => by simp [sumC]
  | s :: l, f, d :: ds, ho, h => by
    have h1 := cst_le (ho s (by simp)) h.1.1 h.1.2
    have h2 := sumC_le (fun x hx => ho x (by simp [hx])) h.2.2
    simp only [sumC, List.length_cons]
    rw [Int.natCast_succ, Int.mul_add]
    omega
  | [], _, _ :: _, _, h => h.elim
  | _ :: _, _, [], _, h => h.elim
theorem OkB.cheap {l : List St} {m : Int} (h : OkB l m) {l' : List St} (hl : l'.length ≤ 20) (ha : ∀ s ∈ l', okSB s = true) {f : Int} {ds : List Int} (hf : Fe m l' f ds) : sumC l' ds ≤ 36000 := by
  have h1 := sumC_le ha hf
  have h2 : 9 * m * (l'.length : Int) ≤ 9 * 200 * 20 := Int.mul_le_mul (by have := h.hi; omega) (by omega) (by omega) (by omega)
  omega
theorem OkB.tgo_lt {l : List St} {m : Int} (h : OkB l m) {l' : List St} (hl : l'.length ≤ 20) (ha : ∀ s ∈ l', okSB s = true) {f : Int} : tgo m l' f < never ↔ ∃ ds, Fe m l' f ds := by
  constructor
  · intro h1
    obtain ⟨ds, h2, _⟩ := tgo_ex ha h1
    exact ⟨ds, h2⟩
  · rintro ⟨ds, h1⟩
    have := tgo_le h1
    have := h.cheap hl ha h1
    simp only [never]; omega
theorem OkB.tgo_small {l : List St} {m : Int} (h : OkB l m) {l' : List St} (hl : l'.length ≤ 20) (ha : ∀ s ∈ l', okSB s = true) {f : Int} (h1 : tgo m l' f < never) : tgo m l' f ≤ 36000 := by
  obtain ⟨ds, h2, h3⟩ := tgo_ex ha h1
  have := h.cheap hl ha h2
  omega
end Vp

namespace Vp
/-- A bend after a station, from a bend before it. -/
def mayB (s : St) (m f g : Int) : Prop := (tub s).lo ≤ g ∧ g ≤ (tub s).hi ∧ f - m ≤ g ∧ g ≤ f + m
instance (s : St) (m f g : Int) : Decidable (mayB s m f g) := by unfold mayB; infer_instance
/-- What blows at these stations (the last one first) cost at least, by the bend behind them. -/
def com (m : Int) : List St → Int → Int
  | [], g => if g = 0 then 0 else never
  | s :: l, g => mins (fun f => if com m l f < never ∧ mayB s m f g then com m l f + cst s (g - f) else never) (-200) 401
theorem com_never (m : Int) : ∀ (l : List St) (g : Int), com m l g ≤ never
  | [], g => by unfold com; split <;> simp [never]
  | s :: l, g => mins_never _ _ _
theorem com_step {m : Int} {s : St} {l : List St} {f g : Int} (h : com m l f < never) (hb : mayB s m f g) (hf : -200 ≤ f ∧ f ≤ 200) : com m (s :: l) g ≤ com m l f + cst s (g - f) := by
  have := mins_le (fun f => if com m l f < never ∧ mayB s m f g then com m l f + cst s (g - f) else never) (-200) 401 f (by omega) (by omega)
  simp only [h, hb, and_self, if_true] at this
  exact this
theorem com_at {m : Int} {s : St} {l : List St} {g : Int} (h : com m (s :: l) g < never) : ∃ f, (-200 ≤ f ∧ f ≤ 200) ∧ com m l f < never ∧ mayB s m f g ∧ com m (s :: l) g = com m l f + cst s (g - f) := by
  obtain ⟨f, h1, h2, h3⟩ := mins_at _ _ _ h
  try simp only at h3
  split at h3
  · rename_i hc
    exact ⟨f, by omega, hc.1, hc.2, h3.symm⟩
  · have : com m (s :: l) g = never := h3.symm
    omega
theorem tub_in {s : St} (h : okSB s = true) {g : Int} (h1 : (tub s).lo ≤ g) (h2 : g ≤ (tub s).hi) : -200 ≤ g ∧ g ≤ 200 := by
  have := okSB_iff.1 h
  simp only [tub] at h1 h2; omega
/-- Blows from the beginning on that end at a bend. -/
def endB : Int → List Int → Int
  | f, [] => f
  | f, d :: ds => endB (f + d) ds
theorem endB_app : ∀ (f : Int) (a b : List Int), endB f (a ++ b) = endB (endB f a) b
  | f, [], b => rfl
  | f, d :: a, b => endB_app (f + d) a b
theorem endB_sum : ∀ (f : Int) (a : List Int), endB f a = f + a.sum
  | f, [] => by simp [endB]
  | f, d :: a => by simp only [endB, endB_sum (f + d) a, List.sum_cons]; omega
theorem Fe.app {m : Int} : ∀ {l l' : List St} {f : Int} {a b : List Int}, Fe m l f a → (Fe m (l ++ l') f (a ++ b) ↔ Fe m l' (endB f a) b)
  | [], l', f, [], b, h => Iff.rfl
  | s :: l, l', f, d :: a, b, h => by
    have := Fe.app (l' := l') (b := b) h.2.2
    simp only [List.cons_append, Fe, endB, h.1, h.2.1, and_self, true_and, this]
  | [], _, _, _ :: _, _, h => h.elim
  | _ :: _, _, _, [], _, h => h.elim
theorem Fe.cut {m : Int} : ∀ {l l' : List St} {f : Int} {ds : List Int}, Fe m (l ++ l') f ds → ∃ a b, ds = a ++ b ∧ Fe m l f a ∧ Fe m l' (endB f a) b
  | [], l', f, ds, h => ⟨[], ds, rfl, trivial, h⟩
  | s :: l, l', f, d :: ds, h => by
    obtain ⟨a, b, h1, h2, h3⟩ := Fe.cut (l := l) (l' := l') h.2.2
    exact ⟨d :: a, b, by rw [h1]; rfl, ⟨h.1, h.2.1, h2⟩, h3⟩
  | _ :: _, _, _, [], h => h.elim
theorem sumC_app : ∀ {l l' : List St} {a b : List Int}, l.length = a.length → sumC (l ++ l') (a ++ b) = sumC l a + sumC l' b
  | [], l', [], b, _ => by simp [sumC]
  | s :: l, l', d :: a, b, h => by
    have := sumC_app (l := l) (l' := l') (a := a) (b := b) (by simpa using h)
    simp only [List.cons_append, sumC, this]; omega
  | [], _, _ :: _, _, h => by simp at h
  | _ :: _, _, [], _, h => by simp at h
theorem Fe.end_in {m : Int} {l : List St} (ho : ∀ s ∈ l, okSB s = true) : ∀ {f : Int} {ds : List Int}, -200 ≤ f ∧ f ≤ 200 → Fe m l f ds → -200 ≤ endB f ds ∧ endB f ds ≤ 200 := by
  induction l with
  | nil => intro f ds hf h; cases ds with
    | nil => exact hf
    | cons d ds => exact h.elim
  | cons s l ih => intro f ds hf h; cases ds with
    | nil => exact h.elim
    | cons d ds =>
      obtain ⟨h1, h2, h3⟩ := h
      exact ih (fun x hx => ho x (by simp [hx])) (f := f + d) (ds := ds) (tub_in (ho s (by simp)) h2.1 h2.2) h3
theorem endB_snoc (f : Int) (a : List Int) (d : Int) : endB f (a ++ [d]) = endB f a + d := by rw [endB_app]; rfl
/-- com is the least of what blows cost that end there. -/
theorem com_le {m : Int} : ∀ {l : List St} (_ : ∀ s ∈ l, okSB s = true) {ds : List Int}, Fe m l.reverse 0 ds → sumC l.reverse ds < never → com m l (endB 0 ds) ≤ sumC l.reverse ds
  | [], _, [], _, _ => by simp [com, endB, sumC]
  | [], _, _ :: _, h, _ => h.elim
  | s :: l, ho, ds, h, hs => by
    rw [List.reverse_cons] at h hs ⊢
    obtain ⟨a, b, rfl, h1, h2⟩ := h.cut
    cases b with
    | nil => exact h2.elim
    | cons d b =>
      cases b with
      | cons _ _ => exact h2.2.2.elim
      | nil =>
        have hl := h1.length
        rw [sumC_app (by omega)] at hs ⊢
        have h3 := cst_nonneg (ho s (by simp)) d
        have h4 : sumC [s] [d] = cst s d := by simp [sumC]
        have h5 := com_le (l := l) (fun x hx => ho x (by simp [hx])) h1 (by omega)
        have h6 := h2.1; have h7 := h2.2.1
        have h8 := com_step (s := s) (f := endB 0 a) (g := endB 0 a + d) (m := m) (l := l) (by omega) ⟨by omega, by omega, by omega, by omega⟩ (h1.end_in (fun x hx => ho x (by simp at hx; simp [hx])) ⟨by omega, by omega⟩)
        rw [show endB 0 a + d - endB 0 a = d by omega] at h8
        rw [endB_snoc]; omega
theorem com_ex {m : Int} : ∀ {l : List St} {g : Int}, com m l g < never → ∃ ds, Fe m l.reverse 0 ds ∧ endB 0 ds = g ∧ sumC l.reverse ds = com m l g
  | [], g, h => by
    unfold com at h ⊢
    split at h
    · rename_i h0
      refine ⟨[], trivial, h0.symm, ?_⟩
      rw [if_pos h0]; rfl
    · omega
  | s :: l, g, h => by
    obtain ⟨f, hf, h1, h2, h3⟩ := com_at h
    obtain ⟨ds, h4, h5, h6⟩ := com_ex h1
    obtain ⟨h7, h8, h9, h10⟩ := h2
    refine ⟨ds ++ [g - f], ?_, ?_, ?_⟩
    · rw [List.reverse_cons, h4.app, h5]
      exact ⟨by omega, by omega, trivial⟩
    · rw [endB_snoc, h5]; omega
    · rw [List.reverse_cons, sumC_app (by have := h4.length; omega), h6, h3]
      simp [sumC]
theorem com_nonneg {m : Int} : ∀ {l : List St} (_ : ∀ s ∈ l, okSB s = true) (g : Int), 0 ≤ com m l g
  | [], _, g => by unfold com; split <;> simp [never]
  | s :: l, ho, g => mins_ge (by simp [never]) fun f _ _ => by
    have h1 := com_nonneg (m := m) (l := l) (fun x hx => ho x (by simp [hx])) f
    have h2 := cst_nonneg (ho s (by simp)) (g - f)
    try simp only
    split
    · omega
    · simp [never]
theorem com_tube {m : Int} {s : St} {l : List St} {g : Int} (h : com m (s :: l) g < never) : (tub s).lo ≤ g ∧ g ≤ (tub s).hi := by
  obtain ⟨f, hf, h1, h2, h3⟩ := com_at h
  exact ⟨h2.1, h2.2.1⟩

/-- What blows cost at least that have a number at a station s: those before it are pre (the last one first), those behind it are post. -/
def wit (m : Int) (pre : List St) (s : St) (post : List St) (d : Int) : Int :=
  mins (fun g => com m pre (g - d) + tgo m post g + cst s d) (max (tub s).lo (-200 + d)) (cnt (max (tub s).lo (-200 + d)) (min (tub s).hi (200 + d)))
/-- The reference's. -/
def witR (m : Int) (pre : List St) (s : St) (post : List St) (d : Int) : Int :=
  mins (fun f => if (tub s).lo ≤ f + d ∧ f + d ≤ (tub s).hi then com m pre f + cst s d + tgo m post (f + d) else never) (-200) 401
theorem min_eq_of {x y : Int} (h1 : x < never → y ≤ x) (h2 : y < never → x ≤ y) (h3 : x ≤ never) (h4 : y ≤ never) : x = y := by omega
theorem wit_eq (m : Int) (pre : List St) (s : St) (post : List St) (d : Int) : wit m pre s post d = witR m pre s post d := by
  refine min_eq_of (fun h => ?_) (fun h => ?_) (mins_never _ _ _) (mins_never _ _ _)
  · obtain ⟨g, h1, h2, h3⟩ := mins_at _ _ _ h
    have h4 := cnt_lt.1 ⟨h1, h2⟩
    have h5 := mins_le (fun f => if (tub s).lo ≤ f + d ∧ f + d ≤ (tub s).hi then com m pre f + cst s d + tgo m post (f + d) else never) (-200) 401 (g - d) (by omega) (by omega)
    try simp only at h5
    rw [if_pos (by omega), show g - d + d = g by omega] at h5
    unfold witR
    have h6 : wit m pre s post d = com m pre (g - d) + tgo m post g + cst s d := h3.symm
    omega
  · obtain ⟨f, h1, h2, h3⟩ := mins_at _ _ _ h
    try simp only at h3
    split at h3
    · rename_i hc
      have h5 := (cnt_lt (lo := max (tub s).lo (-200 + d)) (hi := min (tub s).hi (200 + d)) (g := f + d)).2 ⟨by omega, by omega⟩
      have h6 := mins_le (fun g => com m pre (g - d) + tgo m post g + cst s d) _ _ (f + d) h5.1 h5.2
      try simp only at h6
      rw [show f + d - d = f by omega] at h6
      have h7 : witR m pre s post d = com m pre f + cst s d + tgo m post (f + d) := h3.symm
      unfold wit; omega
    · have h6 : witR m pre s post d = never := h3.symm
      omega
/-- The stations of a blade, parted at one of them. -/
structure Part (l : List St) (i : Nat) (pre : List St) (s : St) (post : List St) : Prop where
  eq : l = pre.reverse ++ s :: post
  len : pre.length = i
theorem part_of {l : List St} {i : Nat} (h : i < l.length) : Part l i (l.take i).reverse l[i] (l.drop (i + 1)) :=
  ⟨by rw [List.reverse_reverse, ← List.drop_eq_getElem_cons h, List.take_append_drop], by simp; omega⟩
/-- These blows have a number at a station. -/
theorem wit_le {l : List St} {m : Int} (hB : OkB l m) {i : Nat} {pre post : List St} {s : St} (hP : Part l i pre s post) {ds : List Int} {d : Int} (hf : Fe m l 0 ds) (hd : ds[i]? = some d) : wit m pre s post d ≤ sumC l ds := by
  obtain ⟨rfl, hi⟩ := hP
  have hp : ∀ x ∈ pre, okSB x = true := fun x hx => hB.all x (by simp [hx])
  have hs : okSB s = true := hB.all s (by simp)
  have ha : ∀ x ∈ pre.reverse, okSB x = true := fun x hx => hB.all x (by simp at hx; simp [hx])
  have hfew := hB.few
  obtain ⟨a, b, rfl, h1, h2⟩ := hf.cut
  have hla := h1.length
  cases b with
  | nil => exact h2.elim
  | cons d' b =>
    have hd' : d' = d := by
      rw [List.getElem?_append_right (by simp at hla; omega)] at hd
      rw [show i - a.length = 0 by simp at hla; omega] at hd
      simpa using hd
    subst hd'
    obtain ⟨h3, h4, h5⟩ := h2
    rw [sumC_app (by omega)]
    simp only [sumC]
    have h6 := hB.cheap (by simp at hfew ⊢; omega) ha h1
    have h7 := com_le hp h1 (by simp only [never]; omega)
    have h8 := tgo_le h5
    have h9 := h1.end_in ha ⟨by omega, by omega⟩
    have h10 := tub_in hs h4.1 h4.2
    have h11 := (cnt_lt (lo := max (tub s).lo (-200 + d')) (hi := min (tub s).hi (200 + d')) (g := endB 0 a + d')).2 ⟨by omega, by omega⟩
    have h12 := mins_le (fun g => com m pre (g - d') + tgo m post g + cst s d') _ _ (endB 0 a + d') h11.1 h11.2
    try simp only at h12
    rw [show endB 0 a + d' - d' = endB 0 a by omega] at h12
    unfold wit; omega
theorem wit_ex {l : List St} {m : Int} (hB : OkB l m) {i : Nat} {pre post : List St} {s : St} (hP : Part l i pre s post) {d : Int} (hm : -m ≤ d ∧ d ≤ m) (h : wit m pre s post d < never) : ∃ ds, Fe m l 0 ds ∧ ds[i]? = some d ∧ sumC l ds = wit m pre s post d := by
  obtain ⟨rfl, hi⟩ := hP
  have hp : ∀ x ∈ pre, okSB x = true := fun x hx => hB.all x (by simp [hx])
  have hs : okSB s = true := hB.all s (by simp)
  have hq : ∀ x ∈ post, okSB x = true := fun x hx => hB.all x (by simp [hx])
  obtain ⟨g, h1, h2, h3⟩ := mins_at _ _ _ h
  have h4 := cnt_lt.1 ⟨h1, h2⟩
  have h5 := com_nonneg (m := m) hp (g - d)
  have h6 := tgo_nonneg (m := m) hq g
  have h7 := cst_nonneg hs d
  have h8 : wit m pre s post d = com m pre (g - d) + tgo m post g + cst s d := h3.symm
  obtain ⟨a, h9, h10, h11⟩ := com_ex (m := m) (l := pre) (g := g - d) (by omega)
  obtain ⟨b, h12, h13⟩ := tgo_ex (m := m) (f := g) hq (by omega)
  have hla := h9.length
  refine ⟨a ++ d :: b, ?_, ?_, ?_⟩
  · rw [h9.app, h10]
    refine ⟨hm, ?_, ?_⟩
    · omega
    · rw [show g - d + d = g by omega]; exact h12
  · rw [List.getElem?_append_right (by simp at hla; omega), show i - a.length = 0 by simp at hla; omega]; rfl
  · rw [sumC_app (by omega)]
    simp only [sumC]; omega
end Vp

namespace Vp
/-- The first one of the least. -/
def argm (F : Int → Int) : Int → List Int → Int
  | b, [] => b
  | b, x :: L => argm F (if F x < F b then x else b) L
theorem argm_spec (F : Int → Int) : ∀ (b : Int) (L : List Int), argm F b L ∈ b :: L ∧ ∀ x ∈ b :: L, F (argm F b L) ≤ F x
  | b, [] => ⟨by simp [argm], by simp [argm]⟩
  | b, x :: L => by
    obtain ⟨h1, h2⟩ := argm_spec F (if F x < F b then x else b) L
    simp only [argm]
    refine ⟨?_, ?_⟩
    · split at h1 <;> split <;> simp_all <;> rcases h1 with h1 | h1 <;> simp [h1]
    · have h3 := h2 (if F x < F b then x else b) (by simp)
      intro y hy
      simp only [List.mem_cons] at hy
      rcases hy with rfl | rfl | hy
      · refine Int.le_trans h3 ?_; split <;> omega
      · refine Int.le_trans h3 ?_; split <;> omega
      · exact h2 y (by simp [hy])
theorem argm_snoc (F : Int → Int) : ∀ (b : Int) (L : List Int) (x : Int), argm F b (L ++ [x]) = if F x < F (argm F b L) then x else argm F b L
  | b, [], x => rfl
  | b, y :: L, x => by simp only [List.cons_append, argm]; exact argm_snoc F _ L x
/-- So many numbers, one after another. -/
def lst (lo : Int) (n : Nat) : List Int := (List.range n).map fun i : Nat => lo + i
theorem lst_mem {lo : Int} {n : Nat} {x : Int} : x ∈ lst lo n ↔ lo ≤ x ∧ x < lo + n := by
  simp only [lst, List.mem_map, List.mem_range]
  constructor
  · rintro ⟨i, h1, rfl⟩; omega
  · rintro ⟨h1, h2⟩; exact ⟨(x - lo).toNat, by omega, by omega⟩
theorem lst_length (lo : Int) (n : Nat) : (lst lo n).length = n := by simp [lst]
theorem lst_succ (lo : Int) (n : Nat) : lst lo (n + 1) = lst lo n ++ [lo + n] := by simp [lst, List.range_succ]
theorem lst_cons (lo : Int) (n : Nat) : lst lo (n + 1) = lo :: lst (lo + 1) n := by
  simp only [lst, List.range_succ_eq_map, List.map_cons, List.map_map]
  congr 1
  · simp
  · apply List.map_congr_left; intro i _; simp; omega
/-- From where as little is to go as can be. -/
def nxt (m : Int) (s : St) (l : List St) (f : Int) : Int :=
  argm (fun g => tgo m l g + cst s (g - f)) (bLo s m f) (lst (bLo s m f + 1) (cnt (bLo s m f) (bHi s m f) - 1))
/-- Best blows. -/
def grd (m : Int) : List St → Int → List Int
  | [], _ => []
  | s :: l, f => (nxt m s l f - f) :: grd m l (nxt m s l f)
theorem nxt_spec {m : Int} {s : St} {l : List St} {f : Int} (h : tgo m (s :: l) f < never) : mayB s m f (nxt m s l f) ∧ tgo m (s :: l) f = tgo m l (nxt m s l f) + cst s (nxt m s l f - f) := by
  obtain ⟨g, h1, h2, h3, h4, h5⟩ := tgo_at_step h
  have hb : bLo s m f ≤ g ∧ g ≤ bHi s m f := by unfold bLo bHi; omega
  have hc : cnt (bLo s m f) (bHi s m f) = (cnt (bLo s m f) (bHi s m f) - 1) + 1 := by unfold cnt; omega
  have hin : ∀ x, (x ∈ bLo s m f :: lst (bLo s m f + 1) (cnt (bLo s m f) (bHi s m f) - 1)) ↔ (bLo s m f ≤ x ∧ x ≤ bHi s m f) := by
    intro x
    rw [← lst_cons, ← hc, lst_mem]
    exact cnt_lt
  obtain ⟨h6, h7⟩ := argm_spec (fun g => tgo m l g + cst s (g - f)) (bLo s m f) (lst (bLo s m f + 1) (cnt (bLo s m f) (bHi s m f) - 1))
  have h8 := (hin _).1 h6
  have h9 := h7 g ((hin _).2 hb)
  change bLo s m f ≤ nxt m s l f ∧ nxt m s l f ≤ bHi s m f at h8
  change tgo m l (nxt m s l f) + cst s (nxt m s l f - f) ≤ tgo m l g + cst s (g - f) at h9
  unfold bLo bHi at h8
  have hm : mayB s m f (nxt m s l f) := ⟨by omega, by omega, by omega, by omega⟩
  have h10 := tgo_le_step (l := l) hm.1 hm.2.1 hm.2.2.1 hm.2.2.2
  exact ⟨hm, by omega⟩
theorem grd_spec {m : Int} : ∀ {l : List St} {f : Int} (_ : ∀ s ∈ l, okSB s = true), tgo m l f < never → Fe m l f (grd m l f) ∧ sumC l (grd m l f) = tgo m l f
  | [], _, _, _ => ⟨trivial, rfl⟩
  | s :: l, f, ho, h => by
    obtain ⟨⟨h1, h2, h3, h4⟩, h5⟩ := nxt_spec h
    have h6 := cst_nonneg (ho s (by simp)) (nxt m s l f - f)
    obtain ⟨h7, h8⟩ := grd_spec (m := m) (l := l) (f := nxt m s l f) (fun x hx => ho x (by simp [hx])) (by omega)
    refine ⟨⟨⟨by omega, by omega⟩, ⟨by omega, by omega⟩, ?_⟩, ?_⟩
    · rw [show f + (nxt m s l f - f) = nxt m s l f by omega]; exact h7
    · simp only [grd, sumC, h8]; omega
theorem grd_length (m : Int) : ∀ (l : List St) (f : Int), (grd m l f).length = l.length
  | [], _ => rfl
  | s :: l, f => by simp [grd, grd_length m l]

/-- What a pull brings; what the strain takes. -/
def gain (t : Rg) (p : Int) : Int := if 0 < p then p * t.lo else p * t.hi
def over (s : St) (S : Int) : Int := max 0 (max S (-S) - s.hard)
/-- The bound of pulls, and the strain at the first station. -/
def bou (m : Int) : List St → List Int → Int × Int
  | s :: l, p :: ps => ((bou m l ps).1 + gain (tub s) p - over s ((bou m l ps).2 + p) * m, (bou m l ps).2 + p)
  | _, _ => (0, 0)
theorem gain_le {t : Rg} {p g : Int} (h1 : t.lo ≤ g) (h2 : g ≤ t.hi) : gain t p ≤ p * g := by
  unfold gain
  split
  · exact Int.mul_le_mul_of_nonneg_left h1 (by omega)
  · have := Int.mul_le_mul_of_nonneg_left h2 (show 0 ≤ -p by omega)
    rw [Int.neg_mul, Int.neg_mul] at this; omega
theorem strain_le {s : St} {m d S : Int} (hd1 : -m ≤ d) (hd2 : d ≤ m) (hh : 0 ≤ s.hard) : S * d ≤ cst s d + over s S * m := by
  have h1 : S * d ≤ max S (-S) * max d (-d) := by
    have e : S * d = -S * -d := by rw [Int.neg_mul_neg]
    have e2 : S * d = - (S * -d) := by rw [Int.mul_neg, Int.neg_neg]
    have e3 : S * d = - (-S * d) := by rw [Int.neg_mul, Int.neg_neg]
    rcases Int.le_total 0 S with hS | hS <;> rcases Int.le_total 0 d with hd | hd
    · rw [show max S (-S) = S by omega, show max d (-d) = d by omega]; exact Int.le_refl _
    · rw [show max S (-S) = S by omega, show max d (-d) = -d by omega, e2]
      have := Int.mul_nonneg hS (show 0 ≤ -d by omega); omega
    · rw [show max S (-S) = -S by omega, show max d (-d) = d by omega, e3]
      have := Int.mul_nonneg (show 0 ≤ -S by omega) hd; omega
    · rw [show max S (-S) = -S by omega, show max d (-d) = -d by omega, e]; exact Int.le_refl _
  have h2 : max S (-S) * max d (-d) ≤ cst s d + over s S * m := by
    have h3 : max S (-S) ≤ s.hard + over s S := by unfold over; omega
    have h4 : (0 : Int) ≤ max d (-d) := by omega
    have h5 := Int.mul_le_mul_of_nonneg_right h3 h4
    have h6 : over s S * max d (-d) ≤ over s S * m := Int.mul_le_mul_of_nonneg_left (by omega) (by unfold over; omega)
    rw [Int.add_mul] at h5
    unfold cst; omega
  omega
theorem weak {m : Int} : ∀ {l : List St} {f : Int} {ds ps : List Int} (_ : ∀ s ∈ l, okSB s = true), Fe m l f ds → ps.length = l.length → (bou m l ps).1 ≤ (bou m l ps).2 * f + sumC l ds
  | [], f, [], [], _, _, _ => by simp [bou, sumC]
  | s :: l, f, d :: ds, p :: ps, ho, h, hl => by
    obtain ⟨h1, h2, h3⟩ := h
    have ih := weak (ps := ps) (fun x hx => ho x (by simp [hx])) h3 (by simpa using hl)
    have h4 := gain_le (p := p) h2.1 h2.2
    have h5 := strain_le (s := s) (S := (bou m l ps).2 + p) h1.1 h1.2 (by have := okSB_iff.1 (ho s (by simp)); omega)
    simp only [bou, sumC]
    generalize (bou m l ps).1 = b at *
    generalize (bou m l ps).2 = S at *
    rw [Int.mul_add] at ih h4
    rw [Int.add_mul] at h5 ⊢
    omega
  | [], _, _ :: _, _, _, h, _ => h.elim
  | _ :: _, _, [], _, _, h, _ => h.elim
  | [], _, [], _ :: _, _, _, h => by simp at h
  | _ :: _, _, _ :: _, [], _, _, h => by simp at h

/-- In which range the strain at a station has to be, by its blow. -/
def born (s : St) (m d : Int) : Rg := ⟨if d = -m then -9 else if 0 < d then s.hard else -s.hard, if d = m then 9 else if d < 0 then -s.hard else s.hard⟩
def meet (a b : Rg) : Rg := ⟨max a.lo b.lo, min a.hi b.hi⟩
/-- In which range the strain behind a station can be, by that here. -/
def nowN (t : Rg) (g : Int) (r : Rg) : Rg :=
  if t.lo < g ∧ g < t.hi then r else if t.lo = t.hi then ⟨-9, 9⟩ else ⟨if g < t.hi then -9 else r.lo, if t.lo < g then 9 else r.hi⟩
def here (t : Rg) (g : Int) (r : Rg) (S : Int) : Int := if t.lo < g ∧ g < t.hi then S else max r.lo (min r.hi S)
/-- Pulls that prove blows, and the strain at the first station. -/
def pul (m : Int) : List St → Int → Rg → List Int → List Int × Int
  | s :: l, f, now, d :: ds =>
    let r := meet now (born s m d)
    let q := pul m l (f + d) (nowN (tub s) (f + d) r) ds
    ((here (tub s) (f + d) r q.2 - q.2) :: q.1, here (tub s) (f + d) r q.2)
  | _, _, _, _ => ([], 0)
theorem pul_length (m : Int) : ∀ (l : List St) (f : Int) (now : Rg) (ds : List Int), ds.length = l.length → (pul m l f now ds).1.length = l.length
  | [], _, _, [], _ => rfl
  | s :: l, f, now, d :: ds, h => by simp only [pul, List.length_cons]; rw [pul_length m l _ _ ds (by simpa using h)]
  | [], _, _, _ :: _, h => by simp at h
  | _ :: _, _, _, [], h => by simp at h
/-- What a range of strains says: no less is to go one degree up, or down. -/
structure Inn (m : Int) (l : List St) (f : Int) (now : Rg) : Prop where
  le : now.lo ≤ now.hi
  lo : -9 ≤ now.lo
  hi : now.hi ≤ 9
  up : now.hi < 9 → tgo m l f ≤ now.hi + tgo m l (f + 1)
  dn : -9 < now.lo → tgo m l f ≤ -now.lo + tgo m l (f - 1)
theorem inn_step {m : Int} {s : St} {l : List St} {f d : Int} {now : Rg} (ho : okSB s = true) (hI : Inn m (s :: l) f now) (hd1 : -m ≤ d) (hd2 : d ≤ m) (ht1 : (tub s).lo ≤ f + d) (ht2 : f + d ≤ (tub s).hi) (he : tgo m (s :: l) f = cst s d + tgo m l (f + d)) :
    (meet now (born s m d)).lo ≤ (meet now (born s m d)).hi ∧ Inn m l (f + d) (nowN (tub s) (f + d) (meet now (born s m d))) := by
  obtain ⟨hle, hlo, hhi, hup, hdn⟩ := hI
  have hh := okSB_iff.1 ho
  -- one degree more, or less, here
  have u1 : d < m → f + d + 1 ≤ (tub s).hi → tgo m (s :: l) f ≤ cst s (d + 1) + tgo m l (f + d + 1) := fun h1 h2 => by
    have := tgo_le_step (m := m) (s := s) (l := l) (f := f) (g := f + d + 1) (by omega) h2 (by omega) (by omega)
    rw [show f + d + 1 - f = d + 1 by omega] at this; omega
  have d1 : -m < d → (tub s).lo ≤ f + d - 1 → tgo m (s :: l) f ≤ cst s (d - 1) + tgo m l (f + d - 1) := fun h1 h2 => by
    have := tgo_le_step (m := m) (s := s) (l := l) (f := f) (g := f + d - 1) h2 (by omega) (by omega) (by omega)
    rw [show f + d - 1 - f = d - 1 by omega] at this; omega
  -- or before
  have u2 : f + d + 1 ≤ (tub s).hi → tgo m (s :: l) (f + 1) ≤ cst s d + tgo m l (f + d + 1) := fun h2 => by
    have := tgo_le_step (m := m) (s := s) (l := l) (f := f + 1) (g := f + d + 1) (by omega) h2 (by omega) (by omega)
    rw [show f + d + 1 - (f + 1) = d by omega] at this; omega
  have d2 : (tub s).lo ≤ f + d - 1 → tgo m (s :: l) (f - 1) ≤ cst s d + tgo m l (f + d - 1) := fun h2 => by
    have := tgo_le_step (m := m) (s := s) (l := l) (f := f - 1) (g := f + d - 1) h2 (by omega) (by omega) (by omega)
    rw [show f + d - 1 - (f - 1) = d by omega] at this; omega
  -- before, and back again here
  have u3 : -m < d → tgo m (s :: l) (f + 1) ≤ cst s (d - 1) + tgo m l (f + d) := fun h2 => by
    have := tgo_le_step (m := m) (s := s) (l := l) (f := f + 1) (g := f + d) (by omega) (by omega) (by omega) (by omega)
    rw [show f + d - (f + 1) = d - 1 by omega] at this; omega
  have d3 : d < m → tgo m (s :: l) (f - 1) ≤ cst s (d + 1) + tgo m l (f + d) := fun h2 => by
    have := tgo_le_step (m := m) (s := s) (l := l) (f := f - 1) (g := f + d) (by omega) (by omega) (by omega) (by omega)
    rw [show f + d - (f - 1) = d + 1 by omega] at this; omega
  have c1 : cst s (d + 1) = cst s d + (if d < 0 then -s.hard else s.hard) := by
    unfold cst
    split
    · rw [show max (d + 1) (-(d + 1)) = max d (-d) - 1 by omega, Int.mul_sub]; omega
    · rw [show max (d + 1) (-(d + 1)) = max d (-d) + 1 by omega, Int.mul_add]; omega
  have c2 : cst s (d - 1) = cst s d + (if 0 < d then -s.hard else s.hard) := by
    unfold cst
    split
    · rw [show max (d - 1) (-(d - 1)) = max d (-d) - 1 by omega, Int.mul_sub]; omega
    · rw [show max (d - 1) (-(d - 1)) = max d (-d) + 1 by omega, Int.mul_add]; omega
  generalize cst s (d + 1) = C1 at *
  generalize cst s (d - 1) = C2 at *
  generalize cst s d = C at *
  generalize tgo m (s :: l) f = T at *
  generalize tgo m (s :: l) (f + 1) = T1 at *
  generalize tgo m (s :: l) (f - 1) = T2 at *
  have hR : (meet now (born s m d)).lo ≤ (meet now (born s m d)).hi := by
    simp only [meet, born]
    split at c1 <;> split at c2 <;> split <;> split <;> (try split) <;> (try split) <;> omega
  refine ⟨hR, ?_⟩
  have hup' : (meet now (born s m d)).hi < 9 → f + d + 1 ≤ (tub s).hi → tgo m l (f + d) ≤ (meet now (born s m d)).hi + tgo m l (f + d + 1) := by
    intro h1 h2
    simp only [meet, born] at h1 ⊢
    split at c1 <;> split at h1 <;> (try split at h1) <;> omega
  have hdn' : -9 < (meet now (born s m d)).lo → (tub s).lo ≤ f + d - 1 → tgo m l (f + d) ≤ -(meet now (born s m d)).lo + tgo m l (f + d - 1) := by
    intro h1 h2
    simp only [meet, born] at h1 ⊢
    split at c2 <;> split at h1 <;> (try split at h1) <;> omega
  have hl1 : -9 ≤ (meet now (born s m d)).lo := by simp only [meet]; omega
  have hh1 : (meet now (born s m d)).hi ≤ 9 := by simp only [meet]; omega
  generalize meet now (born s m d) = r at *
  unfold nowN
  split
  · exact ⟨hR, hl1, hh1, fun h => hup' h (by omega), fun h => hdn' h (by omega)⟩
  · split
    · exact ⟨by simp, by simp, by simp, fun h => by simp at h, fun h => by simp at h⟩
    · refine ⟨?_, ?_, ?_, ?_, ?_⟩
      · simp only; split <;> split <;> omega
      · simp only; split <;> omega
      · simp only; split <;> omega
      · simp only; split
        · intro h; omega
        · intro h; exact hup' h (by omega)
      · simp only; split
        · intro h; omega
        · intro h; exact hdn' h (by omega)
theorem slack {s : St} {m d S : Int} {now : Rg} (hh : 0 ≤ s.hard) (hd1 : -m ≤ d) (hd2 : d ≤ m) (h1 : (meet now (born s m d)).lo ≤ S) (h2 : S ≤ (meet now (born s m d)).hi) : S * d = cst s d + over s S * m := by
  simp only [meet, born] at h1 h2
  rcases Int.lt_trichotomy d 0 with hd | hd | hd
  · by_cases hm : d = -m
    · have e : over s S = -S - s.hard := by unfold over; split at h2 <;> (try split at h2) <;> omega
      rw [e]; unfold cst
      rw [show max d (-d) = m by omega, hm, Int.sub_mul, Int.neg_mul, Int.mul_neg]; omega
    · have e : S = -s.hard := by split at h1 <;> split at h2 <;> (try split at h1) <;> (try split at h2) <;> omega
      have e2 : over s S = 0 := by unfold over; omega
      rw [e2, e]; unfold cst
      rw [show max d (-d) = -d by omega, Int.neg_mul, Int.mul_neg]; omega
  · subst hd
    by_cases hm : m = 0
    · subst hm; simp [cst]
    · have e2 : over s S = 0 := by unfold over; split at h1 <;> split at h2 <;> (try split at h1) <;> (try split at h2) <;> omega
      rw [e2]; simp [cst]
  · by_cases hm : d = m
    · have e : over s S = S - s.hard := by unfold over; split at h1 <;> (try split at h1) <;> omega
      rw [e]; unfold cst
      rw [show max d (-d) = m by omega, hm, Int.sub_mul]; omega
    · have e : S = s.hard := by split at h1 <;> split at h2 <;> (try split at h1) <;> (try split at h2) <;> omega
      have e2 : over s S = 0 := by unfold over; omega
      rw [e2, e]; unfold cst
      rw [show max d (-d) = d by omega]; omega
theorem strong {m : Int} : ∀ {l : List St} {f : Int} {ds : List Int} {now : Rg} (_ : ∀ s ∈ l, okSB s = true), Fe m l f ds → sumC l ds = tgo m l f → Inn m l f now →
    (now.lo ≤ (pul m l f now ds).2 ∧ (pul m l f now ds).2 ≤ now.hi) ∧ (bou m l (pul m l f now ds).1).2 = (pul m l f now ds).2 ∧ (bou m l (pul m l f now ds).1).1 = (pul m l f now ds).2 * f + sumC l ds ∧ ∀ p ∈ (pul m l f now ds).1, -18 ≤ p ∧ p ≤ 18
  | [], f, [], now, _, _, _, hI => by
    simp only [pul, bou, sumC]
    refine ⟨⟨?_, ?_⟩, trivial, by simp, by simp⟩
    · by_cases h : -9 < now.lo
      · have := hI.dn h; simp only [tgo] at this; omega
      · omega
    · by_cases h : now.hi < 9
      · have := hI.up h; simp only [tgo] at this; omega
      · omega
  | s :: l, f, d :: ds, now, ho, h, hs, hI => by
    obtain ⟨h1, h2, h3⟩ := h
    have hos := ho s (by simp)
    have h4 := tgo_le h3
    have h5 := tgo_le_step (m := m) (s := s) (l := l) (f := f) (g := f + d) h2.1 h2.2 (by omega) (by omega)
    rw [show f + d - f = d by omega] at h5
    simp only [sumC] at hs
    have h6 : sumC l ds = tgo m l (f + d) := by omega
    obtain ⟨h7, h8⟩ := inn_step hos hI h1.1 h1.2 h2.1 h2.2 (by omega)
    obtain ⟨i1, i2, i3, i4⟩ := strong (fun x hx => ho x (by simp [hx])) h3 h6 h8
    have h8' := h8.lo; have h8'' := h8.hi
    have hh := okSB_iff.1 hos
    have hl1 : -9 ≤ (meet now (born s m d)).lo := by have := hI.lo; simp only [meet]; omega
    have hh1 : (meet now (born s m d)).hi ≤ 9 := by have := hI.hi; simp only [meet]; omega
    have hn1 : now.lo ≤ (meet now (born s m d)).lo := by simp only [meet]; omega
    have hn2 : (meet now (born s m d)).hi ≤ now.hi := by simp only [meet]; omega
    have hsl := fun S => slack (s := s) (m := m) (d := d) (S := S) (now := now) (by omega) h1.1 h1.2
    simp only [pul, bou, sumC]
    generalize meet now (born s m d) = r at *
    generalize pul m l (f + d) (nowN (tub s) (f + d) r) ds = q at *
    obtain ⟨ps, S⟩ := q
    simp only at i1 i2 i3 i4 ⊢
    have hin : r.lo ≤ here (tub s) (f + d) r S ∧ here (tub s) (f + d) r S ≤ r.hi := by
      unfold here; unfold nowN at i1
      split at i1
      · rename_i hc; rw [if_pos hc]; exact i1
      · rename_i hc; rw [if_neg hc]; omega
    have hg : gain (tub s) (here (tub s) (f + d) r S - S) = (here (tub s) (f + d) r S - S) * (f + d) := by
      unfold gain here; unfold nowN at i1
      split at i1
      · rename_i hc; rw [if_pos hc]; simp
      · rename_i hc; rw [if_neg hc]
        split at i1
        · rename_i hc2
          split <;> congr 1 <;> omega
        · rename_i hc2
          simp only at i1
          split
          · rename_i hp
            congr 1
            split at i1 <;> split at i1 <;> omega
          · rename_i hp
            by_cases he : f + d = (tub s).hi
            · rw [he]
            · have : max r.lo (min r.hi S) - S = 0 := by split at i1 <;> split at i1 <;> omega
              rw [this]; simp
    have hsl := hsl _ hin.1 hin.2
    generalize here (tub s) (f + d) r S = H at *
    refine ⟨by omega, by omega, ?_, ?_⟩
    · rw [hg, i2, i3, show S + (H - S) = H by omega]
      rw [Int.sub_mul, Int.mul_add H, Int.mul_add S]
      omega
    · intro p hp
      simp only [List.mem_cons] at hp
      rcases hp with rfl | hp
      · omega
      · exact i4 p hp
  | [], _, _ :: _, _, _, h, _, _ => h.elim
  | _ :: _, _, [], _, _, h, _, _ => h.elim
theorem inn_start (m : Int) (l : List St) (f : Int) : Inn m l f ⟨-9, 9⟩ := ⟨by simp, by simp, by simp, fun h => by simp at h, fun h => by simp at h⟩
end Vp

namespace Go.Proofs.Ytgbegdjakadbbaa
/-- The k-th number of a list. -/
def nthI (l : List Int) (k : Nat) : Int := l.getD k 0
theorem nthI_set {l : List Int} {i : Nat} (h : i < l.length) (x : Int) (j : Nat) : nthI (l.set i x) j = if i = j then x else nthI l j := by
  unfold nthI
  by_cases hij : i = j
  · subst hij; simp [h]
  · simp [hij]
theorem nthI_out {l : List Int} {i : Nat} (h : l.length ≤ i) : nthI l i = 0 := by
  unfold nthI; rw [List.getD_eq_getElem?_getD, List.getElem?_eq_none h]; rfl
theorem nthI_rep {n : Nat} {x : Int} {i : Nat} (h : i < n) : nthI (List.replicate n x) i = x := by
  unfold nthI; rw [List.getD_eq_getElem?_getD]; simp [h]
end Go.Proofs.Ytgbegdjakadbbaa

namespace Go.Proofs.Ytgbegdjakadbbaa
open Go.RowKit Vp

theorem belowN {B : Nat} {a w : World} (h : Below B a w) (n : Nat) : Below B a (w.drewN n) := ⟨h.os, h.tape, h.output, h.size, h.block⟩

/-- What lies below block B stays: shown by the text of the world. -/
theorem bel_of {B : Nat} {w W : World} (h : Below B w W := by (repeat (first | with_reducible assumption | with_reducible exact Below.refl _ _ | (with_reducible refine Below.setCell ?_ (by first | omega | (simp; omega) | (simp; done)) _) | (with_reducible refine Below.alloc ?_ (by first | omega | (simp; omega) | (simp; done)) _) | (with_reducible refine Below.drew ?_) | (with_reducible refine belowN ?_ _) | assumption | exact Below.refl _ _ | (refine Below.alloc ?_ (by first | omega | (simp; omega) | (simp; done)) _) | (refine Below.drew ?_) | (refine belowN ?_ _) | (refine Below.setCell ?_ (by first | omega | (simp; omega) | (simp; done)) _)))) : Below B w W := h

/-- Behind a contract that makes memory: what lay reads as it did. -/
theorem Below.rules {W w1 : World} (hb : Below W.heap.size W w1) : (∀ b o, b < W.heap.size → w1.cell? ⟨b, o, none⟩ = W.cell? ⟨b, o, none⟩) ∧ (∀ b o, b < W.heap.size → w1.frozen? ⟨b, o, none⟩ = W.frozen? ⟨b, o, none⟩) :=
  ⟨fun b o h => hb.cell (p := ⟨b, o, none⟩) h, fun b o h => hb.frozen (p := ⟨b, o, none⟩) h⟩

/-- The slice value v, of n elements of sz cells each, reads as the cells cs; its row lies below block B. -/
def RS (w : World) (B sz : Nat) (v : Value) (n : Nat) (cs : List Value) : Prop :=
  ∃ A cap b off, v = .slice A n cap ∧ (cs.length = n * sz ∧ n ≤ cap) ∧ (n ≠ 0 → A = some ⟨b, off, none⟩ ∧ b < B) ∧ ∀ j, j < cs.length → w.cell? ⟨b, off + j, none⟩ = cs[j]?

theorem RS.keep {w w' : World} {B sz : Nat} {v : Value} {n : Nat} {cs : List Value} (h : RS w B sz v n cs) (hk : ∀ p : Addr, p.block < B → w'.cell? p = w.cell? p) : RS w' B sz v n cs := by
  obtain ⟨A, cap, b, off, hv, hl, hA, hc⟩ := h
  refine ⟨A, cap, b, off, hv, hl, hA, fun j hj => ?_⟩
  have hn : n ≠ 0 := by rintro rfl; simp at hl; rw [hl] at hj; simp at hj
  rw [hk _ (hA hn).2]; exact hc j hj
theorem RS.more {w : World} {B B' sz : Nat} {v : Value} {n : Nat} {cs : List Value} (h : RS w B sz v n cs) (hB : B ≤ B') : RS w B' sz v n cs := by
  obtain ⟨A, cap, b, off, hv, hl, hA, hc⟩ := h
  exact ⟨A, cap, b, off, hv, hl, fun hn => ⟨(hA hn).1, Nat.lt_of_lt_of_le (hA hn).2 hB⟩, hc⟩
theorem RS.below {w w' : World} {B sz : Nat} {v : Value} {n : Nat} {cs : List Value} (h : RS w B sz v n cs) (hb : Below B w w') : RS w' B sz v n cs :=
  h.keep fun _ hp => hb.cell hp
theorem RS.of_own {w : World} {base e sz : Nat} {v : Value} {n : Nat} {cs : List Value} (h : w.ownsRow base e sz v n cs) : RS w w.heap.size sz v n cs := by
  obtain ⟨hl, h2⟩ := h
  rcases h2 with ⟨rfl, rfl⟩ | ⟨g, cap, cur, rfl, _, hg, hcp, _, _, ht⟩
  · exact ⟨none, 0, 0, 0, rfl, ⟨hl, Nat.le_refl _⟩, fun h => absurd rfl h, fun j hj => by simp at hl; subst hl; simp at hj⟩
  · refine ⟨_, cap, g, 0, rfl, ⟨hl, hcp⟩, fun _ => ⟨rfl, (Array.getElem?_eq_some_iff.1 hg).1⟩, fun j hj => ?_⟩
    rw [Nat.zero_add, cell_of_row w g j cur e (0, 0) hg, ← ht, List.getElem?_take_of_lt (by omega)]
    simp

theorem RS.cap {w : World} {B sz : Nat} {A : Option Addr} {n n' c : Nat} {cs : List Value} (h : RS w B sz (.slice A n c) n' cs) : n = n' ∧ n ≤ c := by
  obtain ⟨A', cap, b, off, hv, hl, hA, hc⟩ := h
  injection hv with h1 h2 h3
  omega
/-- A block of cells, known whole. -/
def BK (W : World) (g : Nat) (cs : Array Value) (t : TypeId) : Prop := W.heap[g]? = some (.cells cs t (0, 0))
section
variable {W W' : World} {g : Nat} {cs : Array Value} {t : TypeId}
theorem BK.lt (h : BK W g cs t) : g < W.heap.size := (Array.getElem?_eq_some_iff.1 h).1
theorem BK.cell (h : BK W g cs t) (i : Nat) : W.cell? ⟨g, i, none⟩ = cs[i]? := cell_of_row W g i cs t (0, 0) h
theorem BK.frozen (h : BK W g cs t) (i : Nat) : W.frozen? ⟨g, i, none⟩ = false := by unfold BK at h; simp [World.frozen?, h]
theorem BK.new (W : World) (cs : Array Value) (t : TypeId) : BK (W.alloc (.cells cs t)) W.heap.size cs t := heap_alloc_new W _
theorem BK.new' (W : World) (cs : Array Value) (t : TypeId) (n : Nat) (hn : W.heap.size = n) : BK (W.alloc (.cells cs t)) n cs t := by subst hn; exact heap_alloc_new W _
theorem BK.alloc (h : BK W g cs t) (o : Obj) : BK (W.alloc o) g cs t := (Below.heap_alloc W o g h.lt).trans h
theorem BK.drew (h : BK W g cs t) : BK W.drew g cs t := h
theorem BK.drewN (h : BK W g cs t) (n : Nat) : BK (W.drewN n) g cs t := h
theorem BK.below {B : Nat} (h : BK W g cs t) (hb : Below B W W') (hg : g < B) : BK W' g cs t := (hb.block g hg).trans h
theorem BK.far (h : BK W g cs t) {p : Addr} (hp : g ≠ p.block) (u : Value) : BK (W.setCell p u) g cs t := (Below.heap_setCell W p u g hp).trans h
theorem BK.set (h : BK W g cs t) (i : Nat) (u : Value) : BK (W.setCell ⟨g, i, none⟩ u) g (cs.setIfInBounds i u) t := by
  unfold BK at h ⊢
  simp [World.setCell, Array.getElem?_modify, h]
theorem BK.grown {row : Option Nat} (h : BK W g cs t) (hb : W.grownBy W' row) (hg : some g ≠ row) : BK W' g cs t := (hb.block g h.lt hg).trans h
end

def ofI (l : List Int) : List Value := l.map (.int .i64)
def RI (w : World) (B : Nat) (v : Value) (l : List Int) : Prop := RS w B 1 v l.length (ofI l)
theorem RI.cells {w : World} {B : Nat} {v : Value} {l : List Int} (h : RI w B v l) : ∃ A cap b off, v = .slice A l.length cap ∧ (l.length ≠ 0 → A = some ⟨b, off, none⟩ ∧ b < B) ∧
    ∀ k, k < l.length → w.cell? ⟨b, off + k, none⟩ = some (.int .i64 (nthI l k)) := by
  obtain ⟨A, cap, b, off, hv, hl, hA, hc⟩ := h
  refine ⟨A, cap, b, off, hv, hA, fun k hk => ?_⟩
  rw [hc k (by simpa [ofI] using hk)]
  simp [ofI, nthI, hk]


/-- Structs of so many cells, one after another. -/
def ofG {α : Type} (enc : α → List Value) (l : List α) : List Value := l.flatMap enc
theorem ofG_length {α : Type} {enc : α → List Value} {s : Nat} (he : ∀ x, (enc x).length = s) (l : List α) : (ofG enc l).length = l.length * s := by
  induction l with
  | nil => simp [ofG]
  | cons a t ih =>
    have := he a
    simp only [ofG, List.flatMap_cons, List.length_append, List.length_cons, Nat.succ_mul] at *
    omega
theorem ofG_at {α : Type} {enc : α → List Value} {s : Nat} (he : ∀ x, (enc x).length = s) : ∀ (l : List α) (k j : Nat) (x : α), l[k]? = some x → j < s → (ofG enc l)[k * s + j]? = (enc x)[j]?
  | [], k, j, x, h, _ => by simp at h
  | a :: t, 0, j, x, h, hj => by
    have ha := he a
    simp only [List.getElem?_cons_zero, Option.some.injEq] at h
    subst h
    simp only [ofG, List.flatMap_cons, Nat.zero_mul, Nat.zero_add]
    rw [List.getElem?_append_left (by omega)]
  | a :: t, k + 1, j, x, h, hj => by
    have ha := he a
    have ih := ofG_at he t k j x (by simpa using h) hj
    simp only [ofG, List.flatMap_cons] at ih ⊢
    rw [List.getElem?_append_right (by rw [ha, Nat.succ_mul]; omega), ha, show (k + 1) * s + j - s = k * s + j by rw [Nat.succ_mul]; omega]
    exact ih
theorem ofG_app {α : Type} (enc : α → List Value) (l : List α) (x : α) : ofG enc l ++ enc x = ofG enc (l ++ [x]) := by simp [ofG]
/-- A list of stations; of ranges. -/
def encS (t : St) : List Value := [.int .i64 t.ang, .int .i64 t.lo, .int .i64 t.hi, .int .i64 t.hard]
def encR (k : Rg) : List Value := [.int .i64 k.lo, .int .i64 k.hi]
def sV (t : St) : Value := .agg #[.int .i64 t.ang, .int .i64 t.lo, .int .i64 t.hi, .int .i64 t.hard]
def rV (k : Rg) : Value := .agg #[.int .i64 k.lo, .int .i64 k.hi]
theorem encS_len (t : St) : (encS t).length = 4 := rfl
theorem encR_len (k : Rg) : (encR k).length = 2 := rfl
def RT (w : World) (B : Nat) (v : Value) (l : List St) : Prop := RS w B 4 v l.length (ofG encS l)
def RR (w : World) (B : Nat) (v : Value) (l : List Rg) : Prop := RS w B 2 v l.length (ofG encR l)
def nthS (l : List St) (i : Nat) : St := l.getD i ⟨0, 0, 0, 0⟩
def nthB (l : List Rg) (i : Nat) : Rg := l.getD i ⟨0, 0⟩
theorem nthS_eq {l : List St} {i : Nat} (h : i < l.length) : nthS l i = l[i] := by simp [nthS, h]
theorem nthB_eq {l : List Rg} {i : Nat} (h : i < l.length) : nthB l i = l[i] := by simp [nthB, h]
theorem nthS_mem {l : List St} {i : Nat} (h : i < l.length) : nthS l i ∈ l := by rw [nthS_eq h]; exact List.getElem_mem h
theorem mem_nthS {l : List St} {s : St} (h : s ∈ l) : ∃ i, i < l.length ∧ nthS l i = s := by
  obtain ⟨i, hi, e⟩ := List.mem_iff_getElem.1 h
  exact ⟨i, hi, by rw [nthS_eq hi]; exact e⟩
theorem RT.cells {w : World} {B : Nat} {v : Value} {l : List St} (h : RT w B v l) : ∃ A cap b off, v = .slice A l.length cap ∧ (l.length ≠ 0 → A = some ⟨b, off, none⟩ ∧ b < B) ∧
    ∀ k, k < l.length → w.cell? ⟨b, off + k * 4, none⟩ = some (.int .i64 (nthS l k).ang) ∧ w.cell? ⟨b, off + k * 4 + 1, none⟩ = some (.int .i64 (nthS l k).lo) ∧ w.cell? ⟨b, off + k * 4 + 2, none⟩ = some (.int .i64 (nthS l k).hi) ∧ w.cell? ⟨b, off + k * 4 + 3, none⟩ = some (.int .i64 (nthS l k).hard) := by
  obtain ⟨A, cap, b, off, hv, hl, hA, hc⟩ := h
  refine ⟨A, cap, b, off, hv, hA, fun k hk => ?_⟩
  have hg : l[k]? = some (nthS l k) := by unfold nthS; simp [hk]
  have h0 := fun j hj => ofG_at encS_len l k j _ hg hj
  have hlen := ofG_length encS_len l
  have e0 := h0 0 (by omega); have e1 := h0 1 (by omega); have e2 := h0 2 (by omega); have e3 := h0 3 (by omega)
  rw [Nat.add_zero] at e0
  rw [hc (k * 4) (by omega), Nat.add_assoc, hc (k * 4 + 1) (by omega), Nat.add_assoc, hc (k * 4 + 2) (by omega), Nat.add_assoc, hc (k * 4 + 3) (by omega)]
  exact ⟨e0, e1, e2, e3⟩
theorem RR.cells {w : World} {B : Nat} {v : Value} {l : List Rg} (h : RR w B v l) : ∃ A cap b off, v = .slice A l.length cap ∧ (l.length ≠ 0 → A = some ⟨b, off, none⟩ ∧ b < B) ∧
    ∀ k, k < l.length → w.cell? ⟨b, off + k * 2, none⟩ = some (.int .i64 (nthB l k).lo) ∧ w.cell? ⟨b, off + k * 2 + 1, none⟩ = some (.int .i64 (nthB l k).hi) := by
  obtain ⟨A, cap, b, off, hv, hl, hA, hc⟩ := h
  refine ⟨A, cap, b, off, hv, hA, fun k hk => ?_⟩
  have hg : l[k]? = some (nthB l k) := by unfold nthB; simp [hk]
  have h0 := fun j hj => ofG_at encR_len l k j _ hg hj
  have hlen := ofG_length encR_len l
  have e0 := h0 0 (by omega); have e1 := h0 1 (by omega)
  rw [Nat.add_zero] at e0
  rw [hc (k * 2) (by omega), Nat.add_assoc, hc (k * 2 + 1) (by omega)]
  exact ⟨e0, e1⟩
theorem RT.at {w : World} {B b off n cap : Nat} {l : List St} (h : RT w B (.slice (some ⟨b, off, none⟩) n cap) l) {k : Nat} (hk : k < l.length) : b < B ∧
    w.cell? ⟨b, off + k * 4, none⟩ = some (.int .i64 (nthS l k).ang) ∧ w.cell? ⟨b, off + k * 4 + 1, none⟩ = some (.int .i64 (nthS l k).lo) ∧ w.cell? ⟨b, off + k * 4 + 2, none⟩ = some (.int .i64 (nthS l k).hi) ∧ w.cell? ⟨b, off + k * 4 + 3, none⟩ = some (.int .i64 (nthS l k).hard) := by
  obtain ⟨A, cap', b', off', hv, hA, hc⟩ := h.cells
  obtain ⟨rfl, hb⟩ := hA (by omega)
  injection hv with h1 h2 h3
  injection h1 with h1
  injection h1 with h1 h4
  subst h1 h4
  exact ⟨hb, hc k hk⟩
theorem RR.at {w : World} {B b off n cap : Nat} {l : List Rg} (h : RR w B (.slice (some ⟨b, off, none⟩) n cap) l) {k : Nat} (hk : k < l.length) : b < B ∧
    w.cell? ⟨b, off + k * 2, none⟩ = some (.int .i64 (nthB l k).lo) ∧ w.cell? ⟨b, off + k * 2 + 1, none⟩ = some (.int .i64 (nthB l k).hi) := by
  obtain ⟨A, cap', b', off', hv, hA, hc⟩ := h.cells
  obtain ⟨rfl, hb⟩ := hA (by omega)
  injection hv with h1 h2 h3
  injection h1 with h1
  injection h1 with h1 h4
  subst h1 h4
  exact ⟨hb, hc k hk⟩
theorem RI.at {w : World} {B b off n cap : Nat} {l : List Int} (h : RI w B (.slice (some ⟨b, off, none⟩) n cap) l) {k : Nat} (hk : k < l.length) : b < B ∧
    w.cell? ⟨b, off + k, none⟩ = some (.int .i64 (nthI l k)) := by
  obtain ⟨A, cap', b', off', hv, hA, hc⟩ := h.cells
  obtain ⟨rfl, hb⟩ := hA (by omega)
  injection hv with h1 h2 h3
  injection h1 with h1
  injection h1 with h1 h4
  subst h1 h4
  exact ⟨hb, hc k hk⟩
theorem RT.slice {w : World} {B : Nat} {v : Value} {l : List St} (h : RT w B v l) : ∃ b off cap A, v = .slice A l.length cap ∧ (l.length ≠ 0 → A = some ⟨b, off, none⟩) ∧ l.length ≤ cap := by
  have hc := h
  obtain ⟨A, cap', b', off', hv, hA, _⟩ := h.cells
  subst hv
  exact ⟨b', off', cap', A, rfl, fun h => (hA h).1, (RS.cap hc).2⟩
theorem RR.slice {w : World} {B : Nat} {v : Value} {l : List Rg} (h : RR w B v l) : ∃ b off cap A, v = .slice A l.length cap ∧ (l.length ≠ 0 → A = some ⟨b, off, none⟩) ∧ l.length ≤ cap := by
  have hc := h
  obtain ⟨A, cap', b', off', hv, hA, _⟩ := h.cells
  subst hv
  exact ⟨b', off', cap', A, rfl, fun h => (hA h).1, (RS.cap hc).2⟩
theorem RI.slice {w : World} {B : Nat} {v : Value} {l : List Int} (h : RI w B v l) : ∃ b off cap A, v = .slice A l.length cap ∧ (l.length ≠ 0 → A = some ⟨b, off, none⟩) ∧ l.length ≤ cap := by
  have hc := h
  obtain ⟨A, cap', b', off', hv, hA, _⟩ := h.cells
  subst hv
  exact ⟨b', off', cap', A, rfl, fun h => (hA h).1, (RS.cap hc).2⟩
theorem ret_int {k : IntKind} {a b : Int} (h : a = b) : Ending.returned (.int k a) = .returned (.int k b) := by rw [h]
theorem below_eq {w w' : World} (h : w = w') : Below w.heap.size w w' := by subst h; exact Below.refl _ _
/-- A slice that reads below B has its row there. -/
theorem RT.lt {w : World} {B b off n cap : Nat} {l : List St} (h : RT w B (.slice (some ⟨b, off, none⟩) n cap) l) (hl : 0 < l.length) : b < B := (h.at hl).1
end Go.Proofs.Ytgbegdjakadbbaa
