/- The k-th number of a list. Plain: the table of all differences, made better place by place. Plain: a row that is bounded by links, round by round, with the links by which it was. Plain: a book, its links, and the table of all differences. Plain: the rows of a book, and the chains that bound them. -/
import Derived.Lib.Hide
set_option linter.all false
set_option linter.unnecessarySimpa false
set_option linter.unusedSimpArgs false
set_option linter.unusedVariables false
set_option linter.unusedSectionVars false

namespace Go.Proofs.Ytkljdbgkhghiaaa
/-- The k-th number of a list. -/
def nthI (l : List Int) (k : Nat) : Int := l.getD k 0
theorem nthI_set {l : List Int} {i : Nat} (h : i < l.length) (x : Int) (j : Nat) : nthI (l.set i x) j = if i = j then x else nthI l j := by
  unfold nthI
  by_cases hij : i = j
  · subst hij; simp [h]
  · simp [hij]
theorem nthI_out {l : List Int} {i : Nat} (h : l.length ≤ i) : nthI l i = 0 := by
  unfold nthI; rw [List.getD_eq_getElem?_getD, List.getElem?_eq_none h]; rfl
theorem nthI_rep {n : Nat} {x : Int} {i : Nat} (h : i < n) : nthI (List.replicate n x) i = x := by
  unfold nthI; rw [List.getD_eq_getElem?_getD]; simp [h]
end Go.Proofs.Ytkljdbgkhghiaaa

namespace Go.Proofs.Ytkljdbgkhghiaaa
namespace Kp
def cap : Int := 1099511627776
/-- The number for u and v in a table of n times n. -/
def X (n : Nat) (l : List Int) (u v : Nat) : Int := nthI l (u * n + v)
def upd (n m u v : Nat) (l : List Int) : List Int := l.set (u * n + v) (min (X n l u v) (max (-cap) (X n l u m + X n l m v)))
def fwV (n m u : Nat) : Nat → List Int → List Int
  | 0, l => l
  | v + 1, l => upd n m u v (fwV n m u v l)
def fwU (n m : Nat) : Nat → List Int → List Int
  | 0, l => l
  | u + 1, l => fwV n m u n (fwU n m u l)
def fwM (n : Nat) : Nat → List Int → List Int
  | 0, l => l
  | m + 1, l => fwU n m n (fwM n m l)
theorem upd_len (n m u v : Nat) (l : List Int) : (upd n m u v l).length = l.length := by unfold upd; simp
theorem fwV_len (n m u v : Nat) (l : List Int) : (fwV n m u v l).length = l.length := by
  induction v with
  | zero => rfl
  | succ v ih => rw [fwV, upd_len, ih]
theorem fwU_len (n m u : Nat) (l : List Int) : (fwU n m u l).length = l.length := by
  induction u with
  | zero => rfl
  | succ u ih => rw [fwU, fwV_len, ih]
theorem fwM_len (n m : Nat) (l : List Int) : (fwM n m l).length = l.length := by
  induction m with
  | zero => rfl
  | succ m ih => rw [fwM, fwU_len, ih]
theorem idx_lt {n u v : Nat} (hu : u < n) (hv : v < n) : u * n + v < n * n := by
  have : (u + 1) * n ≤ n * n := Nat.mul_le_mul_right n hu
  rw [Nat.add_mul] at this
  omega
theorem idx_inj {n u v u' v' : Nat} (hv : v < n) (hv' : v' < n) : u * n + v = u' * n + v' ↔ u = u' ∧ v = v' := by
  constructor
  · intro h
    have h1 : (u * n + v) / n = u := by rw [Nat.mul_comm, Nat.mul_add_div (by omega), Nat.div_eq_of_lt hv]; omega
    have h2 : (u' * n + v') / n = u' := by rw [Nat.mul_comm, Nat.mul_add_div (by omega), Nat.div_eq_of_lt hv']; omega
    have : u = u' := by rw [← h1, ← h2, h]
    subst this
    exact ⟨rfl, by omega⟩
  · rintro ⟨rfl, rfl⟩; rfl
theorem X_set {n u v u' v' : Nat} {l : List Int} (hl : l.length = n * n) (hu : u < n) (hv : v < n) (hv' : v' < n) (x : Int) : X n (l.set (u * n + v) x) u' v' = if u = u' ∧ v = v' then x else X n l u' v' := by
  unfold X
  rw [nthI_set (by rw [hl]; exact idx_lt hu hv)]
  by_cases h : u = u' ∧ v = v'
  · rw [if_pos h, if_pos ((idx_inj hv hv').2 h)]
  · rw [if_neg h, if_neg (fun e => h ((idx_inj hv hv').1 e))]
theorem X_upd {n m u v u' v' : Nat} {l : List Int} (hl : l.length = n * n) (hu : u < n) (hv : v < n) (hv' : v' < n) :
    X n (upd n m u v l) u' v' = if u = u' ∧ v = v' then min (X n l u v) (max (-cap) (X n l u m + X n l m v)) else X n l u' v' := X_set hl hu hv hv' _

/-- No number is below what p tells. -/
def Low (n : Nat) (p : Nat → Int) (l : List Int) : Prop := ∀ u v, u < n → v < n → p v - p u ≤ X n l u v
theorem low_upd {n m u v : Nat} {p : Nat → Int} {l : List Int} (hl : l.length = n * n) (hm : m < n) (hu : u < n) (hv : v < n) (h : Low n p l) : Low n p (upd n m u v l) := by
  intro u' v' hu' hv'
  rw [X_upd hl hu hv hv']
  split
  · rename_i e
    obtain ⟨rfl, rfl⟩ := e
    have h1 := h u v hu hv
    have h2 := h u m hu hm
    have h3 := h m v hm hv
    omega
  · exact h u' v' hu' hv'
theorem low_V {n m u : Nat} {p : Nat → Int} {l : List Int} (hl : l.length = n * n) (hm : m < n) (hu : u < n) (h : Low n p l) : ∀ v, v ≤ n → Low n p (fwV n m u v l)
  | 0, _ => h
  | v + 1, hv => low_upd (by rw [fwV_len, hl]) hm hu (by omega) (low_V hl hm hu h v (by omega))
theorem low_U {n m : Nat} {p : Nat → Int} {l : List Int} (hl : l.length = n * n) (hm : m < n) (h : Low n p l) : ∀ u, u ≤ n → Low n p (fwU n m u l)
  | 0, _ => h
  | u + 1, hu => low_V (by rw [fwU_len, hl]) hm (by omega) (low_U hl hm h u (by omega)) n (Nat.le_refl _)
theorem low_M {n : Nat} {p : Nat → Int} {l : List Int} (hl : l.length = n * n) (h : Low n p l) : ∀ m, m ≤ n → Low n p (fwM n m l)
  | 0, _ => h
  | m + 1, hm => low_U (by rw [fwM_len, hl]) (by omega) (low_M hl h m (by omega)) n (Nat.le_refl _)

/-- One table is nowhere above another one. -/
def Under (n : Nat) (a b : List Int) : Prop := ∀ u v, u < n → v < n → X n a u v ≤ X n b u v
theorem Under.trans {n : Nat} {a b c : List Int} (h : Under n a b) (h' : Under n b c) : Under n a c := fun u v hu hv => Int.le_trans (h u v hu hv) (h' u v hu hv)
theorem Under.refl (n : Nat) (a : List Int) : Under n a a := fun _ _ _ _ => Int.le_refl _
theorem under_upd {n m u v : Nat} {l : List Int} (hl : l.length = n * n) (hu : u < n) (hv : v < n) : Under n (upd n m u v l) l := by
  intro u' v' hu' hv'
  rw [X_upd hl hu hv hv']
  split
  · rename_i e
    obtain ⟨rfl, rfl⟩ := e
    omega
  · exact Int.le_refl _
theorem under_V {n m u : Nat} {l : List Int} (hl : l.length = n * n) (hu : u < n) : ∀ v, v ≤ n → Under n (fwV n m u v l) l
  | 0, _ => Under.refl _ _
  | v + 1, hv => (under_upd (by rw [fwV_len, hl]) hu (by omega)).trans (under_V hl hu v (by omega))
theorem under_U {n m : Nat} {l : List Int} (hl : l.length = n * n) : ∀ u, u ≤ n → Under n (fwU n m u l) l
  | 0, _ => Under.refl _ _
  | u + 1, hu => (under_V (by rw [fwU_len, hl]) (by omega) n (Nat.le_refl _)).trans (under_U hl u (by omega))
theorem under_M {n : Nat} {l : List Int} (hl : l.length = n * n) : ∀ m k, m + k ≤ n → Under n (fwM n (m + k) l) (fwM n m l)
  | _, 0, _ => Under.refl _ _
  | m, k + 1, h => (under_U (by rw [fwM_len, hl]) n (Nat.le_refl _)).trans (under_M hl m k (by omega))

/-- What one step makes of a number. -/
def G (n m : Nat) (l : List Int) (u v : Nat) : Int := min (X n l u v) (max (-cap) (X n l u m + X n l m v))
theorem G_col {n m u : Nat} {l : List Int} (h0 : 0 ≤ X n l m m) : G n m l u m = X n l u m := by unfold G; omega
theorem G_row {n m v : Nat} {l : List Int} (h0 : 0 ≤ X n l m m) : G n m l m v = X n l m v := by unfold G; omega
theorem X_V {n m u : Nat} {l : List Int} (hl : l.length = n * n) (hm : m < n) (hu : u < n) (h0 : 0 ≤ X n l m m) : ∀ v, v ≤ n → ∀ u' v', u' < n → v' < n → X n (fwV n m u v l) u' v' = if u = u' ∧ v' < v then G n m l u' v' else X n l u' v' := by
  intro v
  induction v with
  | zero => intro _ u' v' _ _; rw [if_neg (by omega)]; rfl
  | succ v ih =>
    intro hv u' v' hu' hv'
    have ih := ih (by omega)
    rw [fwV, X_upd (by rw [fwV_len, hl]) hu (by omega) hv']
    by_cases e : u = u' ∧ v = v'
    · obtain ⟨rfl, rfl⟩ := e
      have e1 : (if u = u ∧ m < v then G n m l u m else X n l u m) = X n l u m := by split <;> simp [G_col h0]
      rw [if_pos ⟨rfl, rfl⟩, if_pos ⟨rfl, by omega⟩, ih u v hu hv', ih u m hu hm, ih m v hm hv', e1, if_neg (show ¬ (u = u ∧ v < v) by omega), if_neg (show ¬ (u = m ∧ v < v) by omega)]
      rfl
    · rw [if_neg e, ih u' v' hu' hv']
      by_cases e2 : u = u' ∧ v' < v
      · rw [if_pos e2, if_pos ⟨e2.1, by omega⟩]
      · rw [if_neg e2, if_neg (by omega)]
theorem X_U {n m : Nat} {l : List Int} (hl : l.length = n * n) (hm : m < n) (h0 : 0 ≤ X n l m m) : ∀ u, u ≤ n → ∀ u' v', u' < n → v' < n → X n (fwU n m u l) u' v' = if u' < u then G n m l u' v' else X n l u' v' := by
  intro u
  induction u with
  | zero => intro _ u' v' _ _; rw [if_neg (by omega)]; rfl
  | succ u ih =>
    intro hu u' v' hu' hv'
    have ih := ih (by omega)
    have hmm : ∀ v', v' < n → X n (fwU n m u l) m v' = X n l m v' := by
      intro v' hv'; rw [ih m v' hm hv']; split <;> simp [G_row h0]
    rw [fwU, X_V (by rw [fwU_len, hl]) hm (by omega) (by rw [hmm m hm]; exact h0) n (Nat.le_refl _) u' v' hu' hv']
    by_cases e : u = u'
    · subst e
      rw [if_pos ⟨rfl, hv'⟩, if_pos (by omega)]
      unfold G
      rw [ih u v' hu' hv', ih u m hu' hm, hmm v' hv', if_neg (by omega), if_neg (by omega)]
    · rw [if_neg (by omega), ih u' v' hu' hv']
      by_cases e2 : u' < u
      · rw [if_pos e2, if_pos (by omega)]
      · rw [if_neg e2, if_neg (by omega)]
def Bd (n : Nat) (k : Int) (l : List Int) : Prop := ∀ u v, u < n → v < n → -k ≤ X n l u v
theorem G_eq {n m u v : Nat} {k : Int} {l : List Int} (hb : Bd n k l) (hk : 2 * k ≤ cap) (hm : m < n) (hu : u < n) (hv : v < n) : G n m l u v = min (X n l u v) (X n l u m + X n l m v) := by
  have h1 := hb u m hu hm
  have h2 := hb m v hm hv
  unfold G
  unfold cap at *
  omega
theorem bd_M {n : Nat} {l : List Int} (hl : l.length = n * n) (hn : n ≤ 17) (hb : Bd n 1000 l) (hd : ∀ v, v < n → 0 ≤ X n (fwM n n l) v v) : ∀ m, m ≤ n → Bd n (1000 * 2 ^ m) (fwM n m l) := by
  intro m
  induction m with
  | zero => intro _; simpa [fwM] using hb
  | succ m ih =>
    intro hm u v hu hv
    have ih := ih (by omega)
    have h0 : 0 ≤ X n (fwM n m l) m m := by
      have := under_M hl m (n - m) (by omega) m m (by omega) (by omega)
      rw [show m + (n - m) = n by omega] at this
      have := hd m (by omega)
      omega
    have h2 : (2 : Int) ^ m ≤ 2 ^ 17 := by
      have : (2 : Nat) ^ m ≤ 2 ^ 17 := Nat.pow_le_pow_right (by omega) (by omega)
      exact_mod_cast this
    have hp : (0 : Int) < 2 ^ m := by exact_mod_cast Nat.pow_pos (n := m) (show 0 < 2 by omega)
    rw [fwM, X_U (by rw [fwM_len, hl]) (by omega) h0 n (Nat.le_refl _) u v hu hv, if_pos hu, G_eq ih (by unfold cap; omega) (by omega) hu hv]
    have q1 := ih u v hu hv
    have q2 := ih u m hu (by omega)
    have q3 := ih m v (by omega) hv
    rw [Int.pow_succ]
    omega
/-- The table at the end, if nothing is below 0 on its diagonal: it is never longer by a third place. -/
theorem fw_tri {n : Nat} {l : List Int} (hl : l.length = n * n) (hn : n ≤ 17) (hb : Bd n 1000 l) (hd : ∀ v, v < n → 0 ≤ X n (fwM n n l) v v) :
    ∀ m, m ≤ n → ∀ k u v, k < m → u < n → v < n → X n (fwM n m l) u v ≤ X n (fwM n m l) u k + X n (fwM n m l) k v := by
  intro m
  induction m with
  | zero => intro _ k u v hk; omega
  | succ m ih =>
    intro hm k u v hk hu hv
    have ih := ih (by omega)
    have h0 : 0 ≤ X n (fwM n m l) m m := by
      have := under_M hl m (n - m) (by omega) m m (by omega) (by omega)
      rw [show m + (n - m) = n by omega] at this
      have := hd m (by omega)
      omega
    have hB := bd_M hl hn hb hd m (by omega)
    have h2 : (2 : Int) ^ m ≤ 2 ^ 17 := by
      have : (2 : Nat) ^ m ≤ 2 ^ 17 := Nat.pow_le_pow_right (by omega) (by omega)
      exact_mod_cast this
    have hX : ∀ u v, u < n → v < n → X n (fwM n (m + 1) l) u v = min (X n (fwM n m l) u v) (X n (fwM n m l) u m + X n (fwM n m l) m v) := by
      intro u v hu hv
      rw [fwM, X_U (by rw [fwM_len, hl]) (by omega) h0 n (Nat.le_refl _) u v hu hv, if_pos hu, G_eq hB (by unfold cap; omega) (by omega) hu hv]
    have hkn : k < n := by omega
    rw [hX u v hu hv, hX u k hu hkn, hX k v hkn hv]
    by_cases e : k = m
    · subst e; omega
    · have hk' : k < m := by omega
      have a1 := ih k u v hk' hu hv
      have a2 := ih k m v hk' (by omega) hv
      have a3 := ih k u m hk' hu (by omega)
      have a4 := ih k m m hk' (by omega) (by omega)
      omega
end Kp
end Go.Proofs.Ytkljdbgkhghiaaa

namespace Go.Proofs.Ytkljdbgkhghiaaa
namespace Kp
def far : Int := 1099511627776
/-- A link; behind it, its worth. -/
structure Kl where
  src : Int
  dst : Int
  tst : Int
  deriving DecidableEq, Inhabited
abbrev Kw := Kl × Int
/-- The place of an edge, or of none at all. -/
def pl (E : Nat) (v : Int) : Nat := if v < 0 then E else v.toNat
def ksrc (E : Nat) (k : Kw) : Nat := pl E k.1.src
def kdst (E : Nat) (k : Kw) : Nat := pl E k.1.dst
/-- What no link contradicts. -/
def Pot (E : Nat) (L : List Kw) (p : Nat → Int) : Prop := ∀ k ∈ L, p (kdst E k) ≤ p (ksrc E k) + k.2

structure Sk where
  most : List Int
  by_ : Nat → Option Kw
  chg : Int
/-- Whether a link bounds a row. -/
def fires (E : Nat) (s : Sk) (k : Kw) : Prop := nthI s.most (ksrc E k) < far ∧ nthI s.most (ksrc E k) + k.2 < nthI s.most (kdst E k)
instance (E : Nat) (s : Sk) (k : Kw) : Decidable (fires E s k) := inferInstanceAs (Decidable (_ ∧ _))
def stepK (E : Nat) (s : Sk) (k : Kw) : Sk :=
  if fires E s k then ⟨s.most.set (kdst E k) (nthI s.most (ksrc E k) + k.2), fun x => if x = kdst E k then some k else s.by_ x, kdst E k⟩ else s
def roundK (E : Nat) (L : List Kw) (s : Sk) : Sk := L.foldl (stepK E) { s with chg := -1 }
/-- So many rounds; the number is what the last one changed, -1 if one changed nothing. -/
def relaxK (E : Nat) (L : List Kw) : Nat → Int → Sk → Int × Sk
  | 0, z, s => (z, s)
  | r + 1, _, s => if (roundK E L s).most = s.most then (-1, roundK E L s) else relaxK E L r (roundK E L s).chg (roundK E L s)

/-- Back by links, so many times. -/
def wk (E : Nat) (b : Nat → Option Kw) : Nat → Nat → Option (Nat × Int)
  | 0, v => some (v, 0)
  | j + 1, v => match b v with
    | none => none
    | some k => (wk E b j (ksrc E k)).map fun q => (q.1, q.2 + k.2)
theorem wk_some {E : Nat} {b : Nat → Option Kw} {j v x : Nat} {s : Int} (h : wk E b (j + 1) v = some (x, s)) : ∃ k y, b v = some k ∧ wk E b j (ksrc E k) = some (x, y) ∧ s = y + k.2 := by
  unfold wk at h
  cases hb : b v with
  | none => rw [hb] at h; cases h
  | some k =>
    rw [hb] at h
    simp only [Option.map_eq_some_iff] at h
    obtain ⟨⟨x', y⟩, h1, h2⟩ := h
    injection h2 with h2 h3
    subst h2
    exact ⟨k, y, rfl, h1, h3.symm⟩
theorem wk_ge {E : Nat} {b : Nat → Option Kw} {p : Nat → Int} (hp : ∀ v k, b v = some k → p (ksrc E k) + k.2 ≤ p v) : ∀ (j v x : Nat) (s : Int), wk E b j v = some (x, s) → p x + s ≤ p v := by
  intro j
  induction j with
  | zero => intro v x s h; simp [wk] at h; obtain ⟨rfl, rfl⟩ := h; omega
  | succ j ih =>
    intro v x s h
    obtain ⟨k, y, h1, h2, rfl⟩ := wk_some h
    have := ih _ _ _ h2
    have := hp v k h1
    omega
theorem wk_le {E : Nat} {b : Nat → Option Kw} {p : Nat → Int} (hp : ∀ v k, b v = some k → p v ≤ p (ksrc E k) + k.2) : ∀ (j v x : Nat) (s : Int), wk E b j v = some (x, s) → p v ≤ p x + s := by
  intro j
  induction j with
  | zero => intro v x s h; simp [wk] at h; obtain ⟨rfl, rfl⟩ := h; omega
  | succ j ih =>
    intro v x s h
    obtain ⟨k, y, h1, h2, rfl⟩ := wk_some h
    have := ih _ _ _ h2
    have := hp v k h1
    omega
theorem wk_new {E : Nat} {b : Nat → Option Kw} {p : Nat → Int} {x0 : Nat} {k0 : Kw} (hp : ∀ v k, b v = some k → p (ksrc E k) + k.2 ≤ p v) (h0 : p (ksrc E k0) + k0.2 < p x0) :
    ∀ (j v x : Nat) (s : Int), wk E (fun x => if x = x0 then some k0 else b x) j v = some (x, s) → p x + s < p v ∨ (p x + s ≤ p v ∧ wk E b j v = some (x, s)) := by
  intro j
  induction j with
  | zero => intro v x s h; simp [wk] at h; obtain ⟨rfl, rfl⟩ := h; exact .inr ⟨by omega, rfl⟩
  | succ j ih =>
    intro v x s h
    obtain ⟨k, y, h1, h2, rfl⟩ := wk_some h
    try dsimp only at h1
    split at h1
    · rename_i e
      subst e
      cases h1
      rcases ih _ _ _ h2 with h3 | ⟨h3, _⟩ <;> exact .inl (by omega)
    · have h4 := hp v k h1
      rcases ih _ _ _ h2 with h3 | ⟨h3, h5⟩
      · exact .inl (by omega)
      · refine .inr ⟨by omega, ?_⟩
        unfold wk
        simp only [h1, h5, Option.map_some]

structure Inv (E : Nat) (L : List Kw) (init : List Int) (r : Nat) (done : List Kw) (s : Sk) (last : Nat → Nat) : Prop where
  len : s.most.length = init.length
  some_ : ∀ v k, s.by_ v = some k → k ∈ L ∧ kdst E k = v ∧ nthI s.most (ksrc E k) + k.2 ≤ nthI s.most v ∧ nthI s.most (ksrc E k) < far ∧ last v ≤ last (ksrc E k) + 1 ∧ 1 ≤ last v
  none_ : ∀ v, s.by_ v = none → nthI s.most v = nthI init v ∧ last v = 0
  le : ∀ v, last v ≤ r
  j1 : ∀ k ∈ L, last (ksrc E k) + 2 ≤ r → nthI s.most (ksrc E k) < far → nthI s.most (kdst E k) ≤ nthI s.most (ksrc E k) + k.2
  j2 : ∀ k ∈ done, last (ksrc E k) + 1 ≤ r → nthI s.most (ksrc E k) < far → nthI s.most (kdst E k) ≤ nthI s.most (ksrc E k) + k.2
  neg : ∀ j v w, 0 < j → wk E s.by_ j v = some (v, w) → w < 0
  dec : ∀ v, nthI s.most v ≤ nthI init v
  chg : s.chg = -1 ∨ ∃ v : Nat, s.chg = v ∧ last v = r ∧ v ≤ E
/-- The links are of places of the row. -/
def Okl (E : Nat) (init : List Int) (L : List Kw) : Prop := E < init.length ∧ ∀ k ∈ L, ksrc E k ≤ E ∧ kdst E k ≤ E

theorem inv_step {E : Nat} {L : List Kw} {init : List Int} {r : Nat} {done : List Kw} {s : Sk} {last : Nat → Nat} (hL : Okl E init L) (h : Inv E L init r done s last) {k : Kw} (hk : k ∈ L) (hr : 1 ≤ r) (hd : ∀ k ∈ done, k ∈ L) :
    ∃ last', Inv E L init r (done ++ [k]) (stepK E s k) last' := by
  by_cases hf : fires E s k
  · have hlt := (hL.2 k hk).2
    have hlen : kdst E k < s.most.length := by rw [h.len]; have := hL.1; omega
    have hs : stepK E s k = ⟨s.most.set (kdst E k) (nthI s.most (ksrc E k) + k.2), fun x => if x = kdst E k then some k else s.by_ x, kdst E k⟩ := by unfold stepK; rw [if_pos hf]
    rw [hs]
    obtain ⟨hf1, hf2⟩ := hf
    have hm : ∀ j, nthI (s.most.set (kdst E k) (nthI s.most (ksrc E k) + k.2)) j = if kdst E k = j then nthI s.most (ksrc E k) + k.2 else nthI s.most j := fun j => nthI_set hlen _ j
    have hmle : ∀ j, nthI (s.most.set (kdst E k) (nthI s.most (ksrc E k) + k.2)) j ≤ nthI s.most j := by
      intro j; rw [hm]; split
      · rename_i e; subst e; omega
      · omega
    have hlast : r ≤ last (ksrc E k) + 1 := by
      refine Classical.byContradiction fun hc => ?_
      have := h.j1 k hk (by omega) hf1
      omega
    refine ⟨fun x => if x = kdst E k then r else last x, ?_⟩
    generalize hx : kdst E k = x0 at *
    generalize hy : ksrc E k = y0 at *
    generalize hn : nthI s.most y0 + k.2 = z0 at *
    refine ⟨by simp [h.len], ?_, ?_, ?_, ?_, ?_, ?_, ?_, ?_⟩
    · intro v q hq
      try dsimp only at hq ⊢
      by_cases e : v = x0
      · rw [if_pos e] at hq
        cases hq
        subst e
        rw [hy, hm v, if_pos rfl, if_pos rfl]
        have a1 := hmle y0
        refine ⟨hk, hx, by omega, by omega, ?_, hr⟩
        split
        · omega
        · exact hlast
      · rw [if_neg e] at hq
        obtain ⟨a1, a2, a3, a4, a5, a6⟩ := h.some_ v q hq
        have a7 := hmle (ksrc E q)
        rw [hm v, if_neg (Ne.symm e), if_neg e]
        refine ⟨a1, a2, by omega, by omega, ?_, a6⟩
        split
        · have := h.le v; omega
        · exact a5
    · intro v hq
      try dsimp only at hq ⊢
      by_cases e : v = x0
      · rw [if_pos e] at hq; cases hq
      · rw [if_neg e] at hq
        rw [hm v, if_neg (Ne.symm e), if_neg e]
        exact h.none_ v hq
    · intro v
      try dsimp only
      split
      · omega
      · exact h.le v
    · intro q hq h1 h2
      try dsimp only at *
      by_cases e : ksrc E q = x0
      · rw [if_pos e] at h1; omega
      · rw [if_neg e] at h1
        rw [hm (ksrc E q), if_neg (Ne.symm e)] at h2 ⊢
        have := h.j1 q hq h1 h2
        have := hmle (kdst E q)
        omega
    · intro q hq h1 h2
      try dsimp only at *
      by_cases e : ksrc E q = x0
      · rw [if_pos e] at h1; omega
      · rw [if_neg e] at h1
        rw [hm (ksrc E q), if_neg (Ne.symm e)] at h2 ⊢
        rcases List.mem_append.1 hq with hq | hq
        · have := h.j2 q hq h1 h2
          have := hmle (kdst E q)
          omega
        · have : q = k := by simpa using hq
          subst this
          rw [hx, hm x0, if_pos rfl, hy]
          omega
    · intro j v w hj hw
      have hp : ∀ v q, s.by_ v = some q → nthI s.most (ksrc E q) + q.2 ≤ nthI s.most v := fun v q hq => (h.some_ v q hq).2.2.1
      rcases wk_new (p := nthI s.most) (x0 := x0) (k0 := k) hp (by rw [hy]; omega) j v v w hw with a | ⟨_, a⟩
      · omega
      · exact h.neg j v w hj a
    · intro v
      exact Int.le_trans (hmle v) (h.dec v)
    · exact .inr ⟨x0, rfl, by simp, hlt⟩
  · have hs : stepK E s k = s := by unfold stepK; rw [if_neg hf]
    rw [hs]
    refine ⟨last, { h with j2 := ?_ }⟩
    intro q hq h1 h2
    rcases List.mem_append.1 hq with hq | hq
    · exact h.j2 q hq h1 h2
    · have : q = k := by simpa using hq
      subst this
      refine Classical.byContradiction fun hc => hf ⟨h2, by omega⟩

theorem inv_fold {E : Nat} {L : List Kw} {init : List Int} {r : Nat} (hL : Okl E init L) (hr : 1 ≤ r) : ∀ (M done : List Kw) (s : Sk) (last : Nat → Nat), (∀ k ∈ done, k ∈ L) → (∀ k ∈ M, k ∈ L) → Inv E L init r done s last → ∃ last', Inv E L init r (done ++ M) (M.foldl (stepK E) s) last'
  | [], done, s, last, _, _, h => ⟨last, by simpa using h⟩
  | k :: M, done, s, last, hd, hM, h => by
    obtain ⟨last', h'⟩ := inv_step hL h (hM k (by simp)) hr hd
    obtain ⟨last'', h''⟩ := inv_fold hL hr M (done ++ [k]) (stepK E s k) last' (fun q hq => by
      rcases List.mem_append.1 hq with hq | hq
      · exact hd q hq
      · have : q = k := by simpa using hq
        subst this; exact hM q (by simp)) (fun q hq => hM q (by simp [hq])) h'
    exact ⟨last'', by simpa [List.append_assoc] using h''⟩

theorem inv_round {E : Nat} {L : List Kw} {init : List Int} {r : Nat} {s : Sk} {last : Nat → Nat} (hL : Okl E init L) (h : Inv E L init r L s last) : ∃ last', Inv E L init (r + 1) L (roundK E L s) last' := by
  have h1 : Inv E L init (r + 1) [] { s with chg := -1 } last := ⟨h.len, h.some_, h.none_, fun v => Nat.le_succ_of_le (h.le v), fun k hk h1 h2 => h.j2 k hk (by omega) h2, fun k hk => by simp at hk, h.neg, h.dec, .inl rfl⟩
  have := inv_fold hL (by omega) L [] _ last (fun k hk => by simp at hk) (fun k hk => hk) h1
  simpa [roundK] using this

/-- What a round does not change fires nowhere. -/
theorem fold_dec {E : Nat} {N : Nat} : ∀ (M : List Kw) (s : Sk), s.most.length = N → E < N → (∀ k ∈ M, kdst E k ≤ E) → (∀ v, nthI (M.foldl (stepK E) s).most v ≤ nthI s.most v) ∧ (M.foldl (stepK E) s).most.length = N
  | [], s, hN, _, _ => ⟨fun _ => Int.le_refl _, hN⟩
  | k :: M, s, hN, hE, hM => by
    have hk := hM k (by simp)
    have hs : (∀ v, nthI (stepK E s k).most v ≤ nthI s.most v) ∧ (stepK E s k).most.length = N := by
      unfold stepK
      split
      · rename_i hf
        refine ⟨fun v => ?_, by simpa using hN⟩
        dsimp only
        rw [nthI_set (by omega)]
        split
        · rename_i e; subst e; have := hf.2; omega
        · omega
      · exact ⟨fun _ => Int.le_refl _, hN⟩
    have := fold_dec M (stepK E s k) hs.2 hE (fun q hq => hM q (by simp [hq]))
    exact ⟨fun v => Int.le_trans (this.1 v) (hs.1 v), this.2⟩
theorem fold_same {E : Nat} {N : Nat} : ∀ (M : List Kw) (s : Sk), s.most.length = N → E < N → (∀ k ∈ M, kdst E k ≤ E) → (M.foldl (stepK E) s).most = s.most → M.foldl (stepK E) s = s ∧ ∀ k ∈ M, ¬ fires E s k
  | [], s, _, _, _, _ => ⟨rfl, fun k hk => by simp at hk⟩
  | k :: M, s, hN, hE, hM, he => by
    have hk := hM k (by simp)
    by_cases hf : fires E s k
    · exfalso
      have h1 : nthI (stepK E s k).most (kdst E k) < nthI s.most (kdst E k) := by
        unfold stepK; rw [if_pos hf]
        dsimp only
        rw [nthI_set (by omega), if_pos rfl]
        exact hf.2
      have hl : (stepK E s k).most.length = N := by unfold stepK; rw [if_pos hf]; simpa using hN
      have h2 := (fold_dec M (stepK E s k) hl hE (fun q hq => hM q (by simp [hq]))).1 (kdst E k)
      rw [List.foldl_cons] at he
      rw [he] at h2
      omega
    · have hs : stepK E s k = s := by unfold stepK; rw [if_neg hf]
      rw [List.foldl_cons, hs] at he ⊢
      obtain ⟨h1, h2⟩ := fold_same M s hN hE (fun q hq => hM q (by simp [hq])) he
      refine ⟨h1, fun q hq => ?_⟩
      rcases List.mem_cons.1 hq with rfl | hq
      · exact hf
      · exact h2 q hq

/-- What a row is at the end: r rounds were made at most. -/
structure Done (E : Nat) (L : List Kw) (init : List Int) (s : Sk) : Prop where
  len : s.most.length = init.length
  conv : ∀ k ∈ L, nthI s.most (ksrc E k) < far → nthI s.most (kdst E k) ≤ nthI s.most (ksrc E k) + k.2
  some_ : ∀ v k, s.by_ v = some k → k ∈ L ∧ kdst E k = v ∧ nthI s.most (ksrc E k) + k.2 ≤ nthI s.most v ∧ nthI s.most (ksrc E k) < far
  none_ : ∀ v, s.by_ v = none → nthI s.most v = nthI init v
  neg : ∀ j v w, 0 < j → wk E s.by_ j v = some (v, w) → w < 0
  dec : ∀ v, nthI s.most v ≤ nthI init v
structure Open (E : Nat) (L : List Kw) (init : List Int) (R : Nat) (c : Int) (s : Sk) : Prop where
  len : s.most.length = init.length
  at_ : ∃ (v : Nat) (last : Nat → Nat), c = v ∧ v ≤ E ∧ Inv E L init R L s last ∧ last v = R

theorem relax_spec {E : Nat} {L : List Kw} {init : List Int} (hL : Okl E init L) : ∀ (m r : Nat) (z : Int) (s : Sk) (last : Nat → Nat), Inv E L init r L s last → (m = 0 → ∃ v : Nat, z = v ∧ v ≤ E ∧ last v = r) →
    (∀ c s', relaxK E L m z s = (c, s') → (c = -1 → Done E L init s') ∧ (c ≠ -1 → Open E L init (r + m) c s')) := by
  intro m
  induction m with
  | zero =>
    intro r z s last h hz c s' he
    obtain ⟨v, rfl, hv, hl⟩ := hz rfl
    simp only [relaxK, Prod.mk.injEq] at he
    obtain ⟨rfl, rfl⟩ := he
    refine ⟨fun hc => by omega, fun _ => ⟨h.len, v, last, rfl, hv, h, hl⟩⟩
  | succ m ih =>
    intro r z s last h _ c s' he
    obtain ⟨last', h'⟩ := inv_round hL h
    have hdst : ∀ k ∈ L, kdst E k ≤ E := fun k hk => (hL.2 k hk).2
    unfold relaxK at he
    split at he
    · rename_i hsame
      simp only [Prod.mk.injEq] at he
      obtain ⟨rfl, rfl⟩ := he
      refine ⟨fun _ => ?_, fun hc => absurd rfl hc⟩
      obtain ⟨h1, h2⟩ := fold_same (N := init.length) L { s with chg := -1 } h.len hL.1 hdst hsame
      refine ⟨h'.len, fun k hk hf => ?_, fun v k hk => ?_, fun v hv => (h'.none_ v hv).1, h'.neg, h'.dec⟩
      · have h3 := h2 k hk
        unfold roundK at hf ⊢
        rw [h1] at hf ⊢
        refine Classical.byContradiction fun hc => h3 ⟨hf, by omega⟩
      · obtain ⟨a1, a2, a3, a4, _⟩ := h'.some_ v k hk
        exact ⟨a1, a2, a3, a4⟩
    · rename_i hsame
      have hz : m = 0 → ∃ v : Nat, (roundK E L s).chg = v ∧ v ≤ E ∧ last' v = r + 1 := by
        intro _
        rcases h'.chg with e | ⟨v, h1, h2, h3⟩
        · exfalso
          exact hsame (chg_same L { s with chg := -1 } rfl e)
        · exact ⟨v, h1, h3, h2⟩
      have := ih (r + 1) _ _ last' h' hz c s' he
      rwa [show r + 1 + m = r + (m + 1) by omega] at this
where
  chg_same (M : List Kw) (s : Sk) (h : s.chg = -1) (he : (M.foldl (stepK E) s).chg = -1) : (M.foldl (stepK E) s).most = s.most := by
    have aux : ∀ (M : List Kw) (s : Sk), s.chg ≠ -1 → (M.foldl (stepK E) s).chg ≠ -1 := by
      intro M
      induction M with
      | nil => intro s h; exact h
      | cons k M ih =>
        intro s h
        refine ih _ ?_
        unfold stepK
        split
        · dsimp only; omega
        · exact h
    induction M generalizing s with
    | nil => rfl
    | cons k M ih =>
      rw [List.foldl_cons] at he ⊢
      by_cases hf : fires E s k
      · exact absurd he (aux M _ (by unfold stepK; rw [if_pos hf]; dsimp only; omega))
      · have hs : stepK E s k = s := by unfold stepK; rw [if_neg hf]
        rw [hs] at he ⊢
        exact ih s h he

/-- A list of different numbers below n is not longer than n. -/
theorem pigeon : ∀ (n : Nat) (l : List Nat), l.Nodup → (∀ x ∈ l, x < n) → l.length ≤ n
  | 0, l, _, h => by
    cases l with
    | nil => simp
    | cons a t => have := h a (by simp); omega
  | n + 1, l, hn, h => by
    by_cases hm : n ∈ l
    · have h1 := pigeon n (l.erase n) (hn.erase n) (fun x hx => by
        have h2 := h x (List.mem_of_mem_erase hx)
        have h3 : x ≠ n := fun e => by subst e; exact (List.Nodup.not_mem_erase hn) hx
        omega)
      rw [List.length_erase_of_mem hm] at h1
      omega
    · have := pigeon n l hn (fun x hx => by
        have h2 := h x hx
        have h3 : x ≠ n := fun e => by subst e; exact hm hx
        omega)
      omega
end Kp
end Go.Proofs.Ytkljdbgkhghiaaa

namespace Go.Proofs.Ytkljdbgkhghiaaa
namespace Kp
/-- A test. -/
structure Kt where
  one : Int
  two : Int
  lo : Int
  hi : Int
  deriving DecidableEq, Inhabited
/-- The numbers of a valid book. -/
structure Okb (E : Nat) (ts : List Kt) : Prop where
  pos : 1 ≤ E
  few : E ≤ 16
  tst : ∀ t ∈ ts, 0 ≤ t.one ∧ t.one < E ∧ 0 ≤ t.two ∧ t.two < E ∧ t.one ≠ t.two ∧ -1000 ≤ t.lo ∧ t.lo ≤ t.hi ∧ t.hi ≤ 1000
/-- What the tests, and what any edge can be, do not contradict. -/
structure PotB (E : Nat) (ts : List Kt) (p : Nat → Int) : Prop where
  tst : ∀ t ∈ ts, p t.one.toNat ≤ p t.two.toNat + t.hi ∧ p t.two.toNat ≤ p t.one.toNat - t.lo
  edge : ∀ v, v < E → p v ≤ p E + 1000 ∧ p E ≤ p v
theorem PotB.spread {E : Nat} {ts : List Kt} {p : Nat → Int} (h : PotB E ts p) {u v : Nat} (hu : u ≤ E) (hv : v ≤ E) : p v - p u ≤ 1000 := by
  rcases Nat.lt_or_eq_of_le hu with a | a <;> rcases Nat.lt_or_eq_of_le hv with b | b
  · have := h.edge u a; have := h.edge v b; omega
  · have := h.edge u a; subst b; omega
  · have := h.edge v b; subst a; omega
  · subst a b; omega

def i1 (n : Nat) : Nat → List Int
  | 0 => List.replicate (n * n) cap
  | v + 1 => (i1 n v).set (v * n + v) 0
def i2 (E : Nat) : Nat → List Int
  | 0 => i1 (E + 1) (E + 1)
  | v + 1 => ((i2 E v).set (E * (E + 1) + v) 1000).set (v * (E + 1) + E) 0
def tmin (n : Nat) (l : List Int) (t : Kt) : List Int :=
  let l1 := l.set (t.two.toNat * n + t.one.toNat) (min (X n l t.two.toNat t.one.toNat) t.hi)
  l1.set (t.one.toNat * n + t.two.toNat) (min (X n l1 t.one.toNat t.two.toNat) (-t.lo))
def initL (E : Nat) (ts : List Kt) : List Int := ts.foldl (tmin (E + 1)) (i2 E E)
theorem i1_len (n v : Nat) : (i1 n v).length = n * n := by
  induction v with
  | zero => simp [i1]
  | succ v ih => simp [i1, ih]
theorem i2_len (E v : Nat) : (i2 E v).length = (E + 1) * (E + 1) := by
  induction v with
  | zero => simp [i2, i1_len]
  | succ v ih => simp [i2, ih]
theorem tmin_len (n : Nat) (l : List Int) (t : Kt) : (tmin n l t).length = l.length := by simp [tmin]
theorem X_i1 {n : Nat} : ∀ (k : Nat), k ≤ n → ∀ u v, u < n → v < n → X n (i1 n k) u v = if u = v ∧ u < k then 0 else cap := by
  intro k
  induction k with
  | zero => intro _ u v hu hv; rw [if_neg (by omega)]; unfold X i1; exact nthI_rep (idx_lt hu hv)
  | succ k ih =>
    intro hk u v hu hv
    unfold i1
    rw [X_set (i1_len n k) (by omega) (by omega) hv, ih (by omega) u v hu hv]
    by_cases e : k = u ∧ k = v
    · rw [if_pos e, if_pos (by omega)]
    · rw [if_neg e]
      by_cases e2 : u = v ∧ u < k
      · rw [if_pos e2, if_pos (by omega)]
      · rw [if_neg e2, if_neg (by omega)]
theorem X_i2 {E : Nat} : ∀ (k : Nat), k ≤ E → ∀ u v, u ≤ E → v ≤ E → X (E + 1) (i2 E k) u v = if u = v then 0 else if u = E ∧ v < k then 1000 else if v = E ∧ u < k then 0 else cap := by
  intro k
  induction k with
  | zero =>
    intro _ u v hu hv
    unfold i2
    rw [X_i1 (E + 1) (Nat.le_refl _) u v (by omega) (by omega)]
    by_cases e : u = v
    · rw [if_pos ⟨e, by omega⟩, if_pos e]
    · rw [if_neg (by omega), if_neg e, if_neg (by omega), if_neg (by omega)]
  | succ k ih =>
    intro hk u v hu hv
    unfold i2
    rw [X_set (by simp [i2_len]) (by omega) (by omega) (by omega), X_set (i2_len E k) (by omega) (by omega) (by omega), ih (by omega) u v hu hv]
    by_cases e1 : k = u ∧ E = v
    · rw [if_pos e1, if_neg (by omega), if_neg (by omega), if_pos (by omega)]
    · rw [if_neg e1]
      by_cases e2 : E = u ∧ k = v
      · rw [if_pos e2, if_neg (by omega), if_pos (by omega)]
      · rw [if_neg e2]
        by_cases e3 : u = v
        · rw [if_pos e3, if_pos e3]
        · rw [if_neg e3, if_neg e3]
          by_cases e4 : u = E ∧ v < k
          · rw [if_pos e4, if_pos (by omega)]
          · rw [if_neg e4, if_neg (show ¬ (u = E ∧ v < k + 1) by omega)]
            by_cases e5 : v = E ∧ u < k
            · rw [if_pos e5, if_pos (by omega)]
            · rw [if_neg e5, if_neg (by omega)]
theorem X_tmin {n : Nat} {l : List Int} {t : Kt} (hl : l.length = n * n) (h1 : t.one.toNat < n) (h2 : t.two.toNat < n) (hne : t.one.toNat ≠ t.two.toNat) {u v : Nat} (hv : v < n) :
    X n (tmin n l t) u v = if t.one.toNat = u ∧ t.two.toNat = v then min (X n l u v) (-t.lo) else if t.two.toNat = u ∧ t.one.toNat = v then min (X n l u v) t.hi else X n l u v := by
  unfold tmin
  dsimp only
  rw [X_set (by simpa using hl) h1 h2 hv, X_set hl h2 h1 h2, X_set hl h2 h1 hv, if_neg (show ¬ (t.two.toNat = t.one.toNat ∧ t.one.toNat = t.two.toNat) by omega)]
  split
  · rename_i e; obtain ⟨rfl, rfl⟩ := e; rfl
  · split
    · rename_i e; obtain ⟨rfl, rfl⟩ := e; rfl
    · rfl
/-- What holds of the table ahead of its steps. -/
structure Start (E : Nat) (ts : List Kt) (l : List Int) : Prop where
  len : l.length = (E + 1) * (E + 1)
  bd : Bd (E + 1) 1000 l
  diag : ∀ v, v ≤ E → X (E + 1) l v v ≤ 0
  edge : ∀ v, v < E → X (E + 1) l E v ≤ 1000 ∧ X (E + 1) l v E ≤ 0
  tst : ∀ t ∈ ts, t.one.toNat ≤ E → t.two.toNat ≤ E → X (E + 1) l t.two.toNat t.one.toNat ≤ t.hi ∧ X (E + 1) l t.one.toNat t.two.toNat ≤ -t.lo
  low : ∀ p, PotB E ts p → Low (E + 1) p l
theorem start_nil (E : Nat) : Start E [] (i2 E E) := by
  refine ⟨i2_len E E, ?_, ?_, ?_, fun t ht => by simp at ht, ?_⟩
  · intro u v hu hv
    rw [X_i2 E (Nat.le_refl _) u v (by omega) (by omega)]
    unfold cap
    split
    · omega
    · split
      · omega
      · split <;> omega
  · intro v hv
    rw [X_i2 E (Nat.le_refl _) v v hv hv, if_pos rfl]; omega
  · intro v hv
    rw [X_i2 E (Nat.le_refl _) E v (by omega) (by omega), X_i2 E (Nat.le_refl _) v E (by omega) (by omega), if_neg (by omega), if_pos (by omega), if_neg (by omega), if_neg (by omega), if_pos (by omega)]
    omega
  · intro p hp u v hu hv
    have hs := hp.spread (show u ≤ E by omega) (show v ≤ E by omega)
    rw [X_i2 E (Nat.le_refl _) u v (by omega) (by omega)]
    unfold cap
    split
    · rename_i e; subst e; omega
    · split
      · omega
      · split
        · rename_i e; obtain ⟨rfl, e⟩ := e
          have := hp.edge u (by omega); omega
        · omega
theorem start_step {E : Nat} {ts : List Kt} {l : List Int} {t : Kt} (h : Start E ts l) (ht : 0 ≤ t.one ∧ t.one < E ∧ 0 ≤ t.two ∧ t.two < E ∧ t.one ≠ t.two ∧ -1000 ≤ t.lo ∧ t.lo ≤ t.hi ∧ t.hi ≤ 1000) : Start E (ts ++ [t]) (tmin (E + 1) l t) := by
  obtain ⟨q1, q2, q3, q4, q5, q6, q7, q8⟩ := ht
  have h1 : t.one.toNat < E + 1 := by omega
  have h2 : t.two.toNat < E + 1 := by omega
  have hne : t.one.toNat ≠ t.two.toNat := by omega
  have hX : ∀ u v, v < E + 1 → X (E + 1) (tmin (E + 1) l t) u v = if t.one.toNat = u ∧ t.two.toNat = v then min (X (E + 1) l u v) (-t.lo) else if t.two.toNat = u ∧ t.one.toNat = v then min (X (E + 1) l u v) t.hi else X (E + 1) l u v :=
    fun u v hv => X_tmin h.len h1 h2 hne hv
  have hle : ∀ u v, v < E + 1 → X (E + 1) (tmin (E + 1) l t) u v ≤ X (E + 1) l u v := by
    intro u v hv
    rw [hX u v hv]
    split
    · omega
    · split <;> omega
  refine ⟨by rw [tmin_len]; exact h.len, ?_, ?_, ?_, ?_, ?_⟩
  · intro u v hu hv
    have := h.bd u v hu hv
    rw [hX u v hv]
    split
    · omega
    · split <;> omega
  · intro v hv; exact Int.le_trans (hle v v (by omega)) (h.diag v hv)
  · intro v hv
    have := h.edge v hv
    have a := hle E v (by omega)
    have b := hle v E (by omega)
    omega
  · intro t' ht' c1 c2
    rcases List.mem_append.1 ht' with ht' | ht'
    · have := h.tst t' ht' c1 c2
      have a := hle t'.two.toNat t'.one.toNat (by omega)
      have b := hle t'.one.toNat t'.two.toNat (by omega)
      omega
    · have : t' = t := by simpa using ht'
      subst this
      rw [hX _ _ h1, hX _ _ h2, if_neg (by omega), if_pos ⟨rfl, rfl⟩, if_pos ⟨rfl, rfl⟩]
      omega
  · intro p hp u v hu hv
    have hp' : PotB E ts p := ⟨fun q hq => hp.tst q (by simp [hq]), hp.edge⟩
    have := h.low p hp' u v hu hv
    have ht := hp.tst t (by simp)
    rw [hX u v hv]
    split
    · rename_i e; obtain ⟨rfl, rfl⟩ := e; omega
    · split
      · rename_i e; obtain ⟨rfl, rfl⟩ := e; omega
      · exact this
theorem start_all {E : Nat} : ∀ (ts done : List Kt) (l : List Int), Start E done l → (∀ t ∈ ts, 0 ≤ t.one ∧ t.one < E ∧ 0 ≤ t.two ∧ t.two < E ∧ t.one ≠ t.two ∧ -1000 ≤ t.lo ∧ t.lo ≤ t.hi ∧ t.hi ≤ 1000) → Start E (done ++ ts) (ts.foldl (tmin (E + 1)) l)
  | [], done, l, h, _ => by simpa using h
  | t :: ts, done, l, h, ht => by
    have := start_all ts (done ++ [t]) _ (start_step h (ht t (by simp))) (fun q hq => ht q (by simp [hq]))
    simpa [List.append_assoc] using this
theorem start {E : Nat} {ts : List Kt} (h : Okb E ts) : Start E ts (initL E ts) := by
  have := start_all ts [] _ (start_nil E) h.tst
  simpa [initL] using this

/-- By how much v can be sharper than u, as far as links tell. -/
def D (E : Nat) (ts : List Kt) (u v : Nat) : Int := X (E + 1) (fwM (E + 1) (E + 1) (initL E ts)) u v
def Agr (E : Nat) (ts : List Kt) : Prop := ∀ v, v ≤ E → 0 ≤ D E ts v v
instance (E : Nat) (ts : List Kt) : Decidable (Agr E ts) := decidable_of_iff (∀ v, v < E + 1 → 0 ≤ D E ts v v) ⟨fun h v hv => h v (by omega), fun h v hv => h v (by omega)⟩
section
variable {E : Nat} {ts : List Kt}
theorem D_ge (h : Okb E ts) {p : Nat → Int} (hp : PotB E ts p) {u v : Nat} (hu : u ≤ E) (hv : v ≤ E) : p v - p u ≤ D E ts u v :=
  low_M (start h).len ((start h).low p hp) (E + 1) (Nat.le_refl _) u v (by omega) (by omega)
theorem D_le (h : Okb E ts) {u v : Nat} (hu : u ≤ E) (hv : v ≤ E) : D E ts u v ≤ X (E + 1) (initL E ts) u v := by
  have := under_M (start h).len 0 (E + 1) (by omega) u v (by omega) (by omega)
  simpa [D, fwM] using this
theorem D_tri (h : Okb E ts) (ha : Agr E ts) {u k v : Nat} (hu : u ≤ E) (hk : k ≤ E) (hv : v ≤ E) : D E ts u v ≤ D E ts u k + D E ts k v :=
  fw_tri (start h).len (by have := h.few; omega) (start h).bd (fun v hv => ha v (by omega)) (E + 1) (Nat.le_refl _) k u v (by omega) (by omega) (by omega)
theorem D_self (h : Okb E ts) (ha : Agr E ts) {v : Nat} (hv : v ≤ E) : D E ts v v = 0 := by
  have := D_le h hv hv
  have := (start h).diag v hv
  have := ha v hv
  omega
theorem D_edge (h : Okb E ts) {v : Nat} (hv : v < E) : D E ts E v ≤ 1000 ∧ D E ts v E ≤ 0 := by
  have a := D_le h (Nat.le_refl E) (show v ≤ E by omega)
  have b := D_le h (show v ≤ E by omega) (Nat.le_refl E)
  have := (start h).edge v hv
  omega
theorem D_tst (h : Okb E ts) {t : Kt} (ht : t ∈ ts) : D E ts t.two.toNat t.one.toNat ≤ t.hi ∧ D E ts t.one.toNat t.two.toNat ≤ -t.lo := by
  obtain ⟨q1, q2, q3, q4, _⟩ := h.tst t ht
  have a := D_le h (show t.two.toNat ≤ E by omega) (show t.one.toNat ≤ E by omega)
  have b := D_le h (show t.one.toNat ≤ E by omega) (show t.two.toNat ≤ E by omega)
  have := (start h).tst t ht (by omega) (by omega)
  omega
/-- A row of the table is what nothing contradicts. -/
theorem D_pot (h : Okb E ts) (ha : Agr E ts) {u : Nat} (hu : u ≤ E) : PotB E ts (D E ts u) := by
  refine ⟨fun t ht => ?_, fun v hv => ?_⟩
  · obtain ⟨q1, q2, q3, q4, _⟩ := h.tst t ht
    have a := D_tri h ha hu (show t.two.toNat ≤ E by omega) (show t.one.toNat ≤ E by omega)
    have b := D_tri h ha hu (show t.one.toNat ≤ E by omega) (show t.two.toNat ≤ E by omega)
    have := D_tst h ht
    omega
  · have a := D_tri h ha hu (Nat.le_refl E) (show v ≤ E by omega)
    have b := D_tri h ha hu (show v ≤ E by omega) (Nat.le_refl E)
    have := D_edge h hv
    omega
theorem agr_iff (h : Okb E ts) : Agr E ts ↔ ∃ p, PotB E ts p := by
  constructor
  · intro ha; exact ⟨_, D_pot h ha (Nat.le_refl E)⟩
  · rintro ⟨p, hp⟩ v hv
    have := D_ge h hp hv hv
    omega
theorem D_rng (h : Okb E ts) (ha : Agr E ts) {u v : Nat} (hu : u ≤ E) (hv : v ≤ E) : -1000 ≤ D E ts u v ∧ D E ts u v ≤ 1000 := by
  have a := (D_pot h ha hu).spread hu hv
  have b := (D_pot h ha hu).spread hv hu
  have c := D_self h ha hu
  omega
end
end Kp
end Go.Proofs.Ytkljdbgkhghiaaa

namespace Go.Proofs.Ytkljdbgkhghiaaa
namespace Kp
/-- The links of tests, from a number on. -/
def lkT : Nat → List Kt → List Kw
  | _, [] => []
  | i, t :: ts => (⟨t.two, t.one, i⟩, t.hi) :: (⟨t.one, t.two, i⟩, -t.lo) :: lkT (i + 1) ts
/-- The links of an edge; q: it is below top. -/
def lkV (q : Nat → Bool) (top : Int) (v : Nat) : List Kw := [(⟨-1, v, -1⟩, 1000), (⟨v, -1, -1⟩, 0)] ++ if q v then [(⟨top, v, -2⟩, 0)] else []
def lkE (q : Nat → Bool) (top : Int) (n : Nat) : List Kw := (List.range n).flatMap (lkV q top)
def lks (E : Nat) (ts : List Kt) (q : Nat → Bool) (top : Int) : List Kw := lkT 0 ts ++ lkE q top E
def noq : Nat → Bool := fun _ => false
theorem mem_lkT {k : Kw} : ∀ (ts : List Kt) (i : Nat), k ∈ lkT i ts ↔ ∃ j t, ts[j]? = some t ∧ (k = (⟨t.two, t.one, ((i + j : Nat) : Int)⟩, t.hi) ∨ k = (⟨t.one, t.two, ((i + j : Nat) : Int)⟩, -t.lo))
  | [], i => by simp [lkT]
  | t :: ts, i => by
    simp only [lkT, List.mem_cons, mem_lkT ts (i + 1)]
    constructor
    · rintro (h | h | ⟨j, t', h1, h2⟩)
      · exact ⟨0, t, rfl, .inl (by simpa using h)⟩
      · exact ⟨0, t, rfl, .inr (by simpa using h)⟩
      · refine ⟨j + 1, t', by simpa using h1, ?_⟩
        rw [show i + (j + 1) = i + 1 + j by omega]; exact h2
    · rintro ⟨j, t', h1, h2⟩
      cases j with
      | zero =>
        simp only [List.getElem?_cons_zero, Option.some.injEq] at h1
        subst h1
        rcases h2 with h2 | h2
        · exact .inl (by simpa using h2)
        · exact .inr (.inl (by simpa using h2))
      | succ j =>
        refine .inr (.inr ⟨j, t', by simpa using h1, ?_⟩)
        rw [show i + 1 + j = i + (j + 1) by omega]; exact h2
theorem mem_lkE {k : Kw} {q : Nat → Bool} {top : Int} {n : Nat} : k ∈ lkE q top n ↔ ∃ v, v < n ∧ (k = (⟨-1, v, -1⟩, 1000) ∨ k = (⟨v, -1, -1⟩, 0) ∨ (q v = true ∧ k = (⟨top, v, -2⟩, 0))) := by
  unfold lkE
  simp only [List.mem_flatMap, List.mem_range, lkV]
  constructor
  · rintro ⟨v, hv, h⟩
    refine ⟨v, hv, ?_⟩
    split at h <;> simp_all
  · rintro ⟨v, hv, h⟩
    refine ⟨v, hv, ?_⟩
    rcases h with rfl | rfl | ⟨h, rfl⟩ <;> simp_all
theorem pl_nat {E : Nat} (v : Nat) : pl E (v : Int) = v := by unfold pl; rw [if_neg (by omega)]; rfl
theorem pl_none {E : Nat} : pl E (-1) = E := rfl
theorem pl_int {E : Nat} {v : Int} (h : 0 ≤ v) : pl E v = v.toNat := by unfold pl; rw [if_neg (by omega)]
section
variable {E : Nat} {ts : List Kt} {q : Nat → Bool} {top : Int}
theorem pot_iff (h : Okb E ts) (ht : 0 ≤ top) {p : Nat → Int} : Pot E (lks E ts q top) p ↔ PotB E ts p ∧ ∀ v, v < E → q v = true → p v ≤ p top.toNat := by
  unfold Pot lks
  simp only [List.mem_append]
  constructor
  · intro hp
    refine ⟨⟨fun t h1 => ?_, fun v hv => ?_⟩, fun v hv hq => ?_⟩
    · obtain ⟨j, hj, rfl⟩ := List.getElem_of_mem h1
      obtain ⟨q1, q2, q3, q4, _⟩ := h.tst _ h1
      have a := hp (⟨ts[j].two, ts[j].one, ((0 + j : Nat) : Int)⟩, ts[j].hi) (.inl ((mem_lkT ts 0).2 ⟨j, ts[j], by simp [hj], .inl rfl⟩))
      have b := hp (⟨ts[j].one, ts[j].two, ((0 + j : Nat) : Int)⟩, -ts[j].lo) (.inl ((mem_lkT ts 0).2 ⟨j, ts[j], by simp [hj], .inr rfl⟩))
      simp only [kdst, ksrc, pl_int q1, pl_int q3] at a b
      exact ⟨a, by omega⟩
    · have a := hp (⟨-1, v, -1⟩, 1000) (.inr (mem_lkE.2 ⟨v, hv, .inl rfl⟩))
      have b := hp (⟨v, -1, -1⟩, 0) (.inr (mem_lkE.2 ⟨v, hv, .inr (.inl rfl)⟩))
      simp only [kdst, ksrc, pl_nat, pl_none] at a b
      exact ⟨a, by omega⟩
    · have a := hp (⟨top, v, -2⟩, 0) (.inr (mem_lkE.2 ⟨v, hv, .inr (.inr ⟨hq, rfl⟩)⟩))
      simp only [kdst, ksrc, pl_nat, pl_int ht] at a
      omega
  · rintro ⟨hp, hq⟩ k (hk | hk)
    · obtain ⟨j, t, h1, h2⟩ := (mem_lkT ts 0).1 hk
      have hm := List.mem_of_getElem? h1
      obtain ⟨q1, q2, q3, q4, _⟩ := h.tst t hm
      have a := hp.tst t hm
      rcases h2 with rfl | rfl
      · simp only [kdst, ksrc, pl_int q1, pl_int q3]; exact a.1
      · simp only [kdst, ksrc, pl_int q1, pl_int q3]; have := a.2; omega
    · obtain ⟨v, hv, h1⟩ := mem_lkE.1 hk
      have a := hp.edge v hv
      rcases h1 with rfl | rfl | ⟨h1, rfl⟩
      · simp only [kdst, ksrc, pl_nat, pl_none]; exact a.1
      · simp only [kdst, ksrc, pl_nat, pl_none]; have := a.2; omega
      · simp only [kdst, ksrc, pl_nat, pl_int ht]; have := hq v hv h1; omega
theorem okl (h : Okb E ts) (ht : 0 ≤ top ∧ top < E) {init : List Int} (hi : init.length = 17) : Okl E init (lks E ts q top) := by
  have hE := h.few
  refine ⟨by omega, fun k hk => ?_⟩
  unfold lks at hk
  rcases List.mem_append.1 hk with hk | hk
  · obtain ⟨j, t, h1, h2⟩ := (mem_lkT ts 0).1 hk
    have hm := List.mem_of_getElem? h1
    obtain ⟨q1, q2, q3, q4, _⟩ := h.tst t hm
    rcases h2 with rfl | rfl <;> simp only [kdst, ksrc, pl_int q1, pl_int q3] <;> omega
  · obtain ⟨v, hv, h1⟩ := mem_lkE.1 hk
    rcases h1 with rfl | rfl | ⟨h1, rfl⟩
    · simp only [kdst, ksrc, pl_nat, pl_none]; omega
    · simp only [kdst, ksrc, pl_nat, pl_none]; omega
    · simp only [kdst, ksrc, pl_nat, pl_int ht.1]; omega
end
/-- A row with nothing noted. -/
def sk0 (init : List Int) : Sk := ⟨init, fun _ => none, -1⟩
theorem inv0 (E : Nat) (L : List Kw) (init : List Int) : Inv E L init 0 L (sk0 init) (fun _ => 0) := by
  refine ⟨rfl, (fun v k hk => by cases hk), fun v _ => ⟨rfl, rfl⟩, fun _ => Nat.le_refl _, (fun k _ h => by omega), (fun k _ h => by omega), (fun j v w hj hw => ?_), fun _ => Int.le_refl _, .inl rfl⟩
  cases j with
  | zero => omega
  | succ j => simp [wk, sk0] at hw
theorem relax_all {E : Nat} {L : List Kw} {init : List Int} (hL : Okl E init L) {R : Nat} (hR : 0 < R) (z : Int) :
    ((relaxK E L R z (sk0 init)).1 = -1 → Done E L init (relaxK E L R z (sk0 init)).2) ∧ ((relaxK E L R z (sk0 init)).1 ≠ -1 → Open E L init R (relaxK E L R z (sk0 init)).1 (relaxK E L R z (sk0 init)).2) := by
  have := relax_spec hL R 0 z (sk0 init) _ (inv0 E L init) (by omega) _ _ rfl
  rwa [Nat.zero_add] at this

/-- The place behind so many links back. -/
def back (E : Nat) (b : Nat → Option Kw) : Nat → Nat → Nat
  | 0, v => v
  | j + 1, v => match b (back E b j v) with
    | none => back E b j v
    | some k => ksrc E k
/-- The links back from a place all lead on, for so many steps. -/
theorem open_far {E : Nat} {L : List Kw} {init : List Int} {r : Nat} {done : List Kw} {s : Sk} {last : Nat → Nat} (h : Inv E L init r done s last) {v : Nat} (hv : last v = r) : ∀ j, j < r → ∃ k, s.by_ (back E s.by_ j v) = some k ∧ r ≤ last (back E s.by_ j v) + j := by
  intro j
  induction j with
  | zero =>
    intro hj
    cases hb : s.by_ (back E s.by_ 0 v) with
    | none =>
      have := (h.none_ _ hb).2
      simp only [back] at this
      omega
    | some k => exact ⟨k, rfl, by simp only [back]; omega⟩
  | succ j ih =>
    intro hj
    obtain ⟨k, h1, h2⟩ := ih (by omega)
    have e : back E s.by_ (j + 1) v = ksrc E k := by rw [back, h1]
    have h3 := (h.some_ _ k h1).2.2.2.2.1
    rw [e]
    cases hb : s.by_ (ksrc E k) with
    | none =>
      have := (h.none_ _ hb).2
      omega
    | some k' => exact ⟨k', rfl, by omega⟩
theorem back_lt {E : Nat} {b : Nat → Option Kw} (hb : ∀ v k, b v = some k → ksrc E k ≤ E) {v : Nat} (hv : v ≤ E) : ∀ j, back E b j v ≤ E := by
  intro j
  induction j with
  | zero => exact hv
  | succ j ih =>
    unfold back
    cases h : b (back E b j v) with
    | none => exact ih
    | some k => exact hb _ k h
theorem back_add {E : Nat} {b : Nat → Option Kw} (i : Nat) (v : Nat) : ∀ j, back E b (i + j) v = back E b j (back E b i v) := by
  intro j
  induction j with
  | zero => rfl
  | succ j ih => rw [← Nat.add_assoc, back, back, ih]
theorem wk_succ' {E : Nat} {b : Nat → Option Kw} {j v x : Nat} {s : Int} {k : Kw} (h : wk E b j v = some (x, s)) (hk : b x = some k) : wk E b (j + 1) v = some (ksrc E k, s + k.2) := by
  induction j generalizing v s with
  | zero =>
    simp [wk] at h
    obtain ⟨rfl, rfl⟩ := h
    simp [wk, hk]
  | succ j ih =>
    obtain ⟨k', y, h1, h2, rfl⟩ := wk_some h
    rw [wk]
    simp only [h1]
    rw [ih h2]
    simp only [Option.map_some]
    congr 2
    omega
/-- So far the links lead, the walk back is one. -/
theorem wk_back {E : Nat} {b : Nat → Option Kw} {v : Nat} : ∀ (j : Nat), (∀ i, i < j → b (back E b i v) ≠ none) → ∃ s, wk E b j v = some (back E b j v, s) := by
  intro j
  induction j with
  | zero => intro _; exact ⟨0, rfl⟩
  | succ j ih =>
    intro h
    obtain ⟨s, hs⟩ := ih fun i hi => h i (by omega)
    cases hb : b (back E b j v) with
    | none => exact absurd hb (h j (by omega))
    | some k => exact ⟨s + k.2, by rw [wk_succ' hs hb, back, hb]⟩
/-- Of n + 1 places below n two are the same. -/
theorem twice {n : Nat} {f : Nat → Nat} (hf : ∀ i, i ≤ n → f i < n) : ∃ i j, i < j ∧ j ≤ n ∧ f i = f j := by
  refine Classical.byContradiction fun hc => ?_
  have hn : ((List.range (n + 1)).map f).Nodup := by
    rw [List.nodup_iff_pairwise_ne, List.pairwise_map]
    refine List.Pairwise.imp_of_mem ?_ (List.pairwise_lt_range (n := n + 1))
    intro a b ha hb hab e
    exact hc ⟨a, b, hab, by have := List.mem_range.1 hb; omega, e⟩
  have := pigeon n _ hn (fun x hx => by
    obtain ⟨i, hi, rfl⟩ := List.mem_map.1 hx
    exact hf i (by have := List.mem_range.1 hi; omega))
  simp at this
  omega
theorem open_no {E : Nat} {L : List Kw} {init : List Int} (hL : Okl E init L) {c : Int} {s : Sk} (h : Open E L init (E + 2) c s) {p : Nat → Int} (hp : Pot E L p) : False := by
  obtain ⟨hlen, v, last, rfl, hv, hi, hl⟩ := h
  have hby : ∀ v k, s.by_ v = some k → ksrc E k ≤ E := fun v k hk => (hL.2 k (hi.some_ v k hk).1).1
  obtain ⟨i, j, hij, hj, he⟩ := twice (n := E + 1) (f := fun i => back E s.by_ i v) (fun i _ => Nat.lt_succ_of_le (back_lt hby hv i))
  obtain ⟨d, rfl⟩ := Nat.exists_eq_add_of_le (Nat.le_of_lt hij)
  try dsimp only at he
  have hd : ∀ m, m < d → s.by_ (back E s.by_ m (back E s.by_ i v)) ≠ none := by
    intro m hm
    obtain ⟨k, h1, _⟩ := open_far hi hl (i + m) (by omega)
    rw [← back_add, h1]; simp
  obtain ⟨w, hw⟩ := wk_back d hd
  rw [← back_add, ← he] at hw
  have h1 := hi.neg d _ w (by omega) hw
  have h2 := wk_le (p := p) (fun v k hk => by
    have := (hi.some_ v k hk)
    have h3 := hp k this.1
    rw [this.2.1] at h3
    exact h3) d _ _ w hw
  omega
/-- Rows converge just if nothing is contradicted. -/
theorem relax_iff {E : Nat} {L : List Kw} {init : List Int} (hL : Okl E init L) (z : Int) (hi : ∀ v, v ≤ E → nthI init v < far) : (relaxK E L (E + 2) z (sk0 init)).1 = -1 ↔ ∃ p, Pot E L p := by
  obtain ⟨h1, h2⟩ := relax_all hL (show 0 < E + 2 by omega) z
  constructor
  · intro h
    have hd := h1 h
    refine ⟨nthI (relaxK E L (E + 2) z (sk0 init)).2.most, fun k hk => ?_⟩
    refine hd.conv k hk ?_
    have a := hd.dec (ksrc E k)
    have b := hi (ksrc E k) (hL.2 k hk).1
    omega
  · rintro ⟨p, hp⟩
    refine Classical.byContradiction fun hc => ?_
    exact open_no hL (h2 hc) hp
theorem relax_ok {E : Nat} {L : List Kw} {init : List Int} (hL : Okl E init L) (z : Int) {p : Nat → Int} (hp : Pot E L p) : (relaxK E L (E + 2) z (sk0 init)).1 = -1 ∧ Done E L init (relaxK E L (E + 2) z (sk0 init)).2 := by
  obtain ⟨h1, h2⟩ := relax_all hL (show 0 < E + 2 by omega) z
  have : (relaxK E L (E + 2) z (sk0 init)).1 = -1 := Classical.byContradiction fun hc => open_no hL (h2 hc) hp
  exact ⟨this, h1 this⟩
end Kp
end Go.Proofs.Ytkljdbgkhghiaaa
