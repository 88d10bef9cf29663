/- Plain: what a row is, and the chain to an edge; circles. Plain: chains that are checked, circles, the truth that reaches an end. Plain: truths; which edge can be the sharpest; what another test tells. Words for memory: a slice that reads as a list, whatever its element type. Contracts of the small functions. -/
import Derived.Test.YtkljdbgkhghiaaaP1
import Derived.WalkKit
import Derived.WalkSpells
import Derived.WalkLawsBesides
import Derived.Outline
import Derived.Lib.Hide
import Derived.Test.YtkljdbgkhghiaaaRows
set_option linter.all false
set_option linter.unnecessarySimpa false
set_option linter.unusedSimpArgs false
set_option linter.unusedVariables false
set_option linter.unusedSectionVars false

namespace Go.Proofs.Ytkljdbgkhghiaaa
namespace Kp
def fromL (v : Nat) : List Int := (List.replicate 17 far).set v 0
theorem fromL_len (v : Nat) : (fromL v).length = 17 := by simp [fromL]
theorem fromL_at {v x : Nat} (hv : v ≤ 16) (hx : x ≤ 16) : nthI (fromL v) x = if v = x then 0 else far := by
  unfold fromL
  rw [nthI_set (by simp; omega)]
  split
  · rfl
  · exact nthI_rep (by omega)
def fromS (E : Nat) (ts : List Kt) (v : Nat) : Sk := (relaxK E (lks E ts noq 0) (E + 2) 0 (sk0 (fromL v))).2

theorem low_fold {E N : Nat} {p : Nat → Int} {c : Int} : ∀ (M : List Kw) (s : Sk), s.most.length = N → (∀ k ∈ M, kdst E k < N ∧ p (kdst E k) ≤ p (ksrc E k) + k.2) → (∀ k ∈ M, ksrc E k ≤ E) → (∀ x, x ≤ E → p x ≤ nthI s.most x + c) → (∀ x, x ≤ E → p x ≤ nthI (M.foldl (stepK E) s).most x + c) ∧ (M.foldl (stepK E) s).most.length = N
  | [], s, hN, _, _, h => ⟨h, hN⟩
  | k :: M, s, hN, hM, hS, h => by
    have hk := hM k (by simp)
    have hs := h _ (hS k (by simp))
    refine low_fold M (stepK E s k) ?_ (fun q hq => hM q (by simp [hq])) (fun q hq => hS q (by simp [hq])) ?_
    · unfold stepK; split
      · simpa using hN
      · exact hN
    · intro x hx
      unfold stepK
      split
      · try dsimp only
        rw [nthI_set (by omega)]
        split
        · rename_i e; subst e; omega
        · exact h x hx
      · exact h x hx
theorem low_relax {E : Nat} {L : List Kw} {p : Nat → Int} {c : Int} {N : Nat} (hp : Pot E L p) (hL : ∀ k ∈ L, kdst E k < N ∧ ksrc E k ≤ E) : ∀ (m : Nat) (z : Int) (s : Sk), s.most.length = N → (∀ x, x ≤ E → p x ≤ nthI s.most x + c) → ∀ x, x ≤ E → p x ≤ nthI (relaxK E L m z s).2.most x + c := by
  intro m
  induction m with
  | zero => intro z s _ h x hx; exact h x hx
  | succ m ih =>
    intro z s hN h
    have := low_fold (E := E) (c := c) L { s with chg := -1 } hN (fun k hk => ⟨(hL k hk).1, hp k hk⟩) (fun k hk => (hL k hk).2) h
    unfold relaxK
    split
    · exact this.1
    · exact ih _ _ this.2 this.1
section
variable {E : Nat} {ts : List Kt}
theorem pot_of (h : Okb E ts) {p : Nat → Int} (hp : PotB E ts p) : Pot E (lks E ts noq 0) p := (pot_iff h (Int.le_refl 0)).2 ⟨hp, fun v _ hv => by cases hv⟩
theorem okl0 (h : Okb E ts) {init : List Int} (hi : init.length = 17) : Okl E init (lks E ts noq 0) := okl h ⟨by omega, by have := h.pos; omega⟩ hi
/-- The row from an edge, or from none at all. -/
theorem from_ok (h : Okb E ts) (ha : Agr E ts) {v : Nat} (_ : v ≤ E) : (relaxK E (lks E ts noq 0) (E + 2) 0 (sk0 (fromL v))).1 = -1 ∧ Done E (lks E ts noq 0) (fromL v) (fromS E ts v) :=
  relax_ok (okl0 h (fromL_len v)) 0 (pot_of h (D_pot h ha (Nat.le_refl E)))
theorem from_low (h : Okb E ts) (ha : Agr E ts) {v : Nat} (hv : v ≤ E) {x : Nat} (hx : x ≤ E) : D E ts v x ≤ nthI (fromS E ts v).most x := by
  have hE := h.few
  have hk := okl0 h (fromL_len v)
  have := low_relax (E := E) (c := 0) (N := 17) (pot_of h (D_pot h ha hv)) (fun k hk' => ⟨by have := (hk.2 k hk').2; omega, (hk.2 k hk').1⟩) (E + 2) 0 (sk0 (fromL v)) (fromL_len v) (fun x hx => by
    have h1 := fromL_at (show v ≤ 16 by omega) (show x ≤ 16 by omega)
    simp only [sk0]
    rw [h1]
    split
    · rename_i e; subst e; have := D_self h ha hv; omega
    · have := D_rng h ha hv hx; unfold far; omega) x hx
  unfold fromS
  omega
theorem from_self (h : Okb E ts) (ha : Agr E ts) {v : Nat} (hv : v ≤ E) : nthI (fromS E ts v).most v = 0 := by
  have hE := h.few
  have a := (from_ok h ha hv).2.dec v
  rw [fromL_at (by omega) (by omega), if_pos rfl] at a
  have b := from_low h ha hv hv
  rw [D_self h ha hv] at b
  omega
theorem from_small (h : Okb E ts) (ha : Agr E ts) {v : Nat} (hv : v ≤ E) : nthI (fromS E ts v).most E ≤ 0 ∧ ∀ x, x < E → nthI (fromS E ts v).most x ≤ 1000 := by
  have hd := (from_ok h ha hv).2
  have hs := from_self h ha hv
  have h1 : nthI (fromS E ts v).most E ≤ 0 := by
    rcases Nat.lt_or_eq_of_le hv with e | e
    · have := hd.conv (⟨v, -1, -1⟩, 0) (by unfold lks; exact List.mem_append.2 (.inr (mem_lkE.2 ⟨v, e, .inr (.inl rfl)⟩)))
      simp only [kdst, ksrc, pl_nat, pl_none] at this
      have := this (by rw [hs]; unfold far; omega)
      omega
    · subst e; omega
  refine ⟨h1, fun x hx => ?_⟩
  have := hd.conv (⟨-1, x, -1⟩, 1000) (by unfold lks; exact List.mem_append.2 (.inr (mem_lkE.2 ⟨x, hx, .inl rfl⟩)))
  simp only [kdst, ksrc, pl_nat, pl_none] at this
  have := this (by unfold far; omega)
  omega
theorem from_eq (h : Okb E ts) (ha : Agr E ts) {v : Nat} (hv : v ≤ E) {x : Nat} (hx : x ≤ E) : nthI (fromS E ts v).most x = D E ts v x := by
  have hd := (from_ok h ha hv).2
  have hs := from_self h ha hv
  obtain ⟨s1, s2⟩ := from_small h ha hv
  have hp : Pot E (lks E ts noq 0) (nthI (fromS E ts v).most) := by
    intro k hk
    refine hd.conv k hk ?_
    have h1 := ((okl0 h (fromL_len v)).2 k hk).1
    rcases Nat.lt_or_eq_of_le h1 with e | e
    · have := s2 _ e; unfold far; omega
    · rw [e]; unfold far; omega
  have hp' := ((pot_iff h (Int.le_refl 0)).1 hp).1
  have a := D_ge h hp' hv hx
  have b := from_low h ha hv hx
  omega
/-- Links lead back until the beginning. -/
theorem from_none (h : Okb E ts) (ha : Agr E ts) {v : Nat} (hv : v ≤ E) {x : Nat} (hx : x ≤ E) (hb : (fromS E ts v).by_ x = none) : x = v := by
  have hE := h.few
  have a := (from_ok h ha hv).2.none_ x hb
  rw [from_eq h ha hv hx, fromL_at (by omega) (by omega)] at a
  split at a
  · rename_i e; exact e.symm
  · have := D_rng h ha hv hx; unfold far at a; omega
theorem from_back (h : Okb E ts) (ha : Agr E ts) {v : Nat} (hv : v ≤ E) {x : Nat} (hx : x ≤ E) : ∃ m, m ≤ E ∧ (fromS E ts v).by_ (back E (fromS E ts v).by_ m x) = none ∧ ∀ i, i < m → (fromS E ts v).by_ (back E (fromS E ts v).by_ i x) ≠ none := by
  have hL := okl0 h (fromL_len v)
  have hd := (from_ok h ha hv).2
  have hby : ∀ v' k, (fromS E ts v).by_ v' = some k → ksrc E k ≤ E := fun v' k hk => (hL.2 k (hd.some_ v' k hk).1).1
  have key : ¬ ∀ i, i ≤ E → (fromS E ts v).by_ (back E (fromS E ts v).by_ i x) ≠ none := by
    intro hall
    obtain ⟨i, j, hij, hj, he⟩ := twice (n := E + 1) (f := fun i => back E (fromS E ts v).by_ i x) (fun i _ => Nat.lt_succ_of_le (back_lt hby hx i))
    obtain ⟨d, rfl⟩ := Nat.exists_eq_add_of_le (Nat.le_of_lt hij)
    try dsimp only at he
    have hd' : ∀ m, m < d → (fromS E ts v).by_ (back E (fromS E ts v).by_ m (back E (fromS E ts v).by_ i x)) ≠ none := by
      intro m hm
      rw [← back_add]; exact hall (i + m) (by omega)
    obtain ⟨w, hw⟩ := wk_back d hd'
    rw [← back_add, ← he] at hw
    have h1 := hd.neg d _ w (by omega) hw
    have hp := pot_of h (D_pot h ha hv)
    have h2 := wk_le (p := D E ts v) (fun v' k hk => by
      have := (hd.some_ v' k hk)
      have h3 := hp k this.1
      rw [this.2.1] at h3
      exact h3) d _ _ w hw
    omega
  have aux : ∀ n, (∀ i, i < n → (fromS E ts v).by_ (back E (fromS E ts v).by_ i x) ≠ none) ∨ ∃ m, m < n ∧ (fromS E ts v).by_ (back E (fromS E ts v).by_ m x) = none ∧ ∀ i, i < m → (fromS E ts v).by_ (back E (fromS E ts v).by_ i x) ≠ none := by
    intro n
    induction n with
    | zero => exact .inl fun i hi => by omega
    | succ n ih =>
      rcases ih with ih | ⟨m, h1, h2⟩
      · by_cases hn : (fromS E ts v).by_ (back E (fromS E ts v).by_ n x) = none
        · exact .inr ⟨n, by omega, hn, ih⟩
        · refine .inl fun i hi => ?_
          rcases Nat.lt_or_eq_of_le (Nat.le_of_lt_succ hi) with e | e
          · exact ih i e
          · subst e; exact hn
      · exact .inr ⟨m, by omega, h2⟩
  rcases aux (E + 1) with h1 | ⟨m, h1, h2⟩
  · exact absurd (fun i hi => h1 i (by omega)) key
  · exact ⟨m, by omega, h2⟩
end

/-- The links on the way back. -/
def trail (E : Nat) (b : Nat → Option Kw) : Nat → Nat → List Kw
  | 0, _ => []
  | j + 1, v => trail E b j v ++ (match b (back E b j v) with | none => [] | some k => [k])
theorem trail_succ {E : Nat} {b : Nat → Option Kw} {j v : Nat} {k : Kw} (h : b (back E b j v) = some k) : trail E b (j + 1) v = trail E b j v ++ [k] := by rw [trail, h]
theorem trail_len {E : Nat} {b : Nat → Option Kw} {v : Nat} : ∀ j, (∀ i, i < j → b (back E b i v) ≠ none) → (trail E b j v).length = j := by
  intro j
  induction j with
  | zero => intro _; rfl
  | succ j ih =>
    intro h
    cases hb : b (back E b j v) with
    | none => exact absurd hb (h j (by omega))
    | some k => rw [trail_succ hb, List.length_append, ih fun i hi => h i (by omega)]; rfl
theorem trail_at {E : Nat} {b : Nat → Option Kw} {v : Nat} : ∀ j, (∀ i, i < j → b (back E b i v) ≠ none) → ∀ i, i < j → (trail E b j v)[i]? = b (back E b i v) := by
  intro j
  induction j with
  | zero => intro _ i hi; omega
  | succ j ih =>
    intro h i hi
    have hl := trail_len j fun i hi => h i (Nat.lt_succ_of_lt hi)
    cases hb : b (back E b j v) with
    | none => exact absurd hb (h j (by omega))
    | some k =>
      rw [trail_succ hb]
      rcases Nat.lt_or_eq_of_le (Nat.le_of_lt_succ hi) with e | e
      · rw [List.getElem?_append_left (by omega)]
        exact ih (fun i hi => h i (by omega)) i e
      · subst e
        rw [List.getElem?_append_right (by omega), hl, hb]
        simp

/-- Links, one after another, from one place to another one; their worth. -/
inductive Ch (E : Nat) : List Kw → Int → Int → Int → Prop
  | one (k : Kw) {a z w : Int} (ha : k.1.src = a) (hz : k.1.dst = z) (hw : k.2 = w) : Ch E [k] a z w
  | more (k : Kw) {l : List Kw} {a y z w w' : Int} (ha : k.1.src = a) (hy : k.1.dst = y) (h : Ch E l y z w) (hw : k.2 + w = w') : Ch E (k :: l) a z w'
theorem Ch.ne {E : Nat} {l : List Kw} {a z w : Int} (h : Ch E l a z w) : l ≠ [] := by cases h <;> simp
theorem Ch.app {E : Nat} {l l' : List Kw} {a y z w w' : Int} (h : Ch E l a y w) (h' : Ch E l' y z w') : Ch E (l ++ l') a z (w + w') := by
  induction h with
  | one k ha hz hw => exact .more k ha hz h' (by omega)
  | more k ha hy _ hw ih => exact .more k ha hy (ih h') (by omega)
theorem Ch.pot {E : Nat} {L : List Kw} {p : Nat → Int} (hp : Pot E L p) {l : List Kw} {a z w : Int} (h : Ch E l a z w) (hl : ∀ k ∈ l, k ∈ L) : p (pl E z) ≤ p (pl E a) + w := by
  induction h with
  | one k ha hz hw => subst ha hz hw; exact hp k (hl k (by simp))
  | more k ha hy _ hw ih =>
    subst ha hy hw
    have a := hp k (hl k (by simp))
    have b := ih fun q hq => hl q (by simp [hq])
    unfold kdst ksrc at a
    omega
/-- A raw place. -/
def raw (E : Nat) (x : Int) : Prop := x = -1 ∨ (0 ≤ x ∧ x < E)
theorem raw_inj {E : Nat} {x y : Int} (hx : raw E x) (hy : raw E y) (h : pl E x = pl E y) : x = y := by
  unfold pl at h
  rcases hx with rfl | hx <;> rcases hy with rfl | hy
  · rfl
  · rw [if_pos (by omega), if_neg (by omega)] at h; omega
  · rw [if_neg (by omega), if_pos (by omega)] at h; omega
  · rw [if_neg (by omega), if_neg (by omega)] at h; omega
theorem raw_lks {E : Nat} {ts : List Kt} {q : Nat → Bool} {top : Int} (h : Okb E ts) (ht : 0 ≤ top ∧ top < E) {k : Kw} (hk : k ∈ lks E ts q top) : raw E k.1.src ∧ raw E k.1.dst := by
  unfold lks at hk
  rcases List.mem_append.1 hk with hk | hk
  · obtain ⟨j, t, h1, h2⟩ := (mem_lkT ts 0).1 hk
    obtain ⟨q1, q2, q3, q4, _⟩ := h.tst t (List.mem_of_getElem? h1)
    rcases h2 with rfl | rfl
    · exact ⟨.inr ⟨q3, q4⟩, .inr ⟨q1, q2⟩⟩
    · exact ⟨.inr ⟨q1, q2⟩, .inr ⟨q3, q4⟩⟩
  · obtain ⟨v, hv, h1⟩ := mem_lkE.1 hk
    have hr : raw E (v : Int) := .inr ⟨by omega, by omega⟩
    rcases h1 with rfl | rfl | ⟨h1, rfl⟩
    · exact ⟨.inl rfl, hr⟩
    · exact ⟨hr, .inl rfl⟩
    · exact ⟨.inr ht, hr⟩
/-- The way back, turned round, is a chain. -/
theorem trail_ch {E : Nat} {b : Nat → Option Kw} (hr : ∀ v k, b v = some k → raw E k.1.src ∧ raw E k.1.dst ∧ kdst E k = v) {v : Nat} : ∀ (j : Nat), (∀ i, i < j + 1 → b (back E b i v) ≠ none) →
    ∃ a z w, Ch E (trail E b (j + 1) v).reverse a z w ∧ pl E a = back E b (j + 1) v ∧ pl E z = v ∧ raw E a ∧ raw E z ∧ wk E b (j + 1) v = some (back E b (j + 1) v, w) := by
  intro j
  induction j with
  | zero =>
    intro h
    cases hb : b (back E b 0 v) with
    | none => exact absurd hb (h 0 (by omega))
    | some k =>
      have := hr _ k hb
      refine ⟨k.1.src, k.1.dst, k.2, ?_, ?_, this.2.2, this.1, this.2.1, ?_⟩
      · rw [trail_succ hb]; exact .one k rfl rfl rfl
      · rw [back, hb]; rfl
      · rw [back, hb]
        simp only [back] at hb
        simp [wk, hb]
  | succ j ih =>
    intro h
    obtain ⟨a, z, w, h1, h2, h3, h4, h5, h6⟩ := ih fun i hi => h i (by omega)
    cases hb : b (back E b (j + 1) v) with
    | none => exact absurd hb (h (j + 1) (by omega))
    | some k =>
      have hk := hr _ k hb
      have e : k.1.dst = a := raw_inj hk.2.1 h4 (by rw [h2]; exact hk.2.2)
      refine ⟨k.1.src, z, k.2 + w, ?_, ?_, h3, hk.1, h5, ?_⟩
      · rw [trail_succ hb, List.reverse_append]
        exact .more k rfl e h1 rfl
      · rw [back, hb]; rfl
      · rw [wk_succ' h6 hb, back, hb, Int.add_comm]
theorem trail_mem {E : Nat} {b : Nat → Option Kw} {v : Nat} {k : Kw} : ∀ j, k ∈ trail E b j v → ∃ x, b x = some k := by
  intro j
  induction j with
  | zero => intro h; simp [trail] at h
  | succ j ih =>
    intro h
    rw [trail] at h
    rcases List.mem_append.1 h with h | h
    · exact ih h
    · cases hb : b (back E b j v) with
      | none => rw [hb] at h; simp at h
      | some q => rw [hb] at h; have : k = q := by simpa using h
                  subst this; exact ⟨_, hb⟩
end Kp
end Go.Proofs.Ytkljdbgkhghiaaa

namespace Go.Proofs.Ytkljdbgkhghiaaa
namespace Kp
def nthT (ts : List Kt) (i : Nat) : Kt := ts.getD i ⟨0, 0, 0, 0⟩
/-- The worth of a link; none: it is none. -/
def worthP (E : Nat) (ts : List Kt) (k : Kl) : Option Int :=
  if k.tst = -1 ∧ k.src = -1 ∧ 0 ≤ k.dst ∧ k.dst < E then some 1000
  else if k.tst = -1 ∧ k.dst = -1 ∧ 0 ≤ k.src ∧ k.src < E then some 0
  else if k.tst < 0 ∨ (ts.length : Int) ≤ k.tst then none
  else if k.src = (nthT ts k.tst.toNat).two ∧ k.dst = (nthT ts k.tst.toNat).one then some (nthT ts k.tst.toNat).hi
  else if k.src = (nthT ts k.tst.toNat).one ∧ k.dst = (nthT ts k.tst.toNat).two then some (-(nthT ts k.tst.toNat).lo) else none
theorem nthT_at {ts : List Kt} {i : Nat} {t : Kt} (h : ts[i]? = some t) : nthT ts i = t := by unfold nthT; rw [List.getD_eq_getElem?_getD, h]; rfl
section
variable {E : Nat} {ts : List Kt}
theorem worth_lks (h : Okb E ts) {k : Kl} {n : Int} : worthP E ts k = some n ↔ (k, n) ∈ lks E ts noq 0 := by
  unfold lks
  rw [List.mem_append, mem_lkT, mem_lkE]
  constructor
  · intro hw
    unfold worthP at hw
    split at hw
    · rename_i e
      obtain ⟨e1, e2, e3, e4⟩ := e
      cases hw
      refine .inr ⟨k.dst.toNat, by omega, .inl ?_⟩
      rw [show ((k.dst.toNat : Nat) : Int) = k.dst by omega, ← e1]
      cases k; simp_all
    · split at hw
      · rename_i e
        obtain ⟨e1, e2, e3, e4⟩ := e
        cases hw
        refine .inr ⟨k.src.toNat, by omega, .inr (.inl ?_)⟩
        rw [show ((k.src.toNat : Nat) : Int) = k.src by omega]
        cases k; simp_all
      · split at hw
        · cases hw
        · rename_i e
          have hlt : k.tst.toNat < ts.length := by omega
          have hn : ((k.tst.toNat : Nat) : Int) = k.tst := by omega
          have hg : ts[k.tst.toNat]? = some (nthT ts k.tst.toNat) := by unfold nthT; simp [hlt]
          refine .inl ⟨k.tst.toNat, _, hg, ?_⟩
          rw [Nat.zero_add, hn]
          split at hw
          · rename_i e2
            cases hw
            refine .inl ?_
            rw [← e2.1, ← e2.2]
          · split at hw
            · rename_i e3
              cases hw
              refine .inr ?_
              rw [← e3.1, ← e3.2]
            · cases hw
  · rintro (⟨j, t, h1, h2⟩ | ⟨v, hv, h1⟩)
    · have hlt : j < ts.length := (List.getElem?_eq_some_iff.1 h1).1
      obtain ⟨q1, q2, q3, q4, q5, _⟩ := h.tst t (List.mem_of_getElem? h1)
      have ht := nthT_at h1
      rw [Nat.zero_add] at h2
      rcases h2 with h2 | h2 <;> injection h2 with h2 h3 <;> subst h2 h3 <;> unfold worthP <;> dsimp only
      · rw [if_neg (by omega), if_neg (by omega), if_neg (by omega), show ((j : Int)).toNat = j by omega, ht, if_pos ⟨rfl, rfl⟩]
      · rw [if_neg (by omega), if_neg (by omega), if_neg (by omega), show ((j : Int)).toNat = j by omega, ht, if_neg (by omega), if_pos ⟨rfl, rfl⟩]
    · rcases h1 with h1 | h1 | ⟨h1, _⟩
      · injection h1 with h2 h3
        subst h2 h3
        unfold worthP; dsimp only
        rw [if_pos (by omega)]
      · injection h1 with h2 h3
        subst h2 h3
        unfold worthP; dsimp only
        rw [if_neg (by omega), if_pos (by omega)]
      · cases h1
/-- The worth of links that begin at a place, one after another; none: they are no chain. -/
def chk (E : Nat) (ts : List Kt) : Int → List Kl → Option Int
  | _, [] => some 0
  | at_, k :: l => match worthP E ts k with
    | none => none
    | some n => if k.src = at_ then (chk E ts k.dst l).map (n + ·) else none
theorem chk_of (h : Okb E ts) {l : List Kw} {a z w : Int} (hc : Ch E l a z w) (hl : ∀ k ∈ l, k ∈ lks E ts noq 0) : chk E ts a (l.map (·.1)) = some w := by
  induction hc with
  | one k ha hz hw => subst ha hz hw; simp [chk, (worth_lks h).2 (hl k (by simp))]
  | more k ha hy hc hw ih =>
    subst ha hy hw
    simp only [List.map_cons, chk, (worth_lks h).2 (hl k (by simp)), if_pos]
    rw [ih fun q hq => hl q (by simp [hq])]
    rfl
theorem of_chk (h : Okb E ts) : ∀ (c : List Kl) (a w : Int), c ≠ [] → chk E ts a c = some w → ∃ (l : List Kw) (z : Int), l.map (·.1) = c ∧ Ch E l a z w ∧ (∀ k ∈ l, k ∈ lks E ts noq 0) ∧ (∀ d : Kl, (c.getLast?.getD d).dst = z)
  | [], _, _, h0, _ => absurd rfl h0
  | k :: c, a, w, _, hw => by
    rw [chk] at hw
    cases hk : worthP E ts k with
    | none => rw [hk] at hw; cases hw
    | some n =>
      rw [hk] at hw
      dsimp only at hw
      split at hw
      · rename_i e
        subst e
        simp only [Option.map_eq_some_iff] at hw
        obtain ⟨w', h1, rfl⟩ := hw
        have hm := (worth_lks h).1 hk
        cases c with
        | nil =>
          simp only [chk, Option.some.injEq] at h1
          subst h1
          refine ⟨[(k, n)], k.dst, rfl, ?_, by simpa using hm, fun d => rfl⟩
          exact .one (k, n) rfl rfl (by omega)
        | cons k' c =>
          obtain ⟨l, z, h2, h3, h4, h5⟩ := of_chk h (k' :: c) k.dst w' (by simp) h1
          refine ⟨(k, n) :: l, z, by simp [h2], .more (k, n) rfl rfl h3 rfl, ?_, fun d => ?_⟩
          · intro q hq
            rcases List.mem_cons.1 hq with rfl | hq
            · exact hm
            · exact h4 q hq
          · rw [← h5 d]; simp
      · cases hw
/-- A circle. -/
structure Circ (E : Nat) (ts : List Kt) (c : List Kl) : Prop where
  ne : c ≠ []
  few : c.length ≤ 17
  chk : ∃ a w, w < 0 ∧ 0 ≤ a ∧ chk E ts a c = some w ∧ (∀ d : Kl, (c.head?.getD d).src = a) ∧ (∀ d : Kl, (c.getLast?.getD d).dst = a)
theorem Ch.head {l : List Kw} {a z w : Int} (h : Ch E l a z w) : ∀ d : Kl, ((l.map (fun x : Kw => x.1)).head?.getD d).src = a := by cases h <;> intro d <;> assumption
theorem Ch.last {l : List Kw} {a z w : Int} (h : Ch E l a z w) : ∀ d : Kl, ((l.map (fun x : Kw => x.1)).getLast?.getD d).dst = z := by
  induction h with
  | one k ha hz hw => intro d; exact hz
  | more k ha hy h hw ih =>
    intro d
    cases h with
    | one q => rw [← ih d]; simp
    | more q h' => rw [← ih d]; simp
theorem trail_drop {b : Nat → Option Kw} {v : Nat} (i : Nat) : ∀ d, (∀ m, m < i + d → b (back E b m v) ≠ none) → (trail E b (i + d) v).drop i = trail E b d (back E b i v) := by
  intro d
  induction d with
  | zero =>
    intro h
    have := trail_len (E := E) (b := b) (v := v) i (fun m hm => h m (by omega))
    rw [Nat.add_zero, List.drop_of_length_le (by omega)]; rfl
  | succ d ih =>
    intro h
    have hl := trail_len (E := E) (b := b) (v := v) (i + d) (fun m hm => h m (by omega))
    rw [← Nat.add_assoc, trail, trail, ← back_add, List.drop_append_of_le_length (by omega), ih fun m hm => h m (by omega)]
/-- What is found when a place comes twice. -/
theorem circ_raw (h : Okb E ts) {init : List Int} {r : Nat} {s : Sk} {last : Nat → Nat} (hi : Inv E (lks E ts noq 0) init r (lks E ts noq 0) s last) {v : Nat} {i d : Nat} (hd : 0 < d) (hs : ∀ m, m < i + d → s.by_ (back E s.by_ m v) ≠ none) (he : back E s.by_ (i + d) v = back E s.by_ i v) :
    ∃ a w, w < 0 ∧ raw E a ∧ Ch E ((trail E s.by_ (i + d) v).drop i).reverse a a w ∧ ∀ k ∈ ((trail E s.by_ (i + d) v).drop i).reverse, k ∈ lks E ts noq 0 := by
  have ht : 0 ≤ (0 : Int) ∧ (0 : Int) < E := ⟨by omega, by have := h.pos; omega⟩
  have hr : ∀ v k, s.by_ v = some k → raw E k.1.src ∧ raw E k.1.dst ∧ kdst E k = v := by
    intro v k hk
    have := hi.some_ v k hk
    have h2 := raw_lks h ht this.1
    exact ⟨h2.1, h2.2, this.2.1⟩
  obtain ⟨d, rfl⟩ : ∃ d', d = d' + 1 := ⟨d - 1, by omega⟩
  rw [trail_drop i (d + 1) hs]
  obtain ⟨a, z, w, h1, h2, h3, h4, h5, h6⟩ := trail_ch hr (v := back E s.by_ i v) d (fun m hm => by rw [← back_add]; exact hs (i + m) (by omega))
  rw [← back_add, he] at h2 h6
  have : a = z := raw_inj h4 h5 (by rw [h2, h3])
  subst this
  refine ⟨a, w, hi.neg _ _ w (by omega) h6, h4, h1, fun k hk => ?_⟩
  obtain ⟨x, hx⟩ := trail_mem _ (List.mem_reverse.1 hk)
  exact (hi.some_ x k hx).1
/-- Turned so that it begins with an edge. -/
def turnC (l : List Kl) : List Kl := match l with
  | [] => []
  | k :: t => if k.src < 0 then t ++ [k] else k :: t
theorem circ_of (h : Okb E ts) {l : List Kw} {a w : Int} (hw : w < 0) (ha : raw E a) (hc : Ch E l a a w) (hl : ∀ k ∈ l, k ∈ lks E ts noq 0) (hn : l.length ≤ 17) : Circ E ts (turnC (l.map (fun x : Kw => x.1))) ∧ (∀ k t, turnC (l.map (fun x : Kw => x.1)) = k :: t → 0 ≤ k.src) := by
  have hpos := h.pos
  have ht : 0 ≤ (0 : Int) ∧ (0 : Int) < E := ⟨by omega, by omega⟩
  rcases ha with rfl | ha
  · cases hc with
    | one k ha hz hw' =>
      exfalso
      have hk := hl k (by simp)
      unfold lks at hk
      rcases List.mem_append.1 hk with hk | hk
      · obtain ⟨j, t, h1, h2⟩ := (mem_lkT ts 0).1 hk
        obtain ⟨q1, q2, q3, q4, _⟩ := h.tst t (List.mem_of_getElem? h1)
        rcases h2 with rfl | rfl <;> dsimp only at ha hz <;> omega
      · obtain ⟨v, hv, h1⟩ := mem_lkE.1 hk
        rcases h1 with rfl | rfl | ⟨h1, rfl⟩
        · dsimp only at hz; omega
        · dsimp only at ha; omega
        · cases h1
    | more k ha hy hc' hw' =>
      rename_i l y w0
      have hk := hl k (by simp)
      have hy0 : 0 ≤ y := by
        rw [← hy]
        unfold lks at hk
        rcases List.mem_append.1 hk with hk | hk
        · obtain ⟨j, t, h1, h2⟩ := (mem_lkT ts 0).1 hk
          obtain ⟨q1, q2, q3, q4, _⟩ := h.tst t (List.mem_of_getElem? h1)
          rcases h2 with rfl | rfl <;> dsimp only <;> omega
        · obtain ⟨v, hv, h1⟩ := mem_lkE.1 hk
          rcases h1 with rfl | rfl | ⟨h1, rfl⟩
          · dsimp only; omega
          · dsimp only at ha; omega
          · cases h1
      have hc2 : Ch E (l ++ [k]) y y w := by
        have := hc'.app (.one k ha hy rfl)
        rwa [show w0 + k.2 = w by omega] at this
      have hl2 : ∀ q ∈ l ++ [k], q ∈ lks E ts noq 0 := fun q hq => hl q (by
        rcases List.mem_append.1 hq with hq | hq
        · simp [hq]
        · have : q = k := by simpa using hq
          subst this; simp)
      have e : turnC ((k :: l).map (fun x : Kw => x.1)) = (l ++ [k]).map (fun x : Kw => x.1) := by
        simp only [List.map_cons, turnC]
        rw [if_pos (by omega)]
        simp
      rw [e]
      refine ⟨⟨by simp, by simpa using hn, y, w, hw, hy0, chk_of h hc2 hl2, hc2.head, hc2.last⟩, fun q t hq => ?_⟩
      have := hc2.head q
      rw [hq] at this
      simp at this
      omega
  · have e : turnC (l.map (fun x : Kw => x.1)) = l.map (fun x : Kw => x.1) := by
      have h1 := hc.head
      cases l with
      | nil => rfl
      | cons k l =>
        have := h1 k.1
        simp only [List.map_cons, List.head?_cons, Option.getD_some] at this
        simp only [List.map_cons, turnC]
        rw [if_neg (by omega)]
    rw [e]
    refine ⟨⟨by simpa using hc.ne, by simpa using hn, a, w, hw, ha.1, chk_of h hc hl, hc.head, hc.last⟩, fun q t hq => ?_⟩
    have := hc.head q
    rw [hq] at this
    simp at this
    omega
/-- No circle where nothing is contradicted. -/
theorem circ_no (h : Okb E ts) {c : List Kl} (hc : Circ E ts c) : ¬ Agr E ts := by
  intro ha
  obtain ⟨a, w, h1, h2, h3, h4, h5⟩ := hc.chk
  obtain ⟨l, z, e1, e2, e3, e4⟩ := of_chk h c a w hc.ne h3
  have hz : z = a := by rw [← e4 ⟨0, 0, 0⟩, h5]
  subst hz
  have := e2.pot (pot_of h (D_pot h ha (Nat.le_refl E))) e3
  omega
/-- A chain tells no more than the table. -/
theorem chk_pot (h : Okb E ts) {p : Nat → Int} (hp : PotB E ts p) {c : List Kl} {a w : Int} (hne : c ≠ []) (hc : chk E ts a c = some w) (d : Kl) : p (pl E (c.getLast?.getD d).dst) ≤ p (pl E a) + w := by
  obtain ⟨l, z, e1, e2, e3, e4⟩ := of_chk h c a w hne hc
  rw [e4 d]
  exact e2.pot (pot_of h hp) e3
/-- The chain to an edge. -/
theorem way_ok (h : Okb E ts) (ha : Agr E ts) {v : Nat} (hv : v ≤ E) {x : Nat} (hx : x ≤ E) (hne : x ≠ v) {m : Nat} (hm : (fromS E ts v).by_ (back E (fromS E ts v).by_ m x) = none) (hs : ∀ i, i < m → (fromS E ts v).by_ (back E (fromS E ts v).by_ i x) ≠ none) :
    ∃ a z, pl E a = v ∧ pl E z = x ∧ raw E a ∧ raw E z ∧ Ch E (trail E (fromS E ts v).by_ m x).reverse a z (D E ts v x) ∧ ∀ k ∈ (trail E (fromS E ts v).by_ m x).reverse, k ∈ lks E ts noq 0 := by
  have ht : 0 ≤ (0 : Int) ∧ (0 : Int) < E := ⟨by omega, by have := h.pos; omega⟩
  have hd := (from_ok h ha hv).2
  have hL := okl0 h (fromL_len v)
  have hby : ∀ v' k, (fromS E ts v).by_ v' = some k → ksrc E k ≤ E := fun v' k hk => (hL.2 k (hd.some_ v' k hk).1).1
  have hr : ∀ v' k, (fromS E ts v).by_ v' = some k → raw E k.1.src ∧ raw E k.1.dst ∧ kdst E k = v' := by
    intro v' k hk
    have := hd.some_ v' k hk
    have h2 := raw_lks h ht this.1
    exact ⟨h2.1, h2.2, this.2.1⟩
  have hend := from_none h ha hv (back_lt hby hx m) hm
  have hmem : ∀ k ∈ (trail E (fromS E ts v).by_ m x).reverse, k ∈ lks E ts noq 0 := by
    intro k hk
    obtain ⟨y, hy⟩ := trail_mem _ (List.mem_reverse.1 hk)
    exact (hd.some_ y k hy).1
  cases m with
  | zero => exact absurd hend hne
  | succ m =>
    obtain ⟨a, z, w, h1, h2, h3, h4, h5, h6⟩ := trail_ch hr m hs
    rw [hend] at h2 h6
    have hF : ∀ y, y ≤ E → nthI (fromS E ts v).most y = D E ts v y := fun y hy => from_eq h ha hv hy
    have a1 := wk_ge (p := nthI (fromS E ts v).most) (fun v' k hk => (hd.some_ v' k hk).2.2.1) _ _ _ _ h6
    have a2 := wk_le (p := D E ts v) (fun v' k hk => by
      have := (hd.some_ v' k hk)
      have h3 := pot_of h (D_pot h ha hv) k this.1
      rw [this.2.1] at h3
      exact h3) _ _ _ _ h6
    rw [from_self h ha hv, hF x hx] at a1
    have := D_self h ha hv
    have : w = D E ts v x := by omega
    subst this
    exact ⟨a, z, h2, h3, h4, h5, h1, hmem⟩
end
end Kp
end Go.Proofs.Ytkljdbgkhghiaaa

namespace Go.Proofs.Ytkljdbgkhghiaaa
namespace Kp
/-- A truth. -/
structure Tru (E : Nat) (ts : List Kt) (l : List Int) : Prop where
  len : l.length = E
  rng : ∀ v, v < E → 0 ≤ nthI l v ∧ nthI l v ≤ 1000
  tst : ∀ t ∈ ts, t.lo ≤ nthI l t.one.toNat - nthI l t.two.toNat ∧ nthI l t.one.toNat - nthI l t.two.toNat ≤ t.hi
section
variable {E : Nat} {ts : List Kt}
def ofT (E : Nat) (l : List Int) (v : Nat) : Int := if v < E then nthI l v else 0
theorem Tru.pot (h : Okb E ts) {l : List Int} (ht : Tru E ts l) : PotB E ts (ofT E l) := by
  refine ⟨fun t hm => ?_, fun v hv => ?_⟩
  · obtain ⟨q1, q2, q3, q4, _⟩ := h.tst t hm
    have := ht.tst t hm
    unfold ofT
    rw [if_pos (by omega), if_pos (by omega)]
    omega
  · have := ht.rng v hv
    unfold ofT
    rw [if_pos hv, if_neg (by omega)]
    omega
theorem pot_tru (h : Okb E ts) {p : Nat → Int} (hp : PotB E ts p) (h0 : p E = 0) {l : List Int} (hl : l.length = E) (he : ∀ v, v < E → nthI l v = p v) : Tru E ts l := by
  refine ⟨hl, fun v hv => ?_, fun t hm => ?_⟩
  · have := hp.edge v hv
    rw [he v hv]; omega
  · obtain ⟨q1, q2, q3, q4, _⟩ := h.tst t hm
    have := hp.tst t hm
    rw [he _ (by omega), he _ (by omega)]
    omega
theorem PotB.min {p q : Nat → Int} (hp : PotB E ts p) (hq : PotB E ts q) : PotB E ts fun v => min (p v) (q v) := by
  refine ⟨fun t hm => ?_, fun v hv => ?_⟩
  · have := hp.tst t hm
    have := hq.tst t hm
    try dsimp only
    omega
  · have := hp.edge v hv
    have := hq.edge v hv
    try dsimp only
    omega
theorem PotB.add {p : Nat → Int} (hp : PotB E ts p) (c : Int) : PotB E ts fun v => p v + c := by
  refine ⟨fun t hm => ?_, fun v hv => ?_⟩
  · have := hp.tst t hm
    try dsimp only
    omega
  · have := hp.edge v hv
    try dsimp only
    omega
theorem least_tru (h : Okb E ts) (ha : Agr E ts) {l : List Int} (hl : l.length = E) (he : ∀ v, v < E → nthI l v = -D E ts v E) : Tru E ts l := by
  have hE := Nat.le_refl E
  refine ⟨hl, fun v hv => ?_, fun t hm => ?_⟩
  · have a := D_edge h hv
    have b := D_rng h ha (show v ≤ E by omega) hE
    rw [he v hv]; omega
  · obtain ⟨q1, q2, q3, q4, _⟩ := h.tst t hm
    have a := D_tst h hm
    have b := D_tri h ha (show t.one.toNat ≤ E by omega) (show t.two.toNat ≤ E by omega) hE
    have c := D_tri h ha (show t.two.toNat ≤ E by omega) (show t.one.toNat ≤ E by omega) hE
    rw [he _ (by omega), he _ (by omega)]
    omega
/-- The truth that reaches the greatest difference. -/
def reachP (E : Nat) (ts : List Kt) (two v : Nat) : Int := min (-D E ts two E + D E ts two v) (D E ts E v)
theorem reach_tru (h : Okb E ts) (ha : Agr E ts) {two : Nat} (h2 : two < E) {l : List Int} (hl : l.length = E) (he : ∀ v, v < E → nthI l v = reachP E ts two v) : Tru E ts l ∧ ∀ one, one < E → nthI l one - nthI l two = D E ts two one := by
  have hE := Nat.le_refl E
  have ht : two ≤ E := by omega
  have hp : PotB E ts (reachP E ts two) := by
    have := ((D_pot h ha ht).add (-D E ts two E)).min (D_pot h ha hE)
    refine ⟨fun t hm => ?_, fun v hv => ?_⟩
    · have := this.tst t hm
      unfold reachP
      omega
    · have := this.edge v hv
      unfold reachP
      omega
  refine ⟨pot_tru h hp ?_ hl he, fun one h1 => ?_⟩
  · unfold reachP
    rw [D_self h ha hE]; omega
  · rw [he one h1, he two h2]
    unfold reachP
    rw [D_self h ha ht]
    have a := D_tri h ha hE ht hE
    have b := D_tri h ha hE ht (show one ≤ E by omega)
    have c := D_tri h ha ht hE (show one ≤ E by omega)
    have d := D_tri h ha ht hE ht
    rw [D_self h ha hE] at a
    rw [D_self h ha ht] at d
    omega
/-- The tests that no other edge is sharper. -/
def mayT (E v : Nat) : Nat → List Kt
  | 0 => []
  | u + 1 => if u = v then mayT E v u else mayT E v u ++ [⟨v, u, 0, 1000⟩]
theorem mem_mayT {v : Nat} {t : Kt} : ∀ n, t ∈ mayT E v n ↔ ∃ u, u < n ∧ u ≠ v ∧ t = ⟨v, u, 0, 1000⟩ := by
  intro n
  induction n with
  | zero => simp [mayT]
  | succ n ih =>
    unfold mayT
    split
    · rename_i e
      subst e
      rw [ih]
      constructor
      · rintro ⟨u, h1, h2⟩; exact ⟨u, by omega, h2⟩
      · rintro ⟨u, h1, h2, h3⟩; exact ⟨u, by omega, h2, h3⟩
    · rename_i e
      rw [List.mem_append, ih, List.mem_singleton]
      constructor
      · rintro (⟨u, h1, h2⟩ | rfl)
        · exact ⟨u, by omega, h2⟩
        · exact ⟨n, by omega, e, rfl⟩
      · rintro ⟨u, h1, h2, h3⟩
        rcases Nat.lt_or_eq_of_le (Nat.le_of_lt_succ h1) with h4 | h4
        · exact .inl ⟨u, h4, h2, h3⟩
        · subst h4; exact .inr h3
theorem okb_may (h : Okb E ts) {v : Nat} (hv : v < E) (n : Nat) (hn : n ≤ E) : Okb E (ts ++ mayT E v n) := by
  refine ⟨h.pos, h.few, fun t ht => ?_⟩
  rcases List.mem_append.1 ht with ht | ht
  · exact h.tst t ht
  · obtain ⟨u, h1, h2, rfl⟩ := (mem_mayT n).1 ht
    try dsimp only
    omega
/-- An edge can be the sharpest: both ways of asking are one. -/
theorem may_iff (h : Okb E ts) {v : Nat} (hv : v < E) (z : Int) : (relaxK E (lks E ts (fun u => decide (u ≠ v)) v) (E + 2) z (sk0 (List.replicate 17 0))).1 = -1 ↔ Agr E (ts ++ mayT E v E) := by
  have hE := h.few
  rw [relax_iff (okl h ⟨by omega, by omega⟩ (by simp)) z (fun x hx => by rw [nthI_rep (by omega)]; unfold far; omega), agr_iff (okb_may h hv E (Nat.le_refl E))]
  constructor
  · rintro ⟨p, hp⟩
    obtain ⟨h1, h2⟩ := (pot_iff h (by omega)).1 hp
    refine ⟨p, ⟨fun t ht => ?_, h1.edge⟩⟩
    rcases List.mem_append.1 ht with ht | ht
    · exact h1.tst t ht
    · obtain ⟨u, h3, h4, rfl⟩ := (mem_mayT E).1 ht
      have a := h2 u h3 (by simpa using h4)
      have b := h1.edge v hv
      have c := h1.edge u h3
      simp only [Int.toNat_natCast] at a ⊢
      omega
  · rintro ⟨p, hp⟩
    refine ⟨p, (pot_iff h (by omega)).2 ⟨⟨fun t ht => hp.tst t (by simp [ht]), hp.edge⟩, fun u hu hq => ?_⟩⟩
    have := hp.tst ⟨v, u, 0, 1000⟩ (List.mem_append.2 (.inr ((mem_mayT E).2 ⟨u, hu, by simpa using hq, rfl⟩)))
    simp only [Int.toNat_natCast] at this ⊢
    omega
/-- Tests agree still with another one just if its span and what is known meet. -/
theorem tells_iff (h : Okb E ts) (ha : Agr E ts) {t : Kt} (ht : Okb E (ts ++ [t])) : Agr E (ts ++ [t]) ↔ -D E ts t.one.toNat t.two.toNat ≤ t.hi ∧ t.lo ≤ D E ts t.two.toNat t.one.toNat := by
  obtain ⟨q1, q2, q3, q4, q5, q6, q7, q8⟩ := ht.tst t (by simp)
  have o1 : t.one.toNat ≤ E := by omega
  have o2 : t.two.toNat ≤ E := by omega
  rw [agr_iff ht]
  constructor
  · rintro ⟨p, hp⟩
    have hp' : PotB E ts p := ⟨fun q hq => hp.tst q (by simp [hq]), hp.edge⟩
    have a := D_ge h hp' o1 o2
    have b := D_ge h hp' o2 o1
    have c := hp.tst t (by simp)
    omega
  · rintro ⟨h1, h2⟩
    -- p: the least row from One, lifted to c, and the row from Two
    have hs := D_tri h ha o1 o2 o1
    rw [D_self h ha o1] at hs
    obtain ⟨c, c1, c2, c3, c4⟩ : ∃ c : Int, -D E ts t.one.toNat t.two.toNat ≤ c ∧ c ≤ D E ts t.two.toNat t.one.toNat ∧ t.lo ≤ c ∧ c ≤ t.hi :=
      ⟨max t.lo (-D E ts t.one.toNat t.two.toNat), by omega, by omega, by omega, by omega⟩
    have hp := ((D_pot h ha o1).add c).min (D_pot h ha o2)
    refine ⟨_, ⟨fun q hq => ?_, hp.edge⟩⟩
    rcases List.mem_append.1 hq with hq | hq
    · exact hp.tst q hq
    · have : q = t := by simpa using hq
      subst this
      try dsimp only
      rw [D_self h ha o1, D_self h ha o2]
      omega
end
end Kp
end Go.Proofs.Ytkljdbgkhghiaaa

namespace Go.Proofs.Ytkljdbgkhghiaaa
open Go.RowKit Kp

theorem belowN {B : Nat} {a w : World} (h : Below B a w) (n : Nat) : Below B a (w.drewN n) := ⟨h.os, h.tape, h.output, h.size, h.block⟩

/-- What lies below block B stays: shown by the text of the world. -/
theorem bel_of {B : Nat} {w W : World} (h : Below B w W := by (repeat (first | with_reducible assumption | with_reducible exact Below.refl _ _ | (with_reducible refine Below.setCell ?_ (by first | omega | (simp; omega) | (simp; done)) _) | (with_reducible refine Below.alloc ?_ (by first | omega | (simp; omega) | (simp; done)) _) | (with_reducible refine Below.drew ?_) | (with_reducible refine belowN ?_ _) | assumption | exact Below.refl _ _ | (refine Below.alloc ?_ (by first | omega | (simp; omega) | (simp; done)) _) | (refine Below.drew ?_) | (refine belowN ?_ _) | (refine Below.setCell ?_ (by first | omega | (simp; omega) | (simp; done)) _)))) : Below B w W := h

/-- Behind a contract that makes memory: what lay reads as it did. -/
theorem Below.rules {W w1 : World} (hb : Below W.heap.size W w1) : (∀ b o, b < W.heap.size → w1.cell? ⟨b, o, none⟩ = W.cell? ⟨b, o, none⟩) ∧ (∀ b o, b < W.heap.size → w1.frozen? ⟨b, o, none⟩ = W.frozen? ⟨b, o, none⟩) :=
  ⟨fun b o h => hb.cell (p := ⟨b, o, none⟩) h, fun b o h => hb.frozen (p := ⟨b, o, none⟩) h⟩

/-- The slice value v, of n elements of sz cells each, reads as the cells cs; its row lies below block B. -/
def RS (w : World) (B sz : Nat) (v : Value) (n : Nat) (cs : List Value) : Prop :=
  ∃ A cap b off, v = .slice A n cap ∧ (cs.length = n * sz ∧ n ≤ cap) ∧ (n ≠ 0 → A = some ⟨b, off, none⟩ ∧ b < B) ∧ ∀ j, j < cs.length → w.cell? ⟨b, off + j, none⟩ = cs[j]?

theorem RS.keep {w w' : World} {B sz : Nat} {v : Value} {n : Nat} {cs : List Value} (h : RS w B sz v n cs) (hk : ∀ p : Addr, p.block < B → w'.cell? p = w.cell? p) : RS w' B sz v n cs := by
  obtain ⟨A, cap, b, off, hv, hl, hA, hc⟩ := h
  refine ⟨A, cap, b, off, hv, hl, hA, fun j hj => ?_⟩
  have hn : n ≠ 0 := by rintro rfl; simp at hl; rw [hl] at hj; simp at hj
  rw [hk _ (hA hn).2]; exact hc j hj
theorem RS.more {w : World} {B B' sz : Nat} {v : Value} {n : Nat} {cs : List Value} (h : RS w B sz v n cs) (hB : B ≤ B') : RS w B' sz v n cs := by
  obtain ⟨A, cap, b, off, hv, hl, hA, hc⟩ := h
  exact ⟨A, cap, b, off, hv, hl, fun hn => ⟨(hA hn).1, Nat.lt_of_lt_of_le (hA hn).2 hB⟩, hc⟩
theorem RS.below {w w' : World} {B sz : Nat} {v : Value} {n : Nat} {cs : List Value} (h : RS w B sz v n cs) (hb : Below B w w') : RS w' B sz v n cs :=
  h.keep fun _ hp => hb.cell hp
theorem RS.of_own {w : World} {base e sz : Nat} {v : Value} {n : Nat} {cs : List Value} (h : w.ownsRow base e sz v n cs) : RS w w.heap.size sz v n cs := by
  obtain ⟨hl, h2⟩ := h
  rcases h2 with ⟨rfl, rfl⟩ | ⟨g, cap, cur, rfl, _, hg, hcp, _, _, ht⟩
  · exact ⟨none, 0, 0, 0, rfl, ⟨hl, Nat.le_refl _⟩, fun h => absurd rfl h, fun j hj => by simp at hl; subst hl; simp at hj⟩
  · refine ⟨_, cap, g, 0, rfl, ⟨hl, hcp⟩, fun _ => ⟨rfl, (Array.getElem?_eq_some_iff.1 hg).1⟩, fun j hj => ?_⟩
    rw [Nat.zero_add, cell_of_row w g j cur e (0, 0) hg, ← ht, List.getElem?_take_of_lt (by omega)]
    simp

theorem RS.cap {w : World} {B sz : Nat} {A : Option Addr} {n n' c : Nat} {cs : List Value} (h : RS w B sz (.slice A n c) n' cs) : n = n' ∧ n ≤ c := by
  obtain ⟨A', cap, b, off, hv, hl, hA, hc⟩ := h
  injection hv with h1 h2 h3
  omega
/-- A block of cells, known whole. -/
def BK (W : World) (g : Nat) (cs : Array Value) (t : TypeId) : Prop := W.heap[g]? = some (.cells cs t (0, 0))
section
variable {W W' : World} {g : Nat} {cs : Array Value} {t : TypeId}
theorem BK.lt (h : BK W g cs t) : g < W.heap.size := (Array.getElem?_eq_some_iff.1 h).1
theorem BK.cell (h : BK W g cs t) (i : Nat) : W.cell? ⟨g, i, none⟩ = cs[i]? := cell_of_row W g i cs t (0, 0) h
theorem BK.frozen (h : BK W g cs t) (i : Nat) : W.frozen? ⟨g, i, none⟩ = false := by unfold BK at h; simp [World.frozen?, h]
theorem BK.new (W : World) (cs : Array Value) (t : TypeId) : BK (W.alloc (.cells cs t)) W.heap.size cs t := heap_alloc_new W _
theorem BK.new' (W : World) (cs : Array Value) (t : TypeId) (n : Nat) (hn : W.heap.size = n) : BK (W.alloc (.cells cs t)) n cs t := by subst hn; exact heap_alloc_new W _
theorem BK.alloc (h : BK W g cs t) (o : Obj) : BK (W.alloc o) g cs t := (Below.heap_alloc W o g h.lt).trans h
theorem BK.drew (h : BK W g cs t) : BK W.drew g cs t := h
theorem BK.drewN (h : BK W g cs t) (n : Nat) : BK (W.drewN n) g cs t := h
theorem BK.below {B : Nat} (h : BK W g cs t) (hb : Below B W W') (hg : g < B) : BK W' g cs t := (hb.block g hg).trans h
theorem BK.far (h : BK W g cs t) {p : Addr} (hp : g ≠ p.block) (u : Value) : BK (W.setCell p u) g cs t := (Below.heap_setCell W p u g hp).trans h
theorem BK.set (h : BK W g cs t) (i : Nat) (u : Value) : BK (W.setCell ⟨g, i, none⟩ u) g (cs.setIfInBounds i u) t := by
  unfold BK at h ⊢
  simp [World.setCell, Array.getElem?_modify, h]
theorem BK.grown {row : Option Nat} (h : BK W g cs t) (hb : W.grownBy W' row) (hg : some g ≠ row) : BK W' g cs t := (hb.block g h.lt hg).trans h
end

def ofI (l : List Int) : List Value := l.map (.int .i64)
def RI (w : World) (B : Nat) (v : Value) (l : List Int) : Prop := RS w B 1 v l.length (ofI l)
theorem RI.cells {w : World} {B : Nat} {v : Value} {l : List Int} (h : RI w B v l) : ∃ A cap b off, v = .slice A l.length cap ∧ (l.length ≠ 0 → A = some ⟨b, off, none⟩ ∧ b < B) ∧
    ∀ k, k < l.length → w.cell? ⟨b, off + k, none⟩ = some (.int .i64 (nthI l k)) := by
  obtain ⟨A, cap, b, off, hv, hl, hA, hc⟩ := h
  refine ⟨A, cap, b, off, hv, hA, fun k hk => ?_⟩
  rw [hc k (by simpa [ofI] using hk)]
  simp [ofI, nthI, hk]


/-- Structs of so many cells, one after another. -/
def ofG {α : Type} (enc : α → List Value) (l : List α) : List Value := l.flatMap enc
theorem ofG_length {α : Type} {enc : α → List Value} {s : Nat} (he : ∀ x, (enc x).length = s) (l : List α) : (ofG enc l).length = l.length * s := by
  induction l with
  | nil => simp [ofG]
  | cons a t ih =>
    have := he a
    simp only [ofG, List.flatMap_cons, List.length_append, List.length_cons, Nat.succ_mul] at *
    omega
theorem ofG_at {α : Type} {enc : α → List Value} {s : Nat} (he : ∀ x, (enc x).length = s) : ∀ (l : List α) (k j : Nat) (x : α), l[k]? = some x → j < s → (ofG enc l)[k * s + j]? = (enc x)[j]?
  | [], k, j, x, h, _ => by simp at h
  | a :: t, 0, j, x, h, hj => by
    have ha := he a
    simp only [List.getElem?_cons_zero, Option.some.injEq] at h
    subst h
    simp only [ofG, List.flatMap_cons, Nat.zero_mul, Nat.zero_add]
    rw [List.getElem?_append_left (by omega)]
  | a :: t, k + 1, j, x, h, hj => by
    have ha := he a
    have ih := ofG_at he t k j x (by simpa using h) hj
    simp only [ofG, List.flatMap_cons] at ih ⊢
    rw [List.getElem?_append_right (by rw [ha, Nat.succ_mul]; omega), ha, show (k + 1) * s + j - s = k * s + j by rw [Nat.succ_mul]; omega]
    exact ih
theorem ofG_app {α : Type} (enc : α → List Value) (l : List α) (x : α) : ofG enc l ++ enc x = ofG enc (l ++ [x]) := by simp [ofG]
/-- A list of tests; of links. -/
def encT (t : Kt) : List Value := [.int .i64 t.one, .int .i64 t.two, .int .i64 t.lo, .int .i64 t.hi]
def encL (k : Kl) : List Value := [.int .i64 k.src, .int .i64 k.dst, .int .i64 k.tst]
theorem encT_len (t : Kt) : (encT t).length = 4 := rfl
theorem encL_len (k : Kl) : (encL k).length = 3 := rfl
def RT (w : World) (B : Nat) (v : Value) (l : List Kt) : Prop := RS w B 4 v l.length (ofG encT l)
def RL (w : World) (B : Nat) (v : Value) (l : List Kl) : Prop := RS w B 3 v l.length (ofG encL l)
def nthL (l : List Kl) (i : Nat) : Kl := l.getD i ⟨0, 0, 0⟩
theorem RT.cells {w : World} {B : Nat} {v : Value} {l : List Kt} (h : RT w B v l) : ∃ A cap b off, v = .slice A l.length cap ∧ (l.length ≠ 0 → A = some ⟨b, off, none⟩ ∧ b < B) ∧
    ∀ k, k < l.length → w.cell? ⟨b, off + k * 4, none⟩ = some (.int .i64 (nthT l k).one) ∧ w.cell? ⟨b, off + k * 4 + 1, none⟩ = some (.int .i64 (nthT l k).two) ∧ w.cell? ⟨b, off + k * 4 + 2, none⟩ = some (.int .i64 (nthT l k).lo) ∧ w.cell? ⟨b, off + k * 4 + 3, none⟩ = some (.int .i64 (nthT l k).hi) := by
  obtain ⟨A, cap, b, off, hv, hl, hA, hc⟩ := h
  refine ⟨A, cap, b, off, hv, hA, fun k hk => ?_⟩
  have hg : l[k]? = some (nthT l k) := by unfold nthT; simp [hk]
  have h0 := fun j hj => ofG_at encT_len l k j _ hg hj
  have hlen := ofG_length encT_len l
  have e0 := h0 0 (by omega); have e1 := h0 1 (by omega); have e2 := h0 2 (by omega); have e3 := h0 3 (by omega)
  rw [Nat.add_zero] at e0
  rw [hc (k * 4) (by omega), Nat.add_assoc, hc (k * 4 + 1) (by omega), Nat.add_assoc, hc (k * 4 + 2) (by omega), Nat.add_assoc, hc (k * 4 + 3) (by omega)]
  exact ⟨e0, e1, e2, e3⟩
theorem RL.cells {w : World} {B : Nat} {v : Value} {l : List Kl} (h : RL w B v l) : ∃ A cap b off, v = .slice A l.length cap ∧ (l.length ≠ 0 → A = some ⟨b, off, none⟩ ∧ b < B) ∧
    ∀ k, k < l.length → w.cell? ⟨b, off + k * 3, none⟩ = some (.int .i64 (nthL l k).src) ∧ w.cell? ⟨b, off + k * 3 + 1, none⟩ = some (.int .i64 (nthL l k).dst) ∧ w.cell? ⟨b, off + k * 3 + 2, none⟩ = some (.int .i64 (nthL l k).tst) := by
  obtain ⟨A, cap, b, off, hv, hl, hA, hc⟩ := h
  refine ⟨A, cap, b, off, hv, hA, fun k hk => ?_⟩
  have hg : l[k]? = some (nthL l k) := by unfold nthL; simp [hk]
  have h0 := fun j hj => ofG_at encL_len l k j _ hg hj
  have hlen := ofG_length encL_len l
  have e0 := h0 0 (by omega); have e1 := h0 1 (by omega); have e2 := h0 2 (by omega)
  rw [Nat.add_zero] at e0
  rw [hc (k * 3) (by omega), Nat.add_assoc, hc (k * 3 + 1) (by omega), Nat.add_assoc, hc (k * 3 + 2) (by omega)]
  exact ⟨e0, e1, e2⟩
end Go.Proofs.Ytkljdbgkhghiaaa

namespace Go.Proofs.Ytkljdbgkhghiaaa
open Go.RowKit

def inB (lo hi n : Int) : Bool := decide (lo ≤ n) && decide (n ≤ hi)
theorem inB_iff (lo hi n : Int) : inB lo hi n = true ↔ lo ≤ n ∧ n ≤ hi := by simp [inB]

theorem inB_not (lo hi n : Int) : (!inB lo hi n) = (decide (n < lo) || decide (hi < n)) := by
  by_cases h : lo ≤ n <;> by_cases h2 : n ≤ hi <;> simp [inB, h, h2] <;> omega

theorem within1_any (n lo hi : Int) (a b : Addr) (w : World) (h1 : w.cell? a = some (.int .i64 lo)) (h2 : w.cell? b = some (.int .i64 hi)) :
    Calls Try.prog 81 #[.int .i64 n, .pointer (some a), .pointer (some b)] w fun e w' => e = .returned (.bool (!inB lo hi n)) ∧ w = w' := by
  go_enter Try.func81, Try.ntmps81
  go_wp2
  all_goals (go_ret; refine ⟨?_, rfl⟩; rw [inB_not]; simp [*])

def idxOut (lo hi : Int) (l : List Int) : Nat → Option Nat
  | 0 => none
  | k + 1 => match idxOut lo hi l k with
    | some i => some i
    | none => if inB lo hi (nthI l k) then none else some k

theorem indexFunc_any (lo hi : Int) (l : List Int) (v : Value) (B : Nat) (a b : Addr) (w : World) (hl : l.length ≤ 1000) (h : RI w B v l) (h1 : w.cell? a = some (.int .i64 lo)) (h2 : w.cell? b = some (.int .i64 hi)) :
    Calls Try.prog 84 #[v, .func (.func 81) #[] #[.pointer (some a), .pointer (some b)]] w fun e w' =>
      (∃ r : Int, e = .returned (.int .i64 r) ∧ (0 ≤ r ↔ ¬ ∀ k, k < l.length → inB lo hi (nthI l k) = true)) ∧ w = w' := by
  obtain ⟨A, cap, bb, off, rfl, hA, hc⟩ := h.cells
  go_enter Try.func84, Try.ntmps84
  go_wp2_with fail
  go_loop [8] (fun i => ∃ k : Nat, k ≤ l.length ∧ i = .int .i64 k ∧ ∀ j, j < k → inB lo hi (nthI l j) = true) (fun i => l.length - (intOf i).toNat)
  case atStart => exact ⟨0, Nat.zero_le _, rfl, fun j hj => absurd hj (by omega)⟩
  case round =>
    obtain ⟨k, hk, rfl, hall⟩ := hrel
    have HA := Lib.hid hall; clear hall
    by_cases hlt : k < l.length
    · obtain ⟨rfl, hb⟩ := hA (by omega)
      have hck := hc k hlt
      clear hc
      by_cases hin : inB lo hi (nthI l k) = true
      · go_wp2_with (go_at_call 81; refine (within1_any _ _ _ _ _ _ h1 h2).mono ?_; rintro e w' ⟨rfl, rfl⟩)
        go_round
        case rel => exact ⟨k + 1, by omega, by go_num, fun j hj => by
          rcases Nat.lt_succ_iff_lt_or_eq.1 hj with h | rfl
          · exact HA.out j h
          · exact hin⟩
        case measure => simp [intOf]; omega
      · go_wp2_with (go_at_call 81; refine (within1_any _ _ _ _ _ _ h1 h2).mono ?_; rintro e w' ⟨rfl, rfl⟩)
        go_ret
        exact ⟨⟨k, rfl, by simp; exact ⟨k, hlt, by simpa using hin⟩⟩, rfl⟩
    · go_wp2
      go_ret
      refine ⟨⟨-1, rfl, ?_⟩, rfl⟩
      simp
      intro j hj; exact HA.out j (by omega)

theorem bnot_inj {a b : Bool} (h : (!a) = b) : a = !b := by cases a <;> cases b <;> simp_all

def allIn (lo hi : Int) (l : List Int) : Bool := l.all (inB lo hi)
theorem allIn_iff (lo hi : Int) (l : List Int) : allIn lo hi l = true ↔ ∀ k, k < l.length → inB lo hi (nthI l k) = true := by
  unfold allIn
  rw [List.all_eq_true]
  constructor
  · intro h k hk
    exact h _ (by unfold nthI; rw [List.getD_eq_getElem?_getD, List.getElem?_eq_getElem hk]; exact List.getElem_mem hk)
  · intro h x hx
    obtain ⟨k, hk, rfl⟩ := List.mem_iff_getElem.1 hx
    have := h k hk
    unfold nthI at this; rw [List.getD_eq_getElem?_getD, List.getElem?_eq_getElem hk] at this; exact this

theorem containsFunc_any (lo hi : Int) (l : List Int) (v : Value) (B : Nat) (a b : Addr) (w : World) (hl : l.length ≤ 1000) (h : RI w B v l) (h1 : w.cell? a = some (.int .i64 lo)) (h2 : w.cell? b = some (.int .i64 hi)) :
    Calls Try.prog 80 #[v, .func (.func 81) #[] #[.pointer (some a), .pointer (some b)]] w fun e w' =>
      e = .returned (.bool (!allIn lo hi l)) ∧ w = w' := by
  go_enter Try.func80, Try.ntmps80
  go_wp2_with (go_at_call 84; refine (indexFunc_any lo hi l _ B a b _ hl h h1 h2).mono ?_; rintro e w' ⟨⟨r, rfl, hr⟩, rfl⟩; have Hr := Lib.hid hr; clear hr)
  go_ret
  refine ⟨?_, rfl⟩
  have : decide (0 ≤ r) = !allIn lo hi l := by rw [Bool.eq_iff_iff]; simp [Hr.out, ← Bool.not_eq_true, allIn_iff]
  show Ending.returned (.bool (decide (0 ≤ r))) = _
  rw [this]

theorem within_any (lo hi : Int) (l : List Int) (v : Value) (B : Nat) (w : World) (hB : B ≤ w.heap.size) (hl : l.length ≤ 1000) (h : RI w B v l) :
    Calls Try.prog 71 #[.int .i64 lo, .int .i64 hi, v] w fun e w' =>
      e = .returned (.bool (allIn lo hi l)) ∧ (w.alloc (.cells #[.int .i64 lo] 2)).alloc (.cells #[.int .i64 hi] 2) = w' := by
  have h' : RI ((w.alloc (.cells #[.int .i64 lo] 2)).alloc (.cells #[.int .i64 hi] 2)) B v l := h.keep fun p hp => by
    rw [World.cell?_alloc_lt _ _ _ (by simp; omega), World.cell?_alloc_lt _ _ _ (by omega)]
  go_enter Try.func71, Try.ntmps71
  go_wp2_with fail
  refine (containsFunc_any lo hi l _ B ⟨w.heap.size, 0, none⟩ ⟨w.heap.size + 1, 0, none⟩ _ hl h' (by simp) (by simp)).mono ?_
  rintro e w' ⟨rfl, rfl⟩
  go_wp2
  go_ret
  exact ⟨by simp, rfl⟩
theorem within_1 (lo hi x : Int) (w : World) (n : Nat) (hn : w.heap.size = n) :
    Calls Try.prog 71 #[.int .i64 lo, .int .i64 hi, .slice (some ⟨n, 0, none⟩) 1 1] (w.alloc (.cells #[.int .i64 x] 2)) fun e w' =>
      e = .returned (.bool (inB lo hi x)) ∧ ((w.alloc (.cells #[.int .i64 x] 2)).alloc (.cells #[.int .i64 lo] 2)).alloc (.cells #[.int .i64 hi] 2) = w' := by
  subst hn
  refine (within_any lo hi [x] _ (w.heap.size + 1) _ (by simp) (by simp) ⟨_, _, w.heap.size, 0, rfl, ⟨rfl, Nat.le_refl _⟩, fun _ => ⟨rfl, by omega⟩, fun j hj => ?_⟩).mono ?_
  · obtain rfl : j = 0 := by simpa [ofI] using hj
    simp [ofI]
  · rintro e w' ⟨rfl, rfl⟩; exact ⟨by simp [allIn], rfl⟩
theorem within_2 (lo hi x y : Int) (w : World) (n : Nat) (hn : w.heap.size = n) :
    Calls Try.prog 71 #[.int .i64 lo, .int .i64 hi, .slice (some ⟨n, 0, none⟩) 2 2] (w.alloc (.cells #[.int .i64 x, .int .i64 y] 2)) fun e w' =>
      e = .returned (.bool (inB lo hi x && inB lo hi y)) ∧ ((w.alloc (.cells #[.int .i64 x, .int .i64 y] 2)).alloc (.cells #[.int .i64 lo] 2)).alloc (.cells #[.int .i64 hi] 2) = w' := by
  subst hn
  refine (within_any lo hi [x, y] _ (w.heap.size + 1) _ (by simp) (by simp) ⟨_, _, w.heap.size, 0, rfl, ⟨rfl, Nat.le_refl _⟩, fun _ => ⟨rfl, by omega⟩, fun j hj => ?_⟩).mono ?_
  · have : j = 0 ∨ j = 1 := by
      have : j < 2 := by simpa [ofI] using hj
      omega
    rcases this with rfl | rfl <;> simp [ofI]
  · rintro e w' ⟨rfl, rfl⟩; exact ⟨by simp [allIn], rfl⟩
end Go.Proofs.Ytkljdbgkhghiaaa
