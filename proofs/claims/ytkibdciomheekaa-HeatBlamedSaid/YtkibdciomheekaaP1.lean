/- Plain: ways, what a hardness can be after one; monotone, without gaps. Plain: ranges through ways, histories, and what has been had. Plain: what has been had after each step, by the program and by trying; a history that agrees. Plain: recipes, those that can have made a blade, and which hardnesses can be had before a step and behind it. The k-th number of a list. -/
import Derived.Lib.Hide
set_option linter.all false
set_option linter.unnecessarySimpa false
set_option linter.unusedSimpArgs false
set_option linter.unusedVariables false
set_option linter.unusedSectionVars false

namespace Hp
/-- A range; a kink of a way. -/
structure Rg where
  lo : Int
  hi : Int
  deriving DecidableEq, Inhabited
structure Kk where
  src : Int
  lo : Int
  hi : Int
  deriving DecidableEq, Inhabited
abbrev Wy := List Kk
def Kk.rg (k : Kk) : Rg := ⟨k.lo, k.hi⟩
def nthK (w : Wy) (i : Nat) : Kk := w.getD i ⟨0, 0, 0⟩
theorem nthK_eq {w : Wy} {i : Nat} (h : i < w.length) : nthK w i = w[i] := by simp [nthK, h]
def hard (r : Rg) : Bool := decide (r.lo ≤ r.hi ∧ 0 ≤ r.lo ∧ r.hi ≤ 1000)
theorem hard_iff {r : Rg} : hard r = true ↔ r.lo ≤ r.hi ∧ 0 ≤ r.lo ∧ r.hi ≤ 1000 := decide_eq_true_iff
/-- The i-th kink is where it may be, and what comes out there is a range. -/
def okK (w : Wy) (i : Nat) : Bool :=
  decide ((if i = 0 then (nthK w i).src = 0 else (nthK w (i - 1)).src < (nthK w i).src) ∧ (nthK w i).src ≤ 1000) && hard (nthK w i).rg
/-- From a kink to the next one nothing becomes less, and there is no gap. -/
def okR (w : Wy) (i : Nat) : Bool :=
  decide ((nthK w i).lo ≤ (nthK w (i + 1)).lo ∧ (nthK w (i + 1)).lo ≤ (nthK w i).hi + 1 ∧ (nthK w i).hi ≤ (nthK w (i + 1)).hi)
def allB (p : Nat → Bool) (n : Nat) : Bool := (List.range n).all p
theorem allB_iff {p : Nat → Bool} {n : Nat} : allB p n = true ↔ ∀ i, i < n → p i = true := by simp [allB]
theorem allB_yes {p : Nat → Bool} {n : Nat} (h : allB p n = true) (hp : p n = true) : allB p (n + 1) = true := allB_iff.2 fun i hi => by
  rcases Nat.lt_succ_iff_lt_or_eq.1 hi with h1 | rfl
  · exact allB_iff.1 h i h1
  · exact hp
theorem allB_no {p : Nat → Bool} {n i : Nat} (hi : i < n) (hp : p i = false) : allB p n = false := by
  cases h : allB p n
  · rfl
  · rw [allB_iff.1 h i hi] at hp; cases hp
/-- The error of a way. -/
def wayE (w : Wy) : Int :=
  if w.length = 0 ∨ 12 < w.length then 6 else if allB (okK w) w.length = false then 3 else if allB (okR w) (w.length - 1) = false then 16 else 0
/-- A valid way. -/
structure OkW (w : Wy) : Prop where
  pos : 0 < w.length
  few : w.length ≤ 12
  zero : (nthK w 0).src = 0
  up : ∀ i, i + 1 < w.length → (nthK w i).src < (nthK w (i + 1)).src
  top : ∀ i, i < w.length → (nthK w i).src ≤ 1000
  rng : ∀ i, i < w.length → (nthK w i).lo ≤ (nthK w i).hi ∧ 0 ≤ (nthK w i).lo ∧ (nthK w i).hi ≤ 1000
  step : ∀ i, i + 1 < w.length → (nthK w i).lo ≤ (nthK w (i + 1)).lo ∧ (nthK w (i + 1)).lo ≤ (nthK w i).hi + 1 ∧ (nthK w i).hi ≤ (nthK w (i + 1)).hi
theorem okW_of {w : Wy} (h : wayE w = 0) : OkW w := by
  unfold wayE at h
  split at h
  · cases h
  · rename_i h1
    split at h
    · cases h
    · rename_i h2
      split at h
      · cases h
      · rename_i h3
        have hk := allB_iff.1 (by simpa using h2)
        have hr := allB_iff.1 (by simpa using h3)
        refine ⟨by omega, by omega, ?_, fun i hi => ?_, fun i hi => ?_, fun i hi => ?_, fun i hi => ?_⟩
        · have := hk 0 (by omega); simp [okK] at this; exact this.1.1
        · have := hk (i + 1) hi; simp [okK] at this; exact this.1.1
        · have := hk i hi; simp [okK] at this; exact this.1.2
        · exact hard_iff.1 (Bool.and_eq_true_iff.1 (hk i hi)).2
        · have := hr i (by omega); simpa [okR] using this
theorem wayE_of {w : Wy} (h : OkW w) : wayE w = 0 := by
  unfold wayE
  rw [if_neg (by have := h.pos; have := h.few; omega)]
  rw [if_neg, if_neg]
  · rw [Bool.not_eq_false, allB_iff]
    intro i hi
    simpa [okR] using h.step i (by omega)
  · rw [Bool.not_eq_false, allB_iff]
    intro i hi
    have a := h.rng i hi
    have b := h.top i hi
    refine Bool.and_eq_true_iff.2 ⟨decide_eq_true ⟨?_, b⟩, hard_iff.2 a⟩
    split
    · rename_i e; subst e; exact h.zero
    · have := h.up (i - 1) (by omega); rwa [show i - 1 + 1 = i by omega] at this
/-- What a hardness can be after a way: that of the last kink that is not above it. -/
def aft (w : Wy) (h : Int) : Rg := (w.foldl (fun o k => if k.src ≤ h then k else o) (nthK w 0)).rg
def idx (w : Wy) (h : Int) : Nat → Nat
  | 0 => 0
  | i + 1 => if (nthK w (i + 1)).src ≤ h then i + 1 else idx w h i
theorem idx_le (w : Wy) (h : Int) : ∀ i, idx w h i ≤ i
  | 0 => Nat.le_refl _
  | i + 1 => by unfold idx; split; exact Nat.le_refl _; have := idx_le w h i; omega
theorem OkW.mono {w : Wy} (ok : OkW w) : ∀ j i, i ≤ j → j < w.length → (nthK w i).src ≤ (nthK w j).src ∧ (nthK w i).lo ≤ (nthK w j).lo ∧ (nthK w i).hi ≤ (nthK w j).hi
  | 0, i, h, _ => by obtain rfl : i = 0 := by omega
                     exact ⟨Int.le_refl _, Int.le_refl _, Int.le_refl _⟩
  | j + 1, i, h, hj => by
    by_cases e : i = j + 1
    · subst e; exact ⟨Int.le_refl _, Int.le_refl _, Int.le_refl _⟩
    · have a := ok.mono j i (by omega) (by omega)
      have b := ok.up j hj
      have c := ok.step j hj
      omega
theorem OkW.src0 {w : Wy} (ok : OkW w) {i : Nat} (hi : i < w.length) : 0 ≤ (nthK w i).src := by
  have := (ok.mono i 0 (by omega) hi).1; have := ok.zero; omega
theorem foldl_take {w : Wy} (h : Int) : ∀ n, n + 1 ≤ w.length → (w.take (n + 1)).foldl (fun o k => if k.src ≤ h then k else o) (nthK w 0) = nthK w (idx w h n)
  | 0, hn => by
    rw [List.take_add_one, List.getElem?_eq_getElem (by omega)]
    simp only [List.take_zero, Option.toList_some, List.nil_append, List.foldl_cons, List.foldl_nil, idx]
    rw [nthK_eq (by omega)]
    split <;> rfl
  | n + 1, hn => by
    rw [List.take_add_one, List.getElem?_eq_getElem (by omega), List.foldl_append, foldl_take h n (by omega)]
    simp only [Option.toList_some, List.foldl_cons, List.foldl_nil, idx]
    rw [nthK_eq (show n + 1 < w.length by omega)]
    split
    · exact (nthK_eq _).symm
    · rfl
theorem aft_idx {w : Wy} (hw : 0 < w.length) (h : Int) : aft w h = (nthK w (idx w h (w.length - 1))).rg := by
  have := foldl_take (w := w) h (w.length - 1) (by omega)
  rw [List.take_of_length_le (by omega)] at this
  unfold aft
  rw [this]
/-- The kink of a hardness. -/
theorem idx_spec {w : Wy} (ok : OkW w) {h : Int} (h0 : 0 ≤ h) : ∀ n, n < w.length → (nthK w (idx w h n)).src ≤ h ∧ ∀ j, idx w h n < j → j ≤ n → h < (nthK w j).src
  | 0, _ => ⟨by show (nthK w 0).src ≤ h; rw [ok.zero]; exact h0, fun j h1 h2 => by
      have : idx w h 0 = 0 := rfl
      omega⟩
  | n + 1, hn => by
    unfold idx
    split
    · rename_i h1; exact ⟨h1, fun j h2 h3 => by omega⟩
    · rename_i h1
      have ih := idx_spec ok h0 n (by omega)
      refine ⟨ih.1, fun j h2 h3 => ?_⟩
      by_cases e : j = n + 1
      · subst e; omega
      · exact ih.2 j h2 (by omega)
theorem idx_at {w : Wy} (ok : OkW w) {h : Int} (h0 : 0 ≤ h) {i : Nat} (hi : i < w.length) (h1 : (nthK w i).src ≤ h) (h2 : ∀ j, i < j → j < w.length → h < (nthK w j).src) : idx w h (w.length - 1) = i := by
  have := idx_spec ok h0 (w.length - 1) (by omega)
  have h3 := idx_le w h (w.length - 1)
  rcases Nat.lt_trichotomy (idx w h (w.length - 1)) i with h4 | h4 | h4
  · have := this.2 i h4 (by omega); omega
  · exact h4
  · have := h2 _ h4 (by omega); omega
theorem aft_at {w : Wy} (ok : OkW w) {h : Int} (h0 : 0 ≤ h) {i : Nat} (hi : i < w.length) (h1 : (nthK w i).src ≤ h) (h2 : ∀ j, i < j → j < w.length → h < (nthK w j).src) : aft w h = (nthK w i).rg := by
  rw [aft_idx ok.pos, idx_at ok h0 hi h1 h2]
/-- Each hardness has its kink. -/
theorem aft_ex {w : Wy} (ok : OkW w) {h : Int} (h0 : 0 ≤ h) : ∃ i, i < w.length ∧ aft w h = (nthK w i).rg ∧ (nthK w i).src ≤ h ∧ ∀ j, i < j → j < w.length → h < (nthK w j).src := by
  have := idx_spec ok h0 (w.length - 1) (by have := ok.pos; omega)
  have h3 := idx_le w h (w.length - 1)
  have hp := ok.pos
  exact ⟨_, by omega, aft_idx ok.pos h, this.1, fun j h1 h2 => this.2 j h1 (by omega)⟩
theorem aft_rng {w : Wy} (ok : OkW w) {h : Int} (h0 : 0 ≤ h) : (aft w h).lo ≤ (aft w h).hi ∧ 0 ≤ (aft w h).lo ∧ (aft w h).hi ≤ 1000 := by
  obtain ⟨i, hi, e, _⟩ := aft_ex ok h0
  rw [e]; exact ok.rng i hi
theorem aft_mono {w : Wy} (ok : OkW w) {h h' : Int} (h0 : 0 ≤ h) (hh : h ≤ h') : (aft w h).lo ≤ (aft w h').lo ∧ (aft w h).hi ≤ (aft w h').hi := by
  obtain ⟨i, hi, e, a, b⟩ := aft_ex ok h0
  obtain ⟨j, hj, e', a', b'⟩ := aft_ex ok (show 0 ≤ h' by omega)
  rw [e, e']
  have hij : i ≤ j := by
    rcases Nat.lt_or_ge j i with h1 | h1
    · have := b' i h1 hi; omega
    · exact h1
  have := ok.mono j i hij hj
  exact ⟨this.2.1, this.2.2⟩
/-- One harder: no gap. -/
theorem aft_succ {w : Wy} (ok : OkW w) {h : Int} (h0 : 0 ≤ h) : (aft w (h + 1)).lo ≤ (aft w h).hi + 1 := by
  obtain ⟨i, hi, e, a, b⟩ := aft_ex ok h0
  obtain ⟨j, hj, e', a', b'⟩ := aft_ex ok (show 0 ≤ h + 1 by omega)
  rw [e, e']
  show (nthK w j).lo ≤ (nthK w i).hi + 1
  have hij : j ≤ i + 1 := by
    rcases Nat.lt_or_ge (i + 1) j with h1 | h1
    · have := b (i + 1) (by omega) (by omega)
      have := (ok.mono j (i + 2) (by omega) hj).1
      have h5 : (nthK w (i + 1)).src < (nthK w (i + 2)).src := ok.up (i + 1) (by omega)
      omega
    · exact h1
  have r := ok.rng i hi
  rcases Nat.lt_or_ge i j with h1 | h1
  · obtain rfl : j = i + 1 := by omega
    exact (ok.step i hj).2.1
  · have := (ok.mono i j h1 hi).2.1
    omega
/-- What comes out of a range: all from the least to the greatest one. -/
theorem aft_all {w : Wy} (ok : OkW w) {a : Int} (h0 : 0 ≤ a) {x : Int} : ∀ n : Nat, (aft w a).lo ≤ x → x ≤ (aft w (a + n)).hi → ∃ h, a ≤ h ∧ h ≤ a + n ∧ (aft w h).lo ≤ x ∧ x ≤ (aft w h).hi
  | 0, h1, h2 => ⟨a, by omega, by omega, h1, by simpa using h2⟩
  | n + 1, h1, h2 => by
    by_cases h3 : x ≤ (aft w (a + n)).hi
    · obtain ⟨h, b, c, d⟩ := aft_all ok h0 n h1 h3
      exact ⟨h, b, by omega, d⟩
    · have h4 := aft_succ ok (show 0 ≤ a + (n : Int) by omega)
      refine ⟨a + (n + 1 : Nat), by omega, by omega, ?_, h2⟩
      have : (a + ((n + 1 : Nat) : Int)) = a + n + 1 := by omega
      rw [this]; omega
end Hp

namespace Hp
def via (w : Wy) (r : Rg) : Rg := ⟨(aft w r.lo).lo, (aft w r.hi).hi⟩
def thr (r : Rg) : List Wy → List Rg
  | [] => [r]
  | w :: ws => r :: thr (via w r) ws
def endR (r : Rg) (ws : List Wy) : Rg := ws.foldl (fun r w => via w r) r
theorem thr_snoc : ∀ (ws : List Wy) (r : Rg) (w : Wy), thr r (ws ++ [w]) = thr r ws ++ [via w (endR r ws)]
  | [], r, w => rfl
  | v :: ws, r, w => by
    show r :: thr (via v r) (ws ++ [w]) = r :: thr (via v r) ws ++ [via w (endR (via v r) ws)]
    rw [thr_snoc ws]; rfl
theorem thr_len : ∀ (ws : List Wy) (r : Rg), (thr r ws).length = ws.length + 1
  | [], _ => rfl
  | _ :: ws, r => by show (thr _ ws).length + 1 = _; rw [thr_len ws]; rfl
theorem thr_last : ∀ (ws : List Wy) (r : Rg), (thr r ws)[ws.length]? = some (endR r ws)
  | [], _ => rfl
  | w :: ws, r => by show (thr (via w r) ws)[ws.length]? = _; rw [thr_last ws]; rfl
theorem endR_snoc (r : Rg) (ws : List Wy) (w : Wy) : endR r (ws ++ [w]) = via w (endR r ws) := by simp [endR]
theorem thr_take (r : Rg) : ∀ (ws : List Wy) (k : Nat), (thr r ws).take (k + 1) = thr r (ws.take k)
  | [], k => by simp [thr]
  | w :: ws, 0 => by simp [thr]
  | w :: ws, k + 1 => by
    show r :: (thr (via w r) ws).take (k + 1) = r :: thr (via w r) (ws.take k)
    rw [thr_take _ ws]
theorem thr_at (r : Rg) (ws : List Wy) (k : Nat) (h : k ≤ ws.length) : (thr r ws)[k]? = some (endR r (ws.take k)) := by
  have := thr_last (ws.take k) r
  rw [← thr_take, List.length_take, Nat.min_eq_left h, List.getElem?_take_of_lt (by omega)] at this
  exact this
def OkR (r : Rg) : Prop := r.lo ≤ r.hi ∧ 0 ≤ r.lo ∧ r.hi ≤ 1000
theorem via_ok {w : Wy} (ok : OkW w) {r : Rg} (hr : OkR r) : OkR (via w r) := by
  have a := aft_rng ok hr.2.1
  have b := aft_rng ok (show 0 ≤ r.hi from by have := hr.1; have := hr.2.1; omega)
  have c := aft_mono ok hr.2.1 hr.1
  unfold OkR via
  dsimp only
  omega
theorem endR_ok {ws : List Wy} (ok : ∀ w ∈ ws, OkW w) {r : Rg} (hr : OkR r) : OkR (endR r ws) := by
  induction ws generalizing r with
  | nil => exact hr
  | cons w ws ih => exact ih (fun v hv => ok v (List.mem_cons_of_mem _ hv)) (via_ok (ok w (List.mem_cons_self ..)) hr)
def inR (h : Int) (r : Rg) : Bool := decide (r.lo ≤ h ∧ h ≤ r.hi)
theorem inR_iff {h : Int} {r : Rg} : inR h r = true ↔ r.lo ≤ h ∧ h ≤ r.hi := decide_eq_true_iff
/-- A history of ways, from a range on. -/
def histB : Rg → List Wy → List Int → Bool
  | r, [], [h] => inR h r
  | r, w :: ws, h :: hs => inR h r && histB (aft w h) ws hs
  | _, _, _ => false
theorem hist_len : ∀ {ws : List Wy} {r : Rg} {hs : List Int}, histB r ws hs = true → hs.length = ws.length + 1
  | [], _, [_], _ => rfl
  | [], _, [], h => by cases h
  | [], _, _ :: _ :: _, h => by cases h
  | _ :: _, _, [], h => by cases h
  | w :: ws, r, h :: hs, e => by
    have := hist_len (Bool.and_eq_true_iff.1 e).2
    simp [this]
theorem hist_sub {ws : List Wy} {r r' : Rg} {hs : List Int} (h1 : r'.lo ≤ r.lo) (h2 : r.hi ≤ r'.hi) (h : histB r ws hs = true) : histB r' ws hs = true := by
  have q : ∀ x, inR x r = true → inR x r' = true := fun x hx => inR_iff.2 (by have := inR_iff.1 hx; omega)
  match ws, hs, h with
  | [], [x], h => exact q x h
  | w :: ws, x :: hs, h =>
    have := Bool.and_eq_true_iff.1 h
    exact Bool.and_eq_true_iff.2 ⟨q x this.1, this.2⟩
theorem aft_via {w : Wy} (ok : OkW w) {r : Rg} (hr : 0 ≤ r.lo) {h : Int} (hh : inR h r = true) : (via w r).lo ≤ (aft w h).lo ∧ (aft w h).hi ≤ (via w r).hi := by
  have := inR_iff.1 hh
  exact ⟨(aft_mono ok hr this.1).1, (aft_mono ok (by omega) this.2).2⟩
/-- All hardnesses of a history are in the ranges. -/
theorem hist_in : ∀ {ws : List Wy} {r : Rg} {hs : List Int}, (∀ w ∈ ws, OkW w) → OkR r → histB r ws hs = true → ∀ i, i ≤ ws.length → ∃ x, hs[i]? = some x ∧ inR x (endR r (ws.take i)) = true
  | [], r, [x], _, _, h, i, hi => by
    obtain rfl : i = 0 := by simpa using hi
    exact ⟨x, rfl, h⟩
  | w :: ws, r, x :: hs, ok, hr, h, 0, _ => ⟨x, rfl, (Bool.and_eq_true_iff.1 h).1⟩
  | w :: ws, r, x :: hs, ok, hr, h, i + 1, hi => by
    obtain ⟨h1, h2⟩ := Bool.and_eq_true_iff.1 h
    have a := aft_via (ok w (List.mem_cons_self ..)) hr.2.1 h1
    have := hist_in (fun v hv => ok v (List.mem_cons_of_mem _ hv)) (via_ok (ok w (List.mem_cons_self ..)) hr) (hist_sub a.1 a.2 h2) i (by simpa using hi)
    exact this
/-- Two ranges meet. -/
def meets (a b : Rg) : Bool := decide (a.lo ≤ b.hi ∧ b.lo ≤ a.hi)
theorem meets_iff {a b : Rg} : meets a b = true ↔ a.lo ≤ b.hi ∧ b.lo ≤ a.hi := decide_eq_true_iff
theorem meets_ex {a b : Rg} (ha : a.lo ≤ a.hi) (hb : b.lo ≤ b.hi) : meets a b = true ↔ ∃ x, inR x a = true ∧ inR x b = true := by
  rw [meets_iff]
  constructor
  · intro h
    by_cases q : a.lo ≤ b.lo
    · exact ⟨b.lo, inR_iff.2 ⟨q, h.2⟩, inR_iff.2 ⟨Int.le_refl _, hb⟩⟩
    · exact ⟨a.lo, inR_iff.2 ⟨Int.le_refl _, ha⟩, inR_iff.2 ⟨by omega, h.1⟩⟩
  · rintro ⟨x, h1, h2⟩
    have := inR_iff.1 h1
    have := inR_iff.1 h2
    omega
/-- The program's way back over a way: by its kinks. -/
def endK (w : Wy) (i : Nat) : Int := if i + 1 < w.length then (nthK w (i + 1)).src - 1 else 1000
def backS (w : Wy) (to : Rg) (i : Nat) (had : Rg) : Rg :=
  ⟨if (nthK w i).hi < to.lo then max had.lo (endK w i + 1) else had.lo, if to.hi < (nthK w i).lo then min had.hi ((nthK w i).src - 1) else had.hi⟩
def backP (w : Wy) (had to : Rg) : Rg := (List.range w.length).foldl (fun h i => backS w to i h) had
theorem back_succ (w : Wy) (to : Rg) (n : Nat) (had : Rg) : (List.range (n + 1)).foldl (fun h i => backS w to i h) had = backS w to n ((List.range n).foldl (fun h i => backS w to i h) had) := by
  rw [List.range_succ, List.foldl_append]; rfl
/-- A hardness before a way that can come to one of a range. -/
def good (w : Wy) (to : Rg) (h : Int) : Bool := meets (aft w h) to
/-- out is from the least to the greatest good one of had. -/
structure IsBk (w : Wy) (had to out : Rg) : Prop where
  lo : inR out.lo had = true ∧ good w to out.lo = true
  hi : inR out.hi had = true ∧ good w to out.hi = true
  all : ∀ h, inR h had = true → good w to h = true → out.lo ≤ h ∧ h ≤ out.hi
theorem good_iff {w : Wy} {to : Rg} {h : Int} : good w to h = true ↔ (aft w h).lo ≤ to.hi ∧ to.lo ≤ (aft w h).hi := meets_iff
/-- The good ones lie together. -/
theorem good_mid {w : Wy} (ok : OkW w) {to : Rg} {a b h : Int} (h0 : 0 ≤ a) (ha : good w to a = true) (hb : good w to b = true) (h1 : a ≤ h) (h2 : h ≤ b) : good w to h = true := by
  have := good_iff.1 ha
  have := good_iff.1 hb
  have p := aft_mono ok h0 h1
  have q := aft_mono ok (by omega) h2
  exact good_iff.2 (by omega)
theorem back_lo {w : Wy} (to : Rg) (had : Rg) : ∀ n, had.lo ≤ ((List.range n).foldl (fun h i => backS w to i h) had).lo ∧ ((List.range n).foldl (fun h i => backS w to i h) had).hi ≤ had.hi
  | 0 => ⟨Int.le_refl _, Int.le_refl _⟩
  | n + 1 => by
    rw [back_succ]
    have := back_lo (w := w) to had n
    generalize (List.range n).foldl (fun h i => backS w to i h) had = f at *
    unfold backS
    dsimp only
    constructor
    · split <;> omega
    · split <;> omega
/-- What the kinks strike, is not good; what is left is. -/
theorem back_spec {w : Wy} (ok : OkW w) (to had : Rg) (h : Int) (h0 : 0 ≤ h) (h9 : h ≤ 1000) : ∀ n, n ≤ w.length → inR h had = true →
    (inR h ((List.range n).foldl (fun h i => backS w to i h) had) = true ↔ ∀ i, i < n → ((nthK w i).hi < to.lo → endK w i < h) ∧ (to.hi < (nthK w i).lo → h < (nthK w i).src))
  | 0, _, hh => ⟨fun _ i hi => absurd hi (by omega), fun _ => hh⟩
  | n + 1, hn, hh => by
    have ih := back_spec ok to had h h0 h9 n (by omega) hh
    rw [back_succ]
    rw [inR_iff] at ih ⊢
    have e : ((backS w to n ((List.range n).foldl (fun h i => backS w to i h) had)).lo ≤ h ∧ h ≤ (backS w to n ((List.range n).foldl (fun h i => backS w to i h) had)).hi) ↔ (((List.range n).foldl (fun h i => backS w to i h) had).lo ≤ h ∧ h ≤ ((List.range n).foldl (fun h i => backS w to i h) had).hi) ∧ ((nthK w n).hi < to.lo → endK w n < h) ∧ (to.hi < (nthK w n).lo → h < (nthK w n).src) := by
      generalize (List.range n).foldl (fun h i => backS w to i h) had = f at *
      unfold backS
      dsimp only
      by_cases a : (nthK w n).hi < to.lo <;> by_cases b : to.hi < (nthK w n).lo <;> simp [a, b] <;> omega
    rw [e, ih]
    constructor
    · rintro ⟨h1, h2⟩ i hi
      rcases Nat.lt_succ_iff_lt_or_eq.1 hi with h3 | rfl
      · exact h1 i h3
      · exact h2
    · intro h1
      exact ⟨fun i hi => h1 i (by omega), h1 n (by omega)⟩
theorem back_good {w : Wy} (ok : OkW w) (to : Rg) {h : Int} (h0 : 0 ≤ h) (h9 : h ≤ 1000) : (∀ i, i < w.length → ((nthK w i).hi < to.lo → endK w i < h) ∧ (to.hi < (nthK w i).lo → h < (nthK w i).src)) ↔ good w to h = true := by
  obtain ⟨i, hi, e, h1, h2⟩ := aft_ex ok h0
  rw [good_iff, e]
  show _ ↔ (nthK w i).lo ≤ to.hi ∧ to.lo ≤ (nthK w i).hi
  have hend : h ≤ endK w i := by
    unfold endK
    split
    · have := h2 (i + 1) (by omega) (by assumption); omega
    · exact h9
  constructor
  · intro hq
    have := hq i hi
    omega
  · intro hq j hj
    constructor
    · intro h3
      have hji : j < i := by
        rcases Nat.lt_or_ge j i with h4 | h4
        · exact h4
        · have := (ok.mono j i h4 hj).2.2; omega
      unfold endK
      rw [if_pos (by omega)]
      have := (ok.mono i (j + 1) (by omega) hi).1
      omega
    · intro h3
      have hij : i < j := by
        rcases Nat.lt_or_ge i j with h4 | h4
        · exact h4
        · have := (ok.mono i j h4 hi).2.1; omega
      exact h2 j hij hj
theorem backP_in {w : Wy} (ok : OkW w) {had to : Rg} (hh : OkR had) {h : Int} : inR h (backP w had to) = true ↔ inR h had = true ∧ good w to h = true := by
  have hb := back_lo (w := w) to had w.length
  constructor
  · intro hx
    have h1 : inR h had = true := inR_iff.2 (by have := inR_iff.1 hx; unfold backP at this; omega)
    have h2 := inR_iff.1 h1
    have h3 := hh.2
    exact ⟨h1, (back_good ok to (by omega) (by omega)).1 ((back_spec ok to had h (by omega) (by omega) w.length (Nat.le_refl _) h1).1 hx)⟩
  · rintro ⟨h1, h2⟩
    have h4 := inR_iff.1 h1
    have h3 := hh.2
    exact (back_spec ok to had h (by omega) (by omega) w.length (Nat.le_refl _) h1).2 ((back_good ok to (by omega) (by omega)).2 h2)
theorem backP_is {w : Wy} (ok : OkW w) {had to : Rg} (hh : OkR had) (hto : to.lo ≤ to.hi) (h1 : (via w had).lo ≤ to.lo) (h2 : to.hi ≤ (via w had).hi) : IsBk w had to (backP w had to) := by
  have hlh := hh.1
  obtain ⟨g, g1, g2, g3, g4⟩ := aft_all ok hh.2.1 (x := to.lo) (had.hi - had.lo).toNat h1 (by
    rw [show had.lo + ((had.hi - had.lo).toNat : Int) = had.hi by omega]
    show to.lo ≤ (via w had).hi
    omega)
  have hg : inR g (backP w had to) = true := (backP_in ok hh).2 ⟨inR_iff.2 (by omega), good_iff.2 (by omega)⟩
  have hg' := inR_iff.1 hg
  exact ⟨(backP_in ok hh).1 (inR_iff.2 (by omega)), (backP_in ok hh).1 (inR_iff.2 (by omega)), fun h a b => inR_iff.1 ((backP_in ok hh).2 ⟨a, b⟩)⟩
end Hp

namespace Hp
def headR (l : List Rg) : Rg := l.headD ⟨0, 0⟩
def meet (a b : Rg) : Rg := ⟨max a.lo b.lo, min a.hi b.hi⟩
/-- The program's ranges of histories that agree. -/
def hadL : Rg → List Wy → Rg → List Rg
  | r, [], m => [meet r m]
  | r, w :: ws, m => backP w r (headR (hadL (via w r) ws m)) :: hadL (via w r) ws m
theorem hadL_len : ∀ (ws : List Wy) (r m : Rg), (hadL r ws m).length = ws.length + 1
  | [], _, _ => rfl
  | _ :: ws, r, m => by show (hadL _ ws m).length + 1 = _; rw [hadL_len ws]; rfl
theorem hadL_ne {r m : Rg} {ws : List Wy} : hadL r ws m ≠ [] := by cases ws <;> exact List.cons_ne_nil _ _
/-- What is had there is in the range, and it is not empty. -/
theorem hadL_head : ∀ {ws : List Wy} {r m : Rg}, (∀ w ∈ ws, OkW w) → OkR r → m.lo ≤ m.hi → meets (endR r ws) m = true →
    (headR (hadL r ws m)).lo ≤ (headR (hadL r ws m)).hi ∧ r.lo ≤ (headR (hadL r ws m)).lo ∧ (headR (hadL r ws m)).hi ≤ r.hi
  | [], r, m, _, hr, hm, h => by
    have := meets_iff.1 h
    have := hr.1
    show (meet r m).lo ≤ (meet r m).hi ∧ r.lo ≤ (meet r m).lo ∧ (meet r m).hi ≤ r.hi
    simp only [endR, List.foldl_nil] at *
    unfold meet
    dsimp only
    omega
  | w :: ws, r, m, ok, hr, hm, h => by
    have hw := ok w (List.mem_cons_self ..)
    have ih := hadL_head (fun v hv => ok v (List.mem_cons_of_mem _ hv)) (via_ok hw hr) hm h
    have hb := backP_is hw hr ih.1 ih.2.1 ih.2.2
    show (backP w r (headR (hadL (via w r) ws m))).lo ≤ (backP w r (headR (hadL (via w r) ws m))).hi ∧ _
    have := hb.all _ hb.lo.1 hb.lo.2
    have := inR_iff.1 hb.lo.1
    have := inR_iff.1 hb.hi.1
    show _ ≤ _ ∧ r.lo ≤ (backP w r (headR (hadL (via w r) ws m))).lo ∧ (backP w r (headR (hadL (via w r) ws m))).hi ≤ r.hi
    omega
theorem hadL_is {w : Wy} {ws : List Wy} {r m : Rg} (ok : ∀ v ∈ w :: ws, OkW v) (hr : OkR r) (hm : m.lo ≤ m.hi) (h : meets (endR r (w :: ws)) m = true) :
    IsBk w r (headR (hadL (via w r) ws m)) (headR (hadL r (w :: ws) m)) := by
  have hw := ok w (List.mem_cons_self ..)
  have ih := hadL_head (fun v hv => ok v (List.mem_cons_of_mem _ hv)) (via_ok hw hr) hm h
  exact backP_is hw hr ih.1 ih.2.1 ih.2.2
/-- By trying: from the first to the last good one. -/
def scanS (w : Wy) (to : Rg) (h : Int) (o : Rg) : Rg := if good w to h then ⟨if o.lo < 0 then h else o.lo, h⟩ else o
def scan (w : Wy) (to : Rg) (a : Int) (n : Nat) : Rg := (List.range n).foldl (fun o i => scanS w to (a + (i : Nat)) o) ⟨-1, -1⟩
/-- The ranges of the reference. -/
def hadR : Rg → List Wy → Rg → List Rg
  | r, [], m => [meet r m]
  | r, w :: ws, m => scan w (headR (hadR (via w r) ws m)) r.lo (r.hi - r.lo + 1).toNat :: hadR (via w r) ws m
/-- A history that agrees is in what has been had. -/
theorem hist_had : ∀ {ws : List Wy} {r m : Rg} {hs : List Int} {x : Int}, (∀ w ∈ ws, OkW w) → OkR r → m.lo ≤ m.hi → histB r ws hs = true → hs[ws.length]? = some x → inR x m = true →
    ∀ i, i ≤ ws.length → ∃ y, hs[i]? = some y ∧ ∃ d, (hadL r ws m)[i]? = some d ∧ inR y d = true
  | [], r, m, hs, x, ok, hr, hm, h, hx, hi, i, hle => by
    obtain rfl : i = 0 := by simpa using hle
    refine ⟨x, hx, meet r m, rfl, ?_⟩
    have hl := hist_len h
    match hs, hl with
    | [y], _ =>
      obtain rfl : y = x := by simpa using hx
      have := inR_iff.1 h
      have := inR_iff.1 hi
      exact inR_iff.2 (by unfold meet; dsimp only; omega)
  | w :: ws, r, m, hs, x, ok, hr, hm, h, hx, hi, i, hle => by
    have hw := ok w (List.mem_cons_self ..)
    have ok' : ∀ v ∈ ws, OkW v := fun v hv => ok v (List.mem_cons_of_mem _ hv)
    match hs, h, hx with
    | y :: hs, h, hx =>
      obtain ⟨h1, h2⟩ := Bool.and_eq_true_iff.1 h
      have a := aft_via hw hr.2.1 h1
      have h3 := hist_sub a.1 a.2 h2
      have hx' : hs[ws.length]? = some x := by simpa using hx
      have ih := hist_had ok' (via_ok hw hr) hm h3 hx' hi
      cases i with
      | succ i => exact ih i (by simpa using hle)
      | zero =>
        refine ⟨y, rfl, _, rfl, ?_⟩
        obtain ⟨z, hz, d, hd, hzd⟩ := ih 0 (Nat.zero_le _)
        have he : meets (endR (via w r) ws) m = true := by
          obtain ⟨x', e1, e2⟩ := hist_in ok' (via_ok hw hr) h3 ws.length (Nat.le_refl _)
          rw [hx'] at e1
          injection e1 with e1
          subst e1
          rw [List.take_length] at e2
          exact (meets_ex (endR_ok ok' (via_ok hw hr)).1 hm).2 ⟨x, e2, hi⟩
        have ih2 := hadL_head ok' (via_ok hw hr) hm he
        have hd2 : d = headR (hadL (via w r) ws m) := by
          cases q : hadL (via w r) ws m with
          | nil => exact absurd q hadL_ne
          | cons c l => rw [q] at hd; injection hd with hd; rw [← hd]; rfl
        subst hd2
        have hb := backP_is hw hr ih2.1 ih2.2.1 ih2.2.2
        have hzy : inR z (aft w y) = true := by
          cases ws with
          | nil => match hs, h2, hz with
            | [q], h2, hz => injection hz with hz; subst hz; exact h2
          | cons v ws => match hs, h2, hz with
            | q :: hs, h2, hz => injection hz with hz; subst hz; exact (Bool.and_eq_true_iff.1 h2).1
        have g : good w (headR (hadL (via w r) ws m)) y = true := (meets_ex (by have := inR_iff.1 hzy; omega) ih2.1).2 ⟨z, hzy, hzd⟩
        exact inR_iff.2 (hb.all y h1 g)
/-- The program's history: of each range as little as can be. -/
def histL : List Wy → List Rg → Int → List Int
  | [], _, h => [h]
  | w :: ws, l, h => h :: histL ws l.tail (max (aft w h).lo (headR l).lo)
theorem histL_len : ∀ (ws : List Wy) (l : List Rg) (h : Int), (histL ws l h).length = ws.length + 1
  | [], _, _ => rfl
  | _ :: ws, l, h => by show (histL ws _ _).length + 1 = _; rw [histL_len ws]; rfl
theorem histL_ok : ∀ {ws : List Wy} {r m : Rg} {h : Int}, (∀ w ∈ ws, OkW w) → OkR r → m.lo ≤ m.hi → meets (endR r ws) m = true → inR h (headR (hadL r ws m)) = true →
    histB r ws (histL ws (hadL r ws m).tail h) = true ∧ ∃ x, (histL ws (hadL r ws m).tail h)[ws.length]? = some x ∧ inR x m = true
  | [], r, m, h, ok, hr, hm, hmt, hh => by
    have a := inR_iff.1 hh
    have b : max r.lo m.lo ≤ h ∧ h ≤ min r.hi m.hi := a
    exact ⟨inR_iff.2 (by omega), h, rfl, inR_iff.2 (by omega)⟩
  | w :: ws, r, m, h, ok, hr, hm, hmt, hh => by
    have hw := ok w (List.mem_cons_self ..)
    have ok' : ∀ v ∈ ws, OkW v := fun v hv => ok v (List.mem_cons_of_mem _ hv)
    have hb := hadL_is ok hr hm hmt
    have ih := hadL_head ok' (via_ok hw hr) hm hmt
    have a := inR_iff.1 hh
    have lo := inR_iff.1 hb.lo.1
    have hi := inR_iff.1 hb.hi.1
    have hr2 := hr.2.1
    have g := good_iff.1 (good_mid hw (by omega) hb.lo.2 hb.hi.2 a.1 a.2)
    have hin : inR h r = true := inR_iff.2 (by omega)
    have av := aft_via hw hr2 hin
    have ar := (aft_rng hw (show 0 ≤ h by omega)).1
    obtain ⟨c, l, hcl⟩ : ∃ c l, hadL (via w r) ws m = c :: l := by
      cases q : hadL (via w r) ws m with
      | nil => exact absurd q hadL_ne
      | cons c l => exact ⟨c, l, rfl⟩
    have hc : headR (hadL (via w r) ws m) = c := by rw [hcl]; rfl
    rw [hc] at ih g
    obtain ⟨k1, x, k2, k3⟩ := histL_ok (h := max (aft w h).lo c.lo) ok' (via_ok hw hr) hm hmt (by rw [hc]; exact inR_iff.2 (by omega))
    have e : histL (w :: ws) (hadL r (w :: ws) m).tail h = h :: histL ws (hadL (via w r) ws m).tail (max (aft w h).lo c.lo) := by
      show h :: histL ws (hadL (via w r) ws m).tail (max (aft w h).lo (headR (hadL (via w r) ws m)).lo) = _
      rw [hc]
    rw [e]
    refine ⟨Bool.and_eq_true_iff.2 ⟨hin, ?_⟩, x, by simpa using k2, k3⟩
    generalize (hadL (via w r) ws m).tail = t at *
    cases ws with
    | nil => exact inR_iff.2 (by omega)
    | cons v ws => exact Bool.and_eq_true_iff.2 ⟨inR_iff.2 (by omega), (Bool.and_eq_true_iff.1 k1).2⟩
end Hp

namespace Hp
abbrev Stp := List Wy
def nthW (s : Stp) (k : Nat) : Wy := s.getD k []
theorem nthW_mem {s : Stp} {k : Nat} (h : k < s.length) : nthW s k ∈ s := by
  have : nthW s k = s[k] := by simp [nthW, h]
  rw [this]; exact List.getElem_mem h
def pick : List Stp → List Nat → List Wy
  | s :: ss, k :: ks => nthW s k :: pick ss ks
  | _, _ => []
def allR : List Stp → List (List Nat)
  | [] => [[]]
  | s :: ss => (List.range s.length).flatMap fun k => (allR ss).map (k :: ·)
def OkS (ss : List Stp) : Prop := ∀ s ∈ ss, ∀ w ∈ s, OkW w
theorem OkS.tail {s : Stp} {ss : List Stp} (h : OkS (s :: ss)) : OkS ss := fun t ht => h t (List.mem_cons_of_mem _ ht)
theorem OkS.head {s : Stp} {ss : List Stp} (h : OkS (s :: ss)) {k : Nat} (hk : k < s.length) : OkW (nthW s k) := h s (List.mem_cons_self ..) _ (nthW_mem hk)
theorem mem_allR_cons {s : Stp} {ss : List Stp} {l : List Nat} : l ∈ allR (s :: ss) ↔ ∃ k ks, k < s.length ∧ ks ∈ allR ss ∧ l = k :: ks := by
  simp only [allR, List.mem_flatMap, List.mem_range, List.mem_map]
  constructor
  · rintro ⟨k, hk, ks, h, rfl⟩; exact ⟨k, ks, hk, h, rfl⟩
  · rintro ⟨k, ks, hk, h, rfl⟩; exact ⟨k, hk, ks, h, rfl⟩
theorem allR_len : ∀ {ss : List Stp} {ks : List Nat}, ks ∈ allR ss → ks.length = ss.length
  | [], ks, h => by simp [allR] at h; rw [h]; rfl
  | s :: ss, ks, h => by
    obtain ⟨k, l, _, hl, rfl⟩ := mem_allR_cons.1 h
    simp [allR_len hl]
theorem pick_ok : ∀ {ss : List Stp} {ks : List Nat}, OkS ss → ks ∈ allR ss → ∀ w ∈ pick ss ks, OkW w
  | [], ks, _, h, w, hw => by simp [pick] at hw
  | s :: ss, ks, ok, h, w, hw => by
    obtain ⟨k, l, hk, hl, rfl⟩ := mem_allR_cons.1 h
    rcases List.mem_cons.1 hw with rfl | hw
    · exact ok.head hk
    · exact pick_ok ok.tail hl w hw
theorem pick_len : ∀ {ss : List Stp} {ks : List Nat}, ks ∈ allR ss → (pick ss ks).length = ss.length
  | [], ks, h => by simp [pick]
  | s :: ss, ks, h => by
    obtain ⟨k, l, hk, hl, rfl⟩ := mem_allR_cons.1 h
    simp [pick, pick_len hl]
/-- The recipes from a range on that come to what was measured. -/
def follow (m : Rg) (ss : List Stp) (r : Rg) : List (List Nat) := (allR ss).filter fun ks => meets (endR r (pick ss ks)) m
theorem follow_nil (m r : Rg) : follow m [] r = if meets r m then [[]] else [] := by
  unfold follow allR
  simp [List.filter_cons, pick, endR]
theorem follow_cons (m : Rg) (s : Stp) (ss : List Stp) (r : Rg) : follow m (s :: ss) r = (List.range s.length).flatMap fun k => (follow m ss (via (nthW s k) r)).map (k :: ·) := by
  unfold follow
  rw [allR, List.filter_flatMap]
  congr 1
  funext k
  rw [List.filter_map]
  rfl
/-- From which hardnesses what was measured can be had. -/
def rearP (m : Rg) : List Stp → Int → Prop
  | [], h => inR h m = true
  | s :: ss, h => ∃ k, k < s.length ∧ ∃ x, inR x (aft (nthW s k) h) = true ∧ rearP m ss x
theorem via_all {w : Wy} (ok : OkW w) {r : Rg} (hr : OkR r) {x : Int} : inR x (via w r) = true ↔ ∃ h, inR h r = true ∧ inR x (aft w h) = true := by
  constructor
  · intro hx
    have a := inR_iff.1 hx
    have hlh := hr.1
    obtain ⟨g, g1, g2, g3, g4⟩ := aft_all ok hr.2.1 (x := x) (r.hi - r.lo).toNat a.1 (by rw [show r.lo + ((r.hi - r.lo).toNat : Int) = r.hi by omega]; exact a.2)
    exact ⟨g, inR_iff.2 (by omega), inR_iff.2 ⟨g3, g4⟩⟩
  · rintro ⟨h, h1, h2⟩
    have := aft_via ok hr.2.1 h1
    have := inR_iff.1 h2
    exact inR_iff.2 (by omega)
theorem rear_follow {m : Rg} (hm : m.lo ≤ m.hi) : ∀ {ss : List Stp} {r : Rg}, OkS ss → OkR r → ((∃ h, inR h r = true ∧ rearP m ss h) ↔ follow m ss r ≠ [])
  | [], r, _, hr => by
    rw [follow_nil]
    have := meets_ex hr.1 hm
    by_cases h : meets r m = true
    · rw [if_pos h]; simp only [ne_eq, List.cons_ne_nil, not_false_eq_true, iff_true]; exact this.1 h
    · rw [if_neg h]; simp only [ne_eq, not_true, iff_false]; exact fun hq => h (this.2 hq)
  | s :: ss, r, ok, hr => by
    rw [follow_cons]
    constructor
    · rintro ⟨h, h1, k, hk, x, h2, h3⟩ he
      have := List.flatMap_eq_nil_iff.1 he k (List.mem_range.2 hk)
      have h4 := (rear_follow hm ok.tail (via_ok (ok.head hk) hr)).1 ⟨x, (via_all (ok.head hk) hr).2 ⟨h, h1, h2⟩, h3⟩
      exact h4 (List.map_eq_nil_iff.1 this)
    · intro h
      have : ∃ k, k < s.length ∧ follow m ss (via (nthW s k) r) ≠ [] := by
        apply Classical.byContradiction
        intro hq
        exact h (List.flatMap_eq_nil_iff.2 fun k hk => by
          have hk := List.mem_range.1 hk
          cases hf : follow m ss (via (nthW s k) r) with
          | nil => rfl
          | cons a l => exact absurd ⟨k, hk, by rw [hf]; exact List.cons_ne_nil _ _⟩ hq)
      obtain ⟨k, hk, h1⟩ := this
      obtain ⟨x, h2, h3⟩ := (rear_follow hm ok.tail (via_ok (ok.head hk) hr)).2 h1
      obtain ⟨g, g1, g2⟩ := (via_all (ok.head hk) hr).1 h2
      exact ⟨g, g1, k, hk, x, g2, h3⟩
/-- Which hardnesses can be had before a step. -/
def frontS (F : Int → Prop) (s : Stp) (x : Int) : Prop := ∃ k, k < s.length ∧ ∃ h, F h ∧ inR x (aft (nthW s k) h) = true
def frontP (bars : List Rg) (ss : List Stp) : Int → Prop := ss.foldl frontS fun h => ∃ b ∈ bars, inR h b = true
theorem frontP_snoc (bars : List Rg) (ss : List Stp) (s : Stp) : frontP bars (ss ++ [s]) = frontS (frontP bars ss) s := by simp [frontP]
theorem allR_app : ∀ (a b : List Stp), allR (a ++ b) = (allR a).flatMap fun x => (allR b).map (x ++ ·)
  | [], b => by simp [allR]
  | s :: a, b => by
    show (List.range s.length).flatMap (fun k => (allR (a ++ b)).map (k :: ·)) = ((List.range s.length).flatMap fun k => (allR a).map (k :: ·)).flatMap fun x => (allR b).map (x ++ ·)
    rw [allR_app a b, List.flatMap_assoc]
    congr 1
    funext k
    rw [List.map_flatMap, List.flatMap_map]
    congr 1
    funext x
    rw [List.map_map]
    rfl
theorem pick_app : ∀ {a b : List Stp} {x y : List Nat}, x ∈ allR a → pick (a ++ b) (x ++ y) = pick a x ++ pick b y
  | [], b, x, y, h => by simp [allR] at h; rw [h]; rfl
  | s :: a, b, x, y, h => by
    obtain ⟨k, l, hk, hl, rfl⟩ := mem_allR_cons.1 h
    show nthW s k :: pick (a ++ b) (l ++ y) = nthW s k :: pick a l ++ pick b y
    rw [pick_app hl]; rfl
theorem endR_app (r : Rg) (a b : List Wy) : endR r (a ++ b) = endR (endR r a) b := by simp [endR]
theorem allR_one (s : Stp) : allR [s] = (List.range s.length).map fun k => [k] := by
  show (List.range s.length).flatMap (fun k => [[k]]) = _
  generalize List.range s.length = l
  induction l with
  | nil => rfl
  | cons a l ih => rw [List.flatMap_cons, ih]; rfl
theorem mem_allR_snoc {ss : List Stp} {s : Stp} {l : List Nat} : l ∈ allR (ss ++ [s]) ↔ ∃ ks k, ks ∈ allR ss ∧ k < s.length ∧ l = ks ++ [k] := by
  rw [allR_app, allR_one]
  simp only [List.mem_flatMap, List.mem_map, List.mem_range]
  constructor
  · rintro ⟨ks, h, x, ⟨k, hk, rfl⟩, rfl⟩; exact ⟨ks, k, h, hk, rfl⟩
  · rintro ⟨ks, k, h, hk, rfl⟩; exact ⟨ks, h, [k], ⟨k, hk, rfl⟩, rfl⟩
theorem OkS.app {a b : List Stp} (h : OkS (a ++ b)) : OkS a ∧ OkS b := ⟨fun s hs => h s (List.mem_append_left _ hs), fun s hs => h s (List.mem_append_right _ hs)⟩
theorem front_iff {bars : List Rg} (hb : ∀ b ∈ bars, OkR b) : ∀ (n : Nat) {ss : List Stp}, ss.length = n → OkS ss → ∀ {x : Int}, frontP bars ss x ↔ ∃ b ∈ bars, ∃ ks ∈ allR ss, inR x (endR b (pick ss ks)) = true
  | 0, ss, hn, _, x => by
    obtain rfl : ss = [] := List.eq_nil_of_length_eq_zero hn
    simp [frontP, allR, pick, endR]
  | n + 1, ss, hn, ok, x => by
    obtain ⟨t, s, rfl⟩ : ∃ t s, ss = t ++ [s] := ⟨ss.dropLast, ss.getLast (by intro h; rw [h] at hn; cases hn), (List.dropLast_concat_getLast _).symm⟩
    have hn' : t.length = n := by simpa using hn
    obtain ⟨ok1, ok2⟩ := ok.app
    rw [frontP_snoc]
    constructor
    · rintro ⟨k, hk, h, h1, h2⟩
      obtain ⟨b, hb1, ks, h3, h4⟩ := (front_iff hb n hn' ok1).1 h1
      refine ⟨b, hb1, ks ++ [k], mem_allR_snoc.2 ⟨ks, k, h3, hk, rfl⟩, ?_⟩
      rw [pick_app h3, endR_app]
      exact (via_all (ok2.head hk) (endR_ok (pick_ok ok1 h3) (hb b hb1))).2 ⟨h, h4, h2⟩
    · rintro ⟨b, hb1, l, hl, h4⟩
      obtain ⟨ks, k, h3, hk, rfl⟩ := mem_allR_snoc.1 hl
      rw [pick_app h3, endR_app] at h4
      obtain ⟨h, h5, h6⟩ := (via_all (ok2.head hk) (endR_ok (pick_ok ok1 h3) (hb b hb1))).1 h4
      exact ⟨k, hk, h, (front_iff hb n hn' ok1).2 ⟨b, hb1, ks, h3, h5⟩, h6⟩
/-- All recipes; those that can have made a blade. -/
def nthB (bars : List Rg) (b : Nat) : Rg := bars.getD b ⟨0, 0⟩
theorem nthB_mem {bars : List Rg} {b : Nat} (h : b < bars.length) : nthB bars b ∈ bars := by
  have : nthB bars b = bars[b] := by simp [nthB, h]
  rw [this]; exact List.getElem_mem h
def recs (nb : Nat) (ss : List Stp) : List (Nat × List Nat) := (List.range nb).flatMap fun b => (allR ss).map fun ks => (b, ks)
theorem recs_nil (nb : Nat) : recs nb [] = (List.range nb).map fun b => (b, []) := by
  show (List.range nb).flatMap (fun b => [(b, [])]) = _
  induction List.range nb with
  | nil => rfl
  | cons a l ih => simp [ih]
theorem recs_snoc (nb : Nat) (ss : List Stp) (s : Stp) : recs nb (ss ++ [s]) = (recs nb ss).flatMap fun r => (List.range s.length).map fun k => (r.1, r.2 ++ [k]) := by
  unfold recs
  rw [allR_app, allR_one, List.flatMap_assoc]
  congr 1
  funext b
  rw [List.map_flatMap, List.flatMap_map]
  congr 1
  funext ks
  rw [List.map_map, List.map_map]
  rfl
def madeB (bars : List Rg) (ss : List Stp) (m : Rg) (r : Nat × List Nat) : Bool := meets (endR (nthB bars r.1) (pick ss r.2)) m
def makers (bars : List Rg) (ss : List Stp) (m : Rg) : List (Nat × List Nat) := (recs bars.length ss).filter (madeB bars ss m)
theorem makers_eq (bars : List Rg) (ss : List Stp) (m : Rg) : makers bars ss m = (List.range bars.length).flatMap fun b => (follow m ss (nthB bars b)).map fun ks => (b, ks) := by
  unfold makers recs
  rw [List.filter_flatMap]
  congr 1
  funext b
  rw [List.filter_map]
  rfl
theorem mem_makers {bars : List Rg} {ss : List Stp} {m : Rg} {r : Nat × List Nat} : r ∈ makers bars ss m ↔ r.1 < bars.length ∧ r.2 ∈ allR ss ∧ madeB bars ss m r = true := by
  unfold makers recs
  simp only [List.mem_filter, List.mem_flatMap, List.mem_range, List.mem_map]
  constructor
  · rintro ⟨⟨b, hb, ks, hk, rfl⟩, h⟩; exact ⟨hb, hk, h⟩
  · rintro ⟨hb, hk, h⟩; exact ⟨⟨r.1, hb, r.2, hk, rfl⟩, h⟩
section
variable {bars : List Rg} {ss : List Stp} {m : Rg}
/-- A bar can have made it, just if what was measured can be had from a hardness of it. -/
theorem bar_iff (hb : ∀ b ∈ bars, OkR b) (ok : OkS ss) (hm : m.lo ≤ m.hi) {b : Nat} (h : b < bars.length) : (∃ r ∈ makers bars ss m, r.1 = b) ↔ ∃ x, inR x (nthB bars b) = true ∧ rearP m ss x := by
  rw [rear_follow hm ok (hb _ (nthB_mem h))]
  constructor
  · rintro ⟨r, hr, rfl⟩ he
    obtain ⟨h1, h2, h3⟩ := mem_makers.1 hr
    have : r.2 ∈ follow m ss (nthB bars r.1) := List.mem_filter.2 ⟨h2, h3⟩
    rw [he] at this; cases this
  · intro hne
    obtain ⟨ks, hks⟩ := List.exists_mem_of_ne_nil _ hne
    obtain ⟨h1, h2⟩ := List.mem_filter.1 hks
    exact ⟨(b, ks), mem_makers.2 ⟨h, h1, h2⟩, rfl⟩
theorem none_iff (hb : ∀ b ∈ bars, OkR b) (ok : OkS ss) (hm : m.lo ≤ m.hi) : makers bars ss m = [] ↔ ∀ x, ¬ (frontP bars [] x ∧ rearP m ss x) := by
  constructor
  · rintro he x ⟨⟨b, hb1, h1⟩, h2⟩
    obtain ⟨i, hi, rfl⟩ := List.mem_iff_getElem.1 hb1
    have e : nthB bars i = bars[i] := by simp [nthB, hi]
    obtain ⟨r, hr, _⟩ := (bar_iff hb ok hm hi).2 ⟨x, by rw [e]; exact h1, h2⟩
    rw [he] at hr; cases hr
  · intro h
    cases hq : makers bars ss m with
    | nil => rfl
    | cons r l =>
      have hr : r ∈ makers bars ss m := by rw [hq]; exact List.mem_cons_self ..
      obtain ⟨x, h1, h2⟩ := (bar_iff hb ok hm (mem_makers.1 hr).1).1 ⟨r, hr, rfl⟩
      exact absurd ⟨⟨_, nthB_mem (mem_makers.1 hr).1, h1⟩, h2⟩ (h x)
/-- A way of a step can have made it, just if it leads from a hardness that can be had to one from which what was measured can be had. -/
theorem way_iff {pre post : List Stp} {s : Stp} (hb : ∀ b ∈ bars, OkR b) (ok : OkS (pre ++ s :: post)) (hm : m.lo ≤ m.hi) {k : Nat} (hk : k < s.length) :
    (∃ r ∈ makers bars (pre ++ s :: post) m, r.2[pre.length]? = some k) ↔ ∃ h x, frontP bars pre h ∧ inR x (aft (nthW s k) h) = true ∧ rearP m post x := by
  obtain ⟨ok1, ok2⟩ := ok.app
  have okw := ok2.head hk
  constructor
  · rintro ⟨⟨b, l⟩, hr, hl⟩
    obtain ⟨h1, h2, h3⟩ := mem_makers.1 hr
    rw [allR_app, List.mem_flatMap] at h2
    obtain ⟨kp, hkp, h2⟩ := h2
    obtain ⟨q, hq, e⟩ := List.mem_map.1 h2
    obtain ⟨k', ks, hk', hks, rfl⟩ := mem_allR_cons.1 hq
    have e' : l = kp ++ k' :: ks := e.symm
    subst e'
    have hlen := allR_len hkp
    rw [List.getElem?_append_right (by omega), hlen, Nat.sub_self] at hl
    simp only [List.getElem?_cons_zero, Option.some.injEq] at hl
    subst hl
    have hR := endR_ok (pick_ok ok1 hkp) (hb _ (nthB_mem h1))
    have h4 : ks ∈ follow m post (via (nthW s k') (endR (nthB bars b) (pick pre kp))) := by
      refine List.mem_filter.2 ⟨hks, ?_⟩
      have : madeB bars (pre ++ s :: post) m (b, kp ++ k' :: ks) = true := h3
      unfold madeB at this
      rw [pick_app hkp, endR_app] at this
      exact this
    obtain ⟨x, h5, h6⟩ := (rear_follow hm ok2.tail (via_ok okw hR)).2 (List.ne_nil_of_mem h4)
    obtain ⟨g, g1, g2⟩ := (via_all okw hR).1 h5
    exact ⟨g, x, (front_iff hb _ rfl ok1).2 ⟨_, nthB_mem h1, kp, hkp, g1⟩, g2, h6⟩
  · rintro ⟨h, x, h1, h2, h3⟩
    obtain ⟨b, hb1, kp, hkp, h4⟩ := (front_iff hb _ rfl ok1).1 h1
    obtain ⟨i, hi, rfl⟩ := List.mem_iff_getElem.1 hb1
    have e : nthB bars i = bars[i] := by simp [nthB, hi]
    have hR := endR_ok (pick_ok ok1 hkp) (hb _ hb1)
    have h5 := (rear_follow hm ok2.tail (via_ok okw hR)).1 ⟨x, (via_all okw hR).2 ⟨h, h4, h2⟩, h3⟩
    obtain ⟨ks, hks⟩ := List.exists_mem_of_ne_nil _ h5
    obtain ⟨h6, h7⟩ := List.mem_filter.1 hks
    refine ⟨(i, kp ++ k :: ks), mem_makers.2 ⟨hi, ?_, ?_⟩, ?_⟩
    · rw [allR_app]
      exact List.mem_flatMap.2 ⟨kp, hkp, List.mem_map.2 ⟨k :: ks, mem_allR_cons.2 ⟨k, ks, hk, h6, rfl⟩, rfl⟩⟩
    · unfold madeB
      show meets (endR (nthB bars i) (pick (pre ++ s :: post) (kp ++ k :: ks))) m = true
      rw [pick_app hkp, endR_app, e]
      exact h7
    · have hlen := allR_len hkp
      show (kp ++ k :: ks)[pre.length]? = some k
      rw [List.getElem?_append_right (by omega), hlen, Nat.sub_self]
      rfl
end
end Hp

namespace Go.Proofs.Ytkibdciomheekaa
/-- The k-th number of a list. -/
def nthI (l : List Int) (k : Nat) : Int := l.getD k 0
end Go.Proofs.Ytkibdciomheekaa
