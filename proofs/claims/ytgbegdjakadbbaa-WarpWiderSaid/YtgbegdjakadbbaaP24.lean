/- Plain: what came, reckoned fast. The values of the examples. -/
import Derived.Test.YtgbegdjakadbbaaP1
import Derived.Test.YtgbegdjakadbbaaP4
import Derived.Test.YtgbegdjakadbbaaP18
import Derived.Test.YtgbegdjakadbbaaP21
import Derived.Test.YtgbegdjakadbbaaP22
import Derived.Test.YtgbegdjakadbbaaP23
import Derived.Test.YtgbegdjakadbbaaP16
set_option linter.all false
set_option linter.unnecessarySimpa false
set_option linter.unusedSimpArgs false
set_option linter.unusedVariables false
set_option linter.unusedSectionVars false

namespace Vp
/-- In which range a bend behind these stations (the last one first) is. -/
def rgB : List St → Rg
  | [] => ⟨0, 0⟩
  | s :: _ => tub s
def comF (m : Int) : List St → Int → Int
  | [], g => if g = 0 then 0 else never
  | s :: l, g => if (tub s).lo ≤ g ∧ g ≤ (tub s).hi then mins (fun f => if f - m ≤ g ∧ g ≤ f + m then (if comF m l f < never then comF m l f + cst s (g - f) else never) else never) (rgB l).lo (cnt (rgB l).lo (rgB l).hi) else never
theorem com_rg {m : Int} {l : List St} (ho : ∀ s ∈ l, okSB s = true) {g : Int} (h : com m l g < never) : (rgB l).lo ≤ g ∧ g ≤ (rgB l).hi ∧ -200 ≤ g ∧ g ≤ 200 := by
  cases l with
  | nil =>
    unfold com at h
    split at h
    · rename_i h0; subst h0; simp [rgB]
    · omega
  | cons s l =>
    have h1 := com_tube h
    have h2 := tub_in (ho s (by simp)) h1.1 h1.2
    exact ⟨h1.1, h1.2, h2.1, h2.2⟩
theorem comF_never (m : Int) : ∀ (l : List St) (g : Int), comF m l g ≤ never
  | [], g => by unfold comF; split <;> simp [never]
  | s :: l, g => by unfold comF; split; exact mins_never _ _ _; exact Int.le_refl _
theorem com_fast {m : Int} : ∀ {l : List St} (_ : ∀ s ∈ l, okSB s = true) (g : Int), com m l g = comF m l g
  | [], _, g => rfl
  | s :: l, ho, g => by
    have ih := com_fast (m := m) (l := l) (fun x hx => ho x (by simp [hx]))
    refine min_eq_of (fun h => ?_) (fun h => ?_) (com_never _ _ _) (comF_never _ _ _)
    · obtain ⟨f, hf, h1, ⟨m1, m2, m3, m4⟩, h3⟩ := com_at h
      have hr := com_rg (fun x hx => ho x (by simp [hx])) h1
      unfold comF
      rw [if_pos ⟨m1, m2⟩]
      have hc := (cnt_lt (lo := (rgB l).lo) (hi := (rgB l).hi) (g := f)).2 ⟨hr.1, hr.2.1⟩
      have := mins_le (fun f => if f - m ≤ g ∧ g ≤ f + m then (if comF m l f < never then comF m l f + cst s (g - f) else never) else never) (rgB l).lo _ f hc.1 hc.2
      try simp only at this
      rw [if_pos ⟨m3, m4⟩, ← ih f, if_pos h1] at this
      omega
    · unfold comF at h
      split at h
      · rename_i ht
        obtain ⟨f, h1, h2, h3⟩ := mins_at _ _ _ h
        try simp only at h3
        have hcf : comF m (s :: l) g = mins (fun f => if f - m ≤ g ∧ g ≤ f + m then (if comF m l f < never then comF m l f + cst s (g - f) else never) else never) (rgB l).lo (cnt (rgB l).lo (rgB l).hi) := by
          show (if _ then _ else _) = _
          rw [if_pos ht]
        rw [← hcf] at h3 h
        split at h3
        · rename_i hm
          split at h3
          · rename_i hc
            rw [← ih f] at h3 hc
            have hr := com_rg (fun x hx => ho x (by simp [hx])) hc
            have := com_step (s := s) hc ⟨ht.1, ht.2, hm.1, hm.2⟩ ⟨hr.2.2.1, hr.2.2.2⟩
            omega
          · omega
        · omega
      · omega
/-- With a number at a station. -/
def witFs (m : Int) (pre : List St) (s : St) (post : List St) (d : Int) : Int :=
  mins (fun g => comF m pre (g - d) + tgo m post g + cst s d) (max (tub s).lo (-200 + d)) (cnt (max (tub s).lo (-200 + d)) (min (tub s).hi (200 + d)))
theorem wit_fast {m : Int} {pre : List St} (ho : ∀ s ∈ pre, okSB s = true) (s : St) (post : List St) (d : Int) : wit m pre s post d = witFs m pre s post d := by
  unfold wit witFs
  congr 1
  funext g
  rw [com_fast ho]
end Vp

set_option linter.all false
namespace Go.Proofs.Ytgbegdjakadbbaa
open Go.RowKit Vp

theorem ex_ok : blaE (exS 1) 10 = 0 ∧ blaE (exS 3) 10 = 0 ∧ blaE (exS 1) 1 = 0 := by decide +kernel
theorem ex_okB : OkB (exS 1) 10 := blaE_ok.1 ex_ok.1
theorem ex_aft : aftE (exS 1) 10 [0, -3, -1, 2] = 0 ∧ aftL (exS 1) 10 [0, -3, -1, 2] = [0, 1, 1, -1] := by decide +kernel
theorem ex_chk1 : chkE (exS 1) 10 [0, -3, -1, 2] = 0 ∧ chkV (exS 1) 10 [0, -3, -1, 2] = 6 := by decide +kernel
theorem ex_chk2 : chkE (exS 1) 10 [0, -3, 0, 0] = 18 ∧ chkV (exS 1) 10 [0, -3, 0, 0] = 0 := by decide +kernel
theorem ex_tgo : tgo 10 (exS 1) 0 = 6 ∧ tgo 10 (exS 3) 0 = 10 ∧ tgo 1 (exS 1) 0 = never := by decide +kernel
theorem ex_bst : bstE (exS 1) 10 = (6, 0) ∧ bstE (exS 3) 10 = (10, 0) ∧ bstE (exS 1) 1 = (0, 18) := by
  unfold bstE
  rw [ex_ok.1, ex_ok.2.1, ex_ok.2.2, ex_tgo.1, ex_tgo.2.1, ex_tgo.2.2]
  decide
/-- Best blows of any blade make it straight. -/
theorem bst_chk {l : List St} {m : Int} (h : blaE l m = 0) (h2 : tgo m l 0 < never) : bstX l m = grd m l 0 ∧ Fe m l 0 (bstX l m) ∧ chkE l m (bstX l m) = 0 ∧ chkV l m (bstX l m) = tgo m l 0 := by
  have hB := blaE_ok.1 h
  obtain ⟨h3, h4⟩ := grd_spec hB.all h2
  have h5 : bstX l m = grd m l 0 := by unfold bstX; rw [if_pos ⟨h, h2⟩]
  rw [h5]
  have h6 := (chk_fe hB).2 h3
  exact ⟨rfl, h3, h6, by rw [chk_cost h6, h4]⟩
theorem allIn_of {lo hi : Int} {l : List Int} (h : ∀ p ∈ l, lo ≤ p ∧ p ≤ hi) : allIn lo hi l = true := by
  rw [allIn_iff]
  intro i hi2
  rw [inB_iff]
  refine h _ ?_
  unfold nthI
  rw [List.getD_eq_getElem?_getD, List.getElem?_eq_getElem hi2]
  exact List.getElem_mem hi2
/-- Their pulls prove what they cost. -/
theorem pls_chp {l : List St} {m : Int} (h : blaE l m = 0) (h2 : tgo m l 0 < never) : (plsX l m).length = l.length ∧ chpE l m (plsX l m) = 0 ∧ chpV l m (plsX l m) = tgo m l 0 := by
  have hB := blaE_ok.1 h
  obtain ⟨h3, h4⟩ := grd_spec hB.all h2
  have h5 : plsX l m = (pul m l 0 ⟨-9, 9⟩ (grd m l 0)).1 := by unfold plsX; rw [if_pos ⟨h, h2⟩]; rfl
  obtain ⟨-, -, h6, h7⟩ := strong hB.all h3 h4 (inn_start m l 0)
  have h8 := pul_length m l 0 ⟨-9, 9⟩ (grd m l 0) (grd_length m l 0)
  rw [h5]
  have h9 := chp_ok (ps := (pul m l 0 ⟨-9, 9⟩ (grd m l 0)).1) h h8 (allIn_of fun p hp => by have := h7 p hp; omega)
  refine ⟨h8, h9.1, ?_⟩
  rw [h9.2, h6, h4]; simp
theorem ex_cls : ∀ a b e, ClQ (exS 1) 1 a b e → a = -1 ∧ b = 1 ∧ e = 0 := by
  intro a b e h
  unfold ClQ at h
  rw [if_pos ex_ok.2.2] at h
  have c02 : clB (exS 1) 1 0 2 = true := by decide +kernel
  have c01 : clB (exS 1) 1 0 1 = false := by decide +kernel
  rcases h with ⟨i, k, hik, hk, hc, hn, rfl, rfl, rfl⟩ | ⟨hn, _⟩
  · have hi : i = 0 := by
      rcases Nat.eq_zero_or_pos i with h0 | h0
      · exact h0
      · have := hn 0 2 (by decide) (by decide) (.inl h0)
        rw [c02] at this; cases this
    subst hi
    have h2 : k = 2 := by
      rcases Nat.lt_trichotomy k 2 with h0 | h0 | h0
      · obtain rfl : k = 1 := by omega
        rw [c01] at hc; cases hc
      · exact h0
      · have := hn 0 2 (by decide) (by decide) (.inr ⟨rfl, h0⟩)
        rw [c02] at this; cases this
    subst h2
    exact ⟨by decide, by decide, rfl⟩
  · have := hn 0 2 (by decide) (by decide)
    rw [c02] at this; cases this
theorem exS_ok (k : Nat) : ∀ s ∈ ((exS 1).take k).reverse, okSB s = true := fun s hs => ex_okB.all s (List.mem_of_mem_take (List.mem_reverse.1 hs))
theorem bdsF_fast (k : Nat) : bdsF (exS 1) 10 k = (lst (-200) 401).filter fun f => decide (comF 10 ((exS 1).take k).reverse f < never) && decide (tgo 10 ((exS 1).drop k) f < never) := by
  unfold bdsF
  congr 1
  funext f
  rw [com_fast (exS_ok k)]
theorem atE_ex (s : Int) (h : 0 ≤ s ∧ s < 4) : atE (exS 1) 10 s = 0 := atE_in ex_ok.1 (by show ¬ (s < 0 ∨ ((4 : Nat) : Int) ≤ s); omega)
theorem ex_bds1 : bdsL (exS 1) 10 1 = (-5, -3, 0) := by
  unfold bdsL
  rw [atE_ex 1 (by decide), if_pos rfl, bdsF_fast]
  decide +kernel
theorem witK_fast (k : Nat) (d : Int) : witK 10 (exS 1) k d = witFs 10 ((exS 1).take k).reverse (nthS (exS 1) k) ((exS 1).drop (k + 1)) d := wit_fast (exS_ok k) _ _ _
theorem spnF_fast (k : Nat) : spnF (exS 1) 10 k = (lst (-10) (cnt (-10) 10)).filter fun d => witFs 10 ((exS 1).take k).reverse (nthS (exS 1) k) ((exS 1).drop (k + 1)) d == 6 := by
  unfold spnF
  congr 1
  funext d
  rw [witK_fast, ex_tgo.1]
theorem ex_spn1 : spnL (exS 1) 10 1 = (-4, -2, 0) := by
  unfold spnL
  rw [atE_ex 1 (by decide), if_pos rfl, ex_tgo.1, if_pos (by decide), spnF_fast]
  decide +kernel
theorem ex_wit : witK 10 (exS 1) 0 1 = 8 := by rw [witK_fast]; decide +kernel
theorem ex_lst : lstE (exS 1) 10 0 1 = 0 ∧ lstV (exS 1) 10 0 1 = 8 := by
  have h := lst_ok (l := exS 1) (m := 10) (s := 0) (d := 1) (atE_ex 0 (by decide)) (by decide) (by show witK 10 (exS 1) 0 1 < never; rw [ex_wit]; decide)
  exact ⟨h.1, h.2.trans ex_wit⟩
theorem ex_chp : chpE (exS 1) 10 [0, 0, -2, 1] = 0 ∧ chpV (exS 1) 10 [0, 0, -2, 1] = 6 := by decide +kernel
end Go.Proofs.Ytgbegdjakadbbaa
