/- Plain: some blows make a blade straight, or two tubes contradict each other. Words of the laws. -/
import Derived.Test.YtgbegdjakadbbaaP1
import Derived.Test.YtgbegdjakadbbaaP25
import Derived.Test.YtgbegdjakadbbaaP26
set_option linter.all false
set_option linter.unnecessarySimpa false
set_option linter.unusedSimpArgs false
set_option linter.unusedVariables false
set_option linter.unusedSectionVars false

namespace Vp
theorem nthS' {l : List St} {d : St} : ∀ (_ : List St) (k : Nat), (List.getD (d :: l) (k + 1) ⟨0, 0, 0, 0⟩) = List.getD l k ⟨0, 0, 0, 0⟩ := fun _ k => by simp
/-- A station by its number. -/
def atS (l : List St) (k : Nat) : St := l.getD k ⟨0, 0, 0, 0⟩
theorem atS_zero (s : St) (l : List St) : atS (s :: l) 0 = s := by simp [atS]
theorem atS_succ (s : St) (l : List St) (k : Nat) : atS (s :: l) (k + 1) = atS l k := by simp [atS]
theorem reach {m : Int} (hm : 0 ≤ m) : ∀ {l : List St} {a b : Int}, a ≤ b → (∀ s ∈ l, (tub s).lo ≤ (tub s).hi) →
    (∀ k, k < l.length → (tub (atS l k)).lo ≤ b + m * ((k : Int) + 1) ∧ a - m * ((k : Int) + 1) ≤ (tub (atS l k)).hi) →
    (∀ i k, i < k → k < l.length → (tub (atS l k)).lo - (tub (atS l i)).hi ≤ m * ((k : Int) - i) ∧ (tub (atS l i)).lo - (tub (atS l k)).hi ≤ m * ((k : Int) - i)) →
    ∃ f ds, a ≤ f ∧ f ≤ b ∧ Fe m l f ds
  | [], a, b, hab, _, _, _ => ⟨a, [], by omega, hab, trivial⟩
  | s :: l, a, b, hab, ht, h1, h2 => by
    have t0 := ht s (by simp)
    have k0 := h1 0 (by simp)
    rw [atS_zero] at k0
    simp only [Int.natCast_zero, Int.zero_add, Int.mul_one] at k0
    obtain ⟨f, ds, q1, q2, q3⟩ := reach hm (l := l) (a := max (tub s).lo (a - m)) (b := min (tub s).hi (b + m)) (by omega) (fun x hx => ht x (by simp [hx]))
      (fun k hk => by
        have r1 := h1 (k + 1) (by simpa using hk)
        have r2 := h2 0 (k + 1) (by omega) (by simpa using hk)
        rw [atS_succ] at r1 r2
        rw [atS_zero] at r2
        have e1 : m * (((k + 1 : Nat) : Int) + 1) = m * ((k : Int) + 1) + m := by rw [show (((k + 1 : Nat) : Int) + 1) = ((k : Int) + 1) + 1 by omega, Int.mul_add m ((k : Int) + 1) 1, Int.mul_one]
        have e2 : m * (((k + 1 : Nat) : Int) - ((0 : Nat) : Int)) = m * ((k : Int) + 1) := by rw [show (((k + 1 : Nat) : Int) - ((0 : Nat) : Int)) = (k : Int) + 1 by omega]
        rw [e1] at r1
        rw [e2] at r2
        omega)
      (fun i k hik hk => by
        have r2 := h2 (i + 1) (k + 1) (by omega) (by simpa using hk)
        rw [atS_succ, atS_succ, show (((k + 1 : Nat) : Int) - ((i + 1 : Nat) : Int)) = (k : Int) - i by omega] at r2
        exact r2)
    refine ⟨max a (min b f), (f - max a (min b f)) :: ds, by omega, by omega, ⟨by omega, by omega, ?_⟩⟩
    rw [show max a (min b f) + (f - max a (min b f)) = f by omega]
    exact q3
theorem Fe.far {m : Int} : ∀ {l : List St} {f : Int} {ds : List Int}, Fe m l f ds → ∀ k, k < l.length → ∃ g, (tub (atS l k)).lo ≤ g ∧ g ≤ (tub (atS l k)).hi ∧ g - f ≤ m * ((k : Int) + 1) ∧ f - g ≤ m * ((k : Int) + 1)
  | [], _, _, _, k, hk => by simp at hk
  | s :: l, f, d :: ds, h, 0, _ => by
    rw [atS_zero]
    simp only [Int.natCast_zero, Int.zero_add, Int.mul_one]
    obtain ⟨h1, h2, h3⟩ := h
    exact ⟨f + d, h2.1, h2.2, by omega, by omega⟩
  | s :: l, f, d :: ds, h, k + 1, hk => by
    obtain ⟨g, h1, h2, h3, h4⟩ := Fe.far h.2.2 k (by simpa using hk)
    rw [atS_succ]
    have e1 : m * (((k + 1 : Nat) : Int) + 1) = m * ((k : Int) + 1) + m := by rw [show (((k + 1 : Nat) : Int) + 1) = ((k : Int) + 1) + 1 by omega, Int.mul_add m ((k : Int) + 1) 1, Int.mul_one]
    rw [e1]
    have := h.1
    exact ⟨g, h1, h2, by omega, by omega⟩
  | _ :: _, _, [], h, _, _ => h.elim
theorem Fe.pair {m : Int} : ∀ {l : List St} {f : Int} {ds : List Int}, Fe m l f ds → ∀ i k, i < k → k < l.length → (tub (atS l k)).lo - (tub (atS l i)).hi ≤ m * ((k : Int) - i) ∧ (tub (atS l i)).lo - (tub (atS l k)).hi ≤ m * ((k : Int) - i)
  | [], _, _, _, _, k, _, hk => by simp at hk
  | s :: l, f, d :: ds, h, 0, k + 1, _, hk => by
    obtain ⟨g, h1, h2, h3, h4⟩ := Fe.far h.2.2 k (by simpa using hk)
    rw [atS_succ, atS_zero, show (((k + 1 : Nat) : Int) - ((0 : Nat) : Int)) = (k : Int) + 1 by omega]
    have := h.2.1
    omega
  | s :: l, f, d :: ds, h, i + 1, k + 1, hik, hk => by
    have := Fe.pair h.2.2 i k (by omega) (by simpa using hk)
    rw [atS_succ, atS_succ, show (((k + 1 : Nat) : Int) - ((i + 1 : Nat) : Int)) = (k : Int) - i by omega]
    exact this
  | _ :: _, _, [], h, _, _, _, _ => h.elim
/-- Either some blows make it straight, or two tubes (that of the beginning first) contradict each other. -/
theorem either {m : Int} {l : List St} (hm : 0 ≤ m) (ht : ∀ s ∈ l, (tub s).lo ≤ (tub s).hi) :
    (∃ ds, Fe m l 0 ds) ↔ (∀ k, k < l.length → (tub (atS l k)).lo ≤ m * ((k : Int) + 1) ∧ -(tub (atS l k)).hi ≤ m * ((k : Int) + 1)) ∧ (∀ i k, i < k → k < l.length → (tub (atS l k)).lo - (tub (atS l i)).hi ≤ m * ((k : Int) - i) ∧ (tub (atS l i)).lo - (tub (atS l k)).hi ≤ m * ((k : Int) - i)) := by
  constructor
  · rintro ⟨ds, h⟩
    refine ⟨fun k hk => ?_, fun i k => h.pair i k⟩
    obtain ⟨g, h1, h2, h3, h4⟩ := h.far k hk
    omega
  · rintro ⟨h1, h2⟩
    obtain ⟨f, ds, q1, q2, q3⟩ := reach hm (l := l) (a := 0) (b := 0) (Int.le_refl _) ht (fun k hk => by have := h1 k hk; omega) h2
    obtain rfl : f = 0 := by omega
    exact ⟨ds, q3⟩
end Vp

set_option linter.all false
namespace Go.Proofs.Ytgbegdjakadbbaa
open Go.RowKit Vp

theorem fineB_bla {l : List St} {m : Int} (h : fineB l m = true) : blaE l m = 0 := by
  unfold fineB at h
  rw [Bool.and_eq_true] at h
  simpa using h.2
theorem fineB_ok {l : List St} {m : Int} (h : fineB l m = true) : OkB l m := blaE_ok.1 (fineB_bla h)
/-- What Best says of a valid blade. -/
theorem bst_yes {l : List St} {m : Int} (h : blaE l m = 0) (h2 : tgo m l 0 < never) : bstE l m = (tgo m l 0, 0) := by unfold bstE; rw [if_pos h, if_pos h2]
theorem bst_no {l : List St} {m : Int} (h : blaE l m = 0) (h2 : ¬ tgo m l 0 < never) : bstE l m = (0, 18) ∧ bstX l m = [] ∧ plsE l m = 18 ∧ plsX l m = [] :=
  ⟨by unfold bstE; rw [if_pos h, if_neg h2], by unfold bstX; rw [if_neg (fun q => h2 q.2)], by unfold plsE; rw [if_pos h, if_neg h2], by unfold plsX; rw [if_neg (fun q => h2 q.2)]⟩
theorem pls_yes {l : List St} {m : Int} (h : blaE l m = 0) (h2 : tgo m l 0 < never) : plsE l m = 0 := by unfold plsE; rw [if_pos h, if_pos h2]
/-- No blows that make it straight cost less. -/
theorem chk_ge {l : List St} {m : Int} {bl : List Int} (hB : OkB l m) (h : chkE l m bl = 0) : tgo m l 0 < never ∧ tgo m l 0 ≤ chkV l m bl := by
  have h1 := (chk_fe hB).1 h
  refine ⟨(hB.tgo_lt hB.few hB.all).2 ⟨_, h1⟩, ?_⟩
  rw [chk_cost h]
  exact tgo_le h1
/-- No pulls bound more. -/
theorem chp_le {l : List St} {m : Int} {bl ps : List Int} (hB : OkB l m) (h : chkE l m bl = 0) (h2 : chpE l m ps = 0) : chpV l m ps ≤ chkV l m bl := by
  have h1 := (chk_fe hB).1 h
  have hb : blaE l m = 0 := blaE_ok.2 hB
  have hl : ps.length = l.length := by
    by_cases hl : ps.length = l.length
    · exact hl
    · have := (chp_len hb hl).1; omega
  rw [chk_cost h]
  unfold chpV
  rw [if_pos h2]
  have := weak hB.all h1 hl
  omega
theorem chp_bst {l : List St} {m : Int} {ps : List Int} (hb : blaE l m = 0) (h : tgo m l 0 < never) (h2 : chpE l m ps = 0) : chpV l m ps ≤ tgo m l 0 := by
  have h1 := bst_chk hb h
  have := chp_le (blaE_ok.1 hb) h1.2.2.1 h2
  omega
theorem ri_slice {w : World} {B : Nat} {v : Value} {l : List Int} (h : RI w B v l) : ∃ A c, v = .slice A l.length c := by
  obtain ⟨A, c, b, off, hv, _⟩ := h
  exact ⟨A, c, hv⟩
end Go.Proofs.Ytgbegdjakadbbaa
