/- A list of ranges in a block of its own: its cells, and what is stored; what has been had, from the last step back. -/
import Derived.Test.YtkibdciomheekaaP11
set_option linter.all false
set_option linter.unnecessarySimpa false
set_option linter.unusedSimpArgs false
set_option linter.unusedVariables false
set_option linter.unusedSectionVars false

set_option linter.all false
namespace Go.Proofs.Ytkibdciomheekaa
open Go.RowKit Hp

section
variable {W : World} {base g n c : Nat} {l : List Rg}
theorem OwnR.blk (h : OwnR W base (.slice (some ⟨g, 0, none⟩) n c) l) : ∃ cur, BK W g cur 33 ∧ base ≤ g ∧ n = l.length ∧ n ≤ c ∧ c ≤ maxLen ∧ cur.size = c * 2 ∧ cur.toList.take (n * 2) = ofG encR l := by
  obtain ⟨hl, h2⟩ := h
  rcases h2 with ⟨hv, _⟩ | ⟨g1, cap1, cur, hv, hbg, hh, hc, hm, hs, htk⟩
  · cases hv
  · injection hv with hv1 hv2 hv3
    injection hv1 with hv1; injection hv1 with hv1
    subst hv1; subst hv3
    rw [hv2]
    exact ⟨cur, hh, hbg, rfl, hc, hm, hs, htk⟩
theorem OwnR.at (h : OwnR W base (.slice (some ⟨g, 0, none⟩) n c) l) {k : Nat} (hk : k < l.length) :
    W.cell? ⟨g, k * 2, none⟩ = some (.int .i64 (nthB l k).lo) ∧ W.cell? ⟨g, k * 2 + 1, none⟩ = some (.int .i64 (nthB l k).hi) := by
  obtain ⟨A, cap, b, off, hv, hA, hc⟩ := (OwnR.ri h).cells
  injection hv with h1 h2 h3
  obtain ⟨h4, _⟩ := hA (by omega)
  rw [h4] at h1
  injection h1 with h1
  injection h1 with h1 h5
  subst h1; subst h5
  have := hc k hk
  simpa using this
theorem OwnR.lt' (h : OwnR W base (.slice (some ⟨g, 0, none⟩) n c) l) : g < W.heap.size ∧ base ≤ g := by
  obtain ⟨cur, hb, h1, _⟩ := h.blk
  exact ⟨hb.lt, h1⟩
theorem OwnR.fz (h : OwnR W base (.slice (some ⟨g, 0, none⟩) n c) l) (k : Nat) : W.frozen? ⟨g, k, none⟩ = false := by
  obtain ⟨cur, hb, _⟩ := h.blk
  exact hb.frozen k
end
theorem ofG_set {α : Type} {enc : α → List Value} {s : Nat} (he : ∀ x, (enc x).length = s) : ∀ (l : List α) (k : Nat) (x : α), k < l.length → ofG enc (l.set k x) = (ofG enc l).take (k * s) ++ enc x ++ (ofG enc l).drop ((k + 1) * s)
  | [], k, x, h => by simp at h
  | a :: t, 0, x, _ => by
    have ha := he a
    simp [ofG, List.drop_append, ha]
  | a :: t, k + 1, x, h => by
    have ha := he a
    have ih := ofG_set he t k x (by simpa using h)
    simp only [ofG, List.set_cons_succ, List.flatMap_cons] at ih ⊢
    have t1 : List.take ((k + 1) * s) (enc a) = enc a := List.take_of_length_le (by rw [ha, Nat.succ_mul]; omega)
    have t2 : List.drop ((k + 1 + 1) * s) (enc a) = [] := List.drop_of_length_le (by rw [ha, Nat.succ_mul (k + 1)]; omega)
    have e1 : (k + 1) * s - s = k * s := by rw [Nat.succ_mul]; omega
    have e2 : (k + 1 + 1) * s - s = (k + 1) * s := by rw [Nat.succ_mul (k + 1)]; omega
    rw [ih, List.take_append, List.drop_append, ha, t1, t2, e1, e2, List.nil_append, List.append_assoc, List.append_assoc, List.append_assoc]
theorem set2 (L : List Value) (i : Nat) (a b : Value) (h : i + 2 ≤ L.length) : (L.set i a).set (i + 1) b = L.take i ++ [a, b] ++ L.drop (i + 2) := by
  apply List.ext_getElem?
  intro j
  have hti : (L.take i).length = i := by rw [List.length_take]; omega
  rw [List.append_assoc]
  by_cases h1 : j < i
  · rw [List.getElem?_append_left (by omega), List.getElem?_take_of_lt h1, List.getElem?_set_ne (by omega), List.getElem?_set_ne (by omega)]
  · rw [List.getElem?_append_right (by omega), hti]
    by_cases h2 : j < i + 2
    · rw [List.getElem?_append_left (by simp; omega)]
      rcases (show j = i ∨ j = i + 1 by omega) with rfl | rfl
      · rw [List.getElem?_set_ne (by omega), List.getElem?_set_self (by omega)]; simp
      · rw [List.getElem?_set_self (by simp; omega)]; simp [show i + 1 - i = 1 by omega]
    · rw [List.getElem?_append_right (by simp; omega), List.getElem?_drop, List.getElem?_set_ne (by omega), List.getElem?_set_ne (by omega)]
      congr 1
      simp; omega
theorem OwnR.set {W : World} {base g n c : Nat} {l : List Rg} (h : OwnR W base (.slice (some ⟨g, 0, none⟩) n c) l) {p : Nat} (hp : p < l.length) (x : Rg) :
    OwnR ((W.setCell ⟨g, p * 2, none⟩ (.int .i64 x.lo)).setCell ⟨g, p * 2 + 1, none⟩ (.int .i64 x.hi)) base (.slice (some ⟨g, 0, none⟩) n c) (l.set p x) := by
  obtain ⟨cur, hb, h1, h2, h3, h4, h5, h6⟩ := h.blk
  have hp3 : p * 2 + 2 ≤ n * 2 := by omega
  have hn3 : n * 2 ≤ c * 2 := by omega
  have hlen := ofG_length encR_len l
  refine ⟨by rw [ofG_length encR_len], .inr ⟨g, c, _, by rw [List.length_set, h2], h1, (hb.set (p * 2) _).set (p * 2 + 1) _, by rw [List.length_set]; omega, h4, by simp [h5], ?_⟩⟩
  rw [List.length_set, ← h2, Array.toList_setIfInBounds, Array.toList_setIfInBounds, set2 _ _ _ _ (by rw [Array.length_toList, h5]; omega), ofG_set encR_len l p x hp, ← h6]
  have hcl : cur.toList.length = c * 2 := by rw [Array.length_toList, h5]
  rw [List.take_take, Nat.min_eq_left (by omega), List.append_assoc, List.append_assoc, List.take_append, List.length_take, hcl, Nat.min_eq_left (by omega), List.take_of_length_le (l := List.take (p * 2) cur.toList) (by rw [List.length_take]; omega)]
  congr 1
  rw [show encR x = [.int .i64 x.lo, .int .i64 x.hi] from rfl, List.take_append, List.take_of_length_le (by simp; omega)]
  congr 1
  simp only [List.length_cons, List.length_nil]
  rw [show n * 2 - p * 2 - (0 + 1 + 1) = n * 2 - (p * 2 + 2) by omega, show (p + 1) * 2 = p * 2 + 2 by omega, List.drop_take]
/-- From the last step back: what has been had is known of the steps from j on. -/
def hadS (r : Rg) (ws : List Wy) (m : Rg) (j : Nat) : List Rg := (thr r ws).take j ++ hadL (endR r (ws.take j)) (ws.drop j) m
theorem hadS_zero (r : Rg) (ws : List Wy) (m : Rg) : hadS r ws m 0 = hadL r ws m := by simp [hadS, endR]
theorem hadS_take_len {r : Rg} {ws : List Wy} {j : Nat} (h : j ≤ ws.length) : ((thr r ws).take j).length = j := by rw [List.length_take, thr_len]; omega
theorem hadS_len {r : Rg} {ws : List Wy} {m : Rg} {j : Nat} (h : j ≤ ws.length) : (hadS r ws m j).length = ws.length + 1 := by
  unfold hadS
  rw [List.length_append, hadS_take_len h, hadL_len, List.length_drop]; omega
theorem hadS_at {r : Rg} {ws : List Wy} {m : Rg} {j : Nat} (h : j ≤ ws.length) : nthB (hadS r ws m j) j = headR (hadL (endR r (ws.take j)) (ws.drop j) m) := by
  unfold hadS nthB
  rw [List.getD_eq_getElem?_getD, List.getElem?_append_right (by rw [hadS_take_len h]; omega), hadS_take_len h, Nat.sub_self]
  cases q : hadL (endR r (ws.take j)) (ws.drop j) m with
  | nil => exact absurd q hadL_ne
  | cons a l => rfl
theorem hadS_old {r : Rg} {ws : List Wy} {m : Rg} {j : Nat} (h : j < ws.length) : nthB (hadS r ws m (j + 1)) j = endR r (ws.take j) := by
  unfold hadS nthB
  rw [List.getD_eq_getElem?_getD, List.getElem?_append_left (by rw [hadS_take_len (by omega)]; omega), List.getElem?_take_of_lt (by omega), thr_at r ws j (by omega)]
  rfl
theorem hadS_end (r : Rg) (ws : List Wy) (m : Rg) : (thr r ws).set ws.length (meet (endR r ws) m) = hadS r ws m ws.length := by
  have e : thr r ws = (thr r ws).take ws.length ++ [endR r ws] := by
    have h1 : (thr r ws).take (ws.length + 1) = thr r ws := List.take_of_length_le (by rw [thr_len]; omega)
    conv => lhs; rw [← h1]
    rw [List.take_add_one, thr_last]; rfl
  unfold hadS
  rw [List.take_length, List.drop_length]
  show _ = (thr r ws).take ws.length ++ [meet (endR r ws) m]
  conv => lhs; rw [e]
  rw [List.set_append_right _ _ (by rw [hadS_take_len (Nat.le_refl _)]; omega), hadS_take_len (Nat.le_refl _), Nat.sub_self]
  rfl
theorem hadS_set {r : Rg} {ws : List Wy} {m : Rg} {j : Nat} (h : j < ws.length) :
    (hadS r ws m (j + 1)).set j (backP (nthW ws j) (endR r (ws.take j)) (headR (hadL (endR r (ws.take (j + 1))) (ws.drop (j + 1)) m))) = hadS r ws m j := by
  have e : endR r (ws.take (j + 1)) = via (nthW ws j) (endR r (ws.take j)) := by
    rw [List.take_add_one, List.getElem?_eq_getElem h, nthW_eq h]
    exact endR_snoc _ _ _
  have e2 : ws.drop j = nthW ws j :: ws.drop (j + 1) := by rw [nthW_eq h, List.getElem_cons_drop]
  have e3 : (thr r ws).take (j + 1) = (thr r ws).take j ++ [endR r (ws.take j)] := by rw [List.take_add_one, thr_at r ws j (by omega)]; rfl
  unfold hadS
  rw [e, e2, e3, List.append_assoc, List.set_append_right _ _ (by rw [hadS_take_len (by omega)]; omega), hadS_take_len (by omega), Nat.sub_self]
  rfl
end Go.Proofs.Ytkibdciomheekaa
