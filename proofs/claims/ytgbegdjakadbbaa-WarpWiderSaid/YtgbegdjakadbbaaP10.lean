/- Rows of the table of what blows before a station cost, plainly. -/
import Derived.Test.YtgbegdjakadbbaaP9
set_option linter.all false
set_option linter.unnecessarySimpa false
set_option linter.unusedSimpArgs false
set_option linter.unusedVariables false
set_option linter.unusedSectionVars false

set_option linter.all false
attribute [local go_sem] Go.Oper.semAt_some
namespace Go.Proofs.Ytgbegdjakadbbaa
open Go.RowKit Vp

def cmF (m : Int) (s : St) (pre : List St) (g : Int) : Int → Int := fun f => if com m pre f < never ∧ mayB s m f g then com m pre f + cst s (g - f) else never
theorem com_cons (m : Int) (s : St) (pre : List St) (g : Int) : com m (s :: pre) g = mins (cmF m s pre g) (-200) 401 := rfl
/-- The row behind a station by the first n bends before it. -/
def cmU (m : Int) (s : St) (pre : List St) (n : Nat) : Row := fun h => mins (cmF m s pre ((h : Int) - 200)) (-200) n
theorem cmU_zero (m : Int) (s : St) (pre : List St) : cmU m s pre 0 = neverR := rfl
theorem cmU_all (m : Int) (s : St) (pre : List St) : cmU m s pre 401 = cmR m (s :: pre) := rfl
theorem cmU_succ (m : Int) (s : St) (pre : List St) (n h : Nat) : cmU m s pre (n + 1) h = min (cmU m s pre n h) (cmF m s pre ((h : Int) - 200) (-200 + (n : Int))) := rfl
theorem cmU_never (m : Int) (s : St) (pre : List St) (n h : Nat) : cmU m s pre n h ≤ never := mins_never _ _ _
theorem cmU_skip {m : Int} {s : St} {pre : List St} {n : Nat} (hn : ¬ com m pre (-200 + (n : Int)) < never) : cmU m s pre (n + 1) = cmU m s pre n := by
  funext h
  rw [cmU_succ]
  have h1 := cmU_never m s pre n h
  unfold cmF
  rw [if_neg (fun hc => hn hc.1)]
  omega
/-- And by the first j bends behind it, too. -/
def cmJ (m : Int) (s : St) (pre : List St) (n j : Nat) : Row := fun h => if bLo s m (-200 + (n : Int)) ≤ (h : Int) - 200 ∧ (h : Int) - 200 < bLo s m (-200 + (n : Int)) + j then cmU m s pre (n + 1) h else cmU m s pre n h
theorem cmJ_zero (m : Int) (s : St) (pre : List St) (n : Nat) : cmJ m s pre n 0 = cmU m s pre n := by
  funext h
  exact if_neg (by omega)
theorem cmJ_at {m : Int} {s : St} {pre : List St} {n j x : Nat} (hx : (x : Int) - 200 = bLo s m (-200 + (n : Int)) + j) : cmJ m s pre n j x = cmU m s pre n x := if_neg (by omega)
theorem cmJ_step {m : Int} {s : St} {pre : List St} {n j x : Nat} (hx : (x : Int) - 200 = bLo s m (-200 + (n : Int)) + j) : seR (cmJ m s pre n j) x (cmU m s pre (n + 1) x) = cmJ m s pre n (j + 1) := by
  funext h
  unfold seR cmJ
  by_cases e : h = x
  · subst e; rw [if_pos rfl, if_pos (by omega)]
  · rw [if_neg e]
    by_cases h2 : bLo s m (-200 + (n : Int)) ≤ (h : Int) - 200 ∧ (h : Int) - 200 < bLo s m (-200 + (n : Int)) + j
    · rw [if_pos h2, if_pos (by omega)]
    · rw [if_neg h2, if_neg (by omega)]
theorem may_b {s : St} {m f g : Int} : mayB s m f g ↔ bLo s m f ≤ g ∧ g ≤ bHi s m f := by unfold mayB bLo bHi; omega
theorem cmJ_all (m : Int) (s : St) (pre : List St) (n : Nat) : cmJ m s pre n (cnt (bLo s m (-200 + (n : Int))) (bHi s m (-200 + (n : Int)))) = cmU m s pre (n + 1) := by
  funext h
  unfold cmJ
  by_cases h2 : bLo s m (-200 + (n : Int)) ≤ (h : Int) - 200 ∧ (h : Int) - 200 < bLo s m (-200 + (n : Int)) + (cnt (bLo s m (-200 + (n : Int))) (bHi s m (-200 + (n : Int))) : Nat)
  · rw [if_pos h2]
  · rw [if_neg h2, cmU_succ]
    have h1 := cmU_never m s pre n h
    have h3 : ¬ mayB s m (-200 + (n : Int)) ((h : Int) - 200) := fun hc => h2 (cnt_lt.2 (may_b.1 hc))
    unfold cmF
    rw [if_neg (fun hc => h3 hc.2)]
    omega
theorem cmU_min {m : Int} {s : St} {pre : List St} {n x : Nat} {b c : Int} (h1 : com m pre (-200 + (n : Int)) = b) (h2 : b < never) (h3 : mayB s m (-200 + (n : Int)) ((x : Int) - 200)) (h4 : cst s ((x : Int) - 200 - (-200 + (n : Int))) = c) :
    (if b + c < cmU m s pre n x then b + c else cmU m s pre n x) = cmU m s pre (n + 1) x := by
  rw [cmU_succ]
  have e : cmF m s pre ((x : Int) - 200) (-200 + (n : Int)) = b + c := by
    unfold cmF
    rw [if_pos ⟨by rw [h1]; exact h2, h3⟩, h1, h4]
  rw [e]
  omega
/-- Where nothing can be, nothing can be behind it. -/
theorem com_dead {m : Int} {pre : List St} (h : ∀ f, -200 ≤ f → f ≤ 200 → com m pre f = never) : ∀ (q : List St) (g : Int), -200 ≤ g → g ≤ 200 → com m (q ++ pre) g = never
  | [], g, h1, h2 => h g h1 h2
  | s :: q, g, h1, h2 => by
    have ih := com_dead h q
    refine Int.le_antisymm (com_never _ _ _) ?_
    rw [List.cons_append, com_cons]
    refine mins_ge (Int.le_refl _) fun f hf1 hf2 => ?_
    unfold cmF
    rw [if_neg]
    · exact Int.le_refl _
    · intro hc
      rw [ih f (by omega) (by omega)] at hc
      omega
theorem cmR_dead {m : Int} {l : List St} {i k : Nat} (hik : i ≤ k) (h : eqR (cmR m (l.take i).reverse) neverR = true) : rowL (cmR m (l.take i).reverse) = rowL (cmR m (l.take k).reverse) := by
  rw [eqR_iff] at h
  have hd : ∀ f, -200 ≤ f → f ≤ 200 → com m (l.take i).reverse f = never := fun f h1 h2 => by
    have := h (f + 200).toNat (by omega)
    unfold cmR at this
    rw [show (((f + 200).toNat : Nat) : Int) - 200 = f by omega] at this
    exact this
  have e : (l.take k).reverse = ((l.take k).drop i).reverse ++ (l.take i).reverse := by
    rw [← List.reverse_append]
    congr 1
    have := List.take_append_drop i (l.take k)
    rw [List.take_take, Nat.min_eq_left hik] at this
    exact this.symm
  refine rowL_ext fun x hx => ?_
  unfold cmR
  rw [e, com_dead hd _ _ (by omega) (by omega), hd _ (by omega) (by omega)]
theorem cmR_zero : cmR 0 [] 200 = 0 := rfl
theorem cm_start (m : Int) (l : List St) : seR neverR 200 0 = cmR m (l.take 0).reverse := by
  funext h
  unfold seR cmR
  rw [List.take_zero, List.reverse_nil]
  unfold com
  by_cases e : h = 200
  · subst e; rw [if_pos rfl, if_pos (by omega)]
  · rw [if_neg e, if_neg (by omega)]; rfl
theorem take_rev {l : List St} {k : Nat} (h : k < l.length) : (l.take (k + 1)).reverse = nthS l k :: (l.take k).reverse := by
  rw [List.take_succ_eq_append_getElem h, List.reverse_append, nthS_eq h]; rfl
/-- What lies while the table is made: the row's block is p. -/
structure CmSt (w : World) (n g p : Nat) (f : Row) (X : World) : Prop where
  b2 : BK X n #[.pointer (some ⟨g, 0, none⟩)] 71
  r4 : Rw X (n + 1) noR
  r5 : Rw X p f
  below : Below n w X
  lt : n + 1 < p
/-- What lies in a round over bends. -/
structure CmI (w : World) (n g p : Nat) (f : Row) (q : Nat) (i : Int) (q7 qa : Nat) (r7 : Row) (Ds : List Nat) (B : Nat) (X : World) : Prop where
  st : CmSt w n g p f X
  b6 : BK X q #[.int .i64 i] 3
  r7 : Rw X q7 r7
  cm : CntMem qa (qa + 1) (-200) 200 X
  mks : Marks Ds X
  size : B ≤ X.heap.size
section
variable {w : World} {n g p : Nat} {f : Row} {q : Nat} {i : Int} {q7 qa : Nat} {r7 : Row} {Ds : List Nat} {B C : Nat} {X Y : World}
theorem CmSt.adm (h : CmSt w n g p f X) (ha : Adm C X Y) (hC : n ≤ C) (hw : w.heap.size = n) : CmSt w n g p f Y :=
  ⟨ha.cells h.b2, h.r4.adm ha, h.r5.adm ha, ha.belowOf h.below (by omega) hC, h.lt⟩
theorem CmI.adm (h : CmI w n g p f q i q7 qa r7 Ds B X) (ha : Adm C X Y) (hC : n ≤ C) (hw : w.heap.size = n) (hD : ∀ D ∈ Ds, D < C) : CmI w n g p f q i q7 qa r7 Ds B Y :=
  ⟨h.st.adm ha hC hw, ha.cells h.b6, h.r7.adm ha, h.cm.adm ha, h.mks.adm ha hD, Nat.le_trans h.size ha.size⟩
theorem CmSt.far (h : CmSt w n g p f X) {r j : Nat} {u : Value} (h1 : p < r) : CmSt w n g p f (X.setCell ⟨r, j, none⟩ u) :=
  ⟨h.b2.far (by show n ≠ r; have := h.lt; omega) u, h.r4.far (by show n + 1 ≠ r; have := h.lt; omega) u, h.r5.far (by show p ≠ r; omega) u, Below.setCell h.below (by show n ≤ r; have := h.lt; omega) u, h.lt⟩
theorem CmSt.next (h : CmSt w n g p f X) (hb : Below X.heap.size X Y) (hw : w.heap.size = n) : CmSt w n g p f Y := h.adm (C := n) (Adm.below hb) (Nat.le_refl _) hw
theorem CmI.next (h : CmI w n g p f q i q7 qa r7 Ds B X) (hb : Below X.heap.size X Y) (hw : w.heap.size = n) : CmI w n g p f q i q7 qa r7 Ds B Y :=
  ⟨h.st.next hb hw, h.b6.below hb h.b6.lt, h.r7.below hb h.r7.lt, h.cm.below hb, h.mks.below hb, Nat.le_trans h.size hb.size⟩
end
end Go.Proofs.Ytgbegdjakadbbaa
