/- Rows of the program's tables, plainly; what lies while they are made. -/
import Derived.Test.YtgbegdjakadbbaaP7
set_option linter.all false
set_option linter.unnecessarySimpa false
set_option linter.unusedSimpArgs false
set_option linter.unusedVariables false
set_option linter.unusedSectionVars false

set_option linter.all false
attribute [local go_sem] Go.Oper.semAt_some
namespace Go.Proofs.Ytgbegdjakadbbaa
open Go.RowKit Vp

def tgR (m : Int) (l : List St) : Row := fun h => tgo m l ((h : Int) - 200)
def cmR (m : Int) (l : List St) : Row := fun h => com m l ((h : Int) - 200)
/-- The first n of a row. -/
def upto (r : Row) (n : Nat) : Row := fun h => if h < n then r h else never
theorem upto_zero (r : Row) : upto r 0 = neverR := by funext h; exact if_neg (by omega)
theorem upto_all (r : Row) : ∀ h, h < 401 → upto r 401 h = r h := fun h hh => if_pos hh
def tgF (m : Int) (s : St) (post : List St) (f : Int) : Int → Int := fun g => tgo m post g + cst s (g - f)
/-- Bend n of a row after so many bends behind it. -/
def inRw (m : Int) (s : St) (post : List St) (n j : Nat) : Row := seR (upto (tgR m (s :: post)) n) n (mins (tgF m s post ((n : Int) - 200)) (bLo s m ((n : Int) - 200)) j)
theorem inRw_zero (m : Int) (s : St) (post : List St) (n : Nat) : inRw m s post n 0 = upto (tgR m (s :: post)) n := by
  funext h
  unfold inRw seR
  by_cases e : h = n
  · subst e; rw [if_pos rfl]; unfold upto; rw [if_neg (by omega)]; rfl
  · rw [if_neg e]
theorem inRw_at (m : Int) (s : St) (post : List St) (n j : Nat) : inRw m s post n j n = mins (tgF m s post ((n : Int) - 200)) (bLo s m ((n : Int) - 200)) j := if_pos rfl
theorem inRw_step (m : Int) (s : St) (post : List St) (n j : Nat) : seR (inRw m s post n j) n (mins (tgF m s post ((n : Int) - 200)) (bLo s m ((n : Int) - 200)) (j + 1)) = inRw m s post n (j + 1) := by
  funext h
  unfold inRw seR
  by_cases e : h = n
  · rw [if_pos e, if_pos e]
  · rw [if_neg e, if_neg e, if_neg e]
theorem inRw_all (m : Int) (s : St) (post : List St) (n : Nat) : inRw m s post n (cnt (bLo s m ((n : Int) - 200)) (bHi s m ((n : Int) - 200))) = upto (tgR m (s :: post)) (n + 1) := by
  funext h
  unfold inRw seR
  by_cases e : h = n
  · subst e
    rw [if_pos rfl]; unfold upto; rw [if_pos (by omega)]; rfl
  · rw [if_neg e]
    unfold upto
    by_cases h2 : h < n
    · rw [if_pos h2, if_pos (by omega)]
    · rw [if_neg h2, if_neg (by omega)]
theorem mins_step {F : Int → Int} {lo : Int} {j : Nat} {b c : Int} (h : F (lo + j) = b + c) : (if b + c < mins F lo j then b + c else mins F lo j) = mins F lo (j + 1) := by
  simp only [mins, h]
  omega
theorem leave_row {fn : Func} {R : Ending → World → Prop} {tmps : Array Value} {v : Value} : ∀ (Ds : List Nat) (W : World), Marks Ds W →
    ((results fn tmps).run Try.prog (putAll Ds W) = .ok v (putAll Ds W)) → R (.returned v) (putAll Ds W) → bodyPostM Fence.wide 100 Try.prog fn R .ret { tmps, defers := Ds.map mk } W := by
  intro Ds
  induction Ds with
  | nil => intro W _ hv hR; exact ⟨v, hv, hR⟩
  | cons D Ds ih =>
    intro W hM hv hR
    refine ⟨by simp [mk], .inl ⟨_, _, rfl, run_takeDeferred (hM.2 D (by simp)), ?_⟩⟩
    refine ih _ ⟨(List.nodup_cons.1 hM.1).2, fun D' h' => ?_⟩ hv hR
    have hne : D' ≠ D := fun e => (List.nodup_cons.1 hM.1).1 (e ▸ h')
    rw [World.putObj_heap_other hne]
    exact hM.2 D' (by simp [h'])
theorem Rw.putAll {W : World} {g : Nat} {f : Row} (h : Rw W g f) {Ds : List Nat} (hM : Marks Ds W) : Rw (putAll Ds W) g f := by
  refine h.heap (putAll_other Ds W g fun hd => ?_)
  have h1 := hM.2 g hd
  obtain ⟨cs, h2, _⟩ := h
  unfold BK at h2
  rw [h1] at h2
  cases h2
theorem Marks.cons {D : Nat} {Ds : List Nat} {W' : World} {B : Nat} (h : Marks Ds W') (hD : W'.heap[D]? = some (.deferred (some []))) (hlt : ∀ D' ∈ Ds, D' < B) (hB : B ≤ D) : Marks (D :: Ds) W' :=
  ⟨List.nodup_cons.2 ⟨fun hm => by have := hlt D hm; omega, h.1⟩, fun D' h' => by
    rcases List.mem_cons.1 h' with rfl | h'
    · exact hD
    · exact h.2 D' h'⟩
theorem Marks.lt {Ds : List Nat} {W : World} (h : Marks Ds W) : ∀ D ∈ Ds, D < W.heap.size := fun D hD => (Array.getElem?_eq_some_iff.1 (h.2 D hD)).1
theorem Marks.below {Ds : List Nat} {W W' : World} (h : Marks Ds W) (hb : Below W.heap.size W W') : Marks Ds W' := h.adm (Adm.below (B := W.heap.size) hb) h.lt
theorem Marks.far {Ds : List Nat} {W : World} (h : Marks Ds W) {g i : Nat} {u : Value} {cs : Array Value} {t : TypeId} (hb : BK W g cs t) : Marks Ds (W.setCell ⟨g, i, none⟩ u) :=
  ⟨h.1, fun D hD => by
    rw [Below.heap_setCell _ _ _ _ (by rintro rfl; have := h.2 _ hD; unfold BK at hb; rw [hb] at this; cases this)]
    exact h.2 D hD⟩
theorem Marks.setRow {Ds : List Nat} {W : World} (h : Marks Ds W) {g : Nat} {f : Row} (hr : Rw W g f) (i : Nat) (u : Value) : Marks Ds (W.setCell ⟨g, i, none⟩ u) := by
  obtain ⟨cs, h2, _⟩ := hr
  exact h.far h2
theorem CntMem.far {ga gb q i : Nat} {lo hi : Int} {W : World} {u : Value} (h : CntMem ga gb lo hi W) (h1 : ga ≠ q) (h2 : gb ≠ q) : CntMem ga gb lo hi (W.setCell ⟨q, i, none⟩ u) := ⟨h.a.far h1 u, h.b.far h2 u⟩
theorem Marks.putRow {Ds : List Nat} {W : World} (h : Marks Ds W) {g : Nat} {f : Row} (hr : Rw W g f) (vs : List Value) (o : Nat) : Marks Ds (W.setCells g o vs) :=
  ⟨h.1, fun D hD => by
    rw [setCells_block g vs o W D (by
      rintro rfl
      have h1 := h.2 _ hD
      obtain ⟨cs, h2, _⟩ := hr
      unfold BK at h2
      rw [h1] at h2
      cases h2)]
    exact h.2 D hD⟩
/-- The statement in a round, the frame of a round by the frame ahead of it. -/
theorem wp_range_in_a {P : Program} {l₀ : Nat} {r₀ : Loop} {g : Operand} {ps : Array Tmp} {assign body : Code} {Q : Exit → Act → World → Prop} {a : Act} {w : World} {n : Nat} (hl₀ : w.heap[l₀]? = some (.loop r₀))
    {gf : Nat} {lb : Array Value} (hg : a.eval g = .func (.func gf) #[] lb) (eg : ∀ args w, (callFunc gf args).run P w = .ok (.enter gf args) w)
    {enc : Nat → Array Value} {N : Nat} {R : World → Prop} {T : TypeId → Prop} (hit : Iter P gf lb enc N R T) (hps : ∀ i, (enc i).size = ps.size)
    (I : Nat → World → Prop) (Ix : Code → Nat → World → Prop) (AxF : Array Value → Nat → Act → World → Prop) (hr : Rounds P T w.heap.size a.tmps ps assign body enc N I Ix (AxF a.tmps)) (hR : ∀ i W, I i W → R W) (h0 : I 0 w)
    (hdone : ∀ (W : World), I N W → Q .normal a W)
    (hstop : ∀ (c : Code) (i : Nat) (W : World), i < N → Ix c i W → c.wpIn (Fence.wide.inRound l₀) n P Q a W) :
    (Code.rangeFunc g ps assign body).wpIn (Fence.wide.inRound l₀) n P Q a w := wp_range_in hl₀ hg eg hit hps I Ix (AxF a.tmps) hr hR h0 hdone hstop
theorem zero_i64 : ∀ w, (zeroValue 2).run Try.prog w = .ok (.int .i64 0) w := (zero_of_info (n := 1) (by kernel_rfl)).1
theorem Rw.run_clear {W : World} {g : Nat} {f : Row} (h : Rw W g f) (ty c : Nat) : (Builtin.clear_ #[25] ty #[.slice (some ⟨g, 0, none⟩) 401 c]).run Try.prog W = .ok (.tuple #[]) (W.setCells g 0 (rowL noR)) := by
  have := Lib.run_clear_slice (P := Try.prog) W 25 2 ty (.int .i64 0) i64_slice zero_i64 rfl rfl g 0 401 c (by omega) (fun j hj => (h.there j hj).1) (fun j hj => (h.there j hj).2)
  rw [rowL_no]
  exact this
/-- What lies while a table is made: the bench, the result's row, the row so far, the station. -/
structure TgSt (w : World) (n g : Nat) (f : Row) (q : Nat) (i : Int) (X : World) : Prop where
  b2 : BK X n #[.pointer (some ⟨g, 0, none⟩)] 71
  r4 : Rw X (n + 1) noR
  r5 : Rw X (n + 2) f
  b6 : BK X q #[.int .i64 i] 3
  below : Below n w X
  lt : n + 2 < q
/-- What lies in a round over bends. -/
structure TgI (w : World) (n g : Nat) (f : Row) (q : Nat) (i : Int) (q7 qa : Nat) (r7 : Row) (Ds : List Nat) (B : Nat) (X : World) : Prop where
  st : TgSt w n g f q i X
  r7 : Rw X q7 r7
  cm : CntMem qa (qa + 1) (-200) 200 X
  mks : Marks Ds X
  size : B ≤ X.heap.size
section
variable {w : World} {n g : Nat} {f : Row} {q : Nat} {i : Int} {q7 qa : Nat} {r7 : Row} {Ds : List Nat} {B C : Nat} {X Y : World}
theorem TgSt.adm (h : TgSt w n g f q i X) (ha : Adm C X Y) (hC : n ≤ C) (hw : w.heap.size = n) : TgSt w n g f q i Y :=
  ⟨ha.cells h.b2, h.r4.adm ha, h.r5.adm ha, ha.cells h.b6, ha.belowOf h.below (by omega) hC, h.lt⟩
theorem TgI.adm (h : TgI w n g f q i q7 qa r7 Ds B X) (ha : Adm C X Y) (hC : n ≤ C) (hw : w.heap.size = n) (hD : ∀ D ∈ Ds, D < C) : TgI w n g f q i q7 qa r7 Ds B Y :=
  ⟨h.st.adm ha hC hw, h.r7.adm ha, h.cm.adm ha, h.mks.adm ha hD, Nat.le_trans h.size ha.size⟩
theorem TgSt.far (h : TgSt w n g f q i X) {p j : Nat} {u : Value} (h1 : n + 2 < p) (h2 : q ≠ p) : TgSt w n g f q i (X.setCell ⟨p, j, none⟩ u) :=
  ⟨h.b2.far (by show n ≠ p; omega) u, h.r4.far (by show n + 1 ≠ p; omega) u, h.r5.far (by show n + 2 ≠ p; omega) u, h.b6.far (by show q ≠ p; exact h2) u, Below.setCell h.below (by show n ≤ p; omega) u, h.lt⟩
theorem TgSt.next (h : TgSt w n g f q i X) (hb : Below X.heap.size X Y) (hw : w.heap.size = n) : TgSt w n g f q i Y := h.adm (C := n) (Adm.below hb) (Nat.le_refl _) hw
theorem TgI.next (h : TgI w n g f q i q7 qa r7 Ds B X) (hb : Below X.heap.size X Y) (hw : w.heap.size = n) : TgI w n g f q i q7 qa r7 Ds B Y :=
  ⟨h.st.next hb hw, h.r7.below hb h.r7.lt, h.cm.below hb, h.mks.below hb, Nat.le_trans h.size hb.size⟩
end
end Go.Proofs.Ytgbegdjakadbbaa
