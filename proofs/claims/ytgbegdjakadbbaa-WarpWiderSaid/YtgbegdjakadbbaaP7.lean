/- Rows of hardnesses in memory: one, or several, in a block. What stands in a frame for ranges over functions in loops. A row of nothing; counting. The bench of a blade, or the error; bends of a station; what a blow costs. Open, at; the errors of a station. -/
import Derived.Test.YtgbegdjakadbbaaP6
import Derived.ChangeKeysEq
import Derived.Lib.SliceRun
import Derived.Deep.MidRow
import Derived.Deep.WholeRow
import Derived.Deep.LoopGhost
import Derived.Great.BuildSlice
import Derived.WalkMore
set_option linter.all false
set_option linter.unnecessarySimpa false
set_option linter.unusedSimpArgs false
set_option linter.unusedVariables false
set_option linter.unusedSectionVars false

namespace Go.Proofs.Ytgbegdjakadbbaa
open Go.RowKit Vp

/-- What each bend costs: bend f stands at f + 200. -/
abbrev Row := Nat → Int
def noR : Row := fun _ => 0
def cel (x : Int) : Value := .int .i64 x
def rowL (f : Row) : List Value := (List.range 401).map fun h => cel (f h)
theorem rowL_len (f : Row) : (rowL f).length = 401 := by simp [rowL]
theorem rowL_at (f : Row) {h : Nat} (hh : h < 401) : (rowL f)[h]? = some (cel (f h)) := by simp [rowL, hh]
theorem rowL_ext {f g : Row} (h : ∀ x, x < 401 → f x = g x) : rowL f = rowL g := by
  refine List.map_congr_left fun x hx => ?_
  rw [h x (List.mem_range.1 hx)]
def rowV (f : Row) : Value := .agg (rowL f).toArray
/-- The block g holds n rows, one behind another. -/
def Gd (W : World) (g : Nat) (t : TypeId) (n : Nat) (F : Nat → Row) : Prop :=
  ∃ cs : Array Value, BK W g cs t ∧ n * 401 ≤ cs.size ∧ ∀ i h, i < n → h < 401 → cs[i * 401 + h]? = some (cel (F i h))
def upd (F : Nat → Row) (i : Nat) (f : Row) : Nat → Row := fun j => if j = i then f else F j
theorem upd_same (F : Nat → Row) (i : Nat) (f : Row) : upd F i f i = f := if_pos rfl
theorem upd_other (F : Nat → Row) {i j : Nat} (f : Row) (h : j ≠ i) : upd F i f j = F j := if_neg h
def seR (f : Row) (h : Nat) (b : Int) : Row := fun x => if x = h then b else f x
section
variable {W W' : World} {g : Nat} {t : TypeId} {n : Nat} {F : Nat → Row}
theorem Gd.lt (h : Gd W g t n F) : g < W.heap.size := by obtain ⟨cs, h1, _⟩ := h; exact h1.lt
theorem Gd.cell (h : Gd W g t n F) {i x : Nat} (hi : i < n) (hx : x < 401) : W.cell? ⟨g, i * 401 + x, none⟩ = some (cel (F i x)) := by
  obtain ⟨cs, h1, _, h3⟩ := h
  rw [h1.cell]; exact h3 i x hi hx
theorem Gd.frozen (h : Gd W g t n F) (j : Nat) : W.frozen? ⟨g, j, none⟩ = false := by obtain ⟨cs, h1, _⟩ := h; exact h1.frozen j
theorem Gd.heap (h : Gd W g t n F) (hb : W'.heap[g]? = W.heap[g]?) : Gd W' g t n F := by
  obtain ⟨cs, h1, h2⟩ := h
  exact ⟨cs, hb.trans h1, h2⟩
theorem Gd.below {B : Nat} (h : Gd W g t n F) (hb : Below B W W') (hg : g < B) : Gd W' g t n F := h.heap (hb.block g hg)
theorem Gd.alloc (h : Gd W g t n F) (o : Obj) : Gd (W.alloc o) g t n F := h.heap (Below.heap_alloc W o g h.lt)
theorem Gd.far (h : Gd W g t n F) {p : Addr} (hp : g ≠ p.block) (u : Value) : Gd (W.setCell p u) g t n F := h.heap (Below.heap_setCell W p u g hp)
theorem Gd.grown {row : Option Nat} (h : Gd W g t n F) (hb : W.grownBy W' row) (hg : some g ≠ row) : Gd W' g t n F := h.heap (hb.block g h.lt hg)
theorem Gd.adm {B : Nat} (h : Gd W g t n F) (ha : Adm B W W') : Gd W' g t n F := by
  obtain ⟨cs, h1, h2⟩ := h
  exact ⟨cs, ha.cells h1, h2⟩
theorem Gd.congr {F' : Nat → Row} (h : Gd W g t n F) (he : ∀ i x, i < n → x < 401 → F i x = F' i x) : Gd W g t n F' := by
  obtain ⟨cs, h1, h2, h3⟩ := h
  exact ⟨cs, h1, h2, fun i x hi hx => by rw [← he i x hi hx]; exact h3 i x hi hx⟩
theorem Gd.set (h : Gd W g t n F) {i x : Nat} (hi : i < n) (hx : x < 401) (b : Int) : Gd (W.setCell ⟨g, i * 401 + x, none⟩ (cel b)) g t n (upd F i (seR (F i) x b)) := by
  obtain ⟨cs, h1, h2, h3⟩ := h
  refine ⟨_, h1.set _ _, by simpa using h2, fun j y hj hy => ?_⟩
  have hlt : i * 401 + x < cs.size := Nat.lt_of_lt_of_le (by rw [Nat.succ_mul]; exact Nat.add_lt_add_left hx _ : i * 401 + x < (i + 1) * 401) (Nat.le_trans (Nat.mul_le_mul_right _ hi) h2)
  by_cases hji : j = i
  · subst hji
    rw [upd_same]
    by_cases hyx : y = x
    · subst hyx
      simp [seR, hlt]
    · rw [Array.getElem?_setIfInBounds_ne (by omega), h3 j y hj hy]
      simp [seR, hyx]
  · rw [upd_other _ _ hji, Array.getElem?_setIfInBounds_ne (by omega)]
    exact h3 j y hj hy
theorem Gd.range (h : Gd W g t n F) {i : Nat} (hi : i < n) : W.rangeAt g (i * 401) (rowL (F i)) := by
  intro j v hv
  have hj : j < 401 := by
    have := (List.getElem?_eq_some_iff.1 hv).1
    rw [rowL_len] at this; exact this
  rw [rowL_at _ hj] at hv
  rw [h.cell hi hj]; exact hv
theorem Gd.there (h : Gd W g t n F) {i : Nat} (hi : i < n) : W.there g (i * 401) 401 := fun j hj => ⟨by rw [h.cell hi hj]; rfl, h.frozen _⟩
end
/-- What is stored cell by cell into a block. -/
theorem BK.setCells {g : Nat} {t : TypeId} : ∀ (vs : List Value) (o : Nat) (W : World) (L : List Value), BK W g L.toArray t → o + vs.length ≤ L.length → BK (W.setCells g o vs) g (L.take o ++ vs ++ L.drop (o + vs.length)).toArray t
  | [], o, W, L, h, _ => by
    unfold World.setCells
    simpa using h
  | v :: vs, o, W, L, h, hl => by
    unfold World.setCells
    simp only [List.length_cons] at hl ⊢
    have h1 := h.set o v
    rw [List.setIfInBounds_toArray] at h1
    have ih := BK.setCells vs (o + 1) _ (L.set o v) h1 (by rw [List.length_set]; omega)
    have e : (L.set o v).take (o + 1) ++ vs ++ (L.set o v).drop (o + 1 + vs.length) = L.take o ++ v :: vs ++ L.drop (o + (vs.length + 1)) := by
      rw [List.take_succ_eq_append_getElem (by rw [List.length_set]; omega), List.take_set_of_le (Nat.le_refl _), List.getElem_set_self, List.drop_set_of_lt (by omega), show o + 1 + vs.length = o + (vs.length + 1) by omega]
      simp
    rw [e] at ih
    exact ih
theorem setCells_block (b : Nat) : ∀ (vs : List Value) (o : Nat) (w : World) (k : Nat), k ≠ b → (w.setCells b o vs).heap[k]? = w.heap[k]?
  | [], _, _, _, _ => rfl
  | v :: vs, o, w, k, h => by
    unfold World.setCells
    rw [setCells_block b vs _ _ k h, Below.heap_setCell _ _ _ _ h]
theorem setCells_below {n b : Nat} {w0 : World} (hb : n ≤ b) : ∀ (vs : List Value) (o : Nat) (w : World), Below n w0 w → Below n w0 (w.setCells b o vs)
  | [], _, _, h => h
  | v :: vs, o, w, h => by
    unfold World.setCells
    exact setCells_below hb vs _ _ (Below.setCell h (by exact hb) _)
theorem setCells_size (b : Nat) : ∀ (vs : List Value) (o : Nat) (w : World), (w.setCells b o vs).heap.size = w.heap.size
  | [], _, _ => rfl
  | v :: vs, o, w => by
    unfold World.setCells
    rw [setCells_size b vs]
    simp [World.setCell]
theorem grown_set {w W : World} {gb : Nat} (h : w.grownBy W (some gb)) (i : Nat) (u : Value) : w.grownBy (W.setCell ⟨gb, i, none⟩ u) (some gb) :=
  ⟨h.os, h.tape, h.output, by simpa [World.setCell] using h.size, fun k hk hr => (Below.heap_setCell _ _ _ _ (fun e => hr (by rw [e]))).trans (h.block k hk hr)⟩
theorem grown_sets {w : World} {gb : Nat} : ∀ (vs : List Value) (o : Nat) (W : World), w.grownBy W (some gb) → w.grownBy (W.setCells gb o vs) (some gb)
  | [], _, _, h => h
  | v :: vs, o, W, h => by
    unfold World.setCells
    exact grown_sets vs _ _ (grown_set h o v)
theorem app3_right {α : Type} (A M B : List α) {a m k : Nat} (ha : A.length = a) (hm : M.length = m) (hk : a + m ≤ k) : (A ++ M ++ B)[k]? = B[k - (a + m)]? := by
  subst ha; subst hm
  rw [List.getElem?_append_right (by rw [List.length_append]; omega), List.length_append]
/-- A whole row is stored over one of the rows of a block. -/
theorem Gd.put {W : World} {g : Nat} {t : TypeId} {n : Nat} {F : Nat → Row} (h : Gd W g t n F) {i : Nat} (hi : i < n) (f : Row) : Gd (W.setCells g (i * 401) (rowL f)) g t n (upd F i f) := by
  obtain ⟨cs, h1, h2, h3⟩ := h
  have hin : i * 401 + 401 ≤ cs.size := Nat.le_trans (by rw [← Nat.succ_mul]; exact Nat.mul_le_mul_right _ hi) h2
  have h4 := BK.setCells (rowL f) (i * 401) W cs.toList (by simpa using h1) (by rw [rowL_len, Array.length_toList]; exact hin)
  have e1 : (cs.toList.take (i * 401)).length = i * 401 := by rw [List.length_take, Array.length_toList]; exact Nat.min_eq_left (Nat.le_trans (Nat.le_add_right _ _) hin)
  refine ⟨_, h4, ?_, fun j x hj hx => ?_⟩
  · rw [List.size_toArray, List.length_append, List.length_append, e1, rowL_len, List.length_drop, Array.length_toList, Nat.add_sub_cancel' hin]
    exact h2
  · rw [rowL_len]
    rw [List.getElem?_toArray]
    by_cases hji : j = i
    · subst hji
      rw [upd_same, List.append_assoc, List.getElem?_append_right (by omega), e1, List.getElem?_append_left (by rw [rowL_len]; omega), show j * 401 + x - j * 401 = x by omega, rowL_at _ hx]
    · rw [upd_other _ _ hji]
      have h5 := h3 j x hj hx
      rw [← Array.getElem?_toList] at h5
      rcases Nat.lt_or_gt_of_ne hji with hlt | hgt
      · rw [List.append_assoc, List.getElem?_append_left (by omega), List.getElem?_take_of_lt (by omega)]
        exact h5
      · have hge : i * 401 + 401 ≤ j * 401 + x := Nat.le_trans (by rw [← Nat.succ_mul]; exact Nat.mul_le_mul_right _ hgt) (Nat.le_add_right _ _)
        refine (app3_right _ _ _ e1 (rowL_len f) hge).trans ?_
        refine List.getElem?_drop.trans ?_
        have e2 : i * 401 + 401 + (j * 401 + x - (i * 401 + 401)) = j * 401 + x := Nat.add_sub_cancel' hge
        rw [e2]
        exact h5
/-- A new row's block. -/
theorem Gd.new (W : World) (t : TypeId) (f : Row) (n : Nat) (hn : W.heap.size = n) : Gd (W.alloc (.cells (rowL f).toArray t)) n t 1 fun _ => f :=
  ⟨_, BK.new' _ _ _ _ hn, by simp [rowL_len], fun i h hi hh => by
    obtain rfl : i = 0 := by omega
    rw [Nat.zero_mul, Nat.zero_add, List.getElem?_toArray, rowL_at _ hh]⟩
theorem rowL_no : rowL noR = List.replicate 401 (.int .i64 0) := by
  unfold rowL noR cel
  rw [List.map_const', List.length_range]
theorem row_under : Try.prog.underlying 83 = some (.array 401 2) := by kernel_rfl
theorem row_size : (Try.prog.info? 83).map (·.size) = some 401 := by kernel_rfl
theorem i64_under : Try.prog.underlying 2 = some (.int .i64) := by kernel_rfl
theorem i64_cells : Try.prog.cellsOf 2 = 1 := by kernel_rfl
set_option maxRecDepth 20000 in
theorem row_zero' : (Try.prog.info? 83).map (fun i => (i.zero, i.size)) = some (some (.agg (Array.replicate 401 (.int .i64 0))), 401) := by kernel_rfl
theorem row_zero : (∀ w, (zeroValue 83).run Try.prog w = .ok (rowV noR) w) := by
  have := (zero_of_info row_zero').1
  unfold rowV
  rw [rowL_no]
  exact this
theorem rowL_one (f : Row) : (rowL f).toArray.all (·.oneCell') = true := by
  rw [List.all_toArray, List.all_eq_true]
  intro v hv
  simp only [rowL, List.mem_map] at hv
  obtain ⟨h, _, rfl⟩ := hv
  rfl

def rowI (f : Row) : List Int := (List.range 401).map f
theorem rowL_ofI (f : Row) : rowL f = ofI (rowI f) := by
  unfold rowL rowI ofI
  rw [List.map_map]; rfl
theorem rowI_len (f : Row) : (rowI f).length = 401 := by simp [rowI]
theorem rowI_at (f : Row) {i : Nat} (h : i < 401) : nthI (rowI f) i = f i := by simp [nthI, rowI, h]
theorem ofI_get {l : List Int} {i : Nat} (h : i < l.length) : (ofI l)[i]? = some (.int .i64 (nthI l i)) := by simp [ofI, nthI, h]
theorem part_int (xs : List Int) (i : Nat) (h : i < xs.length) (w : World) : (part 2 (ofI xs).toArray i).run Try.prog w = .ok (.int .i64 (nthI xs i)) w := by
  have ha : (isAgg 2).run Try.prog w = .ok false w := by simp [isAgg, run_underlying i64_under]
  have hg : (ofI xs).toArray[i]? = some (.int .i64 (nthI xs i)) := by rw [List.getElem?_toArray]; exact ofI_get h
  simp [part, ha, hg]
theorem eq_items (d : Nat) (xs ys : List Int) (hl : xs.length = ys.length) (w : World) : ∀ (is : List Nat), (∀ i ∈ is, i < xs.length) →
    (Op.eqItems (d + 1) 2 1 (ofI xs).toArray (ofI ys).toArray is).run Try.prog w = .ok (is.all fun i => nthI xs i == nthI ys i) w := by
  intro is
  induction is with
  | nil => intro _; simp [Op.eqItems]
  | cons i is ih =>
    intro h
    have hi := h i (by simp)
    have h2 := ih fun j hj => h j (by simp [hj])
    have he : (Op.equalIn (d + 1) 2 (.int .i64 (nthI xs i)) (.int .i64 (nthI ys i))).run Try.prog w = .ok (nthI xs i == nthI ys i) w := run_equalIn_int w d _ _ _ _ _ i64_under
    simp only [Op.eqItems, Nat.mul_one, Sem.run_bind, part_int xs i hi, part_int ys i (by omega), Result.andThen_ok, he, List.all_cons]
    cases hq : nthI xs i == nthI ys i
    · simp
    · simpa using h2
/-- Two rows are compared. -/
def eqR (f g : Row) : Bool := (List.range 401).all fun i => f i == g i
theorem eqR_iff {f g : Row} : eqR f g = true ↔ ∀ i, i < 401 → f i = g i := by simp [eqR]
theorem eqR_rows (f g : Row) : ((List.range 401).all fun i => nthI (rowI f) i == nthI (rowI g) i) = eqR f g := by
  unfold eqR
  rw [Bool.eq_iff_iff, List.all_eq_true, List.all_eq_true]
  constructor
  · intro h i hi
    have := h i hi
    rwa [rowI_at _ (List.mem_range.1 hi), rowI_at _ (List.mem_range.1 hi)] at this
  · intro h i hi
    have := h i hi
    rwa [rowI_at _ (List.mem_range.1 hi), rowI_at _ (List.mem_range.1 hi)]
set_option maxRecDepth 20000 in
theorem eqRow (f g : Row) (w : World) : (Op.equalIn 10000 83 (rowV f) (rowV g)).run Try.prog w = .ok (eqR f g) w := by
  obtain ⟨i, hi⟩ : ∃ i, Try.prog.info? 2 = some i := info_of_underlying i64_under
  unfold rowV
  rw [rowL_ofI, rowL_ofI, show (10000 : Nat) = 9999 + 1 from rfl, run_equalIn_array w 9999 _ _ row_under hi, i64_cells, show (9999 : Nat) = 9998 + 1 from rfl, eq_items 9998 _ _ (by rw [rowI_len, rowI_len]) w (List.range 401) (fun i hi => by rw [rowI_len]; exact List.mem_range.1 hi)]
  rw [eqR_rows]
set_option maxRecDepth 20000 in
theorem neverR_eq : rowL (fun _ => never) = List.replicate 401 (.int .i64 never) := by
  unfold rowL cel
  rw [List.map_const', List.length_range]
end Go.Proofs.Ytgbegdjakadbbaa

set_option linter.all false
attribute [local go_sem] Go.Oper.semAt_some
namespace Go.Proofs.Ytgbegdjakadbbaa
open Go.RowKit Vp

/-- What stands in the frame for a range over a function that has ended. -/
def mk (D : Nat) : Deferred := { target := .collected D, args := #[] }
/-- They are ended all. -/
def putAll : List Nat → World → World
  | [], W => W
  | D :: Ds, W => putAll Ds (W.putObj D (.deferred none))
theorem putAll_other : ∀ (Ds : List Nat) (W : World) (k : Nat), k ∉ Ds → (putAll Ds W).heap[k]? = W.heap[k]?
  | [], _, _, _ => rfl
  | D :: Ds, W, k, h => by
    rw [putAll, putAll_other Ds _ k (fun e => h (by simp [e])), World.putObj_heap_other (fun e => h (by simp [e]))]
theorem putAll_size : ∀ (Ds : List Nat) (W : World), (putAll Ds W).heap.size = W.heap.size
  | [], _ => rfl
  | D :: Ds, W => by rw [putAll, putAll_size Ds]; simp
theorem putAll_below {n : Nat} {w : World} : ∀ (Ds : List Nat) (W : World), Below n w W → (∀ D ∈ Ds, n ≤ D) → Below n w (putAll Ds W)
  | [], _, h, _ => h
  | D :: Ds, W, h, hn => putAll_below Ds _ (below_put h (hn D (by simp)) _) fun D' h' => hn D' (by simp [h'])
/-- The marks of ranges lie. -/
def Marks (Ds : List Nat) (W : World) : Prop := Ds.Nodup ∧ ∀ D ∈ Ds, W.heap[D]? = some (.deferred (some []))
theorem leave_all {P : Program} {fn : Func} {R : Ending → World → Prop} {tmps : Array Value} {v : Value} : ∀ (Ds : List Nat) (W : World), Marks Ds W →
    (∀ W', (results fn tmps).run P W' = .ok v W') → R (.returned v) (putAll Ds W) → bodyPostM Fence.wide 100 P fn R .ret { tmps, defers := Ds.map mk } W := by
  intro Ds
  induction Ds with
  | nil => intro W _ hv hR; exact ⟨v, hv W, hR⟩
  | cons D Ds ih =>
    intro W hM hv hR
    refine ⟨by simp [mk], .inl ⟨_, _, rfl, run_takeDeferred (hM.2 D (by simp)), ?_⟩⟩
    refine ih _ ⟨(List.nodup_cons.1 hM.1).2, fun D' h' => ?_⟩ hv hR
    have hne : D' ≠ D := fun e => (List.nodup_cons.1 hM.1).1 (e ▸ h')
    rw [World.putObj_heap_other hne]
    exact hM.2 D' (by simp [h'])

/-- A loop whose marks of ranges grow: the frame by a function of its places. -/
theorem wp_loop_u {P : Program} {Q : Exit → Act → World → Prop} {a : Act} {w : World} {c : Code} (mkT : (Nat → Value) → Array Value) (J : Nat → (Nat → Value) → List Deferred → World → Prop) (n0 : Nat)
    (h0 : a.tmps = mkT fun j => a.tmps.getD j undef) (hJ : J n0 (fun j => a.tmps.getD j undef) a.defers w)
    (round : ∀ n u ds W, J n u ds W → ∀ K : Act → World → Prop, (∀ n' a' w', n' < n → a'.tmps = mkT (fun j => a'.tmps.getD j undef) → J n' (fun j => a'.tmps.getD j undef) a'.defers w' → K a' w') → c.wp P (Exit.then K Q) { tmps := mkT u, defers := ds } W) : (Code.loop c).wp P Q a w := by
  refine wp_loop_ghost (fun n a X => a.tmps = mkT (fun j => a.tmps.getD j undef) ∧ J n (fun j => a.tmps.getD j undef) a.defers X) n0 ⟨h0, hJ⟩ ?_
  rintro n a X ⟨h1, h2⟩
  have h3 := round n _ _ X h2 _ (fun n' a' w' q1 q2 q3 => (⟨n', q1, q2, q3⟩ : ∃ n', n' < n ∧ a'.tmps = mkT (fun j => a'.tmps.getD j undef) ∧ J n' (fun j => a'.tmps.getD j undef) a'.defers w'))
  rw [← h1] at h3
  exact h3
/-- The statement, the frame of a round by the frame ahead of it. -/
theorem wp_range_a {P : Program} {g : Operand} {ps : Array Tmp} {assign body : Code} {Q : Exit → Act → World → Prop} {a : Act} {w : World}
    {gf : Nat} {lb : Array Value} (hg : a.eval g = .func (.func gf) #[] lb) (eg : ∀ args w, (callFunc gf args).run P w = .ok (.enter gf args) w)
    {enc : Nat → Array Value} {N : Nat} {R : World → Prop} {T : TypeId → Prop} (hit : Iter P gf lb enc N R T) (hps : ∀ i, (enc i).size = ps.size)
    (I : Nat → World → Prop) (Ix : Code → Nat → World → Prop) (AxF : Array Value → Nat → Act → World → Prop) (hr : Rounds P T w.heap.size a.tmps ps assign body enc N I Ix (AxF a.tmps)) (hR : ∀ i W, I i W → R W) (h0 : I 0 w)
    (hdone : ∀ (D : Nat) (W : World), w.heap.size ≤ D → I N W → W.heap[D]? = some (.deferred (some [])) → Q .normal { a with defers := { target := .collected D, args := #[] } :: a.defers } W)
    (hstop : ∀ (D : Nat) (c : Code) (i : Nat) (W : World), w.heap.size ≤ D → i < N → Ix c i W → W.heap[D]? = some (.deferred (some [])) → c.wp P Q { a with defers := { target := .collected D, args := #[] } :: a.defers } W) :
    (Code.rangeFunc g ps assign body).wp P Q a w := wp_range hg eg hit hps I Ix (AxF a.tmps) hr hR h0 hdone hstop

theorem Marks.adm {Ds : List Nat} {B : Nat} {X Y : World} (h : Marks Ds X) (ha : Adm B X Y) (hB : ∀ D ∈ Ds, D < B) : Marks Ds Y := ⟨h.1, fun D hD => ha.obj (h.2 D hD) (hB D hD)⟩


section
variable {P : Program} {ops : Array Oper} {Q : Exit → Act → World → Prop}
theorem wp_make_run {o : Oper} {a : Act} {w w' : World} {K : Act → World → Prop} (t : TypeId) (l c : Operand) (v : Value) (ho : o.op = .makeSlice t l c)
    (hrun : (Instr.makeSlice t (a.eval l) (a.eval c)).run P w = .ok v w') (h : K (a.put o.dst v) w') : o.wp P a w K Q := by
  unfold Oper.wp execOp
  simp only [ho, Sem.run_bind, Sem.run_pure, Result.andThen_ok, hrun]
  exact h
theorem wpList_clear_run {rest : List Oper} {o : Oper} {a : Act} {w w' : World} (hgd : o.guard = none) (x : Operand) (t : TypeId) (v : Value)
    (ho : o.op = .call { callee := .builtin .clear, args := #[x], argTypes := #[t] })
    (hrun : (Builtin.clear_ #[t] o.type #[a.eval x]).run P w = .ok v w') (h : wpList P ops Q rest (a.put o.dst v) w') : wpList P ops Q (o :: rest) a w := by
  refine wpList_plain hgd fun K hK => ?_
  unfold Oper.wp execOp
  simp only [ho, resolve, invoke, builtin, Sem.run_bind, Sem.run_pure, Result.andThen_ok, List.map_toArray, List.map_cons, List.map_nil, hrun]
  exact hK _ _ h
end
end Go.Proofs.Ytgbegdjakadbbaa

set_option linter.all false
attribute [local go_sem] Go.Oper.semAt_some
namespace Go.Proofs.Ytgbegdjakadbbaa
open Go.RowKit Vp

theorem row_zeroA : ∀ w, (zeroValue 83).run Try.prog w = .ok (.agg (rowL noR).toArray) w := row_zero
theorem Gd.one {W : World} {g : Nat} {t : TypeId} {f h : Row} (hG : Gd W g t 1 (upd (fun _ => f) 0 h)) : Gd W g t 1 (fun _ => h) :=
  hG.congr fun i x hi _ => by
    obtain rfl : i = 0 := by omega
    rw [upd_same]
theorem run_row_var (W : World) (b o : Nat) (f : Row) (h : W.rangeAt b o (rowL f)) : (loadVar 83 ⟨b, o, none⟩).run Try.prog W = .ok (.agg (rowL f).toArray) W :=
  run_loadVar_mid W b o 83 (rowL f) _ h row_under rfl (by rw [row_size, rowL_len])
section
variable {P : Program} {ops : Array Oper} {Q : Exit → Act → World → Prop}
theorem wp_store_run {o : Oper} {a : Act} {w w' : World} {K : Act → World → Prop} (ty : TypeId) (x y : Operand) (ho : o.op = .store ty x y) (hrun : (Instr.storeAt ty (a.eval x) (a.eval y)).run P w = .ok () w') (h : K (a.put o.dst undef) w') : o.wp P a w K Q := by
  unfold Oper.wp execOp
  simp only [ho, Sem.run_bind, Sem.run_pure, hrun, Result.andThen_ok]
  exact h
theorem wpList_store_run {rest : List Oper} {o : Oper} {a : Act} {w w' : World} (hgd : o.guard = none) (ty : TypeId) (x y : Operand) (ho : o.op = .store ty x y) (hrun : (Instr.storeAt ty (a.eval x) (a.eval y)).run P w = .ok () w')
    (h : wpList P ops Q rest (a.put o.dst undef) w') : wpList P ops Q (o :: rest) a w := wpList_plain hgd fun K hK => wp_store_run ty x y ho hrun (hK _ _ h)
end
theorem results_row {fn : Func} {t : Nat} {tmps : Array Value} {a : Addr} {W : World} {L : Array Value} (h : fn.results = #[.cell t 83]) (hp : tmps.getD t undef = .pointer (some a)) (hr : (loadVar 83 a).run Try.prog W = .ok (.agg L) W) : (results fn tmps).run Try.prog W = .ok (.agg L) W := by
  unfold results
  rw [h]
  have h1 : (tmps[t]?.getD undef) = .pointer (some a) := by rw [← hp, Array.getD_eq_getD_getElem?]
  have h2 : (asAddr (.pointer (some a))).run Try.prog W = .ok a W := rfl
  simp [h1, h2, hr]
/-- One row in a block. -/
def Rw (W : World) (g : Nat) (f : Row) : Prop := Gd W g 83 1 fun _ => f
section
variable {W W' : World} {g : Nat} {f : Row}
theorem Rw.lt (h : Rw W g f) : g < W.heap.size := Gd.lt h
theorem Rw.cell (h : Rw W g f) {x : Nat} (hx : x < 401) : W.cell? ⟨g, x, none⟩ = some (.int .i64 (f x)) := by
  have := Gd.cell h (i := 0) (by omega) hx
  rwa [Nat.zero_mul, Nat.zero_add] at this
theorem Rw.frozen (h : Rw W g f) (j : Nat) : W.frozen? ⟨g, j, none⟩ = false := Gd.frozen h j
theorem Rw.heap (h : Rw W g f) (hb : W'.heap[g]? = W.heap[g]?) : Rw W' g f := Gd.heap h hb
theorem Rw.below {B : Nat} (h : Rw W g f) (hb : Below B W W') (hg : g < B) : Rw W' g f := Gd.below h hb hg
theorem Rw.alloc (h : Rw W g f) (o : Obj) : Rw (W.alloc o) g f := Gd.alloc h o
theorem Rw.far (h : Rw W g f) {p : Addr} (hp : g ≠ p.block) (u : Value) : Rw (W.setCell p u) g f := Gd.far h hp u
theorem Rw.adm {B : Nat} (h : Rw W g f) (ha : Adm B W W') : Rw W' g f := Gd.adm h ha
theorem Rw.congr {f' : Row} (h : Rw W g f) (he : ∀ x, x < 401 → f x = f' x) : Rw W g f' := Gd.congr h fun _ x _ hx => he x hx
theorem Rw.set (h : Rw W g f) {x : Nat} (hx : x < 401) (b : Int) : Rw (W.setCell ⟨g, x, none⟩ (.int .i64 b)) g (seR f x b) := by
  have := (Gd.set h (i := 0) (by omega) hx b).one
  rwa [Nat.zero_mul, Nat.zero_add] at this
theorem Rw.range (h : Rw W g f) : W.rangeAt g 0 (rowL f) := by
  have := Gd.range h (i := 0) (by omega)
  rwa [Nat.zero_mul] at this
theorem Rw.there (h : Rw W g f) : W.there g 0 401 := by
  have := Gd.there h (i := 0) (by omega)
  rwa [Nat.zero_mul] at this
theorem Rw.new (W : World) (f : Row) (n : Nat) (hn : W.heap.size = n) : Rw (W.alloc (.cells (rowL f).toArray 83)) n f := Gd.new W _ f n hn
theorem Rw.put (h : Rw W g f) (f' : Row) : Rw (W.setCells g 0 (rowL f')) g f' := by
  have := (Gd.put h (i := 0) (by omega) f').one
  rwa [Nat.zero_mul] at this
/-- A whole row is stored. -/
theorem Rw.run_put (h : Rw W g f) (f' : Row) : (Instr.storeAt 83 (.pointer (some ⟨g, 0, none⟩)) (.agg (rowL f').toArray)).run Try.prog W = .ok () (W.setCells g 0 (rowL f')) := by
  have := run_storeAt_mid (P := Try.prog) W g 0 83 (rowL f').toArray (by rw [List.size_toArray, rowL_len]; exact h.there) (by rw [row_size, List.size_toArray, rowL_len]) (rowL_one f')
  simpa using this
/-- A whole row is loaded. -/
theorem Rw.run_get (h : Rw W g f) : (loadVar 83 ⟨g, 0, none⟩).run Try.prog W = .ok (.agg (rowL f).toArray) W := run_row_var W g 0 f h.range
end
theorem run_put_new (W : World) (f' : Row) (n : Nat) (hn : W.heap.size = n) : (Instr.storeAt 83 (.pointer (some ⟨n, 0, none⟩)) (.agg (rowL f').toArray)).run Try.prog (W.alloc (.cells (rowL noR).toArray 83)) = .ok () (W.alloc (.cells (rowL f').toArray 83)) := by
  subst hn
  exact run_storeAt_new W 83 (rowL noR).toArray (rowL f').toArray (by rw [row_size]; simp [rowL_len]) (by simp [rowL_len]) (rowL_one f')
theorem row_sizeL (f : Row) : (Try.prog.info? 83).map (·.size) = some (rowL f).length := by rw [row_size, rowL_len]
/-- never up to here, 0 behind. -/
def nvR (x : Nat) : Row := fun y => if y < x then never else 0
def neverR : Row := fun _ => never
theorem nvR_zero : nvR 0 = noR := by funext y; exact if_neg (by omega)
theorem nvR_succ (x : Nat) : seR (nvR x) x never = nvR (x + 1) := by
  funext y
  unfold seR nvR
  by_cases h : y = x
  · subst h; rw [if_pos rfl, if_pos (by omega)]
  · rw [if_neg h]
    by_cases h2 : y < x
    · rw [if_pos h2, if_pos (by omega)]
    · rw [if_neg h2, if_neg (by omega)]
theorem nvR_all : ∀ y, y < 401 → nvR 401 y = neverR y := fun y hy => if_pos hy
set_option maxHeartbeats 8000000 in
set_option maxRecDepth 100000 in
theorem nothing_any (w : World) : Calls Try.prog 78 #[] w fun e w' => e = .returned (rowV neverR) ∧ Below w.heap.size w w' := by
  obtain ⟨n0, hn0⟩ : ∃ n, w.heap.size = n := ⟨_, rfl⟩
  have hz := row_zeroA
  obtain ⟨Z0, hZ0⟩ : ∃ L, (rowL noR).toArray = L := ⟨_, rfl⟩
  have HZ0 := Lib.hid hZ0
  rw [hZ0] at hz
  clear hZ0
  rw [hn0]
  go_enter Try.func78, Try.ntmps78
  go_upto_region 2 with fail
  have hR0 : Rw ((w.alloc (.cells Z0 83)).alloc (.cells Z0 83)) n0 noR := by rw [← HZ0.out]; exact (Rw.new _ _ _ hn0).alloc _
  have hR1 : Rw ((w.alloc (.cells Z0 83)).alloc (.cells Z0 83)) (n0 + 1) (nvR 0) := by rw [← HZ0.out, nvR_zero]; exact Rw.new _ _ _ (by simp [hn0])
  have hC : Below n0 w ((w.alloc (.cells Z0 83)).alloc (.cells Z0 83)) := by exact bel_of
  clear HZ0 hz
  generalize (w.alloc (.cells Z0 83)).alloc (.cells Z0 83) = W1 at *
  go_wp2_with fail
  go_loopw [3] (fun v wr => ∃ x : Nat, x ≤ 401 ∧ v = .int .i64 (x : Int) ∧ Rw wr n0 noR ∧ Rw wr (n0 + 1) (nvR x) ∧ Below n0 w wr) (fun v _ => 401 - (intOf v).toNat)
  case atStart => exact ⟨0, Nat.zero_le _, rfl, hR0, hR1, hC⟩
  case round =>
    clear hR0 hR1 hC
    obtain ⟨x, hx, rfl, hR0, hR1, hC⟩ := hrel
    by_cases hlt : x < 401
    case neg =>
      obtain rfl : x = 401 := by omega
      have hR2 := hR1.congr nvR_all
      have hra := hR2.range
      have hpu := hR0.run_put neverR
      have hrr := (hR0.put neverR).run_get
      have hsz := row_sizeL neverR
      have hCf : Below n0 w (wr.setCells n0 0 (rowL neverR)) := setCells_below (Nat.le_refl _) _ _ _ hC
      have hmx : rowV neverR = .agg (rowL neverR).toArray := rfl
      obtain ⟨L, hL⟩ : ∃ L, rowL neverR = L := ⟨_, rfl⟩
      rw [hL] at hra hpu hrr hsz hCf hmx
      have HRA := Lib.hid hra
      have HSZ := Lib.hid hsz
      have HPU := Lib.hid hpu
      have HRR := Lib.hid hrr
      have HCF := Lib.hid hCf
      have HMX := Lib.hid hmx
      clear hra hsz hpu hrr hCf hmx hL hR0 hR1 hR2 hC
      go_wp2_with (first | refine wpList_load_mid rfl 83 (.tmp 1) rfl (n0 + 1) 0 rfl L _ HRA.out row_under rfl HSZ.out ?_ | refine wpList_store_run rfl 83 (.tmp 0) (.tmp 9) rfl HPU.out ?_)
      exact bodyPost_ret (v := .agg L.toArray) (results_row rfl rfl HRR.out) rfl ⟨by rw [HMX.out], HCF.out⟩
    have hlt' : (x : Int) < 401 := by omega
    have z1 := hR1.cell hlt
    have f1 := hR1.frozen x
    have l1 := hR1.lt
    have hset := hR1.set hlt never
    rw [nvR_succ] at hset
    have hR02 := hR0.far (p := ⟨n0 + 1, x, none⟩) (by show n0 ≠ n0 + 1; omega) (.int .i64 never)
    have hC2 : Below n0 w (wr.setCell ⟨n0 + 1, x, none⟩ (.int .i64 never)) := Below.setCell hC (by show n0 ≤ n0 + 1; omega) _
    have HSET := Lib.hid hset
    have HR0 := Lib.hid hR02
    have HC2 := Lib.hid hC2
    clear hR0 hR1 hC hset hR02 hC2
    go_wp2_with fail
    go_roundw
    case rel => exact ⟨x + 1, by omega, by go_num, HR0.out, HSET.out, HC2.out⟩
    case measure => simp [intOf]; omega

theorem egCount : ∀ args w, (callFunc 87 args).run Try.prog w = .ok (.enter 87 args) w := enters_of Try.func87 (by kernel_rfl) rfl
/-- What the iterator reads. -/
structure CntMem (ga gb : Nat) (lo hi : Int) (W : World) : Prop where
  a : BK W ga #[.int .i64 lo] 2
  b : BK W gb #[.int .i64 hi] 2
theorem CntMem.adm {ga gb B : Nat} {lo hi : Int} {W W' : World} (h : CntMem ga gb lo hi W) (ha : Adm B W W') : CntMem ga gb lo hi W' := ⟨ha.cells h.a, ha.cells h.b⟩
theorem CntMem.below {ga gb : Nat} {lo hi : Int} {W W' : World} (h : CntMem ga gb lo hi W) (hb : Below W.heap.size W W') : CntMem ga gb lo hi W' := h.adm (B := 0) (Adm.below hb)
def cntV (ga gb : Nat) : Value := .func (.func 87) #[] #[.pointer (some ⟨ga, 0, none⟩), .pointer (some ⟨gb, 0, none⟩)]
theorem count_any (lo hi : Int) (w : World) : Calls Try.prog 79 #[.int .i64 lo, .int .i64 hi] w fun e w' => e = .returned (cntV w.heap.size (w.heap.size + 1)) ∧ CntMem w.heap.size (w.heap.size + 1) lo hi w' ∧ w'.heap.size = w.heap.size + 2 ∧ Below w.heap.size w w' := by
  obtain ⟨n0, hn0⟩ : ∃ n, w.heap.size = n := ⟨_, rfl⟩
  have hC : Below n0 w ((w.alloc (.cells #[.int .i64 lo] 2)).alloc (.cells #[.int .i64 hi] 2)) := by exact bel_of
  have ba : BK ((w.alloc (.cells #[.int .i64 lo] 2)).alloc (.cells #[.int .i64 hi] 2)) n0 #[.int .i64 lo] 2 := (BK.new' _ _ _ n0 hn0).alloc _
  have bb : BK ((w.alloc (.cells #[.int .i64 lo] 2)).alloc (.cells #[.int .i64 hi] 2)) (n0 + 1) #[.int .i64 hi] 2 := BK.new' _ _ _ (n0 + 1) (by simp [hn0])
  have hs : ((w.alloc (.cells #[.int .i64 lo] 2)).alloc (.cells #[.int .i64 hi] 2)).heap.size = n0 + 2 := by simp [hn0]
  have HS := Lib.hid hs
  have HC := Lib.hid hC
  have BA := Lib.hid ba
  have BB := Lib.hid bb
  clear hs hC ba bb
  rw [hn0]
  go_enter Try.func79, Try.ntmps79
  go_wp2_with fail
  go_ret
  exact ⟨rfl, ⟨BA.out, BB.out⟩, HS.out, HC.out⟩
set_option maxHeartbeats 8000000 in
set_option maxRecDepth 100000 in
theorem count_iter (T : TypeId → Prop) (ga gb : Nat) (lo hi : Int) (hlo : -1000000 ≤ lo ∧ lo ≤ 1000000) (hhi : -1000000 ≤ hi ∧ hi ≤ 1000000) :
    Iter Try.prog 87 #[.pointer (some ⟨ga, 0, none⟩), .pointer (some ⟨gb, 0, none⟩)] (fun i => #[.int .i64 (lo + (i : Int))]) (cnt lo hi) (CntMem ga gb lo hi) T := by
  intro lp J Jx W hJ hJx hR hY h0
  refine (callsIn_wide (n := 100)).1 ?_
  refine callsIn_of_wp Try.func87 rfl trivial ?_ rfl
  simp only [Try.ntmps87, List.size_toArray, List.length_cons, List.length_nil, Nat.reduceAdd, Nat.reduceSub, Array.replicate_succ, Array.replicate_zero, List.push_toArray, List.append_toArray, List.nil_append, List.cons_append]
  obtain ⟨⟨ba, bb⟩, hz0⟩ := hR 0 W h0
  have la := ba.lt
  have ca := ba.cell 0
  simp at ca
  gi_wp2
  clear ba bb la ca
  gi_loopw [4] (fun i wr => ∃ k : Nat, k ≤ cnt lo hi ∧ i = .int .i64 (lo + (k : Int)) ∧ J k wr) (fun i wr => (hi + 1 - intOf i).toNat)
  case atStart => exact ⟨0, Nat.zero_le _, by simp, h0⟩
  case round =>
    obtain ⟨k, hk, rfl, hJk⟩ := hrel
    clear h0
    have hcn : cnt lo hi = (hi + 1 - lo).toNat := rfl
    obtain ⟨⟨ba, bb⟩, hz⟩ := hR _ wr hJk
    have lb := bb.lt
    have cb := bb.cell 0
    simp at cb
    have HJ := Lib.hid hJk
    clear hJk
    by_cases hlt : lo + (k : Int) ≤ hi
    case neg =>
      have hke : k = cnt lo hi := by omega
      have HKE := Lib.hid hke
      clear hke hcn
      gi_wp2
      exact bodyPost_end (results_none rfl _ _ _) rfl ⟨⟨_, rfl⟩, .inl (HKE.out ▸ HJ.out)⟩
    have hlt2 : k < cnt lo hi := by omega
    obtain ⟨fn, tmps, assign, body, hy, hRd⟩ := hY k _ 98 hlt2 HJ.out
    have HRD := Lib.hid hRd
    have HN := Lib.hid hcn
    have HLT := Lib.hid hlt2
    have wk : IntKind.i64.wrap (lo + (k : Int) + 1) = lo + (k : Int) + 1 := by rw [IntKind.wrap_i64]; omega
    clear hRd ba bb hJ hJx hY hR hcn hlt2
    gi_wp2_with fail
    refine RoundIn.mono (RoundIn.any HRD.out) ?_
    clear HRD hy
    rintro e W3 (⟨rfl, hJ3, hk3⟩ | ⟨rfl, hJ3, hk3⟩)
    · have HX := Lib.hid hJ3
      clear hJ3 hk3
      gi_wp2_with fail
      go_roundw
      case rel => exact ⟨k + 1, by have := HLT.out; omega, by first | rfl | (congr 1; omega) | (simp; omega), HX.out⟩
      case measure => simp [intOf]; omega
    · have HX := Lib.hid hJ3
      clear hJ3 hk3
      gi_wp2_with fail
      repeat (first | refine ⟨fun _ _ => trivial, ?_⟩ | refine ⟨trivial, ?_⟩)
      gi_wp2_with fail
      refine bodyPost_ret (results_none rfl _ _ _) rfl ?_
      exact ⟨⟨_, rfl⟩, .inr ⟨k, HLT.out, HX.out⟩⟩
end Go.Proofs.Ytgbegdjakadbbaa

set_option linter.all false
namespace Go.Proofs.Ytgbegdjakadbbaa
open Go.RowKit Vp

set_option maxHeartbeats 8000000 in
set_option maxRecDepth 100000 in
theorem cost_any (B g : Nat) (l : List St) (m : Int) (k : Nat) (d : Int) (w : World) (hB : Bn w B g l m) (ho : ∀ s ∈ l, okSB s = true) (hk : k < l.length) (hn : l.length ≤ 20) (hd : -10000 ≤ d ∧ d ≤ 10000) :
    Calls Try.prog 76 #[.pointer (some ⟨g, 0, none⟩), .int .i64 k, .int .i64 d] w fun e w' => e = .returned (.int .i64 (cst (nthS l k) d)) ∧ w = w' := by
  obtain ⟨vs, vt, b, _, hT, _⟩ := hB
  obtain ⟨A, cap, bb, off, rfl, hA, hc⟩ := RT.cells hT
  obtain ⟨rfl, hbb⟩ := hA (by omega)
  obtain ⟨-, -, -, d3⟩ := hc k hk
  have hos := okS_at ho hk
  have hk' : (k : Int) < (l.length : Int) := by omega
  have lb := b.lt
  have c0 := b.cell 0
  simp at c0
  unfold cst
  generalize nthS l k = s at *
  have wd : IntKind.i64.wrap (-d) = -d := by rw [IntKind.wrap_i64]; omega
  obtain ⟨M, hM⟩ : ∃ M, max d (-d) = M := ⟨_, rfl⟩
  rw [hM]
  have hmx : (if d < -d then -d else d) = M := by rw [← hM]; omega
  have h1 : s.hard * M ≤ 9 * 10000 := Int.mul_le_mul (by omega) (by omega) (by omega) (by omega)
  have h2 : 0 ≤ s.hard * M := Int.mul_nonneg (by omega) (by omega)
  have wm : IntKind.i64.wrap (s.hard * M) = s.hard * M := by rw [IntKind.wrap_i64]; omega
  clear h1 h2 hM hos ho hT hA hc b
  go_enter Try.func76, Try.ntmps76
  go_wp2_with fail
  go_ret
  exact ⟨rfl, rfl⟩
theorem cost_b (B g : Nat) (l : List St) (m : Int) (k : Nat) (d : Int) (w : World) (hB : Bn w B g l m) (ho : ∀ s ∈ l, okSB s = true) (hk : k < l.length) (hn : l.length ≤ 20) (hd : -10000 ≤ d ∧ d ≤ 10000) :
    Calls Try.prog 76 #[.pointer (some ⟨g, 0, none⟩), .int .i64 k, .int .i64 d] w fun e w' => e = .returned (.int .i64 (cst (nthS l k) d)) ∧ Below w.heap.size w w' :=
  (cost_any B g l m k d w hB ho hk hn hd).mono fun e w' ⟨h1, h2⟩ => ⟨h1, below_eq h2⟩

theorem tub_rng {s : St} (h : okSB s = true) : -200 ≤ (tub s).lo ∧ (tub s).lo ≤ (tub s).hi ∧ (tub s).hi ≤ 200 := by
  have := okSB_iff.1 h
  simp only [tub]; omega
set_option maxHeartbeats 8000000 in
set_option maxRecDepth 100000 in
theorem bends_any (B g : Nat) (l : List St) (m : Int) (k : Nat) (f : Int) (w : World) (hBn : Bn w B g l m) (hBs : B ≤ w.heap.size) (ho : ∀ s ∈ l, okSB s = true) (hm : 0 ≤ m ∧ m ≤ 200) (hk : k < l.length) (hn : l.length ≤ 20) (hf : -1000 ≤ f ∧ f ≤ 1000) :
    Calls Try.prog 73 #[.pointer (some ⟨g, 0, none⟩), .int .i64 k, .int .i64 f] w fun e w' => e = .returned (cntV (w.heap.size + 1) (w.heap.size + 2)) ∧ CntMem (w.heap.size + 1) (w.heap.size + 2) (bLo (nthS l k) m f) (bHi (nthS l k) m f) w' ∧ Below w.heap.size w w' := by
  obtain ⟨n0, hn0⟩ : ∃ n, w.heap.size = n := ⟨_, rfl⟩
  obtain ⟨vs, vt, b, hgB, hT, hR⟩ := hBn
  obtain ⟨A, cap, bb, off, rfl, hA, hc⟩ := RR.cells hR
  have htl := tubes_len l
  obtain ⟨rfl, hbb⟩ := hA (by omega)
  obtain ⟨d0, d1⟩ := hc (k + 1) (by omega)
  have htr := tub_rng (ho _ (nthS_mem hk))
  unfold bLo bHi
  rw [tubes_at hk] at d0 d1
  generalize tub (nthS l k) = t at *
  have hk' : (k : Int) + 1 < (((tubes l).length : Nat) : Int) := by omega
  have wk : IntKind.i64.wrap ((k : Int) + 1) = (k : Int) + 1 := by rw [IntKind.wrap_i64]; omega
  have wk2 : ((k : Int) + 1).toNat = k + 1 := by omega
  have wk3 : (0 : Int) ≤ (k : Int) + 1 := by omega
  have lb := b.lt
  have c1 := b.cell 1
  have c2 := b.cell 2
  simp at c1 c2
  have lbb : bb < w.heap.size := by omega
  have w1 : IntKind.i64.wrap (f - m) = f - m := by rw [IntKind.wrap_i64]; omega
  have w2 : IntKind.i64.wrap (f + m) = f + m := by rw [IntKind.wrap_i64]; omega
  obtain ⟨lo, hlo⟩ : ∃ x, max t.lo (f - m) = x := ⟨_, rfl⟩
  obtain ⟨hi, hhi⟩ : ∃ x, min t.hi (f + m) = x := ⟨_, rfl⟩
  rw [hlo, hhi]
  have m1 : (if t.lo < f - m then f - m else t.lo) = lo := by rw [← hlo]; omega
  have m2 : (if f + m < t.hi then f + m else t.hi) = hi := by rw [← hhi]; omega
  have B1 := Lib.hid b
  have hCC := Lib.hid (show Below n0 w w from Below.refl _ _)
  rw [hn0]
  clear hlo hhi hT hR hA hc htr b hgB
  go_enter Try.func73, Try.ntmps73
  go_upto_region 2 with fail
  have bt : BK (w.alloc (.cells #[.int .i64 t.lo, .int .i64 t.hi] 42)) n0 #[.int .i64 t.lo, .int .i64 t.hi] 42 := BK.new' _ _ _ n0 hn0
  have b1 := B1.out.alloc (.cells #[.int .i64 t.lo, .int .i64 t.hi] 42)
  have hC : Below n0 w (w.alloc (.cells #[.int .i64 t.lo, .int .i64 t.hi] 42)) := Below.alloc hCC.out (by omega) _
  have hs : (w.alloc (.cells #[.int .i64 t.lo, .int .i64 t.hi] 42)).heap.size = n0 + 1 := by simp [hn0]
  have HS := Lib.hid hs
  clear d0 d1 c1 c2 lb lbb hs B1 hCC
  generalize w.alloc (.cells #[.int .i64 t.lo, .int .i64 t.hi] 42) = W at *
  have lb := b1.lt
  have c1 := b1.cell 1
  simp at c1
  have lt := bt.lt
  have t0 := bt.cell 0
  have t1 := bt.cell 1
  simp at t0 t1
  refine wp_region_noPanic (plain_any [0, 1, 2, 3, 4, 5, 6, 7, 8, 9, 10, 11, 12, 13, 14, 15, 16, 17, 18, 19, 21] (Below W.heap.size W) mixed ?_)
  refine any_tk 0 ?_
  refine any_tk 1 ?_
  refine any_tk 2 ?_
  refine any_tk 3 ?_
  refine any_tk 4 ?_
  refine any_tk 5 ?_
  refine any_tk 6 ?_
  refine any_tk 7 ?_
  refine any_tk 8 ?_
  refine any_tk 9 ?_
  refine any_tk 10 ?_
  refine any_tk 11 ?_
  refine any_tk 12 ?_
  refine any_tk 13 ?_
  refine any_tk 14 ?_
  refine any_tk 15 ?_
  refine any_tk 16 ?_
  refine any_tk 17 ?_
  refine any_tk 18 ?_
  refine any_tk 19 ?_
  have hd : Below W.heap.size W W.drew := Below.drew (Below.refl _ _)
  refine any_run1 (i := 20) (by kernel_rfl) (by rfl) (by kernel_rfl) ?_
  intro K hK
  go_wp2_with fail
  refine (count_any lo hi _).mono ?_
  rintro e V ⟨rfl, hM, _, hb⟩
  rw [show W.drew.heap.size = W.heap.size from rfl, HS.out] at hM ⊢
  have hb2 := hd.trans hb
  have HM := Lib.hid hM
  have HC := Lib.hid (hC.trans (hb2.mono (by rw [HS.out]; omega)))
  refine hK _ _ (fun _ => hb2) ?_
  clear hK K hM hb
  unfold cntV
  refine any_tk 21 ?_
  refine any_done (by kernel_rfl) (NoPanic.normal ?_)
  clear lb c1 lt t0 t1 b1 bt hC hd
  go_wp2_with fail
  go_ret
  exact ⟨rfl, HM.out, HC.out⟩

/-- The error of a blade and a station. -/
def atE (l : List St) (m s : Int) : Int := if blaE l m ≠ 0 then blaE l m else if s < 0 ∨ l.length ≤ s then 3 else 0
theorem atE_bla {l : List St} {m s : Int} (h : blaE l m ≠ 0) : atE l m s = blaE l m := if_pos h
theorem atE_out {l : List St} {m s : Int} (h : blaE l m = 0) (h2 : s < 0 ∨ l.length ≤ s) : atE l m s = 3 := by unfold atE; rw [if_neg (by simp [h]), if_pos h2]
theorem atE_in {l : List St} {m s : Int} (h : blaE l m = 0) (h2 : ¬ (s < 0 ∨ l.length ≤ s)) : atE l m s = 0 := by unfold atE; rw [if_neg (by simp [h]), if_neg h2]
theorem atE_zero {l : List St} {m s : Int} (h : atE l m s = 0) : OkB l m ∧ ∃ k : Nat, s = k ∧ k < l.length := by
  by_cases h1 : blaE l m = 0
  · by_cases h2 : s < 0 ∨ l.length ≤ s
    · rw [atE_out h1 h2] at h; omega
    · exact ⟨blaE_ok.1 h1, s.toNat, by omega, by omega⟩
  · rw [atE_bla h1] at h; omega
/-- What open and at give. -/
def OpenPost (E : Int) (l : List St) (m : Int) (w : World) (e : Ending) (w' : World) : Prop :=
  ∃ p : Option Addr, e = .returned (.tuple #[.pointer p, .int .i64 E]) ∧ (E = 0 → ∃ g, p = some ⟨g, 0, none⟩ ∧ w.heap.size ≤ g ∧ Bn w' w'.heap.size g l m) ∧ Below w.heap.size w w'
theorem OpenPost.no {E : Int} {l : List St} {m : Int} {w w' : World} (h : E ≠ 0) (hb : Below w.heap.size w w') : OpenPost E l m w (.returned (.tuple #[.pointer none, .int .i64 E])) w' := ⟨none, rfl, fun h0 => absurd h0 h, hb⟩
end Go.Proofs.Ytgbegdjakadbbaa

set_option linter.all false
namespace Go.Proofs.Ytgbegdjakadbbaa
open Go.RowKit Vp

set_option maxHeartbeats 8000000 in
set_option maxRecDepth 100000 in
theorem open_any (l : List St) (v : Value) (m : Int) (w : World) (hl : l.length ≤ 1000) (hT : RT w w.heap.size v l) :
    Calls Try.prog 49 #[bV v m] w (OpenPost (blaE l m) l m w) := by
  unfold bV
  obtain ⟨b, off, cap, A, rfl, -, hcap⟩ := hT.slice
  obtain ⟨n0, hn0⟩ : ∃ n, w.heap.size = n := ⟨_, rfl⟩
  have hC : Below n0 w w := Below.refl _ _
  go_enter Try.func49, Try.ntmps49
  go_upto_region 1 with fail
  have hqbx : n0 ≤ n0 := by have := hC.size; omega
  have bx : BK (w.alloc (.cells #[.slice A l.length cap, .int .i64 m] 24)) (n0) #[.slice A l.length cap, .int .i64 m] 24 := BK.new' _ _ _ (n0) hn0
  have hsbx : (w.alloc (.cells #[.slice A l.length cap, .int .i64 m] 24)).heap.size = n0 + 1 := by simp [hn0]
  replace hC : Below n0 w (w.alloc (.cells #[.slice A l.length cap, .int .i64 m] 24)) := Below.alloc hC (by have := hC.size; omega) _
  replace hT := (RS.below hT (w' := (w.alloc (.cells #[.slice A l.length cap, .int .i64 m] 24))) (Below.alloc (Below.refl _ _) (Nat.le_refl _) _)).more (B' := (w.alloc (.cells #[.slice A l.length cap, .int .i64 m] 24)).heap.size) (by simp)
  generalize (w.alloc (.cells #[.slice A l.length cap, .int .i64 m] 24)) = Wbx at *
  have lbx := bx.lt
  have bxc0 := bx.cell 0
  have bxc1 := bx.cell 1
  simp at bxc0 bxc1
  go_wp2_with fail
  clear lbx bxc0 bxc1
  clear hsbx
  refine (check_any l _ m _ hl hT).mono ?_
  rintro e w1 ⟨rfl, hb⟩
  replace hC : Below n0 w w1 := hC.trans (hb.mono (by have := hC.size; omega))
  replace hT := (RS.below hT hb).more hb.size
  replace bx := bx.below hb bx.lt
  clear hb
  obtain ⟨e, he⟩ : ∃ e, blaE l m = e := ⟨_, rfl⟩
  rw [he]
  by_cases h0 : e = 0
  case neg =>
    have HE := Lib.hid he
    have b1 : (e != 0) = true := by simp [h0]
    have HN := Lib.hid h0
    clear he h0
    go_wp2_with fail
    exact bodyPost_ret (v := .tuple #[.pointer none, .int .i64 e]) (by simp [results, Try.results49, go_sem]) rfl (by rw [HE.out]; exact OpenPost.no HN.out (by first | exact hC | (rw [hn0]; exact hC) | (with_reducible rw [hn0]; exact bel_of) | exact bel_of))
  subst h0
  have HE := Lib.hid he
  obtain ⟨-, h20, hall, -, -⟩ := blaE_ok.1 he
  have HO := Lib.hid hall
  clear he hall
  have lbx := bx.lt
  have bxc0 := bx.cell 0
  have bxc1 := bx.cell 1
  simp at bxc0 bxc1
  go_wp2_with fail
  clear lbx bxc0 bxc1
  have hn2 := hC.size
  refine (newBench_any l _ m _ HO.out h20 hT).mono ?_
  rintro e w2 ⟨gb, rfl, hgb, hBn, hb⟩
  replace hC : Below n0 w w2 := hC.trans (hb.mono (by have := hC.size; omega))
  replace hT := (RS.below hT hb).more hb.size
  replace bx := bx.below hb bx.lt
  clear hb
  go_wp2_with fail
  exact bodyPost_ret (v := .tuple #[.pointer (some ⟨gb, 0, none⟩), .int .i64 0]) (by simp [results, Try.results49, go_sem]) rfl ⟨_, by rw [HE.out], fun _ => ⟨gb, rfl, by (try rw [hn0]); omega, hBn⟩, by first | exact hC | (rw [hn0]; exact hC) | (with_reducible rw [hn0]; exact bel_of) | exact bel_of⟩

set_option maxHeartbeats 8000000 in
set_option maxRecDepth 100000 in
theorem at_any (l : List St) (v : Value) (m s : Int) (w : World) (hl : l.length ≤ 1000) (hT : RT w w.heap.size v l) :
    Calls Try.prog 54 #[bV v m, .int .i64 s] w (OpenPost (atE l m s) l m w) := by
  unfold bV
  obtain ⟨b, off, cap, A, rfl, -, hcap⟩ := hT.slice
  obtain ⟨n0, hn0⟩ : ∃ n, w.heap.size = n := ⟨_, rfl⟩
  have hC : Below n0 w w := Below.refl _ _
  go_enter Try.func54, Try.ntmps54
  go_upto_region 1 with fail
  have hqbx : n0 ≤ n0 := by have := hC.size; omega
  have bx : BK (w.alloc (.cells #[.slice A l.length cap, .int .i64 m] 24)) (n0) #[.slice A l.length cap, .int .i64 m] 24 := BK.new' _ _ _ (n0) hn0
  have hsbx : (w.alloc (.cells #[.slice A l.length cap, .int .i64 m] 24)).heap.size = n0 + 1 := by simp [hn0]
  replace hC : Below n0 w (w.alloc (.cells #[.slice A l.length cap, .int .i64 m] 24)) := Below.alloc hC (by have := hC.size; omega) _
  replace hT := (RS.below hT (w' := (w.alloc (.cells #[.slice A l.length cap, .int .i64 m] 24))) (Below.alloc (Below.refl _ _) (Nat.le_refl _) _)).more (B' := (w.alloc (.cells #[.slice A l.length cap, .int .i64 m] 24)).heap.size) (by simp)
  generalize (w.alloc (.cells #[.slice A l.length cap, .int .i64 m] 24)) = Wbx at *
  have lbx := bx.lt
  have bxc0 := bx.cell 0
  have bxc1 := bx.cell 1
  simp at bxc0 bxc1
  go_wp2_with fail
  clear lbx bxc0 bxc1
  have hn2 := hC.size
  clear hsbx
  refine (open_any l _ m _ hl hT).mono ?_
  rintro e w1 ⟨p, rfl, hop, hb⟩
  replace hC : Below n0 w w1 := hC.trans (hb.mono (by have := hC.size; omega))
  replace hT := (RS.below hT hb).more hb.size
  replace bx := bx.below hb bx.lt
  clear hb
  obtain ⟨e, he⟩ : ∃ e, blaE l m = e := ⟨_, rfl⟩
  rw [he] at hop ⊢
  by_cases h0 : e = 0
  case neg =>
    have HE := Lib.hid ((atE_bla (s := s) (by rw [he]; exact h0)).trans he)
    have b1 : (e != 0) = true := by simp [h0]
    have HN := Lib.hid h0
    clear he h0 hop
    have lbx := bx.lt
    have bxc0 := bx.cell 0
    have bxc1 := bx.cell 1
    simp at bxc0 bxc1
    go_wp2_with fail
    exact bodyPost_ret (v := .tuple #[.pointer none, .int .i64 e]) (by simp [results, Try.results54, go_sem]) rfl (by rw [HE.out]; exact OpenPost.no HN.out (by first | exact hC | (rw [hn0]; exact hC) | (with_reducible rw [hn0]; exact bel_of) | exact bel_of))
  subst h0
  obtain ⟨gb, rfl, hgb, hBn⟩ := hop rfl
  by_cases h1 : s < 0
  case pos =>
    have HE := Lib.hid (atE_out he (.inl h1))
    have z1 : decide (s < 0) = true := decide_eq_true h1
    clear he h1
    have lbx := bx.lt
    have bxc0 := bx.cell 0
    have bxc1 := bx.cell 1
    simp at bxc0 bxc1
    go_wp2_with fail
    exact bodyPost_ret (v := .tuple #[.pointer none, .int .i64 3]) (by simp [results, Try.results54, go_sem]) rfl (by rw [HE.out]; exact OpenPost.no (by decide) (by first | exact hC | (rw [hn0]; exact hC) | (with_reducible rw [hn0]; exact bel_of) | exact bel_of))
  have h0 := h1
  clear h1
  by_cases h1 : (l.length : Int) ≤ s
  case pos =>
    have HE := Lib.hid (atE_out he (.inr h1))
    have z1 : decide (s < 0) = false := decide_eq_false h0
    have z2 : decide ((l.length : Int) ≤ s) = true := decide_eq_true h1
    clear he h1
    have lbx := bx.lt
    have bxc0 := bx.cell 0
    have bxc1 := bx.cell 1
    simp at bxc0 bxc1
    go_wp2_with fail
    exact bodyPost_ret (v := .tuple #[.pointer none, .int .i64 3]) (by simp [results, Try.results54, go_sem]) rfl (by rw [HE.out]; exact OpenPost.no (by decide) (by first | exact hC | (rw [hn0]; exact hC) | (with_reducible rw [hn0]; exact bel_of) | exact bel_of))
  have h2 := h1
  have HE := Lib.hid (atE_in (s := s) he (by omega))
  have z1 : decide (s < 0) = false := decide_eq_false h0
  have z2 : decide ((l.length : Int) ≤ s) = false := decide_eq_false h2
  have HBN := Lib.hid hBn
  have HGB := Lib.hid (show n0 ≤ gb by omega)
  clear he h0 h1 h2 hBn hgb
  have lbx := bx.lt
  have bxc0 := bx.cell 0
  have bxc1 := bx.cell 1
  simp at bxc0 bxc1
  go_wp2_with fail
  exact bodyPost_ret (v := .tuple #[.pointer (some ⟨gb, 0, none⟩), .int .i64 0]) (by simp [results, Try.results54, go_sem]) rfl ⟨_, by rw [HE.out], fun _ => ⟨gb, rfl, by (try rw [hn0]); exact HGB.out, HBN.out⟩, by first | exact hC | (rw [hn0]; exact hC) | (with_reducible rw [hn0]; exact bel_of) | exact bel_of⟩

set_option maxHeartbeats 8000000 in
set_option maxRecDepth 100000 in
theorem isStation_any (l : List St) (v : Value) (m s : Int) (w : World) (hl : l.length ≤ 1000) (hT : RT w w.heap.size v l) :
    Calls Try.prog 60 #[bV v m, .int .i64 s] w fun e w' => e = .returned (.int .i64 (atE l m s)) ∧ Below w.heap.size w w' := by
  unfold bV
  obtain ⟨b, off, cap, A, rfl, -, hcap⟩ := hT.slice
  obtain ⟨n0, hn0⟩ : ∃ n, w.heap.size = n := ⟨_, rfl⟩
  have hC : Below n0 w w := Below.refl _ _
  go_enter Try.func60, Try.ntmps60
  go_upto_region 1 with fail
  have hqbx : n0 ≤ n0 := by have := hC.size; omega
  have bx : BK (w.alloc (.cells #[.slice A l.length cap, .int .i64 m] 24)) (n0) #[.slice A l.length cap, .int .i64 m] 24 := BK.new' _ _ _ (n0) hn0
  have hsbx : (w.alloc (.cells #[.slice A l.length cap, .int .i64 m] 24)).heap.size = n0 + 1 := by simp [hn0]
  replace hC : Below n0 w (w.alloc (.cells #[.slice A l.length cap, .int .i64 m] 24)) := Below.alloc hC (by have := hC.size; omega) _
  replace hT := (RS.below hT (w' := (w.alloc (.cells #[.slice A l.length cap, .int .i64 m] 24))) (Below.alloc (Below.refl _ _) (Nat.le_refl _) _)).more (B' := (w.alloc (.cells #[.slice A l.length cap, .int .i64 m] 24)).heap.size) (by simp)
  generalize (w.alloc (.cells #[.slice A l.length cap, .int .i64 m] 24)) = Wbx at *
  have lbx := bx.lt
  have bxc0 := bx.cell 0
  have bxc1 := bx.cell 1
  simp at bxc0 bxc1
  go_wp2_with fail
  clear lbx bxc0 bxc1
  clear hsbx
  refine (checkR_any l _ m _ hl hT).mono ?_
  rintro e w1 ⟨rfl, hb⟩
  replace hC : Below n0 w w1 := hC.trans (hb.mono (by have := hC.size; omega))
  replace hT := (RS.below hT hb).more hb.size
  replace bx := bx.below hb bx.lt
  clear hb
  obtain ⟨e, he⟩ : ∃ e, blaE l m = e := ⟨_, rfl⟩
  rw [he]
  by_cases h0 : e = 0
  case neg =>
    have HE0 := Lib.hid he
    have HE := Lib.hid ((atE_bla (s := s) (by rw [he]; exact h0)).trans he)
    have b1 : (e != 0) = true := by simp [h0]
    clear he h0
    have lbx := bx.lt
    have bxc0 := bx.cell 0
    have bxc1 := bx.cell 1
    simp at bxc0 bxc1
    go_wp2_with fail
    clear lbx bxc0 bxc1
    refine (checkR_any l _ m _ hl hT).mono ?_
    rintro e w2 ⟨rfl, hb⟩
    replace hC : Below n0 w w2 := hC.trans (hb.mono (by have := hC.size; omega))
    replace hT := (RS.below hT hb).more hb.size
    replace bx := bx.below hb bx.lt
    clear hb
    rw [HE0.out]
    go_wp2_with fail
    go_ret
    exact ⟨ret_int HE.out.symm, by first | exact hC | (rw [hn0]; exact hC) | (with_reducible rw [hn0]; exact bel_of) | exact bel_of⟩
  subst h0
  by_cases h1 : s < 0
  case pos =>
    have HE := Lib.hid (atE_out he (.inl h1))
    have z1 : decide (s < 0) = true := decide_eq_true h1
    clear he h1
    have lbx := bx.lt
    have bxc0 := bx.cell 0
    have bxc1 := bx.cell 1
    simp at bxc0 bxc1
    go_wp2_with fail
    go_ret
    exact ⟨ret_int HE.out.symm, by first | exact hC | (rw [hn0]; exact hC) | (with_reducible rw [hn0]; exact bel_of) | exact bel_of⟩
  have h0 := h1
  clear h1
  by_cases h1 : (l.length : Int) ≤ s
  case pos =>
    have HE := Lib.hid (atE_out he (.inr h1))
    have z1 : decide (s < 0) = false := decide_eq_false h0
    have z2 : decide ((l.length : Int) ≤ s) = true := decide_eq_true h1
    clear he h1
    have lbx := bx.lt
    have bxc0 := bx.cell 0
    have bxc1 := bx.cell 1
    simp at bxc0 bxc1
    go_wp2_with fail
    go_ret
    exact ⟨ret_int HE.out.symm, by first | exact hC | (rw [hn0]; exact hC) | (with_reducible rw [hn0]; exact bel_of) | exact bel_of⟩
  have h2 := h1
  have HE := Lib.hid (atE_in (s := s) he (by omega))
  have z1 : decide (s < 0) = false := decide_eq_false h0
  have z2 : decide ((l.length : Int) ≤ s) = false := decide_eq_false h2
  clear he h0 h1 h2
  have lbx := bx.lt
  have bxc0 := bx.cell 0
  have bxc1 := bx.cell 1
  simp at bxc0 bxc1
  go_wp2_with fail
  go_ret
  exact ⟨ret_int HE.out.symm, by first | exact hC | (rw [hn0]; exact hC) | (with_reducible rw [hn0]; exact bel_of) | exact bel_of⟩

end Go.Proofs.Ytgbegdjakadbbaa
