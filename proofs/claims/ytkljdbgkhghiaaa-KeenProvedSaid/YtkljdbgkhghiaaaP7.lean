/- A map of links by places, as a function. A function that holds ranges over functions in a loop: how it is left. Rows of numbers: when two are equal. -/
import Derived.Test.YtkljdbgkhghiaaaP6
import Derived.Maps.OwnSet
import Derived.ChangeKeysEq
import Derived.Deep.MidRow
set_option linter.all false
set_option linter.unnecessarySimpa false
set_option linter.unusedSimpArgs false
set_option linter.unusedVariables false
set_option linter.unusedSectionVars false

namespace Go.Proofs.Ytkljdbgkhghiaaa
open Go.RowKit Go.Maps Kp

theorem mapT : Try.prog.underlying 99 = some (.map 3 44) := by kernel_rfl
theorem keyT : Try.prog.underlying 3 = some (.int .i64) := by kernel_rfl
theorem eltZ (w : World) : (zeroValue 44).run Try.prog w = .ok (klV ⟨0, 0, 0⟩) w := by simp [zeroValue, go_sem, Try.t44, klV]
theorem klV_inj {a b : Kl} (h : klV a = klV b) : a = b := by
  obtain ⟨a1, a2, a3⟩ := a
  obtain ⟨b1, b2, b3⟩ := b
  simp [klV] at h
  obtain ⟨rfl, rfl, rfl⟩ := h
  rfl
open Classical in
/-- How a link reads. -/
noncomputable def klEl (v : Value) : Option (DataW Kl × List MemPlace) := if h : ∃ k, v = klV k then some (.held (Classical.choose h), []) else none
theorem klEl_of (k : Kl) : klEl (klV k) = some (.held k, []) := by
  have h : ∃ q, klV k = klV q := ⟨k, rfl⟩
  unfold klEl
  rw [dif_pos h, ← klV_inj (Classical.choose_spec h)]
theorem klEl_inv {v : Value} {k : Kl} {ps : List MemPlace} (h : klEl v = some (.held k, ps)) : v = klV k := by
  unfold klEl at h
  split at h
  · rename_i hq
    simp only [Option.some.injEq, Prod.mk.injEq, DataW.held.injEq] at h
    rw [Classical.choose_spec hq, h.1]
  · cases h
theorem wf_of {a : Int} (h : -9223372036854775808 ≤ a ∧ a ≤ 9223372036854775807) : (Lit.int .i64 a).wf = true := by
  first | exact WalkArith.wf_i64 (by omega) | (simp [Lit.wf]; omega)

/-- The map in block b holds the links f, of places below 1000. -/
def MP (W : World) (b n : Nat) (f : Nat → Option Kl) : Prop :=
  ∃ D : DataW Kl, W.ownsMap Try.prog 3 klEl b n D ∧ IsMap D ∧ ∀ k : Nat, k < 1000 → has D (.int .i64 k) = (f k).isSome ∧ ∀ c, f k = some c → D.atKey (.int .i64 k) (.held ⟨0, 0, 0⟩) = .held c

theorem MP.made (w : World) : MP (w.alloc (.map #[] 0)) w.heap.size 0 fun _ => none :=
  ⟨.map [], World.ownsMap_made _ _ _ _, isMap_empty, fun k hk => ⟨rfl, fun c hc => by cases hc⟩⟩
theorem MP.kept {W W' : World} {b n : Nat} {f : Nat → Option Kl} (h : MP W b n f) (hb : W'.heap[b]? = W.heap[b]?) : MP W' b n f := by
  obtain ⟨D, ⟨es, clock, h1, h2⟩, h3⟩ := h
  exact ⟨D, ⟨es, clock, hb.trans h1, h2⟩, h3⟩
theorem MP.lt {W : World} {b n : Nat} {f : Nat → Option Kl} (h : MP W b n f) : b < W.heap.size := by
  obtain ⟨D, ⟨es, clock, h1, h2⟩, h3⟩ := h
  exact (Array.getElem?_eq_some_iff.1 h1).1

theorem MP.look {W : World} {b n : Nat} {f : Nat → Option Kl} (h : MP W b n f) (k : Nat) (hk : k < 1000) :
    ∃ c, (Instr.lookup 99 (.map (some b)) (.int .i64 k) true).run Try.prog W = .ok (.tuple #[c, .bool (f k).isSome]) W ∧ ∀ x, f k = some x → c = klV x := by
  obtain ⟨D, h1, h2, h3⟩ := h
  obtain ⟨h4, h5⟩ := h3 k hk
  obtain ⟨v, ps, hrun, hv⟩ := h1.look_ok (int_keyed keyT) mapT (eltZ W) (zd := .held ⟨0, 0, 0⟩) (zp := []) (klEl_of _) (keyOf_int_mk keyT (wf_of (by omega)) : keyOf Try.prog 3 (.int .i64 (k : Int)) = some (.int .i64 k))
  refine ⟨v, by rw [h4] at hrun; exact hrun, fun x hx => ?_⟩
  rw [h5 x hx] at hv
  exact klEl_inv hv
theorem MP.get {W : World} {b n : Nat} {f : Nat → Option Kl} (h : MP W b n f) (k : Nat) (hk : k < 1000) :
    ∃ c, (Instr.lookup 99 (.map (some b)) (.int .i64 k) false).run Try.prog W = .ok c W ∧ ∀ x, f k = some x → c = klV x := by
  obtain ⟨D, h1, h2, h3⟩ := h
  obtain ⟨h4, h5⟩ := h3 k hk
  obtain ⟨v, ps, hrun, hv⟩ := h1.lookup (int_keyed keyT) mapT (eltZ W) (zd := .held ⟨0, 0, 0⟩) (zp := []) (klEl_of _) (keyOf_int_mk keyT (wf_of (by omega)) : keyOf Try.prog 3 (.int .i64 (k : Int)) = some (.int .i64 k))
  refine ⟨v, hrun, fun x hx => ?_⟩
  rw [h5 x hx] at hv
  exact klEl_inv hv

theorem key_ne {j k : Nat} (h : j ≠ k) : (Lit.int .i64 (j : Int)) ≠ .int .i64 (k : Int) := by
  intro e
  injection e with _ e
  omega

theorem MP.store {W : World} {b n : Nat} {f : Nat → Option Kl} (h : MP W b n f) (k : Nat) (hk : k < 1000) (x : Kl) (hn : n < 1000000) :
    ∃ W', (Instr.mapUpdate 99 (.map (some b)) (.int .i64 k) (klV x)).run Try.prog W = .ok () W' ∧ MP W' b (n + 1) (fun j => if j = k then some x else f j) ∧ W.grownBy W' (some b) ∧ W'.heap.size = W.heap.size := by
  obtain ⟨D, h1, h2, h3⟩ := h
  obtain ⟨W', hrun, ho, ht⟩ := h1.store (int_keyed keyT) mapT (by unfold maxLen; omega) (keyOf_int_mk keyT (wf_of (by omega)) : keyOf Try.prog 3 (.int .i64 (k : Int)) = some (.int .i64 k)) (klEl_of x)
  refine ⟨W', hrun, ⟨_, ho, ?_, fun j hj => ?_⟩, ht.grown, ?_⟩
  · obtain ⟨es, rfl⟩ := h2
    exact ⟨_, rfl⟩
  · by_cases hjk : j = k
    · subst hjk
      simp only [if_true]
      refine ⟨has_put_same h2 (by trivial) _, fun c hc => ?_⟩
      rw [atKey_put_same h2 (by trivial)]
      rw [Option.some.inj hc]
    · simp only [if_neg hjk]
      rw [has_put_other (key_ne hjk)]
      refine ⟨(h3 j hj).1, fun c hc => ?_⟩
      rw [atKey_put_other (key_ne hjk)]
      exact (h3 j hj).2 c hc
  · obtain ⟨es, clock, es', clock', hb, rfl⟩ := ht
    simp [ChangeMaps.setBlock]

theorem MP.drop {W : World} {b n : Nat} {f : Nat → Option Kl} (h : MP W b n f) (k : Nat) (hk : k < 1000) (ty : TypeId) :
    ∃ W', (Builtin.delete_ #[99, 3] ty #[.map (some b), .int .i64 k]).run Try.prog W = .ok (.tuple #[]) W' ∧ MP W' b n (fun j => if j = k then none else f j) ∧ W.grownBy W' (some b) ∧ W'.heap.size = W.heap.size := by
  obtain ⟨D, h1, h2, h3⟩ := h
  obtain ⟨W', hrun, ho, ht⟩ := h1.drop (int_keyed keyT) mapT (keyOf_int_mk keyT (wf_of (by omega)) : keyOf Try.prog 3 (.int .i64 (k : Int)) = some (.int .i64 k)) ty
  refine ⟨W', hrun, ⟨_, ho, ?_, fun j hj => ?_⟩, ht.grown, ?_⟩
  · obtain ⟨es, rfl⟩ := h2
    exact ⟨_, rfl⟩
  · by_cases hjk : j = k
    · subst hjk
      simp only [if_true]
      exact ⟨by rw [has_del_same]; rfl, fun c hc => by cases hc⟩
    · simp only [if_neg hjk]
      rw [has_del_other (key_ne hjk)]
      refine ⟨(h3 j hj).1, fun c hc => ?_⟩
      rw [atKey_del_other (key_ne hjk)]
      exact (h3 j hj).2 c hc
  · obtain ⟨es, clock, es', clock', hb, rfl⟩ := ht
    simp [ChangeMaps.setBlock]
end Go.Proofs.Ytkljdbgkhghiaaa

namespace Go.Proofs.Ytkljdbgkhghiaaa
open Go.RowKit Kp

/-- What stands in the frame for a range over a function that has ended. -/
def mk (D : Nat) : Deferred := { target := .collected D, args := #[] }
/-- They are ended all. -/
def putAll : List Nat → World → World
  | [], W => W
  | D :: Ds, W => putAll Ds (W.putObj D (.deferred none))
theorem putAll_other : ∀ (Ds : List Nat) (W : World) (k : Nat), k ∉ Ds → (putAll Ds W).heap[k]? = W.heap[k]?
  | [], _, _, _ => rfl
  | D :: Ds, W, k, h => by
    rw [putAll, putAll_other Ds _ k (fun e => h (by simp [e])), World.putObj_heap_other (fun e => h (by simp [e]))]
theorem putAll_size : ∀ (Ds : List Nat) (W : World), (putAll Ds W).heap.size = W.heap.size
  | [], _ => rfl
  | D :: Ds, W => by rw [putAll, putAll_size Ds]; simp
theorem putAll_below {n : Nat} {w : World} : ∀ (Ds : List Nat) (W : World), Below n w W → (∀ D ∈ Ds, n ≤ D) → Below n w (putAll Ds W)
  | [], _, h, _ => h
  | D :: Ds, W, h, hn => putAll_below Ds _ (below_put h (hn D (by simp)) _) fun D' h' => hn D' (by simp [h'])
/-- The marks of ranges lie. -/
def Marks (Ds : List Nat) (W : World) : Prop := Ds.Nodup ∧ ∀ D ∈ Ds, W.heap[D]? = some (.deferred (some []))
theorem leave_all {P : Program} {fn : Func} {R : Ending → World → Prop} {tmps : Array Value} {v : Value} : ∀ (Ds : List Nat) (W : World), Marks Ds W →
    (∀ W', (results fn tmps).run P W' = .ok v W') → R (.returned v) (putAll Ds W) → bodyPostM Fence.wide 100 P fn R .ret { tmps, defers := Ds.map mk } W := by
  intro Ds
  induction Ds with
  | nil => intro W _ hv hR; exact ⟨v, hv W, hR⟩
  | cons D Ds ih =>
    intro W hM hv hR
    refine ⟨by simp [mk], .inl ⟨_, _, rfl, run_takeDeferred (hM.2 D (by simp)), ?_⟩⟩
    refine ih _ ⟨(List.nodup_cons.1 hM.1).2, fun D' h' => ?_⟩ hv hR
    have hne : D' ≠ D := fun e => (List.nodup_cons.1 hM.1).1 (e ▸ h')
    rw [World.putObj_heap_other hne]
    exact hM.2 D' (by simp [h'])

theorem row_under : Try.prog.underlying 98 = some (.array 17 2) := by kernel_rfl
theorem row_size : (Try.prog.info? 98).map (·.size) = some 17 := by kernel_rfl
theorem i64_under : Try.prog.underlying 2 = some (.int .i64) := by kernel_rfl
theorem i64_cells : Try.prog.cellsOf 2 = 1 := by kernel_rfl
theorem part_int (xs : List Int) (i : Nat) (h : i < xs.length) (w : World) : (part 2 (ofI xs).toArray i).run Try.prog w = .ok (.int .i64 (nthI xs i)) w := by
  have ha : (isAgg 2).run Try.prog w = .ok false w := by simp [isAgg, run_underlying i64_under]
  have hg : (ofI xs).toArray[i]? = some (.int .i64 (nthI xs i)) := by rw [List.getElem?_toArray]; exact ofI_get h
  simp [part, ha, hg]
theorem eq_items (d : Nat) (xs ys : List Int) (hl : xs.length = ys.length) (w : World) : ∀ (is : List Nat), (∀ i ∈ is, i < xs.length) →
    (Op.eqItems (d + 1) 2 1 (ofI xs).toArray (ofI ys).toArray is).run Try.prog w = .ok (is.all fun i => nthI xs i == nthI ys i) w := by
  intro is
  induction is with
  | nil => intro _; simp [Op.eqItems]
  | cons i is ih =>
    intro h
    have hi := h i (by simp)
    have h2 := ih fun j hj => h j (by simp [hj])
    have he : (Op.equalIn (d + 1) 2 (.int .i64 (nthI xs i)) (.int .i64 (nthI ys i))).run Try.prog w = .ok (nthI xs i == nthI ys i) w := run_equalIn_int w d _ _ _ _ _ i64_under
    simp only [Op.eqItems, Nat.mul_one, Sem.run_bind, part_int xs i hi, part_int ys i (by omega), Result.andThen_ok, he, List.all_cons]
    cases hq : nthI xs i == nthI ys i
    · simp
    · simpa using h2
theorem nthI_ext {xs ys : List Int} (hl : xs.length = ys.length) (h : ∀ i, i < xs.length → nthI xs i = nthI ys i) : xs = ys := by
  refine List.ext_getElem hl fun i h1 h2 => ?_
  have := h i h1
  unfold nthI at this
  simpa [h1, h2] using this
/-- Two rows are compared. -/
theorem eqRow (xs ys : List Int) (hx : xs.length = 17) (hy : ys.length = 17) (w : World) : (Op.equalIn 10000 98 (.agg (ofI xs).toArray) (.agg (ofI ys).toArray)).run Try.prog w = .ok (decide (xs = ys)) w := by
  obtain ⟨i, hi⟩ : ∃ i, Try.prog.info? 2 = some i := info_of_underlying i64_under
  rw [show (10000 : Nat) = 9999 + 1 from rfl, run_equalIn_array w 9999 _ _ row_under hi, i64_cells, show (9999 : Nat) = 9998 + 1 from rfl, eq_items 9998 xs ys (by omega) w (List.range 17) (fun i hi => by have := List.mem_range.1 hi; omega)]
  have e : ((List.range 17).all fun i => nthI xs i == nthI ys i) = decide (xs = ys) := by
    rw [Bool.eq_iff_iff, List.all_eq_true, decide_eq_true_eq]
    constructor
    · intro h
      refine nthI_ext (by omega) fun i hi => ?_
      have := h i (List.mem_range.2 (by omega))
      simpa using this
    · rintro rfl i _
      simp
  rw [e]
/-- The cells of a look. -/
def lookC (most : List Int) (mv : Value) (z : Int) : List Value := ofI most ++ [mv, .int .i64 z]
/-- The block g is a look. -/
def Lk (W : World) (g : Nat) (most : List Int) (mv : Value) (z : Int) : Prop := BK W g (lookC most mv z).toArray 101 ∧ most.length = 17
section
variable {W W' : World} {g : Nat} {most : List Int} {mv : Value} {z : Int}
theorem Lk.lt (h : Lk W g most mv z) : g < W.heap.size := h.1.lt
theorem Lk.same (h : Lk W g most mv z) (hb : W'.heap[g]? = W.heap[g]?) : Lk W' g most mv z := ⟨hb.trans h.1, h.2⟩
theorem Lk.below (h : Lk W g most mv z) (hb : Below W.heap.size W W') : Lk W' g most mv z := h.same (hb.block g h.lt)
theorem Lk.adm {B : Nat} (h : Lk W g most mv z) (ha : Adm B W W') : Lk W' g most mv z := ⟨ha.cells h.1, h.2⟩
theorem Lk.row (h : Lk W g most mv z) : W.rangeAt g 0 (ofI most) := by
  intro j v hv
  have hj : j < most.length := by have := (List.getElem?_eq_some_iff.1 hv).1; rwa [ofI_len] at this
  rw [Nat.zero_add, h.1.cell, List.getElem?_toArray]
  unfold lookC
  rw [List.getElem?_append_left (by rw [ofI_len]; exact hj)]
  exact hv
theorem Lk.at (h : Lk W g most mv z) {i : Nat} (hi : i < 17) : W.cell? ⟨g, i, none⟩ = some (.int .i64 (nthI most i)) := by
  have := h.row i _ (ofI_get (by rw [h.2]; exact hi))
  rwa [Nat.zero_add] at this
theorem Lk.map_ (h : Lk W g most mv z) : W.cell? ⟨g, 17, none⟩ = some mv := by
  have hl := ofI_len most
  rw [h.1.cell, List.getElem?_toArray]
  unfold lookC
  rw [List.getElem?_append_right (by rw [hl, h.2]; omega)]
  simp [hl, h.2]
theorem Lk.size_ (h : Lk W g most mv z) : W.cell? ⟨g, 18, none⟩ = some (.int .i64 z) := by
  have hl := ofI_len most
  rw [h.1.cell, List.getElem?_toArray]
  unfold lookC
  rw [List.getElem?_append_right (by rw [hl, h.2]; omega)]
  simp [hl, h.2]
theorem Lk.frozen (h : Lk W g most mv z) (i : Nat) : W.frozen? ⟨g, i, none⟩ = false := h.1.frozen i
theorem ofI_set (l : List Int) (i : Nat) (x : Int) : (ofI l).set i (.int .i64 x) = ofI (l.set i x) := by simp [ofI, List.map_set]
theorem Lk.set (h : Lk W g most mv z) {i : Nat} (hi : i < 17) (x : Int) : Lk (W.setCell ⟨g, i, none⟩ (.int .i64 x)) g (most.set i x) mv z := by
  refine ⟨?_, by simpa using h.2⟩
  have := h.1.set i (.int .i64 x)
  have e : (lookC most mv z).toArray.setIfInBounds i (.int .i64 x) = (lookC (most.set i x) mv z).toArray := by
    rw [List.setIfInBounds_toArray]
    unfold lookC
    rw [List.set_append_left _ _ (by rw [ofI_len, h.2]; exact hi), ofI_set]
  rw [e] at this
  exact this
theorem Lk.setMap (h : Lk W g most mv z) (mv' : Value) : Lk (W.setCell ⟨g, 17, none⟩ mv') g most mv' z := by
  refine ⟨?_, h.2⟩
  have := h.1.set 17 mv'
  have hl := ofI_len most
  have e : (lookC most mv z).toArray.setIfInBounds 17 mv' = (lookC most mv' z).toArray := by
    rw [List.setIfInBounds_toArray]
    unfold lookC
    rw [List.set_append_right _ _ (by rw [hl, h.2]; omega), hl, h.2]
    rfl
  rw [e] at this
  exact this
theorem Lk.setSize (h : Lk W g most mv z) (z' : Int) : Lk (W.setCell ⟨g, 18, none⟩ (.int .i64 z')) g most mv z' := by
  refine ⟨?_, h.2⟩
  have := h.1.set 18 (.int .i64 z')
  have hl := ofI_len most
  have e : (lookC most mv z).toArray.setIfInBounds 18 (.int .i64 z') = (lookC most mv z').toArray := by
    rw [List.setIfInBounds_toArray]
    unfold lookC
    rw [List.set_append_right _ _ (by rw [hl, h.2]; omega), hl, h.2]
    rfl
  rw [e] at this
  exact this
end
section
variable {P : Program} {ops : Array Oper} {Q : Exit → Act → World → Prop}
theorem wp_store_run {o : Oper} {a : Act} {w w' : World} {K : Act → World → Prop} (ty : TypeId) (x y : Operand) (ho : o.op = .store ty x y) (hrun : (Instr.storeAt ty (a.eval x) (a.eval y)).run P w = .ok () w') (h : K (a.put o.dst undef) w') : o.wp P a w K Q := by
  unfold Oper.wp execOp
  simp only [ho, Sem.run_bind, Sem.run_pure, hrun, Result.andThen_ok]
  exact h
theorem wpList_store_run {rest : List Oper} {o : Oper} {a : Act} {w w' : World} (hgd : o.guard = none) (ty : TypeId) (x y : Operand) (ho : o.op = .store ty x y) (hrun : (Instr.storeAt ty (a.eval x) (a.eval y)).run P w = .ok () w')
    (h : wpList P ops Q rest (a.put o.dst undef) w') : wpList P ops Q (o :: rest) a w := wpList_plain hgd fun K hK => wp_store_run ty x y ho hrun (hK _ _ h)
end
end Go.Proofs.Ytkljdbgkhghiaaa
