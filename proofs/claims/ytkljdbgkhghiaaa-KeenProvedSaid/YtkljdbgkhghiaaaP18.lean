/- Plain: the way back until an edge comes twice; blocks of numbers that are cleared; a slice without its beginning. -/
import Derived.Test.YtkljdbgkhghiaaaP17
import Derived.Lib.SliceRun
set_option linter.all false
set_option linter.unnecessarySimpa false
set_option linter.unusedSimpArgs false
set_option linter.unusedVariables false
set_option linter.unusedSectionVars false

set_option linter.all false
namespace Go.Proofs.Ytkljdbgkhghiaaa
open Go.RowKit Kp

/-- Where the edges were met that the way back has met. -/
structure Sn (E : Nat) (b : Nat → Option Kw) (v j : Nat) (l : List Int) : Prop where
  len : l.length = 17
  at_ : ∀ x, x ≤ E → (nthI l x = 0 ∧ ∀ i, i < j → back E b i v ≠ x) ∨ ∃ i, i < j ∧ back E b i v = x ∧ nthI l x = (i : Int) + 1
  dis : ∀ i i', i < i' → i' < j → back E b i v ≠ back E b i' v
section
variable {E v j : Nat} {b : Nat → Option Kw} {l : List Int}
theorem Sn.zero : Sn E b v 0 (List.replicate 17 0) := by
  refine ⟨by simp, fun x hx => .inl ⟨?_, fun i hi => absurd hi (by omega)⟩, fun i i' _ h => absurd h (by omega)⟩
  by_cases h : x < 17
  · exact nthI_rep h
  · exact nthI_out (by simp; omega)
theorem Sn.next (h : Sn E b v j l) (hE : E ≤ 16) (hlt : back E b j v ≤ E) (h0 : ¬ 0 < nthI l (back E b j v)) : Sn E b v (j + 1) (l.set (back E b j v) ((j : Int) + 1)) := by
  have hn : ∀ i, i < j → back E b i v ≠ back E b j v := by
    rcases h.at_ _ hlt with ⟨_, h2⟩ | ⟨i, _, _, h3⟩
    · exact h2
    · omega
  refine ⟨by rw [List.length_set, h.len], fun x hx => ?_, fun i i' hi hi' => ?_⟩
  · rw [nthI_set (by rw [h.len]; omega)]
    by_cases hxe : back E b j v = x
    · rw [if_pos hxe]
      exact .inr ⟨j, by omega, hxe, rfl⟩
    · rw [if_neg hxe]
      rcases h.at_ x hx with ⟨h1, h2⟩ | ⟨i, h1, h2, h3⟩
      · refine .inl ⟨h1, fun i hi => ?_⟩
        rcases Nat.lt_succ_iff_lt_or_eq.1 hi with h4 | rfl
        · exact h2 i h4
        · exact hxe
      · exact .inr ⟨i, by omega, h2, h3⟩
  · rcases Nat.lt_succ_iff_lt_or_eq.1 hi' with h4 | rfl
    · exact h.dis i i' hi h4
    · exact hn i hi
theorem Sn.few (h : Sn E b v j l) (hlt : ∀ j, back E b j v ≤ E) : j ≤ E + 1 := by
  refine Classical.byContradiction fun hc => ?_
  obtain ⟨i, i', h1, h2, h3⟩ := twice (n := E + 1) (f := fun i => back E b i v) (fun i _ => Nat.lt_succ_of_le (hlt i))
  exact h.dis i i' h1 (by omega) h3
theorem Sn.hit (h : Sn E b v j l) (hlt : back E b j v ≤ E) (h0 : 0 < nthI l (back E b j v)) : ∃ i, i < j ∧ back E b i v = back E b j v ∧ nthI l (back E b j v) = (i : Int) + 1 := by
  rcases h.at_ _ hlt with ⟨h1, _⟩ | h1
  · omega
  · exact h1
end
theorem BK.setCells {g : Nat} {t : TypeId} : ∀ (vs : List Value) (o : Nat) (W : World) (L : List Value), BK W g L.toArray t → o + vs.length ≤ L.length → BK (W.setCells g o vs) g (L.take o ++ vs ++ L.drop (o + vs.length)).toArray t
  | [], o, W, L, h, _ => by
    unfold World.setCells
    simpa using h
  | v :: vs, o, W, L, h, hl => by
    unfold World.setCells
    simp only [List.length_cons] at hl ⊢
    have h1 := h.set o v
    rw [List.setIfInBounds_toArray] at h1
    have ih := BK.setCells vs (o + 1) _ (L.set o v) h1 (by rw [List.length_set]; omega)
    have e : (L.set o v).take (o + 1) ++ vs ++ (L.set o v).drop (o + 1 + vs.length) = L.take o ++ v :: vs ++ L.drop (o + (vs.length + 1)) := by
      rw [List.take_succ_eq_append_getElem (by rw [List.length_set]; omega), List.take_set_of_le (Nat.le_refl _), List.getElem_set_self, List.drop_set_of_lt (by omega), show o + 1 + vs.length = o + (vs.length + 1) by omega]
      simp
    rw [e] at ih
    exact ih
section
variable {P : Program} {ops : Array Oper} {Q : Exit → Act → World → Prop}
theorem wpList_clear_run {rest : List Oper} {o : Oper} {a : Act} {w w' : World} (hgd : o.guard = none) (x : Operand) (t : TypeId) (v : Value)
    (ho : o.op = .call { callee := .builtin .clear, args := #[x], argTypes := #[t] })
    (hrun : (Builtin.clear_ #[t] o.type #[a.eval x]).run P w = .ok v w') (h : wpList P ops Q rest (a.put o.dst v) w') : wpList P ops Q (o :: rest) a w := by
  refine wpList_plain hgd fun K hK => ?_
  unfold Oper.wp execOp
  simp only [ho, resolve, invoke, builtin, Sem.run_bind, Sem.run_pure, Result.andThen_ok, List.map_toArray, List.map_cons, List.map_nil, hrun]
  exact hK _ _ h
end
/-- A list of links in memory, from a place on. -/
theorem RL.at {w : World} {B b off n cap : Nat} {l : List Kl} (h : RL w B (.slice (some ⟨b, off, none⟩) n cap) l) {k : Nat} (hk : k < l.length) : b < B ∧
    w.cell? ⟨b, off + k * 3, none⟩ = some (.int .i64 (nthL l k).src) ∧ w.cell? ⟨b, off + k * 3 + 1, none⟩ = some (.int .i64 (nthL l k).dst) ∧ w.cell? ⟨b, off + k * 3 + 2, none⟩ = some (.int .i64 (nthL l k).tst) := by
  obtain ⟨A, cap', b', off', hv, hA, hc⟩ := h.cells
  obtain ⟨rfl, hb⟩ := hA (by omega)
  injection hv with h1 h2 h3
  injection h1 with h1
  injection h1 with h1 h4
  subst h1 h4
  exact ⟨hb, hc k hk⟩
theorem OwnL.drop {W : World} {base g n c i : Nat} {l : List Kl} (h : OwnL W base (.slice (some ⟨g, 0, none⟩) n c) l) (hi : i < l.length) : RL W W.heap.size (.slice (some ⟨g, i * 3, none⟩) (n - i) (c - i)) (l.drop i) := by
  obtain ⟨cur, hb, h1, h2, h3, h4, h5, h6⟩ := h.blk
  have hl := ofG_length encL_len (l.drop i)
  rw [List.length_drop] at hl
  refine ⟨_, c - i, g, i * 3, by rw [List.length_drop, h2], ⟨by rw [ofG_length encL_len], by rw [List.length_drop]; omega⟩, fun _ => ⟨rfl, hb.lt⟩, fun j hj => ?_⟩
  rw [hl] at hj
  rw [hb.cell]
  have e : (ofG encL (l.drop i))[j]? = (ofG encL l)[i * 3 + j]? := by
    have : ofG encL l = ofG encL (l.take i) ++ ofG encL (l.drop i) := by
      unfold ofG
      rw [← List.flatMap_append, List.take_append_drop]
    rw [this, List.getElem?_append_right (by rw [ofG_length encL_len, List.length_take]; omega)]
    congr 1
    rw [ofG_length encL_len, List.length_take, Nat.min_eq_left (by omega)]
    omega
  rw [e, ← h6, List.getElem?_take_of_lt (by omega)]
  simp
theorem rev_take {l : List Kl} {i : Nat} (hi : i < l.length) : l.reverse.take i ++ [nthL l (l.length - 1 - i)] = l.reverse.take (i + 1) := by
  rw [List.take_succ_eq_append_getElem (by simpa using hi)]
  congr 1
  unfold nthL
  rw [List.getElem_reverse]
  simp [show l.length - 1 - i < l.length by omega]
/-- How much the first number of a list is below 0. -/
def neg1 (v : Value) (W : World) : Nat := match v with
  | .slice (some a) _ _ => match W.cell? a with
    | some (.int _ x) => (-x).toNat
    | _ => 0
  | _ => 0
theorem neg1_of {W : World} {a : Addr} {n c : Nat} {x : Int} (h : W.cell? a = some (.int .i64 x)) : neg1 (.slice (some a) n c) W = (-x).toNat := by
  unfold neg1; simp only [h]
/-- What is appended to a list of links; what lies elsewhere stays. -/
theorem app_kl2 {base : Nat} {w1 : World} {l : List Kl} {v : Value} (hown : OwnL w1 base v l) (x : Kl) (hn : l.length ≤ 100000) (hbase : base ≤ w1.heap.size) (B : Nat) (hB : w1.heap.size = B) :
    ∃ v' w2, (Builtin.append_ #[25, 25] 25 #[v, .slice (some ⟨B, 0, none⟩) 1 1]).run Try.prog (w1.alloc (.cells #[.int .i64 x.src, .int .i64 x.dst, .int .i64 x.tst] 44)) = .ok v' w2 ∧
      OwnL w2 base v' (l ++ [x]) ∧ Below base w1 w2 ∧ w1.heap.size ≤ w2.heap.size ∧ (∀ k cs t, BK w1 k cs t → t ≠ 44 → BK w2 k cs t) ∧ (∀ k, k < w1.heap.size → some k ≠ v.ownBlock → w2.heap[k]? = w1.heap[k]?) := by
  subst hB
  obtain ⟨i0, hi0, hz0, hz1, hz2⟩ := info_parts kl_info
  obtain ⟨g', cap', w2, hrun, hown', hgr, _⟩ := app1 (P := Try.prog) 25 25 44 i0 _ 3 24 kl_slice hi0 hz0 hz1 hz2 rfl (by decide) (by decide) base (w1.alloc (.cells #[.int .i64 x.src, .int .i64 x.dst, .int .i64 x.tst] 44)) v l.length _ (hown.alloc _) w1.heap.size (encL x) 44 (BK.new _ _ _) rfl (by intro u hu; simp [encL] at hu; rcases hu with rfl | rfl | rfl <;> rfl) hn (by simp; omega)
  have hs2 := hgr.size
  simp at hs2
  have hk2 : ∀ k, k < w1.heap.size → some k ≠ v.ownBlock → w2.heap[k]? = w1.heap[k]? := fun k hk hne => by
    rw [hgr.block k (by simp; omega) hne, Below.heap_alloc _ _ _ hk]
  refine ⟨_, w2, hrun, ?_, Below.grown ((Below.refl base w1).alloc hbase _) hgr (by simp; omega) (fun k hk => (hown.lt k hk).1), by omega, fun k cs t hk ht => ?_, hk2⟩
  · unfold OwnL
    rw [ofG_app] at hown'
    rw [List.length_append]
    exact hown'
  · refine (hk2 k hk.lt fun hq => ?_).trans hk
    obtain ⟨c, hc⟩ := own_block hown hq.symm
    unfold BK at hk
    rw [hk] at hc; injection hc with hc; injection hc with _ hc; exact ht hc
/-- A circle that begins with an edge, or will. -/
def Turn (W : World) (base : Nat) (v : Value) (l : List Kl) : Prop := OwnL W base v l ∨ RL W W.heap.size v (turnC l)
end Go.Proofs.Ytkljdbgkhghiaaa
