/- Lazy blows, plain; a list of stations that grows. Spans, plain: what they say; of a turned blade, of one as many times as hard. Two lists of stations that grow side by side. WarpTurned: the walk. A blade that is turned the other way costs as much, and its spans are turned; one that is as many times as hard costs as many times as much, and its spans stay; for every blade and numbers. -/
import Derived.Test.YtgbegdjakadbbaaP27
import Derived.Test.YtgbegdjakadbbaaP18
import Derived.Test.YtgbegdjakadbbaaP16
import Derived.Test.YtgbegdjakadbbaaRows
import Derived.Test.YtgbegdjakadbbaaP26
set_option linter.all false
set_option linter.unnecessarySimpa false
set_option linter.unusedSimpArgs false
set_option linter.unusedVariables false
set_option linter.unusedSectionVars false

set_option linter.all false
namespace Go.Proofs.Ytgbegdjakadbbaa
open Go.RowKit Vp

theorem app_st {base : Nat} {w0 w1 : World} {l : List St} {v : Value} (hown : OwnS w1 base v l) (x : St) (hn : l.length ≤ 100000) (hbase : base ≤ w1.heap.size) (hbw : Below base w0 w1) (B : Nat) (hB : w1.heap.size = B) :
    ∃ v' w2, (Builtin.append_ #[22, 22] 22 #[v, .slice (some ⟨B, 0, none⟩) 1 1]).run Try.prog (w1.alloc (.cells #[.int .i64 x.ang, .int .i64 x.lo, .int .i64 x.hi, .int .i64 x.hard] 60)) = .ok v' w2 ∧
      OwnS w2 base v' (l ++ [x]) ∧ Below base w0 w2 ∧ w1.heap.size ≤ w2.heap.size ∧ (∀ k cs t, BK w1 k cs t → t ≠ 60 → BK w2 k cs t) := by
  obtain ⟨g', cap', w2, h1, h2, h3, h4, h5⟩ := app_t st_info st_slice rfl (by decide) (by decide) hown (news := encS x) rfl (by intro u hu; simp [encS] at hu; rcases hu with rfl | rfl | rfl | rfl <;> rfl) hn hbase hbw 22 60 B hB
  exact ⟨_, w2, h1, by rw [ofG_app] at h2; unfold OwnS; simpa using h2, h3, h4, h5⟩
theorem ru_nil (k : IntKind) (w : World) (B : Nat) : RU k w B (.slice none 0 0) [] := ⟨none, 0, 0, 0, rfl, ⟨rfl, Nat.le_refl _⟩, fun h => absurd rfl h, fun j hj => by simp at hj⟩
/-- The station that is as hard as h. -/
def eqS (h : Int) (s : St) : St := ⟨s.ang, s.lo, s.hi, h⟩
theorem nthS_map {f : St → St} {l : List St} {k : Nat} (h : k < l.length) : nthS (l.map f) k = f (nthS l k) := by simp [nthS, h]
theorem take_map {f : St → St} {l : List St} {k : Nat} (h : k < l.length) : (l.take k).map f ++ [f (nthS l k)] = (l.take (k + 1)).map f := by
  rw [List.take_succ, List.map_append]
  simp [nthS, h]
theorem okB_eq {l : List St} {m : Int} (h : OkB l m) : OkB (l.map (eqS (nthS l 0).hard)) m := by
  have h1 := h.one
  have h0 := okS_at h.all (show 0 < l.length by omega)
  refine ⟨by simpa using h.one, by simpa using h.few, fun s hs => ?_, h.lo, h.hi⟩
  obtain ⟨x, hx, rfl⟩ := List.mem_map.1 hs
  have := okSB_iff.1 (h.all x hx)
  rw [okSB_iff]
  simp only [eqS]
  omega
theorem blwB_nil (m : Int) (t : Rg) (i : Nat) (f : Int) : blwB m t [] i f = lazD m t f := by unfold blwB wntB lazD; rw [if_pos (show ([] : List Nat).length = 0 from rfl)]
theorem bnd_succ (m : Int) (l : List St) (k : Nat) : bndB m l [] (k + 1) = bndB m l [] k + lazD m (tub (nthS l k)) (bndB m l [] k) := by rw [← blwB_nil (i := k)]; rfl
theorem drop_nthS {l : List St} {k : Nat} (h : k < l.length) : l.drop k = nthS l k :: l.drop (k + 1) := by rw [nthS_eq h]; exact List.drop_eq_getElem_cons h
theorem laz_drop (m : Int) (l : List St) : ∀ n k, l.length - k = n → k ≤ l.length → lazL m (l.drop k) (bndB m l [] k) = (List.range n).map fun i => blwB m (tub (nthS l (k + i))) [] (k + i) (bndB m l [] (k + i))
  | 0, k, h, h2 => by rw [List.drop_of_length_le (by omega)]; rfl
  | n + 1, k, h, h2 => by
    rw [drop_nthS (by omega), lazL, ← bnd_succ, laz_drop m l n (k + 1) (by omega) (by omega), List.range_succ_eq_map, List.map_cons, List.map_map, blwB_nil]
    refine congrArg (List.cons _) (List.map_congr_left fun i _ => ?_)
    rw [Function.comp, show k + 1 + i = k + Nat.succ i by omega]
theorem laz_blw (m : Int) (l : List St) : blwL m l [] l.length = lazL m l 0 := by
  have := laz_drop m l l.length 0 rfl (Nat.zero_le _)
  rw [List.drop_zero] at this
  simp only [Nat.zero_add] at this
  exact this.symm
theorem laz_fe {m : Int} (hm : 0 ≤ m) (l : List St) (h : ∀ j, j < l.length → (tub (nthS l j)).lo ≤ bndB m l [] (j + 1) ∧ bndB m l [] (j + 1) ≤ (tub (nthS l j)).hi) : ∀ n k, l.length - k = n → k ≤ l.length → Fe m (l.drop k) (bndB m l [] k) (lazL m (l.drop k) (bndB m l [] k))
  | 0, k, e, h2 => by rw [List.drop_of_length_le (by omega)]; trivial
  | n + 1, k, e, h2 => by
    have q := h k (by omega)
    rw [drop_nthS (by omega), lazL]
    refine ⟨?_, ?_, ?_⟩
    · unfold lazD; omega
    · rw [← bnd_succ]; exact q
    · rw [← bnd_succ]; exact laz_fe hm l h n (k + 1) (by omega) (by omega)
/-- Lazy blows that stay within the tubes are best if all stations are as hard. -/
theorem laz_all {m : Int} {l : List St} (hB : OkB l m) {h : Int} (hh : ∀ s ∈ l, s.hard = h) (hf : ∀ j, j < l.length → (tub (nthS l j)).lo ≤ bndB m l [] (j + 1) ∧ bndB m l [] (j + 1) ≤ (tub (nthS l j)).hi) :
    tgo m l 0 < never ∧ chkE l m (blwL m l [] l.length) = 0 ∧ chkV l m (blwL m l [] l.length) = tgo m l 0 := by
  have h1 := laz_fe hB.lo l hf l.length 0 rfl (Nat.zero_le _)
  rw [List.drop_zero] at h1
  change Fe m l 0 (lazL m l 0) at h1
  obtain ⟨h2, h3⟩ := lazy_best hB hh h1
  rw [laz_blw]
  have h4 := (chk_fe hB).2 h1
  exact ⟨h2, h4, by rw [chk_cost h4, h3]⟩
end Go.Proofs.Ytgbegdjakadbbaa

set_option linter.all false
namespace Go.Proofs.Ytgbegdjakadbbaa
open Go.RowKit Vp

theorem wk_part {l : List St} {k : Nat} (h : k < l.length) : Part l k (l.take k).reverse (nthS l k) (l.drop (k + 1)) := by rw [nthS_eq h]; exact part_of h
theorem fe_at {m : Int} : ∀ {l : List St} {f : Int} {ds : List Int}, Fe m l f ds → ∀ {k : Nat} {d : Int}, ds[k]? = some d → -m ≤ d ∧ d ≤ m
  | [], _, [], _, k, d, h => by simp at h
  | s :: l, f, e :: ds, hf, 0, d, h => by
    obtain rfl : e = d := by simpa using h
    exact hf.1
  | s :: l, f, e :: ds, hf, k + 1, d, h => fe_at hf.2.2 (k := k) (by simpa using h)
  | [], _, _ :: _, h, _, _, _ => h.elim
  | _ :: _, _, [], h, _, _, _ => h.elim
theorem mem_lst {m d : Int} (hm : 0 ≤ m) : d ∈ lst (-m) (cnt (-m) m) ↔ -m ≤ d ∧ d ≤ m := by rw [lst_mem]; unfold cnt; omega
theorem witK_ge {l : List St} {m : Int} (hB : OkB l m) {k : Nat} (hk : k < l.length) {d : Int} (hm : -m ≤ d ∧ d ≤ m) (h : witK m l k d < never) : tgo m l 0 ≤ witK m l k d := by
  obtain ⟨ds, h1, _, h3⟩ := wit_ex hB (wk_part hk) hm h
  unfold witK
  rw [← h3]
  exact tgo_le h1
/-- Some best blows have some number at each station. -/
theorem spn_best {l : List St} {m : Int} (hB : OkB l m) {k : Nat} (hk : k < l.length) (h : tgo m l 0 < never) : ∃ d, (-m ≤ d ∧ d ≤ m) ∧ witK m l k d = tgo m l 0 := by
  obtain ⟨ds, h1, h2⟩ := tgo_ex hB.all h
  have hl := h1.length
  obtain ⟨d, hd⟩ : ∃ d, ds[k]? = some d := ⟨ds[k]'(by omega), by simp⟩
  have hr := fe_at h1 hd
  have h3 := wit_le hB (wk_part hk) h1 hd
  have h4 := hB.cheap hB.few hB.all h1
  have h5 : witK m l k d < never := by unfold witK; simp only [never]; omega
  have h6 := witK_ge hB hk hr h5
  unfold witK at h6 ⊢
  exact ⟨d, hr, by omega⟩
theorem mem_spn {l : List St} {m : Int} (hm : 0 ≤ m) {k : Nat} {d : Int} : d ∈ spnF l m k ↔ (-m ≤ d ∧ d ≤ m) ∧ witK m l k d = tgo m l 0 := by
  unfold spnF
  rw [List.mem_filter, mem_lst hm, beq_iff_eq]
theorem spn_ne {l : List St} {m : Int} (hB : OkB l m) {k : Nat} (hk : k < l.length) (h : tgo m l 0 < never) : (spnF l m k).length ≠ 0 := by
  obtain ⟨d, h1, h2⟩ := spn_best hB hk h
  have := (mem_spn hB.lo).2 ⟨h1, h2⟩
  intro q
  rw [List.length_eq_zero_iff] at q
  rw [q] at this
  cases this
theorem atE_k {l : List St} {m : Int} (hB : OkB l m) {k : Nat} (hk : k < l.length) : atE l m k = 0 := atE_in (blaE_ok.2 hB) (by omega)
theorem spn_yes {l : List St} {m : Int} (hB : OkB l m) {k : Nat} (hk : k < l.length) (h : tgo m l 0 < never) : spnL l m k = toldL (spnF l m k) ∧ (spnL l m k).2.2 = 0 := by
  have h1 : spnL l m k = toldL (spnF l m k) := by unfold spnL; rw [if_pos (atE_k hB hk), if_pos h, Int.toNat_natCast]
  refine ⟨h1, ?_⟩
  rw [h1]
  unfold toldL
  rw [if_neg (spn_ne hB hk h)]
theorem spn_no {l : List St} {m : Int} (hB : OkB l m) {k : Nat} (hk : k < l.length) (h : ¬ tgo m l 0 < never) : spnL l m k = (0, 0, 18) := by unfold spnL; rw [if_pos (atE_k hB hk), if_neg h]
theorem witK_neg {l : List St} {m : Int} (hB : OkB l m) {k : Nat} (hk : k < l.length) {d : Int} (hm : -m ≤ d ∧ d ≤ m) : witK m (l.map negS) k (-d) = witK m l k d := by
  unfold witK
  rw [← wit_neg hB (wk_part hk) hm, List.map_reverse, List.map_take, List.map_drop, nthS_map hk]
theorem lst_neg (m : Int) : (lst (-m) (cnt (-m) m)).map (fun d => -d) = (lst (-m) (cnt (-m) m)).reverse := by
  apply List.ext_getElem
  · simp
  · intro i h1 h2
    simp [lst] at h1
    simp [lst]
    unfold cnt at h1 ⊢
    omega
theorem spn_neg {l : List St} {m : Int} (hB : OkB l m) {k : Nat} (hk : k < l.length) : spnF (l.map negS) m k = (spnF l m k).reverse.map (fun d => -d) := by
  unfold spnF
  rw [← List.filter_reverse, ← lst_neg, List.filter_map, List.map_map]
  have e : ((fun d : Int => -d) ∘ fun d => -d) = id := by funext d; simp
  rw [e, List.map_id, tgo_neg hB]
  apply List.filter_congr
  intro d hd
  have h1 := (mem_lst hB.lo).1 hd
  have := witK_neg hB hk (d := -d) (by omega)
  rw [Int.neg_neg] at this
  simp only [Function.comp, this]
theorem nthI_in {l : List Int} {i : Nat} (h : i < l.length) : nthI l i = l[i] := by simp [nthI, h]
theorem told_neg (F : List Int) : toldL (F.reverse.map (fun d => -d)) = (-(toldL F).2.1, -(toldL F).1, (toldL F).2.2) := by
  unfold toldL
  rw [List.length_map, List.length_reverse]
  by_cases h : F.length = 0
  · rw [if_pos h, if_pos h]; rfl
  · rw [if_neg h, if_neg h]
    have h0 : 0 < F.length := by omega
    simp only [Prod.mk.injEq, and_true]
    have h1 : F.length - 1 < F.length := by omega
    constructor
    · rw [nthI_in (by simpa using h0), List.getElem_map, List.getElem_reverse, nthI_in h1]
      simp only [Nat.sub_zero]
    · rw [nthI_in (by simpa using h1), List.getElem_map, List.getElem_reverse, nthI_in h0]
      simp only [Nat.sub_self]
theorem spnL_neg {l : List St} {m : Int} (hB : OkB l m) {k : Nat} (hk : k < l.length) : spnL (l.map negS) m k = (-(spnL l m k).2.1, -(spnL l m k).1, (spnL l m k).2.2) := by
  have hk2 : k < (l.map negS).length := by simpa using hk
  by_cases h : tgo m l 0 < never
  · rw [(spn_yes hB hk h).1, (spn_yes (okB_neg hB) hk2 (by rw [tgo_neg hB]; exact h)).1, spn_neg hB hk, told_neg]
  · rw [spn_no hB hk h, spn_no (okB_neg hB) hk2 (by rw [tgo_neg hB]; exact h)]; rfl
theorem witK_mul {l : List St} {m t : Int} (hB : OkB l m) (hB' : OkB (l.map (mulS t)) m) (ht : 1 ≤ t) {k : Nat} (hk : k < l.length) {d : Int} (hm : -m ≤ d ∧ d ≤ m) :
    (witK m (l.map (mulS t)) k d < never ↔ witK m l k d < never) ∧ (witK m l k d < never → witK m (l.map (mulS t)) k d = t * witK m l k d) := by
  have := wit_mul hB hB' ht (wk_part hk) hm
  unfold witK
  rw [nthS_map hk, ← List.map_take, ← List.map_reverse, ← List.map_drop]
  exact this
theorem spnL_mul {l : List St} {m t : Int} (hB : OkB l m) (hB' : OkB (l.map (mulS t)) m) (ht : 1 ≤ t) {k : Nat} (hk : k < l.length) : spnL (l.map (mulS t)) m k = spnL l m k := by
  have hk2 : k < (l.map (mulS t)).length := by simpa using hk
  obtain ⟨h1, h2⟩ := tgo_mul hB hB' ht
  by_cases h : tgo m l 0 < never
  · rw [(spn_yes hB hk h).1, (spn_yes hB' hk2 (h1.2 h)).1]
    congr 1
    unfold spnF
    apply List.filter_congr
    intro d hd
    obtain ⟨q1, q2⟩ := witK_mul hB hB' ht hk ((mem_lst hB.lo).1 hd)
    rw [h2 h, Bool.eq_iff_iff, beq_iff_eq, beq_iff_eq]
    constructor
    · intro e
      have h3 : witK m (l.map (mulS t)) k d < never := by rw [e, ← h2 h]; exact h1.2 h
      rw [q2 (q1.1 h3)] at e
      exact Int.eq_of_mul_eq_mul_left (by omega) e
    · intro e
      rw [q2 (by rw [e]; exact h), e]
  · rw [spn_no hB hk h, spn_no hB' hk2 (fun q => h (h1.1 q))]
end Go.Proofs.Ytgbegdjakadbbaa

set_option linter.all false
namespace Go.Proofs.Ytgbegdjakadbbaa
open Go.RowKit Vp

theorem own_far {W : World} {base e sz n : Nat} {v : Value} {xs : List Value} (h : W.ownsRow base e sz v n xs) {p : Addr} (hp : v.ownBlock ≠ some p.block) (u : Value) : (W.setCell p u).ownsRow base e sz v n xs := by
  obtain ⟨hl, h2⟩ := h
  refine ⟨hl, ?_⟩
  rcases h2 with h2 | ⟨g, cap, cur, hv, hb, hh, r⟩
  · exact .inl h2
  · refine .inr ⟨g, cap, cur, hv, hb, ?_, r⟩
    rw [Below.heap_setCell]
    · exact hh
    · rintro rfl
      exact hp (by rw [hv]; rfl)
/-- Two lists of stations that grow, each in a block of its own. -/
def TwoT (X : World) (base : Nat) (v u : Value) (l m : List St) : Prop := OwnS X base v l ∧ OwnS X base u m ∧ ∀ g, v.ownBlock = some g → u.ownBlock ≠ some g
theorem TwoT.symm {X : World} {base : Nat} {v u : Value} {l m : List St} (h : TwoT X base v u l m) : TwoT X base u v m l := ⟨h.2.1, h.1, fun g hg hq => h.2.2 g hq hg⟩
theorem TwoT.below {X Y : World} {base : Nat} {v u : Value} {l m : List St} (h : TwoT X base v u l m) (hb : Below X.heap.size X Y) : TwoT Y base v u l m := ⟨own_below h.1 hb, own_below h.2.1 hb, h.2.2⟩
theorem TwoT.far {X : World} {base : Nat} {v u : Value} {l m : List St} (h : TwoT X base v u l m) {p : Addr} {cs : Array Value} (hp : BK X p.block cs 24) (x : Value) : TwoT (X.setCell p x) base v u l m := by
  have ne : ∀ {z : Value} {k : List St}, OwnS X base z k → z.ownBlock ≠ some p.block := fun {z k} hz hq => by
    obtain ⟨c, hc⟩ := own_block hz hq
    unfold BK at hp
    rw [hp] at hc
    injection hc with hc
    injection hc with _ hc
    exact absurd hc (by decide)
  exact ⟨own_far h.1 (ne h.1) x, own_far h.2.1 (ne h.2.1) x, h.2.2⟩
theorem TwoT.nil (X : World) (base : Nat) : TwoT X base (.slice none 0 0) (.slice none 0 0) [] [] := ⟨OwnS.nil X base, OwnS.nil X base, fun g hg => by cases hg⟩

theorem two_grow {W : World} {base g tn : Nat} {v u : Value} {l m : List St} {x : St} (h : TwoT W base v u l m) (hg : BK W g #[.int .i64 x.ang, .int .i64 x.lo, .int .i64 x.hi, .int .i64 x.hard] tn) (hn : l.length ≤ 100000) (hbase : base ≤ W.heap.size) :
    ∃ v' w2, (Builtin.append_ #[22, 22] 22 #[v, .slice (some ⟨g, 0, none⟩) 1 1]).run Try.prog W = .ok v' w2 ∧ TwoT w2 base v' u (l ++ [x]) m ∧ (∀ w0, Below base w0 W → Below base w0 w2) ∧ W.heap.size ≤ w2.heap.size ∧ (∀ k cs t, BK W k cs t → v.ownBlock ≠ some k → BK w2 k cs t) := by
  obtain ⟨h1, h2, h3⟩ := h
  obtain ⟨i0, hi0, hz0, hz1, hz2⟩ := info_parts st_info
  obtain ⟨g', cap', w2, hrun, hown', hgr, hat⟩ := app1 (P := Try.prog) 22 22 60 i0 _ _ _ st_slice hi0 hz0 hz1 hz2 rfl (by decide) (by decide) base W v l.length (ofG encS l) h1 g (encS x) tn hg rfl (by intro u hu; simp [encS] at hu; rcases hu with rfl | rfl | rfl | rfl <;> rfl) hn hbase
  refine ⟨_, w2, hrun, ⟨?_, ?_, ?_⟩, fun w0 hbw => Below.grown hbw hgr hbase fun k hk => (h1.lt k hk).1, hgr.size, ?_⟩
  · unfold OwnS
    rw [← ofG_app, List.length_append]
    exact hown'
  · refine h2.kept hgr ?_
    cases hu : u.ownBlock with
    | none => exact .inl rfl
    | some q => exact .inr fun hq => h3 q hq.symm hu
  · intro q hq hu
    rcases hat with hat | hat
    · have : q = g' := by simpa [Value.ownBlock] using hq.symm
      subst this
      exact h3 q hat hu
    · have : q = g' := by simpa [Value.ownBlock] using hq.symm
      subst this
      have := (h2.lt q hu).2
      omega
  · intro k cs t hk hte
    exact hk.grown hgr fun hq => hte hq.symm
theorem TwoT.ne {X : World} {base k : Nat} {v u : Value} {l m : List St} {cs : Array Value} (h : TwoT X base v u l m) (hk : BK X k cs 24) : v.ownBlock ≠ some k := fun hq => by
  obtain ⟨c, hc⟩ := own_block h.1 hq
  unfold BK at hk
  rw [hk] at hc
  injection hc with hc
  injection hc with _ hc
  exact absurd hc (by decide)
theorem TwoT.lt {X : World} {base : Nat} {v u : Value} {l m : List St} (h : TwoT X base v u l m) {k : Nat} (hk : X.heap.size ≤ k) : v.ownBlock ≠ some k := fun hq => by
  have := (h.1.lt k hq).2
  omega
theorem sumC_pos : ∀ {l : List St} {ds : List Int}, (∀ s ∈ l, okSB s = true) → 0 ≤ sumC l ds
  | [], _, _ => by simp [sumC]
  | _ :: _, [], _ => by simp [sumC]
  | s :: l, d :: ds, h => by
    have h1 := sumC_pos (l := l) (ds := ds) fun x hx => h x (by simp [hx])
    have h2 := okSB_iff.1 (h s (by simp))
    have h3 : 0 ≤ s.hard * max d (-d) := Int.mul_nonneg (by omega) (by omega)
    simp only [sumC, cst]
    omega
theorem tgo_pos {l : List St} {m : Int} (hB : OkB l m) (h : tgo m l 0 < never) : 0 ≤ tgo m l 0 := by
  obtain ⟨ds, _, h2⟩ := tgo_ex hB.all h
  rw [← h2]
  exact sumC_pos hB.all
theorem spn_rng {l : List St} {m : Int} (hB : OkB l m) {k : Nat} (hk : k < l.length) : (-200 ≤ (spnL l m k).1 ∧ (spnL l m k).1 ≤ 200) ∧ (-200 ≤ (spnL l m k).2.1 ∧ (spnL l m k).2.1 ≤ 200) := by
  by_cases h : tgo m l 0 < never
  · have h0 := spn_ne hB hk h
    have hm0 := hB.lo
    have hm1 := hB.hi
    have key : ∀ j, j < (spnF l m k).length → -200 ≤ nthI (spnF l m k) j ∧ nthI (spnF l m k) j ≤ 200 := fun j hj => by
      have := ((mem_spn hm0).1 (show nthI (spnF l m k) j ∈ spnF l m k by rw [nthI_in hj]; exact List.getElem_mem hj)).1
      omega
    rw [(spn_yes hB hk h).1]
    unfold toldL
    rw [if_neg h0]
    exact ⟨key 0 (by omega), key _ (by omega)⟩
  · rw [spn_no hB hk h]; decide
/-- What Best and Span say of a blade, of the turned one, of one as many times as hard. -/
theorem turned {l : List St} {m : Int} (hB : OkB l m) {k : Nat} (hk : k < l.length) : ∃ v0 sa sb e0, (e0 = 0 ∨ e0 = 18) ∧ bstE l m = (v0, e0) ∧ bstE (l.map negS) m = (v0, e0) ∧ spnL l m k = (sa, sb, e0) ∧ spnL (l.map negS) m k = (-sb, -sa, e0) ∧
    (-200 ≤ sa ∧ sa ≤ 200) ∧ (-200 ≤ sb ∧ sb ≤ 200) ∧ (0 ≤ v0 ∧ v0 ≤ 36000) ∧ ∀ t, 1 ≤ t → OkB (l.map (mulS t)) m → bstE (l.map (mulS t)) m = (t * v0, e0) ∧ spnL (l.map (mulS t)) m k = (sa, sb, e0) := by
  have hr := spn_rng hB hk
  have hn := spnL_neg hB hk
  by_cases h : tgo m l 0 < never
  · have h2 := (spn_yes hB hk h).2
    obtain ⟨⟨sa, sb, e0⟩, he⟩ : ∃ x, spnL l m k = x := ⟨_, rfl⟩
    rw [he] at h2 hr hn
    dsimp only at h2 hr hn
    subst h2
    refine ⟨tgo m l 0, sa, sb, 0, .inl rfl, bst_yes (blaE_ok.2 hB) h, ?_, he, hn, hr.1, hr.2, ⟨tgo_pos hB h, hB.tgo_small hB.few hB.all h⟩, fun t ht hB' => ?_⟩
    · rw [bst_yes (blaE_ok.2 (okB_neg hB)) (by rw [tgo_neg hB]; exact h), tgo_neg hB]
    · obtain ⟨q1, q2⟩ := tgo_mul hB hB' ht
      rw [bst_yes (blaE_ok.2 hB') (q1.2 h), q2 h, spnL_mul hB hB' ht hk, he]
      exact ⟨rfl, rfl⟩
  · have he := spn_no hB hk h
    rw [he] at hn
    refine ⟨0, 0, 0, 18, .inr rfl, (bst_no (blaE_ok.2 hB) h).1, (bst_no (blaE_ok.2 (okB_neg hB)) (by rw [tgo_neg hB]; exact h)).1, he, hn, by decide, by decide, by decide, fun t ht hB' => ?_⟩
    have q1 := (tgo_mul hB hB' ht).1
    rw [(bst_no (blaE_ok.2 hB') (fun q => h (q1.1 q))).1, spnL_mul hB hB' ht hk, he, Int.mul_zero]
    exact ⟨rfl, rfl⟩
end Go.Proofs.Ytgbegdjakadbbaa

set_option linter.all false
namespace Go.Proofs.Ytgbegdjakadbbaa
open Go.RowKit Vp

set_option maxHeartbeats 32000000 in
set_option maxRecDepth 100000 in
theorem warpTurned_any (l : List St) (vs : Value) (m : Int) (x1 : Nat) (x2 : Nat) (w : World) (hT : RT w w.heap.size vs l) (hlM : l.length ≤ maxLen) (hmI : okI m) (h1 : x1 ≤ 255) (h2 : x2 ≤ 255) :
    Calls Try.prog 11 #[bV vs m, .int .u8 x1, .int .u8 x2] w fun x w' => x = .returned (.bool true) ∧ Below w.heap.size w w' := by
  unfold bV
  obtain ⟨b, off, cap, A, rfl, -, hcap⟩ := hT.slice
  obtain ⟨n0, hn0⟩ : ∃ n, w.heap.size = n := ⟨_, rfl⟩
  have hC : Below n0 w w := Below.refl _ _
  go_enter Try.func11, Try.ntmps11
  have H0 := Lib.hid (show RT w n0 (.slice A l.length cap) l by rw [← hn0]; exact hT)
  go_upto_region 1 with fail
  have hqbx : n0 ≤ n0 := by have := hC.size; omega
  have bx : BK (w.alloc (.cells #[.slice A l.length cap, .int .i64 m] 24)) (n0) #[.slice A l.length cap, .int .i64 m] 24 := BK.new' _ _ _ (n0) hn0
  have hsbx : (w.alloc (.cells #[.slice A l.length cap, .int .i64 m] 24)).heap.size = n0 + 1 := by simp [hn0]
  replace hC : Below n0 w (w.alloc (.cells #[.slice A l.length cap, .int .i64 m] 24)) := Below.alloc hC (by have := hC.size; omega) _
  replace hT := (RS.below hT (w' := (w.alloc (.cells #[.slice A l.length cap, .int .i64 m] 24))) (Below.alloc (Below.refl _ _) (Nat.le_refl _) _)).more (B' := (w.alloc (.cells #[.slice A l.length cap, .int .i64 m] 24)).heap.size) (by simp)
  generalize (w.alloc (.cells #[.slice A l.length cap, .int .i64 m] 24)) = Wbx at *
  clear hsbx
  have lbx := bx.lt
  have bxc0 := bx.cell 0
  have bxc1 := bx.cell 1
  simp at bxc0 bxc1
  go_wp2_with fail
  clear lbx bxc0 bxc1
  refine (fine_any l _ m _ hlM hT).mono ?_
  rintro e w1 ⟨rfl, hb⟩
  replace hC : Below n0 w w1 := hC.trans (hb.mono (by have := hC.size; omega))
  replace hT := (RS.below hT hb).more hb.size
  replace bx := bx.below hb bx.lt
  clear hb
  obtain ⟨q, hq⟩ : ∃ q, fineB l m = q := ⟨_, rfl⟩
  rw [hq]
  cases q
  case false =>
    clear hq
    go_wp2_with fail
    refine (works_any _).mono ?_
    rintro e w2 ⟨rfl, hb⟩
    replace hC : Below n0 w w2 := hC.trans (hb.mono (by have := hC.size; omega))
    replace hT := (RS.below hT hb).more hb.size
    replace bx := bx.below hb bx.lt
    clear hb
    go_wp2_with fail
    exact bodyPost_ret (v := .bool true) (by simp [results, Try.results11, go_sem]) rfl ⟨rfl, by first | exact hC | (rw [hn0]; exact hC) | (with_reducible rw [hn0]; exact bel_of) | exact bel_of⟩
  have HBE := Lib.hid (fineB_bla hq)
  have HOK := Lib.hid (fineB_ok hq)
  have hm0 := HOK.out.lo
  have hm1 := HOK.out.hi
  have h20 := HOK.out.few
  have hlk : l.length ≤ 1000 := by omega
  clear hq
  simp only [Bool.not_true]
  have hn1 := HOK.out.one
  obtain ⟨i, hi⟩ : ∃ i : Nat, x1 % l.length = i := ⟨_, rfl⟩
  have hi2 : i < l.length := by rw [← hi]; exact Nat.mod_lt _ (by omega)
  obtain ⟨r, hr⟩ : ∃ i : Nat, x2 % 9 = i := ⟨_, rfl⟩
  obtain ⟨t, ht⟩ : ∃ t : Int, 1 + (r : Int) = t := ⟨_, rfl⟩
  have ht1 : 1 ≤ t := by omega
  have ht9 : t ≤ 9 := by omega
  have wc1 : IntKind.i64.wrap (x1 : Int) = x1 := by rw [IntKind.wrap_i64]; omega
  have wc2 : IntKind.i64.wrap (x2 : Int) = x2 := by rw [IntKind.wrap_i64]; omega
  have nz2 : l ≠ [] := by intro q; rw [q] at hn1; simp at hn1
  have t1 : (x1 : Int).tmod (l.length : Int) = (i : Int) := by rw [Int.tmod_eq_emod_of_nonneg (by omega), ← Int.natCast_emod, hi]
  have t2 : (x2 : Int).tmod 9 = (r : Int) := by rw [Int.tmod_eq_emod_of_nonneg (by omega), show (9 : Int) = ((9 : Nat) : Int) from rfl, ← Int.natCast_emod, hr]
  have wi : IntKind.i64.wrap (i : Int) = i := by rw [IntKind.wrap_i64]; omega
  have wr : IntKind.i64.wrap (r : Int) = r := by rw [IntKind.wrap_i64]; omega
  have wt : IntKind.i64.wrap (1 + (r : Int)) = t := by rw [IntKind.wrap_i64]; omega
  clear hi hr ht h1 h2
  have lbx := bx.lt
  have bxc0 := bx.cell 0
  have bxc1 := bx.cell 1
  simp at bxc0 bxc1
  go_upto_region 4 with fail
  clear lbx bxc0 bxc1
  clear wc1 wc2 nz2 t1 t2 wi wr wt
  have lbx := bx.lt
  have bxc0 := bx.cell 0
  have bxc1 := bx.cell 1
  simp at bxc0 bxc1
  refine region_keep [42, 43, 44, 45, 46, 47, 9, 10] (fun u V => ∃ gx gy, u 9 = .pointer (some ⟨gx, 0, none⟩) ∧ u 10 = .pointer (some ⟨gy, 0, none⟩) ∧ gx ≠ gy ∧ BK V gx #[.slice none 0 0, .int .i64 m] 24 ∧ BK V gy #[.slice none 0 0, .int .i64 m] 24 ∧ (w1.heap.size ≤ gx ∧ w1.heap.size ≤ gy) ∧ Below w1.heap.size w1 V) ?_ ?_
  ·skip
   have d0ya : Below w1.heap.size w1 w1.drew := by exact bel_of
   refine wp_region_noPanic (plain_any [0, 1, 2, 3, 4, 5] (Below w1.heap.size w1) mixed ?_)
   refine any_tk 0 ?_
   refine any_tk 1 ?_
   refine any_tk 2 ?_
   refine any_tk 3 ?_
   refine any_tk 4 ?_
   refine any_tk 5 ?_
   have dya1 : Below w1.heap.size w1 w1.drew := by exact bel_of
   have hdr : Below w1.heap.size w1 w1.drew := Below.drew (Below.refl _ _)
   clear hdr
   generalize w1.drew = uya2 at *
   refine any_run2 (i := 6) (j := 7) (by kernel_rfl) (by rfl) (by rfl) (by rfl) (by rfl) ?_ ?_
   ·skip
    intro K hK
    have qya4 := dya1.size
    have eya3 : Below w1.heap.size w1 (uya2.alloc (.cells #[.slice none 0 0, .int .i64 0] 24)) := Below.alloc dya1 dya1.size _
    have hnx : Below uya2.heap.size uya2 (uya2.alloc (.cells #[.slice none 0 0, .int .i64 0] 24)) := Below.alloc (Below.refl _ _) (Nat.le_refl _) _
    go_wp2_with fail
    have kx : BK (uya2.alloc (.cells #[.slice none 0 0, .int .i64 0] 24)) uya2.heap.size #[.slice none 0 0, .int .i64 0] 24 := BK.new _ _ _
    refine hK _ _ (fun _ => eya3) ?_
    clear hK K hnx
    generalize (uya2.alloc (.cells #[.slice none 0 0, .int .i64 0] 24)) = vya5 at *
    obtain ⟨gkx, hgkx⟩ : ∃ g, uya2.heap.size = g := ⟨_, rfl⟩
    have hqkx : w1.heap.size ≤ gkx := by omega
    rw [hgkx] at kx
    try rw [hgkx]
    clear hgkx
    refine any_run1 (i := 7) (by kernel_rfl) (by rfl) (by kernel_rfl) ?_
    intro K hK
    have qya7 := eya3.size
    have eya6 : Below w1.heap.size w1 (vya5.alloc (.cells #[.slice none 0 0, .int .i64 0] 24)) := Below.alloc eya3 eya3.size _
    have hnx : Below vya5.heap.size vya5 (vya5.alloc (.cells #[.slice none 0 0, .int .i64 0] 24)) := Below.alloc (Below.refl _ _) (Nat.le_refl _) _
    go_wp2_with fail
    have nekxky : gkx ≠ vya5.heap.size := Nat.ne_of_lt kx.lt
    replace kx := kx.below hnx kx.lt
    have ky : BK (vya5.alloc (.cells #[.slice none 0 0, .int .i64 0] 24)) vya5.heap.size #[.slice none 0 0, .int .i64 0] 24 := BK.new _ _ _
    refine hK _ _ (fun _ => eya6) ?_
    clear hK K hnx
    generalize (vya5.alloc (.cells #[.slice none 0 0, .int .i64 0] 24)) = vya8 at *
    obtain ⟨gky, hgky⟩ : ∃ g, vya5.heap.size = g := ⟨_, rfl⟩
    have hqky : w1.heap.size ≤ gky := by omega
    rw [hgky] at ky nekxky
    try rw [hgky]
    clear hgky
    refine any_run1 (i := 8) (by kernel_rfl) (by rfl) (by kernel_rfl) ?_
    intro K hK
    have lkx := kx.lt
    have y0 := kx.cell 0
    have f0 := kx.frozen 0
    have y1 := kx.cell 1
    have f1 := kx.frozen 1
    simp at y0 y1
    go_wp2_with fail
    have eya9 : Below w1.heap.size w1 ((vya8.setCell ⟨gkx, 0, none⟩ (.slice none 0 0)).setCell ⟨gkx, 1, none⟩ (.int .i64 m)) := by exact bel_of
    have ky_ : BK ((vya8.setCell ⟨gkx, 0, none⟩ (.slice none 0 0)).setCell ⟨gkx, 1, none⟩ (.int .i64 m)) gky _ _ := (BK.far (BK.far ky (p := ⟨gkx, 0, none⟩) (by first | assumption | exact Ne.symm (by assumption)) _) (p := ⟨gkx, 1, none⟩) (by first | assumption | exact Ne.symm (by assumption)) _); clear ky; have ky := ky_; clear ky_
    have kx_ := ((kx.set 0 (.slice none 0 0)).set 1 (.int .i64 m))
    simp at kx_
    clear kx; have kx := kx_; clear kx_
    clear y0 f0 y1 f1
    refine hK _ _ (fun _ => eya9) ?_
    clear hK K
    generalize ((vya8.setCell ⟨gkx, 0, none⟩ (.slice none 0 0)).setCell ⟨gkx, 1, none⟩ (.int .i64 m)) = vya10 at *
    refine any_run1 (i := 9) (by kernel_rfl) (by rfl) (by kernel_rfl) ?_
    intro K hK
    have lky := ky.lt
    have y0 := ky.cell 0
    have f0 := ky.frozen 0
    have y1 := ky.cell 1
    have f1 := ky.frozen 1
    simp at y0 y1
    go_wp2_with fail
    have eya11 : Below w1.heap.size w1 ((vya10.setCell ⟨gky, 0, none⟩ (.slice none 0 0)).setCell ⟨gky, 1, none⟩ (.int .i64 m)) := by exact bel_of
    have kx_ : BK ((vya10.setCell ⟨gky, 0, none⟩ (.slice none 0 0)).setCell ⟨gky, 1, none⟩ (.int .i64 m)) gkx _ _ := (BK.far (BK.far kx (p := ⟨gky, 0, none⟩) (by first | assumption | exact Ne.symm (by assumption)) _) (p := ⟨gky, 1, none⟩) (by first | assumption | exact Ne.symm (by assumption)) _); clear kx; have kx := kx_; clear kx_
    have ky_ := ((ky.set 0 (.slice none 0 0)).set 1 (.int .i64 m))
    simp at ky_
    clear ky; have ky := ky_; clear ky_
    clear y0 f0 y1 f1
    refine hK _ _ (fun _ => eya11) ?_
    clear hK K
    generalize ((vya10.setCell ⟨gky, 0, none⟩ (.slice none 0 0)).setCell ⟨gky, 1, none⟩ (.int .i64 m)) = vya12 at *
    refine any_done (by kernel_rfl) (NoPanic.normal ?_)
    exact ⟨rfl, by simp [setAll], rfl, _, _, rfl, rfl, by first | assumption | exact Ne.symm (by assumption), kx, ky, ⟨by omega, by omega⟩, eya11⟩
   ·skip
    intro K hK
    have qya14 := dya1.size
    have eya13 : Below w1.heap.size w1 (uya2.alloc (.cells #[.slice none 0 0, .int .i64 0] 24)) := Below.alloc dya1 dya1.size _
    have hnx : Below uya2.heap.size uya2 (uya2.alloc (.cells #[.slice none 0 0, .int .i64 0] 24)) := Below.alloc (Below.refl _ _) (Nat.le_refl _) _
    go_wp2_with fail
    have ky : BK (uya2.alloc (.cells #[.slice none 0 0, .int .i64 0] 24)) uya2.heap.size #[.slice none 0 0, .int .i64 0] 24 := BK.new _ _ _
    refine hK _ _ (fun _ => eya13) ?_
    clear hK K hnx
    generalize (uya2.alloc (.cells #[.slice none 0 0, .int .i64 0] 24)) = vya15 at *
    obtain ⟨gky, hgky⟩ : ∃ g, uya2.heap.size = g := ⟨_, rfl⟩
    have hqky : w1.heap.size ≤ gky := by omega
    rw [hgky] at ky
    try rw [hgky]
    clear hgky
    refine any_run1 (i := 6) (by kernel_rfl) (by rfl) (by kernel_rfl) ?_
    intro K hK
    have qya17 := eya13.size
    have eya16 : Below w1.heap.size w1 (vya15.alloc (.cells #[.slice none 0 0, .int .i64 0] 24)) := Below.alloc eya13 eya13.size _
    have hnx : Below vya15.heap.size vya15 (vya15.alloc (.cells #[.slice none 0 0, .int .i64 0] 24)) := Below.alloc (Below.refl _ _) (Nat.le_refl _) _
    go_wp2_with fail
    have nekykx : gky ≠ vya15.heap.size := Nat.ne_of_lt ky.lt
    replace ky := ky.below hnx ky.lt
    have kx : BK (vya15.alloc (.cells #[.slice none 0 0, .int .i64 0] 24)) vya15.heap.size #[.slice none 0 0, .int .i64 0] 24 := BK.new _ _ _
    refine hK _ _ (fun _ => eya16) ?_
    clear hK K hnx
    generalize (vya15.alloc (.cells #[.slice none 0 0, .int .i64 0] 24)) = vya18 at *
    obtain ⟨gkx, hgkx⟩ : ∃ g, vya15.heap.size = g := ⟨_, rfl⟩
    have hqkx : w1.heap.size ≤ gkx := by omega
    rw [hgkx] at kx nekykx
    try rw [hgkx]
    clear hgkx
    refine any_run1 (i := 8) (by kernel_rfl) (by rfl) (by kernel_rfl) ?_
    intro K hK
    have lkx := kx.lt
    have y0 := kx.cell 0
    have f0 := kx.frozen 0
    have y1 := kx.cell 1
    have f1 := kx.frozen 1
    simp at y0 y1
    go_wp2_with fail
    have eya19 : Below w1.heap.size w1 ((vya18.setCell ⟨gkx, 0, none⟩ (.slice none 0 0)).setCell ⟨gkx, 1, none⟩ (.int .i64 m)) := by exact bel_of
    have ky_ : BK ((vya18.setCell ⟨gkx, 0, none⟩ (.slice none 0 0)).setCell ⟨gkx, 1, none⟩ (.int .i64 m)) gky _ _ := (BK.far (BK.far ky (p := ⟨gkx, 0, none⟩) (by first | assumption | exact Ne.symm (by assumption)) _) (p := ⟨gkx, 1, none⟩) (by first | assumption | exact Ne.symm (by assumption)) _); clear ky; have ky := ky_; clear ky_
    have kx_ := ((kx.set 0 (.slice none 0 0)).set 1 (.int .i64 m))
    simp at kx_
    clear kx; have kx := kx_; clear kx_
    clear y0 f0 y1 f1
    refine hK _ _ (fun _ => eya19) ?_
    clear hK K
    generalize ((vya18.setCell ⟨gkx, 0, none⟩ (.slice none 0 0)).setCell ⟨gkx, 1, none⟩ (.int .i64 m)) = vya20 at *
    refine any_run1 (i := 9) (by kernel_rfl) (by rfl) (by kernel_rfl) ?_
    intro K hK
    have lky := ky.lt
    have y0 := ky.cell 0
    have f0 := ky.frozen 0
    have y1 := ky.cell 1
    have f1 := ky.frozen 1
    simp at y0 y1
    go_wp2_with fail
    have eya21 : Below w1.heap.size w1 ((vya20.setCell ⟨gky, 0, none⟩ (.slice none 0 0)).setCell ⟨gky, 1, none⟩ (.int .i64 m)) := by exact bel_of
    have kx_ : BK ((vya20.setCell ⟨gky, 0, none⟩ (.slice none 0 0)).setCell ⟨gky, 1, none⟩ (.int .i64 m)) gkx _ _ := (BK.far (BK.far kx (p := ⟨gky, 0, none⟩) (by first | assumption | exact Ne.symm (by assumption)) _) (p := ⟨gky, 1, none⟩) (by first | assumption | exact Ne.symm (by assumption)) _); clear kx; have kx := kx_; clear kx_
    have ky_ := ((ky.set 0 (.slice none 0 0)).set 1 (.int .i64 m))
    simp at ky_
    clear ky; have ky := ky_; clear ky_
    clear y0 f0 y1 f1
    refine hK _ _ (fun _ => eya21) ?_
    clear hK K
    generalize ((vya20.setCell ⟨gky, 0, none⟩ (.slice none 0 0)).setCell ⟨gky, 1, none⟩ (.int .i64 m)) = vya22 at *
    refine any_done (by kernel_rfl) (NoPanic.normal ?_)
    exact ⟨rfl, by simp [setAll], rfl, _, _, rfl, rfl, by first | assumption | exact Ne.symm (by assumption), kx, ky, ⟨by omega, by omega⟩, eya21⟩
  clear lbx bxc0 bxc1
  rintro u V ⟨gx, gy, hu7, hu8, hxy, kx, ky, ⟨hgx, hgy⟩, hbz⟩
  simp only [setAll, List.foldl, List.setIfInBounds_toArray, List.set_cons_succ, List.set_cons_zero, hu7, hu8]
  have hnx : n0 < gx := by have := bx.lt; omega
  have hny : n0 < gy := by have := bx.lt; omega
  clear hu7 hu8 hgx hgy
  replace hC : Below n0 w V := hC.trans (hbz.mono (by have := hC.size; omega))
  replace hT := (RS.below hT hbz).more hbz.size
  replace bx := bx.below hbz bx.lt
  clear hbz
  clear hT
  have lbx := bx.lt
  have bxc0 := bx.cell 0
  have bxc1 := bx.cell 1
  simp at bxc0 bxc1
  go_wp2_with fail
  clear lbx bxc0 bxc1
  go_loopw [11] (fun iv wr => ∃ (k : Nat) (vx vy : Value), k ≤ l.length ∧ iv = .int .i64 k ∧ BK wr n0 #[.slice A l.length cap, .int .i64 m] 24 ∧ BK wr gx #[vx, .int .i64 m] 24 ∧ BK wr gy #[vy, .int .i64 m] 24 ∧ TwoT wr n0 vx vy ((l.take k).map negS) ((l.take k).map (mulS t)) ∧ Below n0 w wr) (fun iv _ => l.length - (intOf iv).toNat)
  case atStart => exact ⟨0, _, _, Nat.zero_le _, rfl, bx, kx, ky, by simp only [List.take_zero, List.map_nil]; exact TwoT.nil _ _, hC⟩
  case round =>
    clear bx kx ky hC
    obtain ⟨k, vx, vy, hk, rfl, bx, xx, yy, two, hC⟩ := hrel
    have hT : RT wr n0 (.slice A l.length cap) l := RS.below H0.out hC
    by_cases hlt : k < l.length
    case pos =>
      have hlt' : (k : Int) < (l.length : Int) := by omega
      obtain ⟨A', cap', b', off', hve, hA, hc⟩ := RT.cells hT
      obtain ⟨rfl, hbb⟩ := hA (by omega)
      injection hve with q1 q2 q3
      subst q1 q3
      obtain ⟨d0, d1, d2, d3⟩ := hc k hlt
      clear hA hc q2
      have hos := okS_at HOK.out.all hlt
      have HTX := Lib.hid (take_map (f := negS) hlt)
      have HTY := Lib.hid (take_map (f := mulS t) hlt)
      obtain ⟨⟨a, lo, hi, hd⟩, hss⟩ : ∃ s, nthS l k = s := ⟨_, rfl⟩
      rw [hss] at d0 d1 d2 d3 hos HTX HTY
      dsimp only [negS, mulS] at d0 d1 d2 d3 hos HTX HTY
      have hn00 := hC.size
      have hbb2 : b' < wr.heap.size := by omega
      have wa : IntKind.i64.wrap (-a) = -a := by rw [IntKind.wrap_i64]; omega
      have wl : IntKind.i64.wrap (-lo) = -lo := by rw [IntKind.wrap_i64]; omega
      have wh : IntKind.i64.wrap (-hi) = -hi := by rw [IntKind.wrap_i64]; omega
      have hth : t * hd ≤ 9 * 9 := Int.mul_le_mul ht9 (by omega) (by omega) (by omega)
      have hth0 : 0 ≤ t * hd := Int.mul_nonneg (by omega) (by omega)
      have wm : IntKind.i64.wrap (t * hd) = t * hd := by rw [IntKind.wrap_i64]; omega
      clear hss hos hth hth0
      have nxx := TwoT.lt two (Nat.le_refl _)
      have nyy := TwoT.lt two.symm (Nat.le_refl _)
      have lbx := bx.lt
      have bxc0 := bx.cell 0
      have bxc1 := bx.cell 1
      simp at bxc0 bxc1
      go_upto_region 9 with fail
      clear lbx bxc0 bxc1
      have lgx := xx.lt
      have lgy := yy.lt
      have lbn := bx.lt
      obtain ⟨mm, hmm⟩ : ∃ n, wr.heap.size = n := ⟨_, rfl⟩
      try rw [hmm]
      rw [hmm] at lgx lgy lbn nxx nyy
      have hqbt : n0 ≤ mm := by have := hC.size; omega
      have bt : BK (wr.alloc (.cells #[.int .i64 a, .int .i64 lo, .int .i64 hi, .int .i64 hd] 60)) (mm) #[.int .i64 a, .int .i64 lo, .int .i64 hi, .int .i64 hd] 60 := BK.new' _ _ _ (mm) hmm
      have hsbt : (wr.alloc (.cells #[.int .i64 a, .int .i64 lo, .int .i64 hi, .int .i64 hd] 60)).heap.size = mm + 1 := by simp [hmm]
      replace hC : Below n0 w (wr.alloc (.cells #[.int .i64 a, .int .i64 lo, .int .i64 hi, .int .i64 hd] 60)) := Below.alloc hC (by have := hC.size; omega) _
      replace bx := bx.alloc (.cells #[.int .i64 a, .int .i64 lo, .int .i64 hi, .int .i64 hd] 60)
      replace xx := xx.alloc (.cells #[.int .i64 a, .int .i64 lo, .int .i64 hi, .int .i64 hd] 60)
      replace yy := yy.alloc (.cells #[.int .i64 a, .int .i64 lo, .int .i64 hi, .int .i64 hd] 60)
      replace two := TwoT.below two (Y := (wr.alloc (.cells #[.int .i64 a, .int .i64 lo, .int .i64 hi, .int .i64 hd] 60))) (Below.alloc (Below.refl _ _) (Nat.le_refl _) _)
      generalize (wr.alloc (.cells #[.int .i64 a, .int .i64 lo, .int .i64 hi, .int .i64 hd] 60)) = Wbt at *
      clear hmm
      clear hsbt
      clear d0 d1 d2 d3 hT hbb hbb2
      have lbt := bt.lt
      have btc0 := bt.cell 0
      have btc1 := bt.cell 1
      have btc2 := bt.cell 2
      have btc3 := bt.cell 3
      simp at btc0 btc1 btc2 btc3
      have lxx := xx.lt
      have xxc0 := xx.cell 0
      have xxc1 := xx.cell 1
      simp at xxc0 xxc1
      go_upto_region 9 with fail
      refine wp_region_noPanic (plain_any [0, 1, 2, 3, 4, 5, 6, 7, 8, 9, 10, 11, 12, 13, 14] (Below Wbt.heap.size Wbt) mixed ?_)
      refine any_tk 0 ?_
      refine any_tk 1 ?_
      refine any_tk 2 ?_
      refine any_tk 3 ?_
      refine any_tk 4 ?_
      refine any_tk 5 ?_
      refine any_tk 6 ?_
      refine any_tk 7 ?_
      refine any_tk 8 ?_
      refine any_tk 9 ?_
      refine any_tk 10 ?_
      refine any_tk 11 ?_
      refine any_tk 12 ?_
      refine any_tk 13 ?_
      refine any_tk 14 ?_
      have hd0p : Below Wbt.heap.size Wbt (Wbt.drew) := by exact bel_of
      refine any_run1 (i := 15) (by kernel_rfl) (by rfl) (by kernel_rfl) ?_
      intro K3 hK3
      go_wp2_with fail
      refine (station_any ⟨-a, -hi, -lo, hd⟩ _).mono ?_
      rintro e Vp ⟨he, hb1⟩
      have he : e = .returned (.agg #[.int .i64 (-a), .int .i64 (-hi), .int .i64 (-lo), .int .i64 (hd)]) := he
      subst he
      have hb01 : Below Wbt.heap.size Wbt Vp := hd0p.trans (hb1.mono hd0p.size)
      refine hK3 _ _ (fun _ => hb01) ?_
      clear hK3 K3 hb1
      refine any_run1 (i := 16) (by kernel_rfl) (by rfl) (by kernel_rfl) ?_
      intro K3 hK3
      go_wp2_with fail
      obtain ⟨gv, hgv⟩ : ∃ n, Vp.heap.size = n := ⟨_, rfl⟩
      have bX : BK (Vp.alloc (.cells #[.int .i64 (-a), .int .i64 (-hi), .int .i64 (-lo), .int .i64 (hd)] 60)) gv #[.int .i64 (-a), .int .i64 (-hi), .int .i64 (-lo), .int .i64 (hd)] 60 := BK.new' _ _ _ gv hgv
      have hbX : Below Vp.heap.size Vp (Vp.alloc (.cells #[.int .i64 (-a), .int .i64 (-hi), .int .i64 (-lo), .int .i64 (hd)] 60)) := Below.alloc (Below.refl _ _) (Nat.le_refl _) _
      have hb0X := hb01.trans (hbX.mono hb01.size)
      refine hK3 _ _ (fun _ => hb0X) ?_
      clear hK3 K3
      try rw [hgv]
      have hbase : n0 ≤ (Vp.alloc (.cells #[.int .i64 (-a), .int .i64 (-hi), .int .i64 (-lo), .int .i64 (hd)] 60)).heap.size := by have := hC.size; have := hb0X.size; omega
      obtain ⟨vp, w9p, hrun, two9, hbel, hsz9, hkeep⟩ := two_grow (x := ⟨-a, -hi, -lo, hd⟩) (TwoT.below two hb0X) bX (by simp; omega) hbase
      obtain ⟨Ap, np, cp, hvp⟩ : ∃ A n c, vp = Value.slice A n c := by
        obtain ⟨A, c, h⟩ := own_slice two9.1
        exact ⟨A, _, c, h⟩
      subst hvp
      have m9 := hkeep _ _ _ (xx.below hb0X xx.lt) (TwoT.ne (TwoT.below two hb0X) (xx.below hb0X xx.lt))
      have o9 := hkeep _ _ _ (yy.below hb0X yy.lt) (TwoT.ne (TwoT.below two hb0X) (yy.below hb0X yy.lt))
      have bx9 := hkeep _ _ _ (bx.below hb0X bx.lt) (TwoT.ne (TwoT.below two hb0X) (bx.below hb0X bx.lt))
      have bt9 := hkeep _ _ _ (bt.below hb0X bt.lt) nxx
      have hC9 : Below n0 w w9p := hbel _ (hC.trans (hb0X.mono (by have := hC.size; omega)))
      have HRUN := Lib.hid hrun
      clear hgv hrun hbel hkeep bX hb0X hbX hb01 hd0p hsz9 hbase
      generalize (Vp.alloc (.cells #[.int .i64 (-a), .int .i64 (-hi), .int .i64 (-lo), .int .i64 (hd)] 60)) = VXp at *
      refine any_run1 (i := 17) (by kernel_rfl) (by rfl) (by kernel_rfl) ?_
      intro K3 hK3
      refine wp_append_run (.tmp 61) (.tmp 76) 22 _ rfl HRUN.out ?_
      refine hK3 _ _ (fun hx => (Bool.false_ne_true (hx.symm.trans (by kernel_rfl))).elim) ?_
      clear hK3 K3 HRUN
      simp only [List.getElem_toArray, List.getElem_cons_succ, List.getElem_cons_zero, Act.put, List.setIfInBounds_toArray, List.set_cons_succ, List.set_cons_zero]
      clear lbt btc0 btc1 btc2 btc3
      clear lxx xxc0 xxc1
      have lb := m9.lt
      have y0 := m9.cell 0
      have y1 := m9.cell 1
      have f0 := m9.frozen 0
      simp at y0 y1
      refine any_run1 (i := 18) (by kernel_rfl) (by rfl) (by kernel_rfl) ?_
      intro K3 hK3
      go_wp2_with fail
      refine hK3 _ _ (fun hx => (Bool.false_ne_true (hx.symm.trans (by kernel_rfl))).elim) ?_
      clear hK3 K3
      refine any_run1 (i := 19) (by kernel_rfl) (by rfl) (by kernel_rfl) ?_
      intro K3 hK3
      go_wp2_with fail
      refine hK3 _ _ (fun hx => (Bool.false_ne_true (hx.symm.trans (by kernel_rfl))).elim) ?_
      clear hK3 K3
      refine any_done (by kernel_rfl) (NoPanic.normal ?_)
      clear y0 y1 f0 lb
      have mA : BK (w9p.setCell ⟨gx, 0, none⟩ (.slice Ap np cp)) gx #[.slice Ap np cp, .int .i64 m] 24 := by simpa using m9.set 0 (.slice Ap np cp)
      have oA := o9.far (p := ⟨gx, 0, none⟩) (by show gy ≠ gx; omega) (.slice Ap np cp)
      have bxA := bx9.far (p := ⟨gx, 0, none⟩) (by show n0 ≠ gx; omega) (.slice Ap np cp)
      have btA := bt9.far (p := ⟨gx, 0, none⟩) (by show mm ≠ gx; omega) (.slice Ap np cp)
      have twoA := TwoT.far two9 (p := ⟨gx, 0, none⟩) m9 (.slice Ap np cp)
      have hCA : Below n0 w (w9p.setCell ⟨gx, 0, none⟩ (.slice Ap np cp)) := Below.setCell hC9 (by show n0 ≤ gx; omega) _
      clear m9 o9 bt9 bx9 two9 hC9 xx yy bx bt two hC
      generalize w9p.setCell ⟨gx, 0, none⟩ (.slice Ap np cp) = WAp at *
      have xx := mA
      have yy := oA
      have bx := bxA
      have bt := btA
      have twop := twoA.symm
      have hC := hCA
      clear mA oA bxA btA twoA hCA
      have lbt := bt.lt
      have btc0 := bt.cell 0
      have btc1 := bt.cell 1
      have btc2 := bt.cell 2
      have btc3 := bt.cell 3
      simp at btc0 btc1 btc2 btc3
      have lyy := yy.lt
      have yyc0 := yy.cell 0
      have yyc1 := yy.cell 1
      simp at yyc0 yyc1
      go_upto_region 10 with fail
      refine wp_region_noPanic (plain_any [0, 1, 2, 3, 4, 5, 6, 7, 8, 9, 10, 11, 12, 13] (Below WAp.heap.size WAp) mixed ?_)
      refine any_tk 0 ?_
      refine any_tk 1 ?_
      refine any_tk 2 ?_
      refine any_tk 3 ?_
      refine any_tk 4 ?_
      refine any_tk 5 ?_
      refine any_tk 6 ?_
      refine any_tk 7 ?_
      refine any_tk 8 ?_
      refine any_tk 9 ?_
      refine any_tk 10 ?_
      refine any_tk 11 ?_
      refine any_tk 12 ?_
      refine any_tk 13 ?_
      have hd0q : Below WAp.heap.size WAp (WAp.drew) := by exact bel_of
      refine any_run1 (i := 14) (by kernel_rfl) (by rfl) (by kernel_rfl) ?_
      intro K3 hK3
      go_wp2_with fail
      refine (station_any ⟨a, lo, hi, t * hd⟩ _).mono ?_
      rintro e Vq ⟨he, hb1⟩
      have he : e = .returned (.agg #[.int .i64 (a), .int .i64 (lo), .int .i64 (hi), .int .i64 (t * hd)]) := he
      subst he
      have hb01 : Below WAp.heap.size WAp Vq := hd0q.trans (hb1.mono hd0q.size)
      refine hK3 _ _ (fun _ => hb01) ?_
      clear hK3 K3 hb1
      refine any_run1 (i := 15) (by kernel_rfl) (by rfl) (by kernel_rfl) ?_
      intro K3 hK3
      go_wp2_with fail
      obtain ⟨gv, hgv⟩ : ∃ n, Vq.heap.size = n := ⟨_, rfl⟩
      have bX : BK (Vq.alloc (.cells #[.int .i64 (a), .int .i64 (lo), .int .i64 (hi), .int .i64 (t * hd)] 60)) gv #[.int .i64 (a), .int .i64 (lo), .int .i64 (hi), .int .i64 (t * hd)] 60 := BK.new' _ _ _ gv hgv
      have hbX : Below Vq.heap.size Vq (Vq.alloc (.cells #[.int .i64 (a), .int .i64 (lo), .int .i64 (hi), .int .i64 (t * hd)] 60)) := Below.alloc (Below.refl _ _) (Nat.le_refl _) _
      have hb0X := hb01.trans (hbX.mono hb01.size)
      refine hK3 _ _ (fun _ => hb0X) ?_
      clear hK3 K3
      try rw [hgv]
      have hbase : n0 ≤ (Vq.alloc (.cells #[.int .i64 (a), .int .i64 (lo), .int .i64 (hi), .int .i64 (t * hd)] 60)).heap.size := by have := hC.size; have := hb0X.size; omega
      obtain ⟨vq, w9q, hrun, two9, hbel, hsz9, hkeep⟩ := two_grow (x := ⟨a, lo, hi, t * hd⟩) (TwoT.below twop hb0X) bX (by simp; omega) hbase
      obtain ⟨Aq, nq, cq, hvq⟩ : ∃ A n c, vq = Value.slice A n c := by
        obtain ⟨A, c, h⟩ := own_slice two9.1
        exact ⟨A, _, c, h⟩
      subst hvq
      have m9 := hkeep _ _ _ (yy.below hb0X yy.lt) (TwoT.ne (TwoT.below twop hb0X) (yy.below hb0X yy.lt))
      have o9 := hkeep _ _ _ (xx.below hb0X xx.lt) (TwoT.ne (TwoT.below twop hb0X) (xx.below hb0X xx.lt))
      have bx9 := hkeep _ _ _ (bx.below hb0X bx.lt) (TwoT.ne (TwoT.below twop hb0X) (bx.below hb0X bx.lt))
      have bt9 := hkeep _ _ _ (bt.below hb0X bt.lt) nyy
      have hC9 : Below n0 w w9q := hbel _ (hC.trans (hb0X.mono (by have := hC.size; omega)))
      have HRUN := Lib.hid hrun
      clear hgv hrun hbel hkeep bX hb0X hbX hb01 hd0q hsz9 hbase
      generalize (Vq.alloc (.cells #[.int .i64 (a), .int .i64 (lo), .int .i64 (hi), .int .i64 (t * hd)] 60)) = VXq at *
      refine any_run1 (i := 16) (by kernel_rfl) (by rfl) (by kernel_rfl) ?_
      intro K3 hK3
      refine wp_append_run (.tmp 80) (.tmp 94) 22 _ rfl HRUN.out ?_
      refine hK3 _ _ (fun hx => (Bool.false_ne_true (hx.symm.trans (by kernel_rfl))).elim) ?_
      clear hK3 K3 HRUN
      simp only [List.getElem_toArray, List.getElem_cons_succ, List.getElem_cons_zero, Act.put, List.setIfInBounds_toArray, List.set_cons_succ, List.set_cons_zero]
      clear lbt btc0 btc1 btc2 btc3
      clear lyy yyc0 yyc1
      have lb := m9.lt
      have y0 := m9.cell 0
      have y1 := m9.cell 1
      have f0 := m9.frozen 0
      simp at y0 y1
      refine any_run1 (i := 17) (by kernel_rfl) (by rfl) (by kernel_rfl) ?_
      intro K3 hK3
      go_wp2_with fail
      refine hK3 _ _ (fun hx => (Bool.false_ne_true (hx.symm.trans (by kernel_rfl))).elim) ?_
      clear hK3 K3
      refine any_run1 (i := 18) (by kernel_rfl) (by rfl) (by kernel_rfl) ?_
      intro K3 hK3
      go_wp2_with fail
      refine hK3 _ _ (fun hx => (Bool.false_ne_true (hx.symm.trans (by kernel_rfl))).elim) ?_
      clear hK3 K3
      refine any_done (by kernel_rfl) (NoPanic.normal ?_)
      clear y0 y1 f0 lb
      have mA : BK (w9q.setCell ⟨gy, 0, none⟩ (.slice Aq nq cq)) gy #[.slice Aq nq cq, .int .i64 m] 24 := by simpa using m9.set 0 (.slice Aq nq cq)
      have oA := o9.far (p := ⟨gy, 0, none⟩) (by show gx ≠ gy; omega) (.slice Aq nq cq)
      have bxA := bx9.far (p := ⟨gy, 0, none⟩) (by show n0 ≠ gy; omega) (.slice Aq nq cq)
      have btA := bt9.far (p := ⟨gy, 0, none⟩) (by show mm ≠ gy; omega) (.slice Aq nq cq)
      have twoA := TwoT.far two9 (p := ⟨gy, 0, none⟩) m9 (.slice Aq nq cq)
      have hCA : Below n0 w (w9q.setCell ⟨gy, 0, none⟩ (.slice Aq nq cq)) := Below.setCell hC9 (by show n0 ≤ gy; omega) _
      clear m9 o9 bt9 bx9 two9 hC9 xx yy bx bt twop hC
      generalize w9q.setCell ⟨gy, 0, none⟩ (.slice Aq nq cq) = WAq at *
      have yy := mA
      have xx := oA
      have bx := bxA
      have bt := btA
      have twoq := twoA.symm
      have hC := hCA
      clear mA oA bxA btA twoA hCA
      go_wp2_with fail
      go_roundw
      case rel => exact ⟨k + 1, _, _, by omega, by go_num, bx, xx, yy, by rw [← HTX.out, ← HTY.out]; exact twoq, hC⟩
      case measure => simp [intOf]; omega
    obtain rfl : k = l.length := by omega
    have hlt' : ¬ ((l.length : Int) < (l.length : Int)) := by omega
    rw [List.take_of_length_le (Nat.le_refl _)] at two
    have hX := OwnS.rt two.1
    have hY := OwnS.rt two.2.1
    replace hT := RS.more hT (by have := hC.size; omega : n0 ≤ wr.heap.size)
    have hNl : (l.map negS).length ≤ 1000 := by rw [List.length_map]; omega
    have hMl : (l.map (mulS t)).length ≤ 1000 := by rw [List.length_map]; omega
    have hMM : (l.map (mulS t)).length ≤ maxLen := by rw [List.length_map]; exact hlM
    obtain ⟨v0, sa, sb, e0, he0, hb1, hb2, hs1, hs2, ra, rb, rv, hmu⟩ := turned HOK.out hi2
    have HB1 := Lib.hid hb1
    have HB2 := Lib.hid hb2
    have HS1 := Lib.hid hs1
    have HS2 := Lib.hid hs2
    have HMU := Lib.hid hmu
    obtain ⟨N, hN⟩ : ∃ N, l.map negS = N := ⟨_, rfl⟩
    obtain ⟨M, hM⟩ : ∃ M, l.map (mulS t) = M := ⟨_, rfl⟩
    rw [hN] at hX HB2 HS2 hNl
    have HM0 := Lib.hid (HMU.out t ht1)
    rw [hM] at hY hMl hMM HM0
    have wa : IntKind.i64.wrap (-sa) = -sa := by rw [IntKind.wrap_i64]; omega
    have wb : IntKind.i64.wrap (-sb) = -sb := by rw [IntKind.wrap_i64]; omega
    have htv : t * v0 ≤ 9 * 36000 := Int.mul_le_mul ht9 rv.2 rv.1 (by omega)
    have htv0 : 0 ≤ t * v0 := Int.mul_nonneg (by omega) rv.1
    have wm : IntKind.i64.wrap (t * v0) = t * v0 := by rw [IntKind.wrap_i64]; omega
    have c1 : (v0 == v0) = true := beq_self_eq_true _
    have c2 : (sa == sa) = true := beq_self_eq_true _
    have c3 : (sb == sb) = true := beq_self_eq_true _
    have c4 : (-sa == -sa) = true := beq_self_eq_true _
    have c5 : (-sb == -sb) = true := beq_self_eq_true _
    have c6 : (t * v0 == t * v0) = true := beq_self_eq_true _
    clear two hk hlt hb1 hb2 hs1 hs2 hmu HMU hN hM htv htv0 ra rb rv
    rcases he0 with rfl | rfl
    ·skip
     have lbx := bx.lt
     have bxc0 := bx.cell 0
     have bxc1 := bx.cell 1
     simp at bxc0 bxc1
     have lxx := xx.lt
     have xxc0 := xx.cell 0
     have xxc1 := xx.cell 1
     simp at xxc0 xxc1
     have lyy := yy.lt
     have yyc0 := yy.cell 0
     have yyc1 := yy.cell 1
     simp at yyc0 yyc1
     go_wp2_with fail
     clear lbx bxc0 bxc1
     clear lxx xxc0 xxc1
     clear lyy yyc0 yyc1
     try clear hlt'
     refine (Best_any l _ m _ hlk hT).mono ?_
     rintro e w2 ⟨u_a, rfl, hown, hb⟩
     replace hC : Below n0 w w2 := hC.trans (hb.mono (by have := hC.size; omega))
     replace bx := bx.below hb bx.lt
     replace xx := xx.below hb xx.lt
     replace yy := yy.below hb yy.lt
     replace hX := (RS.below hX hb).more hb.size
     replace hY := (RS.below hY hb).more hb.size
     replace hT := (RS.below hT hb).more hb.size
     clear hb
     rw [HB1.out]
     clear hown
     have lbx := bx.lt
     have bxc0 := bx.cell 0
     have bxc1 := bx.cell 1
     simp at bxc0 bxc1
     have lxx := xx.lt
     have xxc0 := xx.cell 0
     have xxc1 := xx.cell 1
     simp at xxc0 xxc1
     have lyy := yy.lt
     have yyc0 := yy.cell 0
     have yyc1 := yy.cell 1
     simp at yyc0 yyc1
     go_wp2_with fail
     clear lbx bxc0 bxc1
     clear lxx xxc0 xxc1
     clear lyy yyc0 yyc1
     refine (Best_any N _ m _ hNl hX).mono ?_
     rintro e w3 ⟨u_b, rfl, hown, hb⟩
     replace hC : Below n0 w w3 := hC.trans (hb.mono (by have := hC.size; omega))
     replace bx := bx.below hb bx.lt
     replace xx := xx.below hb xx.lt
     replace yy := yy.below hb yy.lt
     replace hX := (RS.below hX hb).more hb.size
     replace hY := (RS.below hY hb).more hb.size
     replace hT := (RS.below hT hb).more hb.size
     clear hb
     rw [HB2.out]
     clear hown
     have lbx := bx.lt
     have bxc0 := bx.cell 0
     have bxc1 := bx.cell 1
     simp at bxc0 bxc1
     have lxx := xx.lt
     have xxc0 := xx.cell 0
     have xxc1 := xx.cell 1
     simp at xxc0 xxc1
     have lyy := yy.lt
     have yyc0 := yy.cell 0
     have yyc1 := yy.cell 1
     simp at yyc0 yyc1
     go_wp2_with fail
     clear lbx bxc0 bxc1
     clear lxx xxc0 xxc1
     clear lyy yyc0 yyc1
     refine (Span_any l _ m _ _ hlk hT).mono ?_
     rintro e w4 ⟨rfl, hb⟩
     replace hC : Below n0 w w4 := hC.trans (hb.mono (by have := hC.size; omega))
     replace bx := bx.below hb bx.lt
     replace xx := xx.below hb xx.lt
     replace yy := yy.below hb yy.lt
     replace hX := (RS.below hX hb).more hb.size
     replace hY := (RS.below hY hb).more hb.size
     replace hT := (RS.below hT hb).more hb.size
     clear hb
     rw [HS1.out]
     have lbx := bx.lt
     have bxc0 := bx.cell 0
     have bxc1 := bx.cell 1
     simp at bxc0 bxc1
     have lxx := xx.lt
     have xxc0 := xx.cell 0
     have xxc1 := xx.cell 1
     simp at xxc0 xxc1
     have lyy := yy.lt
     have yyc0 := yy.cell 0
     have yyc1 := yy.cell 1
     simp at yyc0 yyc1
     go_upto_region 14 with fail
     clear lbx bxc0 bxc1
     clear lxx xxc0 xxc1
     clear lyy yyc0 yyc1
     obtain ⟨m1, hm1⟩ : ∃ n, w4.heap.size = n := ⟨_, rfl⟩
     try rw [hm1]
     have hqs1 : n0 ≤ m1 := by have := hC.size; omega
     have s1 : BK (w4.alloc (.cells #[.int .i64 sa, .int .i64 sb] 42)) (m1) #[.int .i64 sa, .int .i64 sb] 42 := BK.new' _ _ _ (m1) hm1
     have hss1 : (w4.alloc (.cells #[.int .i64 sa, .int .i64 sb] 42)).heap.size = m1 + 1 := by simp [hm1]
     replace hC : Below n0 w (w4.alloc (.cells #[.int .i64 sa, .int .i64 sb] 42)) := Below.alloc hC (by have := hC.size; omega) _
     replace bx := bx.alloc (.cells #[.int .i64 sa, .int .i64 sb] 42)
     replace xx := xx.alloc (.cells #[.int .i64 sa, .int .i64 sb] 42)
     replace yy := yy.alloc (.cells #[.int .i64 sa, .int .i64 sb] 42)
     replace hX := (RS.below hX (w' := (w4.alloc (.cells #[.int .i64 sa, .int .i64 sb] 42))) (Below.alloc (Below.refl _ _) (Nat.le_refl _) _)).more (B' := (w4.alloc (.cells #[.int .i64 sa, .int .i64 sb] 42)).heap.size) (by simp)
     replace hY := (RS.below hY (w' := (w4.alloc (.cells #[.int .i64 sa, .int .i64 sb] 42))) (Below.alloc (Below.refl _ _) (Nat.le_refl _) _)).more (B' := (w4.alloc (.cells #[.int .i64 sa, .int .i64 sb] 42)).heap.size) (by simp)
     replace hT := (RS.below hT (w' := (w4.alloc (.cells #[.int .i64 sa, .int .i64 sb] 42))) (Below.alloc (Below.refl _ _) (Nat.le_refl _) _)).more (B' := (w4.alloc (.cells #[.int .i64 sa, .int .i64 sb] 42)).heap.size) (by simp)
     generalize (w4.alloc (.cells #[.int .i64 sa, .int .i64 sb] 42)) = Ws1 at *
     clear hm1
     clear hss1
     have lbx := bx.lt
     have bxc0 := bx.cell 0
     have bxc1 := bx.cell 1
     simp at bxc0 bxc1
     have lxx := xx.lt
     have xxc0 := xx.cell 0
     have xxc1 := xx.cell 1
     simp at xxc0 xxc1
     have lyy := yy.lt
     have yyc0 := yy.cell 0
     have yyc1 := yy.cell 1
     simp at yyc0 yyc1
     have ls1 := s1.lt
     have s1c0 := s1.cell 0
     have s1c1 := s1.cell 1
     simp at s1c0 s1c1
     go_wp2_with fail
     clear lbx bxc0 bxc1
     clear lxx xxc0 xxc1
     clear lyy yyc0 yyc1
     clear ls1 s1c0 s1c1
     refine (Span_any N _ m _ _ hNl hX).mono ?_
     rintro e w5 ⟨rfl, hb⟩
     replace hC : Below n0 w w5 := hC.trans (hb.mono (by have := hC.size; omega))
     replace bx := bx.below hb bx.lt
     replace xx := xx.below hb xx.lt
     replace yy := yy.below hb yy.lt
     replace hX := (RS.below hX hb).more hb.size
     replace hY := (RS.below hY hb).more hb.size
     replace hT := (RS.below hT hb).more hb.size
     replace s1 := s1.below hb s1.lt
     clear hb
     rw [HS2.out]
     have lbx := bx.lt
     have bxc0 := bx.cell 0
     have bxc1 := bx.cell 1
     simp at bxc0 bxc1
     have lxx := xx.lt
     have xxc0 := xx.cell 0
     have xxc1 := xx.cell 1
     simp at xxc0 xxc1
     have lyy := yy.lt
     have yyc0 := yy.cell 0
     have yyc1 := yy.cell 1
     simp at yyc0 yyc1
     have ls1 := s1.lt
     have s1c0 := s1.cell 0
     have s1c1 := s1.cell 1
     simp at s1c0 s1c1
     go_upto_region 15 with fail
     clear lbx bxc0 bxc1
     clear lxx xxc0 xxc1
     clear lyy yyc0 yyc1
     clear ls1 s1c0 s1c1
     obtain ⟨m2, hm2⟩ : ∃ n, w5.heap.size = n := ⟨_, rfl⟩
     try rw [hm2]
     have hqs2 : n0 ≤ m2 := by have := hC.size; omega
     have s2 : BK (w5.alloc (.cells #[.int .i64 (-sb), .int .i64 (-sa)] 42)) (m2) #[.int .i64 (-sb), .int .i64 (-sa)] 42 := BK.new' _ _ _ (m2) hm2
     have hss2 : (w5.alloc (.cells #[.int .i64 (-sb), .int .i64 (-sa)] 42)).heap.size = m2 + 1 := by simp [hm2]
     replace hC : Below n0 w (w5.alloc (.cells #[.int .i64 (-sb), .int .i64 (-sa)] 42)) := Below.alloc hC (by have := hC.size; omega) _
     replace bx := bx.alloc (.cells #[.int .i64 (-sb), .int .i64 (-sa)] 42)
     replace xx := xx.alloc (.cells #[.int .i64 (-sb), .int .i64 (-sa)] 42)
     replace yy := yy.alloc (.cells #[.int .i64 (-sb), .int .i64 (-sa)] 42)
     replace hX := (RS.below hX (w' := (w5.alloc (.cells #[.int .i64 (-sb), .int .i64 (-sa)] 42))) (Below.alloc (Below.refl _ _) (Nat.le_refl _) _)).more (B' := (w5.alloc (.cells #[.int .i64 (-sb), .int .i64 (-sa)] 42)).heap.size) (by simp)
     replace hY := (RS.below hY (w' := (w5.alloc (.cells #[.int .i64 (-sb), .int .i64 (-sa)] 42))) (Below.alloc (Below.refl _ _) (Nat.le_refl _) _)).more (B' := (w5.alloc (.cells #[.int .i64 (-sb), .int .i64 (-sa)] 42)).heap.size) (by simp)
     replace hT := (RS.below hT (w' := (w5.alloc (.cells #[.int .i64 (-sb), .int .i64 (-sa)] 42))) (Below.alloc (Below.refl _ _) (Nat.le_refl _) _)).more (B' := (w5.alloc (.cells #[.int .i64 (-sb), .int .i64 (-sa)] 42)).heap.size) (by simp)
     replace s1 := s1.alloc (.cells #[.int .i64 (-sb), .int .i64 (-sa)] 42)
     generalize (w5.alloc (.cells #[.int .i64 (-sb), .int .i64 (-sa)] 42)) = Ws2 at *
     clear hm2
     clear hss2
     have lbx := bx.lt
     have bxc0 := bx.cell 0
     have bxc1 := bx.cell 1
     simp at bxc0 bxc1
     have lxx := xx.lt
     have xxc0 := xx.cell 0
     have xxc1 := xx.cell 1
     simp at xxc0 xxc1
     have lyy := yy.lt
     have yyc0 := yy.cell 0
     have yyc1 := yy.cell 1
     simp at yyc0 yyc1
     have ls1 := s1.lt
     have s1c0 := s1.cell 0
     have s1c1 := s1.cell 1
     simp at s1c0 s1c1
     have ls2 := s2.lt
     have s2c0 := s2.cell 0
     have s2c1 := s2.cell 1
     simp at s2c0 s2c1
     refine wp_region_noPanic (plain_any [0, 1, 2, 3, 4, 5, 6, 7, 8, 9, 10, 11, 12, 13, 14, 15, 16, 17, 18, 19, 20, 21, 22, 23, 24, 25, 26, 27, 28, 29, 30, 31, 32, 33, 35, 36] (Below Ws2.heap.size Ws2) mixed ?_)
     refine any_tk 0 ?_
     have d0z : Below Ws2.heap.size Ws2 Ws2.drew := by exact bel_of
     refine any_tk 1 ?_
     refine any_tk 2 ?_
     (refine any_take 3 undef (by rfl) (by kernel_rfl) (fun _ _ _ _ _ hx => hx.elim) (.inr ⟨by rfl, by rfl⟩) (by exact bel_of) ?_; simp only [List.getElem_toArray, List.getElem_cons_succ, List.getElem_cons_zero, Act.put, List.setIfInBounds_toArray, List.set_cons_succ, List.set_cons_zero])
     (refine any_take 4 undef (by rfl) (by kernel_rfl) (fun _ _ _ _ _ hx => hx.elim) (.inr ⟨by rfl, by rfl⟩) (by exact bel_of) ?_; simp only [List.getElem_toArray, List.getElem_cons_succ, List.getElem_cons_zero, Act.put, List.setIfInBounds_toArray, List.set_cons_succ, List.set_cons_zero])
     refine any_tk 5 ?_
     refine any_tk 6 ?_
     refine any_tk 7 ?_
     refine any_tk 8 ?_
     refine any_tk 9 ?_
     refine any_tk 10 ?_
     refine any_tk 11 ?_
     refine any_tk 12 ?_
     refine any_tk 13 ?_
     refine any_tk 14 ?_
     refine any_tk 15 ?_
     refine any_tk 16 ?_
     refine any_tk 17 ?_
     refine any_tk 18 ?_
     refine any_tk 19 ?_
     refine any_tk 20 ?_
     refine any_tk 21 ?_
     refine any_tk 22 ?_
     refine any_tk 23 ?_
     refine any_tk 24 ?_
     refine any_tk 25 ?_
     refine any_tk 26 ?_
     refine any_tk 27 ?_
     refine any_tk 28 ?_
     refine any_tk 29 ?_
     refine any_tk 30 ?_
     refine any_tk 31 ?_
     refine any_tk 32 ?_
     refine any_tk 33 ?_
     have qz1 := d0z.size
     refine any_run1 (i := 34) (by kernel_rfl) (by rfl) (by kernel_rfl) ?_
     intro K hK
     go_wp2_with fail
     refine (rg_any (-sb) (-sa) _).mono ?_
     rintro e vz1 ⟨rfl, hb⟩
     have ez1 : Below Ws2.heap.size Ws2 vz1 := d0z.trans (hb.mono d0z.size)
     clear hb
     refine hK _ _ (fun _ => ez1) ?_
     clear hK K
     refine any_tk 35 ?_
     refine any_tk 36 ?_
     refine any_done (by kernel_rfl) (NoPanic.normal ?_)
     have hb := ez1
     replace hC : Below n0 w vz1 := hC.trans (hb.mono (by have := hC.size; omega))
     replace bx := bx.below hb bx.lt
     replace xx := xx.below hb xx.lt
     replace yy := yy.below hb yy.lt
     replace hX := (RS.below hX hb).more hb.size
     replace hY := (RS.below hY hb).more hb.size
     replace hT := (RS.below hT hb).more hb.size
     replace s1 := s1.below hb s1.lt
     replace s2 := s2.below hb s2.lt
     clear hb
     clear lbx bxc0 bxc1
     clear lxx xxc0 xxc1
     clear lyy yyc0 yyc1
     clear ls1 s1c0 s1c1
     clear ls2 s2c0 s2c1
     have lbx := bx.lt
     have bxc0 := bx.cell 0
     have bxc1 := bx.cell 1
     simp at bxc0 bxc1
     have lxx := xx.lt
     have xxc0 := xx.cell 0
     have xxc1 := xx.cell 1
     simp at xxc0 xxc1
     have lyy := yy.lt
     have yyc0 := yy.cell 0
     have yyc1 := yy.cell 1
     simp at yyc0 yyc1
     have ls1 := s1.lt
     have s1c0 := s1.cell 0
     have s1c1 := s1.cell 1
     simp at s1c0 s1c1
     have ls2 := s2.lt
     have s2c0 := s2.cell 0
     have s2c1 := s2.cell 1
     simp at s2c0 s2c1
     go_wp2_with fail
     clear lbx bxc0 bxc1
     clear lxx xxc0 xxc1
     clear lyy yyc0 yyc1
     clear ls1 s1c0 s1c1
     clear ls2 s2c0 s2c1
     refine (fine_any M _ m _ hMM hY).mono ?_
     rintro e w6 ⟨rfl, hb⟩
     replace hC : Below n0 w w6 := hC.trans (hb.mono (by have := hC.size; omega))
     replace bx := bx.below hb bx.lt
     replace xx := xx.below hb xx.lt
     replace yy := yy.below hb yy.lt
     replace hX := (RS.below hX hb).more hb.size
     replace hY := (RS.below hY hb).more hb.size
     replace hT := (RS.below hT hb).more hb.size
     replace s1 := s1.below hb s1.lt
     replace s2 := s2.below hb s2.lt
     clear hb
     obtain ⟨q, hq⟩ : ∃ q, fineB M m = q := ⟨_, rfl⟩
     rw [hq]
     cases q
     case false =>
       clear hq
       go_wp2_with fail
       refine (works_any _).mono ?_
       rintro e w7 ⟨rfl, hb⟩
       replace hC : Below n0 w w7 := hC.trans (hb.mono (by have := hC.size; omega))
       replace bx := bx.below hb bx.lt
       replace xx := xx.below hb xx.lt
       replace yy := yy.below hb yy.lt
       replace hX := (RS.below hX hb).more hb.size
       replace hY := (RS.below hY hb).more hb.size
       replace hT := (RS.below hT hb).more hb.size
       replace s1 := s1.below hb s1.lt
       replace s2 := s2.below hb s2.lt
       clear hb
       go_wp2_with fail
       exact bodyPost_ret (v := .bool true) (by simp [results, Try.results11, go_sem]) rfl ⟨rfl, by first | exact hC | (rw [hn0]; exact hC) | (with_reducible rw [hn0]; exact bel_of) | exact bel_of⟩
     have hm2 := HM0.out (fineB_ok hq)
     have HMA := Lib.hid hm2.1
     have HMB := Lib.hid hm2.2
     clear hq hm2
     simp only [Bool.not_true]
     have lbx := bx.lt
     have bxc0 := bx.cell 0
     have bxc1 := bx.cell 1
     simp at bxc0 bxc1
     have lxx := xx.lt
     have xxc0 := xx.cell 0
     have xxc1 := xx.cell 1
     simp at xxc0 xxc1
     have lyy := yy.lt
     have yyc0 := yy.cell 0
     have yyc1 := yy.cell 1
     simp at yyc0 yyc1
     have ls1 := s1.lt
     have s1c0 := s1.cell 0
     have s1c1 := s1.cell 1
     simp at s1c0 s1c1
     have ls2 := s2.lt
     have s2c0 := s2.cell 0
     have s2c1 := s2.cell 1
     simp at s2c0 s2c1
     go_wp2_with fail
     clear lbx bxc0 bxc1
     clear lxx xxc0 xxc1
     clear lyy yyc0 yyc1
     clear ls1 s1c0 s1c1
     clear ls2 s2c0 s2c1
     refine (Best_any M _ m _ hMl hY).mono ?_
     rintro e w7 ⟨u_c, rfl, hown, hb⟩
     replace hC : Below n0 w w7 := hC.trans (hb.mono (by have := hC.size; omega))
     replace bx := bx.below hb bx.lt
     replace xx := xx.below hb xx.lt
     replace yy := yy.below hb yy.lt
     replace hX := (RS.below hX hb).more hb.size
     replace hY := (RS.below hY hb).more hb.size
     replace hT := (RS.below hT hb).more hb.size
     replace s1 := s1.below hb s1.lt
     replace s2 := s2.below hb s2.lt
     clear hb
     rw [HMA.out]
     clear hown
     have lbx := bx.lt
     have bxc0 := bx.cell 0
     have bxc1 := bx.cell 1
     simp at bxc0 bxc1
     have lxx := xx.lt
     have xxc0 := xx.cell 0
     have xxc1 := xx.cell 1
     simp at xxc0 xxc1
     have lyy := yy.lt
     have yyc0 := yy.cell 0
     have yyc1 := yy.cell 1
     simp at yyc0 yyc1
     have ls1 := s1.lt
     have s1c0 := s1.cell 0
     have s1c1 := s1.cell 1
     simp at s1c0 s1c1
     have ls2 := s2.lt
     have s2c0 := s2.cell 0
     have s2c1 := s2.cell 1
     simp at s2c0 s2c1
     go_wp2_with fail
     clear lbx bxc0 bxc1
     clear lxx xxc0 xxc1
     clear lyy yyc0 yyc1
     clear ls1 s1c0 s1c1
     clear ls2 s2c0 s2c1
     refine (Span_any M _ m _ _ hMl hY).mono ?_
     rintro e w8 ⟨rfl, hb⟩
     replace hC : Below n0 w w8 := hC.trans (hb.mono (by have := hC.size; omega))
     replace bx := bx.below hb bx.lt
     replace xx := xx.below hb xx.lt
     replace yy := yy.below hb yy.lt
     replace hX := (RS.below hX hb).more hb.size
     replace hY := (RS.below hY hb).more hb.size
     replace hT := (RS.below hT hb).more hb.size
     replace s1 := s1.below hb s1.lt
     replace s2 := s2.below hb s2.lt
     clear hb
     rw [HMB.out]
     have lbx := bx.lt
     have bxc0 := bx.cell 0
     have bxc1 := bx.cell 1
     simp at bxc0 bxc1
     have lxx := xx.lt
     have xxc0 := xx.cell 0
     have xxc1 := xx.cell 1
     simp at xxc0 xxc1
     have lyy := yy.lt
     have yyc0 := yy.cell 0
     have yyc1 := yy.cell 1
     simp at yyc0 yyc1
     have ls1 := s1.lt
     have s1c0 := s1.cell 0
     have s1c1 := s1.cell 1
     simp at s1c0 s1c1
     have ls2 := s2.lt
     have s2c0 := s2.cell 0
     have s2c1 := s2.cell 1
     simp at s2c0 s2c1
     go_upto_region 21 with fail
     clear lbx bxc0 bxc1
     clear lxx xxc0 xxc1
     clear lyy yyc0 yyc1
     clear ls1 s1c0 s1c1
     clear ls2 s2c0 s2c1
     obtain ⟨m3, hm3⟩ : ∃ n, w8.heap.size = n := ⟨_, rfl⟩
     try rw [hm3]
     have hqs3 : n0 ≤ m3 := by have := hC.size; omega
     have s3 : BK (w8.alloc (.cells #[.int .i64 sa, .int .i64 sb] 42)) (m3) #[.int .i64 sa, .int .i64 sb] 42 := BK.new' _ _ _ (m3) hm3
     have hss3 : (w8.alloc (.cells #[.int .i64 sa, .int .i64 sb] 42)).heap.size = m3 + 1 := by simp [hm3]
     replace hC : Below n0 w (w8.alloc (.cells #[.int .i64 sa, .int .i64 sb] 42)) := Below.alloc hC (by have := hC.size; omega) _
     replace bx := bx.alloc (.cells #[.int .i64 sa, .int .i64 sb] 42)
     replace xx := xx.alloc (.cells #[.int .i64 sa, .int .i64 sb] 42)
     replace yy := yy.alloc (.cells #[.int .i64 sa, .int .i64 sb] 42)
     replace hX := (RS.below hX (w' := (w8.alloc (.cells #[.int .i64 sa, .int .i64 sb] 42))) (Below.alloc (Below.refl _ _) (Nat.le_refl _) _)).more (B' := (w8.alloc (.cells #[.int .i64 sa, .int .i64 sb] 42)).heap.size) (by simp)
     replace hY := (RS.below hY (w' := (w8.alloc (.cells #[.int .i64 sa, .int .i64 sb] 42))) (Below.alloc (Below.refl _ _) (Nat.le_refl _) _)).more (B' := (w8.alloc (.cells #[.int .i64 sa, .int .i64 sb] 42)).heap.size) (by simp)
     replace hT := (RS.below hT (w' := (w8.alloc (.cells #[.int .i64 sa, .int .i64 sb] 42))) (Below.alloc (Below.refl _ _) (Nat.le_refl _) _)).more (B' := (w8.alloc (.cells #[.int .i64 sa, .int .i64 sb] 42)).heap.size) (by simp)
     replace s1 := s1.alloc (.cells #[.int .i64 sa, .int .i64 sb] 42)
     replace s2 := s2.alloc (.cells #[.int .i64 sa, .int .i64 sb] 42)
     generalize (w8.alloc (.cells #[.int .i64 sa, .int .i64 sb] 42)) = Ws3 at *
     clear hm3
     clear hss3
     have lbx := bx.lt
     have bxc0 := bx.cell 0
     have bxc1 := bx.cell 1
     simp at bxc0 bxc1
     have lxx := xx.lt
     have xxc0 := xx.cell 0
     have xxc1 := xx.cell 1
     simp at xxc0 xxc1
     have lyy := yy.lt
     have yyc0 := yy.cell 0
     have yyc1 := yy.cell 1
     simp at yyc0 yyc1
     have ls1 := s1.lt
     have s1c0 := s1.cell 0
     have s1c1 := s1.cell 1
     simp at s1c0 s1c1
     have ls2 := s2.lt
     have s2c0 := s2.cell 0
     have s2c1 := s2.cell 1
     simp at s2c0 s2c1
     have ls3 := s3.lt
     have s3c0 := s3.cell 0
     have s3c1 := s3.cell 1
     simp at s3c0 s3c1
     go_wp2_with fail
     clear lbx bxc0 bxc1
     clear lxx xxc0 xxc1
     clear lyy yyc0 yyc1
     clear ls1 s1c0 s1c1
     clear ls2 s2c0 s2c1
     clear ls3 s3c0 s3c1
     refine (works_any _).mono ?_
     rintro e w9 ⟨rfl, hb⟩
     replace hC : Below n0 w w9 := hC.trans (hb.mono (by have := hC.size; omega))
     replace bx := bx.below hb bx.lt
     replace xx := xx.below hb xx.lt
     replace yy := yy.below hb yy.lt
     replace hX := (RS.below hX hb).more hb.size
     replace hY := (RS.below hY hb).more hb.size
     replace hT := (RS.below hT hb).more hb.size
     replace s1 := s1.below hb s1.lt
     replace s2 := s2.below hb s2.lt
     replace s3 := s3.below hb s3.lt
     clear hb
     go_wp2_with fail
     exact bodyPost_ret (v := .bool true) (by simp [results, Try.results11, go_sem]) rfl ⟨rfl, by first | exact hC | (rw [hn0]; exact hC) | (with_reducible rw [hn0]; exact bel_of) | exact bel_of⟩
    ·skip
     have lbx := bx.lt
     have bxc0 := bx.cell 0
     have bxc1 := bx.cell 1
     simp at bxc0 bxc1
     have lxx := xx.lt
     have xxc0 := xx.cell 0
     have xxc1 := xx.cell 1
     simp at xxc0 xxc1
     have lyy := yy.lt
     have yyc0 := yy.cell 0
     have yyc1 := yy.cell 1
     simp at yyc0 yyc1
     go_wp2_with fail
     clear lbx bxc0 bxc1
     clear lxx xxc0 xxc1
     clear lyy yyc0 yyc1
     try clear hlt'
     refine (Best_any l _ m _ hlk hT).mono ?_
     rintro e w2 ⟨u_a, rfl, hown, hb⟩
     replace hC : Below n0 w w2 := hC.trans (hb.mono (by have := hC.size; omega))
     replace bx := bx.below hb bx.lt
     replace xx := xx.below hb xx.lt
     replace yy := yy.below hb yy.lt
     replace hX := (RS.below hX hb).more hb.size
     replace hY := (RS.below hY hb).more hb.size
     replace hT := (RS.below hT hb).more hb.size
     clear hb
     rw [HB1.out]
     clear hown
     have lbx := bx.lt
     have bxc0 := bx.cell 0
     have bxc1 := bx.cell 1
     simp at bxc0 bxc1
     have lxx := xx.lt
     have xxc0 := xx.cell 0
     have xxc1 := xx.cell 1
     simp at xxc0 xxc1
     have lyy := yy.lt
     have yyc0 := yy.cell 0
     have yyc1 := yy.cell 1
     simp at yyc0 yyc1
     go_wp2_with fail
     clear lbx bxc0 bxc1
     clear lxx xxc0 xxc1
     clear lyy yyc0 yyc1
     refine (Best_any N _ m _ hNl hX).mono ?_
     rintro e w3 ⟨u_b, rfl, hown, hb⟩
     replace hC : Below n0 w w3 := hC.trans (hb.mono (by have := hC.size; omega))
     replace bx := bx.below hb bx.lt
     replace xx := xx.below hb xx.lt
     replace yy := yy.below hb yy.lt
     replace hX := (RS.below hX hb).more hb.size
     replace hY := (RS.below hY hb).more hb.size
     replace hT := (RS.below hT hb).more hb.size
     clear hb
     rw [HB2.out]
     clear hown
     have lbx := bx.lt
     have bxc0 := bx.cell 0
     have bxc1 := bx.cell 1
     simp at bxc0 bxc1
     have lxx := xx.lt
     have xxc0 := xx.cell 0
     have xxc1 := xx.cell 1
     simp at xxc0 xxc1
     have lyy := yy.lt
     have yyc0 := yy.cell 0
     have yyc1 := yy.cell 1
     simp at yyc0 yyc1
     go_wp2_with fail
     clear lbx bxc0 bxc1
     clear lxx xxc0 xxc1
     clear lyy yyc0 yyc1
     refine (Span_any l _ m _ _ hlk hT).mono ?_
     rintro e w4 ⟨rfl, hb⟩
     replace hC : Below n0 w w4 := hC.trans (hb.mono (by have := hC.size; omega))
     replace bx := bx.below hb bx.lt
     replace xx := xx.below hb xx.lt
     replace yy := yy.below hb yy.lt
     replace hX := (RS.below hX hb).more hb.size
     replace hY := (RS.below hY hb).more hb.size
     replace hT := (RS.below hT hb).more hb.size
     clear hb
     rw [HS1.out]
     have lbx := bx.lt
     have bxc0 := bx.cell 0
     have bxc1 := bx.cell 1
     simp at bxc0 bxc1
     have lxx := xx.lt
     have xxc0 := xx.cell 0
     have xxc1 := xx.cell 1
     simp at xxc0 xxc1
     have lyy := yy.lt
     have yyc0 := yy.cell 0
     have yyc1 := yy.cell 1
     simp at yyc0 yyc1
     go_upto_region 14 with fail
     clear lbx bxc0 bxc1
     clear lxx xxc0 xxc1
     clear lyy yyc0 yyc1
     obtain ⟨m4, hm4⟩ : ∃ n, w4.heap.size = n := ⟨_, rfl⟩
     try rw [hm4]
     have hqs1 : n0 ≤ m4 := by have := hC.size; omega
     have s1 : BK (w4.alloc (.cells #[.int .i64 sa, .int .i64 sb] 42)) (m4) #[.int .i64 sa, .int .i64 sb] 42 := BK.new' _ _ _ (m4) hm4
     have hss1 : (w4.alloc (.cells #[.int .i64 sa, .int .i64 sb] 42)).heap.size = m4 + 1 := by simp [hm4]
     replace hC : Below n0 w (w4.alloc (.cells #[.int .i64 sa, .int .i64 sb] 42)) := Below.alloc hC (by have := hC.size; omega) _
     replace bx := bx.alloc (.cells #[.int .i64 sa, .int .i64 sb] 42)
     replace xx := xx.alloc (.cells #[.int .i64 sa, .int .i64 sb] 42)
     replace yy := yy.alloc (.cells #[.int .i64 sa, .int .i64 sb] 42)
     replace hX := (RS.below hX (w' := (w4.alloc (.cells #[.int .i64 sa, .int .i64 sb] 42))) (Below.alloc (Below.refl _ _) (Nat.le_refl _) _)).more (B' := (w4.alloc (.cells #[.int .i64 sa, .int .i64 sb] 42)).heap.size) (by simp)
     replace hY := (RS.below hY (w' := (w4.alloc (.cells #[.int .i64 sa, .int .i64 sb] 42))) (Below.alloc (Below.refl _ _) (Nat.le_refl _) _)).more (B' := (w4.alloc (.cells #[.int .i64 sa, .int .i64 sb] 42)).heap.size) (by simp)
     replace hT := (RS.below hT (w' := (w4.alloc (.cells #[.int .i64 sa, .int .i64 sb] 42))) (Below.alloc (Below.refl _ _) (Nat.le_refl _) _)).more (B' := (w4.alloc (.cells #[.int .i64 sa, .int .i64 sb] 42)).heap.size) (by simp)
     generalize (w4.alloc (.cells #[.int .i64 sa, .int .i64 sb] 42)) = Ws1 at *
     clear hm4
     clear hss1
     have lbx := bx.lt
     have bxc0 := bx.cell 0
     have bxc1 := bx.cell 1
     simp at bxc0 bxc1
     have lxx := xx.lt
     have xxc0 := xx.cell 0
     have xxc1 := xx.cell 1
     simp at xxc0 xxc1
     have lyy := yy.lt
     have yyc0 := yy.cell 0
     have yyc1 := yy.cell 1
     simp at yyc0 yyc1
     have ls1 := s1.lt
     have s1c0 := s1.cell 0
     have s1c1 := s1.cell 1
     simp at s1c0 s1c1
     go_wp2_with fail
     clear lbx bxc0 bxc1
     clear lxx xxc0 xxc1
     clear lyy yyc0 yyc1
     clear ls1 s1c0 s1c1
     refine (Span_any N _ m _ _ hNl hX).mono ?_
     rintro e w5 ⟨rfl, hb⟩
     replace hC : Below n0 w w5 := hC.trans (hb.mono (by have := hC.size; omega))
     replace bx := bx.below hb bx.lt
     replace xx := xx.below hb xx.lt
     replace yy := yy.below hb yy.lt
     replace hX := (RS.below hX hb).more hb.size
     replace hY := (RS.below hY hb).more hb.size
     replace hT := (RS.below hT hb).more hb.size
     replace s1 := s1.below hb s1.lt
     clear hb
     rw [HS2.out]
     have lbx := bx.lt
     have bxc0 := bx.cell 0
     have bxc1 := bx.cell 1
     simp at bxc0 bxc1
     have lxx := xx.lt
     have xxc0 := xx.cell 0
     have xxc1 := xx.cell 1
     simp at xxc0 xxc1
     have lyy := yy.lt
     have yyc0 := yy.cell 0
     have yyc1 := yy.cell 1
     simp at yyc0 yyc1
     have ls1 := s1.lt
     have s1c0 := s1.cell 0
     have s1c1 := s1.cell 1
     simp at s1c0 s1c1
     go_upto_region 15 with fail
     clear lbx bxc0 bxc1
     clear lxx xxc0 xxc1
     clear lyy yyc0 yyc1
     clear ls1 s1c0 s1c1
     obtain ⟨m5, hm5⟩ : ∃ n, w5.heap.size = n := ⟨_, rfl⟩
     try rw [hm5]
     have hqs2 : n0 ≤ m5 := by have := hC.size; omega
     have s2 : BK (w5.alloc (.cells #[.int .i64 (-sb), .int .i64 (-sa)] 42)) (m5) #[.int .i64 (-sb), .int .i64 (-sa)] 42 := BK.new' _ _ _ (m5) hm5
     have hss2 : (w5.alloc (.cells #[.int .i64 (-sb), .int .i64 (-sa)] 42)).heap.size = m5 + 1 := by simp [hm5]
     replace hC : Below n0 w (w5.alloc (.cells #[.int .i64 (-sb), .int .i64 (-sa)] 42)) := Below.alloc hC (by have := hC.size; omega) _
     replace bx := bx.alloc (.cells #[.int .i64 (-sb), .int .i64 (-sa)] 42)
     replace xx := xx.alloc (.cells #[.int .i64 (-sb), .int .i64 (-sa)] 42)
     replace yy := yy.alloc (.cells #[.int .i64 (-sb), .int .i64 (-sa)] 42)
     replace hX := (RS.below hX (w' := (w5.alloc (.cells #[.int .i64 (-sb), .int .i64 (-sa)] 42))) (Below.alloc (Below.refl _ _) (Nat.le_refl _) _)).more (B' := (w5.alloc (.cells #[.int .i64 (-sb), .int .i64 (-sa)] 42)).heap.size) (by simp)
     replace hY := (RS.below hY (w' := (w5.alloc (.cells #[.int .i64 (-sb), .int .i64 (-sa)] 42))) (Below.alloc (Below.refl _ _) (Nat.le_refl _) _)).more (B' := (w5.alloc (.cells #[.int .i64 (-sb), .int .i64 (-sa)] 42)).heap.size) (by simp)
     replace hT := (RS.below hT (w' := (w5.alloc (.cells #[.int .i64 (-sb), .int .i64 (-sa)] 42))) (Below.alloc (Below.refl _ _) (Nat.le_refl _) _)).more (B' := (w5.alloc (.cells #[.int .i64 (-sb), .int .i64 (-sa)] 42)).heap.size) (by simp)
     replace s1 := s1.alloc (.cells #[.int .i64 (-sb), .int .i64 (-sa)] 42)
     generalize (w5.alloc (.cells #[.int .i64 (-sb), .int .i64 (-sa)] 42)) = Ws2 at *
     clear hm5
     clear hss2
     have lbx := bx.lt
     have bxc0 := bx.cell 0
     have bxc1 := bx.cell 1
     simp at bxc0 bxc1
     have lxx := xx.lt
     have xxc0 := xx.cell 0
     have xxc1 := xx.cell 1
     simp at xxc0 xxc1
     have lyy := yy.lt
     have yyc0 := yy.cell 0
     have yyc1 := yy.cell 1
     simp at yyc0 yyc1
     have ls1 := s1.lt
     have s1c0 := s1.cell 0
     have s1c1 := s1.cell 1
     simp at s1c0 s1c1
     have ls2 := s2.lt
     have s2c0 := s2.cell 0
     have s2c1 := s2.cell 1
     simp at s2c0 s2c1
     refine wp_region_noPanic (plain_any [0, 1, 2, 3, 4, 5, 6, 7, 8, 9, 10, 11, 12, 13, 14, 15, 16, 17, 18, 19, 20, 21, 22, 23, 24, 25, 26, 27, 28, 29, 30, 31, 32, 33, 35, 36] (Below Ws2.heap.size Ws2) mixed ?_)
     refine any_tk 0 ?_
     have d0z : Below Ws2.heap.size Ws2 Ws2.drew := by exact bel_of
     refine any_tk 1 ?_
     refine any_tk 2 ?_
     refine any_tk 3 ?_
     refine any_tk 4 ?_
     refine any_tk 5 ?_
     refine any_tk 6 ?_
     refine any_tk 7 ?_
     refine any_tk 8 ?_
     refine any_tk 9 ?_
     refine any_tk 10 ?_
     refine any_tk 11 ?_
     refine any_tk 12 ?_
     refine any_tk 13 ?_
     refine any_tk 14 ?_
     refine any_tk 15 ?_
     refine any_tk 16 ?_
     refine any_tk 17 ?_
     refine any_tk 18 ?_
     refine any_tk 19 ?_
     refine any_tk 20 ?_
     refine any_tk 21 ?_
     refine any_tk 22 ?_
     refine any_tk 23 ?_
     refine any_tk 24 ?_
     refine any_tk 25 ?_
     refine any_tk 26 ?_
     refine any_tk 27 ?_
     refine any_tk 28 ?_
     refine any_tk 29 ?_
     refine any_tk 30 ?_
     refine any_tk 31 ?_
     refine any_tk 32 ?_
     refine any_tk 33 ?_
     have qz1 := d0z.size
     refine any_run1 (i := 34) (by kernel_rfl) (by rfl) (by kernel_rfl) ?_
     intro K hK
     go_wp2_with fail
     refine (rg_any (-sb) (-sa) _).mono ?_
     rintro e vz1 ⟨rfl, hb⟩
     have ez1 : Below Ws2.heap.size Ws2 vz1 := d0z.trans (hb.mono d0z.size)
     clear hb
     refine hK _ _ (fun _ => ez1) ?_
     clear hK K
     refine any_tk 35 ?_
     refine any_tk 36 ?_
     refine any_done (by kernel_rfl) (NoPanic.normal ?_)
     have hb := ez1
     replace hC : Below n0 w vz1 := hC.trans (hb.mono (by have := hC.size; omega))
     replace bx := bx.below hb bx.lt
     replace xx := xx.below hb xx.lt
     replace yy := yy.below hb yy.lt
     replace hX := (RS.below hX hb).more hb.size
     replace hY := (RS.below hY hb).more hb.size
     replace hT := (RS.below hT hb).more hb.size
     replace s1 := s1.below hb s1.lt
     replace s2 := s2.below hb s2.lt
     clear hb
     clear lbx bxc0 bxc1
     clear lxx xxc0 xxc1
     clear lyy yyc0 yyc1
     clear ls1 s1c0 s1c1
     clear ls2 s2c0 s2c1
     have lbx := bx.lt
     have bxc0 := bx.cell 0
     have bxc1 := bx.cell 1
     simp at bxc0 bxc1
     have lxx := xx.lt
     have xxc0 := xx.cell 0
     have xxc1 := xx.cell 1
     simp at xxc0 xxc1
     have lyy := yy.lt
     have yyc0 := yy.cell 0
     have yyc1 := yy.cell 1
     simp at yyc0 yyc1
     have ls1 := s1.lt
     have s1c0 := s1.cell 0
     have s1c1 := s1.cell 1
     simp at s1c0 s1c1
     have ls2 := s2.lt
     have s2c0 := s2.cell 0
     have s2c1 := s2.cell 1
     simp at s2c0 s2c1
     go_wp2_with fail
     clear lbx bxc0 bxc1
     clear lxx xxc0 xxc1
     clear lyy yyc0 yyc1
     clear ls1 s1c0 s1c1
     clear ls2 s2c0 s2c1
     refine (fine_any M _ m _ hMM hY).mono ?_
     rintro e w6 ⟨rfl, hb⟩
     replace hC : Below n0 w w6 := hC.trans (hb.mono (by have := hC.size; omega))
     replace bx := bx.below hb bx.lt
     replace xx := xx.below hb xx.lt
     replace yy := yy.below hb yy.lt
     replace hX := (RS.below hX hb).more hb.size
     replace hY := (RS.below hY hb).more hb.size
     replace hT := (RS.below hT hb).more hb.size
     replace s1 := s1.below hb s1.lt
     replace s2 := s2.below hb s2.lt
     clear hb
     obtain ⟨q, hq⟩ : ∃ q, fineB M m = q := ⟨_, rfl⟩
     rw [hq]
     cases q
     case false =>
       clear hq
       go_wp2_with fail
       refine (works_any _).mono ?_
       rintro e w7 ⟨rfl, hb⟩
       replace hC : Below n0 w w7 := hC.trans (hb.mono (by have := hC.size; omega))
       replace bx := bx.below hb bx.lt
       replace xx := xx.below hb xx.lt
       replace yy := yy.below hb yy.lt
       replace hX := (RS.below hX hb).more hb.size
       replace hY := (RS.below hY hb).more hb.size
       replace hT := (RS.below hT hb).more hb.size
       replace s1 := s1.below hb s1.lt
       replace s2 := s2.below hb s2.lt
       clear hb
       go_wp2_with fail
       exact bodyPost_ret (v := .bool true) (by simp [results, Try.results11, go_sem]) rfl ⟨rfl, by first | exact hC | (rw [hn0]; exact hC) | (with_reducible rw [hn0]; exact bel_of) | exact bel_of⟩
     have hm2 := HM0.out (fineB_ok hq)
     have HMA := Lib.hid hm2.1
     have HMB := Lib.hid hm2.2
     clear hq hm2
     simp only [Bool.not_true]
     have lbx := bx.lt
     have bxc0 := bx.cell 0
     have bxc1 := bx.cell 1
     simp at bxc0 bxc1
     have lxx := xx.lt
     have xxc0 := xx.cell 0
     have xxc1 := xx.cell 1
     simp at xxc0 xxc1
     have lyy := yy.lt
     have yyc0 := yy.cell 0
     have yyc1 := yy.cell 1
     simp at yyc0 yyc1
     have ls1 := s1.lt
     have s1c0 := s1.cell 0
     have s1c1 := s1.cell 1
     simp at s1c0 s1c1
     have ls2 := s2.lt
     have s2c0 := s2.cell 0
     have s2c1 := s2.cell 1
     simp at s2c0 s2c1
     go_wp2_with fail
     clear lbx bxc0 bxc1
     clear lxx xxc0 xxc1
     clear lyy yyc0 yyc1
     clear ls1 s1c0 s1c1
     clear ls2 s2c0 s2c1
     refine (Best_any M _ m _ hMl hY).mono ?_
     rintro e w7 ⟨u_c, rfl, hown, hb⟩
     replace hC : Below n0 w w7 := hC.trans (hb.mono (by have := hC.size; omega))
     replace bx := bx.below hb bx.lt
     replace xx := xx.below hb xx.lt
     replace yy := yy.below hb yy.lt
     replace hX := (RS.below hX hb).more hb.size
     replace hY := (RS.below hY hb).more hb.size
     replace hT := (RS.below hT hb).more hb.size
     replace s1 := s1.below hb s1.lt
     replace s2 := s2.below hb s2.lt
     clear hb
     rw [HMA.out]
     clear hown
     have lbx := bx.lt
     have bxc0 := bx.cell 0
     have bxc1 := bx.cell 1
     simp at bxc0 bxc1
     have lxx := xx.lt
     have xxc0 := xx.cell 0
     have xxc1 := xx.cell 1
     simp at xxc0 xxc1
     have lyy := yy.lt
     have yyc0 := yy.cell 0
     have yyc1 := yy.cell 1
     simp at yyc0 yyc1
     have ls1 := s1.lt
     have s1c0 := s1.cell 0
     have s1c1 := s1.cell 1
     simp at s1c0 s1c1
     have ls2 := s2.lt
     have s2c0 := s2.cell 0
     have s2c1 := s2.cell 1
     simp at s2c0 s2c1
     go_wp2_with fail
     clear lbx bxc0 bxc1
     clear lxx xxc0 xxc1
     clear lyy yyc0 yyc1
     clear ls1 s1c0 s1c1
     clear ls2 s2c0 s2c1
     refine (Span_any M _ m _ _ hMl hY).mono ?_
     rintro e w8 ⟨rfl, hb⟩
     replace hC : Below n0 w w8 := hC.trans (hb.mono (by have := hC.size; omega))
     replace bx := bx.below hb bx.lt
     replace xx := xx.below hb xx.lt
     replace yy := yy.below hb yy.lt
     replace hX := (RS.below hX hb).more hb.size
     replace hY := (RS.below hY hb).more hb.size
     replace hT := (RS.below hT hb).more hb.size
     replace s1 := s1.below hb s1.lt
     replace s2 := s2.below hb s2.lt
     clear hb
     rw [HMB.out]
     have lbx := bx.lt
     have bxc0 := bx.cell 0
     have bxc1 := bx.cell 1
     simp at bxc0 bxc1
     have lxx := xx.lt
     have xxc0 := xx.cell 0
     have xxc1 := xx.cell 1
     simp at xxc0 xxc1
     have lyy := yy.lt
     have yyc0 := yy.cell 0
     have yyc1 := yy.cell 1
     simp at yyc0 yyc1
     have ls1 := s1.lt
     have s1c0 := s1.cell 0
     have s1c1 := s1.cell 1
     simp at s1c0 s1c1
     have ls2 := s2.lt
     have s2c0 := s2.cell 0
     have s2c1 := s2.cell 1
     simp at s2c0 s2c1
     go_upto_region 21 with fail
     clear lbx bxc0 bxc1
     clear lxx xxc0 xxc1
     clear lyy yyc0 yyc1
     clear ls1 s1c0 s1c1
     clear ls2 s2c0 s2c1
     obtain ⟨m6, hm6⟩ : ∃ n, w8.heap.size = n := ⟨_, rfl⟩
     try rw [hm6]
     have hqs3 : n0 ≤ m6 := by have := hC.size; omega
     have s3 : BK (w8.alloc (.cells #[.int .i64 sa, .int .i64 sb] 42)) (m6) #[.int .i64 sa, .int .i64 sb] 42 := BK.new' _ _ _ (m6) hm6
     have hss3 : (w8.alloc (.cells #[.int .i64 sa, .int .i64 sb] 42)).heap.size = m6 + 1 := by simp [hm6]
     replace hC : Below n0 w (w8.alloc (.cells #[.int .i64 sa, .int .i64 sb] 42)) := Below.alloc hC (by have := hC.size; omega) _
     replace bx := bx.alloc (.cells #[.int .i64 sa, .int .i64 sb] 42)
     replace xx := xx.alloc (.cells #[.int .i64 sa, .int .i64 sb] 42)
     replace yy := yy.alloc (.cells #[.int .i64 sa, .int .i64 sb] 42)
     replace hX := (RS.below hX (w' := (w8.alloc (.cells #[.int .i64 sa, .int .i64 sb] 42))) (Below.alloc (Below.refl _ _) (Nat.le_refl _) _)).more (B' := (w8.alloc (.cells #[.int .i64 sa, .int .i64 sb] 42)).heap.size) (by simp)
     replace hY := (RS.below hY (w' := (w8.alloc (.cells #[.int .i64 sa, .int .i64 sb] 42))) (Below.alloc (Below.refl _ _) (Nat.le_refl _) _)).more (B' := (w8.alloc (.cells #[.int .i64 sa, .int .i64 sb] 42)).heap.size) (by simp)
     replace hT := (RS.below hT (w' := (w8.alloc (.cells #[.int .i64 sa, .int .i64 sb] 42))) (Below.alloc (Below.refl _ _) (Nat.le_refl _) _)).more (B' := (w8.alloc (.cells #[.int .i64 sa, .int .i64 sb] 42)).heap.size) (by simp)
     replace s1 := s1.alloc (.cells #[.int .i64 sa, .int .i64 sb] 42)
     replace s2 := s2.alloc (.cells #[.int .i64 sa, .int .i64 sb] 42)
     generalize (w8.alloc (.cells #[.int .i64 sa, .int .i64 sb] 42)) = Ws3 at *
     clear hm6
     clear hss3
     have lbx := bx.lt
     have bxc0 := bx.cell 0
     have bxc1 := bx.cell 1
     simp at bxc0 bxc1
     have lxx := xx.lt
     have xxc0 := xx.cell 0
     have xxc1 := xx.cell 1
     simp at xxc0 xxc1
     have lyy := yy.lt
     have yyc0 := yy.cell 0
     have yyc1 := yy.cell 1
     simp at yyc0 yyc1
     have ls1 := s1.lt
     have s1c0 := s1.cell 0
     have s1c1 := s1.cell 1
     simp at s1c0 s1c1
     have ls2 := s2.lt
     have s2c0 := s2.cell 0
     have s2c1 := s2.cell 1
     simp at s2c0 s2c1
     have ls3 := s3.lt
     have s3c0 := s3.cell 0
     have s3c1 := s3.cell 1
     simp at s3c0 s3c1
     go_wp2_with fail
     clear lbx bxc0 bxc1
     clear lxx xxc0 xxc1
     clear lyy yyc0 yyc1
     clear ls1 s1c0 s1c1
     clear ls2 s2c0 s2c1
     clear ls3 s3c0 s3c1
     refine (works_any _).mono ?_
     rintro e w9 ⟨rfl, hb⟩
     replace hC : Below n0 w w9 := hC.trans (hb.mono (by have := hC.size; omega))
     replace bx := bx.below hb bx.lt
     replace xx := xx.below hb xx.lt
     replace yy := yy.below hb yy.lt
     replace hX := (RS.below hX hb).more hb.size
     replace hY := (RS.below hY hb).more hb.size
     replace hT := (RS.below hT hb).more hb.size
     replace s1 := s1.below hb s1.lt
     replace s2 := s2.below hb s2.lt
     replace s3 := s3.below hb s3.lt
     clear hb
     go_wp2_with fail
     exact bodyPost_ret (v := .bool true) (by simp [results, Try.results11, go_sem]) rfl ⟨rfl, by first | exact hC | (rw [hn0]; exact hC) | (with_reducible rw [hn0]; exact bel_of) | exact bel_of⟩
end Go.Proofs.Ytgbegdjakadbbaa

namespace Go.Proofs.Ytgbegdjakadbbaa.warpTurned
open Go.ChangeShapes Go.WideShapes Go.ChangeAt Go.RowKit Go.Deep

set_option maxRecDepth 100000 in
theorem lifted (os : Os) (started : os.Started) (H : Type) (enc : TypeId × Value → H) :
    ReturnsInHanded {} Try.checked os 11 .any (Rows.warpTurnedSpec.pre6 enc Try.prog Try.f11 Rows.warpTurnedRow.domain false) (Rows.warpTurnedSpec.post enc Try.prog Try.f11 false true false false) := by
  refine returnsInHanded_of_change (C := Try.checked) own started (by kernel_rfl) Try.func11
    (ChangeSpec.witness6 (enc := enc) (C := Try.checked) false ⟨#[], #[.agg #[.slice none 0 0, .int .i64 0], .int .u8 0, .int .u8 0], []⟩ 8 (by kernel_rfl) (by kernel_rfl) (by kernel_rfl) (by kernel_rfl)) ?_
  intro W base args ds gs before hval0 hW hcnd _
  have hval : ∀ (j : Nat) t v, Try.f11.params[j]? = some t → args[j]? = some v → Value.okWide Try.prog W .any base t v := hval0
  have hW2 : DataW.Whole enc Try.prog Try.f11.params.toList Rows.warpTurnedSpec.vars false W args.toList ds gs before := hW
  obtain ⟨p, q, hA0, hV, rfl, hfz, hnd⟩ := hW
  have hA : DataW.TrodAll enc Try.prog W 0 (fun _ => true) true Try.f11.params.toList args.toList ds p := hA0
  rw [Try.params11] at hA hval
  obtain ⟨v0, vs0, d0, ds0, p0, q0, hargs, rfl, rfl, h0, r0⟩ := trodAll_cons hA
  obtain ⟨v1, vs1, d1, ds1, p1, q1, rfl, rfl, rfl, h1, r1⟩ := trodAll_cons r0
  obtain ⟨v2, vs2, d2, ds2, p2, q2, rfl, rfl, rfl, h2, r2⟩ := trodAll_cons r1
  obtain ⟨rfl, rfl, rfl⟩ := trodAll_nil r2
  obtain rfl : args = #[v0, v1, v2] := by cases args; simp_all
  obtain ⟨rfl, rfl⟩ := trodVars_none hV
  obtain ⟨vs0_, l0, m0, rfl, g0, k0, j0⟩ := open_blade (hval 0 24 v0 rfl rfl) h0
  obtain ⟨x1, rfl, g1⟩ := open_u8 (hval 1 5 v1 rfl rfl) h1
  obtain ⟨x2, rfl, g2⟩ := open_u8 (hval 2 5 v2 rfl rfl) h2
  refine (warpTurned_any (l := l0) (m := m0) (vs := vs0_) (hT := g0) (hlM := k0) (hmI := j0) (x1 := x1) (h1 := g1) (x2 := x2) (h2 := g2) (w := W)).mono fun e W' ⟨he, hg⟩ => ?_
  subst he
  exact ⟨_, rfl, law_done hW2 rfl rfl rfl (by rw [Try.params11]; decide +kernel) hg⟩

theorem over : Rows.warpTurnedRow.holds Try.pinned (OpenSpec.ofChange Rows.warpTurnedSpec) :=
  OpenClaim.holds_of_wide 11 Try.f11 rfl rfl rfl rfl rfl rfl rfl ⟨rfl, rfl, rfl, rfl, rfl⟩ rfl rfl rfl rfl rfl (by kernel_rfl) Try.func11 (by kernel_rfl)
    (of_decide_eq_true (by kernel_rfl)) (by unfold Func.isWrapper; first | (rw [if_pos (by decide +kernel)]; kernel_rfl) | (rw [if_neg (by decide +kernel)]; exact ⟨rfl, rfl⟩))
    (fun os started H enc _ => lifted os started H enc)

theorem proved : Rows.WarpTurnedSaid :=
  over
end Go.Proofs.Ytgbegdjakadbbaa.warpTurned
namespace Go.Proofs.Ytgbegdjakadbbaa
theorem warpTurned_proved : Rows.WarpTurnedSaid := warpTurned.proved
#print axioms warpTurned_proved
end Go.Proofs.Ytgbegdjakadbbaa
