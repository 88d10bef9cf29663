/- Lazy blows, plain; a list of stations that grows. Spans, plain: what they say; of a turned blade, of one as many times as hard. Two lists of stations that grow side by side. A list of stations that is copied by append; one station of a list of its own is changed. Wider: plain; four operations that come in any order; a list of its own when another one is copied. WarpWider: the walk. A blade that asks no more costs no more: a wider tube, more blows, a softer station, without its last station; for every blade and numbers. -/
import Derived.Test.YtgbegdjakadbbaaP27
import Derived.Test.YtgbegdjakadbbaaP18
import Derived.Test.YtgbegdjakadbbaaP14
import Derived.Test.YtgbegdjakadbbaaP3
import Derived.Test.YtgbegdjakadbbaaP16
import Derived.Test.YtgbegdjakadbbaaRows
import Derived.Test.YtgbegdjakadbbaaP26
set_option linter.all false
set_option linter.unnecessarySimpa false
set_option linter.unusedSimpArgs false
set_option linter.unusedVariables false
set_option linter.unusedSectionVars false

set_option linter.all false
namespace Go.Proofs.Ytgbegdjakadbbaa
open Go.RowKit Vp

theorem app_st {base : Nat} {w0 w1 : World} {l : List St} {v : Value} (hown : OwnS w1 base v l) (x : St) (hn : l.length ≤ 100000) (hbase : base ≤ w1.heap.size) (hbw : Below base w0 w1) (B : Nat) (hB : w1.heap.size = B) :
    ∃ v' w2, (Builtin.append_ #[22, 22] 22 #[v, .slice (some ⟨B, 0, none⟩) 1 1]).run Try.prog (w1.alloc (.cells #[.int .i64 x.ang, .int .i64 x.lo, .int .i64 x.hi, .int .i64 x.hard] 60)) = .ok v' w2 ∧
      OwnS w2 base v' (l ++ [x]) ∧ Below base w0 w2 ∧ w1.heap.size ≤ w2.heap.size ∧ (∀ k cs t, BK w1 k cs t → t ≠ 60 → BK w2 k cs t) := by
  obtain ⟨g', cap', w2, h1, h2, h3, h4, h5⟩ := app_t st_info st_slice rfl (by decide) (by decide) hown (news := encS x) rfl (by intro u hu; simp [encS] at hu; rcases hu with rfl | rfl | rfl | rfl <;> rfl) hn hbase hbw 22 60 B hB
  exact ⟨_, w2, h1, by rw [ofG_app] at h2; unfold OwnS; simpa using h2, h3, h4, h5⟩
theorem ru_nil (k : IntKind) (w : World) (B : Nat) : RU k w B (.slice none 0 0) [] := ⟨none, 0, 0, 0, rfl, ⟨rfl, Nat.le_refl _⟩, fun h => absurd rfl h, fun j hj => by simp at hj⟩
/-- The station that is as hard as h. -/
def eqS (h : Int) (s : St) : St := ⟨s.ang, s.lo, s.hi, h⟩
theorem nthS_map {f : St → St} {l : List St} {k : Nat} (h : k < l.length) : nthS (l.map f) k = f (nthS l k) := by simp [nthS, h]
theorem take_map {f : St → St} {l : List St} {k : Nat} (h : k < l.length) : (l.take k).map f ++ [f (nthS l k)] = (l.take (k + 1)).map f := by
  rw [List.take_succ, List.map_append]
  simp [nthS, h]
theorem okB_eq {l : List St} {m : Int} (h : OkB l m) : OkB (l.map (eqS (nthS l 0).hard)) m := by
  have h1 := h.one
  have h0 := okS_at h.all (show 0 < l.length by omega)
  refine ⟨by simpa using h.one, by simpa using h.few, fun s hs => ?_, h.lo, h.hi⟩
  obtain ⟨x, hx, rfl⟩ := List.mem_map.1 hs
  have := okSB_iff.1 (h.all x hx)
  rw [okSB_iff]
  simp only [eqS]
  omega
theorem blwB_nil (m : Int) (t : Rg) (i : Nat) (f : Int) : blwB m t [] i f = lazD m t f := by unfold blwB wntB lazD; rw [if_pos (show ([] : List Nat).length = 0 from rfl)]
theorem bnd_succ (m : Int) (l : List St) (k : Nat) : bndB m l [] (k + 1) = bndB m l [] k + lazD m (tub (nthS l k)) (bndB m l [] k) := by rw [← blwB_nil (i := k)]; rfl
theorem drop_nthS {l : List St} {k : Nat} (h : k < l.length) : l.drop k = nthS l k :: l.drop (k + 1) := by rw [nthS_eq h]; exact List.drop_eq_getElem_cons h
theorem laz_drop (m : Int) (l : List St) : ∀ n k, l.length - k = n → k ≤ l.length → lazL m (l.drop k) (bndB m l [] k) = (List.range n).map fun i => blwB m (tub (nthS l (k + i))) [] (k + i) (bndB m l [] (k + i))
  | 0, k, h, h2 => by rw [List.drop_of_length_le (by omega)]; rfl
  | n + 1, k, h, h2 => by
    rw [drop_nthS (by omega), lazL, ← bnd_succ, laz_drop m l n (k + 1) (by omega) (by omega), List.range_succ_eq_map, List.map_cons, List.map_map, blwB_nil]
    refine congrArg (List.cons _) (List.map_congr_left fun i _ => ?_)
    rw [Function.comp, show k + 1 + i = k + Nat.succ i by omega]
theorem laz_blw (m : Int) (l : List St) : blwL m l [] l.length = lazL m l 0 := by
  have := laz_drop m l l.length 0 rfl (Nat.zero_le _)
  rw [List.drop_zero] at this
  simp only [Nat.zero_add] at this
  exact this.symm
theorem laz_fe {m : Int} (hm : 0 ≤ m) (l : List St) (h : ∀ j, j < l.length → (tub (nthS l j)).lo ≤ bndB m l [] (j + 1) ∧ bndB m l [] (j + 1) ≤ (tub (nthS l j)).hi) : ∀ n k, l.length - k = n → k ≤ l.length → Fe m (l.drop k) (bndB m l [] k) (lazL m (l.drop k) (bndB m l [] k))
  | 0, k, e, h2 => by rw [List.drop_of_length_le (by omega)]; trivial
  | n + 1, k, e, h2 => by
    have q := h k (by omega)
    rw [drop_nthS (by omega), lazL]
    refine ⟨?_, ?_, ?_⟩
    · unfold lazD; omega
    · rw [← bnd_succ]; exact q
    · rw [← bnd_succ]; exact laz_fe hm l h n (k + 1) (by omega) (by omega)
/-- Lazy blows that stay within the tubes are best if all stations are as hard. -/
theorem laz_all {m : Int} {l : List St} (hB : OkB l m) {h : Int} (hh : ∀ s ∈ l, s.hard = h) (hf : ∀ j, j < l.length → (tub (nthS l j)).lo ≤ bndB m l [] (j + 1) ∧ bndB m l [] (j + 1) ≤ (tub (nthS l j)).hi) :
    tgo m l 0 < never ∧ chkE l m (blwL m l [] l.length) = 0 ∧ chkV l m (blwL m l [] l.length) = tgo m l 0 := by
  have h1 := laz_fe hB.lo l hf l.length 0 rfl (Nat.zero_le _)
  rw [List.drop_zero] at h1
  change Fe m l 0 (lazL m l 0) at h1
  obtain ⟨h2, h3⟩ := lazy_best hB hh h1
  rw [laz_blw]
  have h4 := (chk_fe hB).2 h1
  exact ⟨h2, h4, by rw [chk_cost h4, h3]⟩
end Go.Proofs.Ytgbegdjakadbbaa

set_option linter.all false
namespace Go.Proofs.Ytgbegdjakadbbaa
open Go.RowKit Vp

theorem wk_part {l : List St} {k : Nat} (h : k < l.length) : Part l k (l.take k).reverse (nthS l k) (l.drop (k + 1)) := by rw [nthS_eq h]; exact part_of h
theorem fe_at {m : Int} : ∀ {l : List St} {f : Int} {ds : List Int}, Fe m l f ds → ∀ {k : Nat} {d : Int}, ds[k]? = some d → -m ≤ d ∧ d ≤ m
  | [], _, [], _, k, d, h => by simp at h
  | s :: l, f, e :: ds, hf, 0, d, h => by
    obtain rfl : e = d := by simpa using h
    exact hf.1
  | s :: l, f, e :: ds, hf, k + 1, d, h => fe_at hf.2.2 (k := k) (by simpa using h)
  | [], _, _ :: _, h, _, _, _ => h.elim
  | _ :: _, _, [], h, _, _, _ => h.elim
theorem mem_lst {m d : Int} (hm : 0 ≤ m) : d ∈ lst (-m) (cnt (-m) m) ↔ -m ≤ d ∧ d ≤ m := by rw [lst_mem]; unfold cnt; omega
theorem witK_ge {l : List St} {m : Int} (hB : OkB l m) {k : Nat} (hk : k < l.length) {d : Int} (hm : -m ≤ d ∧ d ≤ m) (h : witK m l k d < never) : tgo m l 0 ≤ witK m l k d := by
  obtain ⟨ds, h1, _, h3⟩ := wit_ex hB (wk_part hk) hm h
  unfold witK
  rw [← h3]
  exact tgo_le h1
/-- Some best blows have some number at each station. -/
theorem spn_best {l : List St} {m : Int} (hB : OkB l m) {k : Nat} (hk : k < l.length) (h : tgo m l 0 < never) : ∃ d, (-m ≤ d ∧ d ≤ m) ∧ witK m l k d = tgo m l 0 := by
  obtain ⟨ds, h1, h2⟩ := tgo_ex hB.all h
  have hl := h1.length
  obtain ⟨d, hd⟩ : ∃ d, ds[k]? = some d := ⟨ds[k]'(by omega), by simp⟩
  have hr := fe_at h1 hd
  have h3 := wit_le hB (wk_part hk) h1 hd
  have h4 := hB.cheap hB.few hB.all h1
  have h5 : witK m l k d < never := by unfold witK; simp only [never]; omega
  have h6 := witK_ge hB hk hr h5
  unfold witK at h6 ⊢
  exact ⟨d, hr, by omega⟩
theorem mem_spn {l : List St} {m : Int} (hm : 0 ≤ m) {k : Nat} {d : Int} : d ∈ spnF l m k ↔ (-m ≤ d ∧ d ≤ m) ∧ witK m l k d = tgo m l 0 := by
  unfold spnF
  rw [List.mem_filter, mem_lst hm, beq_iff_eq]
theorem spn_ne {l : List St} {m : Int} (hB : OkB l m) {k : Nat} (hk : k < l.length) (h : tgo m l 0 < never) : (spnF l m k).length ≠ 0 := by
  obtain ⟨d, h1, h2⟩ := spn_best hB hk h
  have := (mem_spn hB.lo).2 ⟨h1, h2⟩
  intro q
  rw [List.length_eq_zero_iff] at q
  rw [q] at this
  cases this
theorem atE_k {l : List St} {m : Int} (hB : OkB l m) {k : Nat} (hk : k < l.length) : atE l m k = 0 := atE_in (blaE_ok.2 hB) (by omega)
theorem spn_yes {l : List St} {m : Int} (hB : OkB l m) {k : Nat} (hk : k < l.length) (h : tgo m l 0 < never) : spnL l m k = toldL (spnF l m k) ∧ (spnL l m k).2.2 = 0 := by
  have h1 : spnL l m k = toldL (spnF l m k) := by unfold spnL; rw [if_pos (atE_k hB hk), if_pos h, Int.toNat_natCast]
  refine ⟨h1, ?_⟩
  rw [h1]
  unfold toldL
  rw [if_neg (spn_ne hB hk h)]
theorem spn_no {l : List St} {m : Int} (hB : OkB l m) {k : Nat} (hk : k < l.length) (h : ¬ tgo m l 0 < never) : spnL l m k = (0, 0, 18) := by unfold spnL; rw [if_pos (atE_k hB hk), if_neg h]
theorem witK_neg {l : List St} {m : Int} (hB : OkB l m) {k : Nat} (hk : k < l.length) {d : Int} (hm : -m ≤ d ∧ d ≤ m) : witK m (l.map negS) k (-d) = witK m l k d := by
  unfold witK
  rw [← wit_neg hB (wk_part hk) hm, List.map_reverse, List.map_take, List.map_drop, nthS_map hk]
theorem lst_neg (m : Int) : (lst (-m) (cnt (-m) m)).map (fun d => -d) = (lst (-m) (cnt (-m) m)).reverse := by
  apply List.ext_getElem
  · simp
  · intro i h1 h2
    simp [lst] at h1
    simp [lst]
    unfold cnt at h1 ⊢
    omega
theorem spn_neg {l : List St} {m : Int} (hB : OkB l m) {k : Nat} (hk : k < l.length) : spnF (l.map negS) m k = (spnF l m k).reverse.map (fun d => -d) := by
  unfold spnF
  rw [← List.filter_reverse, ← lst_neg, List.filter_map, List.map_map]
  have e : ((fun d : Int => -d) ∘ fun d => -d) = id := by funext d; simp
  rw [e, List.map_id, tgo_neg hB]
  apply List.filter_congr
  intro d hd
  have h1 := (mem_lst hB.lo).1 hd
  have := witK_neg hB hk (d := -d) (by omega)
  rw [Int.neg_neg] at this
  simp only [Function.comp, this]
theorem nthI_in {l : List Int} {i : Nat} (h : i < l.length) : nthI l i = l[i] := by simp [nthI, h]
theorem told_neg (F : List Int) : toldL (F.reverse.map (fun d => -d)) = (-(toldL F).2.1, -(toldL F).1, (toldL F).2.2) := by
  unfold toldL
  rw [List.length_map, List.length_reverse]
  by_cases h : F.length = 0
  · rw [if_pos h, if_pos h]; rfl
  · rw [if_neg h, if_neg h]
    have h0 : 0 < F.length := by omega
    simp only [Prod.mk.injEq, and_true]
    have h1 : F.length - 1 < F.length := by omega
    constructor
    · rw [nthI_in (by simpa using h0), List.getElem_map, List.getElem_reverse, nthI_in h1]
      simp only [Nat.sub_zero]
    · rw [nthI_in (by simpa using h1), List.getElem_map, List.getElem_reverse, nthI_in h0]
      simp only [Nat.sub_self]
theorem spnL_neg {l : List St} {m : Int} (hB : OkB l m) {k : Nat} (hk : k < l.length) : spnL (l.map negS) m k = (-(spnL l m k).2.1, -(spnL l m k).1, (spnL l m k).2.2) := by
  have hk2 : k < (l.map negS).length := by simpa using hk
  by_cases h : tgo m l 0 < never
  · rw [(spn_yes hB hk h).1, (spn_yes (okB_neg hB) hk2 (by rw [tgo_neg hB]; exact h)).1, spn_neg hB hk, told_neg]
  · rw [spn_no hB hk h, spn_no (okB_neg hB) hk2 (by rw [tgo_neg hB]; exact h)]; rfl
theorem witK_mul {l : List St} {m t : Int} (hB : OkB l m) (hB' : OkB (l.map (mulS t)) m) (ht : 1 ≤ t) {k : Nat} (hk : k < l.length) {d : Int} (hm : -m ≤ d ∧ d ≤ m) :
    (witK m (l.map (mulS t)) k d < never ↔ witK m l k d < never) ∧ (witK m l k d < never → witK m (l.map (mulS t)) k d = t * witK m l k d) := by
  have := wit_mul hB hB' ht (wk_part hk) hm
  unfold witK
  rw [nthS_map hk, ← List.map_take, ← List.map_reverse, ← List.map_drop]
  exact this
theorem spnL_mul {l : List St} {m t : Int} (hB : OkB l m) (hB' : OkB (l.map (mulS t)) m) (ht : 1 ≤ t) {k : Nat} (hk : k < l.length) : spnL (l.map (mulS t)) m k = spnL l m k := by
  have hk2 : k < (l.map (mulS t)).length := by simpa using hk
  obtain ⟨h1, h2⟩ := tgo_mul hB hB' ht
  by_cases h : tgo m l 0 < never
  · rw [(spn_yes hB hk h).1, (spn_yes hB' hk2 (h1.2 h)).1]
    congr 1
    unfold spnF
    apply List.filter_congr
    intro d hd
    obtain ⟨q1, q2⟩ := witK_mul hB hB' ht hk ((mem_lst hB.lo).1 hd)
    rw [h2 h, Bool.eq_iff_iff, beq_iff_eq, beq_iff_eq]
    constructor
    · intro e
      have h3 : witK m (l.map (mulS t)) k d < never := by rw [e, ← h2 h]; exact h1.2 h
      rw [q2 (q1.1 h3)] at e
      exact Int.eq_of_mul_eq_mul_left (by omega) e
    · intro e
      rw [q2 (by rw [e]; exact h), e]
  · rw [spn_no hB hk h, spn_no hB' hk2 (fun q => h (h1.1 q))]
end Go.Proofs.Ytgbegdjakadbbaa

set_option linter.all false
namespace Go.Proofs.Ytgbegdjakadbbaa
open Go.RowKit Vp

theorem own_far {W : World} {base e sz n : Nat} {v : Value} {xs : List Value} (h : W.ownsRow base e sz v n xs) {p : Addr} (hp : v.ownBlock ≠ some p.block) (u : Value) : (W.setCell p u).ownsRow base e sz v n xs := by
  obtain ⟨hl, h2⟩ := h
  refine ⟨hl, ?_⟩
  rcases h2 with h2 | ⟨g, cap, cur, hv, hb, hh, r⟩
  · exact .inl h2
  · refine .inr ⟨g, cap, cur, hv, hb, ?_, r⟩
    rw [Below.heap_setCell]
    · exact hh
    · rintro rfl
      exact hp (by rw [hv]; rfl)
/-- Two lists of stations that grow, each in a block of its own. -/
def TwoT (X : World) (base : Nat) (v u : Value) (l m : List St) : Prop := OwnS X base v l ∧ OwnS X base u m ∧ ∀ g, v.ownBlock = some g → u.ownBlock ≠ some g
theorem TwoT.symm {X : World} {base : Nat} {v u : Value} {l m : List St} (h : TwoT X base v u l m) : TwoT X base u v m l := ⟨h.2.1, h.1, fun g hg hq => h.2.2 g hq hg⟩
theorem TwoT.below {X Y : World} {base : Nat} {v u : Value} {l m : List St} (h : TwoT X base v u l m) (hb : Below X.heap.size X Y) : TwoT Y base v u l m := ⟨own_below h.1 hb, own_below h.2.1 hb, h.2.2⟩
theorem TwoT.far {X : World} {base : Nat} {v u : Value} {l m : List St} (h : TwoT X base v u l m) {p : Addr} {cs : Array Value} (hp : BK X p.block cs 24) (x : Value) : TwoT (X.setCell p x) base v u l m := by
  have ne : ∀ {z : Value} {k : List St}, OwnS X base z k → z.ownBlock ≠ some p.block := fun {z k} hz hq => by
    obtain ⟨c, hc⟩ := own_block hz hq
    unfold BK at hp
    rw [hp] at hc
    injection hc with hc
    injection hc with _ hc
    exact absurd hc (by decide)
  exact ⟨own_far h.1 (ne h.1) x, own_far h.2.1 (ne h.2.1) x, h.2.2⟩
theorem TwoT.nil (X : World) (base : Nat) : TwoT X base (.slice none 0 0) (.slice none 0 0) [] [] := ⟨OwnS.nil X base, OwnS.nil X base, fun g hg => by cases hg⟩

theorem two_grow {W : World} {base g tn : Nat} {v u : Value} {l m : List St} {x : St} (h : TwoT W base v u l m) (hg : BK W g #[.int .i64 x.ang, .int .i64 x.lo, .int .i64 x.hi, .int .i64 x.hard] tn) (hn : l.length ≤ 100000) (hbase : base ≤ W.heap.size) :
    ∃ v' w2, (Builtin.append_ #[22, 22] 22 #[v, .slice (some ⟨g, 0, none⟩) 1 1]).run Try.prog W = .ok v' w2 ∧ TwoT w2 base v' u (l ++ [x]) m ∧ (∀ w0, Below base w0 W → Below base w0 w2) ∧ W.heap.size ≤ w2.heap.size ∧ (∀ k cs t, BK W k cs t → v.ownBlock ≠ some k → BK w2 k cs t) := by
  obtain ⟨h1, h2, h3⟩ := h
  obtain ⟨i0, hi0, hz0, hz1, hz2⟩ := info_parts st_info
  obtain ⟨g', cap', w2, hrun, hown', hgr, hat⟩ := app1 (P := Try.prog) 22 22 60 i0 _ _ _ st_slice hi0 hz0 hz1 hz2 rfl (by decide) (by decide) base W v l.length (ofG encS l) h1 g (encS x) tn hg rfl (by intro u hu; simp [encS] at hu; rcases hu with rfl | rfl | rfl | rfl <;> rfl) hn hbase
  refine ⟨_, w2, hrun, ⟨?_, ?_, ?_⟩, fun w0 hbw => Below.grown hbw hgr hbase fun k hk => (h1.lt k hk).1, hgr.size, ?_⟩
  · unfold OwnS
    rw [← ofG_app, List.length_append]
    exact hown'
  · refine h2.kept hgr ?_
    cases hu : u.ownBlock with
    | none => exact .inl rfl
    | some q => exact .inr fun hq => h3 q hq.symm hu
  · intro q hq hu
    rcases hat with hat | hat
    · have : q = g' := by simpa [Value.ownBlock] using hq.symm
      subst this
      exact h3 q hat hu
    · have : q = g' := by simpa [Value.ownBlock] using hq.symm
      subst this
      have := (h2.lt q hu).2
      omega
  · intro k cs t hk hte
    exact hk.grown hgr fun hq => hte hq.symm
theorem TwoT.ne {X : World} {base k : Nat} {v u : Value} {l m : List St} {cs : Array Value} (h : TwoT X base v u l m) (hk : BK X k cs 24) : v.ownBlock ≠ some k := fun hq => by
  obtain ⟨c, hc⟩ := own_block h.1 hq
  unfold BK at hk
  rw [hk] at hc
  injection hc with hc
  injection hc with _ hc
  exact absurd hc (by decide)
theorem TwoT.lt {X : World} {base : Nat} {v u : Value} {l m : List St} (h : TwoT X base v u l m) {k : Nat} (hk : X.heap.size ≤ k) : v.ownBlock ≠ some k := fun hq => by
  have := (h.1.lt k hq).2
  omega
theorem sumC_pos : ∀ {l : List St} {ds : List Int}, (∀ s ∈ l, okSB s = true) → 0 ≤ sumC l ds
  | [], _, _ => by simp [sumC]
  | _ :: _, [], _ => by simp [sumC]
  | s :: l, d :: ds, h => by
    have h1 := sumC_pos (l := l) (ds := ds) fun x hx => h x (by simp [hx])
    have h2 := okSB_iff.1 (h s (by simp))
    have h3 : 0 ≤ s.hard * max d (-d) := Int.mul_nonneg (by omega) (by omega)
    simp only [sumC, cst]
    omega
theorem tgo_pos {l : List St} {m : Int} (hB : OkB l m) (h : tgo m l 0 < never) : 0 ≤ tgo m l 0 := by
  obtain ⟨ds, _, h2⟩ := tgo_ex hB.all h
  rw [← h2]
  exact sumC_pos hB.all
theorem spn_rng {l : List St} {m : Int} (hB : OkB l m) {k : Nat} (hk : k < l.length) : (-200 ≤ (spnL l m k).1 ∧ (spnL l m k).1 ≤ 200) ∧ (-200 ≤ (spnL l m k).2.1 ∧ (spnL l m k).2.1 ≤ 200) := by
  by_cases h : tgo m l 0 < never
  · have h0 := spn_ne hB hk h
    have hm0 := hB.lo
    have hm1 := hB.hi
    have key : ∀ j, j < (spnF l m k).length → -200 ≤ nthI (spnF l m k) j ∧ nthI (spnF l m k) j ≤ 200 := fun j hj => by
      have := ((mem_spn hm0).1 (show nthI (spnF l m k) j ∈ spnF l m k by rw [nthI_in hj]; exact List.getElem_mem hj)).1
      omega
    rw [(spn_yes hB hk h).1]
    unfold toldL
    rw [if_neg h0]
    exact ⟨key 0 (by omega), key _ (by omega)⟩
  · rw [spn_no hB hk h]; decide
/-- What Best and Span say of a blade, of the turned one, of one as many times as hard. -/
theorem turned {l : List St} {m : Int} (hB : OkB l m) {k : Nat} (hk : k < l.length) : ∃ v0 sa sb e0, (e0 = 0 ∨ e0 = 18) ∧ bstE l m = (v0, e0) ∧ bstE (l.map negS) m = (v0, e0) ∧ spnL l m k = (sa, sb, e0) ∧ spnL (l.map negS) m k = (-sb, -sa, e0) ∧
    (-200 ≤ sa ∧ sa ≤ 200) ∧ (-200 ≤ sb ∧ sb ≤ 200) ∧ (0 ≤ v0 ∧ v0 ≤ 36000) ∧ ∀ t, 1 ≤ t → OkB (l.map (mulS t)) m → bstE (l.map (mulS t)) m = (t * v0, e0) ∧ spnL (l.map (mulS t)) m k = (sa, sb, e0) := by
  have hr := spn_rng hB hk
  have hn := spnL_neg hB hk
  by_cases h : tgo m l 0 < never
  · have h2 := (spn_yes hB hk h).2
    obtain ⟨⟨sa, sb, e0⟩, he⟩ : ∃ x, spnL l m k = x := ⟨_, rfl⟩
    rw [he] at h2 hr hn
    dsimp only at h2 hr hn
    subst h2
    refine ⟨tgo m l 0, sa, sb, 0, .inl rfl, bst_yes (blaE_ok.2 hB) h, ?_, he, hn, hr.1, hr.2, ⟨tgo_pos hB h, hB.tgo_small hB.few hB.all h⟩, fun t ht hB' => ?_⟩
    · rw [bst_yes (blaE_ok.2 (okB_neg hB)) (by rw [tgo_neg hB]; exact h), tgo_neg hB]
    · obtain ⟨q1, q2⟩ := tgo_mul hB hB' ht
      rw [bst_yes (blaE_ok.2 hB') (q1.2 h), q2 h, spnL_mul hB hB' ht hk, he]
      exact ⟨rfl, rfl⟩
  · have he := spn_no hB hk h
    rw [he] at hn
    refine ⟨0, 0, 0, 18, .inr rfl, (bst_no (blaE_ok.2 hB) h).1, (bst_no (blaE_ok.2 (okB_neg hB)) (by rw [tgo_neg hB]; exact h)).1, he, hn, by decide, by decide, by decide, fun t ht hB' => ?_⟩
    have q1 := (tgo_mul hB hB' ht).1
    rw [(bst_no (blaE_ok.2 hB') (fun q => h (q1.1 q))).1, spnL_mul hB hB' ht hk, he, Int.mul_zero]
    exact ⟨rfl, rfl⟩
end Go.Proofs.Ytgbegdjakadbbaa

set_option linter.all false
namespace Go.Proofs.Ytgbegdjakadbbaa
open Go.RowKit Vp

/-- A list of stations is appended to an empty one in a block. -/
theorem copy_st {base B g : Nat} {W : World} {l : List St} {src : Value} (hg : BK W g #[] 60) (hbg : base ≤ g) (hs : RT W B src l) (h0 : 0 < l.length) (hm : l.length ≤ 100000) (hbase : base ≤ W.heap.size) :
    ∃ g' c' w2, (Builtin.append_ #[22, 22] 22 #[.slice (some ⟨g, 0, none⟩) 0 0, src]).run Try.prog W = .ok (.slice (some ⟨g', 0, none⟩) l.length c') w2 ∧ OwnS w2 base (.slice (some ⟨g', 0, none⟩) l.length c') l ∧
      (∀ w0, Below base w0 W → Below base w0 w2) ∧ W.heap.size ≤ w2.heap.size ∧ (∀ k cs t, BK W k cs t → k ≠ g → BK w2 k cs t) ∧ (g' = g ∨ g' = W.heap.size) := by
  obtain ⟨i0, hi0, hz0, hz1, hz2⟩ := info_parts st_info
  have hown : W.ownsRow base 60 4 (.slice (some ⟨g, 0, none⟩) 0 0) 0 [] := ⟨by simp, .inr ⟨g, 0, #[], rfl, hbg, hg, Nat.le_refl _, by unfold maxLen; omega, by simp, by simp⟩⟩
  have hne : ∀ (k : Nat), k ≠ g → some k ≠ (Value.slice (some ⟨g, 0, none⟩) 0 0).ownBlock := by
    intro k hk hq
    exact hk (by simpa [Value.ownBlock] using hq)
  obtain ⟨A, c, b, off, rfl, hl, hA, hc⟩ := hs
  obtain ⟨rfl, hb⟩ := hA (by have := ofG_length encS_len l; omega)
  obtain ⟨v', w2, hrun, hown', hgr, _, hob⟩ := run_append_own_at (P := Try.prog) (w := W) base 22 22 60 i0 (.agg #[.int .i64 0, .int .i64 0, .int .i64 0, .int .i64 0]) 4 32 st_slice hi0 hz0 hz1 hz2 rfl (by decide) _ 0 [] hown ⟨b, off, none⟩ l.length c (ofG encS l) hl.1 (fun j u hu => by
    have hj : j < (ofG encS l).length := (List.getElem?_eq_some_iff.1 hu).1
    have e : (⟨b, off, none⟩ : Addr).add j = ⟨b, off + j, none⟩ := by unfold Addr.add; split <;> simp_all
    rw [e, hc j hj]; exact hu) (by
      intro u hu
      unfold ofG at hu
      obtain ⟨x, _, hx⟩ := List.mem_flatMap.1 hu
      simp [encS] at hx
      rcases hx with rfl | rfl | rfl | rfl <;> rfl) (by unfold maxLen; omega) (by omega) hbase
  rw [Nat.zero_add] at hown'
  rw [List.nil_append] at hown'
  have h2 := hown'.2
  rcases h2 with ⟨h3, h4⟩ | ⟨g', cap, cur, hv, h4⟩
  · exfalso
    have h5 := hown'.1
    rw [ofG_length encS_len] at h5
    first | (rw [h3] at h0; omega) | (have := h4; omega) | (simp at h4; omega)
  · subst hv
    exact ⟨g', cap, w2, hrun, hown', fun w0 hbw => Below.grown hbw hgr hbase fun k hk => (hown.lt k hk).1, hgr.size, fun k cs t' hk hkg => hk.grown hgr (hne k hkg), by simpa [Value.ownBlock] using hob⟩
theorem own_wr {W : World} {base e sz n g c : Nat} {xs : List Value} (h : W.ownsRow base e sz (.slice (some ⟨g, 0, none⟩) n c) n xs) (j : Nat) (u : Value) : (W.setCell ⟨g, j, none⟩ u).ownsRow base e sz (.slice (some ⟨g, 0, none⟩) n c) n (xs.set j u) := by
  obtain ⟨hl, h2⟩ := h
  refine ⟨by rw [List.length_set]; exact hl, .inr ?_⟩
  rcases h2 with ⟨hv, _⟩ | ⟨g2, c2, cur, hv, hb, hh, h3, h4, h5, h6⟩
  · cases hv
  · injection hv with hv1 hv2 hv3
    injection hv1 with hv1; injection hv1 with hv1
    subst hv1; subst hv3
    refine ⟨g, c, cur.setIfInBounds j u, rfl, hb, BK.set hh j u, h3, h4, by rw [Array.size_setIfInBounds]; exact h5, ?_⟩
    rw [← h6, Array.toList_setIfInBounds, List.take_set]
theorem own_frozen {W : World} {base e sz n g c : Nat} {xs : List Value} (h : W.ownsRow base e sz (.slice (some ⟨g, 0, none⟩) n c) n xs) (j : Nat) : W.frozen? ⟨g, j, none⟩ = false := by
  obtain ⟨hl, h2⟩ := h
  rcases h2 with ⟨hv, _⟩ | ⟨g2, c2, cur, hv, hb, hh, h3, h4, h5, h6⟩
  · cases hv
  · injection hv with hv1 hv2 hv3
    injection hv1 with hv1; injection hv1 with hv1
    subst hv1
    exact BK.frozen hh j
theorem own_lt {W : World} {base e sz n g c : Nat} {xs : List Value} (h : W.ownsRow base e sz (.slice (some ⟨g, 0, none⟩) n c) n xs) : base ≤ g ∧ g < W.heap.size := by
  obtain ⟨hl, h2⟩ := h
  rcases h2 with ⟨hv, _⟩ | ⟨g2, c2, cur, hv, hb, hh, h3, h4, h5, h6⟩
  · cases hv
  · injection hv with hv1 hv2 hv3
    injection hv1 with hv1; injection hv1 with hv1
    subst hv1
    exact ⟨hb, BK.lt hh⟩
theorem encS_set (l : List St) (i : Nat) (x : St) : ∀ (_ : i < l.length), ofG encS (l.set i x) = ((((ofG encS l).set (i * 4) (.int .i64 x.ang)).set (i * 4 + 1) (.int .i64 x.lo)).set (i * 4 + 2) (.int .i64 x.hi)).set (i * 4 + 3) (.int .i64 x.hard) := by
  induction l generalizing i with
  | nil => intro h; simp at h
  | cons s l ih =>
    intro h
    cases i with
    | zero => simp [ofG, encS]
    | succ i =>
      have := ih i (by simpa using h)
      simp only [ofG, encS, List.set_cons_succ, List.flatMap_cons] at this ⊢
      rw [this, show (i + 1) * 4 = i * 4 + 4 by omega]
      simp
theorem set_same {α : Type} {l : List α} {j : Nat} {u : α} (h : l[j]? = some u) : l.set j u = l := by
  obtain ⟨h1, h2⟩ := List.getElem?_eq_some_iff.1 h
  rw [← h2, List.set_getElem_self]
theorem encS_at {l : List St} {i : Nat} (h : i < l.length) : (ofG encS l)[i * 4]? = some (.int .i64 (nthS l i).ang) ∧ (ofG encS l)[i * 4 + 1]? = some (.int .i64 (nthS l i).lo) ∧ (ofG encS l)[i * 4 + 2]? = some (.int .i64 (nthS l i).hi) ∧ (ofG encS l)[i * 4 + 3]? = some (.int .i64 (nthS l i).hard) := by
  have hg : l[i]? = some (nthS l i) := by unfold nthS; simp [h]
  have h0 := fun j hj => ofG_at encS_len l i j _ hg hj
  exact ⟨h0 0 (by omega), h0 1 (by omega), h0 2 (by omega), h0 3 (by omega)⟩
/-- The range of a station is written. -/
theorem put_rng {W : World} {base g c : Nat} {l : List St} (h : OwnS W base (.slice (some ⟨g, 0, none⟩) l.length c) l) {i : Nat} (hi : i < l.length) (lo hi' : Int) :
    OwnS ((W.setCell ⟨g, i * 4 + 1, none⟩ (.int .i64 lo)).setCell ⟨g, i * 4 + 2, none⟩ (.int .i64 hi')) base (.slice (some ⟨g, 0, none⟩) l.length c) (l.set i ⟨(nthS l i).ang, lo, hi', (nthS l i).hard⟩) := by
  unfold OwnS at h ⊢
  have h1 := own_wr (own_wr h (i * 4 + 1) (.int .i64 lo)) (i * 4 + 2) (.int .i64 hi')
  obtain ⟨e0, e1, e2, e3⟩ := encS_at hi
  rw [List.length_set, encS_set l i _ hi]
  rw [set_same (j := i * 4) e0]
  rw [set_same (j := i * 4 + 3)]
  · exact h1
  · rw [List.getElem?_set_ne (by omega), List.getElem?_set_ne (by omega)]
    exact e3
/-- The hardness of a station is written. -/
theorem put_hard {W : World} {base g c : Nat} {l : List St} (h : OwnS W base (.slice (some ⟨g, 0, none⟩) l.length c) l) {i : Nat} (hi : i < l.length) (x : Int) :
    OwnS (W.setCell ⟨g, i * 4 + 3, none⟩ (.int .i64 x)) base (.slice (some ⟨g, 0, none⟩) l.length c) (l.set i ⟨(nthS l i).ang, (nthS l i).lo, (nthS l i).hi, x⟩) := by
  unfold OwnS at h ⊢
  have h1 := own_wr h (i * 4 + 3) (.int .i64 x)
  obtain ⟨e0, e1, e2, e3⟩ := encS_at hi
  rw [List.length_set, encS_set l i _ hi]
  rw [set_same (j := i * 4) e0, set_same (j := i * 4 + 1) e1, set_same (j := i * 4 + 2) e2]
  exact h1
end Go.Proofs.Ytgbegdjakadbbaa

set_option linter.all false
namespace Go.Proofs.Ytgbegdjakadbbaa
open Go.RowKit Vp

theorem OwnS.keep_ne {W w2 : World} {base g g1 n c : Nat} {l : List St} (h : OwnS W base (.slice (some ⟨g1, 0, none⟩) n c) l) (hk : ∀ k cs t, BK W k cs t → k ≠ g → BK w2 k cs t) (hne : g1 ≠ g) : OwnS w2 base (.slice (some ⟨g1, 0, none⟩) n c) l := by
  obtain ⟨hl, h2⟩ := h
  refine ⟨hl, ?_⟩
  rcases h2 with h2 | ⟨g', cap, cur, h3, h4, h5, h6⟩
  · exact .inl h2
  · injection h3 with q1 q2 q3
    injection q1 with q1
    injection q1 with q1 q4
    subst q1
    exact .inr ⟨g1, cap, cur, by rw [q2, q3], h4, hk _ _ _ h5 hne, h6⟩
theorem own_ne {W : World} {base e sz n g c k : Nat} {xs : List Value} {cs : Array Value} {t : TypeId} (h : W.ownsRow base e sz (.slice (some ⟨g, 0, none⟩) n c) n xs) (hk : BK W k cs t) (ht : t ≠ e) : k ≠ g := fun hq => by
  obtain ⟨cc, hcc⟩ := own_block h (g := g) rfl
  unfold BK at hk
  rw [hq, hcc] at hk
  injection hk with hh
  injection hh with _ hh
  exact ht hh.symm
theorem own_far2 {W : World} {base e sz n n' c g g2 j : Nat} {xs : List Value} (h : W.ownsRow base e sz (.slice (some ⟨g, 0, none⟩) n' c) n xs) (hg : g ≠ g2) (u : Value) : (W.setCell ⟨g2, j, none⟩ u).ownsRow base e sz (.slice (some ⟨g, 0, none⟩) n' c) n xs :=
  own_far h (p := ⟨g2, j, none⟩) (by intro q; exact hg (by simpa [Value.ownBlock] using q)) u
/-- The blade X asks no more than l. -/
def Eas (l : List St) (m : Int) (X : List St) (mX : Int) : Prop := tgo m l 0 < never → tgo mX X 0 ≤ tgo m l 0
theorem wd_set {l : List St} {i : Nat} (hi : i < l.length) {lo hi' hd : Int} (h1 : lo ≤ (nthS l i).lo) (h2 : (nthS l i).hi ≤ hi') (h3 : hd ≤ (nthS l i).hard) : Wd l (l.set i ⟨(nthS l i).ang, lo, hi', hd⟩) :=
  Wd.set i _ fun s hs => by
    have : s = nthS l i := by simp [nthS, hs]
    subst this
    simp only [tub]
    omega
theorem eas_wd {l X : List St} {m mX : Int} (hB : OkB l m) (h : Wd l X) (hm : m ≤ mX) : Eas l m X mX := fun hf => h.tgo hB hm hf
theorem eas_take {l : List St} {m : Int} (hB : OkB l m) : Eas l m (l.take (l.length - 1)) m := by
  have h1 := hB.one
  refine fun hf => drop_tgo hB (s := nthS l (l.length - 1)) ?_ hf
  have := List.take_append_drop (l.length - 1) l
  rw [drop_nthS (by omega), List.drop_of_length_le (by omega)] at this
  exact this.symm
/-- What Best says of it. -/
theorem eas_bst {l X : List St} {m mX : Int} (hB : OkB l m) (hX : OkB X mX) (h : Eas l m X mX) : ∃ c e, bstE X mX = (c, e) ∧ ((tgo m l 0 < never ∧ e = 0 ∧ c ≤ tgo m l 0) ∨ (¬ tgo m l 0 < never ∧ e = 0) ∨ (¬ tgo m l 0 < never ∧ e = 18)) := by
  by_cases hf : tgo m l 0 < never
  · have := h hf
    exact ⟨_, _, bst_yes (blaE_ok.2 hX) (by omega), .inl ⟨hf, rfl, this⟩⟩
  · by_cases hg : tgo mX X 0 < never
    · exact ⟨_, _, bst_yes (blaE_ok.2 hX) hg, .inr (.inl ⟨hf, rfl⟩)⟩
    · exact ⟨_, _, (bst_no (blaE_ok.2 hX) hg).1, .inr (.inr ⟨hf, rfl⟩)⟩
theorem encS_take : ∀ (l : List St) (k : Nat), ofG encS (l.take k) = (ofG encS l).take (k * 4)
  | [], k => by simp [ofG]
  | s :: l, 0 => by simp [ofG]
  | s :: l, k + 1 => by
    have := encS_take l k
    simp only [List.take_succ_cons, ofG, List.flatMap_cons] at this ⊢
    rw [this, show (k + 1) * 4 = k * 4 + 4 by omega]
    simp [encS]
theorem RT.takes {w : World} {B cap k : Nat} {A : Option Addr} {l : List St} (h : RT w B (.slice A l.length cap) l) (hk : k ≤ l.length) : RT w B (.slice A k cap) (l.take k) := by
  obtain ⟨A', cap', b, off, hv, hl, hA, hc⟩ := h
  injection hv with q1 q2 q3
  subst q1 q3
  have e := encS_take l k
  refine ⟨A, cap, b, off, by rw [List.length_take, Nat.min_eq_left hk], ⟨ofG_length encS_len _, by rw [List.length_take]; omega⟩, fun hn => hA (by rw [List.length_take] at hn; omega), fun j hj => ?_⟩
  rw [e, List.length_take] at hj
  rw [hc j (by omega), e, List.getElem?_take_of_lt (by omega)]
/-- One of four boxes is written. -/
theorem wr4 {W0 W : World} {d a b c : Nat} {p q : Value} {ca cb cc : Array Value} {t : TypeId} (hd : BK W d #[p, q] t) (ha : BK W a ca t) (hb : BK W b cb t) (hc : BK W c cc t) (na : a ≠ d) (nb : b ≠ d) (nc : c ≠ d) (hB : W0.heap.size ≤ d) (e : Below W0.heap.size W0 W) (u v : Value) :
    BK ((W.setCell ⟨d, 0, none⟩ u).setCell ⟨d, 1, none⟩ v) d #[u, v] t ∧ BK ((W.setCell ⟨d, 0, none⟩ u).setCell ⟨d, 1, none⟩ v) a ca t ∧ BK ((W.setCell ⟨d, 0, none⟩ u).setCell ⟨d, 1, none⟩ v) b cb t ∧ BK ((W.setCell ⟨d, 0, none⟩ u).setCell ⟨d, 1, none⟩ v) c cc t ∧ Below W0.heap.size W0 ((W.setCell ⟨d, 0, none⟩ u).setCell ⟨d, 1, none⟩ v) := by
  refine ⟨?_, (ha.far na u).far na v, (hb.far nb u).far nb v, (hc.far nc u).far nc v, Below.setCell (Below.setCell e hB _) hB _⟩
  have := (hd.set 0 u).set 1 v
  simpa using this
section
variable {P : Program} {ops : Array Oper} {Q : Exit → Act → World → Prop} {md : Region.Mode} {S : World → Prop} {E : List Nat}
theorem any_run4 {i j k n : Nat} {o1 o2 o3 o4 : Oper} {fuel : Nat} {listed : Array Bool} {a : Act} {w : World} (hr : Region.ready md ops listed = [i, j, k, n]) (qi : ops[i]? = some o1) (qj : ops[j]? = some o2) (qk : ops[k]? = some o3) (qn : ops[n]? = some o4)
    (gi : Region.wanted o1 (yielded ops a.tmps) = true) (gj : Region.wanted o2 (yielded ops a.tmps) = true) (gk : Region.wanted o3 (yielded ops a.tmps) = true) (gn : Region.wanted o4 (yielded ops a.tmps) = true)
    (hi : ∀ K : Act → World → Prop, (∀ a' w', (waitsAll md ops E i = false → S w') → wpAnyF P md ops Q S E fuel (listed.setIfInBounds i true) a' w' → K a' w') → o1.wp P a w K Q)
    (hj : ∀ K : Act → World → Prop, (∀ a' w', (waitsAll md ops E j = false → S w') → wpAnyF P md ops Q S E fuel (listed.setIfInBounds j true) a' w' → K a' w') → o2.wp P a w K Q)
    (hk : ∀ K : Act → World → Prop, (∀ a' w', (waitsAll md ops E k = false → S w') → wpAnyF P md ops Q S E fuel (listed.setIfInBounds k true) a' w' → K a' w') → o3.wp P a w K Q)
    (hn : ∀ K : Act → World → Prop, (∀ a' w', (waitsAll md ops E n = false → S w') → wpAnyF P md ops Q S E fuel (listed.setIfInBounds n true) a' w' → K a' w') → o4.wp P a w K Q) : wpAnyF P md ops Q S E (fuel + 1) listed a w := by
  refine ⟨fun he => (by rw [hr] at he; cases he), fun m hm => ?_⟩
  rw [hr] at hm
  have : m = i ∨ m = j ∨ m = k ∨ m = n := by simpa using hm
  rcases this with rfl | rfl | rfl | rfl
  · unfold wpOp
    simp only [qi, gi]
    exact .inl (hi _ fun a' w' h1 h2 => ⟨h1, h2⟩)
  · unfold wpOp
    simp only [qj, gj]
    exact .inl (hj _ fun a' w' h1 h2 => ⟨h1, h2⟩)
  · unfold wpOp
    simp only [qk, gk]
    exact .inl (hk _ fun a' w' h1 h2 => ⟨h1, h2⟩)
  · unfold wpOp
    simp only [qn, gn]
    exact .inl (hn _ fun a' w' h1 h2 => ⟨h1, h2⟩)
end
end Go.Proofs.Ytgbegdjakadbbaa

set_option linter.all false
namespace Go.Proofs.Ytgbegdjakadbbaa
open Go.RowKit Vp

set_option maxHeartbeats 64000000 in
set_option maxRecDepth 100000 in
theorem warpWider_any (l : List St) (vs : Value) (m : Int) (x1 : Nat) (a1 a2 : Nat) (x2 : Nat) (x3 : Nat) (w : World) (hT : RT w w.heap.size vs l) (hlM : l.length ≤ maxLen) (hmI : okI m) (h1 : x1 ≤ 255) (ha : a1 ≤ 255 ∧ a2 ≤ 255) (h2 : x2 ≤ 255) (h3 : x3 ≤ 255) :
    Calls Try.prog 10 #[bV vs m, .int .u8 x1, .agg #[.int .u8 a1, .int .u8 a2], .int .u8 x2, .int .u8 x3] w fun x w' => x = .returned (.bool true) ∧ Below w.heap.size w w' := by
  unfold bV
  obtain ⟨b, off, cap, A, rfl, -, hcap⟩ := hT.slice
  obtain ⟨n0, hn0⟩ : ∃ n, w.heap.size = n := ⟨_, rfl⟩
  have hC : Below n0 w w := Below.refl _ _
  go_enter Try.func10, Try.ntmps10
  have H0 := Lib.hid (show RT w n0 (.slice A l.length cap) l by rw [← hn0]; exact hT)
  have HA8 := Lib.hid ha
  clear ha
  go_upto_region 1 with fail
  have hqbx : n0 ≤ n0 := by have := hC.size; omega
  have bx : BK (w.alloc (.cells #[.slice A l.length cap, .int .i64 m] 24)) (n0) #[.slice A l.length cap, .int .i64 m] 24 := BK.new' _ _ _ (n0) hn0
  have hsbx : (w.alloc (.cells #[.slice A l.length cap, .int .i64 m] 24)).heap.size = n0 + 1 := by simp [hn0]
  replace hC : Below n0 w (w.alloc (.cells #[.slice A l.length cap, .int .i64 m] 24)) := Below.alloc hC (by have := hC.size; omega) _
  replace hT := (RS.below hT (w' := (w.alloc (.cells #[.slice A l.length cap, .int .i64 m] 24))) (Below.alloc (Below.refl _ _) (Nat.le_refl _) _)).more (B' := (w.alloc (.cells #[.slice A l.length cap, .int .i64 m] 24)).heap.size) (by simp)
  generalize (w.alloc (.cells #[.slice A l.length cap, .int .i64 m] 24)) = Wbx at *
  have hqpr : n0 ≤ n0 + 1 := by have := hC.size; omega
  have pr : BK (Wbx.alloc (.cells #[.int .u8 a1, .int .u8 a2] 52)) (n0 + 1) #[.int .u8 a1, .int .u8 a2] 52 := BK.new' _ _ _ (n0 + 1) hsbx
  have hspr : (Wbx.alloc (.cells #[.int .u8 a1, .int .u8 a2] 52)).heap.size = n0 + 1 + 1 := by simp [hsbx]
  replace hC : Below n0 w (Wbx.alloc (.cells #[.int .u8 a1, .int .u8 a2] 52)) := Below.alloc hC (by have := hC.size; omega) _
  replace hT := (RS.below hT (w' := (Wbx.alloc (.cells #[.int .u8 a1, .int .u8 a2] 52))) (Below.alloc (Below.refl _ _) (Nat.le_refl _) _)).more (B' := (Wbx.alloc (.cells #[.int .u8 a1, .int .u8 a2] 52)).heap.size) (by simp)
  replace bx := bx.alloc (.cells #[.int .u8 a1, .int .u8 a2] 52)
  generalize (Wbx.alloc (.cells #[.int .u8 a1, .int .u8 a2] 52)) = Wpr at *
  clear hsbx
  clear hspr
  have lbx := bx.lt
  have bxc0 := bx.cell 0
  have bxc1 := bx.cell 1
  simp at bxc0 bxc1
  go_wp2_with fail
  clear lbx bxc0 bxc1
  refine (fine_any l _ m _ hlM hT).mono ?_
  rintro e w1 ⟨rfl, hb⟩
  replace hC : Below n0 w w1 := hC.trans (hb.mono (by have := hC.size; omega))
  replace hT := (RS.below hT hb).more hb.size
  replace bx := bx.below hb bx.lt
  replace pr := pr.below hb pr.lt
  clear hb
  obtain ⟨q, hq⟩ : ∃ q, fineB l m = q := ⟨_, rfl⟩
  rw [hq]
  cases q
  case false =>
    clear hq
    go_wp2_with fail
    refine (works_any _).mono ?_
    rintro e w2 ⟨rfl, hb⟩
    replace hC : Below n0 w w2 := hC.trans (hb.mono (by have := hC.size; omega))
    replace hT := (RS.below hT hb).more hb.size
    replace bx := bx.below hb bx.lt
    replace pr := pr.below hb pr.lt
    clear hb
    go_wp2_with fail
    exact bodyPost_ret (v := .bool true) (by simp [results, Try.results10, go_sem]) rfl ⟨rfl, by first | exact hC | (rw [hn0]; exact hC) | (with_reducible rw [hn0]; exact bel_of) | exact bel_of⟩
  have HBE := Lib.hid (fineB_bla hq)
  have HOK := Lib.hid (fineB_ok hq)
  have hm0 := HOK.out.lo
  have hm1 := HOK.out.hi
  have h20 := HOK.out.few
  have hlk : l.length ≤ 1000 := by omega
  clear hq
  simp only [Bool.not_true]
  have hn1 := HOK.out.one
  obtain ⟨i, hi⟩ : ∃ i : Nat, x1 % l.length = i := ⟨_, rfl⟩
  have hi2 : i < l.length := by rw [← hi]; exact Nat.mod_lt _ (by omega)
  have wc1 : IntKind.i64.wrap (x1 : Int) = x1 := by rw [IntKind.wrap_i64]; omega
  have nz2 : l ≠ [] := by intro q; rw [q] at hn1; simp at hn1
  have t1 : (x1 : Int).tmod (l.length : Int) = (i : Int) := by rw [Int.tmod_eq_emod_of_nonneg (by omega), ← Int.natCast_emod, hi]
  have wi : IntKind.i64.wrap (i : Int) = i := by rw [IntKind.wrap_i64]; omega
  have HI := Lib.hid hi2
  have H2 := Lib.hid h2
  have H3 := Lib.hid h3
  clear hi h1 h2 h3
  have lbx := bx.lt
  have bxc0 := bx.cell 0
  have bxc1 := bx.cell 1
  simp at bxc0 bxc1
  go_upto_region 4 with fail
  clear lbx bxc0 bxc1
  clear wc1 nz2 t1 wi hi2
  have lbx := bx.lt
  have bxc0 := bx.cell 0
  have bxc1 := bx.cell 1
  simp at bxc0 bxc1
  go_wp2_with fail
  clear lbx bxc0 bxc1
  obtain ⟨c0, e0, hb0⟩ : ∃ c e, bstE l m = (c, e) := ⟨_, _, rfl⟩
  have HB0 := Lib.hid hb0
  clear hb0
  refine (Best_any l _ m _ hlk hT).mono ?_
  rintro e w2 ⟨u_a, rfl, hown, hb⟩
  replace hC : Below n0 w w2 := hC.trans (hb.mono (by have := hC.size; omega))
  replace hT := (RS.below hT hb).more hb.size
  replace bx := bx.below hb bx.lt
  replace pr := pr.below hb pr.lt
  clear hb
  rw [HB0.out]
  clear hown
  have lbx := bx.lt
  have bxc0 := bx.cell 0
  have bxc1 := bx.cell 1
  simp at bxc0 bxc1
  go_upto_region 5 with fail
  clear lbx bxc0 bxc1
  have lbx := bx.lt
  have bxc0 := bx.cell 0
  have bxc1 := bx.cell 1
  simp at bxc0 bxc1
  refine region_keep [40, 41, 42, 43, 15, 16, 17, 18] (fun u V => ∃ gx gy gz gu, u 15 = .pointer (some ⟨gx, 0, none⟩) ∧ u 16 = .pointer (some ⟨gy, 0, none⟩) ∧ u 17 = .pointer (some ⟨gz, 0, none⟩) ∧ u 18 = .pointer (some ⟨gu, 0, none⟩) ∧ gx ≠ gy ∧ gx ≠ gz ∧ gx ≠ gu ∧ gy ≠ gz ∧ gy ≠ gu ∧ gz ≠ gu ∧ BK V gx #[.slice A l.length cap, .int .i64 m] 24 ∧ BK V gy #[.slice A l.length cap, .int .i64 m] 24 ∧ BK V gz #[.slice A l.length cap, .int .i64 m] 24 ∧ BK V gu #[.slice A l.length cap, .int .i64 m] 24 ∧ w2.heap.size ≤ gx ∧ w2.heap.size ≤ gy ∧ w2.heap.size ≤ gz ∧ w2.heap.size ≤ gu ∧ Below w2.heap.size w2 V) ?_ ?_
  ·skip
   have d0ya : Below w2.heap.size w2 w2.drew := by exact bel_of
   refine wp_region_noPanic (plain_any [0, 1, 2, 3] (Below w2.heap.size w2) mixed ?_)
   refine any_tk 0 ?_
   refine any_tk 1 ?_
   refine any_tk 2 ?_
   refine any_tk 3 ?_
   have dya1 : Below w2.heap.size w2 w2.drew := by exact bel_of
   have hdr : Below w2.heap.size w2 w2.drew := Below.drew (Below.refl _ _)
   clear hdr
   generalize w2.drew = uya2 at *
   refine any_run4 (i := 4) (j := 5) (k := 6) (n := 7) (by kernel_rfl) (by rfl) (by rfl) (by rfl) (by rfl) (by rfl) (by rfl) (by rfl) (by rfl) ?_ ?_ ?_ ?_
   ·skip
    intro K hK
    have qya4 := dya1.size
    have eya3 : Below w2.heap.size w2 (uya2.alloc (.cells #[.slice none 0 0, .int .i64 0] 24)) := Below.alloc dya1 dya1.size _
    have hnx : Below uya2.heap.size uya2 (uya2.alloc (.cells #[.slice none 0 0, .int .i64 0] 24)) := Below.alloc (Below.refl _ _) (Nat.le_refl _) _
    go_wp2_with fail
    have px : BK (uya2.alloc (.cells #[.slice none 0 0, .int .i64 0] 24)) uya2.heap.size #[.slice none 0 0, .int .i64 0] 24 := BK.new _ _ _
    refine hK _ _ (fun _ => eya3) ?_
    clear hK K hnx
    generalize (uya2.alloc (.cells #[.slice none 0 0, .int .i64 0] 24)) = vya5 at *
    obtain ⟨gpx, hgpx⟩ : ∃ g, uya2.heap.size = g := ⟨_, rfl⟩
    have hqpx : w2.heap.size ≤ gpx := by omega
    rw [hgpx] at px
    try rw [hgpx]
    clear hgpx
    refine any_run3 (i := 5) (j := 6) (k := 7) (by kernel_rfl) (by rfl) (by rfl) (by rfl) (by rfl) (by rfl) (by rfl) ?_ ?_ ?_
    ·skip
     intro K hK
     have qya7 := eya3.size
     have eya6 : Below w2.heap.size w2 (vya5.alloc (.cells #[.slice none 0 0, .int .i64 0] 24)) := Below.alloc eya3 eya3.size _
     have hnx : Below vya5.heap.size vya5 (vya5.alloc (.cells #[.slice none 0 0, .int .i64 0] 24)) := Below.alloc (Below.refl _ _) (Nat.le_refl _) _
     go_wp2_with fail
     have nepxpy : gpx ≠ vya5.heap.size := Nat.ne_of_lt px.lt
     replace px := px.below hnx px.lt
     have py : BK (vya5.alloc (.cells #[.slice none 0 0, .int .i64 0] 24)) vya5.heap.size #[.slice none 0 0, .int .i64 0] 24 := BK.new _ _ _
     refine hK _ _ (fun _ => eya6) ?_
     clear hK K hnx
     generalize (vya5.alloc (.cells #[.slice none 0 0, .int .i64 0] 24)) = vya8 at *
     obtain ⟨gpy, hgpy⟩ : ∃ g, vya5.heap.size = g := ⟨_, rfl⟩
     have hqpy : w2.heap.size ≤ gpy := by omega
     rw [hgpy] at py nepxpy
     try rw [hgpy]
     clear hgpy
     refine any_run2 (i := 6) (j := 7) (by kernel_rfl) (by rfl) (by rfl) (by rfl) (by rfl) ?_ ?_
     ·skip
      intro K hK
      have qya10 := eya6.size
      have eya9 : Below w2.heap.size w2 (vya8.alloc (.cells #[.slice none 0 0, .int .i64 0] 24)) := Below.alloc eya6 eya6.size _
      have hnx : Below vya8.heap.size vya8 (vya8.alloc (.cells #[.slice none 0 0, .int .i64 0] 24)) := Below.alloc (Below.refl _ _) (Nat.le_refl _) _
      go_wp2_with fail
      have nepxpz : gpx ≠ vya8.heap.size := Nat.ne_of_lt px.lt
      have nepypz : gpy ≠ vya8.heap.size := Nat.ne_of_lt py.lt
      replace px := px.below hnx px.lt
      replace py := py.below hnx py.lt
      have pz : BK (vya8.alloc (.cells #[.slice none 0 0, .int .i64 0] 24)) vya8.heap.size #[.slice none 0 0, .int .i64 0] 24 := BK.new _ _ _
      refine hK _ _ (fun _ => eya9) ?_
      clear hK K hnx
      generalize (vya8.alloc (.cells #[.slice none 0 0, .int .i64 0] 24)) = vya11 at *
      obtain ⟨gpz, hgpz⟩ : ∃ g, vya8.heap.size = g := ⟨_, rfl⟩
      have hqpz : w2.heap.size ≤ gpz := by omega
      rw [hgpz] at pz nepxpz nepypz
      try rw [hgpz]
      clear hgpz
      refine any_run1 (i := 7) (by kernel_rfl) (by rfl) (by kernel_rfl) ?_
      intro K hK
      have qya13 := eya9.size
      have eya12 : Below w2.heap.size w2 (vya11.alloc (.cells #[.slice none 0 0, .int .i64 0] 24)) := Below.alloc eya9 eya9.size _
      have hnx : Below vya11.heap.size vya11 (vya11.alloc (.cells #[.slice none 0 0, .int .i64 0] 24)) := Below.alloc (Below.refl _ _) (Nat.le_refl _) _
      go_wp2_with fail
      have nepxpu : gpx ≠ vya11.heap.size := Nat.ne_of_lt px.lt
      have nepypu : gpy ≠ vya11.heap.size := Nat.ne_of_lt py.lt
      have nepzpu : gpz ≠ vya11.heap.size := Nat.ne_of_lt pz.lt
      replace px := px.below hnx px.lt
      replace py := py.below hnx py.lt
      replace pz := pz.below hnx pz.lt
      have pu : BK (vya11.alloc (.cells #[.slice none 0 0, .int .i64 0] 24)) vya11.heap.size #[.slice none 0 0, .int .i64 0] 24 := BK.new _ _ _
      refine hK _ _ (fun _ => eya12) ?_
      clear hK K hnx
      generalize (vya11.alloc (.cells #[.slice none 0 0, .int .i64 0] 24)) = vya14 at *
      obtain ⟨gpu, hgpu⟩ : ∃ g, vya11.heap.size = g := ⟨_, rfl⟩
      have hqpu : w2.heap.size ≤ gpu := by omega
      rw [hgpu] at pu nepxpu nepypu nepzpu
      try rw [hgpu]
      clear hgpu
      refine any_run1 (i := 8) (by kernel_rfl) (by rfl) (by kernel_rfl) ?_
      intro K hK
      have lpx := px.lt
      have y0 := px.cell 0
      have f0 := px.frozen 0
      have y1 := px.cell 1
      have f1 := px.frozen 1
      simp at y0 y1
      go_wp2_with fail
      have h4 := wr4 px py pz pu nepxpy.symm nepxpz.symm nepxpu.symm hqpx eya12 (.slice A l.length cap) (.int .i64 m)
      clear lpx y0 f0 y1 f1 px py pz pu
      obtain ⟨px, py, pz, pu, eya15⟩ := h4
      refine hK _ _ (fun _ => eya15) ?_
      clear hK K
      generalize ((vya14.setCell ⟨gpx, 0, none⟩ (.slice A l.length cap)).setCell ⟨gpx, 1, none⟩ (.int .i64 m)) = vya16 at *
      refine any_run1 (i := 9) (by kernel_rfl) (by rfl) (by kernel_rfl) ?_
      intro K hK
      have lpy := py.lt
      have y0 := py.cell 0
      have f0 := py.frozen 0
      have y1 := py.cell 1
      have f1 := py.frozen 1
      simp at y0 y1
      go_wp2_with fail
      have h4 := wr4 py px pz pu nepxpy nepypz.symm nepypu.symm hqpy eya15 (.slice A l.length cap) (.int .i64 m)
      clear lpy y0 f0 y1 f1 px py pz pu
      obtain ⟨py, px, pz, pu, eya17⟩ := h4
      refine hK _ _ (fun _ => eya17) ?_
      clear hK K
      generalize ((vya16.setCell ⟨gpy, 0, none⟩ (.slice A l.length cap)).setCell ⟨gpy, 1, none⟩ (.int .i64 m)) = vya18 at *
      refine any_run1 (i := 10) (by kernel_rfl) (by rfl) (by kernel_rfl) ?_
      intro K hK
      have lpz := pz.lt
      have y0 := pz.cell 0
      have f0 := pz.frozen 0
      have y1 := pz.cell 1
      have f1 := pz.frozen 1
      simp at y0 y1
      go_wp2_with fail
      have h4 := wr4 pz px py pu nepxpz nepypz nepzpu.symm hqpz eya17 (.slice A l.length cap) (.int .i64 m)
      clear lpz y0 f0 y1 f1 px py pz pu
      obtain ⟨pz, px, py, pu, eya19⟩ := h4
      refine hK _ _ (fun _ => eya19) ?_
      clear hK K
      generalize ((vya18.setCell ⟨gpz, 0, none⟩ (.slice A l.length cap)).setCell ⟨gpz, 1, none⟩ (.int .i64 m)) = vya20 at *
      refine any_run1 (i := 11) (by kernel_rfl) (by rfl) (by kernel_rfl) ?_
      intro K hK
      have lpu := pu.lt
      have y0 := pu.cell 0
      have f0 := pu.frozen 0
      have y1 := pu.cell 1
      have f1 := pu.frozen 1
      simp at y0 y1
      go_wp2_with fail
      have h4 := wr4 pu px py pz nepxpu nepypu nepzpu hqpu eya19 (.slice A l.length cap) (.int .i64 m)
      clear lpu y0 f0 y1 f1 px py pz pu
      obtain ⟨pu, px, py, pz, eya21⟩ := h4
      refine hK _ _ (fun _ => eya21) ?_
      clear hK K
      generalize ((vya20.setCell ⟨gpu, 0, none⟩ (.slice A l.length cap)).setCell ⟨gpu, 1, none⟩ (.int .i64 m)) = vya22 at *
      refine any_done (by kernel_rfl) (NoPanic.normal ?_)
      exact ⟨rfl, by simp [setAll], rfl, _, _, _, _, rfl, rfl, rfl, rfl, nepxpy, nepxpz, nepxpu, nepypz, nepypu, nepzpu, px, py, pz, pu, hqpx, hqpy, hqpz, hqpu, eya21⟩
     ·skip
      intro K hK
      have qya24 := eya6.size
      have eya23 : Below w2.heap.size w2 (vya8.alloc (.cells #[.slice none 0 0, .int .i64 0] 24)) := Below.alloc eya6 eya6.size _
      have hnx : Below vya8.heap.size vya8 (vya8.alloc (.cells #[.slice none 0 0, .int .i64 0] 24)) := Below.alloc (Below.refl _ _) (Nat.le_refl _) _
      go_wp2_with fail
      have nepxpu : gpx ≠ vya8.heap.size := Nat.ne_of_lt px.lt
      have nepypu : gpy ≠ vya8.heap.size := Nat.ne_of_lt py.lt
      replace px := px.below hnx px.lt
      replace py := py.below hnx py.lt
      have pu : BK (vya8.alloc (.cells #[.slice none 0 0, .int .i64 0] 24)) vya8.heap.size #[.slice none 0 0, .int .i64 0] 24 := BK.new _ _ _
      refine hK _ _ (fun _ => eya23) ?_
      clear hK K hnx
      generalize (vya8.alloc (.cells #[.slice none 0 0, .int .i64 0] 24)) = vya25 at *
      obtain ⟨gpu, hgpu⟩ : ∃ g, vya8.heap.size = g := ⟨_, rfl⟩
      have hqpu : w2.heap.size ≤ gpu := by omega
      rw [hgpu] at pu nepxpu nepypu
      try rw [hgpu]
      clear hgpu
      refine any_run1 (i := 6) (by kernel_rfl) (by rfl) (by kernel_rfl) ?_
      intro K hK
      have qya27 := eya23.size
      have eya26 : Below w2.heap.size w2 (vya25.alloc (.cells #[.slice none 0 0, .int .i64 0] 24)) := Below.alloc eya23 eya23.size _
      have hnx : Below vya25.heap.size vya25 (vya25.alloc (.cells #[.slice none 0 0, .int .i64 0] 24)) := Below.alloc (Below.refl _ _) (Nat.le_refl _) _
      go_wp2_with fail
      have nepxpz : gpx ≠ vya25.heap.size := Nat.ne_of_lt px.lt
      have nepypz : gpy ≠ vya25.heap.size := Nat.ne_of_lt py.lt
      have nepupz : gpu ≠ vya25.heap.size := Nat.ne_of_lt pu.lt
      replace px := px.below hnx px.lt
      replace py := py.below hnx py.lt
      replace pu := pu.below hnx pu.lt
      have pz : BK (vya25.alloc (.cells #[.slice none 0 0, .int .i64 0] 24)) vya25.heap.size #[.slice none 0 0, .int .i64 0] 24 := BK.new _ _ _
      refine hK _ _ (fun _ => eya26) ?_
      clear hK K hnx
      generalize (vya25.alloc (.cells #[.slice none 0 0, .int .i64 0] 24)) = vya28 at *
      obtain ⟨gpz, hgpz⟩ : ∃ g, vya25.heap.size = g := ⟨_, rfl⟩
      have hqpz : w2.heap.size ≤ gpz := by omega
      rw [hgpz] at pz nepxpz nepypz nepupz
      try rw [hgpz]
      clear hgpz
      refine any_run1 (i := 8) (by kernel_rfl) (by rfl) (by kernel_rfl) ?_
      intro K hK
      have lpx := px.lt
      have y0 := px.cell 0
      have f0 := px.frozen 0
      have y1 := px.cell 1
      have f1 := px.frozen 1
      simp at y0 y1
      go_wp2_with fail
      have h4 := wr4 px py pz pu nepxpy.symm nepxpz.symm nepxpu.symm hqpx eya26 (.slice A l.length cap) (.int .i64 m)
      clear lpx y0 f0 y1 f1 px py pz pu
      obtain ⟨px, py, pz, pu, eya29⟩ := h4
      refine hK _ _ (fun _ => eya29) ?_
      clear hK K
      generalize ((vya28.setCell ⟨gpx, 0, none⟩ (.slice A l.length cap)).setCell ⟨gpx, 1, none⟩ (.int .i64 m)) = vya30 at *
      refine any_run1 (i := 9) (by kernel_rfl) (by rfl) (by kernel_rfl) ?_
      intro K hK
      have lpy := py.lt
      have y0 := py.cell 0
      have f0 := py.frozen 0
      have y1 := py.cell 1
      have f1 := py.frozen 1
      simp at y0 y1
      go_wp2_with fail
      have h4 := wr4 py px pz pu nepxpy nepypz.symm nepypu.symm hqpy eya29 (.slice A l.length cap) (.int .i64 m)
      clear lpy y0 f0 y1 f1 px py pz pu
      obtain ⟨py, px, pz, pu, eya31⟩ := h4
      refine hK _ _ (fun _ => eya31) ?_
      clear hK K
      generalize ((vya30.setCell ⟨gpy, 0, none⟩ (.slice A l.length cap)).setCell ⟨gpy, 1, none⟩ (.int .i64 m)) = vya32 at *
      refine any_run1 (i := 10) (by kernel_rfl) (by rfl) (by kernel_rfl) ?_
      intro K hK
      have lpz := pz.lt
      have y0 := pz.cell 0
      have f0 := pz.frozen 0
      have y1 := pz.cell 1
      have f1 := pz.frozen 1
      simp at y0 y1
      go_wp2_with fail
      have h4 := wr4 pz px py pu nepxpz nepypz nepupz hqpz eya31 (.slice A l.length cap) (.int .i64 m)
      clear lpz y0 f0 y1 f1 px py pz pu
      obtain ⟨pz, px, py, pu, eya33⟩ := h4
      refine hK _ _ (fun _ => eya33) ?_
      clear hK K
      generalize ((vya32.setCell ⟨gpz, 0, none⟩ (.slice A l.length cap)).setCell ⟨gpz, 1, none⟩ (.int .i64 m)) = vya34 at *
      refine any_run1 (i := 11) (by kernel_rfl) (by rfl) (by kernel_rfl) ?_
      intro K hK
      have lpu := pu.lt
      have y0 := pu.cell 0
      have f0 := pu.frozen 0
      have y1 := pu.cell 1
      have f1 := pu.frozen 1
      simp at y0 y1
      go_wp2_with fail
      have h4 := wr4 pu px py pz nepxpu nepypu nepupz.symm hqpu eya33 (.slice A l.length cap) (.int .i64 m)
      clear lpu y0 f0 y1 f1 px py pz pu
      obtain ⟨pu, px, py, pz, eya35⟩ := h4
      refine hK _ _ (fun _ => eya35) ?_
      clear hK K
      generalize ((vya34.setCell ⟨gpu, 0, none⟩ (.slice A l.length cap)).setCell ⟨gpu, 1, none⟩ (.int .i64 m)) = vya36 at *
      refine any_done (by kernel_rfl) (NoPanic.normal ?_)
      exact ⟨rfl, by simp [setAll], rfl, _, _, _, _, rfl, rfl, rfl, rfl, nepxpy, nepxpz, nepxpu, nepypz, nepypu, nepupz.symm, px, py, pz, pu, hqpx, hqpy, hqpz, hqpu, eya35⟩
    ·skip
     intro K hK
     have qya38 := eya3.size
     have eya37 : Below w2.heap.size w2 (vya5.alloc (.cells #[.slice none 0 0, .int .i64 0] 24)) := Below.alloc eya3 eya3.size _
     have hnx : Below vya5.heap.size vya5 (vya5.alloc (.cells #[.slice none 0 0, .int .i64 0] 24)) := Below.alloc (Below.refl _ _) (Nat.le_refl _) _
     go_wp2_with fail
     have nepxpz : gpx ≠ vya5.heap.size := Nat.ne_of_lt px.lt
     replace px := px.below hnx px.lt
     have pz : BK (vya5.alloc (.cells #[.slice none 0 0, .int .i64 0] 24)) vya5.heap.size #[.slice none 0 0, .int .i64 0] 24 := BK.new _ _ _
     refine hK _ _ (fun _ => eya37) ?_
     clear hK K hnx
     generalize (vya5.alloc (.cells #[.slice none 0 0, .int .i64 0] 24)) = vya39 at *
     obtain ⟨gpz, hgpz⟩ : ∃ g, vya5.heap.size = g := ⟨_, rfl⟩
     have hqpz : w2.heap.size ≤ gpz := by omega
     rw [hgpz] at pz nepxpz
     try rw [hgpz]
     clear hgpz
     refine any_run2 (i := 5) (j := 7) (by kernel_rfl) (by rfl) (by rfl) (by rfl) (by rfl) ?_ ?_
     ·skip
      intro K hK
      have qya41 := eya37.size
      have eya40 : Below w2.heap.size w2 (vya39.alloc (.cells #[.slice none 0 0, .int .i64 0] 24)) := Below.alloc eya37 eya37.size _
      have hnx : Below vya39.heap.size vya39 (vya39.alloc (.cells #[.slice none 0 0, .int .i64 0] 24)) := Below.alloc (Below.refl _ _) (Nat.le_refl _) _
      go_wp2_with fail
      have nepxpy : gpx ≠ vya39.heap.size := Nat.ne_of_lt px.lt
      have nepzpy : gpz ≠ vya39.heap.size := Nat.ne_of_lt pz.lt
      replace px := px.below hnx px.lt
      replace pz := pz.below hnx pz.lt
      have py : BK (vya39.alloc (.cells #[.slice none 0 0, .int .i64 0] 24)) vya39.heap.size #[.slice none 0 0, .int .i64 0] 24 := BK.new _ _ _
      refine hK _ _ (fun _ => eya40) ?_
      clear hK K hnx
      generalize (vya39.alloc (.cells #[.slice none 0 0, .int .i64 0] 24)) = vya42 at *
      obtain ⟨gpy, hgpy⟩ : ∃ g, vya39.heap.size = g := ⟨_, rfl⟩
      have hqpy : w2.heap.size ≤ gpy := by omega
      rw [hgpy] at py nepxpy nepzpy
      try rw [hgpy]
      clear hgpy
      refine any_run1 (i := 7) (by kernel_rfl) (by rfl) (by kernel_rfl) ?_
      intro K hK
      have qya44 := eya40.size
      have eya43 : Below w2.heap.size w2 (vya42.alloc (.cells #[.slice none 0 0, .int .i64 0] 24)) := Below.alloc eya40 eya40.size _
      have hnx : Below vya42.heap.size vya42 (vya42.alloc (.cells #[.slice none 0 0, .int .i64 0] 24)) := Below.alloc (Below.refl _ _) (Nat.le_refl _) _
      go_wp2_with fail
      have nepxpu : gpx ≠ vya42.heap.size := Nat.ne_of_lt px.lt
      have nepzpu : gpz ≠ vya42.heap.size := Nat.ne_of_lt pz.lt
      have nepypu : gpy ≠ vya42.heap.size := Nat.ne_of_lt py.lt
      replace px := px.below hnx px.lt
      replace pz := pz.below hnx pz.lt
      replace py := py.below hnx py.lt
      have pu : BK (vya42.alloc (.cells #[.slice none 0 0, .int .i64 0] 24)) vya42.heap.size #[.slice none 0 0, .int .i64 0] 24 := BK.new _ _ _
      refine hK _ _ (fun _ => eya43) ?_
      clear hK K hnx
      generalize (vya42.alloc (.cells #[.slice none 0 0, .int .i64 0] 24)) = vya45 at *
      obtain ⟨gpu, hgpu⟩ : ∃ g, vya42.heap.size = g := ⟨_, rfl⟩
      have hqpu : w2.heap.size ≤ gpu := by omega
      rw [hgpu] at pu nepxpu nepzpu nepypu
      try rw [hgpu]
      clear hgpu
      refine any_run1 (i := 8) (by kernel_rfl) (by rfl) (by kernel_rfl) ?_
      intro K hK
      have lpx := px.lt
      have y0 := px.cell 0
      have f0 := px.frozen 0
      have y1 := px.cell 1
      have f1 := px.frozen 1
      simp at y0 y1
      go_wp2_with fail
      have h4 := wr4 px py pz pu nepxpy.symm nepxpz.symm nepxpu.symm hqpx eya43 (.slice A l.length cap) (.int .i64 m)
      clear lpx y0 f0 y1 f1 px py pz pu
      obtain ⟨px, py, pz, pu, eya46⟩ := h4
      refine hK _ _ (fun _ => eya46) ?_
      clear hK K
      generalize ((vya45.setCell ⟨gpx, 0, none⟩ (.slice A l.length cap)).setCell ⟨gpx, 1, none⟩ (.int .i64 m)) = vya47 at *
      refine any_run1 (i := 9) (by kernel_rfl) (by rfl) (by kernel_rfl) ?_
      intro K hK
      have lpy := py.lt
      have y0 := py.cell 0
      have f0 := py.frozen 0
      have y1 := py.cell 1
      have f1 := py.frozen 1
      simp at y0 y1
      go_wp2_with fail
      have h4 := wr4 py px pz pu nepxpy nepzpy nepypu.symm hqpy eya46 (.slice A l.length cap) (.int .i64 m)
      clear lpy y0 f0 y1 f1 px py pz pu
      obtain ⟨py, px, pz, pu, eya48⟩ := h4
      refine hK _ _ (fun _ => eya48) ?_
      clear hK K
      generalize ((vya47.setCell ⟨gpy, 0, none⟩ (.slice A l.length cap)).setCell ⟨gpy, 1, none⟩ (.int .i64 m)) = vya49 at *
      refine any_run1 (i := 10) (by kernel_rfl) (by rfl) (by kernel_rfl) ?_
      intro K hK
      have lpz := pz.lt
      have y0 := pz.cell 0
      have f0 := pz.frozen 0
      have y1 := pz.cell 1
      have f1 := pz.frozen 1
      simp at y0 y1
      go_wp2_with fail
      have h4 := wr4 pz px py pu nepxpz nepzpy.symm nepzpu.symm hqpz eya48 (.slice A l.length cap) (.int .i64 m)
      clear lpz y0 f0 y1 f1 px py pz pu
      obtain ⟨pz, px, py, pu, eya50⟩ := h4
      refine hK _ _ (fun _ => eya50) ?_
      clear hK K
      generalize ((vya49.setCell ⟨gpz, 0, none⟩ (.slice A l.length cap)).setCell ⟨gpz, 1, none⟩ (.int .i64 m)) = vya51 at *
      refine any_run1 (i := 11) (by kernel_rfl) (by rfl) (by kernel_rfl) ?_
      intro K hK
      have lpu := pu.lt
      have y0 := pu.cell 0
      have f0 := pu.frozen 0
      have y1 := pu.cell 1
      have f1 := pu.frozen 1
      simp at y0 y1
      go_wp2_with fail
      have h4 := wr4 pu px py pz nepxpu nepypu nepzpu hqpu eya50 (.slice A l.length cap) (.int .i64 m)
      clear lpu y0 f0 y1 f1 px py pz pu
      obtain ⟨pu, px, py, pz, eya52⟩ := h4
      refine hK _ _ (fun _ => eya52) ?_
      clear hK K
      generalize ((vya51.setCell ⟨gpu, 0, none⟩ (.slice A l.length cap)).setCell ⟨gpu, 1, none⟩ (.int .i64 m)) = vya53 at *
      refine any_done (by kernel_rfl) (NoPanic.normal ?_)
      exact ⟨rfl, by simp [setAll], rfl, _, _, _, _, rfl, rfl, rfl, rfl, nepxpy, nepxpz, nepxpu, nepzpy.symm, nepypu, nepzpu, px, py, pz, pu, hqpx, hqpy, hqpz, hqpu, eya52⟩
     ·skip
      intro K hK
      have qya55 := eya37.size
      have eya54 : Below w2.heap.size w2 (vya39.alloc (.cells #[.slice none 0 0, .int .i64 0] 24)) := Below.alloc eya37 eya37.size _
      have hnx : Below vya39.heap.size vya39 (vya39.alloc (.cells #[.slice none 0 0, .int .i64 0] 24)) := Below.alloc (Below.refl _ _) (Nat.le_refl _) _
      go_wp2_with fail
      have nepxpu : gpx ≠ vya39.heap.size := Nat.ne_of_lt px.lt
      have nepzpu : gpz ≠ vya39.heap.size := Nat.ne_of_lt pz.lt
      replace px := px.below hnx px.lt
      replace pz := pz.below hnx pz.lt
      have pu : BK (vya39.alloc (.cells #[.slice none 0 0, .int .i64 0] 24)) vya39.heap.size #[.slice none 0 0, .int .i64 0] 24 := BK.new _ _ _
      refine hK _ _ (fun _ => eya54) ?_
      clear hK K hnx
      generalize (vya39.alloc (.cells #[.slice none 0 0, .int .i64 0] 24)) = vya56 at *
      obtain ⟨gpu, hgpu⟩ : ∃ g, vya39.heap.size = g := ⟨_, rfl⟩
      have hqpu : w2.heap.size ≤ gpu := by omega
      rw [hgpu] at pu nepxpu nepzpu
      try rw [hgpu]
      clear hgpu
      refine any_run1 (i := 5) (by kernel_rfl) (by rfl) (by kernel_rfl) ?_
      intro K hK
      have qya58 := eya54.size
      have eya57 : Below w2.heap.size w2 (vya56.alloc (.cells #[.slice none 0 0, .int .i64 0] 24)) := Below.alloc eya54 eya54.size _
      have hnx : Below vya56.heap.size vya56 (vya56.alloc (.cells #[.slice none 0 0, .int .i64 0] 24)) := Below.alloc (Below.refl _ _) (Nat.le_refl _) _
      go_wp2_with fail
      have nepxpy : gpx ≠ vya56.heap.size := Nat.ne_of_lt px.lt
      have nepzpy : gpz ≠ vya56.heap.size := Nat.ne_of_lt pz.lt
      have nepupy : gpu ≠ vya56.heap.size := Nat.ne_of_lt pu.lt
      replace px := px.below hnx px.lt
      replace pz := pz.below hnx pz.lt
      replace pu := pu.below hnx pu.lt
      have py : BK (vya56.alloc (.cells #[.slice none 0 0, .int .i64 0] 24)) vya56.heap.size #[.slice none 0 0, .int .i64 0] 24 := BK.new _ _ _
      refine hK _ _ (fun _ => eya57) ?_
      clear hK K hnx
      generalize (vya56.alloc (.cells #[.slice none 0 0, .int .i64 0] 24)) = vya59 at *
      obtain ⟨gpy, hgpy⟩ : ∃ g, vya56.heap.size = g := ⟨_, rfl⟩
      have hqpy : w2.heap.size ≤ gpy := by omega
      rw [hgpy] at py nepxpy nepzpy nepupy
      try rw [hgpy]
      clear hgpy
      refine any_run1 (i := 8) (by kernel_rfl) (by rfl) (by kernel_rfl) ?_
      intro K hK
      have lpx := px.lt
      have y0 := px.cell 0
      have f0 := px.frozen 0
      have y1 := px.cell 1
      have f1 := px.frozen 1
      simp at y0 y1
      go_wp2_with fail
      have h4 := wr4 px py pz pu nepxpy.symm nepxpz.symm nepxpu.symm hqpx eya57 (.slice A l.length cap) (.int .i64 m)
      clear lpx y0 f0 y1 f1 px py pz pu
      obtain ⟨px, py, pz, pu, eya60⟩ := h4
      refine hK _ _ (fun _ => eya60) ?_
      clear hK K
      generalize ((vya59.setCell ⟨gpx, 0, none⟩ (.slice A l.length cap)).setCell ⟨gpx, 1, none⟩ (.int .i64 m)) = vya61 at *
      refine any_run1 (i := 9) (by kernel_rfl) (by rfl) (by kernel_rfl) ?_
      intro K hK
      have lpy := py.lt
      have y0 := py.cell 0
      have f0 := py.frozen 0
      have y1 := py.cell 1
      have f1 := py.frozen 1
      simp at y0 y1
      go_wp2_with fail
      have h4 := wr4 py px pz pu nepxpy nepzpy nepupy hqpy eya60 (.slice A l.length cap) (.int .i64 m)
      clear lpy y0 f0 y1 f1 px py pz pu
      obtain ⟨py, px, pz, pu, eya62⟩ := h4
      refine hK _ _ (fun _ => eya62) ?_
      clear hK K
      generalize ((vya61.setCell ⟨gpy, 0, none⟩ (.slice A l.length cap)).setCell ⟨gpy, 1, none⟩ (.int .i64 m)) = vya63 at *
      refine any_run1 (i := 10) (by kernel_rfl) (by rfl) (by kernel_rfl) ?_
      intro K hK
      have lpz := pz.lt
      have y0 := pz.cell 0
      have f0 := pz.frozen 0
      have y1 := pz.cell 1
      have f1 := pz.frozen 1
      simp at y0 y1
      go_wp2_with fail
      have h4 := wr4 pz px py pu nepxpz nepzpy.symm nepzpu.symm hqpz eya62 (.slice A l.length cap) (.int .i64 m)
      clear lpz y0 f0 y1 f1 px py pz pu
      obtain ⟨pz, px, py, pu, eya64⟩ := h4
      refine hK _ _ (fun _ => eya64) ?_
      clear hK K
      generalize ((vya63.setCell ⟨gpz, 0, none⟩ (.slice A l.length cap)).setCell ⟨gpz, 1, none⟩ (.int .i64 m)) = vya65 at *
      refine any_run1 (i := 11) (by kernel_rfl) (by rfl) (by kernel_rfl) ?_
      intro K hK
      have lpu := pu.lt
      have y0 := pu.cell 0
      have f0 := pu.frozen 0
      have y1 := pu.cell 1
      have f1 := pu.frozen 1
      simp at y0 y1
      go_wp2_with fail
      have h4 := wr4 pu px py pz nepxpu nepupy.symm nepzpu hqpu eya64 (.slice A l.length cap) (.int .i64 m)
      clear lpu y0 f0 y1 f1 px py pz pu
      obtain ⟨pu, px, py, pz, eya66⟩ := h4
      refine hK _ _ (fun _ => eya66) ?_
      clear hK K
      generalize ((vya65.setCell ⟨gpu, 0, none⟩ (.slice A l.length cap)).setCell ⟨gpu, 1, none⟩ (.int .i64 m)) = vya67 at *
      refine any_done (by kernel_rfl) (NoPanic.normal ?_)
      exact ⟨rfl, by simp [setAll], rfl, _, _, _, _, rfl, rfl, rfl, rfl, nepxpy, nepxpz, nepxpu, nepzpy.symm, nepupy.symm, nepzpu, px, py, pz, pu, hqpx, hqpy, hqpz, hqpu, eya66⟩
    ·skip
     intro K hK
     have qya69 := eya3.size
     have eya68 : Below w2.heap.size w2 (vya5.alloc (.cells #[.slice none 0 0, .int .i64 0] 24)) := Below.alloc eya3 eya3.size _
     have hnx : Below vya5.heap.size vya5 (vya5.alloc (.cells #[.slice none 0 0, .int .i64 0] 24)) := Below.alloc (Below.refl _ _) (Nat.le_refl _) _
     go_wp2_with fail
     have nepxpu : gpx ≠ vya5.heap.size := Nat.ne_of_lt px.lt
     replace px := px.below hnx px.lt
     have pu : BK (vya5.alloc (.cells #[.slice none 0 0, .int .i64 0] 24)) vya5.heap.size #[.slice none 0 0, .int .i64 0] 24 := BK.new _ _ _
     refine hK _ _ (fun _ => eya68) ?_
     clear hK K hnx
     generalize (vya5.alloc (.cells #[.slice none 0 0, .int .i64 0] 24)) = vya70 at *
     obtain ⟨gpu, hgpu⟩ : ∃ g, vya5.heap.size = g := ⟨_, rfl⟩
     have hqpu : w2.heap.size ≤ gpu := by omega
     rw [hgpu] at pu nepxpu
     try rw [hgpu]
     clear hgpu
     refine any_run2 (i := 5) (j := 6) (by kernel_rfl) (by rfl) (by rfl) (by rfl) (by rfl) ?_ ?_
     ·skip
      intro K hK
      have qya72 := eya68.size
      have eya71 : Below w2.heap.size w2 (vya70.alloc (.cells #[.slice none 0 0, .int .i64 0] 24)) := Below.alloc eya68 eya68.size _
      have hnx : Below vya70.heap.size vya70 (vya70.alloc (.cells #[.slice none 0 0, .int .i64 0] 24)) := Below.alloc (Below.refl _ _) (Nat.le_refl _) _
      go_wp2_with fail
      have nepxpy : gpx ≠ vya70.heap.size := Nat.ne_of_lt px.lt
      have nepupy : gpu ≠ vya70.heap.size := Nat.ne_of_lt pu.lt
      replace px := px.below hnx px.lt
      replace pu := pu.below hnx pu.lt
      have py : BK (vya70.alloc (.cells #[.slice none 0 0, .int .i64 0] 24)) vya70.heap.size #[.slice none 0 0, .int .i64 0] 24 := BK.new _ _ _
      refine hK _ _ (fun _ => eya71) ?_
      clear hK K hnx
      generalize (vya70.alloc (.cells #[.slice none 0 0, .int .i64 0] 24)) = vya73 at *
      obtain ⟨gpy, hgpy⟩ : ∃ g, vya70.heap.size = g := ⟨_, rfl⟩
      have hqpy : w2.heap.size ≤ gpy := by omega
      rw [hgpy] at py nepxpy nepupy
      try rw [hgpy]
      clear hgpy
      refine any_run1 (i := 6) (by kernel_rfl) (by rfl) (by kernel_rfl) ?_
      intro K hK
      have qya75 := eya71.size
      have eya74 : Below w2.heap.size w2 (vya73.alloc (.cells #[.slice none 0 0, .int .i64 0] 24)) := Below.alloc eya71 eya71.size _
      have hnx : Below vya73.heap.size vya73 (vya73.alloc (.cells #[.slice none 0 0, .int .i64 0] 24)) := Below.alloc (Below.refl _ _) (Nat.le_refl _) _
      go_wp2_with fail
      have nepxpz : gpx ≠ vya73.heap.size := Nat.ne_of_lt px.lt
      have nepupz : gpu ≠ vya73.heap.size := Nat.ne_of_lt pu.lt
      have nepypz : gpy ≠ vya73.heap.size := Nat.ne_of_lt py.lt
      replace px := px.below hnx px.lt
      replace pu := pu.below hnx pu.lt
      replace py := py.below hnx py.lt
      have pz : BK (vya73.alloc (.cells #[.slice none 0 0, .int .i64 0] 24)) vya73.heap.size #[.slice none 0 0, .int .i64 0] 24 := BK.new _ _ _
      refine hK _ _ (fun _ => eya74) ?_
      clear hK K hnx
      generalize (vya73.alloc (.cells #[.slice none 0 0, .int .i64 0] 24)) = vya76 at *
      obtain ⟨gpz, hgpz⟩ : ∃ g, vya73.heap.size = g := ⟨_, rfl⟩
      have hqpz : w2.heap.size ≤ gpz := by omega
      rw [hgpz] at pz nepxpz nepupz nepypz
      try rw [hgpz]
      clear hgpz
      refine any_run1 (i := 8) (by kernel_rfl) (by rfl) (by kernel_rfl) ?_
      intro K hK
      have lpx := px.lt
      have y0 := px.cell 0
      have f0 := px.frozen 0
      have y1 := px.cell 1
      have f1 := px.frozen 1
      simp at y0 y1
      go_wp2_with fail
      have h4 := wr4 px py pz pu nepxpy.symm nepxpz.symm nepxpu.symm hqpx eya74 (.slice A l.length cap) (.int .i64 m)
      clear lpx y0 f0 y1 f1 px py pz pu
      obtain ⟨px, py, pz, pu, eya77⟩ := h4
      refine hK _ _ (fun _ => eya77) ?_
      clear hK K
      generalize ((vya76.setCell ⟨gpx, 0, none⟩ (.slice A l.length cap)).setCell ⟨gpx, 1, none⟩ (.int .i64 m)) = vya78 at *
      refine any_run1 (i := 9) (by kernel_rfl) (by rfl) (by kernel_rfl) ?_
      intro K hK
      have lpy := py.lt
      have y0 := py.cell 0
      have f0 := py.frozen 0
      have y1 := py.cell 1
      have f1 := py.frozen 1
      simp at y0 y1
      go_wp2_with fail
      have h4 := wr4 py px pz pu nepxpy nepypz.symm nepupy hqpy eya77 (.slice A l.length cap) (.int .i64 m)
      clear lpy y0 f0 y1 f1 px py pz pu
      obtain ⟨py, px, pz, pu, eya79⟩ := h4
      refine hK _ _ (fun _ => eya79) ?_
      clear hK K
      generalize ((vya78.setCell ⟨gpy, 0, none⟩ (.slice A l.length cap)).setCell ⟨gpy, 1, none⟩ (.int .i64 m)) = vya80 at *
      refine any_run1 (i := 10) (by kernel_rfl) (by rfl) (by kernel_rfl) ?_
      intro K hK
      have lpz := pz.lt
      have y0 := pz.cell 0
      have f0 := pz.frozen 0
      have y1 := pz.cell 1
      have f1 := pz.frozen 1
      simp at y0 y1
      go_wp2_with fail
      have h4 := wr4 pz px py pu nepxpz nepypz nepupz hqpz eya79 (.slice A l.length cap) (.int .i64 m)
      clear lpz y0 f0 y1 f1 px py pz pu
      obtain ⟨pz, px, py, pu, eya81⟩ := h4
      refine hK _ _ (fun _ => eya81) ?_
      clear hK K
      generalize ((vya80.setCell ⟨gpz, 0, none⟩ (.slice A l.length cap)).setCell ⟨gpz, 1, none⟩ (.int .i64 m)) = vya82 at *
      refine any_run1 (i := 11) (by kernel_rfl) (by rfl) (by kernel_rfl) ?_
      intro K hK
      have lpu := pu.lt
      have y0 := pu.cell 0
      have f0 := pu.frozen 0
      have y1 := pu.cell 1
      have f1 := pu.frozen 1
      simp at y0 y1
      go_wp2_with fail
      have h4 := wr4 pu px py pz nepxpu nepupy.symm nepupz.symm hqpu eya81 (.slice A l.length cap) (.int .i64 m)
      clear lpu y0 f0 y1 f1 px py pz pu
      obtain ⟨pu, px, py, pz, eya83⟩ := h4
      refine hK _ _ (fun _ => eya83) ?_
      clear hK K
      generalize ((vya82.setCell ⟨gpu, 0, none⟩ (.slice A l.length cap)).setCell ⟨gpu, 1, none⟩ (.int .i64 m)) = vya84 at *
      refine any_done (by kernel_rfl) (NoPanic.normal ?_)
      exact ⟨rfl, by simp [setAll], rfl, _, _, _, _, rfl, rfl, rfl, rfl, nepxpy, nepxpz, nepxpu, nepypz, nepupy.symm, nepupz.symm, px, py, pz, pu, hqpx, hqpy, hqpz, hqpu, eya83⟩
     ·skip
      intro K hK
      have qya86 := eya68.size
      have eya85 : Below w2.heap.size w2 (vya70.alloc (.cells #[.slice none 0 0, .int .i64 0] 24)) := Below.alloc eya68 eya68.size _
      have hnx : Below vya70.heap.size vya70 (vya70.alloc (.cells #[.slice none 0 0, .int .i64 0] 24)) := Below.alloc (Below.refl _ _) (Nat.le_refl _) _
      go_wp2_with fail
      have nepxpz : gpx ≠ vya70.heap.size := Nat.ne_of_lt px.lt
      have nepupz : gpu ≠ vya70.heap.size := Nat.ne_of_lt pu.lt
      replace px := px.below hnx px.lt
      replace pu := pu.below hnx pu.lt
      have pz : BK (vya70.alloc (.cells #[.slice none 0 0, .int .i64 0] 24)) vya70.heap.size #[.slice none 0 0, .int .i64 0] 24 := BK.new _ _ _
      refine hK _ _ (fun _ => eya85) ?_
      clear hK K hnx
      generalize (vya70.alloc (.cells #[.slice none 0 0, .int .i64 0] 24)) = vya87 at *
      obtain ⟨gpz, hgpz⟩ : ∃ g, vya70.heap.size = g := ⟨_, rfl⟩
      have hqpz : w2.heap.size ≤ gpz := by omega
      rw [hgpz] at pz nepxpz nepupz
      try rw [hgpz]
      clear hgpz
      refine any_run1 (i := 5) (by kernel_rfl) (by rfl) (by kernel_rfl) ?_
      intro K hK
      have qya89 := eya85.size
      have eya88 : Below w2.heap.size w2 (vya87.alloc (.cells #[.slice none 0 0, .int .i64 0] 24)) := Below.alloc eya85 eya85.size _
      have hnx : Below vya87.heap.size vya87 (vya87.alloc (.cells #[.slice none 0 0, .int .i64 0] 24)) := Below.alloc (Below.refl _ _) (Nat.le_refl _) _
      go_wp2_with fail
      have nepxpy : gpx ≠ vya87.heap.size := Nat.ne_of_lt px.lt
      have nepupy : gpu ≠ vya87.heap.size := Nat.ne_of_lt pu.lt
      have nepzpy : gpz ≠ vya87.heap.size := Nat.ne_of_lt pz.lt
      replace px := px.below hnx px.lt
      replace pu := pu.below hnx pu.lt
      replace pz := pz.below hnx pz.lt
      have py : BK (vya87.alloc (.cells #[.slice none 0 0, .int .i64 0] 24)) vya87.heap.size #[.slice none 0 0, .int .i64 0] 24 := BK.new _ _ _
      refine hK _ _ (fun _ => eya88) ?_
      clear hK K hnx
      generalize (vya87.alloc (.cells #[.slice none 0 0, .int .i64 0] 24)) = vya90 at *
      obtain ⟨gpy, hgpy⟩ : ∃ g, vya87.heap.size = g := ⟨_, rfl⟩
      have hqpy : w2.heap.size ≤ gpy := by omega
      rw [hgpy] at py nepxpy nepupy nepzpy
      try rw [hgpy]
      clear hgpy
      refine any_run1 (i := 8) (by kernel_rfl) (by rfl) (by kernel_rfl) ?_
      intro K hK
      have lpx := px.lt
      have y0 := px.cell 0
      have f0 := px.frozen 0
      have y1 := px.cell 1
      have f1 := px.frozen 1
      simp at y0 y1
      go_wp2_with fail
      have h4 := wr4 px py pz pu nepxpy.symm nepxpz.symm nepxpu.symm hqpx eya88 (.slice A l.length cap) (.int .i64 m)
      clear lpx y0 f0 y1 f1 px py pz pu
      obtain ⟨px, py, pz, pu, eya91⟩ := h4
      refine hK _ _ (fun _ => eya91) ?_
      clear hK K
      generalize ((vya90.setCell ⟨gpx, 0, none⟩ (.slice A l.length cap)).setCell ⟨gpx, 1, none⟩ (.int .i64 m)) = vya92 at *
      refine any_run1 (i := 9) (by kernel_rfl) (by rfl) (by kernel_rfl) ?_
      intro K hK
      have lpy := py.lt
      have y0 := py.cell 0
      have f0 := py.frozen 0
      have y1 := py.cell 1
      have f1 := py.frozen 1
      simp at y0 y1
      go_wp2_with fail
      have h4 := wr4 py px pz pu nepxpy nepzpy nepupy hqpy eya91 (.slice A l.length cap) (.int .i64 m)
      clear lpy y0 f0 y1 f1 px py pz pu
      obtain ⟨py, px, pz, pu, eya93⟩ := h4
      refine hK _ _ (fun _ => eya93) ?_
      clear hK K
      generalize ((vya92.setCell ⟨gpy, 0, none⟩ (.slice A l.length cap)).setCell ⟨gpy, 1, none⟩ (.int .i64 m)) = vya94 at *
      refine any_run1 (i := 10) (by kernel_rfl) (by rfl) (by kernel_rfl) ?_
      intro K hK
      have lpz := pz.lt
      have y0 := pz.cell 0
      have f0 := pz.frozen 0
      have y1 := pz.cell 1
      have f1 := pz.frozen 1
      simp at y0 y1
      go_wp2_with fail
      have h4 := wr4 pz px py pu nepxpz nepzpy.symm nepupz hqpz eya93 (.slice A l.length cap) (.int .i64 m)
      clear lpz y0 f0 y1 f1 px py pz pu
      obtain ⟨pz, px, py, pu, eya95⟩ := h4
      refine hK _ _ (fun _ => eya95) ?_
      clear hK K
      generalize ((vya94.setCell ⟨gpz, 0, none⟩ (.slice A l.length cap)).setCell ⟨gpz, 1, none⟩ (.int .i64 m)) = vya96 at *
      refine any_run1 (i := 11) (by kernel_rfl) (by rfl) (by kernel_rfl) ?_
      intro K hK
      have lpu := pu.lt
      have y0 := pu.cell 0
      have f0 := pu.frozen 0
      have y1 := pu.cell 1
      have f1 := pu.frozen 1
      simp at y0 y1
      go_wp2_with fail
      have h4 := wr4 pu px py pz nepxpu nepupy.symm nepupz.symm hqpu eya95 (.slice A l.length cap) (.int .i64 m)
      clear lpu y0 f0 y1 f1 px py pz pu
      obtain ⟨pu, px, py, pz, eya97⟩ := h4
      refine hK _ _ (fun _ => eya97) ?_
      clear hK K
      generalize ((vya96.setCell ⟨gpu, 0, none⟩ (.slice A l.length cap)).setCell ⟨gpu, 1, none⟩ (.int .i64 m)) = vya98 at *
      refine any_done (by kernel_rfl) (NoPanic.normal ?_)
      exact ⟨rfl, by simp [setAll], rfl, _, _, _, _, rfl, rfl, rfl, rfl, nepxpy, nepxpz, nepxpu, nepzpy.symm, nepupy.symm, nepupz.symm, px, py, pz, pu, hqpx, hqpy, hqpz, hqpu, eya97⟩
   ·skip
    intro K hK
    have qya100 := dya1.size
    have eya99 : Below w2.heap.size w2 (uya2.alloc (.cells #[.slice none 0 0, .int .i64 0] 24)) := Below.alloc dya1 dya1.size _
    have hnx : Below uya2.heap.size uya2 (uya2.alloc (.cells #[.slice none 0 0, .int .i64 0] 24)) := Below.alloc (Below.refl _ _) (Nat.le_refl _) _
    go_wp2_with fail
    have py : BK (uya2.alloc (.cells #[.slice none 0 0, .int .i64 0] 24)) uya2.heap.size #[.slice none 0 0, .int .i64 0] 24 := BK.new _ _ _
    refine hK _ _ (fun _ => eya99) ?_
    clear hK K hnx
    generalize (uya2.alloc (.cells #[.slice none 0 0, .int .i64 0] 24)) = vya101 at *
    obtain ⟨gpy, hgpy⟩ : ∃ g, uya2.heap.size = g := ⟨_, rfl⟩
    have hqpy : w2.heap.size ≤ gpy := by omega
    rw [hgpy] at py
    try rw [hgpy]
    clear hgpy
    refine any_run3 (i := 4) (j := 6) (k := 7) (by kernel_rfl) (by rfl) (by rfl) (by rfl) (by rfl) (by rfl) (by rfl) ?_ ?_ ?_
    ·skip
     intro K hK
     have qya103 := eya99.size
     have eya102 : Below w2.heap.size w2 (vya101.alloc (.cells #[.slice none 0 0, .int .i64 0] 24)) := Below.alloc eya99 eya99.size _
     have hnx : Below vya101.heap.size vya101 (vya101.alloc (.cells #[.slice none 0 0, .int .i64 0] 24)) := Below.alloc (Below.refl _ _) (Nat.le_refl _) _
     go_wp2_with fail
     have nepypx : gpy ≠ vya101.heap.size := Nat.ne_of_lt py.lt
     replace py := py.below hnx py.lt
     have px : BK (vya101.alloc (.cells #[.slice none 0 0, .int .i64 0] 24)) vya101.heap.size #[.slice none 0 0, .int .i64 0] 24 := BK.new _ _ _
     refine hK _ _ (fun _ => eya102) ?_
     clear hK K hnx
     generalize (vya101.alloc (.cells #[.slice none 0 0, .int .i64 0] 24)) = vya104 at *
     obtain ⟨gpx, hgpx⟩ : ∃ g, vya101.heap.size = g := ⟨_, rfl⟩
     have hqpx : w2.heap.size ≤ gpx := by omega
     rw [hgpx] at px nepypx
     try rw [hgpx]
     clear hgpx
     refine any_run2 (i := 6) (j := 7) (by kernel_rfl) (by rfl) (by rfl) (by rfl) (by rfl) ?_ ?_
     ·skip
      intro K hK
      have qya106 := eya102.size
      have eya105 : Below w2.heap.size w2 (vya104.alloc (.cells #[.slice none 0 0, .int .i64 0] 24)) := Below.alloc eya102 eya102.size _
      have hnx : Below vya104.heap.size vya104 (vya104.alloc (.cells #[.slice none 0 0, .int .i64 0] 24)) := Below.alloc (Below.refl _ _) (Nat.le_refl _) _
      go_wp2_with fail
      have nepypz : gpy ≠ vya104.heap.size := Nat.ne_of_lt py.lt
      have nepxpz : gpx ≠ vya104.heap.size := Nat.ne_of_lt px.lt
      replace py := py.below hnx py.lt
      replace px := px.below hnx px.lt
      have pz : BK (vya104.alloc (.cells #[.slice none 0 0, .int .i64 0] 24)) vya104.heap.size #[.slice none 0 0, .int .i64 0] 24 := BK.new _ _ _
      refine hK _ _ (fun _ => eya105) ?_
      clear hK K hnx
      generalize (vya104.alloc (.cells #[.slice none 0 0, .int .i64 0] 24)) = vya107 at *
      obtain ⟨gpz, hgpz⟩ : ∃ g, vya104.heap.size = g := ⟨_, rfl⟩
      have hqpz : w2.heap.size ≤ gpz := by omega
      rw [hgpz] at pz nepypz nepxpz
      try rw [hgpz]
      clear hgpz
      refine any_run1 (i := 7) (by kernel_rfl) (by rfl) (by kernel_rfl) ?_
      intro K hK
      have qya109 := eya105.size
      have eya108 : Below w2.heap.size w2 (vya107.alloc (.cells #[.slice none 0 0, .int .i64 0] 24)) := Below.alloc eya105 eya105.size _
      have hnx : Below vya107.heap.size vya107 (vya107.alloc (.cells #[.slice none 0 0, .int .i64 0] 24)) := Below.alloc (Below.refl _ _) (Nat.le_refl _) _
      go_wp2_with fail
      have nepypu : gpy ≠ vya107.heap.size := Nat.ne_of_lt py.lt
      have nepxpu : gpx ≠ vya107.heap.size := Nat.ne_of_lt px.lt
      have nepzpu : gpz ≠ vya107.heap.size := Nat.ne_of_lt pz.lt
      replace py := py.below hnx py.lt
      replace px := px.below hnx px.lt
      replace pz := pz.below hnx pz.lt
      have pu : BK (vya107.alloc (.cells #[.slice none 0 0, .int .i64 0] 24)) vya107.heap.size #[.slice none 0 0, .int .i64 0] 24 := BK.new _ _ _
      refine hK _ _ (fun _ => eya108) ?_
      clear hK K hnx
      generalize (vya107.alloc (.cells #[.slice none 0 0, .int .i64 0] 24)) = vya110 at *
      obtain ⟨gpu, hgpu⟩ : ∃ g, vya107.heap.size = g := ⟨_, rfl⟩
      have hqpu : w2.heap.size ≤ gpu := by omega
      rw [hgpu] at pu nepypu nepxpu nepzpu
      try rw [hgpu]
      clear hgpu
      refine any_run1 (i := 8) (by kernel_rfl) (by rfl) (by kernel_rfl) ?_
      intro K hK
      have lpx := px.lt
      have y0 := px.cell 0
      have f0 := px.frozen 0
      have y1 := px.cell 1
      have f1 := px.frozen 1
      simp at y0 y1
      go_wp2_with fail
      have h4 := wr4 px py pz pu nepypx nepxpz.symm nepxpu.symm hqpx eya108 (.slice A l.length cap) (.int .i64 m)
      clear lpx y0 f0 y1 f1 px py pz pu
      obtain ⟨px, py, pz, pu, eya111⟩ := h4
      refine hK _ _ (fun _ => eya111) ?_
      clear hK K
      generalize ((vya110.setCell ⟨gpx, 0, none⟩ (.slice A l.length cap)).setCell ⟨gpx, 1, none⟩ (.int .i64 m)) = vya112 at *
      refine any_run1 (i := 9) (by kernel_rfl) (by rfl) (by kernel_rfl) ?_
      intro K hK
      have lpy := py.lt
      have y0 := py.cell 0
      have f0 := py.frozen 0
      have y1 := py.cell 1
      have f1 := py.frozen 1
      simp at y0 y1
      go_wp2_with fail
      have h4 := wr4 py px pz pu nepypx.symm nepypz.symm nepypu.symm hqpy eya111 (.slice A l.length cap) (.int .i64 m)
      clear lpy y0 f0 y1 f1 px py pz pu
      obtain ⟨py, px, pz, pu, eya113⟩ := h4
      refine hK _ _ (fun _ => eya113) ?_
      clear hK K
      generalize ((vya112.setCell ⟨gpy, 0, none⟩ (.slice A l.length cap)).setCell ⟨gpy, 1, none⟩ (.int .i64 m)) = vya114 at *
      refine any_run1 (i := 10) (by kernel_rfl) (by rfl) (by kernel_rfl) ?_
      intro K hK
      have lpz := pz.lt
      have y0 := pz.cell 0
      have f0 := pz.frozen 0
      have y1 := pz.cell 1
      have f1 := pz.frozen 1
      simp at y0 y1
      go_wp2_with fail
      have h4 := wr4 pz px py pu nepxpz nepypz nepzpu.symm hqpz eya113 (.slice A l.length cap) (.int .i64 m)
      clear lpz y0 f0 y1 f1 px py pz pu
      obtain ⟨pz, px, py, pu, eya115⟩ := h4
      refine hK _ _ (fun _ => eya115) ?_
      clear hK K
      generalize ((vya114.setCell ⟨gpz, 0, none⟩ (.slice A l.length cap)).setCell ⟨gpz, 1, none⟩ (.int .i64 m)) = vya116 at *
      refine any_run1 (i := 11) (by kernel_rfl) (by rfl) (by kernel_rfl) ?_
      intro K hK
      have lpu := pu.lt
      have y0 := pu.cell 0
      have f0 := pu.frozen 0
      have y1 := pu.cell 1
      have f1 := pu.frozen 1
      simp at y0 y1
      go_wp2_with fail
      have h4 := wr4 pu px py pz nepxpu nepypu nepzpu hqpu eya115 (.slice A l.length cap) (.int .i64 m)
      clear lpu y0 f0 y1 f1 px py pz pu
      obtain ⟨pu, px, py, pz, eya117⟩ := h4
      refine hK _ _ (fun _ => eya117) ?_
      clear hK K
      generalize ((vya116.setCell ⟨gpu, 0, none⟩ (.slice A l.length cap)).setCell ⟨gpu, 1, none⟩ (.int .i64 m)) = vya118 at *
      refine any_done (by kernel_rfl) (NoPanic.normal ?_)
      exact ⟨rfl, by simp [setAll], rfl, _, _, _, _, rfl, rfl, rfl, rfl, nepypx.symm, nepxpz, nepxpu, nepypz, nepypu, nepzpu, px, py, pz, pu, hqpx, hqpy, hqpz, hqpu, eya117⟩
     ·skip
      intro K hK
      have qya120 := eya102.size
      have eya119 : Below w2.heap.size w2 (vya104.alloc (.cells #[.slice none 0 0, .int .i64 0] 24)) := Below.alloc eya102 eya102.size _
      have hnx : Below vya104.heap.size vya104 (vya104.alloc (.cells #[.slice none 0 0, .int .i64 0] 24)) := Below.alloc (Below.refl _ _) (Nat.le_refl _) _
      go_wp2_with fail
      have nepypu : gpy ≠ vya104.heap.size := Nat.ne_of_lt py.lt
      have nepxpu : gpx ≠ vya104.heap.size := Nat.ne_of_lt px.lt
      replace py := py.below hnx py.lt
      replace px := px.below hnx px.lt
      have pu : BK (vya104.alloc (.cells #[.slice none 0 0, .int .i64 0] 24)) vya104.heap.size #[.slice none 0 0, .int .i64 0] 24 := BK.new _ _ _
      refine hK _ _ (fun _ => eya119) ?_
      clear hK K hnx
      generalize (vya104.alloc (.cells #[.slice none 0 0, .int .i64 0] 24)) = vya121 at *
      obtain ⟨gpu, hgpu⟩ : ∃ g, vya104.heap.size = g := ⟨_, rfl⟩
      have hqpu : w2.heap.size ≤ gpu := by omega
      rw [hgpu] at pu nepypu nepxpu
      try rw [hgpu]
      clear hgpu
      refine any_run1 (i := 6) (by kernel_rfl) (by rfl) (by kernel_rfl) ?_
      intro K hK
      have qya123 := eya119.size
      have eya122 : Below w2.heap.size w2 (vya121.alloc (.cells #[.slice none 0 0, .int .i64 0] 24)) := Below.alloc eya119 eya119.size _
      have hnx : Below vya121.heap.size vya121 (vya121.alloc (.cells #[.slice none 0 0, .int .i64 0] 24)) := Below.alloc (Below.refl _ _) (Nat.le_refl _) _
      go_wp2_with fail
      have nepypz : gpy ≠ vya121.heap.size := Nat.ne_of_lt py.lt
      have nepxpz : gpx ≠ vya121.heap.size := Nat.ne_of_lt px.lt
      have nepupz : gpu ≠ vya121.heap.size := Nat.ne_of_lt pu.lt
      replace py := py.below hnx py.lt
      replace px := px.below hnx px.lt
      replace pu := pu.below hnx pu.lt
      have pz : BK (vya121.alloc (.cells #[.slice none 0 0, .int .i64 0] 24)) vya121.heap.size #[.slice none 0 0, .int .i64 0] 24 := BK.new _ _ _
      refine hK _ _ (fun _ => eya122) ?_
      clear hK K hnx
      generalize (vya121.alloc (.cells #[.slice none 0 0, .int .i64 0] 24)) = vya124 at *
      obtain ⟨gpz, hgpz⟩ : ∃ g, vya121.heap.size = g := ⟨_, rfl⟩
      have hqpz : w2.heap.size ≤ gpz := by omega
      rw [hgpz] at pz nepypz nepxpz nepupz
      try rw [hgpz]
      clear hgpz
      refine any_run1 (i := 8) (by kernel_rfl) (by rfl) (by kernel_rfl) ?_
      intro K hK
      have lpx := px.lt
      have y0 := px.cell 0
      have f0 := px.frozen 0
      have y1 := px.cell 1
      have f1 := px.frozen 1
      simp at y0 y1
      go_wp2_with fail
      have h4 := wr4 px py pz pu nepypx nepxpz.symm nepxpu.symm hqpx eya122 (.slice A l.length cap) (.int .i64 m)
      clear lpx y0 f0 y1 f1 px py pz pu
      obtain ⟨px, py, pz, pu, eya125⟩ := h4
      refine hK _ _ (fun _ => eya125) ?_
      clear hK K
      generalize ((vya124.setCell ⟨gpx, 0, none⟩ (.slice A l.length cap)).setCell ⟨gpx, 1, none⟩ (.int .i64 m)) = vya126 at *
      refine any_run1 (i := 9) (by kernel_rfl) (by rfl) (by kernel_rfl) ?_
      intro K hK
      have lpy := py.lt
      have y0 := py.cell 0
      have f0 := py.frozen 0
      have y1 := py.cell 1
      have f1 := py.frozen 1
      simp at y0 y1
      go_wp2_with fail
      have h4 := wr4 py px pz pu nepypx.symm nepypz.symm nepypu.symm hqpy eya125 (.slice A l.length cap) (.int .i64 m)
      clear lpy y0 f0 y1 f1 px py pz pu
      obtain ⟨py, px, pz, pu, eya127⟩ := h4
      refine hK _ _ (fun _ => eya127) ?_
      clear hK K
      generalize ((vya126.setCell ⟨gpy, 0, none⟩ (.slice A l.length cap)).setCell ⟨gpy, 1, none⟩ (.int .i64 m)) = vya128 at *
      refine any_run1 (i := 10) (by kernel_rfl) (by rfl) (by kernel_rfl) ?_
      intro K hK
      have lpz := pz.lt
      have y0 := pz.cell 0
      have f0 := pz.frozen 0
      have y1 := pz.cell 1
      have f1 := pz.frozen 1
      simp at y0 y1
      go_wp2_with fail
      have h4 := wr4 pz px py pu nepxpz nepypz nepupz hqpz eya127 (.slice A l.length cap) (.int .i64 m)
      clear lpz y0 f0 y1 f1 px py pz pu
      obtain ⟨pz, px, py, pu, eya129⟩ := h4
      refine hK _ _ (fun _ => eya129) ?_
      clear hK K
      generalize ((vya128.setCell ⟨gpz, 0, none⟩ (.slice A l.length cap)).setCell ⟨gpz, 1, none⟩ (.int .i64 m)) = vya130 at *
      refine any_run1 (i := 11) (by kernel_rfl) (by rfl) (by kernel_rfl) ?_
      intro K hK
      have lpu := pu.lt
      have y0 := pu.cell 0
      have f0 := pu.frozen 0
      have y1 := pu.cell 1
      have f1 := pu.frozen 1
      simp at y0 y1
      go_wp2_with fail
      have h4 := wr4 pu px py pz nepxpu nepypu nepupz.symm hqpu eya129 (.slice A l.length cap) (.int .i64 m)
      clear lpu y0 f0 y1 f1 px py pz pu
      obtain ⟨pu, px, py, pz, eya131⟩ := h4
      refine hK _ _ (fun _ => eya131) ?_
      clear hK K
      generalize ((vya130.setCell ⟨gpu, 0, none⟩ (.slice A l.length cap)).setCell ⟨gpu, 1, none⟩ (.int .i64 m)) = vya132 at *
      refine any_done (by kernel_rfl) (NoPanic.normal ?_)
      exact ⟨rfl, by simp [setAll], rfl, _, _, _, _, rfl, rfl, rfl, rfl, nepypx.symm, nepxpz, nepxpu, nepypz, nepypu, nepupz.symm, px, py, pz, pu, hqpx, hqpy, hqpz, hqpu, eya131⟩
    ·skip
     intro K hK
     have qya134 := eya99.size
     have eya133 : Below w2.heap.size w2 (vya101.alloc (.cells #[.slice none 0 0, .int .i64 0] 24)) := Below.alloc eya99 eya99.size _
     have hnx : Below vya101.heap.size vya101 (vya101.alloc (.cells #[.slice none 0 0, .int .i64 0] 24)) := Below.alloc (Below.refl _ _) (Nat.le_refl _) _
     go_wp2_with fail
     have nepypz : gpy ≠ vya101.heap.size := Nat.ne_of_lt py.lt
     replace py := py.below hnx py.lt
     have pz : BK (vya101.alloc (.cells #[.slice none 0 0, .int .i64 0] 24)) vya101.heap.size #[.slice none 0 0, .int .i64 0] 24 := BK.new _ _ _
     refine hK _ _ (fun _ => eya133) ?_
     clear hK K hnx
     generalize (vya101.alloc (.cells #[.slice none 0 0, .int .i64 0] 24)) = vya135 at *
     obtain ⟨gpz, hgpz⟩ : ∃ g, vya101.heap.size = g := ⟨_, rfl⟩
     have hqpz : w2.heap.size ≤ gpz := by omega
     rw [hgpz] at pz nepypz
     try rw [hgpz]
     clear hgpz
     refine any_run2 (i := 4) (j := 7) (by kernel_rfl) (by rfl) (by rfl) (by rfl) (by rfl) ?_ ?_
     ·skip
      intro K hK
      have qya137 := eya133.size
      have eya136 : Below w2.heap.size w2 (vya135.alloc (.cells #[.slice none 0 0, .int .i64 0] 24)) := Below.alloc eya133 eya133.size _
      have hnx : Below vya135.heap.size vya135 (vya135.alloc (.cells #[.slice none 0 0, .int .i64 0] 24)) := Below.alloc (Below.refl _ _) (Nat.le_refl _) _
      go_wp2_with fail
      have nepypx : gpy ≠ vya135.heap.size := Nat.ne_of_lt py.lt
      have nepzpx : gpz ≠ vya135.heap.size := Nat.ne_of_lt pz.lt
      replace py := py.below hnx py.lt
      replace pz := pz.below hnx pz.lt
      have px : BK (vya135.alloc (.cells #[.slice none 0 0, .int .i64 0] 24)) vya135.heap.size #[.slice none 0 0, .int .i64 0] 24 := BK.new _ _ _
      refine hK _ _ (fun _ => eya136) ?_
      clear hK K hnx
      generalize (vya135.alloc (.cells #[.slice none 0 0, .int .i64 0] 24)) = vya138 at *
      obtain ⟨gpx, hgpx⟩ : ∃ g, vya135.heap.size = g := ⟨_, rfl⟩
      have hqpx : w2.heap.size ≤ gpx := by omega
      rw [hgpx] at px nepypx nepzpx
      try rw [hgpx]
      clear hgpx
      refine any_run1 (i := 7) (by kernel_rfl) (by rfl) (by kernel_rfl) ?_
      intro K hK
      have qya140 := eya136.size
      have eya139 : Below w2.heap.size w2 (vya138.alloc (.cells #[.slice none 0 0, .int .i64 0] 24)) := Below.alloc eya136 eya136.size _
      have hnx : Below vya138.heap.size vya138 (vya138.alloc (.cells #[.slice none 0 0, .int .i64 0] 24)) := Below.alloc (Below.refl _ _) (Nat.le_refl _) _
      go_wp2_with fail
      have nepypu : gpy ≠ vya138.heap.size := Nat.ne_of_lt py.lt
      have nepzpu : gpz ≠ vya138.heap.size := Nat.ne_of_lt pz.lt
      have nepxpu : gpx ≠ vya138.heap.size := Nat.ne_of_lt px.lt
      replace py := py.below hnx py.lt
      replace pz := pz.below hnx pz.lt
      replace px := px.below hnx px.lt
      have pu : BK (vya138.alloc (.cells #[.slice none 0 0, .int .i64 0] 24)) vya138.heap.size #[.slice none 0 0, .int .i64 0] 24 := BK.new _ _ _
      refine hK _ _ (fun _ => eya139) ?_
      clear hK K hnx
      generalize (vya138.alloc (.cells #[.slice none 0 0, .int .i64 0] 24)) = vya141 at *
      obtain ⟨gpu, hgpu⟩ : ∃ g, vya138.heap.size = g := ⟨_, rfl⟩
      have hqpu : w2.heap.size ≤ gpu := by omega
      rw [hgpu] at pu nepypu nepzpu nepxpu
      try rw [hgpu]
      clear hgpu
      refine any_run1 (i := 8) (by kernel_rfl) (by rfl) (by kernel_rfl) ?_
      intro K hK
      have lpx := px.lt
      have y0 := px.cell 0
      have f0 := px.frozen 0
      have y1 := px.cell 1
      have f1 := px.frozen 1
      simp at y0 y1
      go_wp2_with fail
      have h4 := wr4 px py pz pu nepypx nepzpx nepxpu.symm hqpx eya139 (.slice A l.length cap) (.int .i64 m)
      clear lpx y0 f0 y1 f1 px py pz pu
      obtain ⟨px, py, pz, pu, eya142⟩ := h4
      refine hK _ _ (fun _ => eya142) ?_
      clear hK K
      generalize ((vya141.setCell ⟨gpx, 0, none⟩ (.slice A l.length cap)).setCell ⟨gpx, 1, none⟩ (.int .i64 m)) = vya143 at *
      refine any_run1 (i := 9) (by kernel_rfl) (by rfl) (by kernel_rfl) ?_
      intro K hK
      have lpy := py.lt
      have y0 := py.cell 0
      have f0 := py.frozen 0
      have y1 := py.cell 1
      have f1 := py.frozen 1
      simp at y0 y1
      go_wp2_with fail
      have h4 := wr4 py px pz pu nepypx.symm nepypz.symm nepypu.symm hqpy eya142 (.slice A l.length cap) (.int .i64 m)
      clear lpy y0 f0 y1 f1 px py pz pu
      obtain ⟨py, px, pz, pu, eya144⟩ := h4
      refine hK _ _ (fun _ => eya144) ?_
      clear hK K
      generalize ((vya143.setCell ⟨gpy, 0, none⟩ (.slice A l.length cap)).setCell ⟨gpy, 1, none⟩ (.int .i64 m)) = vya145 at *
      refine any_run1 (i := 10) (by kernel_rfl) (by rfl) (by kernel_rfl) ?_
      intro K hK
      have lpz := pz.lt
      have y0 := pz.cell 0
      have f0 := pz.frozen 0
      have y1 := pz.cell 1
      have f1 := pz.frozen 1
      simp at y0 y1
      go_wp2_with fail
      have h4 := wr4 pz px py pu nepzpx.symm nepypz nepzpu.symm hqpz eya144 (.slice A l.length cap) (.int .i64 m)
      clear lpz y0 f0 y1 f1 px py pz pu
      obtain ⟨pz, px, py, pu, eya146⟩ := h4
      refine hK _ _ (fun _ => eya146) ?_
      clear hK K
      generalize ((vya145.setCell ⟨gpz, 0, none⟩ (.slice A l.length cap)).setCell ⟨gpz, 1, none⟩ (.int .i64 m)) = vya147 at *
      refine any_run1 (i := 11) (by kernel_rfl) (by rfl) (by kernel_rfl) ?_
      intro K hK
      have lpu := pu.lt
      have y0 := pu.cell 0
      have f0 := pu.frozen 0
      have y1 := pu.cell 1
      have f1 := pu.frozen 1
      simp at y0 y1
      go_wp2_with fail
      have h4 := wr4 pu px py pz nepxpu nepypu nepzpu hqpu eya146 (.slice A l.length cap) (.int .i64 m)
      clear lpu y0 f0 y1 f1 px py pz pu
      obtain ⟨pu, px, py, pz, eya148⟩ := h4
      refine hK _ _ (fun _ => eya148) ?_
      clear hK K
      generalize ((vya147.setCell ⟨gpu, 0, none⟩ (.slice A l.length cap)).setCell ⟨gpu, 1, none⟩ (.int .i64 m)) = vya149 at *
      refine any_done (by kernel_rfl) (NoPanic.normal ?_)
      exact ⟨rfl, by simp [setAll], rfl, _, _, _, _, rfl, rfl, rfl, rfl, nepypx.symm, nepzpx.symm, nepxpu, nepypz, nepypu, nepzpu, px, py, pz, pu, hqpx, hqpy, hqpz, hqpu, eya148⟩
     ·skip
      intro K hK
      have qya151 := eya133.size
      have eya150 : Below w2.heap.size w2 (vya135.alloc (.cells #[.slice none 0 0, .int .i64 0] 24)) := Below.alloc eya133 eya133.size _
      have hnx : Below vya135.heap.size vya135 (vya135.alloc (.cells #[.slice none 0 0, .int .i64 0] 24)) := Below.alloc (Below.refl _ _) (Nat.le_refl _) _
      go_wp2_with fail
      have nepypu : gpy ≠ vya135.heap.size := Nat.ne_of_lt py.lt
      have nepzpu : gpz ≠ vya135.heap.size := Nat.ne_of_lt pz.lt
      replace py := py.below hnx py.lt
      replace pz := pz.below hnx pz.lt
      have pu : BK (vya135.alloc (.cells #[.slice none 0 0, .int .i64 0] 24)) vya135.heap.size #[.slice none 0 0, .int .i64 0] 24 := BK.new _ _ _
      refine hK _ _ (fun _ => eya150) ?_
      clear hK K hnx
      generalize (vya135.alloc (.cells #[.slice none 0 0, .int .i64 0] 24)) = vya152 at *
      obtain ⟨gpu, hgpu⟩ : ∃ g, vya135.heap.size = g := ⟨_, rfl⟩
      have hqpu : w2.heap.size ≤ gpu := by omega
      rw [hgpu] at pu nepypu nepzpu
      try rw [hgpu]
      clear hgpu
      refine any_run1 (i := 4) (by kernel_rfl) (by rfl) (by kernel_rfl) ?_
      intro K hK
      have qya154 := eya150.size
      have eya153 : Below w2.heap.size w2 (vya152.alloc (.cells #[.slice none 0 0, .int .i64 0] 24)) := Below.alloc eya150 eya150.size _
      have hnx : Below vya152.heap.size vya152 (vya152.alloc (.cells #[.slice none 0 0, .int .i64 0] 24)) := Below.alloc (Below.refl _ _) (Nat.le_refl _) _
      go_wp2_with fail
      have nepypx : gpy ≠ vya152.heap.size := Nat.ne_of_lt py.lt
      have nepzpx : gpz ≠ vya152.heap.size := Nat.ne_of_lt pz.lt
      have nepupx : gpu ≠ vya152.heap.size := Nat.ne_of_lt pu.lt
      replace py := py.below hnx py.lt
      replace pz := pz.below hnx pz.lt
      replace pu := pu.below hnx pu.lt
      have px : BK (vya152.alloc (.cells #[.slice none 0 0, .int .i64 0] 24)) vya152.heap.size #[.slice none 0 0, .int .i64 0] 24 := BK.new _ _ _
      refine hK _ _ (fun _ => eya153) ?_
      clear hK K hnx
      generalize (vya152.alloc (.cells #[.slice none 0 0, .int .i64 0] 24)) = vya155 at *
      obtain ⟨gpx, hgpx⟩ : ∃ g, vya152.heap.size = g := ⟨_, rfl⟩
      have hqpx : w2.heap.size ≤ gpx := by omega
      rw [hgpx] at px nepypx nepzpx nepupx
      try rw [hgpx]
      clear hgpx
      refine any_run1 (i := 8) (by kernel_rfl) (by rfl) (by kernel_rfl) ?_
      intro K hK
      have lpx := px.lt
      have y0 := px.cell 0
      have f0 := px.frozen 0
      have y1 := px.cell 1
      have f1 := px.frozen 1
      simp at y0 y1
      go_wp2_with fail
      have h4 := wr4 px py pz pu nepypx nepzpx nepupx hqpx eya153 (.slice A l.length cap) (.int .i64 m)
      clear lpx y0 f0 y1 f1 px py pz pu
      obtain ⟨px, py, pz, pu, eya156⟩ := h4
      refine hK _ _ (fun _ => eya156) ?_
      clear hK K
      generalize ((vya155.setCell ⟨gpx, 0, none⟩ (.slice A l.length cap)).setCell ⟨gpx, 1, none⟩ (.int .i64 m)) = vya157 at *
      refine any_run1 (i := 9) (by kernel_rfl) (by rfl) (by kernel_rfl) ?_
      intro K hK
      have lpy := py.lt
      have y0 := py.cell 0
      have f0 := py.frozen 0
      have y1 := py.cell 1
      have f1 := py.frozen 1
      simp at y0 y1
      go_wp2_with fail
      have h4 := wr4 py px pz pu nepypx.symm nepypz.symm nepypu.symm hqpy eya156 (.slice A l.length cap) (.int .i64 m)
      clear lpy y0 f0 y1 f1 px py pz pu
      obtain ⟨py, px, pz, pu, eya158⟩ := h4
      refine hK _ _ (fun _ => eya158) ?_
      clear hK K
      generalize ((vya157.setCell ⟨gpy, 0, none⟩ (.slice A l.length cap)).setCell ⟨gpy, 1, none⟩ (.int .i64 m)) = vya159 at *
      refine any_run1 (i := 10) (by kernel_rfl) (by rfl) (by kernel_rfl) ?_
      intro K hK
      have lpz := pz.lt
      have y0 := pz.cell 0
      have f0 := pz.frozen 0
      have y1 := pz.cell 1
      have f1 := pz.frozen 1
      simp at y0 y1
      go_wp2_with fail
      have h4 := wr4 pz px py pu nepzpx.symm nepypz nepzpu.symm hqpz eya158 (.slice A l.length cap) (.int .i64 m)
      clear lpz y0 f0 y1 f1 px py pz pu
      obtain ⟨pz, px, py, pu, eya160⟩ := h4
      refine hK _ _ (fun _ => eya160) ?_
      clear hK K
      generalize ((vya159.setCell ⟨gpz, 0, none⟩ (.slice A l.length cap)).setCell ⟨gpz, 1, none⟩ (.int .i64 m)) = vya161 at *
      refine any_run1 (i := 11) (by kernel_rfl) (by rfl) (by kernel_rfl) ?_
      intro K hK
      have lpu := pu.lt
      have y0 := pu.cell 0
      have f0 := pu.frozen 0
      have y1 := pu.cell 1
      have f1 := pu.frozen 1
      simp at y0 y1
      go_wp2_with fail
      have h4 := wr4 pu px py pz nepupx.symm nepypu nepzpu hqpu eya160 (.slice A l.length cap) (.int .i64 m)
      clear lpu y0 f0 y1 f1 px py pz pu
      obtain ⟨pu, px, py, pz, eya162⟩ := h4
      refine hK _ _ (fun _ => eya162) ?_
      clear hK K
      generalize ((vya161.setCell ⟨gpu, 0, none⟩ (.slice A l.length cap)).setCell ⟨gpu, 1, none⟩ (.int .i64 m)) = vya163 at *
      refine any_done (by kernel_rfl) (NoPanic.normal ?_)
      exact ⟨rfl, by simp [setAll], rfl, _, _, _, _, rfl, rfl, rfl, rfl, nepypx.symm, nepzpx.symm, nepupx.symm, nepypz, nepypu, nepzpu, px, py, pz, pu, hqpx, hqpy, hqpz, hqpu, eya162⟩
    ·skip
     intro K hK
     have qya165 := eya99.size
     have eya164 : Below w2.heap.size w2 (vya101.alloc (.cells #[.slice none 0 0, .int .i64 0] 24)) := Below.alloc eya99 eya99.size _
     have hnx : Below vya101.heap.size vya101 (vya101.alloc (.cells #[.slice none 0 0, .int .i64 0] 24)) := Below.alloc (Below.refl _ _) (Nat.le_refl _) _
     go_wp2_with fail
     have nepypu : gpy ≠ vya101.heap.size := Nat.ne_of_lt py.lt
     replace py := py.below hnx py.lt
     have pu : BK (vya101.alloc (.cells #[.slice none 0 0, .int .i64 0] 24)) vya101.heap.size #[.slice none 0 0, .int .i64 0] 24 := BK.new _ _ _
     refine hK _ _ (fun _ => eya164) ?_
     clear hK K hnx
     generalize (vya101.alloc (.cells #[.slice none 0 0, .int .i64 0] 24)) = vya166 at *
     obtain ⟨gpu, hgpu⟩ : ∃ g, vya101.heap.size = g := ⟨_, rfl⟩
     have hqpu : w2.heap.size ≤ gpu := by omega
     rw [hgpu] at pu nepypu
     try rw [hgpu]
     clear hgpu
     refine any_run2 (i := 4) (j := 6) (by kernel_rfl) (by rfl) (by rfl) (by rfl) (by rfl) ?_ ?_
     ·skip
      intro K hK
      have qya168 := eya164.size
      have eya167 : Below w2.heap.size w2 (vya166.alloc (.cells #[.slice none 0 0, .int .i64 0] 24)) := Below.alloc eya164 eya164.size _
      have hnx : Below vya166.heap.size vya166 (vya166.alloc (.cells #[.slice none 0 0, .int .i64 0] 24)) := Below.alloc (Below.refl _ _) (Nat.le_refl _) _
      go_wp2_with fail
      have nepypx : gpy ≠ vya166.heap.size := Nat.ne_of_lt py.lt
      have nepupx : gpu ≠ vya166.heap.size := Nat.ne_of_lt pu.lt
      replace py := py.below hnx py.lt
      replace pu := pu.below hnx pu.lt
      have px : BK (vya166.alloc (.cells #[.slice none 0 0, .int .i64 0] 24)) vya166.heap.size #[.slice none 0 0, .int .i64 0] 24 := BK.new _ _ _
      refine hK _ _ (fun _ => eya167) ?_
      clear hK K hnx
      generalize (vya166.alloc (.cells #[.slice none 0 0, .int .i64 0] 24)) = vya169 at *
      obtain ⟨gpx, hgpx⟩ : ∃ g, vya166.heap.size = g := ⟨_, rfl⟩
      have hqpx : w2.heap.size ≤ gpx := by omega
      rw [hgpx] at px nepypx nepupx
      try rw [hgpx]
      clear hgpx
      refine any_run1 (i := 6) (by kernel_rfl) (by rfl) (by kernel_rfl) ?_
      intro K hK
      have qya171 := eya167.size
      have eya170 : Below w2.heap.size w2 (vya169.alloc (.cells #[.slice none 0 0, .int .i64 0] 24)) := Below.alloc eya167 eya167.size _
      have hnx : Below vya169.heap.size vya169 (vya169.alloc (.cells #[.slice none 0 0, .int .i64 0] 24)) := Below.alloc (Below.refl _ _) (Nat.le_refl _) _
      go_wp2_with fail
      have nepypz : gpy ≠ vya169.heap.size := Nat.ne_of_lt py.lt
      have nepupz : gpu ≠ vya169.heap.size := Nat.ne_of_lt pu.lt
      have nepxpz : gpx ≠ vya169.heap.size := Nat.ne_of_lt px.lt
      replace py := py.below hnx py.lt
      replace pu := pu.below hnx pu.lt
      replace px := px.below hnx px.lt
      have pz : BK (vya169.alloc (.cells #[.slice none 0 0, .int .i64 0] 24)) vya169.heap.size #[.slice none 0 0, .int .i64 0] 24 := BK.new _ _ _
      refine hK _ _ (fun _ => eya170) ?_
      clear hK K hnx
      generalize (vya169.alloc (.cells #[.slice none 0 0, .int .i64 0] 24)) = vya172 at *
      obtain ⟨gpz, hgpz⟩ : ∃ g, vya169.heap.size = g := ⟨_, rfl⟩
      have hqpz : w2.heap.size ≤ gpz := by omega
      rw [hgpz] at pz nepypz nepupz nepxpz
      try rw [hgpz]
      clear hgpz
      refine any_run1 (i := 8) (by kernel_rfl) (by rfl) (by kernel_rfl) ?_
      intro K hK
      have lpx := px.lt
      have y0 := px.cell 0
      have f0 := px.frozen 0
      have y1 := px.cell 1
      have f1 := px.frozen 1
      simp at y0 y1
      go_wp2_with fail
      have h4 := wr4 px py pz pu nepypx nepxpz.symm nepupx hqpx eya170 (.slice A l.length cap) (.int .i64 m)
      clear lpx y0 f0 y1 f1 px py pz pu
      obtain ⟨px, py, pz, pu, eya173⟩ := h4
      refine hK _ _ (fun _ => eya173) ?_
      clear hK K
      generalize ((vya172.setCell ⟨gpx, 0, none⟩ (.slice A l.length cap)).setCell ⟨gpx, 1, none⟩ (.int .i64 m)) = vya174 at *
      refine any_run1 (i := 9) (by kernel_rfl) (by rfl) (by kernel_rfl) ?_
      intro K hK
      have lpy := py.lt
      have y0 := py.cell 0
      have f0 := py.frozen 0
      have y1 := py.cell 1
      have f1 := py.frozen 1
      simp at y0 y1
      go_wp2_with fail
      have h4 := wr4 py px pz pu nepypx.symm nepypz.symm nepypu.symm hqpy eya173 (.slice A l.length cap) (.int .i64 m)
      clear lpy y0 f0 y1 f1 px py pz pu
      obtain ⟨py, px, pz, pu, eya175⟩ := h4
      refine hK _ _ (fun _ => eya175) ?_
      clear hK K
      generalize ((vya174.setCell ⟨gpy, 0, none⟩ (.slice A l.length cap)).setCell ⟨gpy, 1, none⟩ (.int .i64 m)) = vya176 at *
      refine any_run1 (i := 10) (by kernel_rfl) (by rfl) (by kernel_rfl) ?_
      intro K hK
      have lpz := pz.lt
      have y0 := pz.cell 0
      have f0 := pz.frozen 0
      have y1 := pz.cell 1
      have f1 := pz.frozen 1
      simp at y0 y1
      go_wp2_with fail
      have h4 := wr4 pz px py pu nepxpz nepypz nepupz hqpz eya175 (.slice A l.length cap) (.int .i64 m)
      clear lpz y0 f0 y1 f1 px py pz pu
      obtain ⟨pz, px, py, pu, eya177⟩ := h4
      refine hK _ _ (fun _ => eya177) ?_
      clear hK K
      generalize ((vya176.setCell ⟨gpz, 0, none⟩ (.slice A l.length cap)).setCell ⟨gpz, 1, none⟩ (.int .i64 m)) = vya178 at *
      refine any_run1 (i := 11) (by kernel_rfl) (by rfl) (by kernel_rfl) ?_
      intro K hK
      have lpu := pu.lt
      have y0 := pu.cell 0
      have f0 := pu.frozen 0
      have y1 := pu.cell 1
      have f1 := pu.frozen 1
      simp at y0 y1
      go_wp2_with fail
      have h4 := wr4 pu px py pz nepupx.symm nepypu nepupz.symm hqpu eya177 (.slice A l.length cap) (.int .i64 m)
      clear lpu y0 f0 y1 f1 px py pz pu
      obtain ⟨pu, px, py, pz, eya179⟩ := h4
      refine hK _ _ (fun _ => eya179) ?_
      clear hK K
      generalize ((vya178.setCell ⟨gpu, 0, none⟩ (.slice A l.length cap)).setCell ⟨gpu, 1, none⟩ (.int .i64 m)) = vya180 at *
      refine any_done (by kernel_rfl) (NoPanic.normal ?_)
      exact ⟨rfl, by simp [setAll], rfl, _, _, _, _, rfl, rfl, rfl, rfl, nepypx.symm, nepxpz, nepupx.symm, nepypz, nepypu, nepupz.symm, px, py, pz, pu, hqpx, hqpy, hqpz, hqpu, eya179⟩
     ·skip
      intro K hK
      have qya182 := eya164.size
      have eya181 : Below w2.heap.size w2 (vya166.alloc (.cells #[.slice none 0 0, .int .i64 0] 24)) := Below.alloc eya164 eya164.size _
      have hnx : Below vya166.heap.size vya166 (vya166.alloc (.cells #[.slice none 0 0, .int .i64 0] 24)) := Below.alloc (Below.refl _ _) (Nat.le_refl _) _
      go_wp2_with fail
      have nepypz : gpy ≠ vya166.heap.size := Nat.ne_of_lt py.lt
      have nepupz : gpu ≠ vya166.heap.size := Nat.ne_of_lt pu.lt
      replace py := py.below hnx py.lt
      replace pu := pu.below hnx pu.lt
      have pz : BK (vya166.alloc (.cells #[.slice none 0 0, .int .i64 0] 24)) vya166.heap.size #[.slice none 0 0, .int .i64 0] 24 := BK.new _ _ _
      refine hK _ _ (fun _ => eya181) ?_
      clear hK K hnx
      generalize (vya166.alloc (.cells #[.slice none 0 0, .int .i64 0] 24)) = vya183 at *
      obtain ⟨gpz, hgpz⟩ : ∃ g, vya166.heap.size = g := ⟨_, rfl⟩
      have hqpz : w2.heap.size ≤ gpz := by omega
      rw [hgpz] at pz nepypz nepupz
      try rw [hgpz]
      clear hgpz
      refine any_run1 (i := 4) (by kernel_rfl) (by rfl) (by kernel_rfl) ?_
      intro K hK
      have qya185 := eya181.size
      have eya184 : Below w2.heap.size w2 (vya183.alloc (.cells #[.slice none 0 0, .int .i64 0] 24)) := Below.alloc eya181 eya181.size _
      have hnx : Below vya183.heap.size vya183 (vya183.alloc (.cells #[.slice none 0 0, .int .i64 0] 24)) := Below.alloc (Below.refl _ _) (Nat.le_refl _) _
      go_wp2_with fail
      have nepypx : gpy ≠ vya183.heap.size := Nat.ne_of_lt py.lt
      have nepupx : gpu ≠ vya183.heap.size := Nat.ne_of_lt pu.lt
      have nepzpx : gpz ≠ vya183.heap.size := Nat.ne_of_lt pz.lt
      replace py := py.below hnx py.lt
      replace pu := pu.below hnx pu.lt
      replace pz := pz.below hnx pz.lt
      have px : BK (vya183.alloc (.cells #[.slice none 0 0, .int .i64 0] 24)) vya183.heap.size #[.slice none 0 0, .int .i64 0] 24 := BK.new _ _ _
      refine hK _ _ (fun _ => eya184) ?_
      clear hK K hnx
      generalize (vya183.alloc (.cells #[.slice none 0 0, .int .i64 0] 24)) = vya186 at *
      obtain ⟨gpx, hgpx⟩ : ∃ g, vya183.heap.size = g := ⟨_, rfl⟩
      have hqpx : w2.heap.size ≤ gpx := by omega
      rw [hgpx] at px nepypx nepupx nepzpx
      try rw [hgpx]
      clear hgpx
      refine any_run1 (i := 8) (by kernel_rfl) (by rfl) (by kernel_rfl) ?_
      intro K hK
      have lpx := px.lt
      have y0 := px.cell 0
      have f0 := px.frozen 0
      have y1 := px.cell 1
      have f1 := px.frozen 1
      simp at y0 y1
      go_wp2_with fail
      have h4 := wr4 px py pz pu nepypx nepzpx nepupx hqpx eya184 (.slice A l.length cap) (.int .i64 m)
      clear lpx y0 f0 y1 f1 px py pz pu
      obtain ⟨px, py, pz, pu, eya187⟩ := h4
      refine hK _ _ (fun _ => eya187) ?_
      clear hK K
      generalize ((vya186.setCell ⟨gpx, 0, none⟩ (.slice A l.length cap)).setCell ⟨gpx, 1, none⟩ (.int .i64 m)) = vya188 at *
      refine any_run1 (i := 9) (by kernel_rfl) (by rfl) (by kernel_rfl) ?_
      intro K hK
      have lpy := py.lt
      have y0 := py.cell 0
      have f0 := py.frozen 0
      have y1 := py.cell 1
      have f1 := py.frozen 1
      simp at y0 y1
      go_wp2_with fail
      have h4 := wr4 py px pz pu nepypx.symm nepypz.symm nepypu.symm hqpy eya187 (.slice A l.length cap) (.int .i64 m)
      clear lpy y0 f0 y1 f1 px py pz pu
      obtain ⟨py, px, pz, pu, eya189⟩ := h4
      refine hK _ _ (fun _ => eya189) ?_
      clear hK K
      generalize ((vya188.setCell ⟨gpy, 0, none⟩ (.slice A l.length cap)).setCell ⟨gpy, 1, none⟩ (.int .i64 m)) = vya190 at *
      refine any_run1 (i := 10) (by kernel_rfl) (by rfl) (by kernel_rfl) ?_
      intro K hK
      have lpz := pz.lt
      have y0 := pz.cell 0
      have f0 := pz.frozen 0
      have y1 := pz.cell 1
      have f1 := pz.frozen 1
      simp at y0 y1
      go_wp2_with fail
      have h4 := wr4 pz px py pu nepzpx.symm nepypz nepupz hqpz eya189 (.slice A l.length cap) (.int .i64 m)
      clear lpz y0 f0 y1 f1 px py pz pu
      obtain ⟨pz, px, py, pu, eya191⟩ := h4
      refine hK _ _ (fun _ => eya191) ?_
      clear hK K
      generalize ((vya190.setCell ⟨gpz, 0, none⟩ (.slice A l.length cap)).setCell ⟨gpz, 1, none⟩ (.int .i64 m)) = vya192 at *
      refine any_run1 (i := 11) (by kernel_rfl) (by rfl) (by kernel_rfl) ?_
      intro K hK
      have lpu := pu.lt
      have y0 := pu.cell 0
      have f0 := pu.frozen 0
      have y1 := pu.cell 1
      have f1 := pu.frozen 1
      simp at y0 y1
      go_wp2_with fail
      have h4 := wr4 pu px py pz nepupx.symm nepypu nepupz.symm hqpu eya191 (.slice A l.length cap) (.int .i64 m)
      clear lpu y0 f0 y1 f1 px py pz pu
      obtain ⟨pu, px, py, pz, eya193⟩ := h4
      refine hK _ _ (fun _ => eya193) ?_
      clear hK K
      generalize ((vya192.setCell ⟨gpu, 0, none⟩ (.slice A l.length cap)).setCell ⟨gpu, 1, none⟩ (.int .i64 m)) = vya194 at *
      refine any_done (by kernel_rfl) (NoPanic.normal ?_)
      exact ⟨rfl, by simp [setAll], rfl, _, _, _, _, rfl, rfl, rfl, rfl, nepypx.symm, nepzpx.symm, nepupx.symm, nepypz, nepypu, nepupz.symm, px, py, pz, pu, hqpx, hqpy, hqpz, hqpu, eya193⟩
   ·skip
    intro K hK
    have qya196 := dya1.size
    have eya195 : Below w2.heap.size w2 (uya2.alloc (.cells #[.slice none 0 0, .int .i64 0] 24)) := Below.alloc dya1 dya1.size _
    have hnx : Below uya2.heap.size uya2 (uya2.alloc (.cells #[.slice none 0 0, .int .i64 0] 24)) := Below.alloc (Below.refl _ _) (Nat.le_refl _) _
    go_wp2_with fail
    have pz : BK (uya2.alloc (.cells #[.slice none 0 0, .int .i64 0] 24)) uya2.heap.size #[.slice none 0 0, .int .i64 0] 24 := BK.new _ _ _
    refine hK _ _ (fun _ => eya195) ?_
    clear hK K hnx
    generalize (uya2.alloc (.cells #[.slice none 0 0, .int .i64 0] 24)) = vya197 at *
    obtain ⟨gpz, hgpz⟩ : ∃ g, uya2.heap.size = g := ⟨_, rfl⟩
    have hqpz : w2.heap.size ≤ gpz := by omega
    rw [hgpz] at pz
    try rw [hgpz]
    clear hgpz
    refine any_run3 (i := 4) (j := 5) (k := 7) (by kernel_rfl) (by rfl) (by rfl) (by rfl) (by rfl) (by rfl) (by rfl) ?_ ?_ ?_
    ·skip
     intro K hK
     have qya199 := eya195.size
     have eya198 : Below w2.heap.size w2 (vya197.alloc (.cells #[.slice none 0 0, .int .i64 0] 24)) := Below.alloc eya195 eya195.size _
     have hnx : Below vya197.heap.size vya197 (vya197.alloc (.cells #[.slice none 0 0, .int .i64 0] 24)) := Below.alloc (Below.refl _ _) (Nat.le_refl _) _
     go_wp2_with fail
     have nepzpx : gpz ≠ vya197.heap.size := Nat.ne_of_lt pz.lt
     replace pz := pz.below hnx pz.lt
     have px : BK (vya197.alloc (.cells #[.slice none 0 0, .int .i64 0] 24)) vya197.heap.size #[.slice none 0 0, .int .i64 0] 24 := BK.new _ _ _
     refine hK _ _ (fun _ => eya198) ?_
     clear hK K hnx
     generalize (vya197.alloc (.cells #[.slice none 0 0, .int .i64 0] 24)) = vya200 at *
     obtain ⟨gpx, hgpx⟩ : ∃ g, vya197.heap.size = g := ⟨_, rfl⟩
     have hqpx : w2.heap.size ≤ gpx := by omega
     rw [hgpx] at px nepzpx
     try rw [hgpx]
     clear hgpx
     refine any_run2 (i := 5) (j := 7) (by kernel_rfl) (by rfl) (by rfl) (by rfl) (by rfl) ?_ ?_
     ·skip
      intro K hK
      have qya202 := eya198.size
      have eya201 : Below w2.heap.size w2 (vya200.alloc (.cells #[.slice none 0 0, .int .i64 0] 24)) := Below.alloc eya198 eya198.size _
      have hnx : Below vya200.heap.size vya200 (vya200.alloc (.cells #[.slice none 0 0, .int .i64 0] 24)) := Below.alloc (Below.refl _ _) (Nat.le_refl _) _
      go_wp2_with fail
      have nepzpy : gpz ≠ vya200.heap.size := Nat.ne_of_lt pz.lt
      have nepxpy : gpx ≠ vya200.heap.size := Nat.ne_of_lt px.lt
      replace pz := pz.below hnx pz.lt
      replace px := px.below hnx px.lt
      have py : BK (vya200.alloc (.cells #[.slice none 0 0, .int .i64 0] 24)) vya200.heap.size #[.slice none 0 0, .int .i64 0] 24 := BK.new _ _ _
      refine hK _ _ (fun _ => eya201) ?_
      clear hK K hnx
      generalize (vya200.alloc (.cells #[.slice none 0 0, .int .i64 0] 24)) = vya203 at *
      obtain ⟨gpy, hgpy⟩ : ∃ g, vya200.heap.size = g := ⟨_, rfl⟩
      have hqpy : w2.heap.size ≤ gpy := by omega
      rw [hgpy] at py nepzpy nepxpy
      try rw [hgpy]
      clear hgpy
      refine any_run1 (i := 7) (by kernel_rfl) (by rfl) (by kernel_rfl) ?_
      intro K hK
      have qya205 := eya201.size
      have eya204 : Below w2.heap.size w2 (vya203.alloc (.cells #[.slice none 0 0, .int .i64 0] 24)) := Below.alloc eya201 eya201.size _
      have hnx : Below vya203.heap.size vya203 (vya203.alloc (.cells #[.slice none 0 0, .int .i64 0] 24)) := Below.alloc (Below.refl _ _) (Nat.le_refl _) _
      go_wp2_with fail
      have nepzpu : gpz ≠ vya203.heap.size := Nat.ne_of_lt pz.lt
      have nepxpu : gpx ≠ vya203.heap.size := Nat.ne_of_lt px.lt
      have nepypu : gpy ≠ vya203.heap.size := Nat.ne_of_lt py.lt
      replace pz := pz.below hnx pz.lt
      replace px := px.below hnx px.lt
      replace py := py.below hnx py.lt
      have pu : BK (vya203.alloc (.cells #[.slice none 0 0, .int .i64 0] 24)) vya203.heap.size #[.slice none 0 0, .int .i64 0] 24 := BK.new _ _ _
      refine hK _ _ (fun _ => eya204) ?_
      clear hK K hnx
      generalize (vya203.alloc (.cells #[.slice none 0 0, .int .i64 0] 24)) = vya206 at *
      obtain ⟨gpu, hgpu⟩ : ∃ g, vya203.heap.size = g := ⟨_, rfl⟩
      have hqpu : w2.heap.size ≤ gpu := by omega
      rw [hgpu] at pu nepzpu nepxpu nepypu
      try rw [hgpu]
      clear hgpu
      refine any_run1 (i := 8) (by kernel_rfl) (by rfl) (by kernel_rfl) ?_
      intro K hK
      have lpx := px.lt
      have y0 := px.cell 0
      have f0 := px.frozen 0
      have y1 := px.cell 1
      have f1 := px.frozen 1
      simp at y0 y1
      go_wp2_with fail
      have h4 := wr4 px py pz pu nepxpy.symm nepzpx nepxpu.symm hqpx eya204 (.slice A l.length cap) (.int .i64 m)
      clear lpx y0 f0 y1 f1 px py pz pu
      obtain ⟨px, py, pz, pu, eya207⟩ := h4
      refine hK _ _ (fun _ => eya207) ?_
      clear hK K
      generalize ((vya206.setCell ⟨gpx, 0, none⟩ (.slice A l.length cap)).setCell ⟨gpx, 1, none⟩ (.int .i64 m)) = vya208 at *
      refine any_run1 (i := 9) (by kernel_rfl) (by rfl) (by kernel_rfl) ?_
      intro K hK
      have lpy := py.lt
      have y0 := py.cell 0
      have f0 := py.frozen 0
      have y1 := py.cell 1
      have f1 := py.frozen 1
      simp at y0 y1
      go_wp2_with fail
      have h4 := wr4 py px pz pu nepxpy nepzpy nepypu.symm hqpy eya207 (.slice A l.length cap) (.int .i64 m)
      clear lpy y0 f0 y1 f1 px py pz pu
      obtain ⟨py, px, pz, pu, eya209⟩ := h4
      refine hK _ _ (fun _ => eya209) ?_
      clear hK K
      generalize ((vya208.setCell ⟨gpy, 0, none⟩ (.slice A l.length cap)).setCell ⟨gpy, 1, none⟩ (.int .i64 m)) = vya210 at *
      refine any_run1 (i := 10) (by kernel_rfl) (by rfl) (by kernel_rfl) ?_
      intro K hK
      have lpz := pz.lt
      have y0 := pz.cell 0
      have f0 := pz.frozen 0
      have y1 := pz.cell 1
      have f1 := pz.frozen 1
      simp at y0 y1
      go_wp2_with fail
      have h4 := wr4 pz px py pu nepzpx.symm nepzpy.symm nepzpu.symm hqpz eya209 (.slice A l.length cap) (.int .i64 m)
      clear lpz y0 f0 y1 f1 px py pz pu
      obtain ⟨pz, px, py, pu, eya211⟩ := h4
      refine hK _ _ (fun _ => eya211) ?_
      clear hK K
      generalize ((vya210.setCell ⟨gpz, 0, none⟩ (.slice A l.length cap)).setCell ⟨gpz, 1, none⟩ (.int .i64 m)) = vya212 at *
      refine any_run1 (i := 11) (by kernel_rfl) (by rfl) (by kernel_rfl) ?_
      intro K hK
      have lpu := pu.lt
      have y0 := pu.cell 0
      have f0 := pu.frozen 0
      have y1 := pu.cell 1
      have f1 := pu.frozen 1
      simp at y0 y1
      go_wp2_with fail
      have h4 := wr4 pu px py pz nepxpu nepypu nepzpu hqpu eya211 (.slice A l.length cap) (.int .i64 m)
      clear lpu y0 f0 y1 f1 px py pz pu
      obtain ⟨pu, px, py, pz, eya213⟩ := h4
      refine hK _ _ (fun _ => eya213) ?_
      clear hK K
      generalize ((vya212.setCell ⟨gpu, 0, none⟩ (.slice A l.length cap)).setCell ⟨gpu, 1, none⟩ (.int .i64 m)) = vya214 at *
      refine any_done (by kernel_rfl) (NoPanic.normal ?_)
      exact ⟨rfl, by simp [setAll], rfl, _, _, _, _, rfl, rfl, rfl, rfl, nepxpy, nepzpx.symm, nepxpu, nepzpy.symm, nepypu, nepzpu, px, py, pz, pu, hqpx, hqpy, hqpz, hqpu, eya213⟩
     ·skip
      intro K hK
      have qya216 := eya198.size
      have eya215 : Below w2.heap.size w2 (vya200.alloc (.cells #[.slice none 0 0, .int .i64 0] 24)) := Below.alloc eya198 eya198.size _
      have hnx : Below vya200.heap.size vya200 (vya200.alloc (.cells #[.slice none 0 0, .int .i64 0] 24)) := Below.alloc (Below.refl _ _) (Nat.le_refl _) _
      go_wp2_with fail
      have nepzpu : gpz ≠ vya200.heap.size := Nat.ne_of_lt pz.lt
      have nepxpu : gpx ≠ vya200.heap.size := Nat.ne_of_lt px.lt
      replace pz := pz.below hnx pz.lt
      replace px := px.below hnx px.lt
      have pu : BK (vya200.alloc (.cells #[.slice none 0 0, .int .i64 0] 24)) vya200.heap.size #[.slice none 0 0, .int .i64 0] 24 := BK.new _ _ _
      refine hK _ _ (fun _ => eya215) ?_
      clear hK K hnx
      generalize (vya200.alloc (.cells #[.slice none 0 0, .int .i64 0] 24)) = vya217 at *
      obtain ⟨gpu, hgpu⟩ : ∃ g, vya200.heap.size = g := ⟨_, rfl⟩
      have hqpu : w2.heap.size ≤ gpu := by omega
      rw [hgpu] at pu nepzpu nepxpu
      try rw [hgpu]
      clear hgpu
      refine any_run1 (i := 5) (by kernel_rfl) (by rfl) (by kernel_rfl) ?_
      intro K hK
      have qya219 := eya215.size
      have eya218 : Below w2.heap.size w2 (vya217.alloc (.cells #[.slice none 0 0, .int .i64 0] 24)) := Below.alloc eya215 eya215.size _
      have hnx : Below vya217.heap.size vya217 (vya217.alloc (.cells #[.slice none 0 0, .int .i64 0] 24)) := Below.alloc (Below.refl _ _) (Nat.le_refl _) _
      go_wp2_with fail
      have nepzpy : gpz ≠ vya217.heap.size := Nat.ne_of_lt pz.lt
      have nepxpy : gpx ≠ vya217.heap.size := Nat.ne_of_lt px.lt
      have nepupy : gpu ≠ vya217.heap.size := Nat.ne_of_lt pu.lt
      replace pz := pz.below hnx pz.lt
      replace px := px.below hnx px.lt
      replace pu := pu.below hnx pu.lt
      have py : BK (vya217.alloc (.cells #[.slice none 0 0, .int .i64 0] 24)) vya217.heap.size #[.slice none 0 0, .int .i64 0] 24 := BK.new _ _ _
      refine hK _ _ (fun _ => eya218) ?_
      clear hK K hnx
      generalize (vya217.alloc (.cells #[.slice none 0 0, .int .i64 0] 24)) = vya220 at *
      obtain ⟨gpy, hgpy⟩ : ∃ g, vya217.heap.size = g := ⟨_, rfl⟩
      have hqpy : w2.heap.size ≤ gpy := by omega
      rw [hgpy] at py nepzpy nepxpy nepupy
      try rw [hgpy]
      clear hgpy
      refine any_run1 (i := 8) (by kernel_rfl) (by rfl) (by kernel_rfl) ?_
      intro K hK
      have lpx := px.lt
      have y0 := px.cell 0
      have f0 := px.frozen 0
      have y1 := px.cell 1
      have f1 := px.frozen 1
      simp at y0 y1
      go_wp2_with fail
      have h4 := wr4 px py pz pu nepxpy.symm nepzpx nepxpu.symm hqpx eya218 (.slice A l.length cap) (.int .i64 m)
      clear lpx y0 f0 y1 f1 px py pz pu
      obtain ⟨px, py, pz, pu, eya221⟩ := h4
      refine hK _ _ (fun _ => eya221) ?_
      clear hK K
      generalize ((vya220.setCell ⟨gpx, 0, none⟩ (.slice A l.length cap)).setCell ⟨gpx, 1, none⟩ (.int .i64 m)) = vya222 at *
      refine any_run1 (i := 9) (by kernel_rfl) (by rfl) (by kernel_rfl) ?_
      intro K hK
      have lpy := py.lt
      have y0 := py.cell 0
      have f0 := py.frozen 0
      have y1 := py.cell 1
      have f1 := py.frozen 1
      simp at y0 y1
      go_wp2_with fail
      have h4 := wr4 py px pz pu nepxpy nepzpy nepupy hqpy eya221 (.slice A l.length cap) (.int .i64 m)
      clear lpy y0 f0 y1 f1 px py pz pu
      obtain ⟨py, px, pz, pu, eya223⟩ := h4
      refine hK _ _ (fun _ => eya223) ?_
      clear hK K
      generalize ((vya222.setCell ⟨gpy, 0, none⟩ (.slice A l.length cap)).setCell ⟨gpy, 1, none⟩ (.int .i64 m)) = vya224 at *
      refine any_run1 (i := 10) (by kernel_rfl) (by rfl) (by kernel_rfl) ?_
      intro K hK
      have lpz := pz.lt
      have y0 := pz.cell 0
      have f0 := pz.frozen 0
      have y1 := pz.cell 1
      have f1 := pz.frozen 1
      simp at y0 y1
      go_wp2_with fail
      have h4 := wr4 pz px py pu nepzpx.symm nepzpy.symm nepzpu.symm hqpz eya223 (.slice A l.length cap) (.int .i64 m)
      clear lpz y0 f0 y1 f1 px py pz pu
      obtain ⟨pz, px, py, pu, eya225⟩ := h4
      refine hK _ _ (fun _ => eya225) ?_
      clear hK K
      generalize ((vya224.setCell ⟨gpz, 0, none⟩ (.slice A l.length cap)).setCell ⟨gpz, 1, none⟩ (.int .i64 m)) = vya226 at *
      refine any_run1 (i := 11) (by kernel_rfl) (by rfl) (by kernel_rfl) ?_
      intro K hK
      have lpu := pu.lt
      have y0 := pu.cell 0
      have f0 := pu.frozen 0
      have y1 := pu.cell 1
      have f1 := pu.frozen 1
      simp at y0 y1
      go_wp2_with fail
      have h4 := wr4 pu px py pz nepxpu nepupy.symm nepzpu hqpu eya225 (.slice A l.length cap) (.int .i64 m)
      clear lpu y0 f0 y1 f1 px py pz pu
      obtain ⟨pu, px, py, pz, eya227⟩ := h4
      refine hK _ _ (fun _ => eya227) ?_
      clear hK K
      generalize ((vya226.setCell ⟨gpu, 0, none⟩ (.slice A l.length cap)).setCell ⟨gpu, 1, none⟩ (.int .i64 m)) = vya228 at *
      refine any_done (by kernel_rfl) (NoPanic.normal ?_)
      exact ⟨rfl, by simp [setAll], rfl, _, _, _, _, rfl, rfl, rfl, rfl, nepxpy, nepzpx.symm, nepxpu, nepzpy.symm, nepupy.symm, nepzpu, px, py, pz, pu, hqpx, hqpy, hqpz, hqpu, eya227⟩
    ·skip
     intro K hK
     have qya230 := eya195.size
     have eya229 : Below w2.heap.size w2 (vya197.alloc (.cells #[.slice none 0 0, .int .i64 0] 24)) := Below.alloc eya195 eya195.size _
     have hnx : Below vya197.heap.size vya197 (vya197.alloc (.cells #[.slice none 0 0, .int .i64 0] 24)) := Below.alloc (Below.refl _ _) (Nat.le_refl _) _
     go_wp2_with fail
     have nepzpy : gpz ≠ vya197.heap.size := Nat.ne_of_lt pz.lt
     replace pz := pz.below hnx pz.lt
     have py : BK (vya197.alloc (.cells #[.slice none 0 0, .int .i64 0] 24)) vya197.heap.size #[.slice none 0 0, .int .i64 0] 24 := BK.new _ _ _
     refine hK _ _ (fun _ => eya229) ?_
     clear hK K hnx
     generalize (vya197.alloc (.cells #[.slice none 0 0, .int .i64 0] 24)) = vya231 at *
     obtain ⟨gpy, hgpy⟩ : ∃ g, vya197.heap.size = g := ⟨_, rfl⟩
     have hqpy : w2.heap.size ≤ gpy := by omega
     rw [hgpy] at py nepzpy
     try rw [hgpy]
     clear hgpy
     refine any_run2 (i := 4) (j := 7) (by kernel_rfl) (by rfl) (by rfl) (by rfl) (by rfl) ?_ ?_
     ·skip
      intro K hK
      have qya233 := eya229.size
      have eya232 : Below w2.heap.size w2 (vya231.alloc (.cells #[.slice none 0 0, .int .i64 0] 24)) := Below.alloc eya229 eya229.size _
      have hnx : Below vya231.heap.size vya231 (vya231.alloc (.cells #[.slice none 0 0, .int .i64 0] 24)) := Below.alloc (Below.refl _ _) (Nat.le_refl _) _
      go_wp2_with fail
      have nepzpx : gpz ≠ vya231.heap.size := Nat.ne_of_lt pz.lt
      have nepypx : gpy ≠ vya231.heap.size := Nat.ne_of_lt py.lt
      replace pz := pz.below hnx pz.lt
      replace py := py.below hnx py.lt
      have px : BK (vya231.alloc (.cells #[.slice none 0 0, .int .i64 0] 24)) vya231.heap.size #[.slice none 0 0, .int .i64 0] 24 := BK.new _ _ _
      refine hK _ _ (fun _ => eya232) ?_
      clear hK K hnx
      generalize (vya231.alloc (.cells #[.slice none 0 0, .int .i64 0] 24)) = vya234 at *
      obtain ⟨gpx, hgpx⟩ : ∃ g, vya231.heap.size = g := ⟨_, rfl⟩
      have hqpx : w2.heap.size ≤ gpx := by omega
      rw [hgpx] at px nepzpx nepypx
      try rw [hgpx]
      clear hgpx
      refine any_run1 (i := 7) (by kernel_rfl) (by rfl) (by kernel_rfl) ?_
      intro K hK
      have qya236 := eya232.size
      have eya235 : Below w2.heap.size w2 (vya234.alloc (.cells #[.slice none 0 0, .int .i64 0] 24)) := Below.alloc eya232 eya232.size _
      have hnx : Below vya234.heap.size vya234 (vya234.alloc (.cells #[.slice none 0 0, .int .i64 0] 24)) := Below.alloc (Below.refl _ _) (Nat.le_refl _) _
      go_wp2_with fail
      have nepzpu : gpz ≠ vya234.heap.size := Nat.ne_of_lt pz.lt
      have nepypu : gpy ≠ vya234.heap.size := Nat.ne_of_lt py.lt
      have nepxpu : gpx ≠ vya234.heap.size := Nat.ne_of_lt px.lt
      replace pz := pz.below hnx pz.lt
      replace py := py.below hnx py.lt
      replace px := px.below hnx px.lt
      have pu : BK (vya234.alloc (.cells #[.slice none 0 0, .int .i64 0] 24)) vya234.heap.size #[.slice none 0 0, .int .i64 0] 24 := BK.new _ _ _
      refine hK _ _ (fun _ => eya235) ?_
      clear hK K hnx
      generalize (vya234.alloc (.cells #[.slice none 0 0, .int .i64 0] 24)) = vya237 at *
      obtain ⟨gpu, hgpu⟩ : ∃ g, vya234.heap.size = g := ⟨_, rfl⟩
      have hqpu : w2.heap.size ≤ gpu := by omega
      rw [hgpu] at pu nepzpu nepypu nepxpu
      try rw [hgpu]
      clear hgpu
      refine any_run1 (i := 8) (by kernel_rfl) (by rfl) (by kernel_rfl) ?_
      intro K hK
      have lpx := px.lt
      have y0 := px.cell 0
      have f0 := px.frozen 0
      have y1 := px.cell 1
      have f1 := px.frozen 1
      simp at y0 y1
      go_wp2_with fail
      have h4 := wr4 px py pz pu nepypx nepzpx nepxpu.symm hqpx eya235 (.slice A l.length cap) (.int .i64 m)
      clear lpx y0 f0 y1 f1 px py pz pu
      obtain ⟨px, py, pz, pu, eya238⟩ := h4
      refine hK _ _ (fun _ => eya238) ?_
      clear hK K
      generalize ((vya237.setCell ⟨gpx, 0, none⟩ (.slice A l.length cap)).setCell ⟨gpx, 1, none⟩ (.int .i64 m)) = vya239 at *
      refine any_run1 (i := 9) (by kernel_rfl) (by rfl) (by kernel_rfl) ?_
      intro K hK
      have lpy := py.lt
      have y0 := py.cell 0
      have f0 := py.frozen 0
      have y1 := py.cell 1
      have f1 := py.frozen 1
      simp at y0 y1
      go_wp2_with fail
      have h4 := wr4 py px pz pu nepypx.symm nepzpy nepypu.symm hqpy eya238 (.slice A l.length cap) (.int .i64 m)
      clear lpy y0 f0 y1 f1 px py pz pu
      obtain ⟨py, px, pz, pu, eya240⟩ := h4
      refine hK _ _ (fun _ => eya240) ?_
      clear hK K
      generalize ((vya239.setCell ⟨gpy, 0, none⟩ (.slice A l.length cap)).setCell ⟨gpy, 1, none⟩ (.int .i64 m)) = vya241 at *
      refine any_run1 (i := 10) (by kernel_rfl) (by rfl) (by kernel_rfl) ?_
      intro K hK
      have lpz := pz.lt
      have y0 := pz.cell 0
      have f0 := pz.frozen 0
      have y1 := pz.cell 1
      have f1 := pz.frozen 1
      simp at y0 y1
      go_wp2_with fail
      have h4 := wr4 pz px py pu nepzpx.symm nepzpy.symm nepzpu.symm hqpz eya240 (.slice A l.length cap) (.int .i64 m)
      clear lpz y0 f0 y1 f1 px py pz pu
      obtain ⟨pz, px, py, pu, eya242⟩ := h4
      refine hK _ _ (fun _ => eya242) ?_
      clear hK K
      generalize ((vya241.setCell ⟨gpz, 0, none⟩ (.slice A l.length cap)).setCell ⟨gpz, 1, none⟩ (.int .i64 m)) = vya243 at *
      refine any_run1 (i := 11) (by kernel_rfl) (by rfl) (by kernel_rfl) ?_
      intro K hK
      have lpu := pu.lt
      have y0 := pu.cell 0
      have f0 := pu.frozen 0
      have y1 := pu.cell 1
      have f1 := pu.frozen 1
      simp at y0 y1
      go_wp2_with fail
      have h4 := wr4 pu px py pz nepxpu nepypu nepzpu hqpu eya242 (.slice A l.length cap) (.int .i64 m)
      clear lpu y0 f0 y1 f1 px py pz pu
      obtain ⟨pu, px, py, pz, eya244⟩ := h4
      refine hK _ _ (fun _ => eya244) ?_
      clear hK K
      generalize ((vya243.setCell ⟨gpu, 0, none⟩ (.slice A l.length cap)).setCell ⟨gpu, 1, none⟩ (.int .i64 m)) = vya245 at *
      refine any_done (by kernel_rfl) (NoPanic.normal ?_)
      exact ⟨rfl, by simp [setAll], rfl, _, _, _, _, rfl, rfl, rfl, rfl, nepypx.symm, nepzpx.symm, nepxpu, nepzpy.symm, nepypu, nepzpu, px, py, pz, pu, hqpx, hqpy, hqpz, hqpu, eya244⟩
     ·skip
      intro K hK
      have qya247 := eya229.size
      have eya246 : Below w2.heap.size w2 (vya231.alloc (.cells #[.slice none 0 0, .int .i64 0] 24)) := Below.alloc eya229 eya229.size _
      have hnx : Below vya231.heap.size vya231 (vya231.alloc (.cells #[.slice none 0 0, .int .i64 0] 24)) := Below.alloc (Below.refl _ _) (Nat.le_refl _) _
      go_wp2_with fail
      have nepzpu : gpz ≠ vya231.heap.size := Nat.ne_of_lt pz.lt
      have nepypu : gpy ≠ vya231.heap.size := Nat.ne_of_lt py.lt
      replace pz := pz.below hnx pz.lt
      replace py := py.below hnx py.lt
      have pu : BK (vya231.alloc (.cells #[.slice none 0 0, .int .i64 0] 24)) vya231.heap.size #[.slice none 0 0, .int .i64 0] 24 := BK.new _ _ _
      refine hK _ _ (fun _ => eya246) ?_
      clear hK K hnx
      generalize (vya231.alloc (.cells #[.slice none 0 0, .int .i64 0] 24)) = vya248 at *
      obtain ⟨gpu, hgpu⟩ : ∃ g, vya231.heap.size = g := ⟨_, rfl⟩
      have hqpu : w2.heap.size ≤ gpu := by omega
      rw [hgpu] at pu nepzpu nepypu
      try rw [hgpu]
      clear hgpu
      refine any_run1 (i := 4) (by kernel_rfl) (by rfl) (by kernel_rfl) ?_
      intro K hK
      have qya250 := eya246.size
      have eya249 : Below w2.heap.size w2 (vya248.alloc (.cells #[.slice none 0 0, .int .i64 0] 24)) := Below.alloc eya246 eya246.size _
      have hnx : Below vya248.heap.size vya248 (vya248.alloc (.cells #[.slice none 0 0, .int .i64 0] 24)) := Below.alloc (Below.refl _ _) (Nat.le_refl _) _
      go_wp2_with fail
      have nepzpx : gpz ≠ vya248.heap.size := Nat.ne_of_lt pz.lt
      have nepypx : gpy ≠ vya248.heap.size := Nat.ne_of_lt py.lt
      have nepupx : gpu ≠ vya248.heap.size := Nat.ne_of_lt pu.lt
      replace pz := pz.below hnx pz.lt
      replace py := py.below hnx py.lt
      replace pu := pu.below hnx pu.lt
      have px : BK (vya248.alloc (.cells #[.slice none 0 0, .int .i64 0] 24)) vya248.heap.size #[.slice none 0 0, .int .i64 0] 24 := BK.new _ _ _
      refine hK _ _ (fun _ => eya249) ?_
      clear hK K hnx
      generalize (vya248.alloc (.cells #[.slice none 0 0, .int .i64 0] 24)) = vya251 at *
      obtain ⟨gpx, hgpx⟩ : ∃ g, vya248.heap.size = g := ⟨_, rfl⟩
      have hqpx : w2.heap.size ≤ gpx := by omega
      rw [hgpx] at px nepzpx nepypx nepupx
      try rw [hgpx]
      clear hgpx
      refine any_run1 (i := 8) (by kernel_rfl) (by rfl) (by kernel_rfl) ?_
      intro K hK
      have lpx := px.lt
      have y0 := px.cell 0
      have f0 := px.frozen 0
      have y1 := px.cell 1
      have f1 := px.frozen 1
      simp at y0 y1
      go_wp2_with fail
      have h4 := wr4 px py pz pu nepypx nepzpx nepupx hqpx eya249 (.slice A l.length cap) (.int .i64 m)
      clear lpx y0 f0 y1 f1 px py pz pu
      obtain ⟨px, py, pz, pu, eya252⟩ := h4
      refine hK _ _ (fun _ => eya252) ?_
      clear hK K
      generalize ((vya251.setCell ⟨gpx, 0, none⟩ (.slice A l.length cap)).setCell ⟨gpx, 1, none⟩ (.int .i64 m)) = vya253 at *
      refine any_run1 (i := 9) (by kernel_rfl) (by rfl) (by kernel_rfl) ?_
      intro K hK
      have lpy := py.lt
      have y0 := py.cell 0
      have f0 := py.frozen 0
      have y1 := py.cell 1
      have f1 := py.frozen 1
      simp at y0 y1
      go_wp2_with fail
      have h4 := wr4 py px pz pu nepypx.symm nepzpy nepypu.symm hqpy eya252 (.slice A l.length cap) (.int .i64 m)
      clear lpy y0 f0 y1 f1 px py pz pu
      obtain ⟨py, px, pz, pu, eya254⟩ := h4
      refine hK _ _ (fun _ => eya254) ?_
      clear hK K
      generalize ((vya253.setCell ⟨gpy, 0, none⟩ (.slice A l.length cap)).setCell ⟨gpy, 1, none⟩ (.int .i64 m)) = vya255 at *
      refine any_run1 (i := 10) (by kernel_rfl) (by rfl) (by kernel_rfl) ?_
      intro K hK
      have lpz := pz.lt
      have y0 := pz.cell 0
      have f0 := pz.frozen 0
      have y1 := pz.cell 1
      have f1 := pz.frozen 1
      simp at y0 y1
      go_wp2_with fail
      have h4 := wr4 pz px py pu nepzpx.symm nepzpy.symm nepzpu.symm hqpz eya254 (.slice A l.length cap) (.int .i64 m)
      clear lpz y0 f0 y1 f1 px py pz pu
      obtain ⟨pz, px, py, pu, eya256⟩ := h4
      refine hK _ _ (fun _ => eya256) ?_
      clear hK K
      generalize ((vya255.setCell ⟨gpz, 0, none⟩ (.slice A l.length cap)).setCell ⟨gpz, 1, none⟩ (.int .i64 m)) = vya257 at *
      refine any_run1 (i := 11) (by kernel_rfl) (by rfl) (by kernel_rfl) ?_
      intro K hK
      have lpu := pu.lt
      have y0 := pu.cell 0
      have f0 := pu.frozen 0
      have y1 := pu.cell 1
      have f1 := pu.frozen 1
      simp at y0 y1
      go_wp2_with fail
      have h4 := wr4 pu px py pz nepupx.symm nepypu nepzpu hqpu eya256 (.slice A l.length cap) (.int .i64 m)
      clear lpu y0 f0 y1 f1 px py pz pu
      obtain ⟨pu, px, py, pz, eya258⟩ := h4
      refine hK _ _ (fun _ => eya258) ?_
      clear hK K
      generalize ((vya257.setCell ⟨gpu, 0, none⟩ (.slice A l.length cap)).setCell ⟨gpu, 1, none⟩ (.int .i64 m)) = vya259 at *
      refine any_done (by kernel_rfl) (NoPanic.normal ?_)
      exact ⟨rfl, by simp [setAll], rfl, _, _, _, _, rfl, rfl, rfl, rfl, nepypx.symm, nepzpx.symm, nepupx.symm, nepzpy.symm, nepypu, nepzpu, px, py, pz, pu, hqpx, hqpy, hqpz, hqpu, eya258⟩
    ·skip
     intro K hK
     have qya261 := eya195.size
     have eya260 : Below w2.heap.size w2 (vya197.alloc (.cells #[.slice none 0 0, .int .i64 0] 24)) := Below.alloc eya195 eya195.size _
     have hnx : Below vya197.heap.size vya197 (vya197.alloc (.cells #[.slice none 0 0, .int .i64 0] 24)) := Below.alloc (Below.refl _ _) (Nat.le_refl _) _
     go_wp2_with fail
     have nepzpu : gpz ≠ vya197.heap.size := Nat.ne_of_lt pz.lt
     replace pz := pz.below hnx pz.lt
     have pu : BK (vya197.alloc (.cells #[.slice none 0 0, .int .i64 0] 24)) vya197.heap.size #[.slice none 0 0, .int .i64 0] 24 := BK.new _ _ _
     refine hK _ _ (fun _ => eya260) ?_
     clear hK K hnx
     generalize (vya197.alloc (.cells #[.slice none 0 0, .int .i64 0] 24)) = vya262 at *
     obtain ⟨gpu, hgpu⟩ : ∃ g, vya197.heap.size = g := ⟨_, rfl⟩
     have hqpu : w2.heap.size ≤ gpu := by omega
     rw [hgpu] at pu nepzpu
     try rw [hgpu]
     clear hgpu
     refine any_run2 (i := 4) (j := 5) (by kernel_rfl) (by rfl) (by rfl) (by rfl) (by rfl) ?_ ?_
     ·skip
      intro K hK
      have qya264 := eya260.size
      have eya263 : Below w2.heap.size w2 (vya262.alloc (.cells #[.slice none 0 0, .int .i64 0] 24)) := Below.alloc eya260 eya260.size _
      have hnx : Below vya262.heap.size vya262 (vya262.alloc (.cells #[.slice none 0 0, .int .i64 0] 24)) := Below.alloc (Below.refl _ _) (Nat.le_refl _) _
      go_wp2_with fail
      have nepzpx : gpz ≠ vya262.heap.size := Nat.ne_of_lt pz.lt
      have nepupx : gpu ≠ vya262.heap.size := Nat.ne_of_lt pu.lt
      replace pz := pz.below hnx pz.lt
      replace pu := pu.below hnx pu.lt
      have px : BK (vya262.alloc (.cells #[.slice none 0 0, .int .i64 0] 24)) vya262.heap.size #[.slice none 0 0, .int .i64 0] 24 := BK.new _ _ _
      refine hK _ _ (fun _ => eya263) ?_
      clear hK K hnx
      generalize (vya262.alloc (.cells #[.slice none 0 0, .int .i64 0] 24)) = vya265 at *
      obtain ⟨gpx, hgpx⟩ : ∃ g, vya262.heap.size = g := ⟨_, rfl⟩
      have hqpx : w2.heap.size ≤ gpx := by omega
      rw [hgpx] at px nepzpx nepupx
      try rw [hgpx]
      clear hgpx
      refine any_run1 (i := 5) (by kernel_rfl) (by rfl) (by kernel_rfl) ?_
      intro K hK
      have qya267 := eya263.size
      have eya266 : Below w2.heap.size w2 (vya265.alloc (.cells #[.slice none 0 0, .int .i64 0] 24)) := Below.alloc eya263 eya263.size _
      have hnx : Below vya265.heap.size vya265 (vya265.alloc (.cells #[.slice none 0 0, .int .i64 0] 24)) := Below.alloc (Below.refl _ _) (Nat.le_refl _) _
      go_wp2_with fail
      have nepzpy : gpz ≠ vya265.heap.size := Nat.ne_of_lt pz.lt
      have nepupy : gpu ≠ vya265.heap.size := Nat.ne_of_lt pu.lt
      have nepxpy : gpx ≠ vya265.heap.size := Nat.ne_of_lt px.lt
      replace pz := pz.below hnx pz.lt
      replace pu := pu.below hnx pu.lt
      replace px := px.below hnx px.lt
      have py : BK (vya265.alloc (.cells #[.slice none 0 0, .int .i64 0] 24)) vya265.heap.size #[.slice none 0 0, .int .i64 0] 24 := BK.new _ _ _
      refine hK _ _ (fun _ => eya266) ?_
      clear hK K hnx
      generalize (vya265.alloc (.cells #[.slice none 0 0, .int .i64 0] 24)) = vya268 at *
      obtain ⟨gpy, hgpy⟩ : ∃ g, vya265.heap.size = g := ⟨_, rfl⟩
      have hqpy : w2.heap.size ≤ gpy := by omega
      rw [hgpy] at py nepzpy nepupy nepxpy
      try rw [hgpy]
      clear hgpy
      refine any_run1 (i := 8) (by kernel_rfl) (by rfl) (by kernel_rfl) ?_
      intro K hK
      have lpx := px.lt
      have y0 := px.cell 0
      have f0 := px.frozen 0
      have y1 := px.cell 1
      have f1 := px.frozen 1
      simp at y0 y1
      go_wp2_with fail
      have h4 := wr4 px py pz pu nepxpy.symm nepzpx nepupx hqpx eya266 (.slice A l.length cap) (.int .i64 m)
      clear lpx y0 f0 y1 f1 px py pz pu
      obtain ⟨px, py, pz, pu, eya269⟩ := h4
      refine hK _ _ (fun _ => eya269) ?_
      clear hK K
      generalize ((vya268.setCell ⟨gpx, 0, none⟩ (.slice A l.length cap)).setCell ⟨gpx, 1, none⟩ (.int .i64 m)) = vya270 at *
      refine any_run1 (i := 9) (by kernel_rfl) (by rfl) (by kernel_rfl) ?_
      intro K hK
      have lpy := py.lt
      have y0 := py.cell 0
      have f0 := py.frozen 0
      have y1 := py.cell 1
      have f1 := py.frozen 1
      simp at y0 y1
      go_wp2_with fail
      have h4 := wr4 py px pz pu nepxpy nepzpy nepupy hqpy eya269 (.slice A l.length cap) (.int .i64 m)
      clear lpy y0 f0 y1 f1 px py pz pu
      obtain ⟨py, px, pz, pu, eya271⟩ := h4
      refine hK _ _ (fun _ => eya271) ?_
      clear hK K
      generalize ((vya270.setCell ⟨gpy, 0, none⟩ (.slice A l.length cap)).setCell ⟨gpy, 1, none⟩ (.int .i64 m)) = vya272 at *
      refine any_run1 (i := 10) (by kernel_rfl) (by rfl) (by kernel_rfl) ?_
      intro K hK
      have lpz := pz.lt
      have y0 := pz.cell 0
      have f0 := pz.frozen 0
      have y1 := pz.cell 1
      have f1 := pz.frozen 1
      simp at y0 y1
      go_wp2_with fail
      have h4 := wr4 pz px py pu nepzpx.symm nepzpy.symm nepzpu.symm hqpz eya271 (.slice A l.length cap) (.int .i64 m)
      clear lpz y0 f0 y1 f1 px py pz pu
      obtain ⟨pz, px, py, pu, eya273⟩ := h4
      refine hK _ _ (fun _ => eya273) ?_
      clear hK K
      generalize ((vya272.setCell ⟨gpz, 0, none⟩ (.slice A l.length cap)).setCell ⟨gpz, 1, none⟩ (.int .i64 m)) = vya274 at *
      refine any_run1 (i := 11) (by kernel_rfl) (by rfl) (by kernel_rfl) ?_
      intro K hK
      have lpu := pu.lt
      have y0 := pu.cell 0
      have f0 := pu.frozen 0
      have y1 := pu.cell 1
      have f1 := pu.frozen 1
      simp at y0 y1
      go_wp2_with fail
      have h4 := wr4 pu px py pz nepupx.symm nepupy.symm nepzpu hqpu eya273 (.slice A l.length cap) (.int .i64 m)
      clear lpu y0 f0 y1 f1 px py pz pu
      obtain ⟨pu, px, py, pz, eya275⟩ := h4
      refine hK _ _ (fun _ => eya275) ?_
      clear hK K
      generalize ((vya274.setCell ⟨gpu, 0, none⟩ (.slice A l.length cap)).setCell ⟨gpu, 1, none⟩ (.int .i64 m)) = vya276 at *
      refine any_done (by kernel_rfl) (NoPanic.normal ?_)
      exact ⟨rfl, by simp [setAll], rfl, _, _, _, _, rfl, rfl, rfl, rfl, nepxpy, nepzpx.symm, nepupx.symm, nepzpy.symm, nepupy.symm, nepzpu, px, py, pz, pu, hqpx, hqpy, hqpz, hqpu, eya275⟩
     ·skip
      intro K hK
      have qya278 := eya260.size
      have eya277 : Below w2.heap.size w2 (vya262.alloc (.cells #[.slice none 0 0, .int .i64 0] 24)) := Below.alloc eya260 eya260.size _
      have hnx : Below vya262.heap.size vya262 (vya262.alloc (.cells #[.slice none 0 0, .int .i64 0] 24)) := Below.alloc (Below.refl _ _) (Nat.le_refl _) _
      go_wp2_with fail
      have nepzpy : gpz ≠ vya262.heap.size := Nat.ne_of_lt pz.lt
      have nepupy : gpu ≠ vya262.heap.size := Nat.ne_of_lt pu.lt
      replace pz := pz.below hnx pz.lt
      replace pu := pu.below hnx pu.lt
      have py : BK (vya262.alloc (.cells #[.slice none 0 0, .int .i64 0] 24)) vya262.heap.size #[.slice none 0 0, .int .i64 0] 24 := BK.new _ _ _
      refine hK _ _ (fun _ => eya277) ?_
      clear hK K hnx
      generalize (vya262.alloc (.cells #[.slice none 0 0, .int .i64 0] 24)) = vya279 at *
      obtain ⟨gpy, hgpy⟩ : ∃ g, vya262.heap.size = g := ⟨_, rfl⟩
      have hqpy : w2.heap.size ≤ gpy := by omega
      rw [hgpy] at py nepzpy nepupy
      try rw [hgpy]
      clear hgpy
      refine any_run1 (i := 4) (by kernel_rfl) (by rfl) (by kernel_rfl) ?_
      intro K hK
      have qya281 := eya277.size
      have eya280 : Below w2.heap.size w2 (vya279.alloc (.cells #[.slice none 0 0, .int .i64 0] 24)) := Below.alloc eya277 eya277.size _
      have hnx : Below vya279.heap.size vya279 (vya279.alloc (.cells #[.slice none 0 0, .int .i64 0] 24)) := Below.alloc (Below.refl _ _) (Nat.le_refl _) _
      go_wp2_with fail
      have nepzpx : gpz ≠ vya279.heap.size := Nat.ne_of_lt pz.lt
      have nepupx : gpu ≠ vya279.heap.size := Nat.ne_of_lt pu.lt
      have nepypx : gpy ≠ vya279.heap.size := Nat.ne_of_lt py.lt
      replace pz := pz.below hnx pz.lt
      replace pu := pu.below hnx pu.lt
      replace py := py.below hnx py.lt
      have px : BK (vya279.alloc (.cells #[.slice none 0 0, .int .i64 0] 24)) vya279.heap.size #[.slice none 0 0, .int .i64 0] 24 := BK.new _ _ _
      refine hK _ _ (fun _ => eya280) ?_
      clear hK K hnx
      generalize (vya279.alloc (.cells #[.slice none 0 0, .int .i64 0] 24)) = vya282 at *
      obtain ⟨gpx, hgpx⟩ : ∃ g, vya279.heap.size = g := ⟨_, rfl⟩
      have hqpx : w2.heap.size ≤ gpx := by omega
      rw [hgpx] at px nepzpx nepupx nepypx
      try rw [hgpx]
      clear hgpx
      refine any_run1 (i := 8) (by kernel_rfl) (by rfl) (by kernel_rfl) ?_
      intro K hK
      have lpx := px.lt
      have y0 := px.cell 0
      have f0 := px.frozen 0
      have y1 := px.cell 1
      have f1 := px.frozen 1
      simp at y0 y1
      go_wp2_with fail
      have h4 := wr4 px py pz pu nepypx nepzpx nepupx hqpx eya280 (.slice A l.length cap) (.int .i64 m)
      clear lpx y0 f0 y1 f1 px py pz pu
      obtain ⟨px, py, pz, pu, eya283⟩ := h4
      refine hK _ _ (fun _ => eya283) ?_
      clear hK K
      generalize ((vya282.setCell ⟨gpx, 0, none⟩ (.slice A l.length cap)).setCell ⟨gpx, 1, none⟩ (.int .i64 m)) = vya284 at *
      refine any_run1 (i := 9) (by kernel_rfl) (by rfl) (by kernel_rfl) ?_
      intro K hK
      have lpy := py.lt
      have y0 := py.cell 0
      have f0 := py.frozen 0
      have y1 := py.cell 1
      have f1 := py.frozen 1
      simp at y0 y1
      go_wp2_with fail
      have h4 := wr4 py px pz pu nepypx.symm nepzpy nepupy hqpy eya283 (.slice A l.length cap) (.int .i64 m)
      clear lpy y0 f0 y1 f1 px py pz pu
      obtain ⟨py, px, pz, pu, eya285⟩ := h4
      refine hK _ _ (fun _ => eya285) ?_
      clear hK K
      generalize ((vya284.setCell ⟨gpy, 0, none⟩ (.slice A l.length cap)).setCell ⟨gpy, 1, none⟩ (.int .i64 m)) = vya286 at *
      refine any_run1 (i := 10) (by kernel_rfl) (by rfl) (by kernel_rfl) ?_
      intro K hK
      have lpz := pz.lt
      have y0 := pz.cell 0
      have f0 := pz.frozen 0
      have y1 := pz.cell 1
      have f1 := pz.frozen 1
      simp at y0 y1
      go_wp2_with fail
      have h4 := wr4 pz px py pu nepzpx.symm nepzpy.symm nepzpu.symm hqpz eya285 (.slice A l.length cap) (.int .i64 m)
      clear lpz y0 f0 y1 f1 px py pz pu
      obtain ⟨pz, px, py, pu, eya287⟩ := h4
      refine hK _ _ (fun _ => eya287) ?_
      clear hK K
      generalize ((vya286.setCell ⟨gpz, 0, none⟩ (.slice A l.length cap)).setCell ⟨gpz, 1, none⟩ (.int .i64 m)) = vya288 at *
      refine any_run1 (i := 11) (by kernel_rfl) (by rfl) (by kernel_rfl) ?_
      intro K hK
      have lpu := pu.lt
      have y0 := pu.cell 0
      have f0 := pu.frozen 0
      have y1 := pu.cell 1
      have f1 := pu.frozen 1
      simp at y0 y1
      go_wp2_with fail
      have h4 := wr4 pu px py pz nepupx.symm nepupy.symm nepzpu hqpu eya287 (.slice A l.length cap) (.int .i64 m)
      clear lpu y0 f0 y1 f1 px py pz pu
      obtain ⟨pu, px, py, pz, eya289⟩ := h4
      refine hK _ _ (fun _ => eya289) ?_
      clear hK K
      generalize ((vya288.setCell ⟨gpu, 0, none⟩ (.slice A l.length cap)).setCell ⟨gpu, 1, none⟩ (.int .i64 m)) = vya290 at *
      refine any_done (by kernel_rfl) (NoPanic.normal ?_)
      exact ⟨rfl, by simp [setAll], rfl, _, _, _, _, rfl, rfl, rfl, rfl, nepypx.symm, nepzpx.symm, nepupx.symm, nepzpy.symm, nepupy.symm, nepzpu, px, py, pz, pu, hqpx, hqpy, hqpz, hqpu, eya289⟩
   ·skip
    intro K hK
    have qya292 := dya1.size
    have eya291 : Below w2.heap.size w2 (uya2.alloc (.cells #[.slice none 0 0, .int .i64 0] 24)) := Below.alloc dya1 dya1.size _
    have hnx : Below uya2.heap.size uya2 (uya2.alloc (.cells #[.slice none 0 0, .int .i64 0] 24)) := Below.alloc (Below.refl _ _) (Nat.le_refl _) _
    go_wp2_with fail
    have pu : BK (uya2.alloc (.cells #[.slice none 0 0, .int .i64 0] 24)) uya2.heap.size #[.slice none 0 0, .int .i64 0] 24 := BK.new _ _ _
    refine hK _ _ (fun _ => eya291) ?_
    clear hK K hnx
    generalize (uya2.alloc (.cells #[.slice none 0 0, .int .i64 0] 24)) = vya293 at *
    obtain ⟨gpu, hgpu⟩ : ∃ g, uya2.heap.size = g := ⟨_, rfl⟩
    have hqpu : w2.heap.size ≤ gpu := by omega
    rw [hgpu] at pu
    try rw [hgpu]
    clear hgpu
    refine any_run3 (i := 4) (j := 5) (k := 6) (by kernel_rfl) (by rfl) (by rfl) (by rfl) (by rfl) (by rfl) (by rfl) ?_ ?_ ?_
    ·skip
     intro K hK
     have qya295 := eya291.size
     have eya294 : Below w2.heap.size w2 (vya293.alloc (.cells #[.slice none 0 0, .int .i64 0] 24)) := Below.alloc eya291 eya291.size _
     have hnx : Below vya293.heap.size vya293 (vya293.alloc (.cells #[.slice none 0 0, .int .i64 0] 24)) := Below.alloc (Below.refl _ _) (Nat.le_refl _) _
     go_wp2_with fail
     have nepupx : gpu ≠ vya293.heap.size := Nat.ne_of_lt pu.lt
     replace pu := pu.below hnx pu.lt
     have px : BK (vya293.alloc (.cells #[.slice none 0 0, .int .i64 0] 24)) vya293.heap.size #[.slice none 0 0, .int .i64 0] 24 := BK.new _ _ _
     refine hK _ _ (fun _ => eya294) ?_
     clear hK K hnx
     generalize (vya293.alloc (.cells #[.slice none 0 0, .int .i64 0] 24)) = vya296 at *
     obtain ⟨gpx, hgpx⟩ : ∃ g, vya293.heap.size = g := ⟨_, rfl⟩
     have hqpx : w2.heap.size ≤ gpx := by omega
     rw [hgpx] at px nepupx
     try rw [hgpx]
     clear hgpx
     refine any_run2 (i := 5) (j := 6) (by kernel_rfl) (by rfl) (by rfl) (by rfl) (by rfl) ?_ ?_
     ·skip
      intro K hK
      have qya298 := eya294.size
      have eya297 : Below w2.heap.size w2 (vya296.alloc (.cells #[.slice none 0 0, .int .i64 0] 24)) := Below.alloc eya294 eya294.size _
      have hnx : Below vya296.heap.size vya296 (vya296.alloc (.cells #[.slice none 0 0, .int .i64 0] 24)) := Below.alloc (Below.refl _ _) (Nat.le_refl _) _
      go_wp2_with fail
      have nepupy : gpu ≠ vya296.heap.size := Nat.ne_of_lt pu.lt
      have nepxpy : gpx ≠ vya296.heap.size := Nat.ne_of_lt px.lt
      replace pu := pu.below hnx pu.lt
      replace px := px.below hnx px.lt
      have py : BK (vya296.alloc (.cells #[.slice none 0 0, .int .i64 0] 24)) vya296.heap.size #[.slice none 0 0, .int .i64 0] 24 := BK.new _ _ _
      refine hK _ _ (fun _ => eya297) ?_
      clear hK K hnx
      generalize (vya296.alloc (.cells #[.slice none 0 0, .int .i64 0] 24)) = vya299 at *
      obtain ⟨gpy, hgpy⟩ : ∃ g, vya296.heap.size = g := ⟨_, rfl⟩
      have hqpy : w2.heap.size ≤ gpy := by omega
      rw [hgpy] at py nepupy nepxpy
      try rw [hgpy]
      clear hgpy
      refine any_run1 (i := 6) (by kernel_rfl) (by rfl) (by kernel_rfl) ?_
      intro K hK
      have qya301 := eya297.size
      have eya300 : Below w2.heap.size w2 (vya299.alloc (.cells #[.slice none 0 0, .int .i64 0] 24)) := Below.alloc eya297 eya297.size _
      have hnx : Below vya299.heap.size vya299 (vya299.alloc (.cells #[.slice none 0 0, .int .i64 0] 24)) := Below.alloc (Below.refl _ _) (Nat.le_refl _) _
      go_wp2_with fail
      have nepupz : gpu ≠ vya299.heap.size := Nat.ne_of_lt pu.lt
      have nepxpz : gpx ≠ vya299.heap.size := Nat.ne_of_lt px.lt
      have nepypz : gpy ≠ vya299.heap.size := Nat.ne_of_lt py.lt
      replace pu := pu.below hnx pu.lt
      replace px := px.below hnx px.lt
      replace py := py.below hnx py.lt
      have pz : BK (vya299.alloc (.cells #[.slice none 0 0, .int .i64 0] 24)) vya299.heap.size #[.slice none 0 0, .int .i64 0] 24 := BK.new _ _ _
      refine hK _ _ (fun _ => eya300) ?_
      clear hK K hnx
      generalize (vya299.alloc (.cells #[.slice none 0 0, .int .i64 0] 24)) = vya302 at *
      obtain ⟨gpz, hgpz⟩ : ∃ g, vya299.heap.size = g := ⟨_, rfl⟩
      have hqpz : w2.heap.size ≤ gpz := by omega
      rw [hgpz] at pz nepupz nepxpz nepypz
      try rw [hgpz]
      clear hgpz
      refine any_run1 (i := 8) (by kernel_rfl) (by rfl) (by kernel_rfl) ?_
      intro K hK
      have lpx := px.lt
      have y0 := px.cell 0
      have f0 := px.frozen 0
      have y1 := px.cell 1
      have f1 := px.frozen 1
      simp at y0 y1
      go_wp2_with fail
      have h4 := wr4 px py pz pu nepxpy.symm nepxpz.symm nepupx hqpx eya300 (.slice A l.length cap) (.int .i64 m)
      clear lpx y0 f0 y1 f1 px py pz pu
      obtain ⟨px, py, pz, pu, eya303⟩ := h4
      refine hK _ _ (fun _ => eya303) ?_
      clear hK K
      generalize ((vya302.setCell ⟨gpx, 0, none⟩ (.slice A l.length cap)).setCell ⟨gpx, 1, none⟩ (.int .i64 m)) = vya304 at *
      refine any_run1 (i := 9) (by kernel_rfl) (by rfl) (by kernel_rfl) ?_
      intro K hK
      have lpy := py.lt
      have y0 := py.cell 0
      have f0 := py.frozen 0
      have y1 := py.cell 1
      have f1 := py.frozen 1
      simp at y0 y1
      go_wp2_with fail
      have h4 := wr4 py px pz pu nepxpy nepypz.symm nepupy hqpy eya303 (.slice A l.length cap) (.int .i64 m)
      clear lpy y0 f0 y1 f1 px py pz pu
      obtain ⟨py, px, pz, pu, eya305⟩ := h4
      refine hK _ _ (fun _ => eya305) ?_
      clear hK K
      generalize ((vya304.setCell ⟨gpy, 0, none⟩ (.slice A l.length cap)).setCell ⟨gpy, 1, none⟩ (.int .i64 m)) = vya306 at *
      refine any_run1 (i := 10) (by kernel_rfl) (by rfl) (by kernel_rfl) ?_
      intro K hK
      have lpz := pz.lt
      have y0 := pz.cell 0
      have f0 := pz.frozen 0
      have y1 := pz.cell 1
      have f1 := pz.frozen 1
      simp at y0 y1
      go_wp2_with fail
      have h4 := wr4 pz px py pu nepxpz nepypz nepupz hqpz eya305 (.slice A l.length cap) (.int .i64 m)
      clear lpz y0 f0 y1 f1 px py pz pu
      obtain ⟨pz, px, py, pu, eya307⟩ := h4
      refine hK _ _ (fun _ => eya307) ?_
      clear hK K
      generalize ((vya306.setCell ⟨gpz, 0, none⟩ (.slice A l.length cap)).setCell ⟨gpz, 1, none⟩ (.int .i64 m)) = vya308 at *
      refine any_run1 (i := 11) (by kernel_rfl) (by rfl) (by kernel_rfl) ?_
      intro K hK
      have lpu := pu.lt
      have y0 := pu.cell 0
      have f0 := pu.frozen 0
      have y1 := pu.cell 1
      have f1 := pu.frozen 1
      simp at y0 y1
      go_wp2_with fail
      have h4 := wr4 pu px py pz nepupx.symm nepupy.symm nepupz.symm hqpu eya307 (.slice A l.length cap) (.int .i64 m)
      clear lpu y0 f0 y1 f1 px py pz pu
      obtain ⟨pu, px, py, pz, eya309⟩ := h4
      refine hK _ _ (fun _ => eya309) ?_
      clear hK K
      generalize ((vya308.setCell ⟨gpu, 0, none⟩ (.slice A l.length cap)).setCell ⟨gpu, 1, none⟩ (.int .i64 m)) = vya310 at *
      refine any_done (by kernel_rfl) (NoPanic.normal ?_)
      exact ⟨rfl, by simp [setAll], rfl, _, _, _, _, rfl, rfl, rfl, rfl, nepxpy, nepxpz, nepupx.symm, nepypz, nepupy.symm, nepupz.symm, px, py, pz, pu, hqpx, hqpy, hqpz, hqpu, eya309⟩
     ·skip
      intro K hK
      have qya312 := eya294.size
      have eya311 : Below w2.heap.size w2 (vya296.alloc (.cells #[.slice none 0 0, .int .i64 0] 24)) := Below.alloc eya294 eya294.size _
      have hnx : Below vya296.heap.size vya296 (vya296.alloc (.cells #[.slice none 0 0, .int .i64 0] 24)) := Below.alloc (Below.refl _ _) (Nat.le_refl _) _
      go_wp2_with fail
      have nepupz : gpu ≠ vya296.heap.size := Nat.ne_of_lt pu.lt
      have nepxpz : gpx ≠ vya296.heap.size := Nat.ne_of_lt px.lt
      replace pu := pu.below hnx pu.lt
      replace px := px.below hnx px.lt
      have pz : BK (vya296.alloc (.cells #[.slice none 0 0, .int .i64 0] 24)) vya296.heap.size #[.slice none 0 0, .int .i64 0] 24 := BK.new _ _ _
      refine hK _ _ (fun _ => eya311) ?_
      clear hK K hnx
      generalize (vya296.alloc (.cells #[.slice none 0 0, .int .i64 0] 24)) = vya313 at *
      obtain ⟨gpz, hgpz⟩ : ∃ g, vya296.heap.size = g := ⟨_, rfl⟩
      have hqpz : w2.heap.size ≤ gpz := by omega
      rw [hgpz] at pz nepupz nepxpz
      try rw [hgpz]
      clear hgpz
      refine any_run1 (i := 5) (by kernel_rfl) (by rfl) (by kernel_rfl) ?_
      intro K hK
      have qya315 := eya311.size
      have eya314 : Below w2.heap.size w2 (vya313.alloc (.cells #[.slice none 0 0, .int .i64 0] 24)) := Below.alloc eya311 eya311.size _
      have hnx : Below vya313.heap.size vya313 (vya313.alloc (.cells #[.slice none 0 0, .int .i64 0] 24)) := Below.alloc (Below.refl _ _) (Nat.le_refl _) _
      go_wp2_with fail
      have nepupy : gpu ≠ vya313.heap.size := Nat.ne_of_lt pu.lt
      have nepxpy : gpx ≠ vya313.heap.size := Nat.ne_of_lt px.lt
      have nepzpy : gpz ≠ vya313.heap.size := Nat.ne_of_lt pz.lt
      replace pu := pu.below hnx pu.lt
      replace px := px.below hnx px.lt
      replace pz := pz.below hnx pz.lt
      have py : BK (vya313.alloc (.cells #[.slice none 0 0, .int .i64 0] 24)) vya313.heap.size #[.slice none 0 0, .int .i64 0] 24 := BK.new _ _ _
      refine hK _ _ (fun _ => eya314) ?_
      clear hK K hnx
      generalize (vya313.alloc (.cells #[.slice none 0 0, .int .i64 0] 24)) = vya316 at *
      obtain ⟨gpy, hgpy⟩ : ∃ g, vya313.heap.size = g := ⟨_, rfl⟩
      have hqpy : w2.heap.size ≤ gpy := by omega
      rw [hgpy] at py nepupy nepxpy nepzpy
      try rw [hgpy]
      clear hgpy
      refine any_run1 (i := 8) (by kernel_rfl) (by rfl) (by kernel_rfl) ?_
      intro K hK
      have lpx := px.lt
      have y0 := px.cell 0
      have f0 := px.frozen 0
      have y1 := px.cell 1
      have f1 := px.frozen 1
      simp at y0 y1
      go_wp2_with fail
      have h4 := wr4 px py pz pu nepxpy.symm nepxpz.symm nepupx hqpx eya314 (.slice A l.length cap) (.int .i64 m)
      clear lpx y0 f0 y1 f1 px py pz pu
      obtain ⟨px, py, pz, pu, eya317⟩ := h4
      refine hK _ _ (fun _ => eya317) ?_
      clear hK K
      generalize ((vya316.setCell ⟨gpx, 0, none⟩ (.slice A l.length cap)).setCell ⟨gpx, 1, none⟩ (.int .i64 m)) = vya318 at *
      refine any_run1 (i := 9) (by kernel_rfl) (by rfl) (by kernel_rfl) ?_
      intro K hK
      have lpy := py.lt
      have y0 := py.cell 0
      have f0 := py.frozen 0
      have y1 := py.cell 1
      have f1 := py.frozen 1
      simp at y0 y1
      go_wp2_with fail
      have h4 := wr4 py px pz pu nepxpy nepzpy nepupy hqpy eya317 (.slice A l.length cap) (.int .i64 m)
      clear lpy y0 f0 y1 f1 px py pz pu
      obtain ⟨py, px, pz, pu, eya319⟩ := h4
      refine hK _ _ (fun _ => eya319) ?_
      clear hK K
      generalize ((vya318.setCell ⟨gpy, 0, none⟩ (.slice A l.length cap)).setCell ⟨gpy, 1, none⟩ (.int .i64 m)) = vya320 at *
      refine any_run1 (i := 10) (by kernel_rfl) (by rfl) (by kernel_rfl) ?_
      intro K hK
      have lpz := pz.lt
      have y0 := pz.cell 0
      have f0 := pz.frozen 0
      have y1 := pz.cell 1
      have f1 := pz.frozen 1
      simp at y0 y1
      go_wp2_with fail
      have h4 := wr4 pz px py pu nepxpz nepzpy.symm nepupz hqpz eya319 (.slice A l.length cap) (.int .i64 m)
      clear lpz y0 f0 y1 f1 px py pz pu
      obtain ⟨pz, px, py, pu, eya321⟩ := h4
      refine hK _ _ (fun _ => eya321) ?_
      clear hK K
      generalize ((vya320.setCell ⟨gpz, 0, none⟩ (.slice A l.length cap)).setCell ⟨gpz, 1, none⟩ (.int .i64 m)) = vya322 at *
      refine any_run1 (i := 11) (by kernel_rfl) (by rfl) (by kernel_rfl) ?_
      intro K hK
      have lpu := pu.lt
      have y0 := pu.cell 0
      have f0 := pu.frozen 0
      have y1 := pu.cell 1
      have f1 := pu.frozen 1
      simp at y0 y1
      go_wp2_with fail
      have h4 := wr4 pu px py pz nepupx.symm nepupy.symm nepupz.symm hqpu eya321 (.slice A l.length cap) (.int .i64 m)
      clear lpu y0 f0 y1 f1 px py pz pu
      obtain ⟨pu, px, py, pz, eya323⟩ := h4
      refine hK _ _ (fun _ => eya323) ?_
      clear hK K
      generalize ((vya322.setCell ⟨gpu, 0, none⟩ (.slice A l.length cap)).setCell ⟨gpu, 1, none⟩ (.int .i64 m)) = vya324 at *
      refine any_done (by kernel_rfl) (NoPanic.normal ?_)
      exact ⟨rfl, by simp [setAll], rfl, _, _, _, _, rfl, rfl, rfl, rfl, nepxpy, nepxpz, nepupx.symm, nepzpy.symm, nepupy.symm, nepupz.symm, px, py, pz, pu, hqpx, hqpy, hqpz, hqpu, eya323⟩
    ·skip
     intro K hK
     have qya326 := eya291.size
     have eya325 : Below w2.heap.size w2 (vya293.alloc (.cells #[.slice none 0 0, .int .i64 0] 24)) := Below.alloc eya291 eya291.size _
     have hnx : Below vya293.heap.size vya293 (vya293.alloc (.cells #[.slice none 0 0, .int .i64 0] 24)) := Below.alloc (Below.refl _ _) (Nat.le_refl _) _
     go_wp2_with fail
     have nepupy : gpu ≠ vya293.heap.size := Nat.ne_of_lt pu.lt
     replace pu := pu.below hnx pu.lt
     have py : BK (vya293.alloc (.cells #[.slice none 0 0, .int .i64 0] 24)) vya293.heap.size #[.slice none 0 0, .int .i64 0] 24 := BK.new _ _ _
     refine hK _ _ (fun _ => eya325) ?_
     clear hK K hnx
     generalize (vya293.alloc (.cells #[.slice none 0 0, .int .i64 0] 24)) = vya327 at *
     obtain ⟨gpy, hgpy⟩ : ∃ g, vya293.heap.size = g := ⟨_, rfl⟩
     have hqpy : w2.heap.size ≤ gpy := by omega
     rw [hgpy] at py nepupy
     try rw [hgpy]
     clear hgpy
     refine any_run2 (i := 4) (j := 6) (by kernel_rfl) (by rfl) (by rfl) (by rfl) (by rfl) ?_ ?_
     ·skip
      intro K hK
      have qya329 := eya325.size
      have eya328 : Below w2.heap.size w2 (vya327.alloc (.cells #[.slice none 0 0, .int .i64 0] 24)) := Below.alloc eya325 eya325.size _
      have hnx : Below vya327.heap.size vya327 (vya327.alloc (.cells #[.slice none 0 0, .int .i64 0] 24)) := Below.alloc (Below.refl _ _) (Nat.le_refl _) _
      go_wp2_with fail
      have nepupx : gpu ≠ vya327.heap.size := Nat.ne_of_lt pu.lt
      have nepypx : gpy ≠ vya327.heap.size := Nat.ne_of_lt py.lt
      replace pu := pu.below hnx pu.lt
      replace py := py.below hnx py.lt
      have px : BK (vya327.alloc (.cells #[.slice none 0 0, .int .i64 0] 24)) vya327.heap.size #[.slice none 0 0, .int .i64 0] 24 := BK.new _ _ _
      refine hK _ _ (fun _ => eya328) ?_
      clear hK K hnx
      generalize (vya327.alloc (.cells #[.slice none 0 0, .int .i64 0] 24)) = vya330 at *
      obtain ⟨gpx, hgpx⟩ : ∃ g, vya327.heap.size = g := ⟨_, rfl⟩
      have hqpx : w2.heap.size ≤ gpx := by omega
      rw [hgpx] at px nepupx nepypx
      try rw [hgpx]
      clear hgpx
      refine any_run1 (i := 6) (by kernel_rfl) (by rfl) (by kernel_rfl) ?_
      intro K hK
      have qya332 := eya328.size
      have eya331 : Below w2.heap.size w2 (vya330.alloc (.cells #[.slice none 0 0, .int .i64 0] 24)) := Below.alloc eya328 eya328.size _
      have hnx : Below vya330.heap.size vya330 (vya330.alloc (.cells #[.slice none 0 0, .int .i64 0] 24)) := Below.alloc (Below.refl _ _) (Nat.le_refl _) _
      go_wp2_with fail
      have nepupz : gpu ≠ vya330.heap.size := Nat.ne_of_lt pu.lt
      have nepypz : gpy ≠ vya330.heap.size := Nat.ne_of_lt py.lt
      have nepxpz : gpx ≠ vya330.heap.size := Nat.ne_of_lt px.lt
      replace pu := pu.below hnx pu.lt
      replace py := py.below hnx py.lt
      replace px := px.below hnx px.lt
      have pz : BK (vya330.alloc (.cells #[.slice none 0 0, .int .i64 0] 24)) vya330.heap.size #[.slice none 0 0, .int .i64 0] 24 := BK.new _ _ _
      refine hK _ _ (fun _ => eya331) ?_
      clear hK K hnx
      generalize (vya330.alloc (.cells #[.slice none 0 0, .int .i64 0] 24)) = vya333 at *
      obtain ⟨gpz, hgpz⟩ : ∃ g, vya330.heap.size = g := ⟨_, rfl⟩
      have hqpz : w2.heap.size ≤ gpz := by omega
      rw [hgpz] at pz nepupz nepypz nepxpz
      try rw [hgpz]
      clear hgpz
      refine any_run1 (i := 8) (by kernel_rfl) (by rfl) (by kernel_rfl) ?_
      intro K hK
      have lpx := px.lt
      have y0 := px.cell 0
      have f0 := px.frozen 0
      have y1 := px.cell 1
      have f1 := px.frozen 1
      simp at y0 y1
      go_wp2_with fail
      have h4 := wr4 px py pz pu nepypx nepxpz.symm nepupx hqpx eya331 (.slice A l.length cap) (.int .i64 m)
      clear lpx y0 f0 y1 f1 px py pz pu
      obtain ⟨px, py, pz, pu, eya334⟩ := h4
      refine hK _ _ (fun _ => eya334) ?_
      clear hK K
      generalize ((vya333.setCell ⟨gpx, 0, none⟩ (.slice A l.length cap)).setCell ⟨gpx, 1, none⟩ (.int .i64 m)) = vya335 at *
      refine any_run1 (i := 9) (by kernel_rfl) (by rfl) (by kernel_rfl) ?_
      intro K hK
      have lpy := py.lt
      have y0 := py.cell 0
      have f0 := py.frozen 0
      have y1 := py.cell 1
      have f1 := py.frozen 1
      simp at y0 y1
      go_wp2_with fail
      have h4 := wr4 py px pz pu nepypx.symm nepypz.symm nepupy hqpy eya334 (.slice A l.length cap) (.int .i64 m)
      clear lpy y0 f0 y1 f1 px py pz pu
      obtain ⟨py, px, pz, pu, eya336⟩ := h4
      refine hK _ _ (fun _ => eya336) ?_
      clear hK K
      generalize ((vya335.setCell ⟨gpy, 0, none⟩ (.slice A l.length cap)).setCell ⟨gpy, 1, none⟩ (.int .i64 m)) = vya337 at *
      refine any_run1 (i := 10) (by kernel_rfl) (by rfl) (by kernel_rfl) ?_
      intro K hK
      have lpz := pz.lt
      have y0 := pz.cell 0
      have f0 := pz.frozen 0
      have y1 := pz.cell 1
      have f1 := pz.frozen 1
      simp at y0 y1
      go_wp2_with fail
      have h4 := wr4 pz px py pu nepxpz nepypz nepupz hqpz eya336 (.slice A l.length cap) (.int .i64 m)
      clear lpz y0 f0 y1 f1 px py pz pu
      obtain ⟨pz, px, py, pu, eya338⟩ := h4
      refine hK _ _ (fun _ => eya338) ?_
      clear hK K
      generalize ((vya337.setCell ⟨gpz, 0, none⟩ (.slice A l.length cap)).setCell ⟨gpz, 1, none⟩ (.int .i64 m)) = vya339 at *
      refine any_run1 (i := 11) (by kernel_rfl) (by rfl) (by kernel_rfl) ?_
      intro K hK
      have lpu := pu.lt
      have y0 := pu.cell 0
      have f0 := pu.frozen 0
      have y1 := pu.cell 1
      have f1 := pu.frozen 1
      simp at y0 y1
      go_wp2_with fail
      have h4 := wr4 pu px py pz nepupx.symm nepupy.symm nepupz.symm hqpu eya338 (.slice A l.length cap) (.int .i64 m)
      clear lpu y0 f0 y1 f1 px py pz pu
      obtain ⟨pu, px, py, pz, eya340⟩ := h4
      refine hK _ _ (fun _ => eya340) ?_
      clear hK K
      generalize ((vya339.setCell ⟨gpu, 0, none⟩ (.slice A l.length cap)).setCell ⟨gpu, 1, none⟩ (.int .i64 m)) = vya341 at *
      refine any_done (by kernel_rfl) (NoPanic.normal ?_)
      exact ⟨rfl, by simp [setAll], rfl, _, _, _, _, rfl, rfl, rfl, rfl, nepypx.symm, nepxpz, nepupx.symm, nepypz, nepupy.symm, nepupz.symm, px, py, pz, pu, hqpx, hqpy, hqpz, hqpu, eya340⟩
     ·skip
      intro K hK
      have qya343 := eya325.size
      have eya342 : Below w2.heap.size w2 (vya327.alloc (.cells #[.slice none 0 0, .int .i64 0] 24)) := Below.alloc eya325 eya325.size _
      have hnx : Below vya327.heap.size vya327 (vya327.alloc (.cells #[.slice none 0 0, .int .i64 0] 24)) := Below.alloc (Below.refl _ _) (Nat.le_refl _) _
      go_wp2_with fail
      have nepupz : gpu ≠ vya327.heap.size := Nat.ne_of_lt pu.lt
      have nepypz : gpy ≠ vya327.heap.size := Nat.ne_of_lt py.lt
      replace pu := pu.below hnx pu.lt
      replace py := py.below hnx py.lt
      have pz : BK (vya327.alloc (.cells #[.slice none 0 0, .int .i64 0] 24)) vya327.heap.size #[.slice none 0 0, .int .i64 0] 24 := BK.new _ _ _
      refine hK _ _ (fun _ => eya342) ?_
      clear hK K hnx
      generalize (vya327.alloc (.cells #[.slice none 0 0, .int .i64 0] 24)) = vya344 at *
      obtain ⟨gpz, hgpz⟩ : ∃ g, vya327.heap.size = g := ⟨_, rfl⟩
      have hqpz : w2.heap.size ≤ gpz := by omega
      rw [hgpz] at pz nepupz nepypz
      try rw [hgpz]
      clear hgpz
      refine any_run1 (i := 4) (by kernel_rfl) (by rfl) (by kernel_rfl) ?_
      intro K hK
      have qya346 := eya342.size
      have eya345 : Below w2.heap.size w2 (vya344.alloc (.cells #[.slice none 0 0, .int .i64 0] 24)) := Below.alloc eya342 eya342.size _
      have hnx : Below vya344.heap.size vya344 (vya344.alloc (.cells #[.slice none 0 0, .int .i64 0] 24)) := Below.alloc (Below.refl _ _) (Nat.le_refl _) _
      go_wp2_with fail
      have nepupx : gpu ≠ vya344.heap.size := Nat.ne_of_lt pu.lt
      have nepypx : gpy ≠ vya344.heap.size := Nat.ne_of_lt py.lt
      have nepzpx : gpz ≠ vya344.heap.size := Nat.ne_of_lt pz.lt
      replace pu := pu.below hnx pu.lt
      replace py := py.below hnx py.lt
      replace pz := pz.below hnx pz.lt
      have px : BK (vya344.alloc (.cells #[.slice none 0 0, .int .i64 0] 24)) vya344.heap.size #[.slice none 0 0, .int .i64 0] 24 := BK.new _ _ _
      refine hK _ _ (fun _ => eya345) ?_
      clear hK K hnx
      generalize (vya344.alloc (.cells #[.slice none 0 0, .int .i64 0] 24)) = vya347 at *
      obtain ⟨gpx, hgpx⟩ : ∃ g, vya344.heap.size = g := ⟨_, rfl⟩
      have hqpx : w2.heap.size ≤ gpx := by omega
      rw [hgpx] at px nepupx nepypx nepzpx
      try rw [hgpx]
      clear hgpx
      refine any_run1 (i := 8) (by kernel_rfl) (by rfl) (by kernel_rfl) ?_
      intro K hK
      have lpx := px.lt
      have y0 := px.cell 0
      have f0 := px.frozen 0
      have y1 := px.cell 1
      have f1 := px.frozen 1
      simp at y0 y1
      go_wp2_with fail
      have h4 := wr4 px py pz pu nepypx nepzpx nepupx hqpx eya345 (.slice A l.length cap) (.int .i64 m)
      clear lpx y0 f0 y1 f1 px py pz pu
      obtain ⟨px, py, pz, pu, eya348⟩ := h4
      refine hK _ _ (fun _ => eya348) ?_
      clear hK K
      generalize ((vya347.setCell ⟨gpx, 0, none⟩ (.slice A l.length cap)).setCell ⟨gpx, 1, none⟩ (.int .i64 m)) = vya349 at *
      refine any_run1 (i := 9) (by kernel_rfl) (by rfl) (by kernel_rfl) ?_
      intro K hK
      have lpy := py.lt
      have y0 := py.cell 0
      have f0 := py.frozen 0
      have y1 := py.cell 1
      have f1 := py.frozen 1
      simp at y0 y1
      go_wp2_with fail
      have h4 := wr4 py px pz pu nepypx.symm nepypz.symm nepupy hqpy eya348 (.slice A l.length cap) (.int .i64 m)
      clear lpy y0 f0 y1 f1 px py pz pu
      obtain ⟨py, px, pz, pu, eya350⟩ := h4
      refine hK _ _ (fun _ => eya350) ?_
      clear hK K
      generalize ((vya349.setCell ⟨gpy, 0, none⟩ (.slice A l.length cap)).setCell ⟨gpy, 1, none⟩ (.int .i64 m)) = vya351 at *
      refine any_run1 (i := 10) (by kernel_rfl) (by rfl) (by kernel_rfl) ?_
      intro K hK
      have lpz := pz.lt
      have y0 := pz.cell 0
      have f0 := pz.frozen 0
      have y1 := pz.cell 1
      have f1 := pz.frozen 1
      simp at y0 y1
      go_wp2_with fail
      have h4 := wr4 pz px py pu nepzpx.symm nepypz nepupz hqpz eya350 (.slice A l.length cap) (.int .i64 m)
      clear lpz y0 f0 y1 f1 px py pz pu
      obtain ⟨pz, px, py, pu, eya352⟩ := h4
      refine hK _ _ (fun _ => eya352) ?_
      clear hK K
      generalize ((vya351.setCell ⟨gpz, 0, none⟩ (.slice A l.length cap)).setCell ⟨gpz, 1, none⟩ (.int .i64 m)) = vya353 at *
      refine any_run1 (i := 11) (by kernel_rfl) (by rfl) (by kernel_rfl) ?_
      intro K hK
      have lpu := pu.lt
      have y0 := pu.cell 0
      have f0 := pu.frozen 0
      have y1 := pu.cell 1
      have f1 := pu.frozen 1
      simp at y0 y1
      go_wp2_with fail
      have h4 := wr4 pu px py pz nepupx.symm nepupy.symm nepupz.symm hqpu eya352 (.slice A l.length cap) (.int .i64 m)
      clear lpu y0 f0 y1 f1 px py pz pu
      obtain ⟨pu, px, py, pz, eya354⟩ := h4
      refine hK _ _ (fun _ => eya354) ?_
      clear hK K
      generalize ((vya353.setCell ⟨gpu, 0, none⟩ (.slice A l.length cap)).setCell ⟨gpu, 1, none⟩ (.int .i64 m)) = vya355 at *
      refine any_done (by kernel_rfl) (NoPanic.normal ?_)
      exact ⟨rfl, by simp [setAll], rfl, _, _, _, _, rfl, rfl, rfl, rfl, nepypx.symm, nepzpx.symm, nepupx.symm, nepypz, nepupy.symm, nepupz.symm, px, py, pz, pu, hqpx, hqpy, hqpz, hqpu, eya354⟩
    ·skip
     intro K hK
     have qya357 := eya291.size
     have eya356 : Below w2.heap.size w2 (vya293.alloc (.cells #[.slice none 0 0, .int .i64 0] 24)) := Below.alloc eya291 eya291.size _
     have hnx : Below vya293.heap.size vya293 (vya293.alloc (.cells #[.slice none 0 0, .int .i64 0] 24)) := Below.alloc (Below.refl _ _) (Nat.le_refl _) _
     go_wp2_with fail
     have nepupz : gpu ≠ vya293.heap.size := Nat.ne_of_lt pu.lt
     replace pu := pu.below hnx pu.lt
     have pz : BK (vya293.alloc (.cells #[.slice none 0 0, .int .i64 0] 24)) vya293.heap.size #[.slice none 0 0, .int .i64 0] 24 := BK.new _ _ _
     refine hK _ _ (fun _ => eya356) ?_
     clear hK K hnx
     generalize (vya293.alloc (.cells #[.slice none 0 0, .int .i64 0] 24)) = vya358 at *
     obtain ⟨gpz, hgpz⟩ : ∃ g, vya293.heap.size = g := ⟨_, rfl⟩
     have hqpz : w2.heap.size ≤ gpz := by omega
     rw [hgpz] at pz nepupz
     try rw [hgpz]
     clear hgpz
     refine any_run2 (i := 4) (j := 5) (by kernel_rfl) (by rfl) (by rfl) (by rfl) (by rfl) ?_ ?_
     ·skip
      intro K hK
      have qya360 := eya356.size
      have eya359 : Below w2.heap.size w2 (vya358.alloc (.cells #[.slice none 0 0, .int .i64 0] 24)) := Below.alloc eya356 eya356.size _
      have hnx : Below vya358.heap.size vya358 (vya358.alloc (.cells #[.slice none 0 0, .int .i64 0] 24)) := Below.alloc (Below.refl _ _) (Nat.le_refl _) _
      go_wp2_with fail
      have nepupx : gpu ≠ vya358.heap.size := Nat.ne_of_lt pu.lt
      have nepzpx : gpz ≠ vya358.heap.size := Nat.ne_of_lt pz.lt
      replace pu := pu.below hnx pu.lt
      replace pz := pz.below hnx pz.lt
      have px : BK (vya358.alloc (.cells #[.slice none 0 0, .int .i64 0] 24)) vya358.heap.size #[.slice none 0 0, .int .i64 0] 24 := BK.new _ _ _
      refine hK _ _ (fun _ => eya359) ?_
      clear hK K hnx
      generalize (vya358.alloc (.cells #[.slice none 0 0, .int .i64 0] 24)) = vya361 at *
      obtain ⟨gpx, hgpx⟩ : ∃ g, vya358.heap.size = g := ⟨_, rfl⟩
      have hqpx : w2.heap.size ≤ gpx := by omega
      rw [hgpx] at px nepupx nepzpx
      try rw [hgpx]
      clear hgpx
      refine any_run1 (i := 5) (by kernel_rfl) (by rfl) (by kernel_rfl) ?_
      intro K hK
      have qya363 := eya359.size
      have eya362 : Below w2.heap.size w2 (vya361.alloc (.cells #[.slice none 0 0, .int .i64 0] 24)) := Below.alloc eya359 eya359.size _
      have hnx : Below vya361.heap.size vya361 (vya361.alloc (.cells #[.slice none 0 0, .int .i64 0] 24)) := Below.alloc (Below.refl _ _) (Nat.le_refl _) _
      go_wp2_with fail
      have nepupy : gpu ≠ vya361.heap.size := Nat.ne_of_lt pu.lt
      have nepzpy : gpz ≠ vya361.heap.size := Nat.ne_of_lt pz.lt
      have nepxpy : gpx ≠ vya361.heap.size := Nat.ne_of_lt px.lt
      replace pu := pu.below hnx pu.lt
      replace pz := pz.below hnx pz.lt
      replace px := px.below hnx px.lt
      have py : BK (vya361.alloc (.cells #[.slice none 0 0, .int .i64 0] 24)) vya361.heap.size #[.slice none 0 0, .int .i64 0] 24 := BK.new _ _ _
      refine hK _ _ (fun _ => eya362) ?_
      clear hK K hnx
      generalize (vya361.alloc (.cells #[.slice none 0 0, .int .i64 0] 24)) = vya364 at *
      obtain ⟨gpy, hgpy⟩ : ∃ g, vya361.heap.size = g := ⟨_, rfl⟩
      have hqpy : w2.heap.size ≤ gpy := by omega
      rw [hgpy] at py nepupy nepzpy nepxpy
      try rw [hgpy]
      clear hgpy
      refine any_run1 (i := 8) (by kernel_rfl) (by rfl) (by kernel_rfl) ?_
      intro K hK
      have lpx := px.lt
      have y0 := px.cell 0
      have f0 := px.frozen 0
      have y1 := px.cell 1
      have f1 := px.frozen 1
      simp at y0 y1
      go_wp2_with fail
      have h4 := wr4 px py pz pu nepxpy.symm nepzpx nepupx hqpx eya362 (.slice A l.length cap) (.int .i64 m)
      clear lpx y0 f0 y1 f1 px py pz pu
      obtain ⟨px, py, pz, pu, eya365⟩ := h4
      refine hK _ _ (fun _ => eya365) ?_
      clear hK K
      generalize ((vya364.setCell ⟨gpx, 0, none⟩ (.slice A l.length cap)).setCell ⟨gpx, 1, none⟩ (.int .i64 m)) = vya366 at *
      refine any_run1 (i := 9) (by kernel_rfl) (by rfl) (by kernel_rfl) ?_
      intro K hK
      have lpy := py.lt
      have y0 := py.cell 0
      have f0 := py.frozen 0
      have y1 := py.cell 1
      have f1 := py.frozen 1
      simp at y0 y1
      go_wp2_with fail
      have h4 := wr4 py px pz pu nepxpy nepzpy nepupy hqpy eya365 (.slice A l.length cap) (.int .i64 m)
      clear lpy y0 f0 y1 f1 px py pz pu
      obtain ⟨py, px, pz, pu, eya367⟩ := h4
      refine hK _ _ (fun _ => eya367) ?_
      clear hK K
      generalize ((vya366.setCell ⟨gpy, 0, none⟩ (.slice A l.length cap)).setCell ⟨gpy, 1, none⟩ (.int .i64 m)) = vya368 at *
      refine any_run1 (i := 10) (by kernel_rfl) (by rfl) (by kernel_rfl) ?_
      intro K hK
      have lpz := pz.lt
      have y0 := pz.cell 0
      have f0 := pz.frozen 0
      have y1 := pz.cell 1
      have f1 := pz.frozen 1
      simp at y0 y1
      go_wp2_with fail
      have h4 := wr4 pz px py pu nepzpx.symm nepzpy.symm nepupz hqpz eya367 (.slice A l.length cap) (.int .i64 m)
      clear lpz y0 f0 y1 f1 px py pz pu
      obtain ⟨pz, px, py, pu, eya369⟩ := h4
      refine hK _ _ (fun _ => eya369) ?_
      clear hK K
      generalize ((vya368.setCell ⟨gpz, 0, none⟩ (.slice A l.length cap)).setCell ⟨gpz, 1, none⟩ (.int .i64 m)) = vya370 at *
      refine any_run1 (i := 11) (by kernel_rfl) (by rfl) (by kernel_rfl) ?_
      intro K hK
      have lpu := pu.lt
      have y0 := pu.cell 0
      have f0 := pu.frozen 0
      have y1 := pu.cell 1
      have f1 := pu.frozen 1
      simp at y0 y1
      go_wp2_with fail
      have h4 := wr4 pu px py pz nepupx.symm nepupy.symm nepupz.symm hqpu eya369 (.slice A l.length cap) (.int .i64 m)
      clear lpu y0 f0 y1 f1 px py pz pu
      obtain ⟨pu, px, py, pz, eya371⟩ := h4
      refine hK _ _ (fun _ => eya371) ?_
      clear hK K
      generalize ((vya370.setCell ⟨gpu, 0, none⟩ (.slice A l.length cap)).setCell ⟨gpu, 1, none⟩ (.int .i64 m)) = vya372 at *
      refine any_done (by kernel_rfl) (NoPanic.normal ?_)
      exact ⟨rfl, by simp [setAll], rfl, _, _, _, _, rfl, rfl, rfl, rfl, nepxpy, nepzpx.symm, nepupx.symm, nepzpy.symm, nepupy.symm, nepupz.symm, px, py, pz, pu, hqpx, hqpy, hqpz, hqpu, eya371⟩
     ·skip
      intro K hK
      have qya374 := eya356.size
      have eya373 : Below w2.heap.size w2 (vya358.alloc (.cells #[.slice none 0 0, .int .i64 0] 24)) := Below.alloc eya356 eya356.size _
      have hnx : Below vya358.heap.size vya358 (vya358.alloc (.cells #[.slice none 0 0, .int .i64 0] 24)) := Below.alloc (Below.refl _ _) (Nat.le_refl _) _
      go_wp2_with fail
      have nepupy : gpu ≠ vya358.heap.size := Nat.ne_of_lt pu.lt
      have nepzpy : gpz ≠ vya358.heap.size := Nat.ne_of_lt pz.lt
      replace pu := pu.below hnx pu.lt
      replace pz := pz.below hnx pz.lt
      have py : BK (vya358.alloc (.cells #[.slice none 0 0, .int .i64 0] 24)) vya358.heap.size #[.slice none 0 0, .int .i64 0] 24 := BK.new _ _ _
      refine hK _ _ (fun _ => eya373) ?_
      clear hK K hnx
      generalize (vya358.alloc (.cells #[.slice none 0 0, .int .i64 0] 24)) = vya375 at *
      obtain ⟨gpy, hgpy⟩ : ∃ g, vya358.heap.size = g := ⟨_, rfl⟩
      have hqpy : w2.heap.size ≤ gpy := by omega
      rw [hgpy] at py nepupy nepzpy
      try rw [hgpy]
      clear hgpy
      refine any_run1 (i := 4) (by kernel_rfl) (by rfl) (by kernel_rfl) ?_
      intro K hK
      have qya377 := eya373.size
      have eya376 : Below w2.heap.size w2 (vya375.alloc (.cells #[.slice none 0 0, .int .i64 0] 24)) := Below.alloc eya373 eya373.size _
      have hnx : Below vya375.heap.size vya375 (vya375.alloc (.cells #[.slice none 0 0, .int .i64 0] 24)) := Below.alloc (Below.refl _ _) (Nat.le_refl _) _
      go_wp2_with fail
      have nepupx : gpu ≠ vya375.heap.size := Nat.ne_of_lt pu.lt
      have nepzpx : gpz ≠ vya375.heap.size := Nat.ne_of_lt pz.lt
      have nepypx : gpy ≠ vya375.heap.size := Nat.ne_of_lt py.lt
      replace pu := pu.below hnx pu.lt
      replace pz := pz.below hnx pz.lt
      replace py := py.below hnx py.lt
      have px : BK (vya375.alloc (.cells #[.slice none 0 0, .int .i64 0] 24)) vya375.heap.size #[.slice none 0 0, .int .i64 0] 24 := BK.new _ _ _
      refine hK _ _ (fun _ => eya376) ?_
      clear hK K hnx
      generalize (vya375.alloc (.cells #[.slice none 0 0, .int .i64 0] 24)) = vya378 at *
      obtain ⟨gpx, hgpx⟩ : ∃ g, vya375.heap.size = g := ⟨_, rfl⟩
      have hqpx : w2.heap.size ≤ gpx := by omega
      rw [hgpx] at px nepupx nepzpx nepypx
      try rw [hgpx]
      clear hgpx
      refine any_run1 (i := 8) (by kernel_rfl) (by rfl) (by kernel_rfl) ?_
      intro K hK
      have lpx := px.lt
      have y0 := px.cell 0
      have f0 := px.frozen 0
      have y1 := px.cell 1
      have f1 := px.frozen 1
      simp at y0 y1
      go_wp2_with fail
      have h4 := wr4 px py pz pu nepypx nepzpx nepupx hqpx eya376 (.slice A l.length cap) (.int .i64 m)
      clear lpx y0 f0 y1 f1 px py pz pu
      obtain ⟨px, py, pz, pu, eya379⟩ := h4
      refine hK _ _ (fun _ => eya379) ?_
      clear hK K
      generalize ((vya378.setCell ⟨gpx, 0, none⟩ (.slice A l.length cap)).setCell ⟨gpx, 1, none⟩ (.int .i64 m)) = vya380 at *
      refine any_run1 (i := 9) (by kernel_rfl) (by rfl) (by kernel_rfl) ?_
      intro K hK
      have lpy := py.lt
      have y0 := py.cell 0
      have f0 := py.frozen 0
      have y1 := py.cell 1
      have f1 := py.frozen 1
      simp at y0 y1
      go_wp2_with fail
      have h4 := wr4 py px pz pu nepypx.symm nepzpy nepupy hqpy eya379 (.slice A l.length cap) (.int .i64 m)
      clear lpy y0 f0 y1 f1 px py pz pu
      obtain ⟨py, px, pz, pu, eya381⟩ := h4
      refine hK _ _ (fun _ => eya381) ?_
      clear hK K
      generalize ((vya380.setCell ⟨gpy, 0, none⟩ (.slice A l.length cap)).setCell ⟨gpy, 1, none⟩ (.int .i64 m)) = vya382 at *
      refine any_run1 (i := 10) (by kernel_rfl) (by rfl) (by kernel_rfl) ?_
      intro K hK
      have lpz := pz.lt
      have y0 := pz.cell 0
      have f0 := pz.frozen 0
      have y1 := pz.cell 1
      have f1 := pz.frozen 1
      simp at y0 y1
      go_wp2_with fail
      have h4 := wr4 pz px py pu nepzpx.symm nepzpy.symm nepupz hqpz eya381 (.slice A l.length cap) (.int .i64 m)
      clear lpz y0 f0 y1 f1 px py pz pu
      obtain ⟨pz, px, py, pu, eya383⟩ := h4
      refine hK _ _ (fun _ => eya383) ?_
      clear hK K
      generalize ((vya382.setCell ⟨gpz, 0, none⟩ (.slice A l.length cap)).setCell ⟨gpz, 1, none⟩ (.int .i64 m)) = vya384 at *
      refine any_run1 (i := 11) (by kernel_rfl) (by rfl) (by kernel_rfl) ?_
      intro K hK
      have lpu := pu.lt
      have y0 := pu.cell 0
      have f0 := pu.frozen 0
      have y1 := pu.cell 1
      have f1 := pu.frozen 1
      simp at y0 y1
      go_wp2_with fail
      have h4 := wr4 pu px py pz nepupx.symm nepupy.symm nepupz.symm hqpu eya383 (.slice A l.length cap) (.int .i64 m)
      clear lpu y0 f0 y1 f1 px py pz pu
      obtain ⟨pu, px, py, pz, eya385⟩ := h4
      refine hK _ _ (fun _ => eya385) ?_
      clear hK K
      generalize ((vya384.setCell ⟨gpu, 0, none⟩ (.slice A l.length cap)).setCell ⟨gpu, 1, none⟩ (.int .i64 m)) = vya386 at *
      refine any_done (by kernel_rfl) (NoPanic.normal ?_)
      exact ⟨rfl, by simp [setAll], rfl, _, _, _, _, rfl, rfl, rfl, rfl, nepypx.symm, nepzpx.symm, nepupx.symm, nepzpy.symm, nepupy.symm, nepupz.symm, px, py, pz, pu, hqpx, hqpy, hqpz, hqpu, eya385⟩
  clear lbx bxc0 bxc1
  rintro u V ⟨gx, gy, gz, gu, hu1, hu2, hu3, hu4, ngxgy, ngxgz, ngxgu, ngygz, ngygu, ngzgu, px, py, pz, pu, q1, q2, q3, q4, hbz⟩
  simp only [setAll, List.foldl, List.setIfInBounds_toArray, List.set_cons_succ, List.set_cons_zero, hu1, hu2, hu3, hu4]
  have hnb := bx.lt
  have hnp := pr.lt
  have lx : n0 < gx ∧ n0 + 1 < gx := by omega
  have ly : n0 < gy ∧ n0 + 1 < gy := by omega
  have lz : n0 < gz ∧ n0 + 1 < gz := by omega
  have lu : n0 < gu ∧ n0 + 1 < gu := by omega
  clear hu1 hu2 hu3 hu4 q1 q2 q3 q4 hnb hnp
  replace hC : Below n0 w V := hC.trans (hbz.mono (by have := hC.size; omega))
  replace hT := (RS.below hT hbz).more hbz.size
  replace bx := bx.below hbz bx.lt
  replace pr := pr.below hbz pr.lt
  clear hbz
  have lbx := bx.lt
  have bxc0 := bx.cell 0
  have bxc1 := bx.cell 1
  simp at bxc0 bxc1
  clear lbx bxc0 bxc1
  go_upto_region 6 with fail
  have hsz0 := hC.size
  obtain ⟨ge, hge⟩ : ∃ n, V.heap.size = n := ⟨_, rfl⟩
  have bE : BK (V.alloc (.cells #[] 60)) ge #[] 60 := BK.new' _ _ _ ge hge
  have hCe : Below n0 w (V.alloc (.cells #[] 60)) := Below.alloc hC (by omega) _
  have hbe : Below V.heap.size V (V.alloc (.cells #[] 60)) := Below.alloc (Below.refl _ _) (Nat.le_refl _) _
  have lt0 : ∀ k cs t, BK V k cs t → k ≠ ge := fun k cs t hk => by have := hk.lt; omega
  obtain ⟨gcx, ccx, w9cx, hrun, hown, hbel, hsz9, hkeep, hat⟩ := copy_st (base := n0) bE (by omega) (RS.more (RS.below hT hbe) hbe.size) (by omega) (by omega) (by have := hCe.size; omega)
  have hC9 := hbel _ hCe
  have hsze : (V.alloc (.cells #[] 60)).heap.size = ge + 1 := by simp [hge]
  rw [← hge] at hrun
  have HRUN := Lib.hid hrun
  have HOW := Lib.hid hown
  have bx9 := hkeep _ _ _ (bx.below hbe bx.lt) (lt0 _ _ _ bx)
  have pr9 := hkeep _ _ _ (pr.below hbe pr.lt) (lt0 _ _ _ pr)
  have px9 := hkeep _ _ _ (px.below hbe px.lt) (lt0 _ _ _ px)
  have py9 := hkeep _ _ _ (py.below hbe py.lt) (lt0 _ _ _ py)
  have pz9 := hkeep _ _ _ (pz.below hbe pz.lt) (lt0 _ _ _ pz)
  have pu9 := hkeep _ _ _ (pu.below hbe pu.lt) (lt0 _ _ _ pu)
  have lpx9 := px9.lt
  have px9c0 := px9.cell 0
  have px9c1 := px9.cell 1
  simp at px9c0 px9c1
  have px9f0 := px9.frozen 0
  have px9f1 := px9.frozen 1
  have lbx := bx.lt
  have bxc0 := bx.cell 0
  have bxc1 := bx.cell 1
  simp at bxc0 bxc1
  clear hrun hown hbel hsz9 hkeep hat bE lt0 hsz0 hge hsze
  go_upto_region 7 with (at_builtin; refine wpList_append_run rfl (.tmp 44) (.tmp 46) 22 _ rfl HRUN.out ?_)
  clear lpx9 px9c0 px9c1
  clear lbx bxc0 bxc1
  clear px9f0 px9f1
  have pxA := px9.set 0 (.slice (some ⟨gcx, 0, none⟩) l.length ccx)
  simp at pxA
  have bxA := bx9.far (p := ⟨gx, 0, none⟩) (by show n0 ≠ gx; omega) (.slice (some ⟨gcx, 0, none⟩) l.length ccx)
  have prA := pr9.far (p := ⟨gx, 0, none⟩) (by show n0 + 1 ≠ gx; omega) (.slice (some ⟨gcx, 0, none⟩) l.length ccx)
  have pyA := py9.far (p := ⟨gx, 0, none⟩) (by show gy ≠ gx; omega) (.slice (some ⟨gcx, 0, none⟩) l.length ccx)
  have pzA := pz9.far (p := ⟨gx, 0, none⟩) (by show gz ≠ gx; omega) (.slice (some ⟨gcx, 0, none⟩) l.length ccx)
  have puA := pu9.far (p := ⟨gx, 0, none⟩) (by show gu ≠ gx; omega) (.slice (some ⟨gcx, 0, none⟩) l.length ccx)
  have ocxA := own_set (i := 0) (u := (.slice (some ⟨gcx, 0, none⟩) l.length ccx)) HOW.out px9 (by decide)
  have hCA : Below n0 w (w9cx.setCell ⟨gx, 0, none⟩ (.slice (some ⟨gcx, 0, none⟩) l.length ccx)) := Below.setCell hC9 (by show n0 ≤ gx; omega) _
  clear hC hT hC9 hCe hbe HOW bx pr px py pz pu bx9 pr9 px9 py9 pz9 pu9
  generalize (w9cx.setCell ⟨gx, 0, none⟩ (.slice (some ⟨gcx, 0, none⟩) l.length ccx)) = Ycx at *
  have bx := bxA
  clear bxA
  have pr := prA
  clear prA
  have px := pxA
  clear pxA
  have py := pyA
  clear pyA
  have pz := pzA
  clear pzA
  have pu := puA
  clear puA
  have ocx := ocxA
  clear ocxA
  have hC := hCA
  clear hCA
  have hT : RT Ycx Ycx.heap.size (.slice A l.length cap) l := RS.more (RS.below H0.out hC) (by have := hC.size; omega)
  go_upto_region 7 with fail
  have hsz0 := hC.size
  obtain ⟨ge, hge⟩ : ∃ n, Ycx.heap.size = n := ⟨_, rfl⟩
  have bE : BK (Ycx.alloc (.cells #[] 60)) ge #[] 60 := BK.new' _ _ _ ge hge
  have hCe : Below n0 w (Ycx.alloc (.cells #[] 60)) := Below.alloc hC (by omega) _
  have hbe : Below Ycx.heap.size Ycx (Ycx.alloc (.cells #[] 60)) := Below.alloc (Below.refl _ _) (Nat.le_refl _) _
  have lt0 : ∀ k cs t, BK Ycx k cs t → k ≠ ge := fun k cs t hk => by have := hk.lt; omega
  obtain ⟨gcz, ccz, w9cz, hrun, hown, hbel, hsz9, hkeep, hat⟩ := copy_st (base := n0) bE (by omega) (RS.more (RS.below hT hbe) hbe.size) (by omega) (by omega) (by have := hCe.size; omega)
  have hC9 := hbel _ hCe
  have hsze : (Ycx.alloc (.cells #[] 60)).heap.size = ge + 1 := by simp [hge]
  have neocx := (own_lt ocx).2
  have nfocx : gcx ≠ gcz := by omega
  have ocx9 := OwnS.keep_ne (own_below ocx hbe) hkeep (show gcx ≠ ge by omega)
  rw [← hge] at hrun
  have HRUN := Lib.hid hrun
  have HOW := Lib.hid hown
  have bx9 := hkeep _ _ _ (bx.below hbe bx.lt) (lt0 _ _ _ bx)
  have pr9 := hkeep _ _ _ (pr.below hbe pr.lt) (lt0 _ _ _ pr)
  have px9 := hkeep _ _ _ (px.below hbe px.lt) (lt0 _ _ _ px)
  have py9 := hkeep _ _ _ (py.below hbe py.lt) (lt0 _ _ _ py)
  have pz9 := hkeep _ _ _ (pz.below hbe pz.lt) (lt0 _ _ _ pz)
  have pu9 := hkeep _ _ _ (pu.below hbe pu.lt) (lt0 _ _ _ pu)
  have lpz9 := pz9.lt
  have pz9c0 := pz9.cell 0
  have pz9c1 := pz9.cell 1
  simp at pz9c0 pz9c1
  have pz9f0 := pz9.frozen 0
  have pz9f1 := pz9.frozen 1
  have lbx := bx.lt
  have bxc0 := bx.cell 0
  have bxc1 := bx.cell 1
  simp at bxc0 bxc1
  clear hrun hown hbel hsz9 hkeep hat bE lt0 hsz0 hge hsze neocx
  go_upto_region 8 with (at_builtin; refine wpList_append_run rfl (.tmp 49) (.tmp 51) 22 _ rfl HRUN.out ?_)
  clear lpz9 pz9c0 pz9c1
  clear lbx bxc0 bxc1
  clear pz9f0 pz9f1
  have pzA := pz9.set 0 (.slice (some ⟨gcz, 0, none⟩) l.length ccz)
  simp at pzA
  have bxA := bx9.far (p := ⟨gz, 0, none⟩) (by show n0 ≠ gz; omega) (.slice (some ⟨gcz, 0, none⟩) l.length ccz)
  have prA := pr9.far (p := ⟨gz, 0, none⟩) (by show n0 + 1 ≠ gz; omega) (.slice (some ⟨gcz, 0, none⟩) l.length ccz)
  have pxA := px9.far (p := ⟨gz, 0, none⟩) (by show gx ≠ gz; omega) (.slice (some ⟨gcz, 0, none⟩) l.length ccz)
  have pyA := py9.far (p := ⟨gz, 0, none⟩) (by show gy ≠ gz; omega) (.slice (some ⟨gcz, 0, none⟩) l.length ccz)
  have puA := pu9.far (p := ⟨gz, 0, none⟩) (by show gu ≠ gz; omega) (.slice (some ⟨gcz, 0, none⟩) l.length ccz)
  have oczA := own_set (i := 0) (u := (.slice (some ⟨gcz, 0, none⟩) l.length ccz)) HOW.out pz9 (by decide)
  have ocxA := own_set (i := 0) (u := (.slice (some ⟨gcz, 0, none⟩) l.length ccz)) ocx9 pz9 (by decide)
  have hCA : Below n0 w (w9cz.setCell ⟨gz, 0, none⟩ (.slice (some ⟨gcz, 0, none⟩) l.length ccz)) := Below.setCell hC9 (by show n0 ≤ gz; omega) _
  clear hC hT hC9 hCe hbe HOW bx pr px py pz pu ocx bx9 pr9 px9 py9 pz9 pu9 ocx9
  generalize (w9cz.setCell ⟨gz, 0, none⟩ (.slice (some ⟨gcz, 0, none⟩) l.length ccz)) = Ycz at *
  have bx := bxA
  clear bxA
  have pr := prA
  clear prA
  have px := pxA
  clear pxA
  have py := pyA
  clear pyA
  have pz := pzA
  clear pzA
  have pu := puA
  clear puA
  have ocx := ocxA
  clear ocxA
  have ocz := oczA
  clear oczA
  have hC := hCA
  clear hCA
  have hT : RT Ycz Ycz.heap.size (.slice A l.length cap) l := RS.more (RS.below H0.out hC) (by have := hC.size; omega)
  have hos := okS_at HOK.out.all HI.out
  obtain ⟨⟨a, lo, hi, hd⟩, hss⟩ : ∃ s, nthS l i = s := ⟨_, rfl⟩
  have HSS := Lib.hid hss
  rw [hss] at hos
  dsimp only at hos
  have HOS := Lib.hid hos
  have ha1 := HA8.out.1
  have ha2 := HA8.out.2
  have h2 := H2.out
  have h3 := H3.out
  have w1 : IntKind.i64.wrap (a1 : Int) = a1 := by rw [IntKind.wrap_i64]; omega
  have w2' : IntKind.i64.wrap (a2 : Int) = a2 := by rw [IntKind.wrap_i64]; omega
  have w3' : IntKind.i64.wrap (lo - a1) = lo - a1 := by rw [IntKind.wrap_i64]; omega
  have w4' : IntKind.i64.wrap (hi + a2) = hi + a2 := by rw [IntKind.wrap_i64]; omega
  obtain ⟨LO, hLO⟩ : ∃ x, (if -100 < lo - (a1 : Int) then lo - (a1 : Int) else -100) = x := ⟨_, rfl⟩
  obtain ⟨HJ, hHJ⟩ : ∃ x, (if hi + (a2 : Int) < 100 then hi + (a2 : Int) else 100) = x := ⟨_, rfl⟩
  have hLO2 : LO ≤ lo := by rw [← hLO]; split <;> omega
  have hHJ2 : hi ≤ HJ := by rw [← hHJ]; split <;> omega
  have HLH := Lib.hid (And.intro hLO2 hHJ2)
  clear hss hos ha1 ha2 h2 h3 hLO2 hHJ2
  obtain ⟨b', off', hAA⟩ : ∃ b o, A = some ⟨b, o, none⟩ := by
    obtain ⟨A', cap', b', off', hve, hA, -⟩ := RT.cells hT
    injection hve with q1 q2 q3
    exact ⟨b', off', by rw [q1]; exact (hA (by omega)).1⟩
  subst hAA
  obtain ⟨A2, cap2, b2, off2, hve, hA, hc⟩ := RT.cells hT
  obtain ⟨hA1, hbb⟩ := hA (by omega)
  injection hve with q1 q2 q3
  rw [← q1] at hA1
  injection hA1 with hA1
  injection hA1 with hA1 hA2
  subst hA1 hA2
  obtain ⟨d0, d1, d2, d3⟩ := hc i HI.out
  rw [HSS.out] at d0 d1 d2 d3
  dsimp only at d0 d1 d2 d3
  have hi3 : (i : Int) < (l.length : Int) := by have := HI.out; omega
  have hi4 : i < l.length := HI.out
  clear hA hc q1 q2 q3
  have lbx := bx.lt
  have bxc0 := bx.cell 0
  have bxc1 := bx.cell 1
  simp at bxc0 bxc1
  have lpx := px.lt
  have pxc0 := px.cell 0
  have pxc1 := px.cell 1
  simp at pxc0 pxc1
  have lpr := pr.lt
  have prc0 := pr.cell 0
  have prc1 := pr.cell 1
  simp at prc0 prc1
  go_upto_region 8 with fail
  refine wp_region_noPanic (plain_any [0, 1, 2, 3, 4, 5, 6, 7, 8, 9, 10, 11, 12, 13, 14, 15, 16, 17, 18, 19, 20, 21, 22, 23, 24, 25, 26, 28, 29] (Below Ycz.heap.size Ycz) mixed ?_)
  refine any_tk 0 ?_
  refine any_tk 1 ?_
  refine any_tk 2 ?_
  refine any_tk 3 ?_
  refine any_tk 4 ?_
  refine any_tk 5 ?_
  refine any_tk 6 ?_
  refine any_tk 7 ?_
  refine any_tk 8 ?_
  refine any_tk 9 ?_
  refine any_tk 10 ?_
  refine any_tk 11 ?_
  refine any_tk 12 ?_
  refine any_tk 13 ?_
  refine any_tk 14 ?_
  refine any_tk 15 ?_
  refine any_tk 16 ?_
  refine any_tk 17 ?_
  refine any_tk 18 ?_
  refine any_tk 19 ?_
  refine any_tk 20 ?_
  refine any_tk 21 ?_
  refine any_tk 22 ?_
  refine any_tk 23 ?_
  refine any_tk 24 ?_
  refine any_tk 25 ?_
  refine any_tk 26 ?_
  have hd0cx : Below Ycz.heap.size Ycz Ycz.drew := by exact bel_of
  refine any_run1 (i := 27) (by kernel_rfl) (by rfl) (by kernel_rfl) ?_
  intro K3 hK3
  go_wp2_with fail
  refine (rg_any LO HJ _).mono ?_
  rintro e Vcx ⟨rfl, hb1⟩
  have hb01 : Below Ycz.heap.size Ycz Vcx := hd0cx.trans (hb1.mono hd0cx.size)
  refine hK3 _ _ (fun _ => hb01) ?_
  clear hK3 K3 hb1
  refine any_tk 28 ?_
  refine any_tk 29 ?_
  have hown2 := own_below ocx hb01
  obtain ⟨z0, z1, z2, z3⟩ := encS_at HI.out
  have hrs := RS.of_own hown2
  obtain ⟨Aq, capq, bq, offq, hvq, hlq, hAq, hcq⟩ := hrs
  obtain ⟨hAq, -⟩ := hAq (by omega)
  injection hvq with q1 q2 q3
  rw [← q1] at hAq
  injection hAq with hAq
  injection hAq with hAq hAo
  subst hAq hAo
  have lgz : gcx < Vcx.heap.size := (own_lt hown2).2
  have lgn : n0 ≤ gcx := (own_lt hown2).1
  have y1 := (hcq (i * 4 + 1) (by rw [hlq.1]; omega)).trans z1
  rw [Nat.zero_add] at y1
  have f1 := own_frozen hown2 (i * 4 + 1)
  have y2 := (hcq (i * 4 + 2) (by rw [hlq.1]; omega)).trans z2
  rw [Nat.zero_add] at y2
  have f2 := own_frozen hown2 (i * 4 + 2)
  clear z0 z1 z2 z3 hlq hcq q1 q2 q3
  have bxB := bx.below hb01 bx.lt
  have nqbx := own_ne hown2 bxB (by decide)
  have prB := pr.below hb01 pr.lt
  have nqpr := own_ne hown2 prB (by decide)
  have pxB := px.below hb01 px.lt
  have nqpx := own_ne hown2 pxB (by decide)
  have pyB := py.below hb01 py.lt
  have nqpy := own_ne hown2 pyB (by decide)
  have pzB := pz.below hb01 pz.lt
  have nqpz := own_ne hown2 pzB (by decide)
  have puB := pu.below hb01 pu.lt
  have nqpu := own_ne hown2 puB (by decide)
  have oczB := own_below ocz hb01
  have hCz : Below n0 w Vcx := hC.trans (hb01.mono (by have := hC.size; omega))
  have hput := put_rng (g := gcx) hown2 HI.out LO HJ
  rw [HSS.out] at hput
  dsimp only at hput
  clear lbx bxc0 bxc1
  clear lpx pxc0 pxc1
  clear lpr prc0 prc1
  clear hC hT d0 d1 d2 d3 hbb hown2 hb01 hd0cx bx pr px py pz pu ocx ocz
  refine any_run1 (i := 30) (by kernel_rfl) (by rfl) (by kernel_rfl) ?_
  intro K3 hK3
  go_wp2_with fail
  refine hK3 _ _ (fun hx => (Bool.false_ne_true (hx.symm.trans (by kernel_rfl))).elim) ?_
  clear hK3 K3
  refine any_done (by kernel_rfl) (NoPanic.normal ?_)
  clear y1 f1 y2 f2
  have bx := (BK.far (BK.far bxB (p := ⟨gcx, i * 4 + 1, none⟩) nqbx (.int .i64 LO)) (p := ⟨gcx, i * 4 + 2, none⟩) nqbx (.int .i64 HJ))
  have pr := (BK.far (BK.far prB (p := ⟨gcx, i * 4 + 1, none⟩) nqpr (.int .i64 LO)) (p := ⟨gcx, i * 4 + 2, none⟩) nqpr (.int .i64 HJ))
  have px := (BK.far (BK.far pxB (p := ⟨gcx, i * 4 + 1, none⟩) nqpx (.int .i64 LO)) (p := ⟨gcx, i * 4 + 2, none⟩) nqpx (.int .i64 HJ))
  have py := (BK.far (BK.far pyB (p := ⟨gcx, i * 4 + 1, none⟩) nqpy (.int .i64 LO)) (p := ⟨gcx, i * 4 + 2, none⟩) nqpy (.int .i64 HJ))
  have pz := (BK.far (BK.far pzB (p := ⟨gcx, i * 4 + 1, none⟩) nqpz (.int .i64 LO)) (p := ⟨gcx, i * 4 + 2, none⟩) nqpz (.int .i64 HJ))
  have pu := (BK.far (BK.far puB (p := ⟨gcx, i * 4 + 1, none⟩) nqpu (.int .i64 LO)) (p := ⟨gcx, i * 4 + 2, none⟩) nqpu (.int .i64 HJ))
  have ocz := (own_far2 (g2 := gcx) (j := i * 4 + 2) (own_far2 (g2 := gcx) (j := i * 4 + 1) oczB (by omega) (.int .i64 LO)) (by omega) (.int .i64 HJ))
  have ocx := hput
  have hC : Below n0 w ((Vcx.setCell ⟨gcx, i * 4 + 1, none⟩ (.int .i64 LO)).setCell ⟨gcx, i * 4 + 2, none⟩ (.int .i64 HJ)) := (Below.setCell (Below.setCell hCz (by show n0 ≤ gcx; exact lgn) _) (by show n0 ≤ gcx; exact lgn) _)
  clear hput hCz bxB nqbx prB nqpr pxB nqpx pyB nqpy pzB nqpz puB nqpu oczB
  generalize ((Vcx.setCell ⟨gcx, i * 4 + 1, none⟩ (.int .i64 LO)).setCell ⟨gcx, i * 4 + 2, none⟩ (.int .i64 HJ)) = Zcx at *
  clear lgz lgn
  have hT : RT Zcx Zcx.heap.size (.slice (some ⟨b', off', none⟩) l.length cap) l := RS.more (RS.below H0.out hC) (by have := hC.size; omega)
  clear w1 w2' w3' w4' hLO hHJ
  have h2 := H2.out
  have w5' : IntKind.i64.wrap (x2 : Int) = x2 := by rw [IntKind.wrap_i64]; omega
  have w6' : IntKind.i64.wrap (m + x2) = m + x2 := by rw [IntKind.wrap_i64]; omega
  obtain ⟨M, hM⟩ : ∃ x, (if m + (x2 : Int) < 200 then m + (x2 : Int) else 200) = x := ⟨_, rfl⟩
  have HMM := Lib.hid (show m ≤ M by rw [← hM]; split <;> omega)
  clear h2
  have lpy := py.lt
  have pyc0 := py.cell 0
  have pyc1 := py.cell 1
  simp at pyc0 pyc1
  have pyf0 := py.frozen 0
  have pyf1 := py.frozen 1
  have lbx := bx.lt
  have bxc0 := bx.cell 0
  have bxc1 := bx.cell 1
  simp at bxc0 bxc1
  go_upto_region 10 with fail
  clear lpy pyc0 pyc1
  clear lbx bxc0 bxc1
  clear pyf0 pyf1 w5' w6' hM
  have pyA := py.set 1 (.int .i64 M)
  simp at pyA
  have bxA := bx.far (p := ⟨gy, 1, none⟩) (by show n0 ≠ gy; omega) (.int .i64 M)
  have prA := pr.far (p := ⟨gy, 1, none⟩) (by show n0 + 1 ≠ gy; omega) (.int .i64 M)
  have pxA := px.far (p := ⟨gy, 1, none⟩) (by show gx ≠ gy; omega) (.int .i64 M)
  have pzA := pz.far (p := ⟨gy, 1, none⟩) (by show gz ≠ gy; omega) (.int .i64 M)
  have puA := pu.far (p := ⟨gy, 1, none⟩) (by show gu ≠ gy; omega) (.int .i64 M)
  have ocxA := own_set (i := 1) (u := .int .i64 M) ocx py (by decide)
  have oczA := own_set (i := 1) (u := .int .i64 M) ocz py (by decide)
  have hCA : Below n0 w (Zcx.setCell ⟨gy, 1, none⟩ (.int .i64 M)) := Below.setCell hC (by show n0 ≤ gy; omega) _
  clear hC hT bx pr px py pz pu ocx ocz
  generalize (Zcx.setCell ⟨gy, 1, none⟩ (.int .i64 M)) = Y5 at *
  have bx := bxA
  clear bxA
  have pr := prA
  clear prA
  have px := pxA
  clear pxA
  have py := pyA
  clear pyA
  have pz := pzA
  clear pzA
  have pu := puA
  clear puA
  have ocx := ocxA
  clear ocxA
  have ocz := oczA
  clear oczA
  have hC := hCA
  clear hCA
  have hT : RT Y5 Y5.heap.size (.slice (some ⟨b', off', none⟩) l.length cap) l := RS.more (RS.below H0.out hC) (by have := hC.size; omega)
  have h3 := H3.out
  have hos := HOS.out
  have w7' : IntKind.i64.wrap (x3 : Int) = x3 := by rw [IntKind.wrap_i64]; omega
  have w8' : IntKind.i64.wrap (hd - x3) = hd - x3 := by rw [IntKind.wrap_i64]; omega
  obtain ⟨HD, hHD⟩ : ∃ x, (if 1 < hd - (x3 : Int) then hd - (x3 : Int) else 1) = x := ⟨_, rfl⟩
  have HHD := Lib.hid (show HD ≤ hd by rw [← hHD]; split <;> omega)
  clear h3 hos
  obtain ⟨A2, cap2, b2, off2, hve, hA, hc⟩ := RT.cells hT
  obtain ⟨hA1, hbb⟩ := hA (by omega)
  injection hve with q1 q2 q3
  rw [← q1] at hA1
  injection hA1 with hA1
  injection hA1 with hA1 hA2
  subst hA1 hA2
  obtain ⟨d0, d1, d2, d3⟩ := hc i HI.out
  rw [HSS.out] at d0 d1 d2 d3
  dsimp only at d0 d1 d2 d3
  have hi3_ : (i : Int) < (l.length : Int) := by have := HI.out; omega
  have hi4_ : i < l.length := HI.out
  clear hA hc q1 q2 q3
  have lbx := bx.lt
  have bxc0 := bx.cell 0
  have bxc1 := bx.cell 1
  simp at bxc0 bxc1
  have lpz := pz.lt
  have pzc0 := pz.cell 0
  have pzc1 := pz.cell 1
  simp at pzc0 pzc1
  go_upto_region 10 with fail
  refine wp_region_noPanic (plain_any [0, 1, 2, 3, 4, 5, 6, 7, 8, 9, 10, 11, 12, 13, 14] (Below Y5.heap.size Y5) mixed ?_)
  refine any_tk 0 ?_
  refine any_tk 1 ?_
  refine any_tk 2 ?_
  refine any_tk 3 ?_
  refine any_tk 4 ?_
  refine any_tk 5 ?_
  refine any_tk 6 ?_
  refine any_tk 7 ?_
  refine any_tk 8 ?_
  refine any_tk 9 ?_
  refine any_tk 10 ?_
  refine any_tk 11 ?_
  refine any_tk 12 ?_
  refine any_tk 13 ?_
  refine any_tk 14 ?_
  have hd0cz : Below Y5.heap.size Y5 Y5.drew := by exact bel_of
  have hb01 := hd0cz
  generalize Y5.drew = Vcz at *
  have hown2 := own_below ocz hb01
  obtain ⟨z0, z1, z2, z3⟩ := encS_at HI.out
  have hrs := RS.of_own hown2
  obtain ⟨Aq, capq, bq, offq, hvq, hlq, hAq, hcq⟩ := hrs
  obtain ⟨hAq, -⟩ := hAq (by omega)
  injection hvq with q1 q2 q3
  rw [← q1] at hAq
  injection hAq with hAq
  injection hAq with hAq hAo
  subst hAq hAo
  have lgz : gcz < Vcz.heap.size := (own_lt hown2).2
  have lgn : n0 ≤ gcz := (own_lt hown2).1
  have y3 := (hcq (i * 4 + 3) (by rw [hlq.1]; omega)).trans z3
  rw [Nat.zero_add] at y3
  have f3 := own_frozen hown2 (i * 4 + 3)
  clear z0 z1 z2 z3 hlq hcq q1 q2 q3
  have bxB := bx.below hb01 bx.lt
  have nqbx := own_ne hown2 bxB (by decide)
  have prB := pr.below hb01 pr.lt
  have nqpr := own_ne hown2 prB (by decide)
  have pxB := px.below hb01 px.lt
  have nqpx := own_ne hown2 pxB (by decide)
  have pyB := py.below hb01 py.lt
  have nqpy := own_ne hown2 pyB (by decide)
  have pzB := pz.below hb01 pz.lt
  have nqpz := own_ne hown2 pzB (by decide)
  have puB := pu.below hb01 pu.lt
  have nqpu := own_ne hown2 puB (by decide)
  have ocxB := own_below ocx hb01
  have hCz : Below n0 w Vcz := hC.trans (hb01.mono (by have := hC.size; omega))
  have hput := put_hard (g := gcz) hown2 HI.out HD
  rw [HSS.out] at hput
  dsimp only at hput
  clear lbx bxc0 bxc1
  clear lpz pzc0 pzc1
  clear hC hT d0 d1 d2 d3 hbb hown2 hb01 hd0cz bx pr px py pz pu ocx ocz
  refine any_run1 (i := 15) (by kernel_rfl) (by rfl) (by kernel_rfl) ?_
  intro K3 hK3
  go_wp2_with fail
  refine hK3 _ _ (fun hx => (Bool.false_ne_true (hx.symm.trans (by kernel_rfl))).elim) ?_
  clear hK3 K3
  refine any_done (by kernel_rfl) (NoPanic.normal ?_)
  clear y3 f3
  have bx := (BK.far bxB (p := ⟨gcz, i * 4 + 3, none⟩) nqbx (.int .i64 HD))
  have pr := (BK.far prB (p := ⟨gcz, i * 4 + 3, none⟩) nqpr (.int .i64 HD))
  have px := (BK.far pxB (p := ⟨gcz, i * 4 + 3, none⟩) nqpx (.int .i64 HD))
  have py := (BK.far pyB (p := ⟨gcz, i * 4 + 3, none⟩) nqpy (.int .i64 HD))
  have pz := (BK.far pzB (p := ⟨gcz, i * 4 + 3, none⟩) nqpz (.int .i64 HD))
  have pu := (BK.far puB (p := ⟨gcz, i * 4 + 3, none⟩) nqpu (.int .i64 HD))
  have ocx := (own_far2 (g2 := gcz) (j := i * 4 + 3) ocxB (by omega) (.int .i64 HD))
  have ocz := hput
  have hC : Below n0 w (Vcz.setCell ⟨gcz, i * 4 + 3, none⟩ (.int .i64 HD)) := (Below.setCell hCz (by show n0 ≤ gcz; exact lgn) _)
  clear hput hCz bxB nqbx prB nqpr pxB nqpx pyB nqpy pzB nqpz puB nqpu ocxB
  generalize (Vcz.setCell ⟨gcz, i * 4 + 3, none⟩ (.int .i64 HD)) = Zcz at *
  clear lgz lgn
  have hT : RT Zcz Zcz.heap.size (.slice (some ⟨b', off', none⟩) l.length cap) l := RS.more (RS.below H0.out hC) (by have := hC.size; omega)
  clear w7' w8' hHD
  have wl1 : IntKind.i64.wrap ((l.length : Int) - 1) = ((l.length - 1 : Nat) : Int) := by rw [IntKind.wrap_i64]; omega
  have wl2 : (l.length : Int) - 1 = ((l.length - 1 : Nat) : Int) := by omega
  obtain ⟨n1, hn1e⟩ : ∃ n, l.length - 1 = n := ⟨_, rfl⟩
  rw [hn1e] at wl1
  have hn1c : n1 ≤ cap := by omega
  have hn1l : n1 < l.length := by omega
  clear wl2
  have lpu := pu.lt
  have puc0 := pu.cell 0
  have puc1 := pu.cell 1
  simp at puc0 puc1
  have puf0 := pu.frozen 0
  have puf1 := pu.frozen 1
  have lbx := bx.lt
  have bxc0 := bx.cell 0
  have bxc1 := bx.cell 1
  simp at bxc0 bxc1
  go_upto_region 12 with fail
  clear lpu puc0 puc1
  clear lbx bxc0 bxc1
  clear puf0 puf1 wl1 hn1c
  have puA := pu.set 0 (.slice (some ⟨b', off', none⟩) n1 cap)
  simp at puA
  have bxA := bx.far (p := ⟨gu, 0, none⟩) (by show n0 ≠ gu; omega) (.slice (some ⟨b', off', none⟩) n1 cap)
  have prA := pr.far (p := ⟨gu, 0, none⟩) (by show n0 + 1 ≠ gu; omega) (.slice (some ⟨b', off', none⟩) n1 cap)
  have pxA := px.far (p := ⟨gu, 0, none⟩) (by show gx ≠ gu; omega) (.slice (some ⟨b', off', none⟩) n1 cap)
  have pyA := py.far (p := ⟨gu, 0, none⟩) (by show gy ≠ gu; omega) (.slice (some ⟨b', off', none⟩) n1 cap)
  have pzA := pz.far (p := ⟨gu, 0, none⟩) (by show gz ≠ gu; omega) (.slice (some ⟨b', off', none⟩) n1 cap)
  have ocxA := own_set (i := 0) (u := (.slice (some ⟨b', off', none⟩) n1 cap)) ocx pu (by decide)
  have oczA := own_set (i := 0) (u := (.slice (some ⟨b', off', none⟩) n1 cap)) ocz pu (by decide)
  have hCA : Below n0 w (Zcz.setCell ⟨gu, 0, none⟩ (.slice (some ⟨b', off', none⟩) n1 cap)) := Below.setCell hC (by show n0 ≤ gu; omega) _
  clear hC hT bx pr px py pz pu ocx ocz
  generalize (Zcz.setCell ⟨gu, 0, none⟩ (.slice (some ⟨b', off', none⟩) n1 cap)) = Y6 at *
  have bx := bxA
  clear bxA
  have pr := prA
  clear prA
  have px := pxA
  clear pxA
  have py := pyA
  clear pyA
  have pz := pzA
  clear pzA
  have pu := puA
  clear puA
  have hC := hCA
  clear hCA
  have hT : RT Y6 Y6.heap.size (.slice (some ⟨b', off', none⟩) l.length cap) l := RS.more (RS.below H0.out hC) (by have := hC.size; omega)
  have hS1 := OwnS.rt ocxA
  have hS3 := OwnS.rt oczA
  have hS4 := RT.takes hT (show n1 ≤ l.length by omega)
  clear ocxA oczA
  have e1 := wd_set HI.out (lo := LO) (hi' := HJ) (hd := (nthS l i).hard) (by rw [HSS.out]; exact HLH.out.1) (by rw [HSS.out]; exact HLH.out.2) (Int.le_refl _)
  have e3 := wd_set HI.out (lo := (nthS l i).lo) (hi' := (nthS l i).hi) (hd := HD) (Int.le_refl _) (Int.le_refl _) (by rw [HSS.out]; exact HHD.out)
  have e4 := eas_take HOK.out
  rw [HSS.out] at e1 e3
  rw [hn1e] at e4
  dsimp only at e1 e3
  obtain ⟨L1, hL1⟩ : ∃ L, l.set i ⟨a, LO, HJ, hd⟩ = L := ⟨_, rfl⟩
  obtain ⟨L3, hL3⟩ : ∃ L, l.set i ⟨a, lo, hi, HD⟩ = L := ⟨_, rfl⟩
  obtain ⟨L4, hL4⟩ : ∃ L, l.take n1 = L := ⟨_, rfl⟩
  have hl1 : L1.length = l.length := by rw [← hL1, List.length_set]
  have hl3 : L3.length = l.length := by rw [← hL3, List.length_set]
  have hl4 : L4.length ≤ l.length := by rw [← hL4, List.length_take]; omega
  rw [hL1] at hS1 e1
  rw [hL3] at hS3 e3
  rw [hL4] at hS4 e4
  have EA1 := Lib.hid (eas_wd HOK.out e1 (Int.le_refl m))
  have EA2 := Lib.hid (eas_wd HOK.out (Wd.refl l) HMM.out)
  have EA3 := Lib.hid (eas_wd HOK.out e3 (Int.le_refl m))
  have EA4 := Lib.hid e4
  have hk1 : L1.length ≤ 1000 := by omega
  have hk3' : L3.length ≤ 1000 := by omega
  have hk4' : L4.length ≤ 1000 := by omega
  have hM1 : L1.length ≤ maxLen := by omega
  have hM3 : L3.length ≤ maxLen := by omega
  have hM4 : L4.length ≤ maxLen := by omega
  have HCS := Lib.hid (show (tgo m l 0 < never ∧ e0 = 0 ∧ c0 = tgo m l 0) ∨ (¬ tgo m l 0 < never ∧ e0 = 18) by
    have hb := HB0.out
    by_cases hf : tgo m l 0 < never
    · rw [bst_yes HBE.out hf] at hb
      injection hb with q1 q2
      exact .inl ⟨hf, q2.symm, q1.symm⟩
    · rw [(bst_no HBE.out hf).1] at hb
      injection hb with q1 q2
      exact .inr ⟨hf, q2.symm⟩)
  clear e1 e3 e4 hL1 hL3 hL4 hl1 hl3 hl4 hn1e hn1l
  have lpx := px.lt
  have pxc0 := px.cell 0
  have pxc1 := px.cell 1
  simp at pxc0 pxc1
  have lpy := py.lt
  have pyc0 := py.cell 0
  have pyc1 := py.cell 1
  simp at pyc0 pyc1
  have lpz := pz.lt
  have pzc0 := pz.cell 0
  have pzc1 := pz.cell 1
  simp at pzc0 pzc1
  have lpu := pu.lt
  have puc0 := pu.cell 0
  have puc1 := pu.cell 1
  simp at puc0 puc1
  go_upto_region 13 with fail
  clear lpx pxc0 pxc1
  clear lpy pyc0 pyc1
  clear lpz pzc0 pzc1
  clear lpu puc0 puc1
  obtain ⟨m1, hm1⟩ : ∃ n, Y6.heap.size = n := ⟨_, rfl⟩
  try rw [hm1]
  have hqfb : n0 ≤ m1 := by have := hC.size; omega
  have fb : BK (Y6.alloc (.cells #[.slice (some ⟨gcx, 0, none⟩) l.length ccx, .int .i64 m, .slice (some ⟨b', off', none⟩) l.length cap, .int .i64 M, .slice (some ⟨gcz, 0, none⟩) l.length ccz, .int .i64 m, .slice (some ⟨b', off', none⟩) n1 cap, .int .i64 m] 24)) (m1) #[.slice (some ⟨gcx, 0, none⟩) l.length ccx, .int .i64 m, .slice (some ⟨b', off', none⟩) l.length cap, .int .i64 M, .slice (some ⟨gcz, 0, none⟩) l.length ccz, .int .i64 m, .slice (some ⟨b', off', none⟩) n1 cap, .int .i64 m] 24 := BK.new' _ _ _ (m1) hm1
  have hsfb : (Y6.alloc (.cells #[.slice (some ⟨gcx, 0, none⟩) l.length ccx, .int .i64 m, .slice (some ⟨b', off', none⟩) l.length cap, .int .i64 M, .slice (some ⟨gcz, 0, none⟩) l.length ccz, .int .i64 m, .slice (some ⟨b', off', none⟩) n1 cap, .int .i64 m] 24)).heap.size = m1 + 1 := by simp [hm1]
  replace hC : Below n0 w (Y6.alloc (.cells #[.slice (some ⟨gcx, 0, none⟩) l.length ccx, .int .i64 m, .slice (some ⟨b', off', none⟩) l.length cap, .int .i64 M, .slice (some ⟨gcz, 0, none⟩) l.length ccz, .int .i64 m, .slice (some ⟨b', off', none⟩) n1 cap, .int .i64 m] 24)) := Below.alloc hC (by have := hC.size; omega) _
  replace bx := bx.alloc (.cells #[.slice (some ⟨gcx, 0, none⟩) l.length ccx, .int .i64 m, .slice (some ⟨b', off', none⟩) l.length cap, .int .i64 M, .slice (some ⟨gcz, 0, none⟩) l.length ccz, .int .i64 m, .slice (some ⟨b', off', none⟩) n1 cap, .int .i64 m] 24)
  replace pr := pr.alloc (.cells #[.slice (some ⟨gcx, 0, none⟩) l.length ccx, .int .i64 m, .slice (some ⟨b', off', none⟩) l.length cap, .int .i64 M, .slice (some ⟨gcz, 0, none⟩) l.length ccz, .int .i64 m, .slice (some ⟨b', off', none⟩) n1 cap, .int .i64 m] 24)
  replace px := px.alloc (.cells #[.slice (some ⟨gcx, 0, none⟩) l.length ccx, .int .i64 m, .slice (some ⟨b', off', none⟩) l.length cap, .int .i64 M, .slice (some ⟨gcz, 0, none⟩) l.length ccz, .int .i64 m, .slice (some ⟨b', off', none⟩) n1 cap, .int .i64 m] 24)
  replace py := py.alloc (.cells #[.slice (some ⟨gcx, 0, none⟩) l.length ccx, .int .i64 m, .slice (some ⟨b', off', none⟩) l.length cap, .int .i64 M, .slice (some ⟨gcz, 0, none⟩) l.length ccz, .int .i64 m, .slice (some ⟨b', off', none⟩) n1 cap, .int .i64 m] 24)
  replace pz := pz.alloc (.cells #[.slice (some ⟨gcx, 0, none⟩) l.length ccx, .int .i64 m, .slice (some ⟨b', off', none⟩) l.length cap, .int .i64 M, .slice (some ⟨gcz, 0, none⟩) l.length ccz, .int .i64 m, .slice (some ⟨b', off', none⟩) n1 cap, .int .i64 m] 24)
  replace pu := pu.alloc (.cells #[.slice (some ⟨gcx, 0, none⟩) l.length ccx, .int .i64 m, .slice (some ⟨b', off', none⟩) l.length cap, .int .i64 M, .slice (some ⟨gcz, 0, none⟩) l.length ccz, .int .i64 m, .slice (some ⟨b', off', none⟩) n1 cap, .int .i64 m] 24)
  replace hT := (RS.below hT (w' := (Y6.alloc (.cells #[.slice (some ⟨gcx, 0, none⟩) l.length ccx, .int .i64 m, .slice (some ⟨b', off', none⟩) l.length cap, .int .i64 M, .slice (some ⟨gcz, 0, none⟩) l.length ccz, .int .i64 m, .slice (some ⟨b', off', none⟩) n1 cap, .int .i64 m] 24))) (Below.alloc (Below.refl _ _) (Nat.le_refl _) _)).more (B' := (Y6.alloc (.cells #[.slice (some ⟨gcx, 0, none⟩) l.length ccx, .int .i64 m, .slice (some ⟨b', off', none⟩) l.length cap, .int .i64 M, .slice (some ⟨gcz, 0, none⟩) l.length ccz, .int .i64 m, .slice (some ⟨b', off', none⟩) n1 cap, .int .i64 m] 24)).heap.size) (by simp)
  replace hS1 := (RS.below hS1 (w' := (Y6.alloc (.cells #[.slice (some ⟨gcx, 0, none⟩) l.length ccx, .int .i64 m, .slice (some ⟨b', off', none⟩) l.length cap, .int .i64 M, .slice (some ⟨gcz, 0, none⟩) l.length ccz, .int .i64 m, .slice (some ⟨b', off', none⟩) n1 cap, .int .i64 m] 24))) (Below.alloc (Below.refl _ _) (Nat.le_refl _) _)).more (B' := (Y6.alloc (.cells #[.slice (some ⟨gcx, 0, none⟩) l.length ccx, .int .i64 m, .slice (some ⟨b', off', none⟩) l.length cap, .int .i64 M, .slice (some ⟨gcz, 0, none⟩) l.length ccz, .int .i64 m, .slice (some ⟨b', off', none⟩) n1 cap, .int .i64 m] 24)).heap.size) (by simp)
  replace hS3 := (RS.below hS3 (w' := (Y6.alloc (.cells #[.slice (some ⟨gcx, 0, none⟩) l.length ccx, .int .i64 m, .slice (some ⟨b', off', none⟩) l.length cap, .int .i64 M, .slice (some ⟨gcz, 0, none⟩) l.length ccz, .int .i64 m, .slice (some ⟨b', off', none⟩) n1 cap, .int .i64 m] 24))) (Below.alloc (Below.refl _ _) (Nat.le_refl _) _)).more (B' := (Y6.alloc (.cells #[.slice (some ⟨gcx, 0, none⟩) l.length ccx, .int .i64 m, .slice (some ⟨b', off', none⟩) l.length cap, .int .i64 M, .slice (some ⟨gcz, 0, none⟩) l.length ccz, .int .i64 m, .slice (some ⟨b', off', none⟩) n1 cap, .int .i64 m] 24)).heap.size) (by simp)
  replace hS4 := (RS.below hS4 (w' := (Y6.alloc (.cells #[.slice (some ⟨gcx, 0, none⟩) l.length ccx, .int .i64 m, .slice (some ⟨b', off', none⟩) l.length cap, .int .i64 M, .slice (some ⟨gcz, 0, none⟩) l.length ccz, .int .i64 m, .slice (some ⟨b', off', none⟩) n1 cap, .int .i64 m] 24))) (Below.alloc (Below.refl _ _) (Nat.le_refl _) _)).more (B' := (Y6.alloc (.cells #[.slice (some ⟨gcx, 0, none⟩) l.length ccx, .int .i64 m, .slice (some ⟨b', off', none⟩) l.length cap, .int .i64 M, .slice (some ⟨gcz, 0, none⟩) l.length ccz, .int .i64 m, .slice (some ⟨b', off', none⟩) n1 cap, .int .i64 m] 24)).heap.size) (by simp)
  generalize (Y6.alloc (.cells #[.slice (some ⟨gcx, 0, none⟩) l.length ccx, .int .i64 m, .slice (some ⟨b', off', none⟩) l.length cap, .int .i64 M, .slice (some ⟨gcz, 0, none⟩) l.length ccz, .int .i64 m, .slice (some ⟨b', off', none⟩) n1 cap, .int .i64 m] 24)) = Wfb at *
  clear hm1
  clear hsfb
  go_wp2_with fail
  go_loopw [20] (fun iv wr => ∃ k : Nat, k ≤ 4 ∧ iv = .int .i64 k ∧ Below Wfb.heap.size Wfb wr) (fun iv _ => 4 - (intOf iv).toNat)
  case atStart => exact ⟨0, by decide, rfl, Below.refl _ _⟩
  case round =>
    obtain ⟨k, hk, rfl, hbr⟩ := hrel
    have HBR := Lib.hid hbr
    replace hC : Below n0 w wr := hC.trans (hbr.mono (by have := hC.size; omega))
    replace bx := bx.below hbr bx.lt
    replace pr := pr.below hbr pr.lt
    replace px := px.below hbr px.lt
    replace py := py.below hbr py.lt
    replace pz := pz.below hbr pz.lt
    replace pu := pu.below hbr pu.lt
    replace hT := (RS.below hT hbr).more hbr.size
    replace hS1 := (RS.below hS1 hbr).more hbr.size
    replace hS3 := (RS.below hS3 hbr).more hbr.size
    replace hS4 := (RS.below hS4 hbr).more hbr.size
    replace fb := fb.below hbr fb.lt
    clear hbr
    have hbz : Below wr.heap.size wr wr := Below.refl _ _
    by_cases hk4 : k = 4
    case pos =>
      subst hk4
      clear hk hbz
      go_wp2_with fail
      refine (works_any _).mono ?_
      rintro e w3 ⟨rfl, hb⟩
      replace hC : Below n0 w w3 := hC.trans (hb.mono (by have := hC.size; omega))
      replace bx := bx.below hb bx.lt
      replace pr := pr.below hb pr.lt
      replace px := px.below hb px.lt
      replace py := py.below hb py.lt
      replace pz := pz.below hb pz.lt
      replace pu := pu.below hb pu.lt
      replace hT := (RS.below hT hb).more hb.size
      replace hS1 := (RS.below hS1 hb).more hb.size
      replace hS3 := (RS.below hS3 hb).more hb.size
      replace hS4 := (RS.below hS4 hb).more hb.size
      replace fb := fb.below hb fb.lt
      clear hb
      go_wp2_with fail
      exact bodyPost_ret (v := .bool true) (by simp [results, Try.results10, go_sem]) rfl ⟨rfl, by first | exact hC | (rw [hn0]; exact hC) | (with_reducible rw [hn0]; exact bel_of) | exact bel_of⟩
    obtain rfl | rfl | rfl | rfl : k = 0 ∨ k = 1 ∨ k = 2 ∨ k = 3 := by omega
    ·skip
     clear hk hk4
     have lfb := fb.lt
     have fbc0 := fb.cell 0
     have fbc1 := fb.cell 1
     have fbc2 := fb.cell 2
     have fbc3 := fb.cell 3
     have fbc4 := fb.cell 4
     have fbc5 := fb.cell 5
     have fbc6 := fb.cell 6
     have fbc7 := fb.cell 7
     simp at fbc0 fbc1 fbc2 fbc3 fbc4 fbc5 fbc6 fbc7
     go_wp2_with fail
     clear lfb fbc0 fbc1 fbc2 fbc3 fbc4 fbc5 fbc6 fbc7
     refine (fine_any L1 _ m _ hM1 hS1).mono ?_
     rintro e w3 ⟨rfl, hb⟩
     replace hC : Below n0 w w3 := hC.trans (hb.mono (by have := hC.size; omega))
     replace bx := bx.below hb bx.lt
     replace pr := pr.below hb pr.lt
     replace px := px.below hb px.lt
     replace py := py.below hb py.lt
     replace pz := pz.below hb pz.lt
     replace pu := pu.below hb pu.lt
     replace hT := (RS.below hT hb).more hb.size
     replace hS1 := (RS.below hS1 hb).more hb.size
     replace hS3 := (RS.below hS3 hb).more hb.size
     replace hS4 := (RS.below hS4 hb).more hb.size
     replace fb := fb.below hb fb.lt
     replace hbz := hbz.trans (hb.mono hbz.size)
     clear hb
     obtain ⟨q, hq⟩ : ∃ q, fineB L1 m = q := ⟨_, rfl⟩
     rw [hq]
     cases q
     case false =>
       clear hq
       go_wp2_with fail
       go_roundw
       case rel => exact ⟨0 + 1, by decide, by go_num, HBR.out.trans (hbz.mono HBR.out.size)⟩
       case measure => simp [intOf]
     obtain ⟨c, e, hXE, hcs⟩ := eas_bst HOK.out (fineB_ok hq) EA1.out
     have HXE := Lib.hid hXE
     have HCC := Lib.hid hcs
     clear hq hXE hcs
     simp only [Bool.not_true]
     have lfb := fb.lt
     have fbc0 := fb.cell 0
     have fbc1 := fb.cell 1
     have fbc2 := fb.cell 2
     have fbc3 := fb.cell 3
     have fbc4 := fb.cell 4
     have fbc5 := fb.cell 5
     have fbc6 := fb.cell 6
     have fbc7 := fb.cell 7
     simp at fbc0 fbc1 fbc2 fbc3 fbc4 fbc5 fbc6 fbc7
     go_wp2_with fail
     clear lfb fbc0 fbc1 fbc2 fbc3 fbc4 fbc5 fbc6 fbc7
     refine (Best_any L1 _ m _ hk1 hS1).mono ?_
     rintro e w4 ⟨u_b, rfl, hown, hb⟩
     replace hC : Below n0 w w4 := hC.trans (hb.mono (by have := hC.size; omega))
     replace bx := bx.below hb bx.lt
     replace pr := pr.below hb pr.lt
     replace px := px.below hb px.lt
     replace py := py.below hb py.lt
     replace pz := pz.below hb pz.lt
     replace pu := pu.below hb pu.lt
     replace hT := (RS.below hT hb).more hb.size
     replace hS1 := (RS.below hS1 hb).more hb.size
     replace hS3 := (RS.below hS3 hb).more hb.size
     replace hS4 := (RS.below hS4 hb).more hb.size
     replace fb := fb.below hb fb.lt
     replace hbz := hbz.trans (hb.mono hbz.size)
     clear hb
     rw [HXE.out]
     clear hown
     have hcs := HCC.out
     clear HCC
     rcases hcs with ⟨hf, rfl, hc⟩ | ⟨hf, rfl⟩ | ⟨hf, rfl⟩
     ·skip
      obtain ⟨rfl, hcc⟩ : e0 = 0 ∧ ¬ c > c0 := by
        rcases HCS.out with ⟨_, h2, h3⟩ | ⟨h1, _⟩
        · exact ⟨h2, by omega⟩
        · exfalso; omega
      clear hf hc
      go_wp2_with fail
      go_roundw
      case rel => exact ⟨0 + 1, by decide, by go_num, HBR.out.trans (hbz.mono HBR.out.size)⟩
      case measure => simp [intOf]
     ·skip
      obtain rfl : e0 = 18 := by
        rcases HCS.out with ⟨h1, _⟩ | ⟨_, h2⟩
        · exfalso; omega
        · exact h2
      clear hf
      go_wp2_with fail
      go_roundw
      case rel => exact ⟨0 + 1, by decide, by go_num, HBR.out.trans (hbz.mono HBR.out.size)⟩
      case measure => simp [intOf]
     ·skip
      obtain rfl : e0 = 18 := by
        rcases HCS.out with ⟨h1, _⟩ | ⟨_, h2⟩
        · exfalso; omega
        · exact h2
      clear hf
      go_wp2_with fail
      go_roundw
      case rel => exact ⟨0 + 1, by decide, by go_num, HBR.out.trans (hbz.mono HBR.out.size)⟩
      case measure => simp [intOf]
    ·skip
     clear hk hk4
     have lfb := fb.lt
     have fbc0 := fb.cell 0
     have fbc1 := fb.cell 1
     have fbc2 := fb.cell 2
     have fbc3 := fb.cell 3
     have fbc4 := fb.cell 4
     have fbc5 := fb.cell 5
     have fbc6 := fb.cell 6
     have fbc7 := fb.cell 7
     simp at fbc0 fbc1 fbc2 fbc3 fbc4 fbc5 fbc6 fbc7
     go_wp2_with fail
     clear lfb fbc0 fbc1 fbc2 fbc3 fbc4 fbc5 fbc6 fbc7
     refine (fine_any l _ M _ hlM hT).mono ?_
     rintro e w3 ⟨rfl, hb⟩
     replace hC : Below n0 w w3 := hC.trans (hb.mono (by have := hC.size; omega))
     replace bx := bx.below hb bx.lt
     replace pr := pr.below hb pr.lt
     replace px := px.below hb px.lt
     replace py := py.below hb py.lt
     replace pz := pz.below hb pz.lt
     replace pu := pu.below hb pu.lt
     replace hT := (RS.below hT hb).more hb.size
     replace hS1 := (RS.below hS1 hb).more hb.size
     replace hS3 := (RS.below hS3 hb).more hb.size
     replace hS4 := (RS.below hS4 hb).more hb.size
     replace fb := fb.below hb fb.lt
     replace hbz := hbz.trans (hb.mono hbz.size)
     clear hb
     obtain ⟨q, hq⟩ : ∃ q, fineB l M = q := ⟨_, rfl⟩
     rw [hq]
     cases q
     case false =>
       clear hq
       go_wp2_with fail
       go_roundw
       case rel => exact ⟨1 + 1, by decide, by go_num, HBR.out.trans (hbz.mono HBR.out.size)⟩
       case measure => simp [intOf]
     obtain ⟨c, e, hXE, hcs⟩ := eas_bst HOK.out (fineB_ok hq) EA2.out
     have HXE := Lib.hid hXE
     have HCC := Lib.hid hcs
     clear hq hXE hcs
     simp only [Bool.not_true]
     have lfb := fb.lt
     have fbc0 := fb.cell 0
     have fbc1 := fb.cell 1
     have fbc2 := fb.cell 2
     have fbc3 := fb.cell 3
     have fbc4 := fb.cell 4
     have fbc5 := fb.cell 5
     have fbc6 := fb.cell 6
     have fbc7 := fb.cell 7
     simp at fbc0 fbc1 fbc2 fbc3 fbc4 fbc5 fbc6 fbc7
     go_wp2_with fail
     clear lfb fbc0 fbc1 fbc2 fbc3 fbc4 fbc5 fbc6 fbc7
     refine (Best_any l _ M _ hlk hT).mono ?_
     rintro e w4 ⟨u_b, rfl, hown, hb⟩
     replace hC : Below n0 w w4 := hC.trans (hb.mono (by have := hC.size; omega))
     replace bx := bx.below hb bx.lt
     replace pr := pr.below hb pr.lt
     replace px := px.below hb px.lt
     replace py := py.below hb py.lt
     replace pz := pz.below hb pz.lt
     replace pu := pu.below hb pu.lt
     replace hT := (RS.below hT hb).more hb.size
     replace hS1 := (RS.below hS1 hb).more hb.size
     replace hS3 := (RS.below hS3 hb).more hb.size
     replace hS4 := (RS.below hS4 hb).more hb.size
     replace fb := fb.below hb fb.lt
     replace hbz := hbz.trans (hb.mono hbz.size)
     clear hb
     rw [HXE.out]
     clear hown
     have hcs := HCC.out
     clear HCC
     rcases hcs with ⟨hf, rfl, hc⟩ | ⟨hf, rfl⟩ | ⟨hf, rfl⟩
     ·skip
      obtain ⟨rfl, hcc⟩ : e0 = 0 ∧ ¬ c > c0 := by
        rcases HCS.out with ⟨_, h2, h3⟩ | ⟨h1, _⟩
        · exact ⟨h2, by omega⟩
        · exfalso; omega
      clear hf hc
      go_wp2_with fail
      go_roundw
      case rel => exact ⟨1 + 1, by decide, by go_num, HBR.out.trans (hbz.mono HBR.out.size)⟩
      case measure => simp [intOf]
     ·skip
      obtain rfl : e0 = 18 := by
        rcases HCS.out with ⟨h1, _⟩ | ⟨_, h2⟩
        · exfalso; omega
        · exact h2
      clear hf
      go_wp2_with fail
      go_roundw
      case rel => exact ⟨1 + 1, by decide, by go_num, HBR.out.trans (hbz.mono HBR.out.size)⟩
      case measure => simp [intOf]
     ·skip
      obtain rfl : e0 = 18 := by
        rcases HCS.out with ⟨h1, _⟩ | ⟨_, h2⟩
        · exfalso; omega
        · exact h2
      clear hf
      go_wp2_with fail
      go_roundw
      case rel => exact ⟨1 + 1, by decide, by go_num, HBR.out.trans (hbz.mono HBR.out.size)⟩
      case measure => simp [intOf]
    ·skip
     clear hk hk4
     have lfb := fb.lt
     have fbc0 := fb.cell 0
     have fbc1 := fb.cell 1
     have fbc2 := fb.cell 2
     have fbc3 := fb.cell 3
     have fbc4 := fb.cell 4
     have fbc5 := fb.cell 5
     have fbc6 := fb.cell 6
     have fbc7 := fb.cell 7
     simp at fbc0 fbc1 fbc2 fbc3 fbc4 fbc5 fbc6 fbc7
     go_wp2_with fail
     clear lfb fbc0 fbc1 fbc2 fbc3 fbc4 fbc5 fbc6 fbc7
     refine (fine_any L3 _ m _ hM3 hS3).mono ?_
     rintro e w3 ⟨rfl, hb⟩
     replace hC : Below n0 w w3 := hC.trans (hb.mono (by have := hC.size; omega))
     replace bx := bx.below hb bx.lt
     replace pr := pr.below hb pr.lt
     replace px := px.below hb px.lt
     replace py := py.below hb py.lt
     replace pz := pz.below hb pz.lt
     replace pu := pu.below hb pu.lt
     replace hT := (RS.below hT hb).more hb.size
     replace hS1 := (RS.below hS1 hb).more hb.size
     replace hS3 := (RS.below hS3 hb).more hb.size
     replace hS4 := (RS.below hS4 hb).more hb.size
     replace fb := fb.below hb fb.lt
     replace hbz := hbz.trans (hb.mono hbz.size)
     clear hb
     obtain ⟨q, hq⟩ : ∃ q, fineB L3 m = q := ⟨_, rfl⟩
     rw [hq]
     cases q
     case false =>
       clear hq
       go_wp2_with fail
       go_roundw
       case rel => exact ⟨2 + 1, by decide, by go_num, HBR.out.trans (hbz.mono HBR.out.size)⟩
       case measure => simp [intOf]
     obtain ⟨c, e, hXE, hcs⟩ := eas_bst HOK.out (fineB_ok hq) EA3.out
     have HXE := Lib.hid hXE
     have HCC := Lib.hid hcs
     clear hq hXE hcs
     simp only [Bool.not_true]
     have lfb := fb.lt
     have fbc0 := fb.cell 0
     have fbc1 := fb.cell 1
     have fbc2 := fb.cell 2
     have fbc3 := fb.cell 3
     have fbc4 := fb.cell 4
     have fbc5 := fb.cell 5
     have fbc6 := fb.cell 6
     have fbc7 := fb.cell 7
     simp at fbc0 fbc1 fbc2 fbc3 fbc4 fbc5 fbc6 fbc7
     go_wp2_with fail
     clear lfb fbc0 fbc1 fbc2 fbc3 fbc4 fbc5 fbc6 fbc7
     refine (Best_any L3 _ m _ hk3' hS3).mono ?_
     rintro e w4 ⟨u_b, rfl, hown, hb⟩
     replace hC : Below n0 w w4 := hC.trans (hb.mono (by have := hC.size; omega))
     replace bx := bx.below hb bx.lt
     replace pr := pr.below hb pr.lt
     replace px := px.below hb px.lt
     replace py := py.below hb py.lt
     replace pz := pz.below hb pz.lt
     replace pu := pu.below hb pu.lt
     replace hT := (RS.below hT hb).more hb.size
     replace hS1 := (RS.below hS1 hb).more hb.size
     replace hS3 := (RS.below hS3 hb).more hb.size
     replace hS4 := (RS.below hS4 hb).more hb.size
     replace fb := fb.below hb fb.lt
     replace hbz := hbz.trans (hb.mono hbz.size)
     clear hb
     rw [HXE.out]
     clear hown
     have hcs := HCC.out
     clear HCC
     rcases hcs with ⟨hf, rfl, hc⟩ | ⟨hf, rfl⟩ | ⟨hf, rfl⟩
     ·skip
      obtain ⟨rfl, hcc⟩ : e0 = 0 ∧ ¬ c > c0 := by
        rcases HCS.out with ⟨_, h2, h3⟩ | ⟨h1, _⟩
        · exact ⟨h2, by omega⟩
        · exfalso; omega
      clear hf hc
      go_wp2_with fail
      go_roundw
      case rel => exact ⟨2 + 1, by decide, by go_num, HBR.out.trans (hbz.mono HBR.out.size)⟩
      case measure => simp [intOf]
     ·skip
      obtain rfl : e0 = 18 := by
        rcases HCS.out with ⟨h1, _⟩ | ⟨_, h2⟩
        · exfalso; omega
        · exact h2
      clear hf
      go_wp2_with fail
      go_roundw
      case rel => exact ⟨2 + 1, by decide, by go_num, HBR.out.trans (hbz.mono HBR.out.size)⟩
      case measure => simp [intOf]
     ·skip
      obtain rfl : e0 = 18 := by
        rcases HCS.out with ⟨h1, _⟩ | ⟨_, h2⟩
        · exfalso; omega
        · exact h2
      clear hf
      go_wp2_with fail
      go_roundw
      case rel => exact ⟨2 + 1, by decide, by go_num, HBR.out.trans (hbz.mono HBR.out.size)⟩
      case measure => simp [intOf]
    ·skip
     clear hk hk4
     have lfb := fb.lt
     have fbc0 := fb.cell 0
     have fbc1 := fb.cell 1
     have fbc2 := fb.cell 2
     have fbc3 := fb.cell 3
     have fbc4 := fb.cell 4
     have fbc5 := fb.cell 5
     have fbc6 := fb.cell 6
     have fbc7 := fb.cell 7
     simp at fbc0 fbc1 fbc2 fbc3 fbc4 fbc5 fbc6 fbc7
     go_wp2_with fail
     clear lfb fbc0 fbc1 fbc2 fbc3 fbc4 fbc5 fbc6 fbc7
     refine (fine_any L4 _ m _ hM4 hS4).mono ?_
     rintro e w3 ⟨rfl, hb⟩
     replace hC : Below n0 w w3 := hC.trans (hb.mono (by have := hC.size; omega))
     replace bx := bx.below hb bx.lt
     replace pr := pr.below hb pr.lt
     replace px := px.below hb px.lt
     replace py := py.below hb py.lt
     replace pz := pz.below hb pz.lt
     replace pu := pu.below hb pu.lt
     replace hT := (RS.below hT hb).more hb.size
     replace hS1 := (RS.below hS1 hb).more hb.size
     replace hS3 := (RS.below hS3 hb).more hb.size
     replace hS4 := (RS.below hS4 hb).more hb.size
     replace fb := fb.below hb fb.lt
     replace hbz := hbz.trans (hb.mono hbz.size)
     clear hb
     obtain ⟨q, hq⟩ : ∃ q, fineB L4 m = q := ⟨_, rfl⟩
     rw [hq]
     cases q
     case false =>
       clear hq
       go_wp2_with fail
       go_roundw
       case rel => exact ⟨3 + 1, by decide, by go_num, HBR.out.trans (hbz.mono HBR.out.size)⟩
       case measure => simp [intOf]
     obtain ⟨c, e, hXE, hcs⟩ := eas_bst HOK.out (fineB_ok hq) EA4.out
     have HXE := Lib.hid hXE
     have HCC := Lib.hid hcs
     clear hq hXE hcs
     simp only [Bool.not_true]
     have lfb := fb.lt
     have fbc0 := fb.cell 0
     have fbc1 := fb.cell 1
     have fbc2 := fb.cell 2
     have fbc3 := fb.cell 3
     have fbc4 := fb.cell 4
     have fbc5 := fb.cell 5
     have fbc6 := fb.cell 6
     have fbc7 := fb.cell 7
     simp at fbc0 fbc1 fbc2 fbc3 fbc4 fbc5 fbc6 fbc7
     go_wp2_with fail
     clear lfb fbc0 fbc1 fbc2 fbc3 fbc4 fbc5 fbc6 fbc7
     refine (Best_any L4 _ m _ hk4' hS4).mono ?_
     rintro e w4 ⟨u_b, rfl, hown, hb⟩
     replace hC : Below n0 w w4 := hC.trans (hb.mono (by have := hC.size; omega))
     replace bx := bx.below hb bx.lt
     replace pr := pr.below hb pr.lt
     replace px := px.below hb px.lt
     replace py := py.below hb py.lt
     replace pz := pz.below hb pz.lt
     replace pu := pu.below hb pu.lt
     replace hT := (RS.below hT hb).more hb.size
     replace hS1 := (RS.below hS1 hb).more hb.size
     replace hS3 := (RS.below hS3 hb).more hb.size
     replace hS4 := (RS.below hS4 hb).more hb.size
     replace fb := fb.below hb fb.lt
     replace hbz := hbz.trans (hb.mono hbz.size)
     clear hb
     rw [HXE.out]
     clear hown
     have hcs := HCC.out
     clear HCC
     rcases hcs with ⟨hf, rfl, hc⟩ | ⟨hf, rfl⟩ | ⟨hf, rfl⟩
     ·skip
      obtain ⟨rfl, hcc⟩ : e0 = 0 ∧ ¬ c > c0 := by
        rcases HCS.out with ⟨_, h2, h3⟩ | ⟨h1, _⟩
        · exact ⟨h2, by omega⟩
        · exfalso; omega
      clear hf hc
      go_wp2_with fail
      go_roundw
      case rel => exact ⟨3 + 1, by decide, by go_num, HBR.out.trans (hbz.mono HBR.out.size)⟩
      case measure => simp [intOf]
     ·skip
      obtain rfl : e0 = 18 := by
        rcases HCS.out with ⟨h1, _⟩ | ⟨_, h2⟩
        · exfalso; omega
        · exact h2
      clear hf
      go_wp2_with fail
      go_roundw
      case rel => exact ⟨3 + 1, by decide, by go_num, HBR.out.trans (hbz.mono HBR.out.size)⟩
      case measure => simp [intOf]
     ·skip
      obtain rfl : e0 = 18 := by
        rcases HCS.out with ⟨h1, _⟩ | ⟨_, h2⟩
        · exfalso; omega
        · exact h2
      clear hf
      go_wp2_with fail
      go_roundw
      case rel => exact ⟨3 + 1, by decide, by go_num, HBR.out.trans (hbz.mono HBR.out.size)⟩
      case measure => simp [intOf]
end Go.Proofs.Ytgbegdjakadbbaa

namespace Go.Proofs.Ytgbegdjakadbbaa.warpWider
open Go.ChangeShapes Go.WideShapes Go.ChangeAt Go.RowKit Go.Deep

set_option maxRecDepth 100000 in
theorem lifted (os : Os) (started : os.Started) (H : Type) (enc : TypeId × Value → H) :
    ReturnsInHanded {} Try.checked os 10 .any (Rows.warpWiderSpec.pre6 enc Try.prog Try.f10 Rows.warpWiderRow.domain false) (Rows.warpWiderSpec.post enc Try.prog Try.f10 false true false false) := by
  refine returnsInHanded_of_change (C := Try.checked) own started (by kernel_rfl) Try.func10
    (ChangeSpec.witness6 (enc := enc) (C := Try.checked) false ⟨#[], #[.agg #[.slice none 0 0, .int .i64 0], .int .u8 0, .agg #[.int .u8 0, .int .u8 0], .int .u8 0, .int .u8 0], []⟩ 8 (by kernel_rfl) (by kernel_rfl) (by kernel_rfl) (by kernel_rfl)) ?_
  intro W base args ds gs before hval0 hW hcnd _
  have hval : ∀ (j : Nat) t v, Try.f10.params[j]? = some t → args[j]? = some v → Value.okWide Try.prog W .any base t v := hval0
  have hW2 : DataW.Whole enc Try.prog Try.f10.params.toList Rows.warpWiderSpec.vars false W args.toList ds gs before := hW
  obtain ⟨p, q, hA0, hV, rfl, hfz, hnd⟩ := hW
  have hA : DataW.TrodAll enc Try.prog W 0 (fun _ => true) true Try.f10.params.toList args.toList ds p := hA0
  rw [Try.params10] at hA hval
  obtain ⟨v0, vs0, d0, ds0, p0, q0, hargs, rfl, rfl, h0, r0⟩ := trodAll_cons hA
  obtain ⟨v1, vs1, d1, ds1, p1, q1, rfl, rfl, rfl, h1, r1⟩ := trodAll_cons r0
  obtain ⟨v2, vs2, d2, ds2, p2, q2, rfl, rfl, rfl, h2, r2⟩ := trodAll_cons r1
  obtain ⟨v3, vs3, d3, ds3, p3, q3, rfl, rfl, rfl, h3, r3⟩ := trodAll_cons r2
  obtain ⟨v4, vs4, d4, ds4, p4, q4, rfl, rfl, rfl, h4, r4⟩ := trodAll_cons r3
  obtain ⟨rfl, rfl, rfl⟩ := trodAll_nil r4
  obtain rfl : args = #[v0, v1, v2, v3, v4] := by cases args; simp_all
  obtain ⟨rfl, rfl⟩ := trodVars_none hV
  obtain ⟨vs0_, l0, m0, rfl, g0, k0, j0⟩ := open_blade (hval 0 24 v0 rfl rfl) h0
  obtain ⟨x1, rfl, g1⟩ := open_u8 (hval 1 5 v1 rfl rfl) h1
  obtain ⟨x2, y2, rfl, g2⟩ := open_a8 (hval 2 52 v2 rfl rfl) h2
  obtain ⟨x3, rfl, g3⟩ := open_u8 (hval 3 5 v3 rfl rfl) h3
  obtain ⟨x4, rfl, g4⟩ := open_u8 (hval 4 5 v4 rfl rfl) h4
  refine (warpWider_any (l := l0) (m := m0) (vs := vs0_) (hT := g0) (hlM := k0) (hmI := j0) (x1 := x1) (h1 := g1) (a1 := x2) (a2 := y2) (ha := g2) (x2 := x3) (h2 := g3) (x3 := x4) (h3 := g4) (w := W)).mono fun e W' ⟨he, hg⟩ => ?_
  subst he
  exact ⟨_, rfl, law_done hW2 rfl rfl rfl (by rw [Try.params10]; decide +kernel) hg⟩

theorem over : Rows.warpWiderRow.holds Try.pinned (OpenSpec.ofChange Rows.warpWiderSpec) :=
  OpenClaim.holds_of_wide 10 Try.f10 rfl rfl rfl rfl rfl rfl rfl ⟨rfl, rfl, rfl, rfl, rfl⟩ rfl rfl rfl rfl rfl (by kernel_rfl) Try.func10 (by kernel_rfl)
    (of_decide_eq_true (by kernel_rfl)) (by unfold Func.isWrapper; first | (rw [if_pos (by decide +kernel)]; kernel_rfl) | (rw [if_neg (by decide +kernel)]; exact ⟨rfl, rfl⟩))
    (fun os started H enc _ => lifted os started H enc)

theorem proved : Rows.WarpWiderSaid :=
  over
end Go.Proofs.Ytgbegdjakadbbaa.warpWider
namespace Go.Proofs.Ytgbegdjakadbbaa
theorem warpWider_proved : Rows.WarpWiderSaid := warpWider.proved
#print axioms warpWider_proved
end Go.Proofs.Ytgbegdjakadbbaa
