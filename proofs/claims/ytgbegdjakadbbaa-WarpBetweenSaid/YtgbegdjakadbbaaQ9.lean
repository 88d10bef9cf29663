/- Lazy blows, plain; a list of stations that grows. Spans, plain: what they say; of a turned blade, of one as many times as hard. Two lists of stations that grow side by side. A list of stations that is copied by append; one station of a list of its own is changed. Between: plain. What Bends and Span say of a valid blade; a tube that is cut to one bend. WarpBetween: the walk. Just the numbers within a span are best, and nearer to it no number costs more; a tube that is cut to one bend can be reached just within Bends; for every blade and numbers. -/
import Derived.Test.YtgbegdjakadbbaaP27
import Derived.Test.YtgbegdjakadbbaaP18
import Derived.Test.YtgbegdjakadbbaaP14
import Derived.Test.YtgbegdjakadbbaaP16
import Derived.Test.YtgbegdjakadbbaaRows
import Derived.Test.YtgbegdjakadbbaaP26
set_option linter.all false
set_option linter.unnecessarySimpa false
set_option linter.unusedSimpArgs false
set_option linter.unusedVariables false
set_option linter.unusedSectionVars false

set_option linter.all false
namespace Go.Proofs.Ytgbegdjakadbbaa
open Go.RowKit Vp

theorem app_st {base : Nat} {w0 w1 : World} {l : List St} {v : Value} (hown : OwnS w1 base v l) (x : St) (hn : l.length ≤ 100000) (hbase : base ≤ w1.heap.size) (hbw : Below base w0 w1) (B : Nat) (hB : w1.heap.size = B) :
    ∃ v' w2, (Builtin.append_ #[22, 22] 22 #[v, .slice (some ⟨B, 0, none⟩) 1 1]).run Try.prog (w1.alloc (.cells #[.int .i64 x.ang, .int .i64 x.lo, .int .i64 x.hi, .int .i64 x.hard] 60)) = .ok v' w2 ∧
      OwnS w2 base v' (l ++ [x]) ∧ Below base w0 w2 ∧ w1.heap.size ≤ w2.heap.size ∧ (∀ k cs t, BK w1 k cs t → t ≠ 60 → BK w2 k cs t) := by
  obtain ⟨g', cap', w2, h1, h2, h3, h4, h5⟩ := app_t st_info st_slice rfl (by decide) (by decide) hown (news := encS x) rfl (by intro u hu; simp [encS] at hu; rcases hu with rfl | rfl | rfl | rfl <;> rfl) hn hbase hbw 22 60 B hB
  exact ⟨_, w2, h1, by rw [ofG_app] at h2; unfold OwnS; simpa using h2, h3, h4, h5⟩
theorem ru_nil (k : IntKind) (w : World) (B : Nat) : RU k w B (.slice none 0 0) [] := ⟨none, 0, 0, 0, rfl, ⟨rfl, Nat.le_refl _⟩, fun h => absurd rfl h, fun j hj => by simp at hj⟩
/-- The station that is as hard as h. -/
def eqS (h : Int) (s : St) : St := ⟨s.ang, s.lo, s.hi, h⟩
theorem nthS_map {f : St → St} {l : List St} {k : Nat} (h : k < l.length) : nthS (l.map f) k = f (nthS l k) := by simp [nthS, h]
theorem take_map {f : St → St} {l : List St} {k : Nat} (h : k < l.length) : (l.take k).map f ++ [f (nthS l k)] = (l.take (k + 1)).map f := by
  rw [List.take_succ, List.map_append]
  simp [nthS, h]
theorem okB_eq {l : List St} {m : Int} (h : OkB l m) : OkB (l.map (eqS (nthS l 0).hard)) m := by
  have h1 := h.one
  have h0 := okS_at h.all (show 0 < l.length by omega)
  refine ⟨by simpa using h.one, by simpa using h.few, fun s hs => ?_, h.lo, h.hi⟩
  obtain ⟨x, hx, rfl⟩ := List.mem_map.1 hs
  have := okSB_iff.1 (h.all x hx)
  rw [okSB_iff]
  simp only [eqS]
  omega
theorem blwB_nil (m : Int) (t : Rg) (i : Nat) (f : Int) : blwB m t [] i f = lazD m t f := by unfold blwB wntB lazD; rw [if_pos (show ([] : List Nat).length = 0 from rfl)]
theorem bnd_succ (m : Int) (l : List St) (k : Nat) : bndB m l [] (k + 1) = bndB m l [] k + lazD m (tub (nthS l k)) (bndB m l [] k) := by rw [← blwB_nil (i := k)]; rfl
theorem drop_nthS {l : List St} {k : Nat} (h : k < l.length) : l.drop k = nthS l k :: l.drop (k + 1) := by rw [nthS_eq h]; exact List.drop_eq_getElem_cons h
theorem laz_drop (m : Int) (l : List St) : ∀ n k, l.length - k = n → k ≤ l.length → lazL m (l.drop k) (bndB m l [] k) = (List.range n).map fun i => blwB m (tub (nthS l (k + i))) [] (k + i) (bndB m l [] (k + i))
  | 0, k, h, h2 => by rw [List.drop_of_length_le (by omega)]; rfl
  | n + 1, k, h, h2 => by
    rw [drop_nthS (by omega), lazL, ← bnd_succ, laz_drop m l n (k + 1) (by omega) (by omega), List.range_succ_eq_map, List.map_cons, List.map_map, blwB_nil]
    refine congrArg (List.cons _) (List.map_congr_left fun i _ => ?_)
    rw [Function.comp, show k + 1 + i = k + Nat.succ i by omega]
theorem laz_blw (m : Int) (l : List St) : blwL m l [] l.length = lazL m l 0 := by
  have := laz_drop m l l.length 0 rfl (Nat.zero_le _)
  rw [List.drop_zero] at this
  simp only [Nat.zero_add] at this
  exact this.symm
theorem laz_fe {m : Int} (hm : 0 ≤ m) (l : List St) (h : ∀ j, j < l.length → (tub (nthS l j)).lo ≤ bndB m l [] (j + 1) ∧ bndB m l [] (j + 1) ≤ (tub (nthS l j)).hi) : ∀ n k, l.length - k = n → k ≤ l.length → Fe m (l.drop k) (bndB m l [] k) (lazL m (l.drop k) (bndB m l [] k))
  | 0, k, e, h2 => by rw [List.drop_of_length_le (by omega)]; trivial
  | n + 1, k, e, h2 => by
    have q := h k (by omega)
    rw [drop_nthS (by omega), lazL]
    refine ⟨?_, ?_, ?_⟩
    · unfold lazD; omega
    · rw [← bnd_succ]; exact q
    · rw [← bnd_succ]; exact laz_fe hm l h n (k + 1) (by omega) (by omega)
/-- Lazy blows that stay within the tubes are best if all stations are as hard. -/
theorem laz_all {m : Int} {l : List St} (hB : OkB l m) {h : Int} (hh : ∀ s ∈ l, s.hard = h) (hf : ∀ j, j < l.length → (tub (nthS l j)).lo ≤ bndB m l [] (j + 1) ∧ bndB m l [] (j + 1) ≤ (tub (nthS l j)).hi) :
    tgo m l 0 < never ∧ chkE l m (blwL m l [] l.length) = 0 ∧ chkV l m (blwL m l [] l.length) = tgo m l 0 := by
  have h1 := laz_fe hB.lo l hf l.length 0 rfl (Nat.zero_le _)
  rw [List.drop_zero] at h1
  change Fe m l 0 (lazL m l 0) at h1
  obtain ⟨h2, h3⟩ := lazy_best hB hh h1
  rw [laz_blw]
  have h4 := (chk_fe hB).2 h1
  exact ⟨h2, h4, by rw [chk_cost h4, h3]⟩
end Go.Proofs.Ytgbegdjakadbbaa

set_option linter.all false
namespace Go.Proofs.Ytgbegdjakadbbaa
open Go.RowKit Vp

theorem wk_part {l : List St} {k : Nat} (h : k < l.length) : Part l k (l.take k).reverse (nthS l k) (l.drop (k + 1)) := by rw [nthS_eq h]; exact part_of h
theorem fe_at {m : Int} : ∀ {l : List St} {f : Int} {ds : List Int}, Fe m l f ds → ∀ {k : Nat} {d : Int}, ds[k]? = some d → -m ≤ d ∧ d ≤ m
  | [], _, [], _, k, d, h => by simp at h
  | s :: l, f, e :: ds, hf, 0, d, h => by
    obtain rfl : e = d := by simpa using h
    exact hf.1
  | s :: l, f, e :: ds, hf, k + 1, d, h => fe_at hf.2.2 (k := k) (by simpa using h)
  | [], _, _ :: _, h, _, _, _ => h.elim
  | _ :: _, _, [], h, _, _, _ => h.elim
theorem mem_lst {m d : Int} (hm : 0 ≤ m) : d ∈ lst (-m) (cnt (-m) m) ↔ -m ≤ d ∧ d ≤ m := by rw [lst_mem]; unfold cnt; omega
theorem witK_ge {l : List St} {m : Int} (hB : OkB l m) {k : Nat} (hk : k < l.length) {d : Int} (hm : -m ≤ d ∧ d ≤ m) (h : witK m l k d < never) : tgo m l 0 ≤ witK m l k d := by
  obtain ⟨ds, h1, _, h3⟩ := wit_ex hB (wk_part hk) hm h
  unfold witK
  rw [← h3]
  exact tgo_le h1
/-- Some best blows have some number at each station. -/
theorem spn_best {l : List St} {m : Int} (hB : OkB l m) {k : Nat} (hk : k < l.length) (h : tgo m l 0 < never) : ∃ d, (-m ≤ d ∧ d ≤ m) ∧ witK m l k d = tgo m l 0 := by
  obtain ⟨ds, h1, h2⟩ := tgo_ex hB.all h
  have hl := h1.length
  obtain ⟨d, hd⟩ : ∃ d, ds[k]? = some d := ⟨ds[k]'(by omega), by simp⟩
  have hr := fe_at h1 hd
  have h3 := wit_le hB (wk_part hk) h1 hd
  have h4 := hB.cheap hB.few hB.all h1
  have h5 : witK m l k d < never := by unfold witK; simp only [never]; omega
  have h6 := witK_ge hB hk hr h5
  unfold witK at h6 ⊢
  exact ⟨d, hr, by omega⟩
theorem mem_spn {l : List St} {m : Int} (hm : 0 ≤ m) {k : Nat} {d : Int} : d ∈ spnF l m k ↔ (-m ≤ d ∧ d ≤ m) ∧ witK m l k d = tgo m l 0 := by
  unfold spnF
  rw [List.mem_filter, mem_lst hm, beq_iff_eq]
theorem spn_ne {l : List St} {m : Int} (hB : OkB l m) {k : Nat} (hk : k < l.length) (h : tgo m l 0 < never) : (spnF l m k).length ≠ 0 := by
  obtain ⟨d, h1, h2⟩ := spn_best hB hk h
  have := (mem_spn hB.lo).2 ⟨h1, h2⟩
  intro q
  rw [List.length_eq_zero_iff] at q
  rw [q] at this
  cases this
theorem atE_k {l : List St} {m : Int} (hB : OkB l m) {k : Nat} (hk : k < l.length) : atE l m k = 0 := atE_in (blaE_ok.2 hB) (by omega)
theorem spn_yes {l : List St} {m : Int} (hB : OkB l m) {k : Nat} (hk : k < l.length) (h : tgo m l 0 < never) : spnL l m k = toldL (spnF l m k) ∧ (spnL l m k).2.2 = 0 := by
  have h1 : spnL l m k = toldL (spnF l m k) := by unfold spnL; rw [if_pos (atE_k hB hk), if_pos h, Int.toNat_natCast]
  refine ⟨h1, ?_⟩
  rw [h1]
  unfold toldL
  rw [if_neg (spn_ne hB hk h)]
theorem spn_no {l : List St} {m : Int} (hB : OkB l m) {k : Nat} (hk : k < l.length) (h : ¬ tgo m l 0 < never) : spnL l m k = (0, 0, 18) := by unfold spnL; rw [if_pos (atE_k hB hk), if_neg h]
theorem witK_neg {l : List St} {m : Int} (hB : OkB l m) {k : Nat} (hk : k < l.length) {d : Int} (hm : -m ≤ d ∧ d ≤ m) : witK m (l.map negS) k (-d) = witK m l k d := by
  unfold witK
  rw [← wit_neg hB (wk_part hk) hm, List.map_reverse, List.map_take, List.map_drop, nthS_map hk]
theorem lst_neg (m : Int) : (lst (-m) (cnt (-m) m)).map (fun d => -d) = (lst (-m) (cnt (-m) m)).reverse := by
  apply List.ext_getElem
  · simp
  · intro i h1 h2
    simp [lst] at h1
    simp [lst]
    unfold cnt at h1 ⊢
    omega
theorem spn_neg {l : List St} {m : Int} (hB : OkB l m) {k : Nat} (hk : k < l.length) : spnF (l.map negS) m k = (spnF l m k).reverse.map (fun d => -d) := by
  unfold spnF
  rw [← List.filter_reverse, ← lst_neg, List.filter_map, List.map_map]
  have e : ((fun d : Int => -d) ∘ fun d => -d) = id := by funext d; simp
  rw [e, List.map_id, tgo_neg hB]
  apply List.filter_congr
  intro d hd
  have h1 := (mem_lst hB.lo).1 hd
  have := witK_neg hB hk (d := -d) (by omega)
  rw [Int.neg_neg] at this
  simp only [Function.comp, this]
theorem nthI_in {l : List Int} {i : Nat} (h : i < l.length) : nthI l i = l[i] := by simp [nthI, h]
theorem told_neg (F : List Int) : toldL (F.reverse.map (fun d => -d)) = (-(toldL F).2.1, -(toldL F).1, (toldL F).2.2) := by
  unfold toldL
  rw [List.length_map, List.length_reverse]
  by_cases h : F.length = 0
  · rw [if_pos h, if_pos h]; rfl
  · rw [if_neg h, if_neg h]
    have h0 : 0 < F.length := by omega
    simp only [Prod.mk.injEq, and_true]
    have h1 : F.length - 1 < F.length := by omega
    constructor
    · rw [nthI_in (by simpa using h0), List.getElem_map, List.getElem_reverse, nthI_in h1]
      simp only [Nat.sub_zero]
    · rw [nthI_in (by simpa using h1), List.getElem_map, List.getElem_reverse, nthI_in h0]
      simp only [Nat.sub_self]
theorem spnL_neg {l : List St} {m : Int} (hB : OkB l m) {k : Nat} (hk : k < l.length) : spnL (l.map negS) m k = (-(spnL l m k).2.1, -(spnL l m k).1, (spnL l m k).2.2) := by
  have hk2 : k < (l.map negS).length := by simpa using hk
  by_cases h : tgo m l 0 < never
  · rw [(spn_yes hB hk h).1, (spn_yes (okB_neg hB) hk2 (by rw [tgo_neg hB]; exact h)).1, spn_neg hB hk, told_neg]
  · rw [spn_no hB hk h, spn_no (okB_neg hB) hk2 (by rw [tgo_neg hB]; exact h)]; rfl
theorem witK_mul {l : List St} {m t : Int} (hB : OkB l m) (hB' : OkB (l.map (mulS t)) m) (ht : 1 ≤ t) {k : Nat} (hk : k < l.length) {d : Int} (hm : -m ≤ d ∧ d ≤ m) :
    (witK m (l.map (mulS t)) k d < never ↔ witK m l k d < never) ∧ (witK m l k d < never → witK m (l.map (mulS t)) k d = t * witK m l k d) := by
  have := wit_mul hB hB' ht (wk_part hk) hm
  unfold witK
  rw [nthS_map hk, ← List.map_take, ← List.map_reverse, ← List.map_drop]
  exact this
theorem spnL_mul {l : List St} {m t : Int} (hB : OkB l m) (hB' : OkB (l.map (mulS t)) m) (ht : 1 ≤ t) {k : Nat} (hk : k < l.length) : spnL (l.map (mulS t)) m k = spnL l m k := by
  have hk2 : k < (l.map (mulS t)).length := by simpa using hk
  obtain ⟨h1, h2⟩ := tgo_mul hB hB' ht
  by_cases h : tgo m l 0 < never
  · rw [(spn_yes hB hk h).1, (spn_yes hB' hk2 (h1.2 h)).1]
    congr 1
    unfold spnF
    apply List.filter_congr
    intro d hd
    obtain ⟨q1, q2⟩ := witK_mul hB hB' ht hk ((mem_lst hB.lo).1 hd)
    rw [h2 h, Bool.eq_iff_iff, beq_iff_eq, beq_iff_eq]
    constructor
    · intro e
      have h3 : witK m (l.map (mulS t)) k d < never := by rw [e, ← h2 h]; exact h1.2 h
      rw [q2 (q1.1 h3)] at e
      exact Int.eq_of_mul_eq_mul_left (by omega) e
    · intro e
      rw [q2 (by rw [e]; exact h), e]
  · rw [spn_no hB hk h, spn_no hB' hk2 (fun q => h (h1.1 q))]
end Go.Proofs.Ytgbegdjakadbbaa

set_option linter.all false
namespace Go.Proofs.Ytgbegdjakadbbaa
open Go.RowKit Vp

theorem own_far {W : World} {base e sz n : Nat} {v : Value} {xs : List Value} (h : W.ownsRow base e sz v n xs) {p : Addr} (hp : v.ownBlock ≠ some p.block) (u : Value) : (W.setCell p u).ownsRow base e sz v n xs := by
  obtain ⟨hl, h2⟩ := h
  refine ⟨hl, ?_⟩
  rcases h2 with h2 | ⟨g, cap, cur, hv, hb, hh, r⟩
  · exact .inl h2
  · refine .inr ⟨g, cap, cur, hv, hb, ?_, r⟩
    rw [Below.heap_setCell]
    · exact hh
    · rintro rfl
      exact hp (by rw [hv]; rfl)
/-- Two lists of stations that grow, each in a block of its own. -/
def TwoT (X : World) (base : Nat) (v u : Value) (l m : List St) : Prop := OwnS X base v l ∧ OwnS X base u m ∧ ∀ g, v.ownBlock = some g → u.ownBlock ≠ some g
theorem TwoT.symm {X : World} {base : Nat} {v u : Value} {l m : List St} (h : TwoT X base v u l m) : TwoT X base u v m l := ⟨h.2.1, h.1, fun g hg hq => h.2.2 g hq hg⟩
theorem TwoT.below {X Y : World} {base : Nat} {v u : Value} {l m : List St} (h : TwoT X base v u l m) (hb : Below X.heap.size X Y) : TwoT Y base v u l m := ⟨own_below h.1 hb, own_below h.2.1 hb, h.2.2⟩
theorem TwoT.far {X : World} {base : Nat} {v u : Value} {l m : List St} (h : TwoT X base v u l m) {p : Addr} {cs : Array Value} (hp : BK X p.block cs 24) (x : Value) : TwoT (X.setCell p x) base v u l m := by
  have ne : ∀ {z : Value} {k : List St}, OwnS X base z k → z.ownBlock ≠ some p.block := fun {z k} hz hq => by
    obtain ⟨c, hc⟩ := own_block hz hq
    unfold BK at hp
    rw [hp] at hc
    injection hc with hc
    injection hc with _ hc
    exact absurd hc (by decide)
  exact ⟨own_far h.1 (ne h.1) x, own_far h.2.1 (ne h.2.1) x, h.2.2⟩
theorem TwoT.nil (X : World) (base : Nat) : TwoT X base (.slice none 0 0) (.slice none 0 0) [] [] := ⟨OwnS.nil X base, OwnS.nil X base, fun g hg => by cases hg⟩

theorem two_grow {W : World} {base g tn : Nat} {v u : Value} {l m : List St} {x : St} (h : TwoT W base v u l m) (hg : BK W g #[.int .i64 x.ang, .int .i64 x.lo, .int .i64 x.hi, .int .i64 x.hard] tn) (hn : l.length ≤ 100000) (hbase : base ≤ W.heap.size) :
    ∃ v' w2, (Builtin.append_ #[22, 22] 22 #[v, .slice (some ⟨g, 0, none⟩) 1 1]).run Try.prog W = .ok v' w2 ∧ TwoT w2 base v' u (l ++ [x]) m ∧ (∀ w0, Below base w0 W → Below base w0 w2) ∧ W.heap.size ≤ w2.heap.size ∧ (∀ k cs t, BK W k cs t → v.ownBlock ≠ some k → BK w2 k cs t) := by
  obtain ⟨h1, h2, h3⟩ := h
  obtain ⟨i0, hi0, hz0, hz1, hz2⟩ := info_parts st_info
  obtain ⟨g', cap', w2, hrun, hown', hgr, hat⟩ := app1 (P := Try.prog) 22 22 60 i0 _ _ _ st_slice hi0 hz0 hz1 hz2 rfl (by decide) (by decide) base W v l.length (ofG encS l) h1 g (encS x) tn hg rfl (by intro u hu; simp [encS] at hu; rcases hu with rfl | rfl | rfl | rfl <;> rfl) hn hbase
  refine ⟨_, w2, hrun, ⟨?_, ?_, ?_⟩, fun w0 hbw => Below.grown hbw hgr hbase fun k hk => (h1.lt k hk).1, hgr.size, ?_⟩
  · unfold OwnS
    rw [← ofG_app, List.length_append]
    exact hown'
  · refine h2.kept hgr ?_
    cases hu : u.ownBlock with
    | none => exact .inl rfl
    | some q => exact .inr fun hq => h3 q hq.symm hu
  · intro q hq hu
    rcases hat with hat | hat
    · have : q = g' := by simpa [Value.ownBlock] using hq.symm
      subst this
      exact h3 q hat hu
    · have : q = g' := by simpa [Value.ownBlock] using hq.symm
      subst this
      have := (h2.lt q hu).2
      omega
  · intro k cs t hk hte
    exact hk.grown hgr fun hq => hte hq.symm
theorem TwoT.ne {X : World} {base k : Nat} {v u : Value} {l m : List St} {cs : Array Value} (h : TwoT X base v u l m) (hk : BK X k cs 24) : v.ownBlock ≠ some k := fun hq => by
  obtain ⟨c, hc⟩ := own_block h.1 hq
  unfold BK at hk
  rw [hk] at hc
  injection hc with hc
  injection hc with _ hc
  exact absurd hc (by decide)
theorem TwoT.lt {X : World} {base : Nat} {v u : Value} {l m : List St} (h : TwoT X base v u l m) {k : Nat} (hk : X.heap.size ≤ k) : v.ownBlock ≠ some k := fun hq => by
  have := (h.1.lt k hq).2
  omega
theorem sumC_pos : ∀ {l : List St} {ds : List Int}, (∀ s ∈ l, okSB s = true) → 0 ≤ sumC l ds
  | [], _, _ => by simp [sumC]
  | _ :: _, [], _ => by simp [sumC]
  | s :: l, d :: ds, h => by
    have h1 := sumC_pos (l := l) (ds := ds) fun x hx => h x (by simp [hx])
    have h2 := okSB_iff.1 (h s (by simp))
    have h3 : 0 ≤ s.hard * max d (-d) := Int.mul_nonneg (by omega) (by omega)
    simp only [sumC, cst]
    omega
theorem tgo_pos {l : List St} {m : Int} (hB : OkB l m) (h : tgo m l 0 < never) : 0 ≤ tgo m l 0 := by
  obtain ⟨ds, _, h2⟩ := tgo_ex hB.all h
  rw [← h2]
  exact sumC_pos hB.all
theorem spn_rng {l : List St} {m : Int} (hB : OkB l m) {k : Nat} (hk : k < l.length) : (-200 ≤ (spnL l m k).1 ∧ (spnL l m k).1 ≤ 200) ∧ (-200 ≤ (spnL l m k).2.1 ∧ (spnL l m k).2.1 ≤ 200) := by
  by_cases h : tgo m l 0 < never
  · have h0 := spn_ne hB hk h
    have hm0 := hB.lo
    have hm1 := hB.hi
    have key : ∀ j, j < (spnF l m k).length → -200 ≤ nthI (spnF l m k) j ∧ nthI (spnF l m k) j ≤ 200 := fun j hj => by
      have := ((mem_spn hm0).1 (show nthI (spnF l m k) j ∈ spnF l m k by rw [nthI_in hj]; exact List.getElem_mem hj)).1
      omega
    rw [(spn_yes hB hk h).1]
    unfold toldL
    rw [if_neg h0]
    exact ⟨key 0 (by omega), key _ (by omega)⟩
  · rw [spn_no hB hk h]; decide
/-- What Best and Span say of a blade, of the turned one, of one as many times as hard. -/
theorem turned {l : List St} {m : Int} (hB : OkB l m) {k : Nat} (hk : k < l.length) : ∃ v0 sa sb e0, (e0 = 0 ∨ e0 = 18) ∧ bstE l m = (v0, e0) ∧ bstE (l.map negS) m = (v0, e0) ∧ spnL l m k = (sa, sb, e0) ∧ spnL (l.map negS) m k = (-sb, -sa, e0) ∧
    (-200 ≤ sa ∧ sa ≤ 200) ∧ (-200 ≤ sb ∧ sb ≤ 200) ∧ (0 ≤ v0 ∧ v0 ≤ 36000) ∧ ∀ t, 1 ≤ t → OkB (l.map (mulS t)) m → bstE (l.map (mulS t)) m = (t * v0, e0) ∧ spnL (l.map (mulS t)) m k = (sa, sb, e0) := by
  have hr := spn_rng hB hk
  have hn := spnL_neg hB hk
  by_cases h : tgo m l 0 < never
  · have h2 := (spn_yes hB hk h).2
    obtain ⟨⟨sa, sb, e0⟩, he⟩ : ∃ x, spnL l m k = x := ⟨_, rfl⟩
    rw [he] at h2 hr hn
    dsimp only at h2 hr hn
    subst h2
    refine ⟨tgo m l 0, sa, sb, 0, .inl rfl, bst_yes (blaE_ok.2 hB) h, ?_, he, hn, hr.1, hr.2, ⟨tgo_pos hB h, hB.tgo_small hB.few hB.all h⟩, fun t ht hB' => ?_⟩
    · rw [bst_yes (blaE_ok.2 (okB_neg hB)) (by rw [tgo_neg hB]; exact h), tgo_neg hB]
    · obtain ⟨q1, q2⟩ := tgo_mul hB hB' ht
      rw [bst_yes (blaE_ok.2 hB') (q1.2 h), q2 h, spnL_mul hB hB' ht hk, he]
      exact ⟨rfl, rfl⟩
  · have he := spn_no hB hk h
    rw [he] at hn
    refine ⟨0, 0, 0, 18, .inr rfl, (bst_no (blaE_ok.2 hB) h).1, (bst_no (blaE_ok.2 (okB_neg hB)) (by rw [tgo_neg hB]; exact h)).1, he, hn, by decide, by decide, by decide, fun t ht hB' => ?_⟩
    have q1 := (tgo_mul hB hB' ht).1
    rw [(bst_no (blaE_ok.2 hB') (fun q => h (q1.1 q))).1, spnL_mul hB hB' ht hk, he, Int.mul_zero]
    exact ⟨rfl, rfl⟩
end Go.Proofs.Ytgbegdjakadbbaa

set_option linter.all false
namespace Go.Proofs.Ytgbegdjakadbbaa
open Go.RowKit Vp

/-- A list of stations is appended to an empty one in a block. -/
theorem copy_st {base B g : Nat} {W : World} {l : List St} {src : Value} (hg : BK W g #[] 60) (hbg : base ≤ g) (hs : RT W B src l) (h0 : 0 < l.length) (hm : l.length ≤ 100000) (hbase : base ≤ W.heap.size) :
    ∃ g' c' w2, (Builtin.append_ #[22, 22] 22 #[.slice (some ⟨g, 0, none⟩) 0 0, src]).run Try.prog W = .ok (.slice (some ⟨g', 0, none⟩) l.length c') w2 ∧ OwnS w2 base (.slice (some ⟨g', 0, none⟩) l.length c') l ∧
      (∀ w0, Below base w0 W → Below base w0 w2) ∧ W.heap.size ≤ w2.heap.size ∧ (∀ k cs t, BK W k cs t → k ≠ g → BK w2 k cs t) ∧ (g' = g ∨ g' = W.heap.size) := by
  obtain ⟨i0, hi0, hz0, hz1, hz2⟩ := info_parts st_info
  have hown : W.ownsRow base 60 4 (.slice (some ⟨g, 0, none⟩) 0 0) 0 [] := ⟨by simp, .inr ⟨g, 0, #[], rfl, hbg, hg, Nat.le_refl _, by unfold maxLen; omega, by simp, by simp⟩⟩
  have hne : ∀ (k : Nat), k ≠ g → some k ≠ (Value.slice (some ⟨g, 0, none⟩) 0 0).ownBlock := by
    intro k hk hq
    exact hk (by simpa [Value.ownBlock] using hq)
  obtain ⟨A, c, b, off, rfl, hl, hA, hc⟩ := hs
  obtain ⟨rfl, hb⟩ := hA (by have := ofG_length encS_len l; omega)
  obtain ⟨v', w2, hrun, hown', hgr, _, hob⟩ := run_append_own_at (P := Try.prog) (w := W) base 22 22 60 i0 (.agg #[.int .i64 0, .int .i64 0, .int .i64 0, .int .i64 0]) 4 32 st_slice hi0 hz0 hz1 hz2 rfl (by decide) _ 0 [] hown ⟨b, off, none⟩ l.length c (ofG encS l) hl.1 (fun j u hu => by
    have hj : j < (ofG encS l).length := (List.getElem?_eq_some_iff.1 hu).1
    have e : (⟨b, off, none⟩ : Addr).add j = ⟨b, off + j, none⟩ := by unfold Addr.add; split <;> simp_all
    rw [e, hc j hj]; exact hu) (by
      intro u hu
      unfold ofG at hu
      obtain ⟨x, _, hx⟩ := List.mem_flatMap.1 hu
      simp [encS] at hx
      rcases hx with rfl | rfl | rfl | rfl <;> rfl) (by unfold maxLen; omega) (by omega) hbase
  rw [Nat.zero_add] at hown'
  rw [List.nil_append] at hown'
  have h2 := hown'.2
  rcases h2 with ⟨h3, h4⟩ | ⟨g', cap, cur, hv, h4⟩
  · exfalso
    have h5 := hown'.1
    rw [ofG_length encS_len] at h5
    first | (rw [h3] at h0; omega) | (have := h4; omega) | (simp at h4; omega)
  · subst hv
    exact ⟨g', cap, w2, hrun, hown', fun w0 hbw => Below.grown hbw hgr hbase fun k hk => (hown.lt k hk).1, hgr.size, fun k cs t' hk hkg => hk.grown hgr (hne k hkg), by simpa [Value.ownBlock] using hob⟩
theorem own_wr {W : World} {base e sz n g c : Nat} {xs : List Value} (h : W.ownsRow base e sz (.slice (some ⟨g, 0, none⟩) n c) n xs) (j : Nat) (u : Value) : (W.setCell ⟨g, j, none⟩ u).ownsRow base e sz (.slice (some ⟨g, 0, none⟩) n c) n (xs.set j u) := by
  obtain ⟨hl, h2⟩ := h
  refine ⟨by rw [List.length_set]; exact hl, .inr ?_⟩
  rcases h2 with ⟨hv, _⟩ | ⟨g2, c2, cur, hv, hb, hh, h3, h4, h5, h6⟩
  · cases hv
  · injection hv with hv1 hv2 hv3
    injection hv1 with hv1; injection hv1 with hv1
    subst hv1; subst hv3
    refine ⟨g, c, cur.setIfInBounds j u, rfl, hb, BK.set hh j u, h3, h4, by rw [Array.size_setIfInBounds]; exact h5, ?_⟩
    rw [← h6, Array.toList_setIfInBounds, List.take_set]
theorem own_frozen {W : World} {base e sz n g c : Nat} {xs : List Value} (h : W.ownsRow base e sz (.slice (some ⟨g, 0, none⟩) n c) n xs) (j : Nat) : W.frozen? ⟨g, j, none⟩ = false := by
  obtain ⟨hl, h2⟩ := h
  rcases h2 with ⟨hv, _⟩ | ⟨g2, c2, cur, hv, hb, hh, h3, h4, h5, h6⟩
  · cases hv
  · injection hv with hv1 hv2 hv3
    injection hv1 with hv1; injection hv1 with hv1
    subst hv1
    exact BK.frozen hh j
theorem own_lt {W : World} {base e sz n g c : Nat} {xs : List Value} (h : W.ownsRow base e sz (.slice (some ⟨g, 0, none⟩) n c) n xs) : base ≤ g ∧ g < W.heap.size := by
  obtain ⟨hl, h2⟩ := h
  rcases h2 with ⟨hv, _⟩ | ⟨g2, c2, cur, hv, hb, hh, h3, h4, h5, h6⟩
  · cases hv
  · injection hv with hv1 hv2 hv3
    injection hv1 with hv1; injection hv1 with hv1
    subst hv1
    exact ⟨hb, BK.lt hh⟩
theorem encS_set (l : List St) (i : Nat) (x : St) : ∀ (_ : i < l.length), ofG encS (l.set i x) = ((((ofG encS l).set (i * 4) (.int .i64 x.ang)).set (i * 4 + 1) (.int .i64 x.lo)).set (i * 4 + 2) (.int .i64 x.hi)).set (i * 4 + 3) (.int .i64 x.hard) := by
  induction l generalizing i with
  | nil => intro h; simp at h
  | cons s l ih =>
    intro h
    cases i with
    | zero => simp [ofG, encS]
    | succ i =>
      have := ih i (by simpa using h)
      simp only [ofG, encS, List.set_cons_succ, List.flatMap_cons] at this ⊢
      rw [this, show (i + 1) * 4 = i * 4 + 4 by omega]
      simp
theorem set_same {α : Type} {l : List α} {j : Nat} {u : α} (h : l[j]? = some u) : l.set j u = l := by
  obtain ⟨h1, h2⟩ := List.getElem?_eq_some_iff.1 h
  rw [← h2, List.set_getElem_self]
theorem encS_at {l : List St} {i : Nat} (h : i < l.length) : (ofG encS l)[i * 4]? = some (.int .i64 (nthS l i).ang) ∧ (ofG encS l)[i * 4 + 1]? = some (.int .i64 (nthS l i).lo) ∧ (ofG encS l)[i * 4 + 2]? = some (.int .i64 (nthS l i).hi) ∧ (ofG encS l)[i * 4 + 3]? = some (.int .i64 (nthS l i).hard) := by
  have hg : l[i]? = some (nthS l i) := by unfold nthS; simp [h]
  have h0 := fun j hj => ofG_at encS_len l i j _ hg hj
  exact ⟨h0 0 (by omega), h0 1 (by omega), h0 2 (by omega), h0 3 (by omega)⟩
/-- The range of a station is written. -/
theorem put_rng {W : World} {base g c : Nat} {l : List St} (h : OwnS W base (.slice (some ⟨g, 0, none⟩) l.length c) l) {i : Nat} (hi : i < l.length) (lo hi' : Int) :
    OwnS ((W.setCell ⟨g, i * 4 + 1, none⟩ (.int .i64 lo)).setCell ⟨g, i * 4 + 2, none⟩ (.int .i64 hi')) base (.slice (some ⟨g, 0, none⟩) l.length c) (l.set i ⟨(nthS l i).ang, lo, hi', (nthS l i).hard⟩) := by
  unfold OwnS at h ⊢
  have h1 := own_wr (own_wr h (i * 4 + 1) (.int .i64 lo)) (i * 4 + 2) (.int .i64 hi')
  obtain ⟨e0, e1, e2, e3⟩ := encS_at hi
  rw [List.length_set, encS_set l i _ hi]
  rw [set_same (j := i * 4) e0]
  rw [set_same (j := i * 4 + 3)]
  · exact h1
  · rw [List.getElem?_set_ne (by omega), List.getElem?_set_ne (by omega)]
    exact e3
/-- The hardness of a station is written. -/
theorem put_hard {W : World} {base g c : Nat} {l : List St} (h : OwnS W base (.slice (some ⟨g, 0, none⟩) l.length c) l) {i : Nat} (hi : i < l.length) (x : Int) :
    OwnS (W.setCell ⟨g, i * 4 + 3, none⟩ (.int .i64 x)) base (.slice (some ⟨g, 0, none⟩) l.length c) (l.set i ⟨(nthS l i).ang, (nthS l i).lo, (nthS l i).hi, x⟩) := by
  unfold OwnS at h ⊢
  have h1 := own_wr h (i * 4 + 3) (.int .i64 x)
  obtain ⟨e0, e1, e2, e3⟩ := encS_at hi
  rw [List.length_set, encS_set l i _ hi]
  rw [set_same (j := i * 4) e0, set_same (j := i * 4 + 1) e1, set_same (j := i * 4 + 2) e2]
  exact h1
end Go.Proofs.Ytgbegdjakadbbaa

set_option linter.all false
namespace Go.Proofs.Ytgbegdjakadbbaa
open Go.RowKit Vp

theorem lst_lt (a : Int) (n : Nat) : (lst a n).Pairwise (· < ·) := by
  unfold lst
  rw [List.pairwise_map]
  exact List.pairwise_lt_range.imp (fun h => by omega)
/-- The first and the last of good numbers. -/
theorem told_ends {p : Int → Bool} {a : Int} {n : Nat} (h : ((lst a n).filter p).length ≠ 0) : ∃ lo hi, toldL ((lst a n).filter p) = (lo, hi, 0) ∧ lo ∈ (lst a n).filter p ∧ hi ∈ (lst a n).filter p ∧ ∀ x ∈ (lst a n).filter p, lo ≤ x ∧ x ≤ hi := by
  have hp := List.pairwise_iff_getElem.1 ((lst_lt a n).filter p)
  generalize (lst a n).filter p = F at *
  have h0 : 0 < F.length := by omega
  have h1 : F.length - 1 < F.length := by omega
  refine ⟨nthI F 0, nthI F (F.length - 1), by unfold toldL; rw [if_neg h], ?_, ?_, fun x hx => ?_⟩
  · rw [nthI_in h0]; exact List.getElem_mem h0
  · rw [nthI_in h1]; exact List.getElem_mem h1
  · obtain ⟨j, hj, rfl⟩ := List.mem_iff_getElem.1 hx
    rw [nthI_in h0, nthI_in h1]
    constructor
    · by_cases e : j = 0
      · subst e; exact Int.le_refl _
      · exact Int.le_of_lt (hp 0 j h0 hj (by omega))
    · by_cases e : j = F.length - 1
      · subst e; exact Int.le_refl _
      · exact Int.le_of_lt (hp j (F.length - 1) hj h1 (by omega))
/-- Some blows make the blade straight and bend by f behind station i. -/
def Thru (m : Int) (l : List St) (i : Nat) (f : Int) : Prop := ∃ a b, Fe m (l.take (i + 1)) 0 a ∧ endB 0 a = f ∧ Fe m (l.drop (i + 1)) f b
theorem half_end {m : Int} : ∀ {l : List St} {f g : Int} {ds es : List Int}, Fe m l f ds → Fe m l g es →
    ∃ us vs, (Fe m l ((f + g) / 2) us ∧ endB ((f + g) / 2) us = (endB f ds + endB g es) / 2) ∧ Fe m l ((f + g + 1) / 2) vs ∧ endB ((f + g + 1) / 2) vs = (endB f ds + endB g es + 1) / 2
  | [], f, g, [], [], _, _ => ⟨[], [], ⟨trivial, rfl⟩, trivial, rfl⟩
  | s :: l, f, g, d :: ds, e :: es, h1, h2 => by
    obtain ⟨u, v, hu, hv, k1, k2, k3, k4, -, -⟩ := half_step (f := f) (g := g) (h := 0) (Int.le_refl 0) h1.1 h2.1 h1.2.1 h2.2.1
    obtain ⟨us, vs, ⟨q1, q2⟩, q3, q4⟩ := half_end h1.2.2 h2.2.2
    rw [show (f + d + (g + e)) / 2 = (f + g) / 2 + u by omega] at q1 q2
    rw [show (f + d + (g + e) + 1) / 2 = (f + g + 1) / 2 + v by omega] at q3 q4
    exact ⟨u :: us, v :: vs, ⟨⟨k1, k3, q1⟩, q2⟩, ⟨k2, k4, q3⟩, q4⟩
  | [], _, _, _ :: _, _, h, _ => h.elim
  | [], _, _, _, _ :: _, _, h => h.elim
  | _ :: _, _, _, [], _, h, _ => h.elim
  | _ :: _, _, _, _, [], _, h => h.elim
theorem thru_mid {m : Int} {l : List St} {i : Nat} {p q : Int} (hp : Thru m l i p) (hq : Thru m l i q) : Thru m l i ((p + q) / 2) ∧ Thru m l i ((p + q + 1) / 2) := by
  obtain ⟨a, b, a1, rfl, b1⟩ := hp
  obtain ⟨c, d, c1, rfl, d1⟩ := hq
  obtain ⟨us, vs, ⟨q1, q2⟩, q3, q4⟩ := half_end a1 c1
  obtain ⟨us', vs', ⟨r1, -⟩, r3, -⟩ := half_end b1 d1
  exact ⟨⟨us, us', q1, q2, r1⟩, vs, vs', q3, q4, r3⟩
theorem thru_all {m : Int} {l : List St} {i : Nat} : ∀ (n : Nat) {p q : Int}, q - p = n → Thru m l i p → Thru m l i q → ∀ x, p ≤ x → x ≤ q → Thru m l i x := by
  intro n
  induction n using Nat.strongRecOn with
  | _ n ih =>
    intro p q hn hp hq x h1 h2
    by_cases e1 : x = p
    · subst e1; exact hp
    · by_cases e2 : x = q
      · subst e2; exact hq
      · obtain ⟨k1, k2⟩ := thru_mid hp hq
        by_cases h3 : x ≤ (p + q) / 2
        · exact ih ((p + q) / 2 - p).toNat (by omega) (by omega) hp k1 x h1 h3
        · exact ih (q - (p + q + 1) / 2).toNat (by omega) (by omega) k2 hq x (by omega) h2
theorem thru_bds {l : List St} {m : Int} (hB : OkB l m) {i : Nat} (hi : i < l.length) {f : Int} : f ∈ bdsF l m (i + 1) ↔ Thru m l i f := by
  have ht : ∀ s ∈ l.take (i + 1), okSB s = true := fun s hs => hB.all s (List.mem_of_mem_take hs)
  have hd : ∀ s ∈ l.drop (i + 1), okSB s = true := fun s hs => hB.all s (List.mem_of_mem_drop hs)
  have lt : (l.take (i + 1)).length ≤ 20 := by rw [List.length_take]; have := hB.few; omega
  have ld : (l.drop (i + 1)).length ≤ 20 := by rw [List.length_drop]; have := hB.few; omega
  unfold bdsF
  rw [List.mem_filter, lst_mem, Bool.and_eq_true, decide_eq_true_eq, decide_eq_true_eq]
  constructor
  · rintro ⟨-, h1, h2⟩
    obtain ⟨a, a1, a2, -⟩ := com_ex h1
    rw [List.reverse_reverse] at a1
    obtain ⟨b, b1, -⟩ := tgo_ex hd h2
    exact ⟨a, b, a1, a2, b1⟩
  · rintro ⟨a, b, a1, rfl, b1⟩
    have c1 := hB.cheap lt ht a1
    have c2 := com_le (m := m) (l := (l.take (i + 1)).reverse) (ds := a) (fun s hs => ht s (List.mem_reverse.1 hs)) (by rw [List.reverse_reverse]; exact a1) (by rw [List.reverse_reverse]; simp only [never]; omega)
    rw [List.reverse_reverse] at c2
    have c3 := a1.end_in ht ⟨by omega, by omega⟩
    refine ⟨by omega, ?_, (hB.tgo_lt ld hd).2 ⟨b, b1⟩⟩
    simp only [never]; omega
theorem thru_ex {l : List St} {m : Int} (hB : OkB l m) {i : Nat} (hi : i < l.length) : (∃ f, Thru m l i f) ↔ tgo m l 0 < never := by
  rw [hB.tgo_lt hB.few hB.all]
  constructor
  · rintro ⟨f, a, b, a1, rfl, b1⟩
    have := (Fe.app (l' := l.drop (i + 1)) (b := b) a1).2 b1
    rw [List.take_append_drop] at this
    exact ⟨_, this⟩
  · rintro ⟨ds, h⟩
    rw [← List.take_append_drop (i + 1) l] at h
    obtain ⟨a, b, -, h1, h2⟩ := h.cut
    exact ⟨_, a, b, h1, rfl, h2⟩
/-- What Bends says. -/
theorem bds_yes {l : List St} {m : Int} (hB : OkB l m) {i : Nat} (hi : i < l.length) (h : tgo m l 0 < never) : ∃ lo hi', bdsL l m i = (lo, hi', 0) ∧ lo ≤ hi' ∧ (-200 ≤ lo ∧ hi' ≤ 200) ∧ ∀ f, Thru m l i f ↔ lo ≤ f ∧ f ≤ hi' := by
  obtain ⟨f, hf⟩ := (thru_ex hB hi).2 h
  have hm := (thru_bds hB hi).2 hf
  have hn : ((lst (-200) 401).filter fun f => decide (com m (l.take (i + 1)).reverse f < never) && decide (tgo m (l.drop (i + 1)) f < never)).length ≠ 0 := by
    intro q
    rw [List.length_eq_zero_iff] at q
    unfold bdsF at hm
    rw [q] at hm
    cases hm
  obtain ⟨lo, hi', h1, h2, h3, h4⟩ := told_ends hn
  change toldL (bdsF l m (i + 1)) = _ at h1
  change lo ∈ bdsF l m (i + 1) at h2
  change hi' ∈ bdsF l m (i + 1) at h3
  have h4 : ∀ x ∈ bdsF l m (i + 1), lo ≤ x ∧ x ≤ hi' := h4
  have r1 := (lst_mem.1 (List.mem_filter.1 h2).1)
  have r2 := (lst_mem.1 (List.mem_filter.1 h3).1)
  have r3 := h4 _ h3
  refine ⟨lo, hi', ?_, r3.1, by omega, fun x => ⟨fun hx => h4 x ((thru_bds hB hi).2 hx), fun hx => thru_all (hi' - lo).toNat (by omega) ((thru_bds hB hi).1 h2) ((thru_bds hB hi).1 h3) x hx.1 hx.2⟩⟩
  unfold bdsL
  rw [if_pos (atE_k hB hi), Int.toNat_natCast, h1]
theorem bds_no {l : List St} {m : Int} (hB : OkB l m) {i : Nat} (hi : i < l.length) (h : ¬ tgo m l 0 < never) : bdsL l m i = (0, 0, 18) := by
  have : (bdsF l m (i + 1)).length = 0 := by
    rw [List.length_eq_zero_iff, List.eq_nil_iff_forall_not_mem]
    exact fun f hf => h ((thru_ex hB hi).1 ⟨f, (thru_bds hB hi).1 hf⟩)
  unfold bdsL toldL
  rw [if_pos (atE_k hB hi), Int.toNat_natCast, if_pos this]
/-- The cost with a number at a station; never out of the range. -/
def witW (m : Int) (l : List St) (i : Nat) (d : Int) : Int := if -m ≤ d ∧ d ≤ m then witK m l i d else never
theorem witW_cvx {l : List St} {m : Int} (hB : OkB l m) {i : Nat} (hi : i < l.length) : Cvx (witW m l i) := wit_cvx hB (wk_part hi)
theorem witW_in {l : List St} {m : Int} {i : Nat} {d : Int} (h : -m ≤ d ∧ d ≤ m) : witW m l i d = witK m l i d := if_pos h
/-- What Span says. -/
theorem spn_all {l : List St} {m : Int} (hB : OkB l m) {i : Nat} (hi : i < l.length) (h : tgo m l 0 < never) : ∃ sa sb, spnL l m i = (sa, sb, 0) ∧ sa ≤ sb ∧ (-m ≤ sa ∧ sb ≤ m) ∧ ∀ d, -m ≤ d ∧ d ≤ m → (witK m l i d = tgo m l 0 ↔ sa ≤ d ∧ d ≤ sb) := by
  obtain ⟨sa, sb, h1, h2, h3, h4⟩ := told_ends (spn_ne hB hi h)
  change toldL (spnF l m i) = _ at h1
  change sa ∈ spnF l m i at h2
  change sb ∈ spnF l m i at h3
  have h4 : ∀ x ∈ spnF l m i, sa ≤ x ∧ x ≤ sb := h4
  have r1 := (mem_spn hB.lo).1 h2
  have r2 := (mem_spn hB.lo).1 h3
  refine ⟨sa, sb, by rw [(spn_yes hB hi h).1, h1], (h4 _ h3).1, ⟨r1.1.1, r2.1.2⟩, fun d hd => ⟨fun e => h4 d ((mem_spn hB.lo).2 ⟨hd, e⟩), fun e => ?_⟩⟩
  have := (witW_cvx hB hi).flat h (fun x => by
    unfold witW
    split
    · rename_i hx
      by_cases q : witK m l i x < never
      · exact witK_ge hB hi hx q
      · omega
    · omega) (p := sa) (q := sb) (by rw [witW_in r1.1]; exact r1.2) (sb - sa).toNat (by have := (h4 _ h3).1; omega) (by rw [witW_in r2.1]; exact r2.2) d e.1 e.2
  rwa [witW_in hd] at this
/-- Nearer to the span it costs no more. -/
theorem near_dn {l : List St} {m : Int} (hB : OkB l m) {i : Nat} (hi : i < l.length) {p d : Int} (hp : -m ≤ p ∧ p ≤ m) (hw : witK m l i p = tgo m l 0) (hd : -m ≤ d ∧ d ≤ m) (hpd : p < d) (hf : witK m l i d < never) : witK m l i (d - 1) ≤ witK m l i d := by
  have := (witW_cvx hB hi).down (d - p).toNat p d (by omega) hpd (by rw [witW_in hp, witW_in hd, hw]; exact witK_ge hB hi hd hf) (by rw [witW_in hd]; exact hf)
  rwa [witW_in hd, witW_in (by omega)] at this
theorem near_up {l : List St} {m : Int} (hB : OkB l m) {i : Nat} (hi : i < l.length) {p d : Int} (hp : -m ≤ p ∧ p ≤ m) (hw : witK m l i p = tgo m l 0) (hd : -m ≤ d ∧ d ≤ m) (hpd : d < p) (hf : witK m l i d < never) : witK m l i (d + 1) ≤ witK m l i d := by
  have := (witW_cvx hB hi).up d p hpd (by rw [witW_in hp, witW_in hd, hw]; exact witK_ge hB hi hd hf) (by rw [witW_in hd]; exact hf)
  rwa [witW_in hd, witW_in (by omega)] at this
theorem witK_no {l : List St} {m : Int} (hB : OkB l m) {i : Nat} (hi : i < l.length) {d : Int} (hd : -m ≤ d ∧ d ≤ m) (h : ¬ tgo m l 0 < never) : ¬ witK m l i d < never := fun q => by
  obtain ⟨ds, h1, _, _⟩ := wit_ex hB (wk_part hi) hd q
  exact h ((hB.tgo_lt hB.few hB.all).2 ⟨ds, h1⟩)
/-- The blade whose tube at a station is cut to one bend. -/
def cutS (l : List St) (i : Nat) (b : Int) : List St := l.set i ⟨(nthS l i).ang, b + (nthS l i).ang, b + (nthS l i).ang, (nthS l i).hard⟩
theorem cut_ok {l : List St} {m : Int} (hB : OkB l m) {i : Nat} (hi : i < l.length) {b : Int} (hb : (tub (nthS l i)).lo ≤ b ∧ b ≤ (tub (nthS l i)).hi) : OkB (cutS l i b) m := by
  refine ⟨by unfold cutS; rw [List.length_set]; exact hB.one, by unfold cutS; rw [List.length_set]; exact hB.few, fun s hs => ?_, hB.lo, hB.hi⟩
  rcases List.mem_or_eq_of_mem_set hs with h | rfl
  · exact hB.all s h
  · have := okS_at hB.all hi
    rw [okSB_iff]
    simp only [tub] at hb
    simp only
    omega
theorem cut_wd {l : List St} {i : Nat} (hi : i < l.length) {b : Int} (hb : (tub (nthS l i)).lo ≤ b ∧ b ≤ (tub (nthS l i)).hi) : Wd (cutS l i b) l := by
  have h := Wd.set (l := cutS l i b) i (nthS l i) (fun s hs => by
    unfold cutS at hs
    rw [List.getElem?_set_self hi] at hs
    injection hs with hs
    subst hs
    refine ⟨?_, ?_, Int.le_refl _⟩
    · show _ ≤ b + (nthS l i).ang - (nthS l i).ang
      have := hb.1; simp only [tub] at this ⊢; omega
    · show b + (nthS l i).ang - (nthS l i).ang ≤ _
      have := hb.2; simp only [tub] at this ⊢; omega)
  unfold cutS at h ⊢
  rw [List.set_set, nthS_eq hi, List.set_getElem_self] at h
  rw [nthS_eq hi]
  exact h
theorem cut_fe {l : List St} {m : Int} {i : Nat} (hi : i < l.length) {b : Int} (hb : (tub (nthS l i)).lo ≤ b ∧ b ≤ (tub (nthS l i)).hi) : (∃ ds, Fe m (cutS l i b) 0 ds) ↔ Thru m l i b := by
  have hs : cutS l i b = l.take i ++ ⟨(nthS l i).ang, b + (nthS l i).ang, b + (nthS l i).ang, (nthS l i).hard⟩ :: l.drop (i + 1) := by unfold cutS; rw [List.set_eq_take_append_cons_drop, if_pos hi]
  have ht : l.take (i + 1) = l.take i ++ [nthS l i] := by rw [List.take_succ]; simp [nthS, hi]
  constructor
  · rintro ⟨ds, h⟩
    rw [hs] at h
    obtain ⟨a, c, -, h1, h2⟩ := h.cut
    cases c with
    | nil => exact h2.elim
    | cons d c =>
      obtain ⟨k1, k2, k3⟩ := h2
      have e : endB 0 a + d = b := by simp only [tub] at k2; omega
      rw [e] at k3
      refine ⟨a ++ [d], c, ?_, by rw [endB_snoc]; exact e, k3⟩
      rw [ht]
      exact (Fe.app h1).2 ⟨k1, by rw [e]; exact hb, trivial⟩
  · rintro ⟨a, c, h1, h2, h3⟩
    rw [ht] at h1
    obtain ⟨a', d, rfl, k1, k2⟩ := h1.cut
    cases d with
    | nil => exact k2.elim
    | cons d r =>
      cases r with
      | cons _ _ => exact k2.2.2.elim
      | nil =>
        rw [endB_snoc] at h2
        refine ⟨a' ++ d :: c, ?_⟩
        rw [hs]
        refine (Fe.app k1).2 ⟨k2.1, ?_, by rw [h2]; exact h3⟩
        simp only [tub]
        omega
/-- A blade cut to a bend is made straight just if some blows bend so; it costs no less. -/
theorem cut_best {l : List St} {m : Int} (hB : OkB l m) {i : Nat} (hi : i < l.length) {b : Int} (hb : (tub (nthS l i)).lo ≤ b ∧ b ≤ (tub (nthS l i)).hi) : (tgo m (cutS l i b) 0 < never ↔ Thru m l i b) ∧ (tgo m (cutS l i b) 0 < never → tgo m l 0 ≤ tgo m (cutS l i b) 0) := by
  have hC := cut_ok hB hi hb
  exact ⟨by rw [hC.tgo_lt hC.few hC.all]; exact cut_fe hi hb, fun h => (cut_wd hi hb).tgo hC (Int.le_refl _) h⟩
theorem inB_in {lo hi n : Int} (h : lo ≤ n ∧ n ≤ hi) : inB lo hi n = true := by unfold inB; rw [decide_eq_true h.1, decide_eq_true h.2]; rfl
theorem lst_yes {l : List St} {m : Int} (hB : OkB l m) {i : Nat} (hi : i < l.length) {d : Int} (hd : -m ≤ d ∧ d ≤ m) (h : witK m l i d < never) : lstE l m i d = 0 ∧ lstV l m i d = witK m l i d := by
  have := lst_ok (atE_k hB hi) (inB_in hd) (by rw [Int.toNat_natCast]; exact h)
  rwa [Int.toNat_natCast] at this
theorem lst_none {l : List St} {m : Int} (hB : OkB l m) {i : Nat} (hi : i < l.length) {d : Int} (hd : -m ≤ d ∧ d ≤ m) (h : ¬ witK m l i d < never) : lstE l m i d = 18 ∧ lstV l m i d = 0 :=
  lst_no (atE_k hB hi) (inB_in hd) (by rw [Int.toNat_natCast]; exact h)
/-- What Best, Span, Bends and Least say of a valid blade. -/
theorem between {l : List St} {m : Int} (hB : OkB l m) {i : Nat} (hi : i < l.length) {d : Int} (hd : -m ≤ d ∧ d ≤ m) : ∃ c0 e0 sa sb lo hi' v e1, bstE l m = (c0, e0) ∧ spnL l m i = (sa, sb, e0) ∧ bdsL l m i = (lo, hi', e0) ∧ lstE l m i d = e1 ∧ lstV l m i d = v ∧
    ((e0 = 18 ∧ e1 = 18) ∨ (e0 = 0 ∧ (sa ≤ sb ∧ -m ≤ sa ∧ sb ≤ m) ∧ lo ≤ hi' ∧ (∀ f, Thru m l i f ↔ lo ≤ f ∧ f ≤ hi') ∧ c0 = tgo m l 0 ∧
      ((e1 = 18 ∧ d < sa) ∨ (e1 = 18 ∧ sb < d) ∨ (e1 = 0 ∧ c0 ≤ v ∧ d < sa ∧ v ≠ c0 ∧ ∃ v', lstE l m i (d + 1) = 0 ∧ lstV l m i (d + 1) = v' ∧ v' ≤ v) ∨
        (e1 = 0 ∧ c0 ≤ v ∧ sb < d ∧ v ≠ c0 ∧ ∃ v', lstE l m i (d - 1) = 0 ∧ lstV l m i (d - 1) = v' ∧ v' ≤ v) ∨ (e1 = 0 ∧ sa ≤ d ∧ d ≤ sb ∧ v = c0)))) := by
  by_cases h : tgo m l 0 < never
  · obtain ⟨lo, hi', b1, b2, -, b4⟩ := bds_yes hB hi h
    obtain ⟨sa, sb, s1, s2, s3, s4⟩ := spn_all hB hi h
    have wa := (s4 sa ⟨by omega, by omega⟩).2 ⟨Int.le_refl _, s2⟩
    have wb := (s4 sb ⟨by omega, by omega⟩).2 ⟨s2, Int.le_refl _⟩
    refine ⟨tgo m l 0, 0, sa, sb, lo, hi', _, _, bst_yes (blaE_ok.2 hB) h, s1, b1, rfl, rfl, .inr ⟨rfl, ⟨s2, s3⟩, b2, b4, rfl, ?_⟩⟩
    have s5 := s4 d hd
    by_cases hw : witK m l i d < never
    · obtain ⟨q1, q2⟩ := lst_yes hB hi hd hw
      have hg := witK_ge hB hi hd hw
      rw [q1, q2]
      by_cases h1 : d < sa
      · have n1 := near_up hB hi ⟨by omega, by omega⟩ wa hd h1 hw
        obtain ⟨r1, r2⟩ := lst_yes hB hi (d := d + 1) ⟨by omega, by omega⟩ (by omega)
        exact .inr (.inr (.inl ⟨rfl, hg, h1, fun e => by have := s5.1 e; omega, _, r1, r2, n1⟩))
      · by_cases h2 : sb < d
        · have n1 := near_dn hB hi ⟨by omega, by omega⟩ wb hd h2 hw
          obtain ⟨r1, r2⟩ := lst_yes hB hi (d := d - 1) ⟨by omega, by omega⟩ (by omega)
          exact .inr (.inr (.inr (.inl ⟨rfl, hg, h2, fun e => by have := s5.1 e; omega, _, r1, r2, n1⟩)))
        · exact .inr (.inr (.inr (.inr ⟨rfl, by omega, by omega, s5.2 ⟨by omega, by omega⟩⟩)))
    · obtain ⟨q1, q2⟩ := lst_none hB hi hd hw
      rw [q1, q2]
      by_cases h1 : d < sa
      · exact .inl ⟨rfl, h1⟩
      · by_cases h2 : sb < d
        · exact .inr (.inl ⟨rfl, h2⟩)
        · exact absurd (by rw [s5.2 ⟨by omega, by omega⟩]; exact h) hw
  · have hw := witK_no hB hi hd h
    obtain ⟨q1, q2⟩ := lst_none hB hi hd hw
    exact ⟨0, 18, 0, 0, 0, 0, _, _, (bst_no (blaE_ok.2 hB) h).1, spn_no hB hi h, bds_no hB hi h, rfl, rfl, .inl ⟨rfl, q1⟩⟩
/-- What Best says of the blade cut to a bend. -/
theorem cut_bst {l : List St} {m : Int} (hB : OkB l m) {i : Nat} (hi : i < l.length) {b lo hi' c0 : Int} (hb : (tub (nthS l i)).lo ≤ b ∧ b ≤ (tub (nthS l i)).hi) (ht : ∀ f, Thru m l i f ↔ lo ≤ f ∧ f ≤ hi') (hc : c0 = tgo m l 0) :
    (¬ (lo ≤ b ∧ b ≤ hi') → bstE (cutS l i b) m = (0, 18)) ∧ (lo ≤ b ∧ b ≤ hi' → ∃ c, bstE (cutS l i b) m = (c, 0) ∧ c0 ≤ c) := by
  obtain ⟨q1, q2⟩ := cut_best hB hi hb
  have hC := cut_ok hB hi hb
  constructor
  · intro h
    exact (bst_no (blaE_ok.2 hC) (fun q => h ((ht b).1 (q1.1 q)))).1
  · intro h
    have h2 := q1.2 ((ht b).2 h)
    exact ⟨_, bst_yes (blaE_ok.2 hC) h2, by rw [hc]; exact q2 h2⟩
end Go.Proofs.Ytgbegdjakadbbaa

set_option linter.all false
namespace Go.Proofs.Ytgbegdjakadbbaa
open Go.RowKit Vp

set_option maxHeartbeats 64000000 in
set_option maxRecDepth 100000 in
theorem warpBetween_any (l : List St) (vs : Value) (m : Int) (x2 : Nat) (z1 : Int) (x1 : Nat) (w : World) (hT : RT w w.heap.size vs l) (hlM : l.length ≤ maxLen) (hmI : okI m) (h2 : x2 ≤ 255) (hz : -32768 ≤ z1 ∧ z1 ≤ 32767) (h1 : x1 ≤ 65535) :
    Calls Try.prog 9 #[bV vs m, .int .u8 x2, .int .i16 z1, .int .u16 x1] w fun x w' => x = .returned (.bool true) ∧ Below w.heap.size w w' := by
  unfold bV
  obtain ⟨b, off, cap, A, rfl, -, hcap⟩ := hT.slice
  obtain ⟨n0, hn0⟩ : ∃ n, w.heap.size = n := ⟨_, rfl⟩
  have hC : Below n0 w w := Below.refl _ _
  go_enter Try.func9, Try.ntmps9
  have H0 := Lib.hid (show RT w n0 (.slice A l.length cap) l by rw [← hn0]; exact hT)
  go_upto_region 1 with fail
  have hqbx : n0 ≤ n0 := by have := hC.size; omega
  have bx : BK (w.alloc (.cells #[.slice A l.length cap, .int .i64 m] 24)) (n0) #[.slice A l.length cap, .int .i64 m] 24 := BK.new' _ _ _ (n0) hn0
  have hsbx : (w.alloc (.cells #[.slice A l.length cap, .int .i64 m] 24)).heap.size = n0 + 1 := by simp [hn0]
  replace hC : Below n0 w (w.alloc (.cells #[.slice A l.length cap, .int .i64 m] 24)) := Below.alloc hC (by have := hC.size; omega) _
  replace hT := (RS.below hT (w' := (w.alloc (.cells #[.slice A l.length cap, .int .i64 m] 24))) (Below.alloc (Below.refl _ _) (Nat.le_refl _) _)).more (B' := (w.alloc (.cells #[.slice A l.length cap, .int .i64 m] 24)).heap.size) (by simp)
  generalize (w.alloc (.cells #[.slice A l.length cap, .int .i64 m] 24)) = Wbx at *
  clear hsbx
  have lbx := bx.lt
  have bxc0 := bx.cell 0
  have bxc1 := bx.cell 1
  simp at bxc0 bxc1
  go_wp2_with fail
  clear lbx bxc0 bxc1
  refine (fine_any l _ m _ hlM hT).mono ?_
  rintro e w1 ⟨rfl, hb⟩
  replace hC : Below n0 w w1 := hC.trans (hb.mono (by have := hC.size; omega))
  replace hT := (RS.below hT hb).more hb.size
  replace bx := bx.below hb bx.lt
  clear hb
  obtain ⟨q, hq⟩ : ∃ q, fineB l m = q := ⟨_, rfl⟩
  rw [hq]
  cases q
  case false =>
    clear hq
    go_wp2_with fail
    refine (works_any _).mono ?_
    rintro e w2 ⟨rfl, hb⟩
    replace hC : Below n0 w w2 := hC.trans (hb.mono (by have := hC.size; omega))
    replace hT := (RS.below hT hb).more hb.size
    replace bx := bx.below hb bx.lt
    clear hb
    go_wp2_with fail
    exact bodyPost_ret (v := .bool true) (by simp [results, Try.results9, go_sem]) rfl ⟨rfl, by first | exact hC | (rw [hn0]; exact hC) | (with_reducible rw [hn0]; exact bel_of) | exact bel_of⟩
  have HBE := Lib.hid (fineB_bla hq)
  have HOK := Lib.hid (fineB_ok hq)
  have hm0 := HOK.out.lo
  have hm1 := HOK.out.hi
  have h20 := HOK.out.few
  have hlk : l.length ≤ 1000 := by omega
  clear hq
  simp only [Bool.not_true]
  have hn1 := HOK.out.one
  obtain ⟨i, hi⟩ : ∃ i : Nat, x2 % l.length = i := ⟨_, rfl⟩
  have hi2 : i < l.length := by rw [← hi]; exact Nat.mod_lt _ (by omega)
  have wc2 : IntKind.i64.wrap (x2 : Int) = x2 := by rw [IntKind.wrap_i64]; omega
  have nz2 : l ≠ [] := by intro q; rw [q] at hn1; simp at hn1
  have t1 : (x2 : Int).tmod (l.length : Int) = (i : Int) := by rw [Int.tmod_eq_emod_of_nonneg (by omega), ← Int.natCast_emod, hi]
  have wi : IntKind.i64.wrap (i : Int) = i := by rw [IntKind.wrap_i64]; omega
  have wn : IntKind.i64.wrap (-m) = -m := by rw [IntKind.wrap_i64]; omega
  have wz : IntKind.i64.wrap z1 = z1 := by rw [IntKind.wrap_i64]; omega
  obtain ⟨y, hy⟩ : ∃ y, (if z1 < m then z1 else m) = y := ⟨_, rfl⟩
  obtain ⟨d, hd⟩ : ∃ e, (if -m < y then y else -m) = e := ⟨_, rfl⟩
  have hdr : -m ≤ d ∧ d ≤ m := by rw [← hd, ← hy]; split <;> split <;> omega
  have HI := Lib.hid hi2
  have HDR := Lib.hid hdr
  have H1 := Lib.hid h1
  clear hi hdr h1 h2 hz
  have lbx := bx.lt
  have bxc0 := bx.cell 0
  have bxc1 := bx.cell 1
  simp at bxc0 bxc1
  go_upto_region 5 with fail
  clear lbx bxc0 bxc1
  clear wc2 nz2 t1 wi wz hy hd hi2
  obtain ⟨c0, e0, sa, sb, lo, hi', v, e1, hb1, hs1, hd1, hl1, hl2, hcase⟩ := between HOK.out HI.out HDR.out
  have HB1 := Lib.hid hb1
  have HS1 := Lib.hid hs1
  have HD1 := Lib.hid hd1
  have HL1 := Lib.hid hl1
  have HL2 := Lib.hid hl2
  have HCA := Lib.hid hcase
  clear hb1 hs1 hd1 hl1 hl2 hcase
  have lbx := bx.lt
  have bxc0 := bx.cell 0
  have bxc1 := bx.cell 1
  simp at bxc0 bxc1
  go_wp2_with fail
  clear lbx bxc0 bxc1
  refine (Best_any l _ m _ hlk hT).mono ?_
  rintro e w2 ⟨u_a, rfl, hown, hb⟩
  replace hC : Below n0 w w2 := hC.trans (hb.mono (by have := hC.size; omega))
  replace hT := (RS.below hT hb).more hb.size
  replace bx := bx.below hb bx.lt
  clear hb
  rw [HB1.out]
  clear hown
  have lbx := bx.lt
  have bxc0 := bx.cell 0
  have bxc1 := bx.cell 1
  simp at bxc0 bxc1
  go_wp2_with fail
  clear lbx bxc0 bxc1
  refine (Span_any l _ m _ _ hlk hT).mono ?_
  rintro e w3 ⟨rfl, hb⟩
  replace hC : Below n0 w w3 := hC.trans (hb.mono (by have := hC.size; omega))
  replace hT := (RS.below hT hb).more hb.size
  replace bx := bx.below hb bx.lt
  clear hb
  rw [HS1.out]
  have lbx := bx.lt
  have bxc0 := bx.cell 0
  have bxc1 := bx.cell 1
  simp at bxc0 bxc1
  go_upto_region 7 with fail
  clear lbx bxc0 bxc1
  obtain ⟨m1, hm1⟩ : ∃ n, w3.heap.size = n := ⟨_, rfl⟩
  try rw [hm1]
  have hqsp : n0 ≤ m1 := by have := hC.size; omega
  have sp : BK (w3.alloc (.cells #[.int .i64 sa, .int .i64 sb] 42)) (m1) #[.int .i64 sa, .int .i64 sb] 42 := BK.new' _ _ _ (m1) hm1
  have hssp : (w3.alloc (.cells #[.int .i64 sa, .int .i64 sb] 42)).heap.size = m1 + 1 := by simp [hm1]
  replace hC : Below n0 w (w3.alloc (.cells #[.int .i64 sa, .int .i64 sb] 42)) := Below.alloc hC (by have := hC.size; omega) _
  replace hT := (RS.below hT (w' := (w3.alloc (.cells #[.int .i64 sa, .int .i64 sb] 42))) (Below.alloc (Below.refl _ _) (Nat.le_refl _) _)).more (B' := (w3.alloc (.cells #[.int .i64 sa, .int .i64 sb] 42)).heap.size) (by simp)
  replace bx := bx.alloc (.cells #[.int .i64 sa, .int .i64 sb] 42)
  generalize (w3.alloc (.cells #[.int .i64 sa, .int .i64 sb] 42)) = Wsp at *
  clear hm1
  clear hssp
  have lbx := bx.lt
  have bxc0 := bx.cell 0
  have bxc1 := bx.cell 1
  simp at bxc0 bxc1
  have lsp := sp.lt
  have spc0 := sp.cell 0
  have spc1 := sp.cell 1
  simp at spc0 spc1
  go_wp2_with fail
  clear lbx bxc0 bxc1
  clear lsp spc0 spc1
  refine (Bends_any l _ m _ _ hlk hT).mono ?_
  rintro e w4 ⟨rfl, hb⟩
  replace hC : Below n0 w w4 := hC.trans (hb.mono (by have := hC.size; omega))
  replace hT := (RS.below hT hb).more hb.size
  replace bx := bx.below hb bx.lt
  replace sp := sp.below hb sp.lt
  clear hb
  rw [HD1.out]
  have lbx := bx.lt
  have bxc0 := bx.cell 0
  have bxc1 := bx.cell 1
  simp at bxc0 bxc1
  have lsp := sp.lt
  have spc0 := sp.cell 0
  have spc1 := sp.cell 1
  simp at spc0 spc1
  go_upto_region 8 with fail
  clear lbx bxc0 bxc1
  clear lsp spc0 spc1
  obtain ⟨m2, hm2⟩ : ∃ n, w4.heap.size = n := ⟨_, rfl⟩
  try rw [hm2]
  have hqbd : n0 ≤ m2 := by have := hC.size; omega
  have bd : BK (w4.alloc (.cells #[.int .i64 lo, .int .i64 hi'] 42)) (m2) #[.int .i64 lo, .int .i64 hi'] 42 := BK.new' _ _ _ (m2) hm2
  have hsbd : (w4.alloc (.cells #[.int .i64 lo, .int .i64 hi'] 42)).heap.size = m2 + 1 := by simp [hm2]
  replace hC : Below n0 w (w4.alloc (.cells #[.int .i64 lo, .int .i64 hi'] 42)) := Below.alloc hC (by have := hC.size; omega) _
  replace hT := (RS.below hT (w' := (w4.alloc (.cells #[.int .i64 lo, .int .i64 hi'] 42))) (Below.alloc (Below.refl _ _) (Nat.le_refl _) _)).more (B' := (w4.alloc (.cells #[.int .i64 lo, .int .i64 hi'] 42)).heap.size) (by simp)
  replace bx := bx.alloc (.cells #[.int .i64 lo, .int .i64 hi'] 42)
  replace sp := sp.alloc (.cells #[.int .i64 lo, .int .i64 hi'] 42)
  generalize (w4.alloc (.cells #[.int .i64 lo, .int .i64 hi'] 42)) = Wbd at *
  clear hm2
  clear hsbd
  have lbx := bx.lt
  have bxc0 := bx.cell 0
  have bxc1 := bx.cell 1
  simp at bxc0 bxc1
  have lsp := sp.lt
  have spc0 := sp.cell 0
  have spc1 := sp.cell 1
  simp at spc0 spc1
  have lbd := bd.lt
  have bdc0 := bd.cell 0
  have bdc1 := bd.cell 1
  simp at bdc0 bdc1
  go_wp2_with fail
  clear lbx bxc0 bxc1
  clear lsp spc0 spc1
  clear lbd bdc0 bdc1
  refine (Least_any l _ m _ d _ hlk hT).mono ?_
  rintro e w5 ⟨rfl, hb⟩
  replace hC : Below n0 w w5 := hC.trans (hb.mono (by have := hC.size; omega))
  replace hT := (RS.below hT hb).more hb.size
  replace bx := bx.below hb bx.lt
  replace sp := sp.below hb sp.lt
  replace bd := bd.below hb bd.lt
  clear hb
  rw [HL1.out, HL2.out]
  have hca := HCA.out
  clear HCA
  rcases hca with ⟨rfl, rfl⟩ | ⟨rfl, hsp, hlh, hth, hc0, hcase⟩
  ·skip
   have lbx := bx.lt
   have bxc0 := bx.cell 0
   have bxc1 := bx.cell 1
   simp at bxc0 bxc1
   have lsp := sp.lt
   have spc0 := sp.cell 0
   have spc1 := sp.cell 1
   simp at spc0 spc1
   have lbd := bd.lt
   have bdc0 := bd.cell 0
   have bdc1 := bd.cell 1
   simp at bdc0 bdc1
   go_wp2_with fail
   clear lbx bxc0 bxc1
   clear lsp spc0 spc1
   clear lbd bdc0 bdc1
   refine (works_any _).mono ?_
   rintro e w6 ⟨rfl, hb⟩
   replace hC : Below n0 w w6 := hC.trans (hb.mono (by have := hC.size; omega))
   replace hT := (RS.below hT hb).more hb.size
   replace bx := bx.below hb bx.lt
   replace sp := sp.below hb sp.lt
   replace bd := bd.below hb bd.lt
   clear hb
   go_wp2_with fail
   exact bodyPost_ret (v := .bool true) (by simp [results, Try.results9, go_sem]) rfl ⟨rfl, by first | exact hC | (rw [hn0]; exact hC) | (with_reducible rw [hn0]; exact bel_of) | exact bel_of⟩
  have HTH := Lib.hid hth
  have HC0 := Lib.hid hc0
  obtain ⟨hsab, hma, hbm⟩ := hsp
  have k1 : ¬ sa > sb := by omega
  have k2 : ¬ sa < -m := by omega
  have k3 : ¬ sb > m := by omega
  have k4 : ¬ lo > hi' := by omega
  clear hth hc0 hsab hma hbm hlh
  rcases hcase with ⟨rfl, hda⟩ | ⟨rfl, hdb⟩ | ⟨rfl, hcv, hda, hvc, v', hv1, hv2, hv3⟩ | ⟨rfl, hcv, hdb, hvc, v', hv1, hv2, hv3⟩ | ⟨rfl, hda, hdb, rfl⟩
  ·skip
   have j1 : ¬ d ≥ sa := by omega
   have j2 : ¬ d > sb := by omega
   have lbx := bx.lt
   have bxc0 := bx.cell 0
   have bxc1 := bx.cell 1
   simp at bxc0 bxc1
   have lsp := sp.lt
   have spc0 := sp.cell 0
   have spc1 := sp.cell 1
   simp at spc0 spc1
   have lbd := bd.lt
   have bdc0 := bd.cell 0
   have bdc1 := bd.cell 1
   simp at bdc0 bdc1
   go_wp2_with fail
   clear lbx bxc0 bxc1
   clear lsp spc0 spc1
   clear lbd bdc0 bdc1
   clear wn
   refine (tube_any l _ m _ _ HOK.out.all h20 (by have := HI.out; omega) hT).mono ?_
   rintro e w6 ⟨rfl, hb⟩
   replace hC : Below n0 w w6 := hC.trans (hb.mono (by have := hC.size; omega))
   replace hT := (RS.below hT hb).more hb.size
   replace bx := bx.below hb bx.lt
   replace sp := sp.below hb sp.lt
   replace bd := bd.below hb bd.lt
   clear hb
   rw [show tubR l (i : Int) = tub (nthS l i) by unfold tubR; rw [if_neg (by omega), Int.toNat_natCast]]
   obtain ⟨t, ht⟩ : ∃ t, tub (nthS l i) = t := ⟨_, rfl⟩
   rw [ht]
   have HT2 := Lib.hid ht
   have trg := tub_rng (HOK.out.all _ (nthS_mem HI.out))
   rw [ht] at trg
   clear ht
   unfold rV
   have lbx := bx.lt
   have bxc0 := bx.cell 0
   have bxc1 := bx.cell 1
   simp at bxc0 bxc1
   have lsp := sp.lt
   have spc0 := sp.cell 0
   have spc1 := sp.cell 1
   simp at spc0 spc1
   have lbd := bd.lt
   have bdc0 := bd.cell 0
   have bdc1 := bd.cell 1
   simp at bdc0 bdc1
   go_upto_region 24 with fail
   clear lbx bxc0 bxc1
   clear lsp spc0 spc1
   clear lbd bdc0 bdc1
   obtain ⟨m3, hm3⟩ : ∃ n, w6.heap.size = n := ⟨_, rfl⟩
   try rw [hm3]
   have hqtt : n0 ≤ m3 := by have := hC.size; omega
   have tt : BK (w6.alloc (.cells #[.int .i64 t.lo, .int .i64 t.hi] 42)) (m3) #[.int .i64 t.lo, .int .i64 t.hi] 42 := BK.new' _ _ _ (m3) hm3
   have hstt : (w6.alloc (.cells #[.int .i64 t.lo, .int .i64 t.hi] 42)).heap.size = m3 + 1 := by simp [hm3]
   replace hC : Below n0 w (w6.alloc (.cells #[.int .i64 t.lo, .int .i64 t.hi] 42)) := Below.alloc hC (by have := hC.size; omega) _
   replace hT := (RS.below hT (w' := (w6.alloc (.cells #[.int .i64 t.lo, .int .i64 t.hi] 42))) (Below.alloc (Below.refl _ _) (Nat.le_refl _) _)).more (B' := (w6.alloc (.cells #[.int .i64 t.lo, .int .i64 t.hi] 42)).heap.size) (by simp)
   replace bx := bx.alloc (.cells #[.int .i64 t.lo, .int .i64 t.hi] 42)
   replace sp := sp.alloc (.cells #[.int .i64 t.lo, .int .i64 t.hi] 42)
   replace bd := bd.alloc (.cells #[.int .i64 t.lo, .int .i64 t.hi] 42)
   generalize (w6.alloc (.cells #[.int .i64 t.lo, .int .i64 t.hi] 42)) = Wtt at *
   clear hm3
   clear hstt
   have h1 := H1.out
   obtain ⟨r, hr⟩ : ∃ r, (x1 : Int) % (t.hi - t.lo + 1) = r := ⟨_, rfl⟩
   have hr0 : 0 ≤ r ∧ r < t.hi - t.lo + 1 := by rw [← hr]; exact ⟨Int.emod_nonneg _ (by omega), Int.emod_lt_of_pos _ (by omega)⟩
   obtain ⟨b, hb⟩ : ∃ b, t.lo + r = b := ⟨_, rfl⟩
   have wx : IntKind.i64.wrap (x1 : Int) = x1 := by rw [IntKind.wrap_i64]; omega
   have wd1 : IntKind.i64.wrap (t.hi - t.lo) = t.hi - t.lo := by rw [IntKind.wrap_i64]; omega
   have wd2 : IntKind.i64.wrap (t.hi - t.lo + 1) = t.hi - t.lo + 1 := by rw [IntKind.wrap_i64]; omega
   have nz : t.hi - t.lo + 1 ≠ 0 := by omega
   have t2 : (x1 : Int).tmod (t.hi - t.lo + 1) = r := by rw [Int.tmod_eq_emod_of_nonneg (by omega), hr]
   have wr : IntKind.i64.wrap r = r := by rw [IntKind.wrap_i64]; omega
   have wb : IntKind.i64.wrap (t.lo + r) = b := by rw [hb, IntKind.wrap_i64]; omega
   have hbr : t.lo ≤ b ∧ b ≤ t.hi := by omega
   clear hr hr0 hb h1
   have lbx := bx.lt
   have bxc0 := bx.cell 0
   have bxc1 := bx.cell 1
   simp at bxc0 bxc1
   have lsp := sp.lt
   have spc0 := sp.cell 0
   have spc1 := sp.cell 1
   simp at spc0 spc1
   have lbd := bd.lt
   have bdc0 := bd.cell 0
   have bdc1 := bd.cell 1
   simp at bdc0 bdc1
   have ltt := tt.lt
   have ttc0 := tt.cell 0
   have ttc1 := tt.cell 1
   simp at ttc0 ttc1
   refine wp_region_noPanic (plain_any [0, 1, 2, 3, 4, 5, 6, 7, 8, 9, 10, 11, 12] (Below Wtt.heap.size Wtt) mixed ?_)
   refine any_tk 0 ?_
   have d0z : Below Wtt.heap.size Wtt Wtt.drew := by exact bel_of
   refine any_tk 1 ?_
   refine any_tk 2 ?_
   refine any_tk 3 ?_
   refine any_tk 4 ?_
   refine any_tk 5 ?_
   refine any_tk 6 ?_
   refine any_tk 7 ?_
   refine any_tk 8 ?_
   refine any_tk 9 ?_
   refine any_tk 10 ?_
   refine any_tk 11 ?_
   refine any_tk 12 ?_
   refine any_done (by kernel_rfl) (NoPanic.normal ?_)
   have hb := d0z
   replace hC : Below n0 w Wtt.drew := hC.trans (hb.mono (by have := hC.size; omega))
   replace hT := (RS.below hT hb).more hb.size
   replace bx := bx.below hb bx.lt
   replace sp := sp.below hb sp.lt
   replace bd := bd.below hb bd.lt
   replace tt := tt.below hb tt.lt
   clear hb
   clear lbx bxc0 bxc1
   clear lsp spc0 spc1
   clear lbd bdc0 bdc1
   clear ltt ttc0 ttc1
   generalize Wtt.drew = Wdr at *
   clear wx wd1 wd2 nz t2 wr wb trg
   rw [← HT2.out] at hbr
   have hcb := cut_bst HOK.out HI.out hbr HTH.out HC0.out
   have HCB := Lib.hid hcb
   have hos := okS_at HOK.out.all HI.out
   obtain ⟨C, hCut⟩ : ∃ C, cutS l i b = C := ⟨_, rfl⟩
   have HCU := Lib.hid hCut
   have HCl := Lib.hid (show C.length = l.length by rw [← hCut]; unfold cutS; rw [List.length_set])
   obtain ⟨⟨a, glo, ghi, hd⟩, hss⟩ : ∃ s, nthS l i = s := ⟨_, rfl⟩
   have hba : -10000 ≤ b + a ∧ b + a ≤ 10000 := by rw [hss] at hbr hos; simp only [tub] at hbr; dsimp only at hos; omega
   have HSS := Lib.hid hss
   clear hcb hCut hos hss hbr HT2
   have lbx := bx.lt
   have bxc0 := bx.cell 0
   have bxc1 := bx.cell 1
   simp at bxc0 bxc1
   have lsp := sp.lt
   have spc0 := sp.cell 0
   have spc1 := sp.cell 1
   simp at spc0 spc1
   have lbd := bd.lt
   have bdc0 := bd.cell 0
   have bdc1 := bd.cell 1
   simp at bdc0 bdc1
   have ltt := tt.lt
   have ttc0 := tt.cell 0
   have ttc1 := tt.cell 1
   simp at ttc0 ttc1
   go_upto_region 26 with fail
   clear lbx bxc0 bxc1
   clear lsp spc0 spc1
   clear lbd bdc0 bdc1
   clear ltt ttc0 ttc1
   have lbn := bx.lt
   have lsn := sp.lt
   have ldn := bd.lt
   have ltn := tt.lt
   obtain ⟨mc, hmc⟩ : ∃ n, Wdr.heap.size = n := ⟨_, rfl⟩
   try rw [hmc]
   rw [hmc] at lbn lsn ldn ltn
   have hqcx : n0 ≤ mc := by have := hC.size; omega
   have cx : BK (Wdr.alloc (.cells #[.slice A l.length cap, .int .i64 m] 24)) (mc) #[.slice A l.length cap, .int .i64 m] 24 := BK.new' _ _ _ (mc) hmc
   have hscx : (Wdr.alloc (.cells #[.slice A l.length cap, .int .i64 m] 24)).heap.size = mc + 1 := by simp [hmc]
   replace hC : Below n0 w (Wdr.alloc (.cells #[.slice A l.length cap, .int .i64 m] 24)) := Below.alloc hC (by have := hC.size; omega) _
   replace hT := (RS.below hT (w' := (Wdr.alloc (.cells #[.slice A l.length cap, .int .i64 m] 24))) (Below.alloc (Below.refl _ _) (Nat.le_refl _) _)).more (B' := (Wdr.alloc (.cells #[.slice A l.length cap, .int .i64 m] 24)).heap.size) (by simp)
   replace bx := bx.alloc (.cells #[.slice A l.length cap, .int .i64 m] 24)
   replace sp := sp.alloc (.cells #[.slice A l.length cap, .int .i64 m] 24)
   replace bd := bd.alloc (.cells #[.slice A l.length cap, .int .i64 m] 24)
   replace tt := tt.alloc (.cells #[.slice A l.length cap, .int .i64 m] 24)
   generalize (Wdr.alloc (.cells #[.slice A l.length cap, .int .i64 m] 24)) = Wcx at *
   clear hmc
   clear hscx
   have hsz0 := hC.size
   obtain ⟨ge, hge⟩ : ∃ n, Wcx.heap.size = n := ⟨_, rfl⟩
   have bE : BK (Wcx.alloc (.cells #[] 60)) ge #[] 60 := BK.new' _ _ _ ge hge
   have hCe : Below n0 w (Wcx.alloc (.cells #[] 60)) := Below.alloc hC (by omega) _
   have hbe : Below Wcx.heap.size Wcx (Wcx.alloc (.cells #[] 60)) := Below.alloc (Below.refl _ _) (Nat.le_refl _) _
   have lt0 : ∀ k cs t, BK Wcx k cs t → k ≠ ge := fun k cs t hk => by have := hk.lt; omega
   obtain ⟨gq, cq, w9q, hrun, hown, hbel, hsz9, hkeep, hat⟩ := copy_st (base := n0) bE (by omega) (RS.more (RS.below hT hbe) hbe.size) (by omega) (by omega) (by have := hCe.size; omega)
   have hC9 := hbel _ hCe
   rw [← hge] at hrun
   have HRUN := Lib.hid hrun
   have HOW := Lib.hid hown
   have bx9 := hkeep _ _ _ (bx.below hbe bx.lt) (lt0 _ _ _ bx)
   have sp9 := hkeep _ _ _ (sp.below hbe sp.lt) (lt0 _ _ _ sp)
   have bd9 := hkeep _ _ _ (bd.below hbe bd.lt) (lt0 _ _ _ bd)
   have tt9 := hkeep _ _ _ (tt.below hbe tt.lt) (lt0 _ _ _ tt)
   have cx9 := hkeep _ _ _ (cx.below hbe cx.lt) (lt0 _ _ _ cx)
   have lcx9 := cx9.lt
   have cx9c0 := cx9.cell 0
   have cx9c1 := cx9.cell 1
   simp at cx9c0 cx9c1
   have cx9f0 := cx9.frozen 0
   have cx9f1 := cx9.frozen 1
   have lbx := bx.lt
   have bxc0 := bx.cell 0
   have bxc1 := bx.cell 1
   simp at bxc0 bxc1
   clear hrun hown hbel hsz9 hkeep hat bE lt0 hsz0 hge
   go_wp2_with (at_builtin; refine wpList_append_run rfl (.tmp 223) (.tmp 225) 22 _ rfl HRUN.out ?_)
   clear lcx9 cx9c0 cx9c1
   clear lbx bxc0 bxc1
   clear cx9f0 cx9f1
   have cxA := cx9.set 0 (.slice (some ⟨gq, 0, none⟩) l.length cq)
   simp at cxA
   have hownA := own_set (i := 0) (u := (.slice (some ⟨gq, 0, none⟩) l.length cq)) HOW.out cx9 (by decide)
   have hCA : Below n0 w (w9q.setCell ⟨mc, 0, none⟩ (.slice (some ⟨gq, 0, none⟩) l.length cq)) := Below.setCell hC9 (by show n0 ≤ mc; omega) _
   have bxA := bx9.far (p := ⟨mc, 0, none⟩) (by show n0 ≠ mc; omega) (.slice (some ⟨gq, 0, none⟩) l.length cq)
   have spA := sp9.far (p := ⟨mc, 0, none⟩) (by show m1 ≠ mc; omega) (.slice (some ⟨gq, 0, none⟩) l.length cq)
   have bdA := bd9.far (p := ⟨mc, 0, none⟩) (by show m2 ≠ mc; omega) (.slice (some ⟨gq, 0, none⟩) l.length cq)
   have ttA := tt9.far (p := ⟨mc, 0, none⟩) (by show m3 ≠ mc; omega) (.slice (some ⟨gq, 0, none⟩) l.length cq)
   clear bx sp bd tt cx hC hT bx9 sp9 bd9 tt9 cx9 hC9 hCe hbe
   generalize (w9q.setCell ⟨mc, 0, none⟩ (.slice (some ⟨gq, 0, none⟩) l.length cq)) = X1 at *
   have bx := bxA
   have sp := spA
   have bd := bdA
   have tt := ttA
   have cx := cxA
   have hC := hCA
   have hT : RT X1 X1.heap.size (.slice A l.length cap) l := RS.more (RS.below H0.out hC) (by have := hC.size; omega)
   clear bxA spA bdA ttA cxA hCA
   have lbx := bx.lt
   have bxc0 := bx.cell 0
   have bxc1 := bx.cell 1
   simp at bxc0 bxc1
   have lcx := cx.lt
   have cxc0 := cx.cell 0
   have cxc1 := cx.cell 1
   simp at cxc0 cxc1
   obtain ⟨A', cap', b', off', hve, hA, hc⟩ := RT.cells hT
   obtain ⟨rfl, hbb⟩ := hA (by omega)
   injection hve with q1 q2 q3
   subst q1 q3
   have hd0 := (hc i HI.out).1
   rw [HSS.out] at hd0
   dsimp only at hd0
   have hi3 : (i : Int) < (l.length : Int) := by have := HI.out; omega
   have hi4 : i < l.length := HI.out
   have wba : IntKind.i64.wrap (b + a) = b + a := by rw [IntKind.wrap_i64]; omega
   have lgq := own_lt hownA
   clear hA hc q2
   refine wp_region_noPanic (plain_any [0, 1, 2, 3, 4, 5, 6, 7, 8, 9, 10, 11, 12, 13, 14, 15, 16, 17, 18, 20, 21] (Below X1.heap.size X1) mixed ?_)
   refine any_tk 0 ?_
   refine any_tk 1 ?_
   refine any_tk 2 ?_
   refine any_tk 3 ?_
   refine any_tk 4 ?_
   refine any_tk 5 ?_
   refine any_tk 6 ?_
   refine any_tk 7 ?_
   refine any_tk 8 ?_
   refine any_tk 9 ?_
   refine any_tk 10 ?_
   refine any_tk 11 ?_
   refine any_tk 12 ?_
   refine any_tk 13 ?_
   refine any_tk 14 ?_
   refine any_tk 15 ?_
   refine any_tk 16 ?_
   refine any_tk 17 ?_
   refine any_tk 18 ?_
   have hd0z : Below X1.heap.size X1 X1.drew := by exact bel_of
   refine any_run1 (i := 19) (by kernel_rfl) (by rfl) (by kernel_rfl) ?_
   intro K3 hK3
   go_wp2_with fail
   refine (rg_any (b + a) (b + a) _).mono ?_
   rintro e Vz ⟨rfl, hb1⟩
   have hb01 : Below X1.heap.size X1 Vz := hd0z.trans (hb1.mono hd0z.size)
   refine hK3 _ _ (fun _ => hb01) ?_
   clear hK3 K3 hb1
   refine any_tk 20 ?_
   refine any_tk 21 ?_
   have hown2 := own_below hownA hb01
   obtain ⟨z0, z1, z2, z3⟩ := encS_at HI.out
   have hrs := RS.of_own hown2
   obtain ⟨Aq, capq, bq, offq, hvq, hlq, hAq, hcq⟩ := hrs
   obtain ⟨hAq, -⟩ := hAq (by omega)
   injection hvq with q1 q2 q3
   rw [← q1] at hAq
   injection hAq with hAq
   injection hAq with hAq hAo
   subst hAq hAo
   have y1 := (hcq (i * 4 + 1) (by rw [hlq.1]; omega)).trans z1
   have y2 := (hcq (i * 4 + 2) (by rw [hlq.1]; omega)).trans z2
   rw [Nat.zero_add] at y1 y2
   have f1 := own_frozen hown2 (i * 4 + 1)
   have f2 := own_frozen hown2 (i * 4 + 2)
   have lgz : gq < Vz.heap.size := (own_lt hown2).2
   have hbx := bx.below hb01 bx.lt
   have hsp := sp.below hb01 sp.lt
   have hbd := bd.below hb01 bd.lt
   have hcx := cx.below hb01 cx.lt
   have hCz : Below n0 w Vz := hC.trans (hb01.mono (by have := hC.size; omega))
   have hput := put_rng (g := gq) hown2 HI.out (b + a) (b + a)
   rw [HSS.out] at hput
   have hCU := HCU.out
   unfold cutS at hCU
   rw [HSS.out] at hCU
   dsimp only at hCU hput
   rw [hCU] at hput
   clear z0 z1 z2 z3 hlq hcq q1 q2 q3 hCU bx sp bd cx tt hC hT
   refine any_run1 (i := 22) (by kernel_rfl) (by rfl) (by kernel_rfl) ?_
   intro K3 hK3
   go_wp2_with fail
   refine hK3 _ _ (fun hx => (Bool.false_ne_true (hx.symm.trans (by kernel_rfl))).elim) ?_
   clear hK3 K3
   refine any_done (by kernel_rfl) (NoPanic.normal ?_)
   clear y1 y2 f1 f2
   clear lbx bxc0 bxc1
   clear lcx cxc0 cxc1
   clear hbb hd0 wba
   have bx := BK.far (BK.far hbx (p := ⟨gq, i * 4 + 1, none⟩) (fun hq : _ = gq => by
     obtain ⟨cc, hcc⟩ := own_block hown2 (g := gq) rfl
     unfold BK at hbx
     rw [hq, hcc] at hbx
     injection hbx with hh
     injection hh with _ hh
     exact absurd hh (by decide)) (.int .i64 (b + a))) (p := ⟨gq, i * 4 + 2, none⟩) (fun hq : _ = gq => by
     obtain ⟨cc, hcc⟩ := own_block hown2 (g := gq) rfl
     unfold BK at hbx
     rw [hq, hcc] at hbx
     injection hbx with hh
     injection hh with _ hh
     exact absurd hh (by decide)) (.int .i64 (b + a))
   have sp := BK.far (BK.far hsp (p := ⟨gq, i * 4 + 1, none⟩) (fun hq : _ = gq => by
     obtain ⟨cc, hcc⟩ := own_block hown2 (g := gq) rfl
     unfold BK at hsp
     rw [hq, hcc] at hsp
     injection hsp with hh
     injection hh with _ hh
     exact absurd hh (by decide)) (.int .i64 (b + a))) (p := ⟨gq, i * 4 + 2, none⟩) (fun hq : _ = gq => by
     obtain ⟨cc, hcc⟩ := own_block hown2 (g := gq) rfl
     unfold BK at hsp
     rw [hq, hcc] at hsp
     injection hsp with hh
     injection hh with _ hh
     exact absurd hh (by decide)) (.int .i64 (b + a))
   have bd := BK.far (BK.far hbd (p := ⟨gq, i * 4 + 1, none⟩) (fun hq : _ = gq => by
     obtain ⟨cc, hcc⟩ := own_block hown2 (g := gq) rfl
     unfold BK at hbd
     rw [hq, hcc] at hbd
     injection hbd with hh
     injection hh with _ hh
     exact absurd hh (by decide)) (.int .i64 (b + a))) (p := ⟨gq, i * 4 + 2, none⟩) (fun hq : _ = gq => by
     obtain ⟨cc, hcc⟩ := own_block hown2 (g := gq) rfl
     unfold BK at hbd
     rw [hq, hcc] at hbd
     injection hbd with hh
     injection hh with _ hh
     exact absurd hh (by decide)) (.int .i64 (b + a))
   have cx := BK.far (BK.far hcx (p := ⟨gq, i * 4 + 1, none⟩) (fun hq : _ = gq => by
     obtain ⟨cc, hcc⟩ := own_block hown2 (g := gq) rfl
     unfold BK at hcx
     rw [hq, hcc] at hcx
     injection hcx with hh
     injection hh with _ hh
     exact absurd hh (by decide)) (.int .i64 (b + a))) (p := ⟨gq, i * 4 + 2, none⟩) (fun hq : _ = gq => by
     obtain ⟨cc, hcc⟩ := own_block hown2 (g := gq) rfl
     unfold BK at hcx
     rw [hq, hcc] at hcx
     injection hcx with hh
     injection hh with _ hh
     exact absurd hh (by decide)) (.int .i64 (b + a))
   have hC : Below n0 w ((Vz.setCell ⟨gq, i * 4 + 1, none⟩ (.int .i64 (b + a))).setCell ⟨gq, i * 4 + 2, none⟩ (.int .i64 (b + a))) := Below.setCell (Below.setCell hCz (by show n0 ≤ gq; omega) _) (by show n0 ≤ gq; omega) _
   clear hbx hsp hbd hcx hCz hown2 hownA hb01 hd0z
   generalize ((Vz.setCell ⟨gq, i * 4 + 1, none⟩ (.int .i64 (b + a))).setCell ⟨gq, i * 4 + 2, none⟩ (.int .i64 (b + a))) = X2 at *
   have hS := OwnS.rt hput
   have HCL2 := HCl.out
   clear hput
   have lbx := bx.lt
   have bxc0 := bx.cell 0
   have bxc1 := bx.cell 1
   simp at bxc0 bxc1
   have lsp := sp.lt
   have spc0 := sp.cell 0
   have spc1 := sp.cell 1
   simp at spc0 spc1
   have lbd := bd.lt
   have bdc0 := bd.cell 0
   have bdc1 := bd.cell 1
   simp at bdc0 bdc1
   have lcx := cx.lt
   have cxc0 := cx.cell 0
   have cxc1 := cx.cell 1
   simp at cxc0 cxc1
   go_wp2_with fail
   clear lbx bxc0 bxc1
   clear lsp spc0 spc1
   clear lbd bdc0 bdc1
   clear lcx cxc0 cxc1
   obtain ⟨cc, hcc⟩ : ∃ x, bstE C m = x := ⟨_, rfl⟩
   have HCC := Lib.hid hcc
   clear hcc
   refine (Best_any C _ m _ (by omega) hS).mono ?_
   rintro e w7 ⟨u_c, rfl, hown, hb⟩
   replace hC : Below n0 w w7 := hC.trans (hb.mono (by have := hC.size; omega))
   replace bx := bx.below hb bx.lt
   replace sp := sp.below hb sp.lt
   replace bd := bd.below hb bd.lt
   replace cx := cx.below hb cx.lt
   replace hS := (RS.below hS hb).more hb.size
   clear hb
   clear hown
   have hcb := HCB.out
   rw [HCU.out] at hcb
   by_cases hb1 : b < lo
   case pos =>
     rw [hcb.1 (by omega)]
     clear hcb
     have lbx := bx.lt
     have bxc0 := bx.cell 0
     have bxc1 := bx.cell 1
     simp at bxc0 bxc1
     have lsp := sp.lt
     have spc0 := sp.cell 0
     have spc1 := sp.cell 1
     simp at spc0 spc1
     have lbd := bd.lt
     have bdc0 := bd.cell 0
     have bdc1 := bd.cell 1
     simp at bdc0 bdc1
     have lcx := cx.lt
     have cxc0 := cx.cell 0
     have cxc1 := cx.cell 1
     simp at cxc0 cxc1
     go_wp2_with fail
     clear lbx bxc0 bxc1
     clear lsp spc0 spc1
     clear lbd bdc0 bdc1
     clear lcx cxc0 cxc1
     refine (works_any _).mono ?_
     rintro e w8 ⟨rfl, hb⟩
     replace hC : Below n0 w w8 := hC.trans (hb.mono (by have := hC.size; omega))
     replace bx := bx.below hb bx.lt
     replace sp := sp.below hb sp.lt
     replace bd := bd.below hb bd.lt
     replace cx := cx.below hb cx.lt
     replace hS := (RS.below hS hb).more hb.size
     clear hb
     go_wp2_with fail
     exact bodyPost_ret (v := .bool true) (by simp [results, Try.results9, go_sem]) rfl ⟨rfl, by first | exact hC | (rw [hn0]; exact hC) | (with_reducible rw [hn0]; exact bel_of) | exact bel_of⟩
   by_cases hb2 : b > hi'
   case pos =>
     rw [hcb.1 (by omega)]
     clear hcb
     have lbx := bx.lt
     have bxc0 := bx.cell 0
     have bxc1 := bx.cell 1
     simp at bxc0 bxc1
     have lsp := sp.lt
     have spc0 := sp.cell 0
     have spc1 := sp.cell 1
     simp at spc0 spc1
     have lbd := bd.lt
     have bdc0 := bd.cell 0
     have bdc1 := bd.cell 1
     simp at bdc0 bdc1
     have lcx := cx.lt
     have cxc0 := cx.cell 0
     have cxc1 := cx.cell 1
     simp at cxc0 cxc1
     go_wp2_with fail
     clear lbx bxc0 bxc1
     clear lsp spc0 spc1
     clear lbd bdc0 bdc1
     clear lcx cxc0 cxc1
     refine (works_any _).mono ?_
     rintro e w8 ⟨rfl, hb⟩
     replace hC : Below n0 w w8 := hC.trans (hb.mono (by have := hC.size; omega))
     replace bx := bx.below hb bx.lt
     replace sp := sp.below hb sp.lt
     replace bd := bd.below hb bd.lt
     replace cx := cx.below hb cx.lt
     replace hS := (RS.below hS hb).more hb.size
     clear hb
     go_wp2_with fail
     exact bodyPost_ret (v := .bool true) (by simp [results, Try.results9, go_sem]) rfl ⟨rfl, by first | exact hC | (rw [hn0]; exact hC) | (with_reducible rw [hn0]; exact bel_of) | exact bel_of⟩
   obtain ⟨cv, hcv1, hcv2⟩ := hcb.2 (by omega)
   rw [hcv1]
   have hcv3 : cv ≥ c0 := hcv2
   clear hcb hcv1
   have lbx := bx.lt
   have bxc0 := bx.cell 0
   have bxc1 := bx.cell 1
   simp at bxc0 bxc1
   have lsp := sp.lt
   have spc0 := sp.cell 0
   have spc1 := sp.cell 1
   simp at spc0 spc1
   have lbd := bd.lt
   have bdc0 := bd.cell 0
   have bdc1 := bd.cell 1
   simp at bdc0 bdc1
   have lcx := cx.lt
   have cxc0 := cx.cell 0
   have cxc1 := cx.cell 1
   simp at cxc0 cxc1
   go_wp2_with fail
   clear lbx bxc0 bxc1
   clear lsp spc0 spc1
   clear lbd bdc0 bdc1
   clear lcx cxc0 cxc1
   refine (works_any _).mono ?_
   rintro e w8 ⟨rfl, hb⟩
   replace hC : Below n0 w w8 := hC.trans (hb.mono (by have := hC.size; omega))
   replace bx := bx.below hb bx.lt
   replace sp := sp.below hb sp.lt
   replace bd := bd.below hb bd.lt
   replace cx := cx.below hb cx.lt
   replace hS := (RS.below hS hb).more hb.size
   clear hb
   go_wp2_with fail
   exact bodyPost_ret (v := .bool true) (by simp [results, Try.results9, go_sem]) rfl ⟨rfl, by first | exact hC | (rw [hn0]; exact hC) | (with_reducible rw [hn0]; exact bel_of) | exact bel_of⟩
  ·skip
   have j1 : d ≥ sa := by omega
   have j2 : ¬ d ≤ sb := by omega
   have lbx := bx.lt
   have bxc0 := bx.cell 0
   have bxc1 := bx.cell 1
   simp at bxc0 bxc1
   have lsp := sp.lt
   have spc0 := sp.cell 0
   have spc1 := sp.cell 1
   simp at spc0 spc1
   have lbd := bd.lt
   have bdc0 := bd.cell 0
   have bdc1 := bd.cell 1
   simp at bdc0 bdc1
   go_wp2_with fail
   clear lbx bxc0 bxc1
   clear lsp spc0 spc1
   clear lbd bdc0 bdc1
   clear wn
   refine (tube_any l _ m _ _ HOK.out.all h20 (by have := HI.out; omega) hT).mono ?_
   rintro e w6 ⟨rfl, hb⟩
   replace hC : Below n0 w w6 := hC.trans (hb.mono (by have := hC.size; omega))
   replace hT := (RS.below hT hb).more hb.size
   replace bx := bx.below hb bx.lt
   replace sp := sp.below hb sp.lt
   replace bd := bd.below hb bd.lt
   clear hb
   rw [show tubR l (i : Int) = tub (nthS l i) by unfold tubR; rw [if_neg (by omega), Int.toNat_natCast]]
   obtain ⟨t, ht⟩ : ∃ t, tub (nthS l i) = t := ⟨_, rfl⟩
   rw [ht]
   have HT2 := Lib.hid ht
   have trg := tub_rng (HOK.out.all _ (nthS_mem HI.out))
   rw [ht] at trg
   clear ht
   unfold rV
   have lbx := bx.lt
   have bxc0 := bx.cell 0
   have bxc1 := bx.cell 1
   simp at bxc0 bxc1
   have lsp := sp.lt
   have spc0 := sp.cell 0
   have spc1 := sp.cell 1
   simp at spc0 spc1
   have lbd := bd.lt
   have bdc0 := bd.cell 0
   have bdc1 := bd.cell 1
   simp at bdc0 bdc1
   go_upto_region 24 with fail
   clear lbx bxc0 bxc1
   clear lsp spc0 spc1
   clear lbd bdc0 bdc1
   obtain ⟨m4, hm4⟩ : ∃ n, w6.heap.size = n := ⟨_, rfl⟩
   try rw [hm4]
   have hqtt : n0 ≤ m4 := by have := hC.size; omega
   have tt : BK (w6.alloc (.cells #[.int .i64 t.lo, .int .i64 t.hi] 42)) (m4) #[.int .i64 t.lo, .int .i64 t.hi] 42 := BK.new' _ _ _ (m4) hm4
   have hstt : (w6.alloc (.cells #[.int .i64 t.lo, .int .i64 t.hi] 42)).heap.size = m4 + 1 := by simp [hm4]
   replace hC : Below n0 w (w6.alloc (.cells #[.int .i64 t.lo, .int .i64 t.hi] 42)) := Below.alloc hC (by have := hC.size; omega) _
   replace hT := (RS.below hT (w' := (w6.alloc (.cells #[.int .i64 t.lo, .int .i64 t.hi] 42))) (Below.alloc (Below.refl _ _) (Nat.le_refl _) _)).more (B' := (w6.alloc (.cells #[.int .i64 t.lo, .int .i64 t.hi] 42)).heap.size) (by simp)
   replace bx := bx.alloc (.cells #[.int .i64 t.lo, .int .i64 t.hi] 42)
   replace sp := sp.alloc (.cells #[.int .i64 t.lo, .int .i64 t.hi] 42)
   replace bd := bd.alloc (.cells #[.int .i64 t.lo, .int .i64 t.hi] 42)
   generalize (w6.alloc (.cells #[.int .i64 t.lo, .int .i64 t.hi] 42)) = Wtt at *
   clear hm4
   clear hstt
   have h1 := H1.out
   obtain ⟨r, hr⟩ : ∃ r, (x1 : Int) % (t.hi - t.lo + 1) = r := ⟨_, rfl⟩
   have hr0 : 0 ≤ r ∧ r < t.hi - t.lo + 1 := by rw [← hr]; exact ⟨Int.emod_nonneg _ (by omega), Int.emod_lt_of_pos _ (by omega)⟩
   obtain ⟨b, hb⟩ : ∃ b, t.lo + r = b := ⟨_, rfl⟩
   have wx : IntKind.i64.wrap (x1 : Int) = x1 := by rw [IntKind.wrap_i64]; omega
   have wd1 : IntKind.i64.wrap (t.hi - t.lo) = t.hi - t.lo := by rw [IntKind.wrap_i64]; omega
   have wd2 : IntKind.i64.wrap (t.hi - t.lo + 1) = t.hi - t.lo + 1 := by rw [IntKind.wrap_i64]; omega
   have nz : t.hi - t.lo + 1 ≠ 0 := by omega
   have t2 : (x1 : Int).tmod (t.hi - t.lo + 1) = r := by rw [Int.tmod_eq_emod_of_nonneg (by omega), hr]
   have wr : IntKind.i64.wrap r = r := by rw [IntKind.wrap_i64]; omega
   have wb : IntKind.i64.wrap (t.lo + r) = b := by rw [hb, IntKind.wrap_i64]; omega
   have hbr : t.lo ≤ b ∧ b ≤ t.hi := by omega
   clear hr hr0 hb h1
   have lbx := bx.lt
   have bxc0 := bx.cell 0
   have bxc1 := bx.cell 1
   simp at bxc0 bxc1
   have lsp := sp.lt
   have spc0 := sp.cell 0
   have spc1 := sp.cell 1
   simp at spc0 spc1
   have lbd := bd.lt
   have bdc0 := bd.cell 0
   have bdc1 := bd.cell 1
   simp at bdc0 bdc1
   have ltt := tt.lt
   have ttc0 := tt.cell 0
   have ttc1 := tt.cell 1
   simp at ttc0 ttc1
   refine wp_region_noPanic (plain_any [0, 1, 2, 3, 4, 5, 6, 7, 8, 9, 10, 11, 12] (Below Wtt.heap.size Wtt) mixed ?_)
   refine any_tk 0 ?_
   have d0z : Below Wtt.heap.size Wtt Wtt.drew := by exact bel_of
   refine any_tk 1 ?_
   refine any_tk 2 ?_
   refine any_tk 3 ?_
   refine any_tk 4 ?_
   refine any_tk 5 ?_
   refine any_tk 6 ?_
   refine any_tk 7 ?_
   refine any_tk 8 ?_
   refine any_tk 9 ?_
   refine any_tk 10 ?_
   refine any_tk 11 ?_
   refine any_tk 12 ?_
   refine any_done (by kernel_rfl) (NoPanic.normal ?_)
   have hb := d0z
   replace hC : Below n0 w Wtt.drew := hC.trans (hb.mono (by have := hC.size; omega))
   replace hT := (RS.below hT hb).more hb.size
   replace bx := bx.below hb bx.lt
   replace sp := sp.below hb sp.lt
   replace bd := bd.below hb bd.lt
   replace tt := tt.below hb tt.lt
   clear hb
   clear lbx bxc0 bxc1
   clear lsp spc0 spc1
   clear lbd bdc0 bdc1
   clear ltt ttc0 ttc1
   generalize Wtt.drew = Wdr at *
   clear wx wd1 wd2 nz t2 wr wb trg
   rw [← HT2.out] at hbr
   have hcb := cut_bst HOK.out HI.out hbr HTH.out HC0.out
   have HCB := Lib.hid hcb
   have hos := okS_at HOK.out.all HI.out
   obtain ⟨C, hCut⟩ : ∃ C, cutS l i b = C := ⟨_, rfl⟩
   have HCU := Lib.hid hCut
   have HCl := Lib.hid (show C.length = l.length by rw [← hCut]; unfold cutS; rw [List.length_set])
   obtain ⟨⟨a, glo, ghi, hd⟩, hss⟩ : ∃ s, nthS l i = s := ⟨_, rfl⟩
   have hba : -10000 ≤ b + a ∧ b + a ≤ 10000 := by rw [hss] at hbr hos; simp only [tub] at hbr; dsimp only at hos; omega
   have HSS := Lib.hid hss
   clear hcb hCut hos hss hbr HT2
   have lbx := bx.lt
   have bxc0 := bx.cell 0
   have bxc1 := bx.cell 1
   simp at bxc0 bxc1
   have lsp := sp.lt
   have spc0 := sp.cell 0
   have spc1 := sp.cell 1
   simp at spc0 spc1
   have lbd := bd.lt
   have bdc0 := bd.cell 0
   have bdc1 := bd.cell 1
   simp at bdc0 bdc1
   have ltt := tt.lt
   have ttc0 := tt.cell 0
   have ttc1 := tt.cell 1
   simp at ttc0 ttc1
   go_upto_region 26 with fail
   clear lbx bxc0 bxc1
   clear lsp spc0 spc1
   clear lbd bdc0 bdc1
   clear ltt ttc0 ttc1
   have lbn := bx.lt
   have lsn := sp.lt
   have ldn := bd.lt
   have ltn := tt.lt
   obtain ⟨mc, hmc⟩ : ∃ n, Wdr.heap.size = n := ⟨_, rfl⟩
   try rw [hmc]
   rw [hmc] at lbn lsn ldn ltn
   have hqcx : n0 ≤ mc := by have := hC.size; omega
   have cx : BK (Wdr.alloc (.cells #[.slice A l.length cap, .int .i64 m] 24)) (mc) #[.slice A l.length cap, .int .i64 m] 24 := BK.new' _ _ _ (mc) hmc
   have hscx : (Wdr.alloc (.cells #[.slice A l.length cap, .int .i64 m] 24)).heap.size = mc + 1 := by simp [hmc]
   replace hC : Below n0 w (Wdr.alloc (.cells #[.slice A l.length cap, .int .i64 m] 24)) := Below.alloc hC (by have := hC.size; omega) _
   replace hT := (RS.below hT (w' := (Wdr.alloc (.cells #[.slice A l.length cap, .int .i64 m] 24))) (Below.alloc (Below.refl _ _) (Nat.le_refl _) _)).more (B' := (Wdr.alloc (.cells #[.slice A l.length cap, .int .i64 m] 24)).heap.size) (by simp)
   replace bx := bx.alloc (.cells #[.slice A l.length cap, .int .i64 m] 24)
   replace sp := sp.alloc (.cells #[.slice A l.length cap, .int .i64 m] 24)
   replace bd := bd.alloc (.cells #[.slice A l.length cap, .int .i64 m] 24)
   replace tt := tt.alloc (.cells #[.slice A l.length cap, .int .i64 m] 24)
   generalize (Wdr.alloc (.cells #[.slice A l.length cap, .int .i64 m] 24)) = Wcx at *
   clear hmc
   clear hscx
   have hsz0 := hC.size
   obtain ⟨ge, hge⟩ : ∃ n, Wcx.heap.size = n := ⟨_, rfl⟩
   have bE : BK (Wcx.alloc (.cells #[] 60)) ge #[] 60 := BK.new' _ _ _ ge hge
   have hCe : Below n0 w (Wcx.alloc (.cells #[] 60)) := Below.alloc hC (by omega) _
   have hbe : Below Wcx.heap.size Wcx (Wcx.alloc (.cells #[] 60)) := Below.alloc (Below.refl _ _) (Nat.le_refl _) _
   have lt0 : ∀ k cs t, BK Wcx k cs t → k ≠ ge := fun k cs t hk => by have := hk.lt; omega
   obtain ⟨gq, cq, w9q, hrun, hown, hbel, hsz9, hkeep, hat⟩ := copy_st (base := n0) bE (by omega) (RS.more (RS.below hT hbe) hbe.size) (by omega) (by omega) (by have := hCe.size; omega)
   have hC9 := hbel _ hCe
   rw [← hge] at hrun
   have HRUN := Lib.hid hrun
   have HOW := Lib.hid hown
   have bx9 := hkeep _ _ _ (bx.below hbe bx.lt) (lt0 _ _ _ bx)
   have sp9 := hkeep _ _ _ (sp.below hbe sp.lt) (lt0 _ _ _ sp)
   have bd9 := hkeep _ _ _ (bd.below hbe bd.lt) (lt0 _ _ _ bd)
   have tt9 := hkeep _ _ _ (tt.below hbe tt.lt) (lt0 _ _ _ tt)
   have cx9 := hkeep _ _ _ (cx.below hbe cx.lt) (lt0 _ _ _ cx)
   have lcx9 := cx9.lt
   have cx9c0 := cx9.cell 0
   have cx9c1 := cx9.cell 1
   simp at cx9c0 cx9c1
   have cx9f0 := cx9.frozen 0
   have cx9f1 := cx9.frozen 1
   have lbx := bx.lt
   have bxc0 := bx.cell 0
   have bxc1 := bx.cell 1
   simp at bxc0 bxc1
   clear hrun hown hbel hsz9 hkeep hat bE lt0 hsz0 hge
   go_wp2_with (at_builtin; refine wpList_append_run rfl (.tmp 223) (.tmp 225) 22 _ rfl HRUN.out ?_)
   clear lcx9 cx9c0 cx9c1
   clear lbx bxc0 bxc1
   clear cx9f0 cx9f1
   have cxA := cx9.set 0 (.slice (some ⟨gq, 0, none⟩) l.length cq)
   simp at cxA
   have hownA := own_set (i := 0) (u := (.slice (some ⟨gq, 0, none⟩) l.length cq)) HOW.out cx9 (by decide)
   have hCA : Below n0 w (w9q.setCell ⟨mc, 0, none⟩ (.slice (some ⟨gq, 0, none⟩) l.length cq)) := Below.setCell hC9 (by show n0 ≤ mc; omega) _
   have bxA := bx9.far (p := ⟨mc, 0, none⟩) (by show n0 ≠ mc; omega) (.slice (some ⟨gq, 0, none⟩) l.length cq)
   have spA := sp9.far (p := ⟨mc, 0, none⟩) (by show m1 ≠ mc; omega) (.slice (some ⟨gq, 0, none⟩) l.length cq)
   have bdA := bd9.far (p := ⟨mc, 0, none⟩) (by show m2 ≠ mc; omega) (.slice (some ⟨gq, 0, none⟩) l.length cq)
   have ttA := tt9.far (p := ⟨mc, 0, none⟩) (by show m4 ≠ mc; omega) (.slice (some ⟨gq, 0, none⟩) l.length cq)
   clear bx sp bd tt cx hC hT bx9 sp9 bd9 tt9 cx9 hC9 hCe hbe
   generalize (w9q.setCell ⟨mc, 0, none⟩ (.slice (some ⟨gq, 0, none⟩) l.length cq)) = X1 at *
   have bx := bxA
   have sp := spA
   have bd := bdA
   have tt := ttA
   have cx := cxA
   have hC := hCA
   have hT : RT X1 X1.heap.size (.slice A l.length cap) l := RS.more (RS.below H0.out hC) (by have := hC.size; omega)
   clear bxA spA bdA ttA cxA hCA
   have lbx := bx.lt
   have bxc0 := bx.cell 0
   have bxc1 := bx.cell 1
   simp at bxc0 bxc1
   have lcx := cx.lt
   have cxc0 := cx.cell 0
   have cxc1 := cx.cell 1
   simp at cxc0 cxc1
   obtain ⟨A', cap', b', off', hve, hA, hc⟩ := RT.cells hT
   obtain ⟨rfl, hbb⟩ := hA (by omega)
   injection hve with q1 q2 q3
   subst q1 q3
   have hd0 := (hc i HI.out).1
   rw [HSS.out] at hd0
   dsimp only at hd0
   have hi3 : (i : Int) < (l.length : Int) := by have := HI.out; omega
   have hi4 : i < l.length := HI.out
   have wba : IntKind.i64.wrap (b + a) = b + a := by rw [IntKind.wrap_i64]; omega
   have lgq := own_lt hownA
   clear hA hc q2
   refine wp_region_noPanic (plain_any [0, 1, 2, 3, 4, 5, 6, 7, 8, 9, 10, 11, 12, 13, 14, 15, 16, 17, 18, 20, 21] (Below X1.heap.size X1) mixed ?_)
   refine any_tk 0 ?_
   refine any_tk 1 ?_
   refine any_tk 2 ?_
   refine any_tk 3 ?_
   refine any_tk 4 ?_
   refine any_tk 5 ?_
   refine any_tk 6 ?_
   refine any_tk 7 ?_
   refine any_tk 8 ?_
   refine any_tk 9 ?_
   refine any_tk 10 ?_
   refine any_tk 11 ?_
   refine any_tk 12 ?_
   refine any_tk 13 ?_
   refine any_tk 14 ?_
   refine any_tk 15 ?_
   refine any_tk 16 ?_
   refine any_tk 17 ?_
   refine any_tk 18 ?_
   have hd0z : Below X1.heap.size X1 X1.drew := by exact bel_of
   refine any_run1 (i := 19) (by kernel_rfl) (by rfl) (by kernel_rfl) ?_
   intro K3 hK3
   go_wp2_with fail
   refine (rg_any (b + a) (b + a) _).mono ?_
   rintro e Vz ⟨rfl, hb1⟩
   have hb01 : Below X1.heap.size X1 Vz := hd0z.trans (hb1.mono hd0z.size)
   refine hK3 _ _ (fun _ => hb01) ?_
   clear hK3 K3 hb1
   refine any_tk 20 ?_
   refine any_tk 21 ?_
   have hown2 := own_below hownA hb01
   obtain ⟨z0, z1, z2, z3⟩ := encS_at HI.out
   have hrs := RS.of_own hown2
   obtain ⟨Aq, capq, bq, offq, hvq, hlq, hAq, hcq⟩ := hrs
   obtain ⟨hAq, -⟩ := hAq (by omega)
   injection hvq with q1 q2 q3
   rw [← q1] at hAq
   injection hAq with hAq
   injection hAq with hAq hAo
   subst hAq hAo
   have y1 := (hcq (i * 4 + 1) (by rw [hlq.1]; omega)).trans z1
   have y2 := (hcq (i * 4 + 2) (by rw [hlq.1]; omega)).trans z2
   rw [Nat.zero_add] at y1 y2
   have f1 := own_frozen hown2 (i * 4 + 1)
   have f2 := own_frozen hown2 (i * 4 + 2)
   have lgz : gq < Vz.heap.size := (own_lt hown2).2
   have hbx := bx.below hb01 bx.lt
   have hsp := sp.below hb01 sp.lt
   have hbd := bd.below hb01 bd.lt
   have hcx := cx.below hb01 cx.lt
   have hCz : Below n0 w Vz := hC.trans (hb01.mono (by have := hC.size; omega))
   have hput := put_rng (g := gq) hown2 HI.out (b + a) (b + a)
   rw [HSS.out] at hput
   have hCU := HCU.out
   unfold cutS at hCU
   rw [HSS.out] at hCU
   dsimp only at hCU hput
   rw [hCU] at hput
   clear z0 z1 z2 z3 hlq hcq q1 q2 q3 hCU bx sp bd cx tt hC hT
   refine any_run1 (i := 22) (by kernel_rfl) (by rfl) (by kernel_rfl) ?_
   intro K3 hK3
   go_wp2_with fail
   refine hK3 _ _ (fun hx => (Bool.false_ne_true (hx.symm.trans (by kernel_rfl))).elim) ?_
   clear hK3 K3
   refine any_done (by kernel_rfl) (NoPanic.normal ?_)
   clear y1 y2 f1 f2
   clear lbx bxc0 bxc1
   clear lcx cxc0 cxc1
   clear hbb hd0 wba
   have bx := BK.far (BK.far hbx (p := ⟨gq, i * 4 + 1, none⟩) (fun hq : _ = gq => by
     obtain ⟨cc, hcc⟩ := own_block hown2 (g := gq) rfl
     unfold BK at hbx
     rw [hq, hcc] at hbx
     injection hbx with hh
     injection hh with _ hh
     exact absurd hh (by decide)) (.int .i64 (b + a))) (p := ⟨gq, i * 4 + 2, none⟩) (fun hq : _ = gq => by
     obtain ⟨cc, hcc⟩ := own_block hown2 (g := gq) rfl
     unfold BK at hbx
     rw [hq, hcc] at hbx
     injection hbx with hh
     injection hh with _ hh
     exact absurd hh (by decide)) (.int .i64 (b + a))
   have sp := BK.far (BK.far hsp (p := ⟨gq, i * 4 + 1, none⟩) (fun hq : _ = gq => by
     obtain ⟨cc, hcc⟩ := own_block hown2 (g := gq) rfl
     unfold BK at hsp
     rw [hq, hcc] at hsp
     injection hsp with hh
     injection hh with _ hh
     exact absurd hh (by decide)) (.int .i64 (b + a))) (p := ⟨gq, i * 4 + 2, none⟩) (fun hq : _ = gq => by
     obtain ⟨cc, hcc⟩ := own_block hown2 (g := gq) rfl
     unfold BK at hsp
     rw [hq, hcc] at hsp
     injection hsp with hh
     injection hh with _ hh
     exact absurd hh (by decide)) (.int .i64 (b + a))
   have bd := BK.far (BK.far hbd (p := ⟨gq, i * 4 + 1, none⟩) (fun hq : _ = gq => by
     obtain ⟨cc, hcc⟩ := own_block hown2 (g := gq) rfl
     unfold BK at hbd
     rw [hq, hcc] at hbd
     injection hbd with hh
     injection hh with _ hh
     exact absurd hh (by decide)) (.int .i64 (b + a))) (p := ⟨gq, i * 4 + 2, none⟩) (fun hq : _ = gq => by
     obtain ⟨cc, hcc⟩ := own_block hown2 (g := gq) rfl
     unfold BK at hbd
     rw [hq, hcc] at hbd
     injection hbd with hh
     injection hh with _ hh
     exact absurd hh (by decide)) (.int .i64 (b + a))
   have cx := BK.far (BK.far hcx (p := ⟨gq, i * 4 + 1, none⟩) (fun hq : _ = gq => by
     obtain ⟨cc, hcc⟩ := own_block hown2 (g := gq) rfl
     unfold BK at hcx
     rw [hq, hcc] at hcx
     injection hcx with hh
     injection hh with _ hh
     exact absurd hh (by decide)) (.int .i64 (b + a))) (p := ⟨gq, i * 4 + 2, none⟩) (fun hq : _ = gq => by
     obtain ⟨cc, hcc⟩ := own_block hown2 (g := gq) rfl
     unfold BK at hcx
     rw [hq, hcc] at hcx
     injection hcx with hh
     injection hh with _ hh
     exact absurd hh (by decide)) (.int .i64 (b + a))
   have hC : Below n0 w ((Vz.setCell ⟨gq, i * 4 + 1, none⟩ (.int .i64 (b + a))).setCell ⟨gq, i * 4 + 2, none⟩ (.int .i64 (b + a))) := Below.setCell (Below.setCell hCz (by show n0 ≤ gq; omega) _) (by show n0 ≤ gq; omega) _
   clear hbx hsp hbd hcx hCz hown2 hownA hb01 hd0z
   generalize ((Vz.setCell ⟨gq, i * 4 + 1, none⟩ (.int .i64 (b + a))).setCell ⟨gq, i * 4 + 2, none⟩ (.int .i64 (b + a))) = X2 at *
   have hS := OwnS.rt hput
   have HCL2 := HCl.out
   clear hput
   have lbx := bx.lt
   have bxc0 := bx.cell 0
   have bxc1 := bx.cell 1
   simp at bxc0 bxc1
   have lsp := sp.lt
   have spc0 := sp.cell 0
   have spc1 := sp.cell 1
   simp at spc0 spc1
   have lbd := bd.lt
   have bdc0 := bd.cell 0
   have bdc1 := bd.cell 1
   simp at bdc0 bdc1
   have lcx := cx.lt
   have cxc0 := cx.cell 0
   have cxc1 := cx.cell 1
   simp at cxc0 cxc1
   go_wp2_with fail
   clear lbx bxc0 bxc1
   clear lsp spc0 spc1
   clear lbd bdc0 bdc1
   clear lcx cxc0 cxc1
   obtain ⟨cc, hcc⟩ : ∃ x, bstE C m = x := ⟨_, rfl⟩
   have HCC := Lib.hid hcc
   clear hcc
   refine (Best_any C _ m _ (by omega) hS).mono ?_
   rintro e w7 ⟨u_c, rfl, hown, hb⟩
   replace hC : Below n0 w w7 := hC.trans (hb.mono (by have := hC.size; omega))
   replace bx := bx.below hb bx.lt
   replace sp := sp.below hb sp.lt
   replace bd := bd.below hb bd.lt
   replace cx := cx.below hb cx.lt
   replace hS := (RS.below hS hb).more hb.size
   clear hb
   clear hown
   have hcb := HCB.out
   rw [HCU.out] at hcb
   by_cases hb1 : b < lo
   case pos =>
     rw [hcb.1 (by omega)]
     clear hcb
     have lbx := bx.lt
     have bxc0 := bx.cell 0
     have bxc1 := bx.cell 1
     simp at bxc0 bxc1
     have lsp := sp.lt
     have spc0 := sp.cell 0
     have spc1 := sp.cell 1
     simp at spc0 spc1
     have lbd := bd.lt
     have bdc0 := bd.cell 0
     have bdc1 := bd.cell 1
     simp at bdc0 bdc1
     have lcx := cx.lt
     have cxc0 := cx.cell 0
     have cxc1 := cx.cell 1
     simp at cxc0 cxc1
     go_wp2_with fail
     clear lbx bxc0 bxc1
     clear lsp spc0 spc1
     clear lbd bdc0 bdc1
     clear lcx cxc0 cxc1
     refine (works_any _).mono ?_
     rintro e w8 ⟨rfl, hb⟩
     replace hC : Below n0 w w8 := hC.trans (hb.mono (by have := hC.size; omega))
     replace bx := bx.below hb bx.lt
     replace sp := sp.below hb sp.lt
     replace bd := bd.below hb bd.lt
     replace cx := cx.below hb cx.lt
     replace hS := (RS.below hS hb).more hb.size
     clear hb
     go_wp2_with fail
     exact bodyPost_ret (v := .bool true) (by simp [results, Try.results9, go_sem]) rfl ⟨rfl, by first | exact hC | (rw [hn0]; exact hC) | (with_reducible rw [hn0]; exact bel_of) | exact bel_of⟩
   by_cases hb2 : b > hi'
   case pos =>
     rw [hcb.1 (by omega)]
     clear hcb
     have lbx := bx.lt
     have bxc0 := bx.cell 0
     have bxc1 := bx.cell 1
     simp at bxc0 bxc1
     have lsp := sp.lt
     have spc0 := sp.cell 0
     have spc1 := sp.cell 1
     simp at spc0 spc1
     have lbd := bd.lt
     have bdc0 := bd.cell 0
     have bdc1 := bd.cell 1
     simp at bdc0 bdc1
     have lcx := cx.lt
     have cxc0 := cx.cell 0
     have cxc1 := cx.cell 1
     simp at cxc0 cxc1
     go_wp2_with fail
     clear lbx bxc0 bxc1
     clear lsp spc0 spc1
     clear lbd bdc0 bdc1
     clear lcx cxc0 cxc1
     refine (works_any _).mono ?_
     rintro e w8 ⟨rfl, hb⟩
     replace hC : Below n0 w w8 := hC.trans (hb.mono (by have := hC.size; omega))
     replace bx := bx.below hb bx.lt
     replace sp := sp.below hb sp.lt
     replace bd := bd.below hb bd.lt
     replace cx := cx.below hb cx.lt
     replace hS := (RS.below hS hb).more hb.size
     clear hb
     go_wp2_with fail
     exact bodyPost_ret (v := .bool true) (by simp [results, Try.results9, go_sem]) rfl ⟨rfl, by first | exact hC | (rw [hn0]; exact hC) | (with_reducible rw [hn0]; exact bel_of) | exact bel_of⟩
   obtain ⟨cv, hcv1, hcv2⟩ := hcb.2 (by omega)
   rw [hcv1]
   have hcv3 : cv ≥ c0 := hcv2
   clear hcb hcv1
   have lbx := bx.lt
   have bxc0 := bx.cell 0
   have bxc1 := bx.cell 1
   simp at bxc0 bxc1
   have lsp := sp.lt
   have spc0 := sp.cell 0
   have spc1 := sp.cell 1
   simp at spc0 spc1
   have lbd := bd.lt
   have bdc0 := bd.cell 0
   have bdc1 := bd.cell 1
   simp at bdc0 bdc1
   have lcx := cx.lt
   have cxc0 := cx.cell 0
   have cxc1 := cx.cell 1
   simp at cxc0 cxc1
   go_wp2_with fail
   clear lbx bxc0 bxc1
   clear lsp spc0 spc1
   clear lbd bdc0 bdc1
   clear lcx cxc0 cxc1
   refine (works_any _).mono ?_
   rintro e w8 ⟨rfl, hb⟩
   replace hC : Below n0 w w8 := hC.trans (hb.mono (by have := hC.size; omega))
   replace bx := bx.below hb bx.lt
   replace sp := sp.below hb sp.lt
   replace bd := bd.below hb bd.lt
   replace cx := cx.below hb cx.lt
   replace hS := (RS.below hS hb).more hb.size
   clear hb
   go_wp2_with fail
   exact bodyPost_ret (v := .bool true) (by simp [results, Try.results9, go_sem]) rfl ⟨rfl, by first | exact hC | (rw [hn0]; exact hC) | (with_reducible rw [hn0]; exact bel_of) | exact bel_of⟩
  ·skip
   have j1 : ¬ d ≥ sa := by omega
   have j2 : ¬ d > sb := by omega
   have j3 : (v == c0) = false := beq_eq_false_iff_ne.2 hvc
   have j4 : ¬ v < c0 := by omega
   have HV := Lib.hid (And.intro hv1 hv2)
   have j5 : ¬ v' > v := by omega
   have wd : IntKind.i64.wrap (d + 1) = d + 1 := by rw [IntKind.wrap_i64]; have := HDR.out; omega
   clear hv1 hv2 hvc hcv
   have lbx := bx.lt
   have bxc0 := bx.cell 0
   have bxc1 := bx.cell 1
   simp at bxc0 bxc1
   have lsp := sp.lt
   have spc0 := sp.cell 0
   have spc1 := sp.cell 1
   simp at spc0 spc1
   have lbd := bd.lt
   have bdc0 := bd.cell 0
   have bdc1 := bd.cell 1
   simp at bdc0 bdc1
   go_wp2_with fail
   clear lbx bxc0 bxc1
   clear lsp spc0 spc1
   clear lbd bdc0 bdc1
   refine (Least_any l _ m _ (d + 1) _ hlk hT).mono ?_
   rintro e w6 ⟨rfl, hb⟩
   replace hC : Below n0 w w6 := hC.trans (hb.mono (by have := hC.size; omega))
   replace hT := (RS.below hT hb).more hb.size
   replace bx := bx.below hb bx.lt
   replace sp := sp.below hb sp.lt
   replace bd := bd.below hb bd.lt
   clear hb
   rw [HV.out.1, HV.out.2]
   have lbx := bx.lt
   have bxc0 := bx.cell 0
   have bxc1 := bx.cell 1
   simp at bxc0 bxc1
   have lsp := sp.lt
   have spc0 := sp.cell 0
   have spc1 := sp.cell 1
   simp at spc0 spc1
   have lbd := bd.lt
   have bdc0 := bd.cell 0
   have bdc1 := bd.cell 1
   simp at bdc0 bdc1
   go_wp2_with fail
   clear lbx bxc0 bxc1
   clear lsp spc0 spc1
   clear lbd bdc0 bdc1
   clear wn
   refine (tube_any l _ m _ _ HOK.out.all h20 (by have := HI.out; omega) hT).mono ?_
   rintro e w7 ⟨rfl, hb⟩
   replace hC : Below n0 w w7 := hC.trans (hb.mono (by have := hC.size; omega))
   replace hT := (RS.below hT hb).more hb.size
   replace bx := bx.below hb bx.lt
   replace sp := sp.below hb sp.lt
   replace bd := bd.below hb bd.lt
   clear hb
   rw [show tubR l (i : Int) = tub (nthS l i) by unfold tubR; rw [if_neg (by omega), Int.toNat_natCast]]
   obtain ⟨t, ht⟩ : ∃ t, tub (nthS l i) = t := ⟨_, rfl⟩
   rw [ht]
   have HT2 := Lib.hid ht
   have trg := tub_rng (HOK.out.all _ (nthS_mem HI.out))
   rw [ht] at trg
   clear ht
   unfold rV
   have lbx := bx.lt
   have bxc0 := bx.cell 0
   have bxc1 := bx.cell 1
   simp at bxc0 bxc1
   have lsp := sp.lt
   have spc0 := sp.cell 0
   have spc1 := sp.cell 1
   simp at spc0 spc1
   have lbd := bd.lt
   have bdc0 := bd.cell 0
   have bdc1 := bd.cell 1
   simp at bdc0 bdc1
   go_upto_region 24 with fail
   clear lbx bxc0 bxc1
   clear lsp spc0 spc1
   clear lbd bdc0 bdc1
   obtain ⟨m5, hm5⟩ : ∃ n, w7.heap.size = n := ⟨_, rfl⟩
   try rw [hm5]
   have hqtt : n0 ≤ m5 := by have := hC.size; omega
   have tt : BK (w7.alloc (.cells #[.int .i64 t.lo, .int .i64 t.hi] 42)) (m5) #[.int .i64 t.lo, .int .i64 t.hi] 42 := BK.new' _ _ _ (m5) hm5
   have hstt : (w7.alloc (.cells #[.int .i64 t.lo, .int .i64 t.hi] 42)).heap.size = m5 + 1 := by simp [hm5]
   replace hC : Below n0 w (w7.alloc (.cells #[.int .i64 t.lo, .int .i64 t.hi] 42)) := Below.alloc hC (by have := hC.size; omega) _
   replace hT := (RS.below hT (w' := (w7.alloc (.cells #[.int .i64 t.lo, .int .i64 t.hi] 42))) (Below.alloc (Below.refl _ _) (Nat.le_refl _) _)).more (B' := (w7.alloc (.cells #[.int .i64 t.lo, .int .i64 t.hi] 42)).heap.size) (by simp)
   replace bx := bx.alloc (.cells #[.int .i64 t.lo, .int .i64 t.hi] 42)
   replace sp := sp.alloc (.cells #[.int .i64 t.lo, .int .i64 t.hi] 42)
   replace bd := bd.alloc (.cells #[.int .i64 t.lo, .int .i64 t.hi] 42)
   generalize (w7.alloc (.cells #[.int .i64 t.lo, .int .i64 t.hi] 42)) = Wtt at *
   clear hm5
   clear hstt
   have h1 := H1.out
   obtain ⟨r, hr⟩ : ∃ r, (x1 : Int) % (t.hi - t.lo + 1) = r := ⟨_, rfl⟩
   have hr0 : 0 ≤ r ∧ r < t.hi - t.lo + 1 := by rw [← hr]; exact ⟨Int.emod_nonneg _ (by omega), Int.emod_lt_of_pos _ (by omega)⟩
   obtain ⟨b, hb⟩ : ∃ b, t.lo + r = b := ⟨_, rfl⟩
   have wx : IntKind.i64.wrap (x1 : Int) = x1 := by rw [IntKind.wrap_i64]; omega
   have wd1 : IntKind.i64.wrap (t.hi - t.lo) = t.hi - t.lo := by rw [IntKind.wrap_i64]; omega
   have wd2 : IntKind.i64.wrap (t.hi - t.lo + 1) = t.hi - t.lo + 1 := by rw [IntKind.wrap_i64]; omega
   have nz : t.hi - t.lo + 1 ≠ 0 := by omega
   have t2 : (x1 : Int).tmod (t.hi - t.lo + 1) = r := by rw [Int.tmod_eq_emod_of_nonneg (by omega), hr]
   have wr : IntKind.i64.wrap r = r := by rw [IntKind.wrap_i64]; omega
   have wb : IntKind.i64.wrap (t.lo + r) = b := by rw [hb, IntKind.wrap_i64]; omega
   have hbr : t.lo ≤ b ∧ b ≤ t.hi := by omega
   clear hr hr0 hb h1
   have lbx := bx.lt
   have bxc0 := bx.cell 0
   have bxc1 := bx.cell 1
   simp at bxc0 bxc1
   have lsp := sp.lt
   have spc0 := sp.cell 0
   have spc1 := sp.cell 1
   simp at spc0 spc1
   have lbd := bd.lt
   have bdc0 := bd.cell 0
   have bdc1 := bd.cell 1
   simp at bdc0 bdc1
   have ltt := tt.lt
   have ttc0 := tt.cell 0
   have ttc1 := tt.cell 1
   simp at ttc0 ttc1
   refine wp_region_noPanic (plain_any [0, 1, 2, 3, 4, 5, 6, 7, 8, 9, 10, 11, 12] (Below Wtt.heap.size Wtt) mixed ?_)
   refine any_tk 0 ?_
   have d0z : Below Wtt.heap.size Wtt Wtt.drew := by exact bel_of
   refine any_tk 1 ?_
   refine any_tk 2 ?_
   refine any_tk 3 ?_
   refine any_tk 4 ?_
   refine any_tk 5 ?_
   refine any_tk 6 ?_
   refine any_tk 7 ?_
   refine any_tk 8 ?_
   refine any_tk 9 ?_
   refine any_tk 10 ?_
   refine any_tk 11 ?_
   refine any_tk 12 ?_
   refine any_done (by kernel_rfl) (NoPanic.normal ?_)
   have hb := d0z
   replace hC : Below n0 w Wtt.drew := hC.trans (hb.mono (by have := hC.size; omega))
   replace hT := (RS.below hT hb).more hb.size
   replace bx := bx.below hb bx.lt
   replace sp := sp.below hb sp.lt
   replace bd := bd.below hb bd.lt
   replace tt := tt.below hb tt.lt
   clear hb
   clear lbx bxc0 bxc1
   clear lsp spc0 spc1
   clear lbd bdc0 bdc1
   clear ltt ttc0 ttc1
   generalize Wtt.drew = Wdr at *
   clear wx wd1 wd2 nz t2 wr wb trg
   rw [← HT2.out] at hbr
   have hcb := cut_bst HOK.out HI.out hbr HTH.out HC0.out
   have HCB := Lib.hid hcb
   have hos := okS_at HOK.out.all HI.out
   obtain ⟨C, hCut⟩ : ∃ C, cutS l i b = C := ⟨_, rfl⟩
   have HCU := Lib.hid hCut
   have HCl := Lib.hid (show C.length = l.length by rw [← hCut]; unfold cutS; rw [List.length_set])
   obtain ⟨⟨a, glo, ghi, hd⟩, hss⟩ : ∃ s, nthS l i = s := ⟨_, rfl⟩
   have hba : -10000 ≤ b + a ∧ b + a ≤ 10000 := by rw [hss] at hbr hos; simp only [tub] at hbr; dsimp only at hos; omega
   have HSS := Lib.hid hss
   clear hcb hCut hos hss hbr HT2
   have lbx := bx.lt
   have bxc0 := bx.cell 0
   have bxc1 := bx.cell 1
   simp at bxc0 bxc1
   have lsp := sp.lt
   have spc0 := sp.cell 0
   have spc1 := sp.cell 1
   simp at spc0 spc1
   have lbd := bd.lt
   have bdc0 := bd.cell 0
   have bdc1 := bd.cell 1
   simp at bdc0 bdc1
   have ltt := tt.lt
   have ttc0 := tt.cell 0
   have ttc1 := tt.cell 1
   simp at ttc0 ttc1
   go_upto_region 26 with fail
   clear lbx bxc0 bxc1
   clear lsp spc0 spc1
   clear lbd bdc0 bdc1
   clear ltt ttc0 ttc1
   have lbn := bx.lt
   have lsn := sp.lt
   have ldn := bd.lt
   have ltn := tt.lt
   obtain ⟨mc, hmc⟩ : ∃ n, Wdr.heap.size = n := ⟨_, rfl⟩
   try rw [hmc]
   rw [hmc] at lbn lsn ldn ltn
   have hqcx : n0 ≤ mc := by have := hC.size; omega
   have cx : BK (Wdr.alloc (.cells #[.slice A l.length cap, .int .i64 m] 24)) (mc) #[.slice A l.length cap, .int .i64 m] 24 := BK.new' _ _ _ (mc) hmc
   have hscx : (Wdr.alloc (.cells #[.slice A l.length cap, .int .i64 m] 24)).heap.size = mc + 1 := by simp [hmc]
   replace hC : Below n0 w (Wdr.alloc (.cells #[.slice A l.length cap, .int .i64 m] 24)) := Below.alloc hC (by have := hC.size; omega) _
   replace hT := (RS.below hT (w' := (Wdr.alloc (.cells #[.slice A l.length cap, .int .i64 m] 24))) (Below.alloc (Below.refl _ _) (Nat.le_refl _) _)).more (B' := (Wdr.alloc (.cells #[.slice A l.length cap, .int .i64 m] 24)).heap.size) (by simp)
   replace bx := bx.alloc (.cells #[.slice A l.length cap, .int .i64 m] 24)
   replace sp := sp.alloc (.cells #[.slice A l.length cap, .int .i64 m] 24)
   replace bd := bd.alloc (.cells #[.slice A l.length cap, .int .i64 m] 24)
   replace tt := tt.alloc (.cells #[.slice A l.length cap, .int .i64 m] 24)
   generalize (Wdr.alloc (.cells #[.slice A l.length cap, .int .i64 m] 24)) = Wcx at *
   clear hmc
   clear hscx
   have hsz0 := hC.size
   obtain ⟨ge, hge⟩ : ∃ n, Wcx.heap.size = n := ⟨_, rfl⟩
   have bE : BK (Wcx.alloc (.cells #[] 60)) ge #[] 60 := BK.new' _ _ _ ge hge
   have hCe : Below n0 w (Wcx.alloc (.cells #[] 60)) := Below.alloc hC (by omega) _
   have hbe : Below Wcx.heap.size Wcx (Wcx.alloc (.cells #[] 60)) := Below.alloc (Below.refl _ _) (Nat.le_refl _) _
   have lt0 : ∀ k cs t, BK Wcx k cs t → k ≠ ge := fun k cs t hk => by have := hk.lt; omega
   obtain ⟨gq, cq, w9q, hrun, hown, hbel, hsz9, hkeep, hat⟩ := copy_st (base := n0) bE (by omega) (RS.more (RS.below hT hbe) hbe.size) (by omega) (by omega) (by have := hCe.size; omega)
   have hC9 := hbel _ hCe
   rw [← hge] at hrun
   have HRUN := Lib.hid hrun
   have HOW := Lib.hid hown
   have bx9 := hkeep _ _ _ (bx.below hbe bx.lt) (lt0 _ _ _ bx)
   have sp9 := hkeep _ _ _ (sp.below hbe sp.lt) (lt0 _ _ _ sp)
   have bd9 := hkeep _ _ _ (bd.below hbe bd.lt) (lt0 _ _ _ bd)
   have tt9 := hkeep _ _ _ (tt.below hbe tt.lt) (lt0 _ _ _ tt)
   have cx9 := hkeep _ _ _ (cx.below hbe cx.lt) (lt0 _ _ _ cx)
   have lcx9 := cx9.lt
   have cx9c0 := cx9.cell 0
   have cx9c1 := cx9.cell 1
   simp at cx9c0 cx9c1
   have cx9f0 := cx9.frozen 0
   have cx9f1 := cx9.frozen 1
   have lbx := bx.lt
   have bxc0 := bx.cell 0
   have bxc1 := bx.cell 1
   simp at bxc0 bxc1
   clear hrun hown hbel hsz9 hkeep hat bE lt0 hsz0 hge
   go_wp2_with (at_builtin; refine wpList_append_run rfl (.tmp 223) (.tmp 225) 22 _ rfl HRUN.out ?_)
   clear lcx9 cx9c0 cx9c1
   clear lbx bxc0 bxc1
   clear cx9f0 cx9f1
   have cxA := cx9.set 0 (.slice (some ⟨gq, 0, none⟩) l.length cq)
   simp at cxA
   have hownA := own_set (i := 0) (u := (.slice (some ⟨gq, 0, none⟩) l.length cq)) HOW.out cx9 (by decide)
   have hCA : Below n0 w (w9q.setCell ⟨mc, 0, none⟩ (.slice (some ⟨gq, 0, none⟩) l.length cq)) := Below.setCell hC9 (by show n0 ≤ mc; omega) _
   have bxA := bx9.far (p := ⟨mc, 0, none⟩) (by show n0 ≠ mc; omega) (.slice (some ⟨gq, 0, none⟩) l.length cq)
   have spA := sp9.far (p := ⟨mc, 0, none⟩) (by show m1 ≠ mc; omega) (.slice (some ⟨gq, 0, none⟩) l.length cq)
   have bdA := bd9.far (p := ⟨mc, 0, none⟩) (by show m2 ≠ mc; omega) (.slice (some ⟨gq, 0, none⟩) l.length cq)
   have ttA := tt9.far (p := ⟨mc, 0, none⟩) (by show m5 ≠ mc; omega) (.slice (some ⟨gq, 0, none⟩) l.length cq)
   clear bx sp bd tt cx hC hT bx9 sp9 bd9 tt9 cx9 hC9 hCe hbe
   generalize (w9q.setCell ⟨mc, 0, none⟩ (.slice (some ⟨gq, 0, none⟩) l.length cq)) = X1 at *
   have bx := bxA
   have sp := spA
   have bd := bdA
   have tt := ttA
   have cx := cxA
   have hC := hCA
   have hT : RT X1 X1.heap.size (.slice A l.length cap) l := RS.more (RS.below H0.out hC) (by have := hC.size; omega)
   clear bxA spA bdA ttA cxA hCA
   have lbx := bx.lt
   have bxc0 := bx.cell 0
   have bxc1 := bx.cell 1
   simp at bxc0 bxc1
   have lcx := cx.lt
   have cxc0 := cx.cell 0
   have cxc1 := cx.cell 1
   simp at cxc0 cxc1
   obtain ⟨A', cap', b', off', hve, hA, hc⟩ := RT.cells hT
   obtain ⟨rfl, hbb⟩ := hA (by omega)
   injection hve with q1 q2 q3
   subst q1 q3
   have hd0 := (hc i HI.out).1
   rw [HSS.out] at hd0
   dsimp only at hd0
   have hi3 : (i : Int) < (l.length : Int) := by have := HI.out; omega
   have hi4 : i < l.length := HI.out
   have wba : IntKind.i64.wrap (b + a) = b + a := by rw [IntKind.wrap_i64]; omega
   have lgq := own_lt hownA
   clear hA hc q2
   refine wp_region_noPanic (plain_any [0, 1, 2, 3, 4, 5, 6, 7, 8, 9, 10, 11, 12, 13, 14, 15, 16, 17, 18, 20, 21] (Below X1.heap.size X1) mixed ?_)
   refine any_tk 0 ?_
   refine any_tk 1 ?_
   refine any_tk 2 ?_
   refine any_tk 3 ?_
   refine any_tk 4 ?_
   refine any_tk 5 ?_
   refine any_tk 6 ?_
   refine any_tk 7 ?_
   refine any_tk 8 ?_
   refine any_tk 9 ?_
   refine any_tk 10 ?_
   refine any_tk 11 ?_
   refine any_tk 12 ?_
   refine any_tk 13 ?_
   refine any_tk 14 ?_
   refine any_tk 15 ?_
   refine any_tk 16 ?_
   refine any_tk 17 ?_
   refine any_tk 18 ?_
   have hd0z : Below X1.heap.size X1 X1.drew := by exact bel_of
   refine any_run1 (i := 19) (by kernel_rfl) (by rfl) (by kernel_rfl) ?_
   intro K3 hK3
   go_wp2_with fail
   refine (rg_any (b + a) (b + a) _).mono ?_
   rintro e Vz ⟨rfl, hb1⟩
   have hb01 : Below X1.heap.size X1 Vz := hd0z.trans (hb1.mono hd0z.size)
   refine hK3 _ _ (fun _ => hb01) ?_
   clear hK3 K3 hb1
   refine any_tk 20 ?_
   refine any_tk 21 ?_
   have hown2 := own_below hownA hb01
   obtain ⟨z0, z1, z2, z3⟩ := encS_at HI.out
   have hrs := RS.of_own hown2
   obtain ⟨Aq, capq, bq, offq, hvq, hlq, hAq, hcq⟩ := hrs
   obtain ⟨hAq, -⟩ := hAq (by omega)
   injection hvq with q1 q2 q3
   rw [← q1] at hAq
   injection hAq with hAq
   injection hAq with hAq hAo
   subst hAq hAo
   have y1 := (hcq (i * 4 + 1) (by rw [hlq.1]; omega)).trans z1
   have y2 := (hcq (i * 4 + 2) (by rw [hlq.1]; omega)).trans z2
   rw [Nat.zero_add] at y1 y2
   have f1 := own_frozen hown2 (i * 4 + 1)
   have f2 := own_frozen hown2 (i * 4 + 2)
   have lgz : gq < Vz.heap.size := (own_lt hown2).2
   have hbx := bx.below hb01 bx.lt
   have hsp := sp.below hb01 sp.lt
   have hbd := bd.below hb01 bd.lt
   have hcx := cx.below hb01 cx.lt
   have hCz : Below n0 w Vz := hC.trans (hb01.mono (by have := hC.size; omega))
   have hput := put_rng (g := gq) hown2 HI.out (b + a) (b + a)
   rw [HSS.out] at hput
   have hCU := HCU.out
   unfold cutS at hCU
   rw [HSS.out] at hCU
   dsimp only at hCU hput
   rw [hCU] at hput
   clear z0 z1 z2 z3 hlq hcq q1 q2 q3 hCU bx sp bd cx tt hC hT
   refine any_run1 (i := 22) (by kernel_rfl) (by rfl) (by kernel_rfl) ?_
   intro K3 hK3
   go_wp2_with fail
   refine hK3 _ _ (fun hx => (Bool.false_ne_true (hx.symm.trans (by kernel_rfl))).elim) ?_
   clear hK3 K3
   refine any_done (by kernel_rfl) (NoPanic.normal ?_)
   clear y1 y2 f1 f2
   clear lbx bxc0 bxc1
   clear lcx cxc0 cxc1
   clear hbb hd0 wba
   have bx := BK.far (BK.far hbx (p := ⟨gq, i * 4 + 1, none⟩) (fun hq : _ = gq => by
     obtain ⟨cc, hcc⟩ := own_block hown2 (g := gq) rfl
     unfold BK at hbx
     rw [hq, hcc] at hbx
     injection hbx with hh
     injection hh with _ hh
     exact absurd hh (by decide)) (.int .i64 (b + a))) (p := ⟨gq, i * 4 + 2, none⟩) (fun hq : _ = gq => by
     obtain ⟨cc, hcc⟩ := own_block hown2 (g := gq) rfl
     unfold BK at hbx
     rw [hq, hcc] at hbx
     injection hbx with hh
     injection hh with _ hh
     exact absurd hh (by decide)) (.int .i64 (b + a))
   have sp := BK.far (BK.far hsp (p := ⟨gq, i * 4 + 1, none⟩) (fun hq : _ = gq => by
     obtain ⟨cc, hcc⟩ := own_block hown2 (g := gq) rfl
     unfold BK at hsp
     rw [hq, hcc] at hsp
     injection hsp with hh
     injection hh with _ hh
     exact absurd hh (by decide)) (.int .i64 (b + a))) (p := ⟨gq, i * 4 + 2, none⟩) (fun hq : _ = gq => by
     obtain ⟨cc, hcc⟩ := own_block hown2 (g := gq) rfl
     unfold BK at hsp
     rw [hq, hcc] at hsp
     injection hsp with hh
     injection hh with _ hh
     exact absurd hh (by decide)) (.int .i64 (b + a))
   have bd := BK.far (BK.far hbd (p := ⟨gq, i * 4 + 1, none⟩) (fun hq : _ = gq => by
     obtain ⟨cc, hcc⟩ := own_block hown2 (g := gq) rfl
     unfold BK at hbd
     rw [hq, hcc] at hbd
     injection hbd with hh
     injection hh with _ hh
     exact absurd hh (by decide)) (.int .i64 (b + a))) (p := ⟨gq, i * 4 + 2, none⟩) (fun hq : _ = gq => by
     obtain ⟨cc, hcc⟩ := own_block hown2 (g := gq) rfl
     unfold BK at hbd
     rw [hq, hcc] at hbd
     injection hbd with hh
     injection hh with _ hh
     exact absurd hh (by decide)) (.int .i64 (b + a))
   have cx := BK.far (BK.far hcx (p := ⟨gq, i * 4 + 1, none⟩) (fun hq : _ = gq => by
     obtain ⟨cc, hcc⟩ := own_block hown2 (g := gq) rfl
     unfold BK at hcx
     rw [hq, hcc] at hcx
     injection hcx with hh
     injection hh with _ hh
     exact absurd hh (by decide)) (.int .i64 (b + a))) (p := ⟨gq, i * 4 + 2, none⟩) (fun hq : _ = gq => by
     obtain ⟨cc, hcc⟩ := own_block hown2 (g := gq) rfl
     unfold BK at hcx
     rw [hq, hcc] at hcx
     injection hcx with hh
     injection hh with _ hh
     exact absurd hh (by decide)) (.int .i64 (b + a))
   have hC : Below n0 w ((Vz.setCell ⟨gq, i * 4 + 1, none⟩ (.int .i64 (b + a))).setCell ⟨gq, i * 4 + 2, none⟩ (.int .i64 (b + a))) := Below.setCell (Below.setCell hCz (by show n0 ≤ gq; omega) _) (by show n0 ≤ gq; omega) _
   clear hbx hsp hbd hcx hCz hown2 hownA hb01 hd0z
   generalize ((Vz.setCell ⟨gq, i * 4 + 1, none⟩ (.int .i64 (b + a))).setCell ⟨gq, i * 4 + 2, none⟩ (.int .i64 (b + a))) = X2 at *
   have hS := OwnS.rt hput
   have HCL2 := HCl.out
   clear hput
   have lbx := bx.lt
   have bxc0 := bx.cell 0
   have bxc1 := bx.cell 1
   simp at bxc0 bxc1
   have lsp := sp.lt
   have spc0 := sp.cell 0
   have spc1 := sp.cell 1
   simp at spc0 spc1
   have lbd := bd.lt
   have bdc0 := bd.cell 0
   have bdc1 := bd.cell 1
   simp at bdc0 bdc1
   have lcx := cx.lt
   have cxc0 := cx.cell 0
   have cxc1 := cx.cell 1
   simp at cxc0 cxc1
   go_wp2_with fail
   clear lbx bxc0 bxc1
   clear lsp spc0 spc1
   clear lbd bdc0 bdc1
   clear lcx cxc0 cxc1
   obtain ⟨cc, hcc⟩ : ∃ x, bstE C m = x := ⟨_, rfl⟩
   have HCC := Lib.hid hcc
   clear hcc
   refine (Best_any C _ m _ (by omega) hS).mono ?_
   rintro e w8 ⟨u_c, rfl, hown, hb⟩
   replace hC : Below n0 w w8 := hC.trans (hb.mono (by have := hC.size; omega))
   replace bx := bx.below hb bx.lt
   replace sp := sp.below hb sp.lt
   replace bd := bd.below hb bd.lt
   replace cx := cx.below hb cx.lt
   replace hS := (RS.below hS hb).more hb.size
   clear hb
   clear hown
   have hcb := HCB.out
   rw [HCU.out] at hcb
   by_cases hb1 : b < lo
   case pos =>
     rw [hcb.1 (by omega)]
     clear hcb
     have lbx := bx.lt
     have bxc0 := bx.cell 0
     have bxc1 := bx.cell 1
     simp at bxc0 bxc1
     have lsp := sp.lt
     have spc0 := sp.cell 0
     have spc1 := sp.cell 1
     simp at spc0 spc1
     have lbd := bd.lt
     have bdc0 := bd.cell 0
     have bdc1 := bd.cell 1
     simp at bdc0 bdc1
     have lcx := cx.lt
     have cxc0 := cx.cell 0
     have cxc1 := cx.cell 1
     simp at cxc0 cxc1
     go_wp2_with fail
     clear lbx bxc0 bxc1
     clear lsp spc0 spc1
     clear lbd bdc0 bdc1
     clear lcx cxc0 cxc1
     refine (works_any _).mono ?_
     rintro e w9 ⟨rfl, hb⟩
     replace hC : Below n0 w w9 := hC.trans (hb.mono (by have := hC.size; omega))
     replace bx := bx.below hb bx.lt
     replace sp := sp.below hb sp.lt
     replace bd := bd.below hb bd.lt
     replace cx := cx.below hb cx.lt
     replace hS := (RS.below hS hb).more hb.size
     clear hb
     go_wp2_with fail
     exact bodyPost_ret (v := .bool true) (by simp [results, Try.results9, go_sem]) rfl ⟨rfl, by first | exact hC | (rw [hn0]; exact hC) | (with_reducible rw [hn0]; exact bel_of) | exact bel_of⟩
   by_cases hb2 : b > hi'
   case pos =>
     rw [hcb.1 (by omega)]
     clear hcb
     have lbx := bx.lt
     have bxc0 := bx.cell 0
     have bxc1 := bx.cell 1
     simp at bxc0 bxc1
     have lsp := sp.lt
     have spc0 := sp.cell 0
     have spc1 := sp.cell 1
     simp at spc0 spc1
     have lbd := bd.lt
     have bdc0 := bd.cell 0
     have bdc1 := bd.cell 1
     simp at bdc0 bdc1
     have lcx := cx.lt
     have cxc0 := cx.cell 0
     have cxc1 := cx.cell 1
     simp at cxc0 cxc1
     go_wp2_with fail
     clear lbx bxc0 bxc1
     clear lsp spc0 spc1
     clear lbd bdc0 bdc1
     clear lcx cxc0 cxc1
     refine (works_any _).mono ?_
     rintro e w9 ⟨rfl, hb⟩
     replace hC : Below n0 w w9 := hC.trans (hb.mono (by have := hC.size; omega))
     replace bx := bx.below hb bx.lt
     replace sp := sp.below hb sp.lt
     replace bd := bd.below hb bd.lt
     replace cx := cx.below hb cx.lt
     replace hS := (RS.below hS hb).more hb.size
     clear hb
     go_wp2_with fail
     exact bodyPost_ret (v := .bool true) (by simp [results, Try.results9, go_sem]) rfl ⟨rfl, by first | exact hC | (rw [hn0]; exact hC) | (with_reducible rw [hn0]; exact bel_of) | exact bel_of⟩
   obtain ⟨cv, hcv1, hcv2⟩ := hcb.2 (by omega)
   rw [hcv1]
   have hcv3 : cv ≥ c0 := hcv2
   clear hcb hcv1
   have lbx := bx.lt
   have bxc0 := bx.cell 0
   have bxc1 := bx.cell 1
   simp at bxc0 bxc1
   have lsp := sp.lt
   have spc0 := sp.cell 0
   have spc1 := sp.cell 1
   simp at spc0 spc1
   have lbd := bd.lt
   have bdc0 := bd.cell 0
   have bdc1 := bd.cell 1
   simp at bdc0 bdc1
   have lcx := cx.lt
   have cxc0 := cx.cell 0
   have cxc1 := cx.cell 1
   simp at cxc0 cxc1
   go_wp2_with fail
   clear lbx bxc0 bxc1
   clear lsp spc0 spc1
   clear lbd bdc0 bdc1
   clear lcx cxc0 cxc1
   refine (works_any _).mono ?_
   rintro e w9 ⟨rfl, hb⟩
   replace hC : Below n0 w w9 := hC.trans (hb.mono (by have := hC.size; omega))
   replace bx := bx.below hb bx.lt
   replace sp := sp.below hb sp.lt
   replace bd := bd.below hb bd.lt
   replace cx := cx.below hb cx.lt
   replace hS := (RS.below hS hb).more hb.size
   clear hb
   go_wp2_with fail
   exact bodyPost_ret (v := .bool true) (by simp [results, Try.results9, go_sem]) rfl ⟨rfl, by first | exact hC | (rw [hn0]; exact hC) | (with_reducible rw [hn0]; exact bel_of) | exact bel_of⟩
  ·skip
   have j1 : d ≥ sa := by omega
   have j2 : ¬ d ≤ sb := by omega
   have j3 : (v == c0) = false := beq_eq_false_iff_ne.2 hvc
   have j4 : ¬ v < c0 := by omega
   have HV := Lib.hid (And.intro hv1 hv2)
   have j5 : ¬ v' > v := by omega
   have wd : IntKind.i64.wrap (d - 1) = d - 1 := by rw [IntKind.wrap_i64]; have := HDR.out; omega
   clear hv1 hv2 hvc hcv
   have lbx := bx.lt
   have bxc0 := bx.cell 0
   have bxc1 := bx.cell 1
   simp at bxc0 bxc1
   have lsp := sp.lt
   have spc0 := sp.cell 0
   have spc1 := sp.cell 1
   simp at spc0 spc1
   have lbd := bd.lt
   have bdc0 := bd.cell 0
   have bdc1 := bd.cell 1
   simp at bdc0 bdc1
   go_wp2_with fail
   clear lbx bxc0 bxc1
   clear lsp spc0 spc1
   clear lbd bdc0 bdc1
   refine (Least_any l _ m _ (d - 1) _ hlk hT).mono ?_
   rintro e w6 ⟨rfl, hb⟩
   replace hC : Below n0 w w6 := hC.trans (hb.mono (by have := hC.size; omega))
   replace hT := (RS.below hT hb).more hb.size
   replace bx := bx.below hb bx.lt
   replace sp := sp.below hb sp.lt
   replace bd := bd.below hb bd.lt
   clear hb
   rw [HV.out.1, HV.out.2]
   have lbx := bx.lt
   have bxc0 := bx.cell 0
   have bxc1 := bx.cell 1
   simp at bxc0 bxc1
   have lsp := sp.lt
   have spc0 := sp.cell 0
   have spc1 := sp.cell 1
   simp at spc0 spc1
   have lbd := bd.lt
   have bdc0 := bd.cell 0
   have bdc1 := bd.cell 1
   simp at bdc0 bdc1
   go_wp2_with fail
   clear lbx bxc0 bxc1
   clear lsp spc0 spc1
   clear lbd bdc0 bdc1
   clear wn
   refine (tube_any l _ m _ _ HOK.out.all h20 (by have := HI.out; omega) hT).mono ?_
   rintro e w7 ⟨rfl, hb⟩
   replace hC : Below n0 w w7 := hC.trans (hb.mono (by have := hC.size; omega))
   replace hT := (RS.below hT hb).more hb.size
   replace bx := bx.below hb bx.lt
   replace sp := sp.below hb sp.lt
   replace bd := bd.below hb bd.lt
   clear hb
   rw [show tubR l (i : Int) = tub (nthS l i) by unfold tubR; rw [if_neg (by omega), Int.toNat_natCast]]
   obtain ⟨t, ht⟩ : ∃ t, tub (nthS l i) = t := ⟨_, rfl⟩
   rw [ht]
   have HT2 := Lib.hid ht
   have trg := tub_rng (HOK.out.all _ (nthS_mem HI.out))
   rw [ht] at trg
   clear ht
   unfold rV
   have lbx := bx.lt
   have bxc0 := bx.cell 0
   have bxc1 := bx.cell 1
   simp at bxc0 bxc1
   have lsp := sp.lt
   have spc0 := sp.cell 0
   have spc1 := sp.cell 1
   simp at spc0 spc1
   have lbd := bd.lt
   have bdc0 := bd.cell 0
   have bdc1 := bd.cell 1
   simp at bdc0 bdc1
   go_upto_region 24 with fail
   clear lbx bxc0 bxc1
   clear lsp spc0 spc1
   clear lbd bdc0 bdc1
   obtain ⟨m6, hm6⟩ : ∃ n, w7.heap.size = n := ⟨_, rfl⟩
   try rw [hm6]
   have hqtt : n0 ≤ m6 := by have := hC.size; omega
   have tt : BK (w7.alloc (.cells #[.int .i64 t.lo, .int .i64 t.hi] 42)) (m6) #[.int .i64 t.lo, .int .i64 t.hi] 42 := BK.new' _ _ _ (m6) hm6
   have hstt : (w7.alloc (.cells #[.int .i64 t.lo, .int .i64 t.hi] 42)).heap.size = m6 + 1 := by simp [hm6]
   replace hC : Below n0 w (w7.alloc (.cells #[.int .i64 t.lo, .int .i64 t.hi] 42)) := Below.alloc hC (by have := hC.size; omega) _
   replace hT := (RS.below hT (w' := (w7.alloc (.cells #[.int .i64 t.lo, .int .i64 t.hi] 42))) (Below.alloc (Below.refl _ _) (Nat.le_refl _) _)).more (B' := (w7.alloc (.cells #[.int .i64 t.lo, .int .i64 t.hi] 42)).heap.size) (by simp)
   replace bx := bx.alloc (.cells #[.int .i64 t.lo, .int .i64 t.hi] 42)
   replace sp := sp.alloc (.cells #[.int .i64 t.lo, .int .i64 t.hi] 42)
   replace bd := bd.alloc (.cells #[.int .i64 t.lo, .int .i64 t.hi] 42)
   generalize (w7.alloc (.cells #[.int .i64 t.lo, .int .i64 t.hi] 42)) = Wtt at *
   clear hm6
   clear hstt
   have h1 := H1.out
   obtain ⟨r, hr⟩ : ∃ r, (x1 : Int) % (t.hi - t.lo + 1) = r := ⟨_, rfl⟩
   have hr0 : 0 ≤ r ∧ r < t.hi - t.lo + 1 := by rw [← hr]; exact ⟨Int.emod_nonneg _ (by omega), Int.emod_lt_of_pos _ (by omega)⟩
   obtain ⟨b, hb⟩ : ∃ b, t.lo + r = b := ⟨_, rfl⟩
   have wx : IntKind.i64.wrap (x1 : Int) = x1 := by rw [IntKind.wrap_i64]; omega
   have wd1 : IntKind.i64.wrap (t.hi - t.lo) = t.hi - t.lo := by rw [IntKind.wrap_i64]; omega
   have wd2 : IntKind.i64.wrap (t.hi - t.lo + 1) = t.hi - t.lo + 1 := by rw [IntKind.wrap_i64]; omega
   have nz : t.hi - t.lo + 1 ≠ 0 := by omega
   have t2 : (x1 : Int).tmod (t.hi - t.lo + 1) = r := by rw [Int.tmod_eq_emod_of_nonneg (by omega), hr]
   have wr : IntKind.i64.wrap r = r := by rw [IntKind.wrap_i64]; omega
   have wb : IntKind.i64.wrap (t.lo + r) = b := by rw [hb, IntKind.wrap_i64]; omega
   have hbr : t.lo ≤ b ∧ b ≤ t.hi := by omega
   clear hr hr0 hb h1
   have lbx := bx.lt
   have bxc0 := bx.cell 0
   have bxc1 := bx.cell 1
   simp at bxc0 bxc1
   have lsp := sp.lt
   have spc0 := sp.cell 0
   have spc1 := sp.cell 1
   simp at spc0 spc1
   have lbd := bd.lt
   have bdc0 := bd.cell 0
   have bdc1 := bd.cell 1
   simp at bdc0 bdc1
   have ltt := tt.lt
   have ttc0 := tt.cell 0
   have ttc1 := tt.cell 1
   simp at ttc0 ttc1
   refine wp_region_noPanic (plain_any [0, 1, 2, 3, 4, 5, 6, 7, 8, 9, 10, 11, 12] (Below Wtt.heap.size Wtt) mixed ?_)
   refine any_tk 0 ?_
   have d0z : Below Wtt.heap.size Wtt Wtt.drew := by exact bel_of
   refine any_tk 1 ?_
   refine any_tk 2 ?_
   refine any_tk 3 ?_
   refine any_tk 4 ?_
   refine any_tk 5 ?_
   refine any_tk 6 ?_
   refine any_tk 7 ?_
   refine any_tk 8 ?_
   refine any_tk 9 ?_
   refine any_tk 10 ?_
   refine any_tk 11 ?_
   refine any_tk 12 ?_
   refine any_done (by kernel_rfl) (NoPanic.normal ?_)
   have hb := d0z
   replace hC : Below n0 w Wtt.drew := hC.trans (hb.mono (by have := hC.size; omega))
   replace hT := (RS.below hT hb).more hb.size
   replace bx := bx.below hb bx.lt
   replace sp := sp.below hb sp.lt
   replace bd := bd.below hb bd.lt
   replace tt := tt.below hb tt.lt
   clear hb
   clear lbx bxc0 bxc1
   clear lsp spc0 spc1
   clear lbd bdc0 bdc1
   clear ltt ttc0 ttc1
   generalize Wtt.drew = Wdr at *
   clear wx wd1 wd2 nz t2 wr wb trg
   rw [← HT2.out] at hbr
   have hcb := cut_bst HOK.out HI.out hbr HTH.out HC0.out
   have HCB := Lib.hid hcb
   have hos := okS_at HOK.out.all HI.out
   obtain ⟨C, hCut⟩ : ∃ C, cutS l i b = C := ⟨_, rfl⟩
   have HCU := Lib.hid hCut
   have HCl := Lib.hid (show C.length = l.length by rw [← hCut]; unfold cutS; rw [List.length_set])
   obtain ⟨⟨a, glo, ghi, hd⟩, hss⟩ : ∃ s, nthS l i = s := ⟨_, rfl⟩
   have hba : -10000 ≤ b + a ∧ b + a ≤ 10000 := by rw [hss] at hbr hos; simp only [tub] at hbr; dsimp only at hos; omega
   have HSS := Lib.hid hss
   clear hcb hCut hos hss hbr HT2
   have lbx := bx.lt
   have bxc0 := bx.cell 0
   have bxc1 := bx.cell 1
   simp at bxc0 bxc1
   have lsp := sp.lt
   have spc0 := sp.cell 0
   have spc1 := sp.cell 1
   simp at spc0 spc1
   have lbd := bd.lt
   have bdc0 := bd.cell 0
   have bdc1 := bd.cell 1
   simp at bdc0 bdc1
   have ltt := tt.lt
   have ttc0 := tt.cell 0
   have ttc1 := tt.cell 1
   simp at ttc0 ttc1
   go_upto_region 26 with fail
   clear lbx bxc0 bxc1
   clear lsp spc0 spc1
   clear lbd bdc0 bdc1
   clear ltt ttc0 ttc1
   have lbn := bx.lt
   have lsn := sp.lt
   have ldn := bd.lt
   have ltn := tt.lt
   obtain ⟨mc, hmc⟩ : ∃ n, Wdr.heap.size = n := ⟨_, rfl⟩
   try rw [hmc]
   rw [hmc] at lbn lsn ldn ltn
   have hqcx : n0 ≤ mc := by have := hC.size; omega
   have cx : BK (Wdr.alloc (.cells #[.slice A l.length cap, .int .i64 m] 24)) (mc) #[.slice A l.length cap, .int .i64 m] 24 := BK.new' _ _ _ (mc) hmc
   have hscx : (Wdr.alloc (.cells #[.slice A l.length cap, .int .i64 m] 24)).heap.size = mc + 1 := by simp [hmc]
   replace hC : Below n0 w (Wdr.alloc (.cells #[.slice A l.length cap, .int .i64 m] 24)) := Below.alloc hC (by have := hC.size; omega) _
   replace hT := (RS.below hT (w' := (Wdr.alloc (.cells #[.slice A l.length cap, .int .i64 m] 24))) (Below.alloc (Below.refl _ _) (Nat.le_refl _) _)).more (B' := (Wdr.alloc (.cells #[.slice A l.length cap, .int .i64 m] 24)).heap.size) (by simp)
   replace bx := bx.alloc (.cells #[.slice A l.length cap, .int .i64 m] 24)
   replace sp := sp.alloc (.cells #[.slice A l.length cap, .int .i64 m] 24)
   replace bd := bd.alloc (.cells #[.slice A l.length cap, .int .i64 m] 24)
   replace tt := tt.alloc (.cells #[.slice A l.length cap, .int .i64 m] 24)
   generalize (Wdr.alloc (.cells #[.slice A l.length cap, .int .i64 m] 24)) = Wcx at *
   clear hmc
   clear hscx
   have hsz0 := hC.size
   obtain ⟨ge, hge⟩ : ∃ n, Wcx.heap.size = n := ⟨_, rfl⟩
   have bE : BK (Wcx.alloc (.cells #[] 60)) ge #[] 60 := BK.new' _ _ _ ge hge
   have hCe : Below n0 w (Wcx.alloc (.cells #[] 60)) := Below.alloc hC (by omega) _
   have hbe : Below Wcx.heap.size Wcx (Wcx.alloc (.cells #[] 60)) := Below.alloc (Below.refl _ _) (Nat.le_refl _) _
   have lt0 : ∀ k cs t, BK Wcx k cs t → k ≠ ge := fun k cs t hk => by have := hk.lt; omega
   obtain ⟨gq, cq, w9q, hrun, hown, hbel, hsz9, hkeep, hat⟩ := copy_st (base := n0) bE (by omega) (RS.more (RS.below hT hbe) hbe.size) (by omega) (by omega) (by have := hCe.size; omega)
   have hC9 := hbel _ hCe
   rw [← hge] at hrun
   have HRUN := Lib.hid hrun
   have HOW := Lib.hid hown
   have bx9 := hkeep _ _ _ (bx.below hbe bx.lt) (lt0 _ _ _ bx)
   have sp9 := hkeep _ _ _ (sp.below hbe sp.lt) (lt0 _ _ _ sp)
   have bd9 := hkeep _ _ _ (bd.below hbe bd.lt) (lt0 _ _ _ bd)
   have tt9 := hkeep _ _ _ (tt.below hbe tt.lt) (lt0 _ _ _ tt)
   have cx9 := hkeep _ _ _ (cx.below hbe cx.lt) (lt0 _ _ _ cx)
   have lcx9 := cx9.lt
   have cx9c0 := cx9.cell 0
   have cx9c1 := cx9.cell 1
   simp at cx9c0 cx9c1
   have cx9f0 := cx9.frozen 0
   have cx9f1 := cx9.frozen 1
   have lbx := bx.lt
   have bxc0 := bx.cell 0
   have bxc1 := bx.cell 1
   simp at bxc0 bxc1
   clear hrun hown hbel hsz9 hkeep hat bE lt0 hsz0 hge
   go_wp2_with (at_builtin; refine wpList_append_run rfl (.tmp 223) (.tmp 225) 22 _ rfl HRUN.out ?_)
   clear lcx9 cx9c0 cx9c1
   clear lbx bxc0 bxc1
   clear cx9f0 cx9f1
   have cxA := cx9.set 0 (.slice (some ⟨gq, 0, none⟩) l.length cq)
   simp at cxA
   have hownA := own_set (i := 0) (u := (.slice (some ⟨gq, 0, none⟩) l.length cq)) HOW.out cx9 (by decide)
   have hCA : Below n0 w (w9q.setCell ⟨mc, 0, none⟩ (.slice (some ⟨gq, 0, none⟩) l.length cq)) := Below.setCell hC9 (by show n0 ≤ mc; omega) _
   have bxA := bx9.far (p := ⟨mc, 0, none⟩) (by show n0 ≠ mc; omega) (.slice (some ⟨gq, 0, none⟩) l.length cq)
   have spA := sp9.far (p := ⟨mc, 0, none⟩) (by show m1 ≠ mc; omega) (.slice (some ⟨gq, 0, none⟩) l.length cq)
   have bdA := bd9.far (p := ⟨mc, 0, none⟩) (by show m2 ≠ mc; omega) (.slice (some ⟨gq, 0, none⟩) l.length cq)
   have ttA := tt9.far (p := ⟨mc, 0, none⟩) (by show m6 ≠ mc; omega) (.slice (some ⟨gq, 0, none⟩) l.length cq)
   clear bx sp bd tt cx hC hT bx9 sp9 bd9 tt9 cx9 hC9 hCe hbe
   generalize (w9q.setCell ⟨mc, 0, none⟩ (.slice (some ⟨gq, 0, none⟩) l.length cq)) = X1 at *
   have bx := bxA
   have sp := spA
   have bd := bdA
   have tt := ttA
   have cx := cxA
   have hC := hCA
   have hT : RT X1 X1.heap.size (.slice A l.length cap) l := RS.more (RS.below H0.out hC) (by have := hC.size; omega)
   clear bxA spA bdA ttA cxA hCA
   have lbx := bx.lt
   have bxc0 := bx.cell 0
   have bxc1 := bx.cell 1
   simp at bxc0 bxc1
   have lcx := cx.lt
   have cxc0 := cx.cell 0
   have cxc1 := cx.cell 1
   simp at cxc0 cxc1
   obtain ⟨A', cap', b', off', hve, hA, hc⟩ := RT.cells hT
   obtain ⟨rfl, hbb⟩ := hA (by omega)
   injection hve with q1 q2 q3
   subst q1 q3
   have hd0 := (hc i HI.out).1
   rw [HSS.out] at hd0
   dsimp only at hd0
   have hi3 : (i : Int) < (l.length : Int) := by have := HI.out; omega
   have hi4 : i < l.length := HI.out
   have wba : IntKind.i64.wrap (b + a) = b + a := by rw [IntKind.wrap_i64]; omega
   have lgq := own_lt hownA
   clear hA hc q2
   refine wp_region_noPanic (plain_any [0, 1, 2, 3, 4, 5, 6, 7, 8, 9, 10, 11, 12, 13, 14, 15, 16, 17, 18, 20, 21] (Below X1.heap.size X1) mixed ?_)
   refine any_tk 0 ?_
   refine any_tk 1 ?_
   refine any_tk 2 ?_
   refine any_tk 3 ?_
   refine any_tk 4 ?_
   refine any_tk 5 ?_
   refine any_tk 6 ?_
   refine any_tk 7 ?_
   refine any_tk 8 ?_
   refine any_tk 9 ?_
   refine any_tk 10 ?_
   refine any_tk 11 ?_
   refine any_tk 12 ?_
   refine any_tk 13 ?_
   refine any_tk 14 ?_
   refine any_tk 15 ?_
   refine any_tk 16 ?_
   refine any_tk 17 ?_
   refine any_tk 18 ?_
   have hd0z : Below X1.heap.size X1 X1.drew := by exact bel_of
   refine any_run1 (i := 19) (by kernel_rfl) (by rfl) (by kernel_rfl) ?_
   intro K3 hK3
   go_wp2_with fail
   refine (rg_any (b + a) (b + a) _).mono ?_
   rintro e Vz ⟨rfl, hb1⟩
   have hb01 : Below X1.heap.size X1 Vz := hd0z.trans (hb1.mono hd0z.size)
   refine hK3 _ _ (fun _ => hb01) ?_
   clear hK3 K3 hb1
   refine any_tk 20 ?_
   refine any_tk 21 ?_
   have hown2 := own_below hownA hb01
   obtain ⟨z0, z1, z2, z3⟩ := encS_at HI.out
   have hrs := RS.of_own hown2
   obtain ⟨Aq, capq, bq, offq, hvq, hlq, hAq, hcq⟩ := hrs
   obtain ⟨hAq, -⟩ := hAq (by omega)
   injection hvq with q1 q2 q3
   rw [← q1] at hAq
   injection hAq with hAq
   injection hAq with hAq hAo
   subst hAq hAo
   have y1 := (hcq (i * 4 + 1) (by rw [hlq.1]; omega)).trans z1
   have y2 := (hcq (i * 4 + 2) (by rw [hlq.1]; omega)).trans z2
   rw [Nat.zero_add] at y1 y2
   have f1 := own_frozen hown2 (i * 4 + 1)
   have f2 := own_frozen hown2 (i * 4 + 2)
   have lgz : gq < Vz.heap.size := (own_lt hown2).2
   have hbx := bx.below hb01 bx.lt
   have hsp := sp.below hb01 sp.lt
   have hbd := bd.below hb01 bd.lt
   have hcx := cx.below hb01 cx.lt
   have hCz : Below n0 w Vz := hC.trans (hb01.mono (by have := hC.size; omega))
   have hput := put_rng (g := gq) hown2 HI.out (b + a) (b + a)
   rw [HSS.out] at hput
   have hCU := HCU.out
   unfold cutS at hCU
   rw [HSS.out] at hCU
   dsimp only at hCU hput
   rw [hCU] at hput
   clear z0 z1 z2 z3 hlq hcq q1 q2 q3 hCU bx sp bd cx tt hC hT
   refine any_run1 (i := 22) (by kernel_rfl) (by rfl) (by kernel_rfl) ?_
   intro K3 hK3
   go_wp2_with fail
   refine hK3 _ _ (fun hx => (Bool.false_ne_true (hx.symm.trans (by kernel_rfl))).elim) ?_
   clear hK3 K3
   refine any_done (by kernel_rfl) (NoPanic.normal ?_)
   clear y1 y2 f1 f2
   clear lbx bxc0 bxc1
   clear lcx cxc0 cxc1
   clear hbb hd0 wba
   have bx := BK.far (BK.far hbx (p := ⟨gq, i * 4 + 1, none⟩) (fun hq : _ = gq => by
     obtain ⟨cc, hcc⟩ := own_block hown2 (g := gq) rfl
     unfold BK at hbx
     rw [hq, hcc] at hbx
     injection hbx with hh
     injection hh with _ hh
     exact absurd hh (by decide)) (.int .i64 (b + a))) (p := ⟨gq, i * 4 + 2, none⟩) (fun hq : _ = gq => by
     obtain ⟨cc, hcc⟩ := own_block hown2 (g := gq) rfl
     unfold BK at hbx
     rw [hq, hcc] at hbx
     injection hbx with hh
     injection hh with _ hh
     exact absurd hh (by decide)) (.int .i64 (b + a))
   have sp := BK.far (BK.far hsp (p := ⟨gq, i * 4 + 1, none⟩) (fun hq : _ = gq => by
     obtain ⟨cc, hcc⟩ := own_block hown2 (g := gq) rfl
     unfold BK at hsp
     rw [hq, hcc] at hsp
     injection hsp with hh
     injection hh with _ hh
     exact absurd hh (by decide)) (.int .i64 (b + a))) (p := ⟨gq, i * 4 + 2, none⟩) (fun hq : _ = gq => by
     obtain ⟨cc, hcc⟩ := own_block hown2 (g := gq) rfl
     unfold BK at hsp
     rw [hq, hcc] at hsp
     injection hsp with hh
     injection hh with _ hh
     exact absurd hh (by decide)) (.int .i64 (b + a))
   have bd := BK.far (BK.far hbd (p := ⟨gq, i * 4 + 1, none⟩) (fun hq : _ = gq => by
     obtain ⟨cc, hcc⟩ := own_block hown2 (g := gq) rfl
     unfold BK at hbd
     rw [hq, hcc] at hbd
     injection hbd with hh
     injection hh with _ hh
     exact absurd hh (by decide)) (.int .i64 (b + a))) (p := ⟨gq, i * 4 + 2, none⟩) (fun hq : _ = gq => by
     obtain ⟨cc, hcc⟩ := own_block hown2 (g := gq) rfl
     unfold BK at hbd
     rw [hq, hcc] at hbd
     injection hbd with hh
     injection hh with _ hh
     exact absurd hh (by decide)) (.int .i64 (b + a))
   have cx := BK.far (BK.far hcx (p := ⟨gq, i * 4 + 1, none⟩) (fun hq : _ = gq => by
     obtain ⟨cc, hcc⟩ := own_block hown2 (g := gq) rfl
     unfold BK at hcx
     rw [hq, hcc] at hcx
     injection hcx with hh
     injection hh with _ hh
     exact absurd hh (by decide)) (.int .i64 (b + a))) (p := ⟨gq, i * 4 + 2, none⟩) (fun hq : _ = gq => by
     obtain ⟨cc, hcc⟩ := own_block hown2 (g := gq) rfl
     unfold BK at hcx
     rw [hq, hcc] at hcx
     injection hcx with hh
     injection hh with _ hh
     exact absurd hh (by decide)) (.int .i64 (b + a))
   have hC : Below n0 w ((Vz.setCell ⟨gq, i * 4 + 1, none⟩ (.int .i64 (b + a))).setCell ⟨gq, i * 4 + 2, none⟩ (.int .i64 (b + a))) := Below.setCell (Below.setCell hCz (by show n0 ≤ gq; omega) _) (by show n0 ≤ gq; omega) _
   clear hbx hsp hbd hcx hCz hown2 hownA hb01 hd0z
   generalize ((Vz.setCell ⟨gq, i * 4 + 1, none⟩ (.int .i64 (b + a))).setCell ⟨gq, i * 4 + 2, none⟩ (.int .i64 (b + a))) = X2 at *
   have hS := OwnS.rt hput
   have HCL2 := HCl.out
   clear hput
   have lbx := bx.lt
   have bxc0 := bx.cell 0
   have bxc1 := bx.cell 1
   simp at bxc0 bxc1
   have lsp := sp.lt
   have spc0 := sp.cell 0
   have spc1 := sp.cell 1
   simp at spc0 spc1
   have lbd := bd.lt
   have bdc0 := bd.cell 0
   have bdc1 := bd.cell 1
   simp at bdc0 bdc1
   have lcx := cx.lt
   have cxc0 := cx.cell 0
   have cxc1 := cx.cell 1
   simp at cxc0 cxc1
   go_wp2_with fail
   clear lbx bxc0 bxc1
   clear lsp spc0 spc1
   clear lbd bdc0 bdc1
   clear lcx cxc0 cxc1
   obtain ⟨cc, hcc⟩ : ∃ x, bstE C m = x := ⟨_, rfl⟩
   have HCC := Lib.hid hcc
   clear hcc
   refine (Best_any C _ m _ (by omega) hS).mono ?_
   rintro e w8 ⟨u_c, rfl, hown, hb⟩
   replace hC : Below n0 w w8 := hC.trans (hb.mono (by have := hC.size; omega))
   replace bx := bx.below hb bx.lt
   replace sp := sp.below hb sp.lt
   replace bd := bd.below hb bd.lt
   replace cx := cx.below hb cx.lt
   replace hS := (RS.below hS hb).more hb.size
   clear hb
   clear hown
   have hcb := HCB.out
   rw [HCU.out] at hcb
   by_cases hb1 : b < lo
   case pos =>
     rw [hcb.1 (by omega)]
     clear hcb
     have lbx := bx.lt
     have bxc0 := bx.cell 0
     have bxc1 := bx.cell 1
     simp at bxc0 bxc1
     have lsp := sp.lt
     have spc0 := sp.cell 0
     have spc1 := sp.cell 1
     simp at spc0 spc1
     have lbd := bd.lt
     have bdc0 := bd.cell 0
     have bdc1 := bd.cell 1
     simp at bdc0 bdc1
     have lcx := cx.lt
     have cxc0 := cx.cell 0
     have cxc1 := cx.cell 1
     simp at cxc0 cxc1
     go_wp2_with fail
     clear lbx bxc0 bxc1
     clear lsp spc0 spc1
     clear lbd bdc0 bdc1
     clear lcx cxc0 cxc1
     refine (works_any _).mono ?_
     rintro e w9 ⟨rfl, hb⟩
     replace hC : Below n0 w w9 := hC.trans (hb.mono (by have := hC.size; omega))
     replace bx := bx.below hb bx.lt
     replace sp := sp.below hb sp.lt
     replace bd := bd.below hb bd.lt
     replace cx := cx.below hb cx.lt
     replace hS := (RS.below hS hb).more hb.size
     clear hb
     go_wp2_with fail
     exact bodyPost_ret (v := .bool true) (by simp [results, Try.results9, go_sem]) rfl ⟨rfl, by first | exact hC | (rw [hn0]; exact hC) | (with_reducible rw [hn0]; exact bel_of) | exact bel_of⟩
   by_cases hb2 : b > hi'
   case pos =>
     rw [hcb.1 (by omega)]
     clear hcb
     have lbx := bx.lt
     have bxc0 := bx.cell 0
     have bxc1 := bx.cell 1
     simp at bxc0 bxc1
     have lsp := sp.lt
     have spc0 := sp.cell 0
     have spc1 := sp.cell 1
     simp at spc0 spc1
     have lbd := bd.lt
     have bdc0 := bd.cell 0
     have bdc1 := bd.cell 1
     simp at bdc0 bdc1
     have lcx := cx.lt
     have cxc0 := cx.cell 0
     have cxc1 := cx.cell 1
     simp at cxc0 cxc1
     go_wp2_with fail
     clear lbx bxc0 bxc1
     clear lsp spc0 spc1
     clear lbd bdc0 bdc1
     clear lcx cxc0 cxc1
     refine (works_any _).mono ?_
     rintro e w9 ⟨rfl, hb⟩
     replace hC : Below n0 w w9 := hC.trans (hb.mono (by have := hC.size; omega))
     replace bx := bx.below hb bx.lt
     replace sp := sp.below hb sp.lt
     replace bd := bd.below hb bd.lt
     replace cx := cx.below hb cx.lt
     replace hS := (RS.below hS hb).more hb.size
     clear hb
     go_wp2_with fail
     exact bodyPost_ret (v := .bool true) (by simp [results, Try.results9, go_sem]) rfl ⟨rfl, by first | exact hC | (rw [hn0]; exact hC) | (with_reducible rw [hn0]; exact bel_of) | exact bel_of⟩
   obtain ⟨cv, hcv1, hcv2⟩ := hcb.2 (by omega)
   rw [hcv1]
   have hcv3 : cv ≥ c0 := hcv2
   clear hcb hcv1
   have lbx := bx.lt
   have bxc0 := bx.cell 0
   have bxc1 := bx.cell 1
   simp at bxc0 bxc1
   have lsp := sp.lt
   have spc0 := sp.cell 0
   have spc1 := sp.cell 1
   simp at spc0 spc1
   have lbd := bd.lt
   have bdc0 := bd.cell 0
   have bdc1 := bd.cell 1
   simp at bdc0 bdc1
   have lcx := cx.lt
   have cxc0 := cx.cell 0
   have cxc1 := cx.cell 1
   simp at cxc0 cxc1
   go_wp2_with fail
   clear lbx bxc0 bxc1
   clear lsp spc0 spc1
   clear lbd bdc0 bdc1
   clear lcx cxc0 cxc1
   refine (works_any _).mono ?_
   rintro e w9 ⟨rfl, hb⟩
   replace hC : Below n0 w w9 := hC.trans (hb.mono (by have := hC.size; omega))
   replace bx := bx.below hb bx.lt
   replace sp := sp.below hb sp.lt
   replace bd := bd.below hb bd.lt
   replace cx := cx.below hb cx.lt
   replace hS := (RS.below hS hb).more hb.size
   clear hb
   go_wp2_with fail
   exact bodyPost_ret (v := .bool true) (by simp [results, Try.results9, go_sem]) rfl ⟨rfl, by first | exact hC | (rw [hn0]; exact hC) | (with_reducible rw [hn0]; exact bel_of) | exact bel_of⟩
  ·skip
   have j1 : d ≥ sa := hda
   have j2 : d ≤ sb := hdb
   have j6 : ¬ d > sb := by omega
   have j7 : ¬ d < sa := by omega
   have j3 : (v == v) = true := beq_self_eq_true v
   have j4 : ¬ v < v := by omega
   have lbx := bx.lt
   have bxc0 := bx.cell 0
   have bxc1 := bx.cell 1
   simp at bxc0 bxc1
   have lsp := sp.lt
   have spc0 := sp.cell 0
   have spc1 := sp.cell 1
   simp at spc0 spc1
   have lbd := bd.lt
   have bdc0 := bd.cell 0
   have bdc1 := bd.cell 1
   simp at bdc0 bdc1
   go_wp2_with fail
   clear lbx bxc0 bxc1
   clear lsp spc0 spc1
   clear lbd bdc0 bdc1
   clear wn
   refine (tube_any l _ m _ _ HOK.out.all h20 (by have := HI.out; omega) hT).mono ?_
   rintro e w6 ⟨rfl, hb⟩
   replace hC : Below n0 w w6 := hC.trans (hb.mono (by have := hC.size; omega))
   replace hT := (RS.below hT hb).more hb.size
   replace bx := bx.below hb bx.lt
   replace sp := sp.below hb sp.lt
   replace bd := bd.below hb bd.lt
   clear hb
   rw [show tubR l (i : Int) = tub (nthS l i) by unfold tubR; rw [if_neg (by omega), Int.toNat_natCast]]
   obtain ⟨t, ht⟩ : ∃ t, tub (nthS l i) = t := ⟨_, rfl⟩
   rw [ht]
   have HT2 := Lib.hid ht
   have trg := tub_rng (HOK.out.all _ (nthS_mem HI.out))
   rw [ht] at trg
   clear ht
   unfold rV
   have lbx := bx.lt
   have bxc0 := bx.cell 0
   have bxc1 := bx.cell 1
   simp at bxc0 bxc1
   have lsp := sp.lt
   have spc0 := sp.cell 0
   have spc1 := sp.cell 1
   simp at spc0 spc1
   have lbd := bd.lt
   have bdc0 := bd.cell 0
   have bdc1 := bd.cell 1
   simp at bdc0 bdc1
   go_upto_region 24 with fail
   clear lbx bxc0 bxc1
   clear lsp spc0 spc1
   clear lbd bdc0 bdc1
   obtain ⟨m7, hm7⟩ : ∃ n, w6.heap.size = n := ⟨_, rfl⟩
   try rw [hm7]
   have hqtt : n0 ≤ m7 := by have := hC.size; omega
   have tt : BK (w6.alloc (.cells #[.int .i64 t.lo, .int .i64 t.hi] 42)) (m7) #[.int .i64 t.lo, .int .i64 t.hi] 42 := BK.new' _ _ _ (m7) hm7
   have hstt : (w6.alloc (.cells #[.int .i64 t.lo, .int .i64 t.hi] 42)).heap.size = m7 + 1 := by simp [hm7]
   replace hC : Below n0 w (w6.alloc (.cells #[.int .i64 t.lo, .int .i64 t.hi] 42)) := Below.alloc hC (by have := hC.size; omega) _
   replace hT := (RS.below hT (w' := (w6.alloc (.cells #[.int .i64 t.lo, .int .i64 t.hi] 42))) (Below.alloc (Below.refl _ _) (Nat.le_refl _) _)).more (B' := (w6.alloc (.cells #[.int .i64 t.lo, .int .i64 t.hi] 42)).heap.size) (by simp)
   replace bx := bx.alloc (.cells #[.int .i64 t.lo, .int .i64 t.hi] 42)
   replace sp := sp.alloc (.cells #[.int .i64 t.lo, .int .i64 t.hi] 42)
   replace bd := bd.alloc (.cells #[.int .i64 t.lo, .int .i64 t.hi] 42)
   generalize (w6.alloc (.cells #[.int .i64 t.lo, .int .i64 t.hi] 42)) = Wtt at *
   clear hm7
   clear hstt
   have h1 := H1.out
   obtain ⟨r, hr⟩ : ∃ r, (x1 : Int) % (t.hi - t.lo + 1) = r := ⟨_, rfl⟩
   have hr0 : 0 ≤ r ∧ r < t.hi - t.lo + 1 := by rw [← hr]; exact ⟨Int.emod_nonneg _ (by omega), Int.emod_lt_of_pos _ (by omega)⟩
   obtain ⟨b, hb⟩ : ∃ b, t.lo + r = b := ⟨_, rfl⟩
   have wx : IntKind.i64.wrap (x1 : Int) = x1 := by rw [IntKind.wrap_i64]; omega
   have wd1 : IntKind.i64.wrap (t.hi - t.lo) = t.hi - t.lo := by rw [IntKind.wrap_i64]; omega
   have wd2 : IntKind.i64.wrap (t.hi - t.lo + 1) = t.hi - t.lo + 1 := by rw [IntKind.wrap_i64]; omega
   have nz : t.hi - t.lo + 1 ≠ 0 := by omega
   have t2 : (x1 : Int).tmod (t.hi - t.lo + 1) = r := by rw [Int.tmod_eq_emod_of_nonneg (by omega), hr]
   have wr : IntKind.i64.wrap r = r := by rw [IntKind.wrap_i64]; omega
   have wb : IntKind.i64.wrap (t.lo + r) = b := by rw [hb, IntKind.wrap_i64]; omega
   have hbr : t.lo ≤ b ∧ b ≤ t.hi := by omega
   clear hr hr0 hb h1
   have lbx := bx.lt
   have bxc0 := bx.cell 0
   have bxc1 := bx.cell 1
   simp at bxc0 bxc1
   have lsp := sp.lt
   have spc0 := sp.cell 0
   have spc1 := sp.cell 1
   simp at spc0 spc1
   have lbd := bd.lt
   have bdc0 := bd.cell 0
   have bdc1 := bd.cell 1
   simp at bdc0 bdc1
   have ltt := tt.lt
   have ttc0 := tt.cell 0
   have ttc1 := tt.cell 1
   simp at ttc0 ttc1
   refine wp_region_noPanic (plain_any [0, 1, 2, 3, 4, 5, 6, 7, 8, 9, 10, 11, 12] (Below Wtt.heap.size Wtt) mixed ?_)
   refine any_tk 0 ?_
   have d0z : Below Wtt.heap.size Wtt Wtt.drew := by exact bel_of
   refine any_tk 1 ?_
   refine any_tk 2 ?_
   refine any_tk 3 ?_
   refine any_tk 4 ?_
   refine any_tk 5 ?_
   refine any_tk 6 ?_
   refine any_tk 7 ?_
   refine any_tk 8 ?_
   refine any_tk 9 ?_
   refine any_tk 10 ?_
   refine any_tk 11 ?_
   refine any_tk 12 ?_
   refine any_done (by kernel_rfl) (NoPanic.normal ?_)
   have hb := d0z
   replace hC : Below n0 w Wtt.drew := hC.trans (hb.mono (by have := hC.size; omega))
   replace hT := (RS.below hT hb).more hb.size
   replace bx := bx.below hb bx.lt
   replace sp := sp.below hb sp.lt
   replace bd := bd.below hb bd.lt
   replace tt := tt.below hb tt.lt
   clear hb
   clear lbx bxc0 bxc1
   clear lsp spc0 spc1
   clear lbd bdc0 bdc1
   clear ltt ttc0 ttc1
   generalize Wtt.drew = Wdr at *
   clear wx wd1 wd2 nz t2 wr wb trg
   rw [← HT2.out] at hbr
   have hcb := cut_bst HOK.out HI.out hbr HTH.out HC0.out
   have HCB := Lib.hid hcb
   have hos := okS_at HOK.out.all HI.out
   obtain ⟨C, hCut⟩ : ∃ C, cutS l i b = C := ⟨_, rfl⟩
   have HCU := Lib.hid hCut
   have HCl := Lib.hid (show C.length = l.length by rw [← hCut]; unfold cutS; rw [List.length_set])
   obtain ⟨⟨a, glo, ghi, hd⟩, hss⟩ : ∃ s, nthS l i = s := ⟨_, rfl⟩
   have hba : -10000 ≤ b + a ∧ b + a ≤ 10000 := by rw [hss] at hbr hos; simp only [tub] at hbr; dsimp only at hos; omega
   have HSS := Lib.hid hss
   clear hcb hCut hos hss hbr HT2
   have lbx := bx.lt
   have bxc0 := bx.cell 0
   have bxc1 := bx.cell 1
   simp at bxc0 bxc1
   have lsp := sp.lt
   have spc0 := sp.cell 0
   have spc1 := sp.cell 1
   simp at spc0 spc1
   have lbd := bd.lt
   have bdc0 := bd.cell 0
   have bdc1 := bd.cell 1
   simp at bdc0 bdc1
   have ltt := tt.lt
   have ttc0 := tt.cell 0
   have ttc1 := tt.cell 1
   simp at ttc0 ttc1
   go_upto_region 26 with fail
   clear lbx bxc0 bxc1
   clear lsp spc0 spc1
   clear lbd bdc0 bdc1
   clear ltt ttc0 ttc1
   have lbn := bx.lt
   have lsn := sp.lt
   have ldn := bd.lt
   have ltn := tt.lt
   obtain ⟨mc, hmc⟩ : ∃ n, Wdr.heap.size = n := ⟨_, rfl⟩
   try rw [hmc]
   rw [hmc] at lbn lsn ldn ltn
   have hqcx : n0 ≤ mc := by have := hC.size; omega
   have cx : BK (Wdr.alloc (.cells #[.slice A l.length cap, .int .i64 m] 24)) (mc) #[.slice A l.length cap, .int .i64 m] 24 := BK.new' _ _ _ (mc) hmc
   have hscx : (Wdr.alloc (.cells #[.slice A l.length cap, .int .i64 m] 24)).heap.size = mc + 1 := by simp [hmc]
   replace hC : Below n0 w (Wdr.alloc (.cells #[.slice A l.length cap, .int .i64 m] 24)) := Below.alloc hC (by have := hC.size; omega) _
   replace hT := (RS.below hT (w' := (Wdr.alloc (.cells #[.slice A l.length cap, .int .i64 m] 24))) (Below.alloc (Below.refl _ _) (Nat.le_refl _) _)).more (B' := (Wdr.alloc (.cells #[.slice A l.length cap, .int .i64 m] 24)).heap.size) (by simp)
   replace bx := bx.alloc (.cells #[.slice A l.length cap, .int .i64 m] 24)
   replace sp := sp.alloc (.cells #[.slice A l.length cap, .int .i64 m] 24)
   replace bd := bd.alloc (.cells #[.slice A l.length cap, .int .i64 m] 24)
   replace tt := tt.alloc (.cells #[.slice A l.length cap, .int .i64 m] 24)
   generalize (Wdr.alloc (.cells #[.slice A l.length cap, .int .i64 m] 24)) = Wcx at *
   clear hmc
   clear hscx
   have hsz0 := hC.size
   obtain ⟨ge, hge⟩ : ∃ n, Wcx.heap.size = n := ⟨_, rfl⟩
   have bE : BK (Wcx.alloc (.cells #[] 60)) ge #[] 60 := BK.new' _ _ _ ge hge
   have hCe : Below n0 w (Wcx.alloc (.cells #[] 60)) := Below.alloc hC (by omega) _
   have hbe : Below Wcx.heap.size Wcx (Wcx.alloc (.cells #[] 60)) := Below.alloc (Below.refl _ _) (Nat.le_refl _) _
   have lt0 : ∀ k cs t, BK Wcx k cs t → k ≠ ge := fun k cs t hk => by have := hk.lt; omega
   obtain ⟨gq, cq, w9q, hrun, hown, hbel, hsz9, hkeep, hat⟩ := copy_st (base := n0) bE (by omega) (RS.more (RS.below hT hbe) hbe.size) (by omega) (by omega) (by have := hCe.size; omega)
   have hC9 := hbel _ hCe
   rw [← hge] at hrun
   have HRUN := Lib.hid hrun
   have HOW := Lib.hid hown
   have bx9 := hkeep _ _ _ (bx.below hbe bx.lt) (lt0 _ _ _ bx)
   have sp9 := hkeep _ _ _ (sp.below hbe sp.lt) (lt0 _ _ _ sp)
   have bd9 := hkeep _ _ _ (bd.below hbe bd.lt) (lt0 _ _ _ bd)
   have tt9 := hkeep _ _ _ (tt.below hbe tt.lt) (lt0 _ _ _ tt)
   have cx9 := hkeep _ _ _ (cx.below hbe cx.lt) (lt0 _ _ _ cx)
   have lcx9 := cx9.lt
   have cx9c0 := cx9.cell 0
   have cx9c1 := cx9.cell 1
   simp at cx9c0 cx9c1
   have cx9f0 := cx9.frozen 0
   have cx9f1 := cx9.frozen 1
   have lbx := bx.lt
   have bxc0 := bx.cell 0
   have bxc1 := bx.cell 1
   simp at bxc0 bxc1
   clear hrun hown hbel hsz9 hkeep hat bE lt0 hsz0 hge
   go_wp2_with (at_builtin; refine wpList_append_run rfl (.tmp 223) (.tmp 225) 22 _ rfl HRUN.out ?_)
   clear lcx9 cx9c0 cx9c1
   clear lbx bxc0 bxc1
   clear cx9f0 cx9f1
   have cxA := cx9.set 0 (.slice (some ⟨gq, 0, none⟩) l.length cq)
   simp at cxA
   have hownA := own_set (i := 0) (u := (.slice (some ⟨gq, 0, none⟩) l.length cq)) HOW.out cx9 (by decide)
   have hCA : Below n0 w (w9q.setCell ⟨mc, 0, none⟩ (.slice (some ⟨gq, 0, none⟩) l.length cq)) := Below.setCell hC9 (by show n0 ≤ mc; omega) _
   have bxA := bx9.far (p := ⟨mc, 0, none⟩) (by show n0 ≠ mc; omega) (.slice (some ⟨gq, 0, none⟩) l.length cq)
   have spA := sp9.far (p := ⟨mc, 0, none⟩) (by show m1 ≠ mc; omega) (.slice (some ⟨gq, 0, none⟩) l.length cq)
   have bdA := bd9.far (p := ⟨mc, 0, none⟩) (by show m2 ≠ mc; omega) (.slice (some ⟨gq, 0, none⟩) l.length cq)
   have ttA := tt9.far (p := ⟨mc, 0, none⟩) (by show m7 ≠ mc; omega) (.slice (some ⟨gq, 0, none⟩) l.length cq)
   clear bx sp bd tt cx hC hT bx9 sp9 bd9 tt9 cx9 hC9 hCe hbe
   generalize (w9q.setCell ⟨mc, 0, none⟩ (.slice (some ⟨gq, 0, none⟩) l.length cq)) = X1 at *
   have bx := bxA
   have sp := spA
   have bd := bdA
   have tt := ttA
   have cx := cxA
   have hC := hCA
   have hT : RT X1 X1.heap.size (.slice A l.length cap) l := RS.more (RS.below H0.out hC) (by have := hC.size; omega)
   clear bxA spA bdA ttA cxA hCA
   have lbx := bx.lt
   have bxc0 := bx.cell 0
   have bxc1 := bx.cell 1
   simp at bxc0 bxc1
   have lcx := cx.lt
   have cxc0 := cx.cell 0
   have cxc1 := cx.cell 1
   simp at cxc0 cxc1
   obtain ⟨A', cap', b', off', hve, hA, hc⟩ := RT.cells hT
   obtain ⟨rfl, hbb⟩ := hA (by omega)
   injection hve with q1 q2 q3
   subst q1 q3
   have hd0 := (hc i HI.out).1
   rw [HSS.out] at hd0
   dsimp only at hd0
   have hi3 : (i : Int) < (l.length : Int) := by have := HI.out; omega
   have hi4 : i < l.length := HI.out
   have wba : IntKind.i64.wrap (b + a) = b + a := by rw [IntKind.wrap_i64]; omega
   have lgq := own_lt hownA
   clear hA hc q2
   refine wp_region_noPanic (plain_any [0, 1, 2, 3, 4, 5, 6, 7, 8, 9, 10, 11, 12, 13, 14, 15, 16, 17, 18, 20, 21] (Below X1.heap.size X1) mixed ?_)
   refine any_tk 0 ?_
   refine any_tk 1 ?_
   refine any_tk 2 ?_
   refine any_tk 3 ?_
   refine any_tk 4 ?_
   refine any_tk 5 ?_
   refine any_tk 6 ?_
   refine any_tk 7 ?_
   refine any_tk 8 ?_
   refine any_tk 9 ?_
   refine any_tk 10 ?_
   refine any_tk 11 ?_
   refine any_tk 12 ?_
   refine any_tk 13 ?_
   refine any_tk 14 ?_
   refine any_tk 15 ?_
   refine any_tk 16 ?_
   refine any_tk 17 ?_
   refine any_tk 18 ?_
   have hd0z : Below X1.heap.size X1 X1.drew := by exact bel_of
   refine any_run1 (i := 19) (by kernel_rfl) (by rfl) (by kernel_rfl) ?_
   intro K3 hK3
   go_wp2_with fail
   refine (rg_any (b + a) (b + a) _).mono ?_
   rintro e Vz ⟨rfl, hb1⟩
   have hb01 : Below X1.heap.size X1 Vz := hd0z.trans (hb1.mono hd0z.size)
   refine hK3 _ _ (fun _ => hb01) ?_
   clear hK3 K3 hb1
   refine any_tk 20 ?_
   refine any_tk 21 ?_
   have hown2 := own_below hownA hb01
   obtain ⟨z0, z1, z2, z3⟩ := encS_at HI.out
   have hrs := RS.of_own hown2
   obtain ⟨Aq, capq, bq, offq, hvq, hlq, hAq, hcq⟩ := hrs
   obtain ⟨hAq, -⟩ := hAq (by omega)
   injection hvq with q1 q2 q3
   rw [← q1] at hAq
   injection hAq with hAq
   injection hAq with hAq hAo
   subst hAq hAo
   have y1 := (hcq (i * 4 + 1) (by rw [hlq.1]; omega)).trans z1
   have y2 := (hcq (i * 4 + 2) (by rw [hlq.1]; omega)).trans z2
   rw [Nat.zero_add] at y1 y2
   have f1 := own_frozen hown2 (i * 4 + 1)
   have f2 := own_frozen hown2 (i * 4 + 2)
   have lgz : gq < Vz.heap.size := (own_lt hown2).2
   have hbx := bx.below hb01 bx.lt
   have hsp := sp.below hb01 sp.lt
   have hbd := bd.below hb01 bd.lt
   have hcx := cx.below hb01 cx.lt
   have hCz : Below n0 w Vz := hC.trans (hb01.mono (by have := hC.size; omega))
   have hput := put_rng (g := gq) hown2 HI.out (b + a) (b + a)
   rw [HSS.out] at hput
   have hCU := HCU.out
   unfold cutS at hCU
   rw [HSS.out] at hCU
   dsimp only at hCU hput
   rw [hCU] at hput
   clear z0 z1 z2 z3 hlq hcq q1 q2 q3 hCU bx sp bd cx tt hC hT
   refine any_run1 (i := 22) (by kernel_rfl) (by rfl) (by kernel_rfl) ?_
   intro K3 hK3
   go_wp2_with fail
   refine hK3 _ _ (fun hx => (Bool.false_ne_true (hx.symm.trans (by kernel_rfl))).elim) ?_
   clear hK3 K3
   refine any_done (by kernel_rfl) (NoPanic.normal ?_)
   clear y1 y2 f1 f2
   clear lbx bxc0 bxc1
   clear lcx cxc0 cxc1
   clear hbb hd0 wba
   have bx := BK.far (BK.far hbx (p := ⟨gq, i * 4 + 1, none⟩) (fun hq : _ = gq => by
     obtain ⟨cc, hcc⟩ := own_block hown2 (g := gq) rfl
     unfold BK at hbx
     rw [hq, hcc] at hbx
     injection hbx with hh
     injection hh with _ hh
     exact absurd hh (by decide)) (.int .i64 (b + a))) (p := ⟨gq, i * 4 + 2, none⟩) (fun hq : _ = gq => by
     obtain ⟨cc, hcc⟩ := own_block hown2 (g := gq) rfl
     unfold BK at hbx
     rw [hq, hcc] at hbx
     injection hbx with hh
     injection hh with _ hh
     exact absurd hh (by decide)) (.int .i64 (b + a))
   have sp := BK.far (BK.far hsp (p := ⟨gq, i * 4 + 1, none⟩) (fun hq : _ = gq => by
     obtain ⟨cc, hcc⟩ := own_block hown2 (g := gq) rfl
     unfold BK at hsp
     rw [hq, hcc] at hsp
     injection hsp with hh
     injection hh with _ hh
     exact absurd hh (by decide)) (.int .i64 (b + a))) (p := ⟨gq, i * 4 + 2, none⟩) (fun hq : _ = gq => by
     obtain ⟨cc, hcc⟩ := own_block hown2 (g := gq) rfl
     unfold BK at hsp
     rw [hq, hcc] at hsp
     injection hsp with hh
     injection hh with _ hh
     exact absurd hh (by decide)) (.int .i64 (b + a))
   have bd := BK.far (BK.far hbd (p := ⟨gq, i * 4 + 1, none⟩) (fun hq : _ = gq => by
     obtain ⟨cc, hcc⟩ := own_block hown2 (g := gq) rfl
     unfold BK at hbd
     rw [hq, hcc] at hbd
     injection hbd with hh
     injection hh with _ hh
     exact absurd hh (by decide)) (.int .i64 (b + a))) (p := ⟨gq, i * 4 + 2, none⟩) (fun hq : _ = gq => by
     obtain ⟨cc, hcc⟩ := own_block hown2 (g := gq) rfl
     unfold BK at hbd
     rw [hq, hcc] at hbd
     injection hbd with hh
     injection hh with _ hh
     exact absurd hh (by decide)) (.int .i64 (b + a))
   have cx := BK.far (BK.far hcx (p := ⟨gq, i * 4 + 1, none⟩) (fun hq : _ = gq => by
     obtain ⟨cc, hcc⟩ := own_block hown2 (g := gq) rfl
     unfold BK at hcx
     rw [hq, hcc] at hcx
     injection hcx with hh
     injection hh with _ hh
     exact absurd hh (by decide)) (.int .i64 (b + a))) (p := ⟨gq, i * 4 + 2, none⟩) (fun hq : _ = gq => by
     obtain ⟨cc, hcc⟩ := own_block hown2 (g := gq) rfl
     unfold BK at hcx
     rw [hq, hcc] at hcx
     injection hcx with hh
     injection hh with _ hh
     exact absurd hh (by decide)) (.int .i64 (b + a))
   have hC : Below n0 w ((Vz.setCell ⟨gq, i * 4 + 1, none⟩ (.int .i64 (b + a))).setCell ⟨gq, i * 4 + 2, none⟩ (.int .i64 (b + a))) := Below.setCell (Below.setCell hCz (by show n0 ≤ gq; omega) _) (by show n0 ≤ gq; omega) _
   clear hbx hsp hbd hcx hCz hown2 hownA hb01 hd0z
   generalize ((Vz.setCell ⟨gq, i * 4 + 1, none⟩ (.int .i64 (b + a))).setCell ⟨gq, i * 4 + 2, none⟩ (.int .i64 (b + a))) = X2 at *
   have hS := OwnS.rt hput
   have HCL2 := HCl.out
   clear hput
   have lbx := bx.lt
   have bxc0 := bx.cell 0
   have bxc1 := bx.cell 1
   simp at bxc0 bxc1
   have lsp := sp.lt
   have spc0 := sp.cell 0
   have spc1 := sp.cell 1
   simp at spc0 spc1
   have lbd := bd.lt
   have bdc0 := bd.cell 0
   have bdc1 := bd.cell 1
   simp at bdc0 bdc1
   have lcx := cx.lt
   have cxc0 := cx.cell 0
   have cxc1 := cx.cell 1
   simp at cxc0 cxc1
   go_wp2_with fail
   clear lbx bxc0 bxc1
   clear lsp spc0 spc1
   clear lbd bdc0 bdc1
   clear lcx cxc0 cxc1
   obtain ⟨cc, hcc⟩ : ∃ x, bstE C m = x := ⟨_, rfl⟩
   have HCC := Lib.hid hcc
   clear hcc
   refine (Best_any C _ m _ (by omega) hS).mono ?_
   rintro e w7 ⟨u_c, rfl, hown, hb⟩
   replace hC : Below n0 w w7 := hC.trans (hb.mono (by have := hC.size; omega))
   replace bx := bx.below hb bx.lt
   replace sp := sp.below hb sp.lt
   replace bd := bd.below hb bd.lt
   replace cx := cx.below hb cx.lt
   replace hS := (RS.below hS hb).more hb.size
   clear hb
   clear hown
   have hcb := HCB.out
   rw [HCU.out] at hcb
   by_cases hb1 : b < lo
   case pos =>
     rw [hcb.1 (by omega)]
     clear hcb
     have lbx := bx.lt
     have bxc0 := bx.cell 0
     have bxc1 := bx.cell 1
     simp at bxc0 bxc1
     have lsp := sp.lt
     have spc0 := sp.cell 0
     have spc1 := sp.cell 1
     simp at spc0 spc1
     have lbd := bd.lt
     have bdc0 := bd.cell 0
     have bdc1 := bd.cell 1
     simp at bdc0 bdc1
     have lcx := cx.lt
     have cxc0 := cx.cell 0
     have cxc1 := cx.cell 1
     simp at cxc0 cxc1
     go_wp2_with fail
     clear lbx bxc0 bxc1
     clear lsp spc0 spc1
     clear lbd bdc0 bdc1
     clear lcx cxc0 cxc1
     refine (works_any _).mono ?_
     rintro e w8 ⟨rfl, hb⟩
     replace hC : Below n0 w w8 := hC.trans (hb.mono (by have := hC.size; omega))
     replace bx := bx.below hb bx.lt
     replace sp := sp.below hb sp.lt
     replace bd := bd.below hb bd.lt
     replace cx := cx.below hb cx.lt
     replace hS := (RS.below hS hb).more hb.size
     clear hb
     go_wp2_with fail
     exact bodyPost_ret (v := .bool true) (by simp [results, Try.results9, go_sem]) rfl ⟨rfl, by first | exact hC | (rw [hn0]; exact hC) | (with_reducible rw [hn0]; exact bel_of) | exact bel_of⟩
   by_cases hb2 : b > hi'
   case pos =>
     rw [hcb.1 (by omega)]
     clear hcb
     have lbx := bx.lt
     have bxc0 := bx.cell 0
     have bxc1 := bx.cell 1
     simp at bxc0 bxc1
     have lsp := sp.lt
     have spc0 := sp.cell 0
     have spc1 := sp.cell 1
     simp at spc0 spc1
     have lbd := bd.lt
     have bdc0 := bd.cell 0
     have bdc1 := bd.cell 1
     simp at bdc0 bdc1
     have lcx := cx.lt
     have cxc0 := cx.cell 0
     have cxc1 := cx.cell 1
     simp at cxc0 cxc1
     go_wp2_with fail
     clear lbx bxc0 bxc1
     clear lsp spc0 spc1
     clear lbd bdc0 bdc1
     clear lcx cxc0 cxc1
     refine (works_any _).mono ?_
     rintro e w8 ⟨rfl, hb⟩
     replace hC : Below n0 w w8 := hC.trans (hb.mono (by have := hC.size; omega))
     replace bx := bx.below hb bx.lt
     replace sp := sp.below hb sp.lt
     replace bd := bd.below hb bd.lt
     replace cx := cx.below hb cx.lt
     replace hS := (RS.below hS hb).more hb.size
     clear hb
     go_wp2_with fail
     exact bodyPost_ret (v := .bool true) (by simp [results, Try.results9, go_sem]) rfl ⟨rfl, by first | exact hC | (rw [hn0]; exact hC) | (with_reducible rw [hn0]; exact bel_of) | exact bel_of⟩
   obtain ⟨cv, hcv1, hcv2⟩ := hcb.2 (by omega)
   rw [hcv1]
   have hcv3 : cv ≥ v := hcv2
   clear hcb hcv1
   have lbx := bx.lt
   have bxc0 := bx.cell 0
   have bxc1 := bx.cell 1
   simp at bxc0 bxc1
   have lsp := sp.lt
   have spc0 := sp.cell 0
   have spc1 := sp.cell 1
   simp at spc0 spc1
   have lbd := bd.lt
   have bdc0 := bd.cell 0
   have bdc1 := bd.cell 1
   simp at bdc0 bdc1
   have lcx := cx.lt
   have cxc0 := cx.cell 0
   have cxc1 := cx.cell 1
   simp at cxc0 cxc1
   go_wp2_with fail
   clear lbx bxc0 bxc1
   clear lsp spc0 spc1
   clear lbd bdc0 bdc1
   clear lcx cxc0 cxc1
   refine (works_any _).mono ?_
   rintro e w8 ⟨rfl, hb⟩
   replace hC : Below n0 w w8 := hC.trans (hb.mono (by have := hC.size; omega))
   replace bx := bx.below hb bx.lt
   replace sp := sp.below hb sp.lt
   replace bd := bd.below hb bd.lt
   replace cx := cx.below hb cx.lt
   replace hS := (RS.below hS hb).more hb.size
   clear hb
   go_wp2_with fail
   exact bodyPost_ret (v := .bool true) (by simp [results, Try.results9, go_sem]) rfl ⟨rfl, by first | exact hC | (rw [hn0]; exact hC) | (with_reducible rw [hn0]; exact bel_of) | exact bel_of⟩
end Go.Proofs.Ytgbegdjakadbbaa

namespace Go.Proofs.Ytgbegdjakadbbaa.warpBetween
open Go.ChangeShapes Go.WideShapes Go.ChangeAt Go.RowKit Go.Deep

set_option maxRecDepth 100000 in
theorem lifted (os : Os) (started : os.Started) (H : Type) (enc : TypeId × Value → H) :
    ReturnsInHanded {} Try.checked os 9 .any (Rows.warpBetweenSpec.pre6 enc Try.prog Try.f9 Rows.warpBetweenRow.domain false) (Rows.warpBetweenSpec.post enc Try.prog Try.f9 false true false false) := by
  refine returnsInHanded_of_change (C := Try.checked) own started (by kernel_rfl) Try.func9
    (ChangeSpec.witness6 (enc := enc) (C := Try.checked) false ⟨#[], #[.agg #[.slice none 0 0, .int .i64 0], .int .u8 0, .int .i16 0, .int .u16 0], []⟩ 8 (by kernel_rfl) (by kernel_rfl) (by kernel_rfl) (by kernel_rfl)) ?_
  intro W base args ds gs before hval0 hW hcnd _
  have hval : ∀ (j : Nat) t v, Try.f9.params[j]? = some t → args[j]? = some v → Value.okWide Try.prog W .any base t v := hval0
  have hW2 : DataW.Whole enc Try.prog Try.f9.params.toList Rows.warpBetweenSpec.vars false W args.toList ds gs before := hW
  obtain ⟨p, q, hA0, hV, rfl, hfz, hnd⟩ := hW
  have hA : DataW.TrodAll enc Try.prog W 0 (fun _ => true) true Try.f9.params.toList args.toList ds p := hA0
  rw [Try.params9] at hA hval
  obtain ⟨v0, vs0, d0, ds0, p0, q0, hargs, rfl, rfl, h0, r0⟩ := trodAll_cons hA
  obtain ⟨v1, vs1, d1, ds1, p1, q1, rfl, rfl, rfl, h1, r1⟩ := trodAll_cons r0
  obtain ⟨v2, vs2, d2, ds2, p2, q2, rfl, rfl, rfl, h2, r2⟩ := trodAll_cons r1
  obtain ⟨v3, vs3, d3, ds3, p3, q3, rfl, rfl, rfl, h3, r3⟩ := trodAll_cons r2
  obtain ⟨rfl, rfl, rfl⟩ := trodAll_nil r3
  obtain rfl : args = #[v0, v1, v2, v3] := by cases args; simp_all
  obtain ⟨rfl, rfl⟩ := trodVars_none hV
  obtain ⟨vs0_, l0, m0, rfl, g0, k0, j0⟩ := open_blade (hval 0 24 v0 rfl rfl) h0
  obtain ⟨x1, rfl, g1⟩ := open_u8 (hval 1 5 v1 rfl rfl) h1
  obtain ⟨x2, rfl, g2⟩ := open_i16 (hval 2 55 v2 rfl rfl) h2
  obtain ⟨x3, rfl, g3⟩ := open_u16 (hval 3 56 v3 rfl rfl) h3
  refine (warpBetween_any (l := l0) (m := m0) (vs := vs0_) (hT := g0) (hlM := k0) (hmI := j0) (x2 := x1) (h2 := g1) (z1 := x2) (hz := g2) (x1 := x3) (h1 := g3) (w := W)).mono fun e W' ⟨he, hg⟩ => ?_
  subst he
  exact ⟨_, rfl, law_done hW2 rfl rfl rfl (by rw [Try.params9]; decide +kernel) hg⟩

theorem over : Rows.warpBetweenRow.holds Try.pinned (OpenSpec.ofChange Rows.warpBetweenSpec) :=
  OpenClaim.holds_of_wide 9 Try.f9 rfl rfl rfl rfl rfl rfl rfl ⟨rfl, rfl, rfl, rfl, rfl⟩ rfl rfl rfl rfl rfl (by kernel_rfl) Try.func9 (by kernel_rfl)
    (of_decide_eq_true (by kernel_rfl)) (by unfold Func.isWrapper; first | (rw [if_pos (by decide +kernel)]; kernel_rfl) | (rw [if_neg (by decide +kernel)]; exact ⟨rfl, rfl⟩))
    (fun os started H enc _ => lifted os started H enc)

theorem proved : Rows.WarpBetweenSaid :=
  over
end Go.Proofs.Ytgbegdjakadbbaa.warpBetween
namespace Go.Proofs.Ytgbegdjakadbbaa
theorem warpBetween_proved : Rows.WarpBetweenSaid := warpBetween.proved
#print axioms warpBetween_proved
end Go.Proofs.Ytgbegdjakadbbaa
