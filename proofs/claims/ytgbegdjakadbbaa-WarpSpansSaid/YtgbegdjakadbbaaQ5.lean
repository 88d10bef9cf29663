/- Lazy blows, plain; a list of stations that grows. Spans, plain: what they say; of a turned blade, of one as many times as hard. The reference's table of what blows from a station on cost at least. The reference's table of what blows from a station on cost at least: the walk. The reference's table of what blows up to a station cost at least: the walk. with of the reference. Least of the reference. Bends of the reference. Span of the reference. WarpSpans: the walk. What the program says of bends, spans and least costs is what the reference says; for every blade, station and number. -/
import Derived.Test.YtgbegdjakadbbaaP27
import Derived.Test.YtgbegdjakadbbaaP18
import Derived.Test.YtgbegdjakadbbaaP6
import Derived.Test.YtgbegdjakadbbaaP10
import Derived.Test.YtgbegdjakadbbaaP16
import Derived.Test.YtgbegdjakadbbaaRows
import Derived.Test.YtgbegdjakadbbaaP26
set_option linter.all false
set_option linter.unnecessarySimpa false
set_option linter.unusedSimpArgs false
set_option linter.unusedVariables false
set_option linter.unusedSectionVars false

set_option linter.all false
namespace Go.Proofs.Ytgbegdjakadbbaa
open Go.RowKit Vp

theorem app_st {base : Nat} {w0 w1 : World} {l : List St} {v : Value} (hown : OwnS w1 base v l) (x : St) (hn : l.length ≤ 100000) (hbase : base ≤ w1.heap.size) (hbw : Below base w0 w1) (B : Nat) (hB : w1.heap.size = B) :
    ∃ v' w2, (Builtin.append_ #[22, 22] 22 #[v, .slice (some ⟨B, 0, none⟩) 1 1]).run Try.prog (w1.alloc (.cells #[.int .i64 x.ang, .int .i64 x.lo, .int .i64 x.hi, .int .i64 x.hard] 60)) = .ok v' w2 ∧
      OwnS w2 base v' (l ++ [x]) ∧ Below base w0 w2 ∧ w1.heap.size ≤ w2.heap.size ∧ (∀ k cs t, BK w1 k cs t → t ≠ 60 → BK w2 k cs t) := by
  obtain ⟨g', cap', w2, h1, h2, h3, h4, h5⟩ := app_t st_info st_slice rfl (by decide) (by decide) hown (news := encS x) rfl (by intro u hu; simp [encS] at hu; rcases hu with rfl | rfl | rfl | rfl <;> rfl) hn hbase hbw 22 60 B hB
  exact ⟨_, w2, h1, by rw [ofG_app] at h2; unfold OwnS; simpa using h2, h3, h4, h5⟩
theorem ru_nil (k : IntKind) (w : World) (B : Nat) : RU k w B (.slice none 0 0) [] := ⟨none, 0, 0, 0, rfl, ⟨rfl, Nat.le_refl _⟩, fun h => absurd rfl h, fun j hj => by simp at hj⟩
/-- The station that is as hard as h. -/
def eqS (h : Int) (s : St) : St := ⟨s.ang, s.lo, s.hi, h⟩
theorem nthS_map {f : St → St} {l : List St} {k : Nat} (h : k < l.length) : nthS (l.map f) k = f (nthS l k) := by simp [nthS, h]
theorem take_map {f : St → St} {l : List St} {k : Nat} (h : k < l.length) : (l.take k).map f ++ [f (nthS l k)] = (l.take (k + 1)).map f := by
  rw [List.take_succ, List.map_append]
  simp [nthS, h]
theorem okB_eq {l : List St} {m : Int} (h : OkB l m) : OkB (l.map (eqS (nthS l 0).hard)) m := by
  have h1 := h.one
  have h0 := okS_at h.all (show 0 < l.length by omega)
  refine ⟨by simpa using h.one, by simpa using h.few, fun s hs => ?_, h.lo, h.hi⟩
  obtain ⟨x, hx, rfl⟩ := List.mem_map.1 hs
  have := okSB_iff.1 (h.all x hx)
  rw [okSB_iff]
  simp only [eqS]
  omega
theorem blwB_nil (m : Int) (t : Rg) (i : Nat) (f : Int) : blwB m t [] i f = lazD m t f := by unfold blwB wntB lazD; rw [if_pos (show ([] : List Nat).length = 0 from rfl)]
theorem bnd_succ (m : Int) (l : List St) (k : Nat) : bndB m l [] (k + 1) = bndB m l [] k + lazD m (tub (nthS l k)) (bndB m l [] k) := by rw [← blwB_nil (i := k)]; rfl
theorem drop_nthS {l : List St} {k : Nat} (h : k < l.length) : l.drop k = nthS l k :: l.drop (k + 1) := by rw [nthS_eq h]; exact List.drop_eq_getElem_cons h
theorem laz_drop (m : Int) (l : List St) : ∀ n k, l.length - k = n → k ≤ l.length → lazL m (l.drop k) (bndB m l [] k) = (List.range n).map fun i => blwB m (tub (nthS l (k + i))) [] (k + i) (bndB m l [] (k + i))
  | 0, k, h, h2 => by rw [List.drop_of_length_le (by omega)]; rfl
  | n + 1, k, h, h2 => by
    rw [drop_nthS (by omega), lazL, ← bnd_succ, laz_drop m l n (k + 1) (by omega) (by omega), List.range_succ_eq_map, List.map_cons, List.map_map, blwB_nil]
    refine congrArg (List.cons _) (List.map_congr_left fun i _ => ?_)
    rw [Function.comp, show k + 1 + i = k + Nat.succ i by omega]
theorem laz_blw (m : Int) (l : List St) : blwL m l [] l.length = lazL m l 0 := by
  have := laz_drop m l l.length 0 rfl (Nat.zero_le _)
  rw [List.drop_zero] at this
  simp only [Nat.zero_add] at this
  exact this.symm
theorem laz_fe {m : Int} (hm : 0 ≤ m) (l : List St) (h : ∀ j, j < l.length → (tub (nthS l j)).lo ≤ bndB m l [] (j + 1) ∧ bndB m l [] (j + 1) ≤ (tub (nthS l j)).hi) : ∀ n k, l.length - k = n → k ≤ l.length → Fe m (l.drop k) (bndB m l [] k) (lazL m (l.drop k) (bndB m l [] k))
  | 0, k, e, h2 => by rw [List.drop_of_length_le (by omega)]; trivial
  | n + 1, k, e, h2 => by
    have q := h k (by omega)
    rw [drop_nthS (by omega), lazL]
    refine ⟨?_, ?_, ?_⟩
    · unfold lazD; omega
    · rw [← bnd_succ]; exact q
    · rw [← bnd_succ]; exact laz_fe hm l h n (k + 1) (by omega) (by omega)
/-- Lazy blows that stay within the tubes are best if all stations are as hard. -/
theorem laz_all {m : Int} {l : List St} (hB : OkB l m) {h : Int} (hh : ∀ s ∈ l, s.hard = h) (hf : ∀ j, j < l.length → (tub (nthS l j)).lo ≤ bndB m l [] (j + 1) ∧ bndB m l [] (j + 1) ≤ (tub (nthS l j)).hi) :
    tgo m l 0 < never ∧ chkE l m (blwL m l [] l.length) = 0 ∧ chkV l m (blwL m l [] l.length) = tgo m l 0 := by
  have h1 := laz_fe hB.lo l hf l.length 0 rfl (Nat.zero_le _)
  rw [List.drop_zero] at h1
  change Fe m l 0 (lazL m l 0) at h1
  obtain ⟨h2, h3⟩ := lazy_best hB hh h1
  rw [laz_blw]
  have h4 := (chk_fe hB).2 h1
  exact ⟨h2, h4, by rw [chk_cost h4, h3]⟩
end Go.Proofs.Ytgbegdjakadbbaa

set_option linter.all false
namespace Go.Proofs.Ytgbegdjakadbbaa
open Go.RowKit Vp

theorem wk_part {l : List St} {k : Nat} (h : k < l.length) : Part l k (l.take k).reverse (nthS l k) (l.drop (k + 1)) := by rw [nthS_eq h]; exact part_of h
theorem fe_at {m : Int} : ∀ {l : List St} {f : Int} {ds : List Int}, Fe m l f ds → ∀ {k : Nat} {d : Int}, ds[k]? = some d → -m ≤ d ∧ d ≤ m
  | [], _, [], _, k, d, h => by simp at h
  | s :: l, f, e :: ds, hf, 0, d, h => by
    obtain rfl : e = d := by simpa using h
    exact hf.1
  | s :: l, f, e :: ds, hf, k + 1, d, h => fe_at hf.2.2 (k := k) (by simpa using h)
  | [], _, _ :: _, h, _, _, _ => h.elim
  | _ :: _, _, [], h, _, _, _ => h.elim
theorem mem_lst {m d : Int} (hm : 0 ≤ m) : d ∈ lst (-m) (cnt (-m) m) ↔ -m ≤ d ∧ d ≤ m := by rw [lst_mem]; unfold cnt; omega
theorem witK_ge {l : List St} {m : Int} (hB : OkB l m) {k : Nat} (hk : k < l.length) {d : Int} (hm : -m ≤ d ∧ d ≤ m) (h : witK m l k d < never) : tgo m l 0 ≤ witK m l k d := by
  obtain ⟨ds, h1, _, h3⟩ := wit_ex hB (wk_part hk) hm h
  unfold witK
  rw [← h3]
  exact tgo_le h1
/-- Some best blows have some number at each station. -/
theorem spn_best {l : List St} {m : Int} (hB : OkB l m) {k : Nat} (hk : k < l.length) (h : tgo m l 0 < never) : ∃ d, (-m ≤ d ∧ d ≤ m) ∧ witK m l k d = tgo m l 0 := by
  obtain ⟨ds, h1, h2⟩ := tgo_ex hB.all h
  have hl := h1.length
  obtain ⟨d, hd⟩ : ∃ d, ds[k]? = some d := ⟨ds[k]'(by omega), by simp⟩
  have hr := fe_at h1 hd
  have h3 := wit_le hB (wk_part hk) h1 hd
  have h4 := hB.cheap hB.few hB.all h1
  have h5 : witK m l k d < never := by unfold witK; simp only [never]; omega
  have h6 := witK_ge hB hk hr h5
  unfold witK at h6 ⊢
  exact ⟨d, hr, by omega⟩
theorem mem_spn {l : List St} {m : Int} (hm : 0 ≤ m) {k : Nat} {d : Int} : d ∈ spnF l m k ↔ (-m ≤ d ∧ d ≤ m) ∧ witK m l k d = tgo m l 0 := by
  unfold spnF
  rw [List.mem_filter, mem_lst hm, beq_iff_eq]
theorem spn_ne {l : List St} {m : Int} (hB : OkB l m) {k : Nat} (hk : k < l.length) (h : tgo m l 0 < never) : (spnF l m k).length ≠ 0 := by
  obtain ⟨d, h1, h2⟩ := spn_best hB hk h
  have := (mem_spn hB.lo).2 ⟨h1, h2⟩
  intro q
  rw [List.length_eq_zero_iff] at q
  rw [q] at this
  cases this
theorem atE_k {l : List St} {m : Int} (hB : OkB l m) {k : Nat} (hk : k < l.length) : atE l m k = 0 := atE_in (blaE_ok.2 hB) (by omega)
theorem spn_yes {l : List St} {m : Int} (hB : OkB l m) {k : Nat} (hk : k < l.length) (h : tgo m l 0 < never) : spnL l m k = toldL (spnF l m k) ∧ (spnL l m k).2.2 = 0 := by
  have h1 : spnL l m k = toldL (spnF l m k) := by unfold spnL; rw [if_pos (atE_k hB hk), if_pos h, Int.toNat_natCast]
  refine ⟨h1, ?_⟩
  rw [h1]
  unfold toldL
  rw [if_neg (spn_ne hB hk h)]
theorem spn_no {l : List St} {m : Int} (hB : OkB l m) {k : Nat} (hk : k < l.length) (h : ¬ tgo m l 0 < never) : spnL l m k = (0, 0, 18) := by unfold spnL; rw [if_pos (atE_k hB hk), if_neg h]
theorem witK_neg {l : List St} {m : Int} (hB : OkB l m) {k : Nat} (hk : k < l.length) {d : Int} (hm : -m ≤ d ∧ d ≤ m) : witK m (l.map negS) k (-d) = witK m l k d := by
  unfold witK
  rw [← wit_neg hB (wk_part hk) hm, List.map_reverse, List.map_take, List.map_drop, nthS_map hk]
theorem lst_neg (m : Int) : (lst (-m) (cnt (-m) m)).map (fun d => -d) = (lst (-m) (cnt (-m) m)).reverse := by
  apply List.ext_getElem
  · simp
  · intro i h1 h2
    simp [lst] at h1
    simp [lst]
    unfold cnt at h1 ⊢
    omega
theorem spn_neg {l : List St} {m : Int} (hB : OkB l m) {k : Nat} (hk : k < l.length) : spnF (l.map negS) m k = (spnF l m k).reverse.map (fun d => -d) := by
  unfold spnF
  rw [← List.filter_reverse, ← lst_neg, List.filter_map, List.map_map]
  have e : ((fun d : Int => -d) ∘ fun d => -d) = id := by funext d; simp
  rw [e, List.map_id, tgo_neg hB]
  apply List.filter_congr
  intro d hd
  have h1 := (mem_lst hB.lo).1 hd
  have := witK_neg hB hk (d := -d) (by omega)
  rw [Int.neg_neg] at this
  simp only [Function.comp, this]
theorem nthI_in {l : List Int} {i : Nat} (h : i < l.length) : nthI l i = l[i] := by simp [nthI, h]
theorem told_neg (F : List Int) : toldL (F.reverse.map (fun d => -d)) = (-(toldL F).2.1, -(toldL F).1, (toldL F).2.2) := by
  unfold toldL
  rw [List.length_map, List.length_reverse]
  by_cases h : F.length = 0
  · rw [if_pos h, if_pos h]; rfl
  · rw [if_neg h, if_neg h]
    have h0 : 0 < F.length := by omega
    simp only [Prod.mk.injEq, and_true]
    have h1 : F.length - 1 < F.length := by omega
    constructor
    · rw [nthI_in (by simpa using h0), List.getElem_map, List.getElem_reverse, nthI_in h1]
      simp only [Nat.sub_zero]
    · rw [nthI_in (by simpa using h1), List.getElem_map, List.getElem_reverse, nthI_in h0]
      simp only [Nat.sub_self]
theorem spnL_neg {l : List St} {m : Int} (hB : OkB l m) {k : Nat} (hk : k < l.length) : spnL (l.map negS) m k = (-(spnL l m k).2.1, -(spnL l m k).1, (spnL l m k).2.2) := by
  have hk2 : k < (l.map negS).length := by simpa using hk
  by_cases h : tgo m l 0 < never
  · rw [(spn_yes hB hk h).1, (spn_yes (okB_neg hB) hk2 (by rw [tgo_neg hB]; exact h)).1, spn_neg hB hk, told_neg]
  · rw [spn_no hB hk h, spn_no (okB_neg hB) hk2 (by rw [tgo_neg hB]; exact h)]; rfl
theorem witK_mul {l : List St} {m t : Int} (hB : OkB l m) (hB' : OkB (l.map (mulS t)) m) (ht : 1 ≤ t) {k : Nat} (hk : k < l.length) {d : Int} (hm : -m ≤ d ∧ d ≤ m) :
    (witK m (l.map (mulS t)) k d < never ↔ witK m l k d < never) ∧ (witK m l k d < never → witK m (l.map (mulS t)) k d = t * witK m l k d) := by
  have := wit_mul hB hB' ht (wk_part hk) hm
  unfold witK
  rw [nthS_map hk, ← List.map_take, ← List.map_reverse, ← List.map_drop]
  exact this
theorem spnL_mul {l : List St} {m t : Int} (hB : OkB l m) (hB' : OkB (l.map (mulS t)) m) (ht : 1 ≤ t) {k : Nat} (hk : k < l.length) : spnL (l.map (mulS t)) m k = spnL l m k := by
  have hk2 : k < (l.map (mulS t)).length := by simpa using hk
  obtain ⟨h1, h2⟩ := tgo_mul hB hB' ht
  by_cases h : tgo m l 0 < never
  · rw [(spn_yes hB hk h).1, (spn_yes hB' hk2 (h1.2 h)).1]
    congr 1
    unfold spnF
    apply List.filter_congr
    intro d hd
    obtain ⟨q1, q2⟩ := witK_mul hB hB' ht hk ((mem_lst hB.lo).1 hd)
    rw [h2 h, Bool.eq_iff_iff, beq_iff_eq, beq_iff_eq]
    constructor
    · intro e
      have h3 : witK m (l.map (mulS t)) k d < never := by rw [e, ← h2 h]; exact h1.2 h
      rw [q2 (q1.1 h3)] at e
      exact Int.eq_of_mul_eq_mul_left (by omega) e
    · intro e
      rw [q2 (by rw [e]; exact h), e]
  · rw [spn_no hB hk h, spn_no hB' hk2 (fun q => h (h1.1 q))]
end Go.Proofs.Ytgbegdjakadbbaa

set_option linter.all false
attribute [local go_sem] Go.Oper.semAt_some
namespace Go.Proofs.Ytgbegdjakadbbaa
open Go.RowKit Vp

set_option maxHeartbeats 8000000 in
set_option maxRecDepth 100000 in
theorem rowR_any (w : World) : Calls Try.prog 77 #[] w fun e w' => e = .returned (.slice (some ⟨w.heap.size, 0, none⟩) 401 401) ∧ Gv w' w.heap.size 2 401 (iV neverR) ∧ w'.heap.size = w.heap.size + 1 ∧ Below w.heap.size w w' := by
  obtain ⟨n0, hn0⟩ : ∃ n, w.heap.size = n := ⟨_, rfl⟩
  obtain ⟨W1, hmk, hG, hs1, hb1⟩ := make_ints 401 (by decide) w n0 hn0
  rw [show ((401 : Nat) : Int) = 401 from rfl] at hmk
  rw [hn0] at hb1 ⊢
  have HG := Lib.hid hG
  have HB := Lib.hid hb1
  have HS := Lib.hid hs1
  clear hG hb1 hs1
  go_enter Try.func77, Try.ntmps77
  go_upto_region 2 with fail
  clear hmk
  go_wp2_with fail
  go_loopw [2] (fun iv wr => ∃ x : Nat, x ≤ 401 ∧ iv = .int .i64 (x : Int) ∧ Gv wr n0 2 401 (iV (nvR x)) ∧ Below n0 w wr ∧ wr.heap.size = n0 + 1) (fun iv _ => 401 - (intOf iv).toNat)
  case atStart => exact ⟨0, Nat.zero_le _, rfl, by rw [nvR_zero]; exact HG.out, HB.out, HS.out⟩
  case round =>
    clear HG HB HS
    obtain ⟨x, hx, rfl, hG, hB, hS⟩ := hrel
    by_cases hlt : x < 401
    case neg =>
      obtain rfl : x = 401 := by omega
      have HF := Lib.hid (And.intro (hG.congr (V' := iV neverR) fun i hi => by unfold iV; rw [nvR_all i hi]) (And.intro hS hB))
      clear hG hB hS
      go_wp2_with fail
      go_ret
      exact ⟨rfl, HF.out.1, HF.out.2.1, HF.out.2.2⟩
    have hlt' : (x : Int) < 401 := by omega
    have z1 := hG.cell hlt
    have f1 := hG.frozen x
    have l1 := hG.lt
    have hset := hG.set x (.int .i64 never)
    rw [iV_set, show (fun j => if j = x then never else nvR x j) = nvR (x + 1) from nvR_succ x] at hset
    have HF := Lib.hid (And.intro hset (And.intro (Below.setCell hB (p := ⟨n0, x, none⟩) (by show n0 ≤ n0; omega) (.int .i64 never)) (show (wr.setCell ⟨n0, x, none⟩ (.int .i64 never)).heap.size = n0 + 1 by simpa [World.setCell] using hS)))
    clear hG hB hS hset
    go_wp2_with fail
    go_roundw
    case rel => exact ⟨x + 1, by omega, by go_num, HF.out.1, HF.out.2.1, HF.out.2.2⟩
    case measure => simp [intOf]; omega
/-- Rows of a table in memory: the slices in the block gO, from i on. -/
structure Tab (W : World) (gO n i : Nat) (Q : Nat → Nat) (V : Nat → Value) (F : Nat → Row) : Prop where
  o : Gv W gO 25 (n + 1) V
  v : ∀ j, i ≤ j → j ≤ n → V j = .slice (some ⟨Q j, 0, none⟩) 401 401
  q : ∀ j, i ≤ j → j ≤ n → gO < Q j
  r : ∀ j, i ≤ j → j ≤ n → Gv W (Q j) 2 401 (iV (F j))
section
variable {W W' : World} {gO n i : Nat} {Q : Nat → Nat} {V : Nat → Value} {F : Nat → Row}
theorem Tab.next (h : Tab W gO n i Q V F) (hb : Below W.heap.size W W') : Tab W' gO n i Q V F :=
  ⟨h.o.below hb h.o.lt, h.v, h.q, fun j h1 h2 => (h.r j h1 h2).below hb (h.r j h1 h2).lt⟩
theorem Tab.far (h : Tab W gO n i Q V F) {p : Addr} (hO : gO ≠ p.block) (hq : ∀ j, i ≤ j → j ≤ n → Q j ≠ p.block) (u : Value) : Tab (W.setCell p u) gO n i Q V F :=
  ⟨h.o.far hO u, h.v, h.q, fun j h1 h2 => (h.r j h1 h2).far (hq j h1 h2) u⟩
/-- A row more. -/
theorem Tab.more (h : Tab W gO n (i + 1) Q V F) (hi : i ≤ n) {q : Nat} (hq : gO < q) (hr : Gv W q 2 401 (iV (F i))) : Tab (W.setCell ⟨gO, i, none⟩ (.slice (some ⟨q, 0, none⟩) 401 401)) gO n i (fun j => if j = i then q else Q j) (seV V i (.slice (some ⟨q, 0, none⟩) 401 401)) F := by
  refine ⟨h.o.set _ _, fun j h1 h2 => ?_, fun j h1 h2 => ?_, fun j h1 h2 => ?_⟩
  · by_cases e : j = i
    · subst e; rw [seV_same]; simp
    · rw [seV_other _ _ e, h.v j (by omega) h2]; simp [e]
  · by_cases e : j = i
    · subst e; simp; exact hq
    · simp [e]; exact h.q j (by omega) h2
  · by_cases e : j = i
    · subst e; simp; exact hr.far (by show q ≠ gO; omega) _
    · simp [e]
      have := h.q j (by omega) h2
      exact (h.r j (by omega) h2).far (by show Q j ≠ gO; omega) _
end
end Go.Proofs.Ytgbegdjakadbbaa

set_option linter.all false
attribute [local go_sem] Go.Oper.semAt_some
namespace Go.Proofs.Ytgbegdjakadbbaa
open Go.RowKit Vp

/-- What lies while the row of station k is made. -/
structure TgS (w : World) (n0 gO n k q gt : Nat) (vb : Value) (m : Int) (t : Rg) (Q : Nat → Nat) (V : Nat → Value) (F : Nat → Row) (R : Row) (W : World) : Prop where
  below : Below n0 w W
  bx : BK W n0 #[vb, .int .i64 m] 24
  tab : Tab W gO n (k + 1) Q V F
  vk : V k = .slice (some ⟨q, 0, none⟩) 401 401
  rk : Gv W q 2 401 (iV R)
  tb : BK W gt #[.int .i64 t.lo, .int .i64 t.hi] 42
  ne : ∀ j, k + 1 ≤ j → j ≤ n → Q j ≠ q
  o1 : n0 < gO
  o2 : gO < q
  o3 : q < gt
section
variable {w : World} {n0 gO n k q gt : Nat} {vb : Value} {m : Int} {t : Rg} {Q : Nat → Nat} {V : Nat → Value} {F : Nat → Row} {R : Row} {W W' : World}
theorem TgS.next (h : TgS w n0 gO n k q gt vb m t Q V F R W) (hb : Below W.heap.size W W') (hn : w.heap.size = n0) : TgS w n0 gO n k q gt vb m t Q V F R W' :=
  ⟨h.below.trans (hb.mono (by have := h.below.size; omega)), h.bx.below hb h.bx.lt, h.tab.next hb, h.vk, h.rk.below hb h.rk.lt, h.tb.below hb h.tb.lt, h.ne, h.o1, h.o2, h.o3⟩
theorem TgS.set (h : TgS w n0 gO n k q gt vb m t Q V F R W) (x : Nat) (b : Int) : TgS w n0 gO n k q gt vb m t Q V F (seR R x b) (W.setCell ⟨q, x, none⟩ (.int .i64 b)) := by
  have o1 := h.o1
  have o2 := h.o2
  have o3 := h.o3
  have hs := h.rk.set x (.int .i64 b)
  rw [iV_set] at hs
  exact ⟨h.below.setCell (by show n0 ≤ q; omega) _, h.bx.far (by show n0 ≠ q; omega) _, h.tab.far (by show gO ≠ q; omega) (fun j h1 h2 => h.ne j h1 h2) _, h.vk, hs, h.tb.far (by show gt ≠ q; omega) _, h.ne, o1, o2, o3⟩
theorem TgS.tabk (h : TgS w n0 gO n k q gt vb m t Q V F R W) (he : ∀ x, x < 401 → R x = F k x) : Tab W gO n k (fun j => if j = k then q else Q j) V F := by
  refine ⟨h.tab.o, fun j h1 h2 => ?_, fun j h1 h2 => ?_, fun j h1 h2 => ?_⟩
  · by_cases e : j = k
    · subst e; simp; exact h.vk
    · simp [e]; exact h.tab.v j (by omega) h2
  · by_cases e : j = k
    · subst e; simp; exact h.o2
    · simp [e]; exact h.tab.q j (by omega) h2
  · by_cases e : j = k
    · subst e; simp; exact h.rk.congr fun i hi => by unfold iV; rw [he i hi]
    · simp [e]; exact h.tab.r j (by omega) h2
end
theorem Tab.put {W : World} {gO n i : Nat} {Q : Nat → Nat} {V : Nat → Value} {F : Nat → Row} (h : Tab W gO n (i + 1) Q V F) (u : Value) : Tab (W.setCell ⟨gO, i, none⟩ u) gO n (i + 1) Q (seV V i u) F :=
  ⟨h.o.set _ _, fun j h1 h2 => by rw [seV_other _ _ (by omega)]; exact h.v j h1 h2, h.q, fun j h1 h2 => (h.r j h1 h2).far (by have := h.q j h1 h2; show Q j ≠ gO; omega) _⟩
def tgT (m : Int) (l : List St) : Nat → Row := fun j => tgR m (l.drop j)
set_option maxHeartbeats 16000000 in
set_option maxRecDepth 100000 in
theorem togoR_any (l : List St) (v : Value) (m : Int) (w : World) (hB : OkB l m) (hT : RT w w.heap.size v l) :
    Calls Try.prog 53 #[bV v m] w fun e w' => ∃ gO Q V, e = .returned (.slice (some ⟨gO, 0, none⟩) (l.length + 1) (l.length + 1)) ∧ w.heap.size ≤ gO ∧ Tab w' gO l.length 0 Q V (tgT m l) ∧ Below w.heap.size w w' := by
  unfold bV
  obtain ⟨b, off, cap, A, rfl, -, hcap⟩ := hT.slice
  obtain ⟨n0, hn0⟩ : ∃ n, w.heap.size = n := ⟨_, rfl⟩
  have hm0 := hB.lo
  have hm1 := hB.hi
  have h20 := hB.few
  have HO := Lib.hid hB.all
  have hn1 := hB.one
  rw [hn0] at hT ⊢
  have HT := Lib.hid hT
  clear hT hB
  have hb1 : Below n0 w (w.alloc (.cells #[.slice A l.length cap, .int .i64 m] 24)) := by rw [← hn0]; exact Below.alloc (Below.refl _ _) (Nat.le_refl _) _
  have bx1 := BK.new' w #[.slice A l.length cap, .int .i64 m] 24 n0 hn0
  have hs1 : (w.alloc (.cells #[.slice A l.length cap, .int .i64 m] 24)).heap.size = n0 + 1 := by simp [hn0]
  go_enter Try.func53, Try.ntmps53
  go_upto_region 1 with fail
  generalize w.alloc (.cells #[.slice A l.length cap, .int .i64 m] 24) = W1 at *
  have bxc0 := bx1.cell 0
  have lbx := bx1.lt
  simp at bxc0
  obtain ⟨W2, hmk, hG, hs2, hb2⟩ := make_slices (l.length + 1) (by omega) W1 (n0 + 1) hs1
  rw [show (((l.length + 1 : Nat)) : Int) = (l.length : Int) + 1 by omega] at hmk
  have wn : IntKind.i64.wrap ((l.length : Int) + 1) = (l.length : Int) + 1 := by rw [IntKind.wrap_i64]; omega
  obtain ⟨W3, hmk2, hG3, hs3, hb3⟩ := make_ints 401 (by decide) W2 (n0 + 1 + 1) hs2
  rw [show ((401 : Nat) : Int) = 401 from rfl] at hmk2
  have hO3 := hG.below hb3 hG.lt
  have oc := hO3.cell (i := l.length) (by omega)
  have of := hO3.frozen l.length
  have ol := hO3.lt
  have hkl : (l.length : Int) < (l.length : Int) + 1 := by omega
  have wl : IntKind.i64.wrap ((l.length : Int) - 1) = (l.length : Int) - 1 := by rw [IntKind.wrap_i64]; omega
  have hb13 : Below (n0 + 1) W1 W3 := by
    have := hb2.trans (hb3.mono hb2.size)
    rw [hs1] at this
    exact this
  have HF0 := Lib.hid (show Tab (W3.setCell ⟨n0 + 1, l.length, none⟩ (.slice (some ⟨n0 + 1 + 1, 0, none⟩) 401 401)) (n0 + 1) l.length l.length (fun j => if j = l.length then n0 + 1 + 1 else 0) (seV (fun _ => .slice none 0 0) l.length (.slice (some ⟨n0 + 1 + 1, 0, none⟩) 401 401)) (tgT m l) ∧ BK (W3.setCell ⟨n0 + 1, l.length, none⟩ (.slice (some ⟨n0 + 1 + 1, 0, none⟩) 401 401)) n0 #[.slice A l.length cap, .int .i64 m] 24 ∧ Below n0 w (W3.setCell ⟨n0 + 1, l.length, none⟩ (.slice (some ⟨n0 + 1 + 1, 0, none⟩) 401 401)) from by
    refine ⟨Tab.more (Q := fun _ => 0) (V := fun _ => .slice none 0 0) ⟨hO3, fun j h1 h2 => by omega, fun j h1 h2 => by omega, fun j h1 h2 => by omega⟩ (Nat.le_refl _) (by omega) (hG3.congr fun i hi => ?_), (bx1.below hb13 (by omega)).far (by show n0 ≠ n0 + 1; omega) _, (hb1.trans (hb13.mono (by omega))).setCell (by show n0 ≤ n0 + 1; omega) _⟩
    unfold iV tgT tgR
    rw [List.drop_length]; rfl)
  clear hG hs2 hb2 hG3 hs3 hb3 hO3 hb13 hb1 bx1 hs1
  go_upto_region 5 with fail
  generalize W3.setCell ⟨n0 + 1, l.length, none⟩ (.slice (some ⟨n0 + 1 + 1, 0, none⟩) 401 401) = W4 at *
  clear hmk hmk2 wn oc of ol hkl wl bxc0 lbx
  go_loopw [5] (fun iv wr => ∃ (k : Nat) (Q : Nat → Nat) (V : Nat → Value), k ≤ l.length ∧ iv = .int .i64 ((k : Int) - 1) ∧ Tab wr (n0 + 1) l.length k Q V (tgT m l) ∧ BK wr n0 #[.slice A l.length cap, .int .i64 m] 24 ∧ Below n0 w wr) (fun iv _ => (intOf iv + 1).toNat)
  case atStart => exact ⟨l.length, _, _, Nat.le_refl _, rfl, HF0.out.1, HF0.out.2.1, HF0.out.2.2⟩
  case round =>
    clear HF0
    obtain ⟨k, Q, V, hk, rfl, hTab, bx, hC⟩ := hrel
    cases k with
    | zero =>
      have z0 : decide ((0 : Int) ≤ ((0 : Nat) : Int) - 1) = false := by decide
      have HF := Lib.hid (And.intro hTab hC)
      clear hTab bx hC
      go_wp2_with fail
      refine bodyPost_ret (v := .slice (some ⟨n0 + 1, 0, none⟩) (l.length + 1) (l.length + 1)) (by simp [results, Try.results53, go_sem]) rfl ?_
      exact ⟨n0 + 1, Q, V, rfl, by omega, HF.out.1, HF.out.2⟩
    | succ k =>
      have hlt : k < l.length := hk
      rw [show ((k + 1 : Nat) : Int) - 1 = (k : Int) by omega]
      have z0 : decide ((0 : Int) ≤ (k : Int)) = true := decide_eq_true (by omega)
      have z1 : (0 : Int) ≤ (k : Int) := by omega
      have hkp : (k : Int) < (l.length : Int) + 1 := by omega
      have hkz : (k : Int) ≤ 20 := by omega
      go_wp2_with fail
      refine (rowR_any _).mono ?_
      rintro e w2 ⟨rfl, hGq, hsq, hbq⟩
      obtain ⟨q, hq⟩ : ∃ q, wr.heap.size = q := ⟨_, rfl⟩
      rw [hq] at hGq hsq ⊢
      have hT2 := hTab.next hbq
      have hqO : n0 + 1 < q := by have := hTab.o.lt; omega
      have hQq : ∀ j, k + 1 ≤ j → j ≤ l.length → Q j ≠ q := fun j h1 h2 => by have := (hTab.r j h1 h2).lt; omega
      have bx2 := bx.below hbq bx.lt
      have hC2 := hC.trans (hbq.mono (by have := hC.size; omega))
      have oc := hT2.o.cell (i := k) (by omega)
      have of := hT2.o.frozen k
      have ol := hT2.o.lt
      have HF := Lib.hid (show Tab (w2.setCell ⟨n0 + 1, k, none⟩ (.slice (some ⟨q, 0, none⟩) 401 401)) (n0 + 1) l.length (k + 1) Q (seV V k (.slice (some ⟨q, 0, none⟩) 401 401)) (tgT m l) ∧ Gv (w2.setCell ⟨n0 + 1, k, none⟩ (.slice (some ⟨q, 0, none⟩) 401 401)) q 2 401 (iV neverR) ∧ BK (w2.setCell ⟨n0 + 1, k, none⟩ (.slice (some ⟨q, 0, none⟩) 401 401)) n0 #[.slice A l.length cap, .int .i64 m] 24 ∧ Below n0 w (w2.setCell ⟨n0 + 1, k, none⟩ (.slice (some ⟨q, 0, none⟩) 401 401)) ∧ (w2.setCell ⟨n0 + 1, k, none⟩ (.slice (some ⟨q, 0, none⟩) 401 401)).heap.size = q + 1 from
        ⟨hT2.put _, hGq.far (by show q ≠ n0 + 1; omega) _, bx2.far (by show n0 ≠ n0 + 1; omega) _, hC2.setCell (by show n0 ≤ n0 + 1; omega) _, by simpa [World.setCell] using hsq⟩)
      clear hTab bx hC hGq hsq hbq hT2 bx2 hC2 hq
      go_upto_region 8 with fail
      clear oc of ol hkp
      generalize w2.setCell ⟨n0 + 1, k, none⟩ (.slice (some ⟨q, 0, none⟩) 401 401) = W5 at *
      have bxc0 := HF.out.2.2.1.cell 0
      have bxc1 := HF.out.2.2.1.cell 1
      have lbx := HF.out.2.2.1.lt
      simp at bxc0 bxc1
      have hT5 := RS.more (RS.below HT.out HF.out.2.2.2.1) (B' := W5.heap.size) (by omega)
      have hlt2 : (k : Int) < l.length := by omega
      go_wp2_with fail
      refine (tube_any l _ m (k : Int) _ HO.out h20 hlt2 hT5).mono ?_
      rintro e w6 ⟨rfl, hb6⟩
      rw [show tubR l (k : Int) = tub (nthS l k) by unfold tubR; rw [if_neg (by omega)]; rfl]
      unfold rV
      have htr := tub_rng (HO.out _ (nthS_mem hlt))
      have hdr : l.drop k = nthS l k :: l.drop (k + 1) := by rw [nthS_eq hlt]; exact List.drop_eq_getElem_cons hlt
      have HOP := Lib.hid (fun s (hs : s ∈ l.drop (k + 1)) => HO.out s (List.mem_of_mem_drop hs))
      have hosb := HO.out _ (nthS_mem hlt)
      obtain ⟨post, hpost⟩ : ∃ p, l.drop (k + 1) = p := ⟨_, rfl⟩
      rw [hpost] at hdr HOP
      obtain ⟨s, hse⟩ : ∃ s, nthS l k = s := ⟨_, rfl⟩
      rw [hse] at htr hdr hosb ⊢
      have HSE := Lib.hid hse
      have HDR := Lib.hid hdr
      have HPO := Lib.hid hpost
      have HOS := Lib.hid hosb
      clear hse hdr hpost hT5 bxc0 bxc1 lbx hosb
      obtain ⟨t, hte⟩ : ∃ t, tub s = t := ⟨_, rfl⟩
      rw [hte] at htr ⊢
      have HTE := Lib.hid hte
      clear hte
      go_upto_region 9 with fail
      obtain ⟨gt, hgt⟩ : ∃ g, w6.heap.size = g := ⟨_, rfl⟩
      try rw [hgt]
      have hb7 : Below W5.heap.size W5 (w6.alloc (.cells #[.int .i64 t.lo, .int .i64 t.hi] 42)) := hb6.alloc hb6.size _
      have tb := BK.new' w6 #[.int .i64 t.lo, .int .i64 t.hi] 42 gt hgt
      have hgq : q < gt := by have := hb6.size; have := HF.out.2.2.2.2; omega
      generalize w6.alloc (.cells #[.int .i64 t.lo, .int .i64 t.hi] 42) = W7 at *
      have HS0 := Lib.hid (show TgS w n0 (n0 + 1) l.length k q gt (.slice A l.length cap) m t Q (seV V k (.slice (some ⟨q, 0, none⟩) 401 401)) (tgT m l) neverR W7 from
        ⟨HF.out.2.2.2.1.trans (hb7.mono (by have := HF.out.2.2.2.1.size; omega)), HF.out.2.2.1.below hb7 HF.out.2.2.1.lt, HF.out.1.next hb7, seV_same _ _ _, HF.out.2.1.below hb7 HF.out.2.1.lt, tb, hQq, by omega, hqO, hgq⟩)
      clear hb6 hb7 tb hgt HF
      go_wp2_with fail
      go_loopw [7] (fun iv W => ∃ x : Nat, x ≤ 401 ∧ iv = .int .i64 ((x : Int) - 200) ∧ TgS w n0 (n0 + 1) l.length k q gt (.slice A l.length cap) m t Q (seV V k (.slice (some ⟨q, 0, none⟩) 401 401)) (tgT m l) (upto (tgR m (s :: post)) x) W) (fun iv _ => (201 - intOf iv).toNat)
      case atStart => exact ⟨0, Nat.zero_le _, rfl, by rw [upto_zero]; exact HS0.out⟩
      case round =>
        clear HS0
        obtain ⟨x, hx, rfl, hS⟩ := hrel
        by_cases hxl : x < 401
        case neg =>
          obtain rfl : x = 401 := by omega
          have d0 : decide (((401 : Nat) : Int) - 200 ≤ 200) = false := by decide
          have wk1 : IntKind.i64.wrap ((k : Int) - 1) = (k : Int) - 1 := by rw [IntKind.wrap_i64]; omega
          have HF := Lib.hid (And.intro (hS.tabk (fun y hy => by rw [upto_all _ y hy]; unfold tgT; rw [HDR.out])) (And.intro hS.bx hS.below))
          clear hS
          go_wp2_with fail
          go_roundw
          case rel => exact ⟨k, _, _, by omega, by congr 1, HF.out.1, HF.out.2.1, HF.out.2.2⟩
          case measure => first | (simp [intOf]; done) | (simp [intOf]; omega)
        have d0 : decide ((x : Int) - 200 ≤ 200) = true := decide_eq_true (by omega)
        have d0' : (x : Int) - 200 ≤ 200 := by omega
        obtain ⟨f, hfe⟩ : ∃ f, (x : Int) - 200 = f := ⟨_, rfl⟩
        have HFE := Lib.hid hfe
        have hfr : -200 ≤ f ∧ f ≤ 200 := by omega
        rw [hfe] at d0 d0' ⊢
        have wfm : IntKind.i64.wrap (f - m) = f - m := by rw [IntKind.wrap_i64]; omega
        have wfp : IntKind.i64.wrap (f + m) = f + m := by rw [IntKind.wrap_i64]; omega
        obtain ⟨lo, hlo⟩ : ∃ y, bLo s m f = y := ⟨_, rfl⟩
        obtain ⟨hi, hhi⟩ : ∃ y, bHi s m f = y := ⟨_, rfl⟩
        have hlo1 : lo = max t.lo (f - m) := by rw [← hlo, ← HTE.out]; rfl
        have hhi1 : hi = min t.hi (f + m) := by rw [← hhi, ← HTE.out]; rfl
        have mlo : (if t.lo < f - m then f - m else t.lo) = lo := by rw [hlo1]; omega
        have mhi : (if f + m < t.hi then f + m else t.hi) = hi := by rw [hhi1]; omega
        have HLH := Lib.hid (And.intro hlo hhi)
        have HL1 := Lib.hid (And.intro hlo1 hhi1)
        clear hlo1 hhi1
        have bxc1 := hS.bx.cell 1
        have lbx := hS.bx.lt
        have tc0 := hS.tb.cell 0
        have lt := hS.tb.lt
        simp at bxc1 tc0
        have HS := Lib.hid hS
        clear hS hlo hhi hfe
        go_wp2_with fail
        clear bxc1 lbx tc0 lt
        rename World => wb
        go_loopw [8] (fun iv W => ∃ j : Nat, j ≤ cnt lo hi ∧ iv = .int .i64 (lo + (j : Int)) ∧ TgS w n0 (n0 + 1) l.length k q gt (.slice A l.length cap) m t Q (seV V k (.slice (some ⟨q, 0, none⟩) 401 401)) (tgT m l) (inRw m s post x j) W) (fun iv _ => (hi + 1 - intOf iv).toNat)
        case atStart => exact ⟨0, Nat.zero_le _, by simp, by rw [inRw_zero]; exact HS.out⟩
        case round =>
          clear HS
          obtain ⟨j, hj, rfl, hS⟩ := hrel
          have hcn : cnt lo hi = (hi + 1 - lo).toNat := rfl
          have bxc0 := hS.bx.cell 0
          have bxc1 := hS.bx.cell 1
          have lbx := hS.bx.lt
          have tc1 := hS.tb.cell 1
          have lt := hS.tb.lt
          simp at bxc0 bxc1 tc1
          by_cases hjl : lo + (j : Int) ≤ hi
          case neg =>
            have d1 : decide (lo + (j : Int) ≤ hi) = false := decide_eq_false hjl
            have hjc : j = cnt lo hi := by omega
            have HF := Lib.hid (show TgS w n0 (n0 + 1) l.length k q gt (.slice A l.length cap) m t Q (seV V k (.slice (some ⟨q, 0, none⟩) 401 401)) (tgT m l) (upto (tgR m (s :: post)) (x + 1)) wr from by
              have h := inRw_all m s post x
              rw [HFE.out, HLH.out.1, HLH.out.2, ← hjc] at h
              rw [← h]; exact hS)
            have wf1 : IntKind.i64.wrap (f + 1) = f + 1 := by rw [IntKind.wrap_i64]; omega
            clear hS hcn hjc
            go_wp2_with fail
            go_roundw
            case rel => exact ⟨x + 1, by omega, by congr 1; have := HFE.out; omega, HF.out⟩
            case measure => first | (simp [intOf]; done) | (simp [intOf]; omega)
          have d1 : decide (lo + (j : Int) ≤ hi) = true := decide_eq_true hjl
          obtain ⟨g, hge⟩ : ∃ g, lo + (j : Int) = g := ⟨_, rfl⟩
          have hgr : -200 ≤ g ∧ g ≤ 200 ∧ -m ≤ g - f ∧ g - f ≤ m := by have := HL1.out; omega
          obtain ⟨y, hy⟩ : ∃ y : Nat, g + 200 = (y : Int) := ⟨(g + 200).toNat, by omega⟩
          have hy4 : y < 401 := by omega
          have rk := hS.rk.cell hxl
          have fk := hS.rk.frozen x
          have lk := hS.rk.lt
          have ok := hS.tab.o.cell (i := k) (by omega)
          have ok1 := hS.tab.o.cell (i := k + 1) (by omega)
          have lo' := hS.tab.o.lt
          rw [hS.vk] at ok
          rw [hS.tab.v (k + 1) (Nat.le_refl _) (by omega)] at ok1
          have r1 := (hS.tab.r (k + 1) (Nat.le_refl _) (by omega)).cell hy4
          have l1 := (hS.tab.r (k + 1) (Nat.le_refl _) (by omega)).lt
          unfold iV at rk r1
          rw [inRw_at, HFE.out, HLH.out.1] at rk
          have hTs := RS.below HT.out hS.below
          obtain ⟨As, cs, bs, os, hve, hA, hc⟩ := RT.cells hTs
          obtain ⟨rfl, hbs⟩ := hA (by omega)
          injection hve with q1 q2 q3
          subst q1 q3
          obtain ⟨-, -, -, d3⟩ := hc k hlt
          rw [HSE.out] at d3
          have hbs2 : bs < wr.heap.size := by have := hS.below.size; omega
          have hos := okSB_iff.1 HOS.out
          have hF : tgF m s post f (lo + (j : Int)) = max (g - f) (-(g - f)) * s.hard + tgR m post y := by
            unfold tgF tgR cst
            rw [hge, show (y : Int) - 200 = g by omega, Int.mul_comm]
            omega
          have hmn := mins_step hF
          have hstp := inRw_step m s post x j
          rw [HFE.out, HLH.out.1] at hstp
          have hset := hS.set x (mins (tgF m s post f) lo (j + 1))
          have hr1 := tgo_never m post ((y : Int) - 200)
          have hr0 := tgo_nonneg (m := m) (l := post) HOP.out ((y : Int) - 200)
          have hmv := mins_never (tgF m s post f) lo j
          rw [show tgT m l (k + 1) y = tgR m post y by unfold tgT; rw [HPO.out]] at r1
          rw [show tgo m post ((y : Int) - 200) = tgR m post y from rfl] at hr1 hr0
          obtain ⟨bb, hbb⟩ : ∃ b, tgR m post y = b := ⟨_, rfl⟩
          rw [hbb] at r1 hmn hr1 hr0
          obtain ⟨M, hM⟩ : ∃ M, max (g - f) (-(g - f)) = M := ⟨_, rfl⟩
          rw [hM] at hmn
          have hMr : 0 ≤ M ∧ M ≤ 200 := by omega
          have hc1 : M * s.hard ≤ 200 * 9 := Int.mul_le_mul hMr.2 (by omega) (by omega) (by omega)
          have hc0 : 0 ≤ M * s.hard := Int.mul_nonneg (by omega) (by omega)
          obtain ⟨a, ha⟩ : ∃ a, mins (tgF m s post f) lo j = a := ⟨_, rfl⟩
          obtain ⟨a2, ha2⟩ : ∃ a, mins (tgF m s post f) lo (j + 1) = a := ⟨_, rfl⟩
          rw [ha, ha2] at hmn
          rw [ha] at rk hmv
          rw [ha2] at hset hstp
          rw [hge]
          have hnv : never = 1099511627776 := rfl
          have wfx : IntKind.i64.wrap (f + 200) = (x : Int) := by have := HFE.out; rw [IntKind.wrap_i64]; omega
          have wgy : IntKind.i64.wrap (g + 200) = (y : Int) := by rw [IntKind.wrap_i64]; omega
          have wgf : IntKind.i64.wrap (g - f) = g - f := by rw [IntKind.wrap_i64]; omega
          have wk1 : IntKind.i64.wrap ((k : Int) + 1) = (k : Int) + 1 := by rw [IntKind.wrap_i64]; omega
          have wMh : IntKind.i64.wrap (M * s.hard) = M * s.hard := by rw [IntKind.wrap_i64]; omega
          have wMb : IntKind.i64.wrap (M * s.hard + bb) = M * s.hard + bb := by rw [IntKind.wrap_i64]; omega
          have wg1 : IntKind.i64.wrap (g + 1) = g + 1 := by rw [IntKind.wrap_i64]; omega
          have hk1 : (k : Int) + 1 < (l.length : Int) + 1 := by omega
          have hkp : (k : Int) < (l.length : Int) + 1 := by omega
          have hx5 : (x : Int) < 401 := by omega
          have hy5 : (y : Int) < 401 := by omega
          have hkl : (k : Int) < (l.length : Int) := by omega
          have HSET := Lib.hid hset
          have HSE2 := Lib.hid hstp
          have HCN := Lib.hid (show j + 1 ≤ cnt lo hi by rw [hcn]; omega)
          have HS := Lib.hid hS
          have HM := Lib.hid hM
          have hgf : -9223372036854775807 ≤ g - f ∧ g - f ≤ 9223372036854775807 := by omega
          clear hnv hr1 hr0 hmv hc0 hc1 hF hstp hset hS hTs hA hc hM hbb ha ha2 q2 hbs hcn hos hMr
          rw [hge] at d1 hjl
          have HGE := Lib.hid hge
          clear hge hy
          have hd1 : Below wr.heap.size wr wr.drew := Below.drew (Below.refl _ _)
          go_wp2_with fail
          refine wp_region_noPanic (plain_any [0, 1, 2, 3, 4, 5, 6, 7, 8, 9, 10, 11, 12, 13, 14, 15, 16, 18, 19, 20, 21, 22, 23, 24, 25, 26, 27, 28, 29, 30, 31, 32, 33, 34, 35, 36] (Below wr.heap.size wr) mixed ?_)
          refine any_tk 0 ?_
          refine any_tk 1 ?_
          refine any_tk 2 ?_
          refine any_tk 3 ?_
          refine any_tk 4 ?_
          refine any_tk 5 ?_
          refine any_tk 6 ?_
          refine any_tk 7 ?_
          refine any_tk 8 ?_
          refine any_tk 9 ?_
          refine any_tk 10 ?_
          refine any_tk 11 ?_
          refine any_tk 12 ?_
          refine any_tk 13 ?_
          refine any_tk 14 ?_
          refine any_tk 15 ?_
          refine any_tk 16 ?_
          refine any_tk 18 ?_
          refine any_tk 19 ?_
          refine any_tk 20 ?_
          refine any_tk 21 ?_
          refine any_tk 22 ?_
          refine any_tk 23 ?_
          refine any_tk 25 ?_
          refine any_tk 26 ?_
          refine any_tk 27 ?_
          refine any_tk 28 ?_
          refine any_tk 29 ?_
          refine any_tk 30 ?_
          refine any_tk 31 ?_
          refine any_tk 32 ?_
          refine any_tk 33 ?_
          refine any_run1 (i := 17) (by kernel_rfl) (by rfl) (by kernel_rfl) ?_
          intro K3 hK3
          go_wp2_with fail
          refine (amount_any (g - f) _ hgf).mono ?_
          rintro e w8 ⟨rfl, rfl⟩
          rw [HM.out]
          refine hK3 _ _ (fun _ => hd1) ?_
          clear hK3 K3
          refine any_tk 24 ?_
          refine any_tk 34 ?_
          refine any_tk 35 ?_
          refine any_tk 36 ?_
          have rk2 : wr.drew.cell? ⟨q, x, none⟩ = some (.int .i64 a) := rk
          have fk2 : wr.drew.frozen? ⟨q, x, none⟩ = false := fk
          have lk2 : q < wr.drew.heap.size := lk
          refine any_run1 (i := 37) (by kernel_rfl) (by rfl) (by kernel_rfl) ?_
          intro K3 hK3
          go_wp2_with fail
          refine hK3 _ _ (fun hx => (Bool.false_ne_true (hx.symm.trans (by kernel_rfl))).elim) ?_
          clear hK3 K3
          refine any_done (by kernel_rfl) (NoPanic.normal ?_)
          have HF := Lib.hid (show TgS w n0 (n0 + 1) l.length k q gt (.slice (some ⟨bs, os, none⟩) l.length cap) m t Q (seV V k (.slice (some ⟨q, 0, none⟩) 401 401)) (tgT m l) (inRw m s post x (j + 1)) (wr.drew.setCell ⟨q, x, none⟩ (.int .i64 a2)) from by
            have h := (HS.out.next hd1 hn0).set x a2
            have e : seR (inRw m s post x j) x a2 = inRw m s post x (j + 1) := HSE2.out
            rw [e] at h
            exact h)
          clear rk2 fk2 lk2 HS HSET hd1
          go_wp2_with fail
          go_roundw
          case rel => exact ⟨j + 1, by have := HGE.out; have := HCN.out; omega, by congr 1; have := HGE.out; omega, HF.out⟩
          case measure => simp [intOf]; omega
end Go.Proofs.Ytgbegdjakadbbaa

set_option linter.all false
attribute [local go_sem] Go.Oper.semAt_some
namespace Go.Proofs.Ytgbegdjakadbbaa
open Go.RowKit Vp

/-- Rows of a table in memory: the slices in the block gO, up to i. -/
structure Tac (W : World) (gO n i : Nat) (Q : Nat → Nat) (V : Nat → Value) (F : Nat → Row) : Prop where
  o : Gv W gO 25 (n + 1) V
  v : ∀ j, j ≤ i → V j = .slice (some ⟨Q j, 0, none⟩) 401 401
  q : ∀ j, j ≤ i → gO < Q j
  r : ∀ j, j ≤ i → Gv W (Q j) 2 401 (iV (F j))
section
variable {W W' : World} {gO n i : Nat} {Q : Nat → Nat} {V : Nat → Value} {F : Nat → Row}
theorem Tac.next (h : Tac W gO n i Q V F) (hb : Below W.heap.size W W') : Tac W' gO n i Q V F :=
  ⟨h.o.below hb h.o.lt, h.v, h.q, fun j h1 => (h.r j h1).below hb (h.r j h1).lt⟩
theorem Tac.far (h : Tac W gO n i Q V F) {p : Addr} (hO : gO ≠ p.block) (hq : ∀ j, j ≤ i → Q j ≠ p.block) (u : Value) : Tac (W.setCell p u) gO n i Q V F :=
  ⟨h.o.far hO u, h.v, h.q, fun j h1 => (h.r j h1).far (hq j h1) u⟩
theorem Tac.put (h : Tac W gO n i Q V F) (u : Value) : Tac (W.setCell ⟨gO, i + 1, none⟩ u) gO n i Q (seV V (i + 1) u) F :=
  ⟨h.o.set _ _, fun j h1 => by rw [seV_other _ _ (by omega)]; exact h.v j h1, h.q, fun j h1 => (h.r j h1).far (by have := h.q j h1; show Q j ≠ gO; omega) _⟩
theorem Tac.all (h : Tac W gO n n Q V F) : Tab W gO n 0 Q V F := ⟨h.o, fun j _ h2 => h.v j h2, fun j _ h2 => h.q j h2, fun j _ h2 => h.r j h2⟩
end
/-- What lies while the row behind station k is made. -/
structure TcS (w : World) (n0 gO n k q gt : Nat) (vb : Value) (m : Int) (t : Rg) (Q : Nat → Nat) (V : Nat → Value) (F : Nat → Row) (R : Row) (W : World) : Prop where
  below : Below n0 w W
  bx : BK W n0 #[vb, .int .i64 m] 24
  tab : Tac W gO n k Q V F
  vk : V (k + 1) = .slice (some ⟨q, 0, none⟩) 401 401
  rk : Gv W q 2 401 (iV R)
  tb : BK W gt #[.int .i64 t.lo, .int .i64 t.hi] 42
  ne : ∀ j, j ≤ k → Q j ≠ q
  o1 : n0 < gO
  o2 : gO < q
  o3 : q < gt
section
variable {w : World} {n0 gO n k q gt : Nat} {vb : Value} {m : Int} {t : Rg} {Q : Nat → Nat} {V : Nat → Value} {F : Nat → Row} {R : Row} {W W' : World}
theorem TcS.next (h : TcS w n0 gO n k q gt vb m t Q V F R W) (hb : Below W.heap.size W W') (hn : w.heap.size = n0) : TcS w n0 gO n k q gt vb m t Q V F R W' :=
  ⟨h.below.trans (hb.mono (by have := h.below.size; omega)), h.bx.below hb h.bx.lt, h.tab.next hb, h.vk, h.rk.below hb h.rk.lt, h.tb.below hb h.tb.lt, h.ne, h.o1, h.o2, h.o3⟩
theorem TcS.set (h : TcS w n0 gO n k q gt vb m t Q V F R W) (x : Nat) (b : Int) : TcS w n0 gO n k q gt vb m t Q V F (seR R x b) (W.setCell ⟨q, x, none⟩ (.int .i64 b)) := by
  have o1 := h.o1
  have o2 := h.o2
  have o3 := h.o3
  have hs := h.rk.set x (.int .i64 b)
  rw [iV_set] at hs
  exact ⟨h.below.setCell (by show n0 ≤ q; omega) _, h.bx.far (by show n0 ≠ q; omega) _, h.tab.far (by show gO ≠ q; omega) (fun j h1 => h.ne j h1) _, h.vk, hs, h.tb.far (by show gt ≠ q; omega) _, h.ne, o1, o2, o3⟩
theorem TcS.tabk (h : TcS w n0 gO n k q gt vb m t Q V F R W) (he : ∀ x, x < 401 → R x = F (k + 1) x) : Tac W gO n (k + 1) (fun j => if j = k + 1 then q else Q j) V F := by
  refine ⟨h.tab.o, fun j h1 => ?_, fun j h1 => ?_, fun j h1 => ?_⟩
  · by_cases e : j = k + 1
    · subst e; simp; exact h.vk
    · simp [e]; exact h.tab.v j (by omega)
  · by_cases e : j = k + 1
    · subst e; simp; exact h.o2
    · simp [e]; exact h.tab.q j (by omega)
  · by_cases e : j = k + 1
    · subst e; simp; exact h.rk.congr fun i hi => by unfold iV; rw [he i hi]
    · simp [e]; exact h.tab.r j (by omega)
end
def cmT (m : Int) (l : List St) : Nat → Row := fun j => cmR m (l.take j).reverse
set_option maxHeartbeats 16000000 in
set_option maxRecDepth 100000 in
theorem comeR_any (l : List St) (v : Value) (m : Int) (w : World) (hB : OkB l m) (hT : RT w w.heap.size v l) :
    Calls Try.prog 61 #[bV v m] w fun e w' => ∃ gO Q V, e = .returned (.slice (some ⟨gO, 0, none⟩) (l.length + 1) (l.length + 1)) ∧ w.heap.size ≤ gO ∧ Tab w' gO l.length 0 Q V (cmT m l) ∧ Below w.heap.size w w' := by
  unfold bV
  obtain ⟨b, off, cap, A, rfl, -, hcap⟩ := hT.slice
  obtain ⟨n0, hn0⟩ : ∃ n, w.heap.size = n := ⟨_, rfl⟩
  have hm0 := hB.lo
  have hm1 := hB.hi
  have h20 := hB.few
  have HO := Lib.hid hB.all
  have hn1 := hB.one
  rw [hn0] at hT ⊢
  have HT := Lib.hid hT
  clear hT hB
  have hb1 : Below n0 w (w.alloc (.cells #[.slice A l.length cap, .int .i64 m] 24)) := by rw [← hn0]; exact Below.alloc (Below.refl _ _) (Nat.le_refl _) _
  have bx1 := BK.new' w #[.slice A l.length cap, .int .i64 m] 24 n0 hn0
  have hs1 : (w.alloc (.cells #[.slice A l.length cap, .int .i64 m] 24)).heap.size = n0 + 1 := by simp [hn0]
  go_enter Try.func61, Try.ntmps61
  go_upto_region 1 with fail
  generalize w.alloc (.cells #[.slice A l.length cap, .int .i64 m] 24) = W1 at *
  have bxc0 := bx1.cell 0
  have lbx := bx1.lt
  simp at bxc0
  obtain ⟨W2, hmk, hG, hs2, hb2⟩ := make_slices (l.length + 1) (by omega) W1 (n0 + 1) hs1
  rw [show (((l.length + 1 : Nat)) : Int) = (l.length : Int) + 1 by omega] at hmk
  have wn : IntKind.i64.wrap ((l.length : Int) + 1) = (l.length : Int) + 1 := by rw [IntKind.wrap_i64]; omega
  go_wp2_with fail
  refine (rowR_any _).mono ?_
  rintro e W3 ⟨rfl, hG3, hs3, hb3⟩
  rw [hs2] at hG3 hs3 ⊢
  have hO3 := hG.below hb3 hG.lt
  have oc := hO3.cell (i := 0) (by omega)
  have of := hO3.frozen 0
  have ol := hO3.lt
  have hkl : (0 : Int) < (l.length : Int) + 1 := by omega
  have hb13 : Below (n0 + 1) W1 W3 := by
    have := hb2.trans (hb3.mono hb2.size)
    rw [hs1] at this
    exact this
  have hsl : Gv (W3.setCell ⟨n0 + 1, 0, none⟩ (.slice (some ⟨n0 + 1 + 1, 0, none⟩) 401 401)) (n0 + 1 + 1) 2 401 (iV neverR) := hG3.far (p := ⟨n0 + 1, 0, none⟩) (by show n0 + 1 + 1 ≠ n0 + 1; omega) _
  have hol : Gv (W3.setCell ⟨n0 + 1, 0, none⟩ (.slice (some ⟨n0 + 1 + 1, 0, none⟩) 401 401)) (n0 + 1) 25 (l.length + 1) (seV (fun _ => .slice none 0 0) 0 (.slice (some ⟨n0 + 1 + 1, 0, none⟩) 401 401)) := hO3.set _ _
  have HF0 := Lib.hid (show BK (W3.setCell ⟨n0 + 1, 0, none⟩ (.slice (some ⟨n0 + 1 + 1, 0, none⟩) 401 401)) n0 #[.slice A l.length cap, .int .i64 m] 24 ∧ Below n0 w (W3.setCell ⟨n0 + 1, 0, none⟩ (.slice (some ⟨n0 + 1 + 1, 0, none⟩) 401 401)) from
    ⟨(bx1.below hb13 (by omega)).far (by show n0 ≠ n0 + 1; omega) _, (hb1.trans (hb13.mono (by omega))).setCell (by show n0 ≤ n0 + 1; omega) _⟩)
  clear hG hs2 hb2 hG3 hs3 hb3 hO3 hb13 hb1 bx1 hs1
  go_upto_region 4 with fail
  generalize W3.setCell ⟨n0 + 1, 0, none⟩ (.slice (some ⟨n0 + 1 + 1, 0, none⟩) 401 401) = W4 at *
  clear hmk wn oc of ol hkl bxc0 lbx
  have oc := hol.cell (i := 0) (by omega)
  rw [seV_same] at oc
  have ol := hol.lt
  have hkl : (0 : Int) < (l.length : Int) + 1 := by omega
  have rc := hsl.cell (i := 200) (by decide)
  have rf := hsl.frozen 200
  have rl := hsl.lt
  unfold iV at rc
  have hset := hsl.set 200 (.int .i64 0)
  rw [iV_set] at hset
  have HF1 := Lib.hid (show Tac (W4.setCell ⟨n0 + 1 + 1, 200, none⟩ (.int .i64 0)) (n0 + 1) l.length 0 (fun _ => n0 + 1 + 1) (seV (fun _ => .slice none 0 0) 0 (.slice (some ⟨n0 + 1 + 1, 0, none⟩) 401 401)) (cmT m l) ∧ BK (W4.setCell ⟨n0 + 1 + 1, 200, none⟩ (.int .i64 0)) n0 #[.slice A l.length cap, .int .i64 m] 24 ∧ Below n0 w (W4.setCell ⟨n0 + 1 + 1, 200, none⟩ (.int .i64 0)) from by
    refine ⟨⟨hol.far (by show n0 + 1 ≠ n0 + 1 + 1; omega) _, fun j hj => ?_, fun j hj => by omega, fun j hj => ?_⟩, HF0.out.1.far (by show n0 ≠ n0 + 1 + 1; omega) _, HF0.out.2.setCell (by show n0 ≤ n0 + 1 + 1; omega) _⟩
    · obtain rfl : j = 0 := by omega
      rw [seV_same]
    · obtain rfl : j = 0 := by omega
      have := hset
      rw [show (fun j => if j = 200 then 0 else neverR j) = cmR m (l.take 0).reverse from cm_start m l] at this
      exact this)
  clear hsl hol hset HF0
  go_upto_region 5 with fail
  generalize W4.setCell ⟨n0 + 1 + 1, 200, none⟩ (.int .i64 0) = W4' at *
  clear oc ol hkl rc rf rl
  go_wp2_with fail
  go_loopw [5] (fun iv wr => ∃ (k : Nat) (Q : Nat → Nat) (V : Nat → Value), k ≤ l.length ∧ iv = .int .i64 k ∧ Tac wr (n0 + 1) l.length k Q V (cmT m l) ∧ BK wr n0 #[.slice A l.length cap, .int .i64 m] 24 ∧ Below n0 w wr) (fun iv _ => l.length - (intOf iv).toNat)
  case atStart => exact ⟨0, _, _, Nat.zero_le _, rfl, HF1.out.1, HF1.out.2.1, HF1.out.2.2⟩
  case round =>
    clear HF1
    obtain ⟨k, Q, V, hk, rfl, hTab, bx, hC⟩ := hrel
    by_cases hlt : k < l.length
    case neg =>
      obtain rfl : k = l.length := by omega
      have z0 : ¬ ((l.length : Int) < (l.length : Int)) := by omega
      have HF := Lib.hid (And.intro hTab.all hC)
      clear hTab bx hC
      go_wp2_with fail
      refine bodyPost_ret (v := .slice (some ⟨n0 + 1, 0, none⟩) (l.length + 1) (l.length + 1)) (by simp [results, Try.results61, go_sem]) rfl ?_
      exact ⟨n0 + 1, rfl, by omega, ⟨Q, V, HF.out.1⟩, HF.out.2⟩
    case pos =>
      have z1 : (k : Int) < (l.length : Int) := by omega
      have hkp : (k : Int) + 1 < (l.length : Int) + 1 := by omega
      have hkz : (k : Int) ≤ 20 := by omega
      have wk1 : IntKind.i64.wrap ((k : Int) + 1) = (k : Int) + 1 := by rw [IntKind.wrap_i64]; omega
      go_wp2_with fail
      refine (rowR_any _).mono ?_
      rintro e w2 ⟨rfl, hGq, hsq, hbq⟩
      obtain ⟨q, hq⟩ : ∃ q, wr.heap.size = q := ⟨_, rfl⟩
      rw [hq] at hGq hsq ⊢
      have hT2 := hTab.next hbq
      have hqO : n0 + 1 < q := by have := hTab.o.lt; omega
      have hQq : ∀ j, j ≤ k → Q j ≠ q := fun j h1 => by have := (hTab.r j h1).lt; omega
      have bx2 := bx.below hbq bx.lt
      have hC2 := hC.trans (hbq.mono (by have := hC.size; omega))
      have oc := hT2.o.cell (i := k + 1) (by omega)
      have of := hT2.o.frozen (k + 1)
      have ol := hT2.o.lt
      have HF := Lib.hid (show Tac (w2.setCell ⟨n0 + 1, k + 1, none⟩ (.slice (some ⟨q, 0, none⟩) 401 401)) (n0 + 1) l.length k Q (seV V (k + 1) (.slice (some ⟨q, 0, none⟩) 401 401)) (cmT m l) ∧ Gv (w2.setCell ⟨n0 + 1, k + 1, none⟩ (.slice (some ⟨q, 0, none⟩) 401 401)) q 2 401 (iV neverR) ∧ BK (w2.setCell ⟨n0 + 1, k + 1, none⟩ (.slice (some ⟨q, 0, none⟩) 401 401)) n0 #[.slice A l.length cap, .int .i64 m] 24 ∧ Below n0 w (w2.setCell ⟨n0 + 1, k + 1, none⟩ (.slice (some ⟨q, 0, none⟩) 401 401)) ∧ (w2.setCell ⟨n0 + 1, k + 1, none⟩ (.slice (some ⟨q, 0, none⟩) 401 401)).heap.size = q + 1 from
        ⟨hT2.put _, hGq.far (by show q ≠ n0 + 1; omega) _, bx2.far (by show n0 ≠ n0 + 1; omega) _, hC2.setCell (by show n0 ≤ n0 + 1; omega) _, by simpa [World.setCell] using hsq⟩)
      clear hTab bx hC hGq hsq hbq hT2 bx2 hC2 hq
      go_upto_region 9 with fail
      clear oc of ol hkp
      generalize w2.setCell ⟨n0 + 1, k + 1, none⟩ (.slice (some ⟨q, 0, none⟩) 401 401) = W5 at *
      have bxc0 := HF.out.2.2.1.cell 0
      have bxc1 := HF.out.2.2.1.cell 1
      have lbx := HF.out.2.2.1.lt
      simp at bxc0 bxc1
      have hT5 := RS.more (RS.below HT.out HF.out.2.2.2.1) (B' := W5.heap.size) (by omega)
      have hlt2 : (k : Int) < l.length := by omega
      go_wp2_with fail
      refine (tube_any l _ m (k : Int) _ HO.out h20 hlt2 hT5).mono ?_
      rintro e w6 ⟨rfl, hb6⟩
      rw [show tubR l (k : Int) = tub (nthS l k) by unfold tubR; rw [if_neg (by omega)]; rfl]
      unfold rV
      have htr := tub_rng (HO.out _ (nthS_mem hlt))
      have hdr : (l.take (k + 1)).reverse = nthS l k :: (l.take k).reverse := take_rev hlt
      have HOP := Lib.hid (fun s (hs : s ∈ (l.take k).reverse) => HO.out s (List.mem_of_mem_take (List.mem_reverse.1 hs)))
      have hosb := HO.out _ (nthS_mem hlt)
      obtain ⟨post, hpost⟩ : ∃ p, (l.take k).reverse = p := ⟨_, rfl⟩
      rw [hpost] at hdr HOP
      obtain ⟨s, hse⟩ : ∃ s, nthS l k = s := ⟨_, rfl⟩
      rw [hse] at htr hdr hosb ⊢
      have HSE := Lib.hid hse
      have HDR := Lib.hid hdr
      have HPO := Lib.hid hpost
      have HOS := Lib.hid hosb
      clear hse hdr hpost hT5 bxc0 bxc1 lbx hosb
      obtain ⟨t, hte⟩ : ∃ t, tub s = t := ⟨_, rfl⟩
      rw [hte] at htr ⊢
      have HTE := Lib.hid hte
      clear hte
      go_upto_region 10 with fail
      obtain ⟨gt, hgt⟩ : ∃ g, w6.heap.size = g := ⟨_, rfl⟩
      try rw [hgt]
      have hb7 : Below W5.heap.size W5 (w6.alloc (.cells #[.int .i64 t.lo, .int .i64 t.hi] 42)) := hb6.alloc hb6.size _
      have tb := BK.new' w6 #[.int .i64 t.lo, .int .i64 t.hi] 42 gt hgt
      have hgq : q < gt := by have := hb6.size; have := HF.out.2.2.2.2; omega
      generalize w6.alloc (.cells #[.int .i64 t.lo, .int .i64 t.hi] 42) = W7 at *
      have HS0 := Lib.hid (show TcS w n0 (n0 + 1) l.length k q gt (.slice A l.length cap) m t Q (seV V (k + 1) (.slice (some ⟨q, 0, none⟩) 401 401)) (cmT m l) neverR W7 from
        ⟨HF.out.2.2.2.1.trans (hb7.mono (by have := HF.out.2.2.2.1.size; omega)), HF.out.2.2.1.below hb7 HF.out.2.2.1.lt, HF.out.1.next hb7, seV_same _ _ _, HF.out.2.1.below hb7 HF.out.2.1.lt, tb, hQq, by omega, hqO, hgq⟩)
      clear hb6 hb7 tb hgt HF
      go_wp2_with fail
      go_loopw [7] (fun iv W => ∃ x : Nat, x ≤ 401 ∧ iv = .int .i64 ((x : Int) - 200) ∧ TcS w n0 (n0 + 1) l.length k q gt (.slice A l.length cap) m t Q (seV V (k + 1) (.slice (some ⟨q, 0, none⟩) 401 401)) (cmT m l) (cmU m s post x) W) (fun iv _ => (201 - intOf iv).toNat)
      case atStart => exact ⟨0, Nat.zero_le _, rfl, by rw [cmU_zero]; exact HS0.out⟩
      case round =>
        clear HS0
        obtain ⟨x, hx, rfl, hS⟩ := hrel
        by_cases hxl : x < 401
        case neg =>
          obtain rfl : x = 401 := by omega
          have d0 : decide (((401 : Nat) : Int) - 200 ≤ 200) = false := by decide
          have HF := Lib.hid (And.intro (hS.tabk (fun y hy => by rw [cmU_all]; unfold cmT; rw [HDR.out])) (And.intro hS.bx hS.below))
          clear hS
          go_wp2_with fail
          go_roundw
          case rel => exact ⟨k + 1, _, _, by omega, by go_num, HF.out.1, HF.out.2.1, HF.out.2.2⟩
          case measure => first | (simp [intOf]; done) | (simp [intOf]; omega)
        have d0 : decide ((x : Int) - 200 ≤ 200) = true := decide_eq_true (by omega)
        have d0' : (x : Int) - 200 ≤ 200 := by omega
        obtain ⟨f, hfe⟩ : ∃ f, (x : Int) - 200 = f := ⟨_, rfl⟩
        have HFE := Lib.hid hfe
        have hfr : -200 ≤ f ∧ f ≤ 200 := by omega
        rw [hfe] at d0 d0' ⊢
        have wfm : IntKind.i64.wrap (f - m) = f - m := by rw [IntKind.wrap_i64]; omega
        have wfp : IntKind.i64.wrap (f + m) = f + m := by rw [IntKind.wrap_i64]; omega
        obtain ⟨lo, hlo⟩ : ∃ y, bLo s m f = y := ⟨_, rfl⟩
        obtain ⟨hi, hhi⟩ : ∃ y, bHi s m f = y := ⟨_, rfl⟩
        have hlo1 : lo = max t.lo (f - m) := by rw [← hlo, ← HTE.out]; rfl
        have hhi1 : hi = min t.hi (f + m) := by rw [← hhi, ← HTE.out]; rfl
        have mlo : (if t.lo < f - m then f - m else t.lo) = lo := by rw [hlo1]; omega
        have mhi : (if f + m < t.hi then f + m else t.hi) = hi := by rw [hhi1]; omega
        have HLH := Lib.hid (And.intro hlo hhi)
        have HL1 := Lib.hid (And.intro hlo1 hhi1)
        clear hlo1 hhi1
        have bxc1 := hS.bx.cell 1
        have lbx := hS.bx.lt
        have tc0 := hS.tb.cell 0
        have lt := hS.tb.lt
        simp at bxc1 tc0
        have HS := Lib.hid hS
        clear hS hlo hhi hfe
        go_wp2_with fail
        clear bxc1 lbx tc0 lt
        rename World => wb
        go_loopw [8] (fun iv W => ∃ j : Nat, j ≤ cnt lo hi ∧ iv = .int .i64 (lo + (j : Int)) ∧ TcS w n0 (n0 + 1) l.length k q gt (.slice A l.length cap) m t Q (seV V (k + 1) (.slice (some ⟨q, 0, none⟩) 401 401)) (cmT m l) (cmJ m s post x j) W) (fun iv _ => (hi + 1 - intOf iv).toNat)
        case atStart => exact ⟨0, Nat.zero_le _, by simp, by rw [cmJ_zero]; exact HS.out⟩
        case round =>
          clear HS
          obtain ⟨j, hj, rfl, hS⟩ := hrel
          have hcn : cnt lo hi = (hi + 1 - lo).toNat := rfl
          have HFX := Lib.hid (show (-200 : Int) + (x : Int) = f by have := HFE.out; omega)
          have bxc0 := hS.bx.cell 0
          have bxc1 := hS.bx.cell 1
          have lbx := hS.bx.lt
          have tc1 := hS.tb.cell 1
          have lt := hS.tb.lt
          simp at bxc0 bxc1 tc1
          have wf1 : IntKind.i64.wrap (f + 1) = f + 1 := by rw [IntKind.wrap_i64]; omega
          have wfx : IntKind.i64.wrap (f + 200) = (x : Int) := by have := HFE.out; rw [IntKind.wrap_i64]; omega
          have hx5 : (x : Int) < 401 := by omega
          have hkp : (k : Int) < (l.length : Int) + 1 := by omega
          have ok := hS.tab.o.cell (i := k) (by omega)
          have lo' := hS.tab.o.lt
          rw [hS.tab.v k (Nat.le_refl _)] at ok
          have r1 := (hS.tab.r k (Nat.le_refl _)).cell hxl
          have l1 := (hS.tab.r k (Nat.le_refl _)).lt
          unfold iV at r1
          have hbe : cmT m l k x = com m post f := by unfold cmT cmR; rw [HPO.out, HFE.out]
          rw [hbe] at r1
          clear hbe
          have hr1 := com_never m post f
          have hr0 := com_nonneg (m := m) (l := post) HOP.out f
          obtain ⟨bb, hbb⟩ : ∃ b, com m post f = b := ⟨_, rfl⟩
          rw [hbb] at r1 hr1 hr0
          have HBB := Lib.hid hbb
          clear hbb
          have hnv : never = 1099511627776 := rfl
          by_cases hjl : lo + (j : Int) ≤ hi
          case neg =>
            have d1 : decide (lo + (j : Int) ≤ hi) = false := decide_eq_false hjl
            have hjc : j = cnt lo hi := by omega
            have HF := Lib.hid (show TcS w n0 (n0 + 1) l.length k q gt (.slice A l.length cap) m t Q (seV V (k + 1) (.slice (some ⟨q, 0, none⟩) 401 401)) (cmT m l) (cmU m s post (x + 1)) wr from by
              have h := cmJ_all m s post x
              rw [HFX.out, HLH.out.1, HLH.out.2, ← hjc] at h
              rw [← h]; exact hS)
            clear hS hcn hjc ok r1 l1 lo' hr1 hr0 hnv hkp hx5 wfx
            go_wp2_with fail
            go_roundw
            case rel => exact ⟨x + 1, by omega, by congr 1; have := HFE.out; omega, HF.out⟩
            case measure => first | (simp [intOf]; done) | (simp [intOf]; omega)
          have d1 : decide (lo + (j : Int) ≤ hi) = true := decide_eq_true hjl
          by_cases hlv : bb < 1099511627776
          case neg =>
            have d2 : decide (bb < 1099511627776) = false := decide_eq_false hlv
            have HF := Lib.hid (show TcS w n0 (n0 + 1) l.length k q gt (.slice A l.length cap) m t Q (seV V (k + 1) (.slice (some ⟨q, 0, none⟩) 401 401)) (cmT m l) (cmU m s post (x + 1)) wr from by
              have hn : ¬ com m post (-200 + (x : Int)) < never := by rw [HFX.out, HBB.out]; exact hlv
              have e : cmJ m s post x j = cmU m s post (x + 1) := by
                funext h
                unfold cmJ
                rw [cmU_skip hn]
                split <;> rfl
              rw [← e]; exact hS)
            clear hS hcn hr1 hr0 hnv
            go_wp2_with fail
            go_roundw
            case rel => exact ⟨x + 1, by omega, by congr 1; have := HFE.out; omega, HF.out⟩
            case measure => first | (simp [intOf]; done) | (simp [intOf]; omega)
          have d2 : decide (bb < 1099511627776) = true := decide_eq_true hlv
          obtain ⟨g, hge⟩ : ∃ g, lo + (j : Int) = g := ⟨_, rfl⟩
          have hgr : -200 ≤ g ∧ g ≤ 200 ∧ -m ≤ g - f ∧ g - f ≤ m := by have := HL1.out; omega
          obtain ⟨y, hy⟩ : ∃ y : Nat, g + 200 = (y : Int) := ⟨(g + 200).toNat, by omega⟩
          have hy4 : y < 401 := by omega
          have hyx : (y : Int) - 200 = bLo s m (-200 + (x : Int)) + j := by rw [HFX.out, HLH.out.1]; omega
          have rk := hS.rk.cell hy4
          have fk := hS.rk.frozen y
          have lk := hS.rk.lt
          have ok1 := hS.tab.o.cell (i := k + 1) (by omega)
          rw [hS.vk] at ok1
          unfold iV at rk
          rw [cmJ_at hyx] at rk
          have hTs := RS.below HT.out hS.below
          obtain ⟨As, cs, bs, os, hve, hA, hc⟩ := RT.cells hTs
          obtain ⟨rfl, hbs⟩ := hA (by omega)
          injection hve with q1 q2 q3
          subst q1 q3
          obtain ⟨-, -, -, d3⟩ := hc k hlt
          rw [HSE.out] at d3
          have hbs2 : bs < wr.heap.size := by have := hS.below.size; omega
          have hos := okSB_iff.1 HOS.out
          have hstp := cmJ_step (m := m) (s := s) (pre := post) (n := x) (j := j) (x := y) hyx
          obtain ⟨M, hM⟩ : ∃ M, max (g - f) (-(g - f)) = M := ⟨_, rfl⟩
          have hmn := cmU_min (m := m) (s := s) (pre := post) (n := x) (x := y) (b := bb) (c := M * s.hard) (by rw [HFX.out]; exact HBB.out) (by omega) (by rw [HFX.out, may_b, HLH.out.1, HLH.out.2]; omega) (by
            rw [HFX.out, show (y : Int) - 200 - f = g - f by omega]
            unfold cst
            rw [hM, Int.mul_comm])
          rw [Int.add_comm bb] at hmn
          have hmv := cmU_never m s post x y
          have hMr : 0 ≤ M ∧ M ≤ 200 := by omega
          have hc1 : M * s.hard ≤ 200 * 9 := Int.mul_le_mul hMr.2 (by omega) (by omega) (by omega)
          have hc0 : 0 ≤ M * s.hard := Int.mul_nonneg (by omega) (by omega)
          obtain ⟨a, ha⟩ : ∃ a, cmU m s post x y = a := ⟨_, rfl⟩
          obtain ⟨a2, ha2⟩ : ∃ a, cmU m s post (x + 1) y = a := ⟨_, rfl⟩
          rw [ha, ha2] at hmn
          rw [ha] at rk hmv
          rw [ha2] at hstp
          rw [hge]
          have wgy : IntKind.i64.wrap (g + 200) = (y : Int) := by rw [IntKind.wrap_i64]; omega
          have wgf : IntKind.i64.wrap (g - f) = g - f := by rw [IntKind.wrap_i64]; omega
          have wk1 : IntKind.i64.wrap ((k : Int) + 1) = (k : Int) + 1 := by rw [IntKind.wrap_i64]; omega
          have wMh : IntKind.i64.wrap (M * s.hard) = M * s.hard := by rw [IntKind.wrap_i64]; omega
          have wMb : IntKind.i64.wrap (M * s.hard + bb) = M * s.hard + bb := by rw [IntKind.wrap_i64]; omega
          have wg1 : IntKind.i64.wrap (g + 1) = g + 1 := by rw [IntKind.wrap_i64]; omega
          have hk1 : (k : Int) + 1 < (l.length : Int) + 1 := by omega
          have hy5 : (y : Int) < 401 := by omega
          have hkl : (k : Int) < (l.length : Int) := by omega
          have HSE2 := Lib.hid hstp
          have HCN := Lib.hid (show j + 1 ≤ cnt lo hi by rw [hcn]; omega)
          have HS := Lib.hid hS
          have HM := Lib.hid hM
          have hgf : -9223372036854775807 ≤ g - f ∧ g - f ≤ 9223372036854775807 := by omega
          clear hnv hr1 hr0 hmv hc0 hc1 hstp hS hTs hA hc hM ha ha2 q2 hbs hcn hos hMr hyx
          rw [hge] at d1 hjl
          have HGE := Lib.hid hge
          clear hge hy
          have hd1 : Below wr.heap.size wr wr.drew := Below.drew (Below.refl _ _)
          go_wp2_with fail
          refine wp_region_noPanic (plain_any [0, 1, 2, 3, 4, 5, 6, 7, 8, 9, 10, 11, 12, 13, 14, 15, 16, 17, 18, 20, 21, 22, 23, 24, 25, 26, 27, 28, 29, 30, 31, 32, 33, 34, 35, 36, 37] (Below wr.heap.size wr) mixed ?_)
          refine any_tk 0 ?_
          refine any_tk 1 ?_
          refine any_tk 2 ?_
          refine any_tk 3 ?_
          refine any_tk 4 ?_
          refine any_tk 5 ?_
          refine any_tk 6 ?_
          refine any_tk 7 ?_
          refine any_tk 8 ?_
          refine any_tk 9 ?_
          refine any_tk 10 ?_
          refine any_tk 11 ?_
          refine any_tk 12 ?_
          refine any_tk 13 ?_
          refine any_tk 14 ?_
          refine any_tk 15 ?_
          refine any_tk 16 ?_
          refine any_tk 17 ?_
          refine any_tk 18 ?_
          refine any_tk 20 ?_
          refine any_tk 21 ?_
          refine any_tk 22 ?_
          refine any_tk 23 ?_
          refine any_tk 24 ?_
          refine any_tk 25 ?_
          refine any_tk 27 ?_
          refine any_tk 28 ?_
          refine any_tk 29 ?_
          refine any_tk 30 ?_
          refine any_tk 31 ?_
          refine any_tk 32 ?_
          refine any_tk 33 ?_
          refine any_tk 34 ?_
          refine any_run1 (i := 19) (by kernel_rfl) (by rfl) (by kernel_rfl) ?_
          intro K3 hK3
          go_wp2_with fail
          refine (amount_any (g - f) _ hgf).mono ?_
          rintro e w8 ⟨rfl, rfl⟩
          rw [HM.out]
          refine hK3 _ _ (fun _ => hd1) ?_
          clear hK3 K3
          refine any_tk 26 ?_
          refine any_tk 35 ?_
          refine any_tk 36 ?_
          refine any_tk 37 ?_
          have rk2 : wr.drew.cell? ⟨q, y, none⟩ = some (.int .i64 a) := rk
          have fk2 : wr.drew.frozen? ⟨q, y, none⟩ = false := fk
          have lk2 : q < wr.drew.heap.size := lk
          refine any_run1 (i := 38) (by kernel_rfl) (by rfl) (by kernel_rfl) ?_
          intro K3 hK3
          go_wp2_with fail
          refine hK3 _ _ (fun hx => (Bool.false_ne_true (hx.symm.trans (by kernel_rfl))).elim) ?_
          clear hK3 K3
          refine any_done (by kernel_rfl) (NoPanic.normal ?_)
          have HF := Lib.hid (show TcS w n0 (n0 + 1) l.length k q gt (.slice (some ⟨bs, os, none⟩) l.length cap) m t Q (seV V (k + 1) (.slice (some ⟨q, 0, none⟩) 401 401)) (cmT m l) (cmJ m s post x (j + 1)) (wr.drew.setCell ⟨q, y, none⟩ (.int .i64 a2)) from by
            have h := (HS.out.next hd1 hn0).set y a2
            have e : seR (cmJ m s post x j) y a2 = cmJ m s post x (j + 1) := HSE2.out
            rw [e] at h
            exact h)
          clear rk2 fk2 lk2 HS hd1
          go_wp2_with fail
          go_roundw
          case rel => exact ⟨j + 1, by have := HGE.out; have := HCN.out; omega, by congr 1; have := HGE.out; omega, HF.out⟩
          case measure => simp [intOf]; omega
end Go.Proofs.Ytgbegdjakadbbaa

set_option linter.all false
namespace Go.Proofs.Ytgbegdjakadbbaa
open Go.RowKit Vp

theorem inB_in' {lo hi n : Int} (h : lo ≤ n ∧ n ≤ hi) : inB lo hi n = true := by unfold inB; rw [decide_eq_true h.1, decide_eq_true h.2]; rfl
theorem witK_R (m : Int) (l : List St) (k : Nat) (d : Int) : witK m l k d = witR m (l.take k).reverse (nthS l k) (l.drop (k + 1)) d := wit_eq _ _ _ _ _
def wrF (m : Int) (pre : List St) (s : St) (post : List St) (d : Int) : Int → Int := fun f => if (tub s).lo ≤ f + d ∧ f + d ≤ (tub s).hi then com m pre f + cst s d + tgo m post (f + d) else never
theorem wrF_all (m : Int) (pre : List St) (s : St) (post : List St) (d : Int) : mins (wrF m pre s post d) (-200) 401 = witR m pre s post d := rfl
set_option maxHeartbeats 16000000 in
set_option maxRecDepth 100000 in
theorem withR_any (l : List St) (v : Value) (m : Int) (k : Nat) (d : Int) (qa qb : Nat) (w : World) (hB : OkB l m) (hk : k < l.length) (hd : -m ≤ d ∧ d ≤ m) (hT : RT w w.heap.size v l) (ga : Gv w qa 2 401 (iV (cmR m (l.take k).reverse))) (gb : Gv w qb 2 401 (iV (tgR m (l.drop (k + 1))))) :
    Calls Try.prog 65 #[bV v m, .int .i64 k, .int .i64 d, .slice (some ⟨qa, 0, none⟩) 401 401, .slice (some ⟨qb, 0, none⟩) 401 401] w fun e w' => e = .returned (.int .i64 (witK m l k d)) ∧ Below w.heap.size w w' := by
  unfold bV
  obtain ⟨b, off, cap, A, rfl, -, hcap⟩ := hT.slice
  have HB := Lib.hid hB
  have hm0 := hB.lo
  have hm1 := hB.hi
  have h20 := hB.few
  have la0 := ga.lt
  have lb0 := gb.lt
  obtain ⟨n0, hn0⟩ : ∃ n, w.heap.size = n := ⟨_, rfl⟩
  have hC : Below n0 w w := Below.refl _ _
  go_enter Try.func65, Try.ntmps65
  go_upto_region 1 with fail
  have bx : BK (w.alloc (.cells #[.slice A l.length cap, .int .i64 m] 24)) n0 #[.slice A l.length cap, .int .i64 m] 24 := BK.new' _ _ _ n0 hn0
  have hb1 : Below w.heap.size w (w.alloc (.cells #[.slice A l.length cap, .int .i64 m] 24)) := Below.alloc (Below.refl _ _) (Nat.le_refl _) _
  replace hC : Below n0 w (w.alloc (.cells #[.slice A l.length cap, .int .i64 m] 24)) := by rw [← hn0]; exact hb1
  replace hT := (RS.below hT hb1).more hb1.size
  replace ga := ga.below hb1 ga.lt
  replace gb := gb.below hb1 gb.lt
  have la : qa < n0 := by omega
  have lb : qb < n0 := by omega
  generalize (w.alloc (.cells #[.slice A l.length cap, .int .i64 m] 24)) = W1 at *
  clear hb1 la0 lb0
  have lbx := bx.lt
  have bxc0 := bx.cell 0
  have bxc1 := bx.cell 1
  simp at bxc0 bxc1
  go_wp2_with fail
  clear lbx bxc0 bxc1
  refine (tube_any l _ m _ _ HB.out.all h20 (by omega) hT).mono ?_
  rintro e w1 ⟨rfl, hb⟩
  replace hC : Below n0 w w1 := hC.trans (hb.mono (by have := hC.size; omega))
  replace hT := (RS.below hT hb).more hb.size
  replace ga := ga.below hb ga.lt
  replace gb := gb.below hb gb.lt
  replace bx := bx.below hb bx.lt
  clear hb
  rw [show tubR l (k : Int) = tub (nthS l k) by unfold tubR; rw [if_neg (by omega), Int.toNat_natCast]]
  have trg := tub_rng (HB.out.all _ (nthS_mem hk))
  have hos := okS_at HB.out.all hk
  obtain ⟨s, hs⟩ : ∃ s, nthS l k = s := ⟨_, rfl⟩
  rw [hs] at trg hos ⊢
  have HS := Lib.hid hs
  have HOS := Lib.hid hos
  obtain ⟨t, ht⟩ : ∃ t, tub s = t := ⟨_, rfl⟩
  rw [ht] at trg ⊢
  have HT2 := Lib.hid ht
  clear ht hs hos
  unfold rV
  have lbx := bx.lt
  have bxc0 := bx.cell 0
  have bxc1 := bx.cell 1
  simp at bxc0 bxc1
  go_upto_region 3 with fail
  clear lbx bxc0 bxc1
  obtain ⟨m1, hm1'⟩ : ∃ n, w1.heap.size = n := ⟨_, rfl⟩
  try rw [hm1']
  have hbt : Below w1.heap.size w1 (w1.alloc (.cells #[.int .i64 t.lo, .int .i64 t.hi] 42)) := Below.alloc (Below.refl _ _) (Nat.le_refl _) _
  have tt : BK (w1.alloc (.cells #[.int .i64 t.lo, .int .i64 t.hi] 42)) m1 #[.int .i64 t.lo, .int .i64 t.hi] 42 := BK.new' _ _ _ m1 hm1'
  replace hC : Below n0 w (w1.alloc (.cells #[.int .i64 t.lo, .int .i64 t.hi] 42)) := hC.trans (hbt.mono (by have := hC.size; omega))
  replace hT := (RS.below hT hbt).more hbt.size
  replace bx := bx.below hbt bx.lt
  replace ga := ga.below hbt ga.lt
  replace gb := gb.below hbt gb.lt
  generalize (w1.alloc (.cells #[.int .i64 t.lo, .int .i64 t.hi] 42)) = W2 at *
  clear hbt hm1'
  obtain ⟨pre, hpre⟩ : ∃ p, (l.take k).reverse = p := ⟨_, rfl⟩
  obtain ⟨post, hpost⟩ : ∃ p, l.drop (k + 1) = p := ⟨_, rfl⟩
  rw [hpre] at ga
  rw [hpost] at gb
  have HPP := Lib.hid (And.intro hpre hpost)
  have HOP := Lib.hid (fun s (hs : s ∈ post) => HB.out.all s (List.mem_of_mem_drop (by rw [hpost]; exact hs)))
  have HOQ := Lib.hid (fun s (hs : s ∈ pre) => HB.out.all s (List.mem_of_mem_take (List.mem_reverse.1 (by rw [hpre]; exact hs))))
  clear hpre hpost
  go_wp2_with fail
  go_loopw [11, 13] (fun acc fv wr => ∃ x : Nat, x ≤ 401 ∧ fv = .int .i64 ((x : Int) - 200) ∧ acc = .int .i64 (mins (wrF m pre s post d) (-200) x) ∧ Below W2.heap.size W2 wr) (fun _ fv _ => (201 - intOf fv).toNat)
  case atStart => exact ⟨0, by decide, by simp, rfl, Below.refl _ _⟩
  case round =>
    obtain ⟨x, hx, rfl, rfl, hbr⟩ := hrel
    have HBR := Lib.hid hbr
    replace hC : Below n0 w wr := hC.trans (hbr.mono (by have := hC.size; omega))
    replace hT := (RS.below hT hbr).more hbr.size
    replace ga := ga.below hbr ga.lt
    replace gb := gb.below hbr gb.lt
    replace bx := bx.below hbr bx.lt
    replace tt := tt.below hbr tt.lt
    clear hbr
    by_cases hlt : x < 401
    case neg =>
      obtain rfl : x = 401 := by omega
      have d0 : decide (((401 : Nat) : Int) - 200 ≤ 200) = false := by decide
      have hval : mins (wrF m pre s post d) (-200) 401 = witK m l k d := by rw [wrF_all, witK_R, HS.out, HPP.out.1, HPP.out.2]
      have HV := Lib.hid hval
      have HCC := Lib.hid hC
      clear hval ga gb hT bx tt hC
      go_wp2_with fail
      go_ret
      exact ⟨by rw [HV.out]; rfl, by rw [hn0]; exact HCC.out⟩
    have d0 : decide ((x : Int) - 200 ≤ 200) = true := decide_eq_true (by omega)
    have d0' : (x : Int) - 200 ≤ 200 := by omega
    obtain ⟨f, hfe⟩ : ∃ f, (x : Int) - 200 = f := ⟨_, rfl⟩
    have HFE := Lib.hid hfe
    have hfr : -200 ≤ f ∧ f ≤ 200 := by omega
    rw [hfe] at d0 d0' ⊢
    clear hfe
    have wfd : IntKind.i64.wrap (f + d) = f + d := by rw [IntKind.wrap_i64]; omega
    have wf1 : IntKind.i64.wrap (f + 1) = f + 1 := by rw [IntKind.wrap_i64]; omega
    have hstep : mins (wrF m pre s post d) (-200) (x + 1) = min (mins (wrF m pre s post d) (-200) x) (wrF m pre s post d f) := by rw [show f = -200 + (x : Int) by have := HFE.out; omega]; rfl
    have hnv := mins_never (wrF m pre s post d) (-200) x
    obtain ⟨a, ha⟩ : ∃ a, mins (wrF m pre s post d) (-200) x = a := ⟨_, rfl⟩
    rw [ha] at hstep hnv ⊢
    have HST := Lib.hid hstep
    have HNV := Lib.hid hnv
    clear ha hstep hnv
    have hbz : Below wr.heap.size wr wr := Below.refl _ _
    have ltt := tt.lt
    have ttc0 := tt.cell 0
    have ttc1 := tt.cell 1
    simp at ttc0 ttc1
    go_wp2_with fail
    clear ltt ttc0 ttc1
    obtain ⟨q, hq⟩ : ∃ q, inB t.lo t.hi (f + d) = q := ⟨_, rfl⟩
    refine (inside_b hq _).mono ?_
    rintro e w2 ⟨rfl, hb⟩
    replace hC : Below n0 w w2 := hC.trans (hb.mono (by have := hC.size; omega))
    replace hT := (RS.below hT hb).more hb.size
    replace ga := ga.below hb ga.lt
    replace gb := gb.below hb gb.lt
    replace bx := bx.below hb bx.lt
    replace tt := tt.below hb tt.lt
    replace hbz := hbz.trans (hb.mono hbz.size)
    clear hb
    cases q
    case false =>
      have hnin : ¬ (t.lo ≤ f + d ∧ f + d ≤ t.hi) := fun h => by rw [inB_in' h] at hq; cases hq
      have hv : mins (wrF m pre s post d) (-200) (x + 1) = a := by
        rw [HST.out]
        unfold wrF
        rw [HT2.out, if_neg hnin]
        have := HNV.out
        omega
      have HV := Lib.hid hv
      clear hq hnin hv
      go_wp2_with fail
      go_roundw
      case rel => exact ⟨x + 1, by omega, by congr 1; have := HFE.out; omega, by rw [HV.out], HBR.out.trans (hbz.mono HBR.out.size)⟩
      case measure => first | (simp [intOf]; done) | (simp [intOf]; omega)
    have hin : t.lo ≤ f + d ∧ f + d ≤ t.hi := by unfold inB at hq; simpa using hq
    obtain ⟨y, hy⟩ : ∃ y : Nat, f + d + 200 = (y : Int) := ⟨(f + d + 200).toNat, by omega⟩
    have hy4 : y < 401 := by omega
    have rc := ga.cell hlt
    have rl := ga.lt
    have rg := gb.cell hy4
    have rm := gb.lt
    unfold iV at rc rg
    rw [show cmR m pre x = com m pre f by unfold cmR; rw [HFE.out]] at rc
    rw [show tgR m post y = tgo m post (f + d) by unfold tgR; rw [show (y : Int) - 200 = f + d by omega]] at rg
    have c1 := com_never m pre f
    have c2 := com_nonneg (m := m) (l := pre) HOQ.out f
    have c3 := tgo_never m post (f + d)
    have c4 := tgo_nonneg (m := m) (l := post) HOP.out (f + d)
    obtain ⟨M, hM⟩ : ∃ M, max d (-d) = M := ⟨_, rfl⟩
    have hMr : 0 ≤ M ∧ M ≤ 200 := by omega
    have hos := HOS.out
    have c5 : M * s.hard ≤ 200 * 9 := Int.mul_le_mul hMr.2 (by omega) (by omega) (by omega)
    have c6 : 0 ≤ M * s.hard := Int.mul_nonneg (by omega) (by omega)
    have hv : mins (wrF m pre s post d) (-200) (x + 1) = if com m pre f + M * s.hard + tgo m post (f + d) < a then com m pre f + M * s.hard + tgo m post (f + d) else a := by
      rw [HST.out]
      unfold wrF
      rw [HT2.out, if_pos hin]
      unfold cst
      rw [hM, Int.mul_comm s.hard]
      split <;> omega
    obtain ⟨cc, hcc⟩ : ∃ c, com m pre f = c := ⟨_, rfl⟩
    obtain ⟨tg, htg⟩ : ∃ c, tgo m post (f + d) = c := ⟨_, rfl⟩
    rw [hcc, htg] at hv
    rw [hcc] at rc c1 c2
    rw [htg] at rg c3 c4
    obtain ⟨a2, ha2⟩ : ∃ c, mins (wrF m pre s post d) (-200) (x + 1) = c := ⟨_, rfl⟩
    rw [ha2] at hv
    have hmin := hv.symm
    have HV := Lib.hid ha2
    have HM := Lib.hid hM
    have hnv : never = 1099511627776 := rfl
    have wfx : IntKind.i64.wrap (f + 200) = (x : Int) := by have := HFE.out; rw [IntKind.wrap_i64]; omega
    have wgy : IntKind.i64.wrap (f + d + 200) = (y : Int) := by rw [IntKind.wrap_i64]; omega
    have wMh : IntKind.i64.wrap (M * s.hard) = M * s.hard := by rw [IntKind.wrap_i64]; omega
    have wc : IntKind.i64.wrap (cc + M * s.hard) = cc + M * s.hard := by rw [IntKind.wrap_i64]; omega
    have wt : IntKind.i64.wrap (cc + M * s.hard + tg) = cc + M * s.hard + tg := by rw [IntKind.wrap_i64]; omega
    have hx5 : (x : Int) < 401 := by omega
    have hy5 : (y : Int) < 401 := by omega
    have hkl : (k : Int) < (l.length : Int) := by omega
    have hdr : -9223372036854775807 ≤ d ∧ d ≤ 9223372036854775807 := by omega
    obtain ⟨A', cap', b', off', hve, hA, hc⟩ := RT.cells hT
    obtain ⟨rfl, hbb⟩ := hA (by omega)
    injection hve with q1 q2 q3
    subst q1 q3
    obtain ⟨-, -, -, d3⟩ := hc k hk
    rw [HS.out] at d3
    clear hA hc q2 hq hin hy hv hcc htg ha2 hM hMr hos c1 c2 c3 c4 c5 c6 hnv
    have lbx := bx.lt
    have bxc0 := bx.cell 0
    have bxc1 := bx.cell 1
    simp at bxc0 bxc1
    go_upto_region 8 with fail
    refine wp_region_noPanic (plain_any [0, 1, 2, 3, 4, 5, 6, 8, 9, 10, 11, 12, 13, 14, 15, 16, 17, 18, 19, 20, 21, 22, 23] (Below w2.heap.size w2) mixed ?_)
    refine any_tk 0 ?_
    have d0z : Below w2.heap.size w2 w2.drew := by exact bel_of
    refine any_tk 1 ?_
    refine any_tk 2 ?_
    refine any_tk 3 ?_
    refine any_tk 4 ?_
    refine any_tk 5 ?_
    refine any_tk 6 ?_
    refine any_tk 8 ?_
    refine any_tk 9 ?_
    refine any_tk 10 ?_
    refine any_tk 11 ?_
    refine any_tk 12 ?_
    refine any_tk 13 ?_
    refine any_tk 16 ?_
    refine any_tk 17 ?_
    refine any_tk 18 ?_
    refine any_tk 19 ?_
    refine any_tk 20 ?_
    have qz1 := d0z.size
    refine any_run1 (i := 7) (by kernel_rfl) (by rfl) (by kernel_rfl) ?_
    intro K hK
    go_wp2_with fail
    refine (amount_b d _ hdr).mono ?_
    rintro e vz1 ⟨rfl, hb⟩
    rw [HM.out]
    have ez1 : Below w2.heap.size w2 vz1 := d0z.trans (hb.mono d0z.size)
    clear hb
    refine hK _ _ (fun _ => ez1) ?_
    clear hK K
    refine any_tk 14 ?_
    refine any_tk 15 ?_
    refine any_tk 21 ?_
    refine any_tk 22 ?_
    refine any_tk 23 ?_
    refine any_done (by kernel_rfl) (NoPanic.normal ?_)
    have hb := ez1
    replace hC : Below n0 w vz1 := hC.trans (hb.mono (by have := hC.size; omega))
    replace hT := (RS.below hT hb).more hb.size
    replace ga := ga.below hb ga.lt
    replace gb := gb.below hb gb.lt
    replace bx := bx.below hb bx.lt
    replace tt := tt.below hb tt.lt
    replace hbz := hbz.trans (hb.mono hbz.size)
    clear hb
    clear lbx bxc0 bxc1
    clear rc rl rg rm hmin wfx wgy wMh wc wt hx5 hy5 hkl hdr hbb d3
    go_wp2_with fail
    go_roundw
    case rel => exact ⟨x + 1, by omega, by congr 1; have := HFE.out; omega, by rw [HV.out], HBR.out.trans (hbz.mono HBR.out.size)⟩
    case measure => first | (simp [intOf]; done) | (simp [intOf]; omega)
end Go.Proofs.Ytgbegdjakadbbaa

set_option linter.all false
namespace Go.Proofs.Ytgbegdjakadbbaa
open Go.RowKit Vp

theorem OwnTb.below {W W' : World} {gO n i : Nat} {Q : Nat → Nat} {V : Nat → Value} {F : Nat → Row} (h : Tab W gO n i Q V F) (hb : Below W.heap.size W W') : Tab W' gO n i Q V F := h.next hb
set_option maxHeartbeats 16000000 in
set_option maxRecDepth 100000 in
theorem leastR_any (l : List St) (v : Value) (m s d : Int) (w : World) (hl : l.length ≤ 1000) (hT : RT w w.heap.size v l) :
    Calls Try.prog 33 #[bV v m, .int .i64 s, .int .i64 d] w fun e w' => e = .returned (.tuple #[.int .i64 (lstV l m s d), .int .i64 (lstE l m s d)]) ∧ Below w.heap.size w w' := by
  unfold bV
  obtain ⟨b, off, cap, A, rfl, -, hcap⟩ := hT.slice
  obtain ⟨n0, hn0⟩ : ∃ n, w.heap.size = n := ⟨_, rfl⟩
  have hC : Below n0 w w := Below.refl _ _
  go_enter Try.func33, Try.ntmps33
  go_upto_region 1 with fail
  have hqbx : n0 ≤ n0 := by have := hC.size; omega
  have bx : BK (w.alloc (.cells #[.slice A l.length cap, .int .i64 m] 24)) (n0) #[.slice A l.length cap, .int .i64 m] 24 := BK.new' _ _ _ (n0) hn0
  have hsbx : (w.alloc (.cells #[.slice A l.length cap, .int .i64 m] 24)).heap.size = n0 + 1 := by simp [hn0]
  replace hC : Below n0 w (w.alloc (.cells #[.slice A l.length cap, .int .i64 m] 24)) := Below.alloc hC (by have := hC.size; omega) _
  replace hT := (RS.below hT (w' := (w.alloc (.cells #[.slice A l.length cap, .int .i64 m] 24))) (Below.alloc (Below.refl _ _) (Nat.le_refl _) _)).more (B' := (w.alloc (.cells #[.slice A l.length cap, .int .i64 m] 24)).heap.size) (by simp)
  generalize (w.alloc (.cells #[.slice A l.length cap, .int .i64 m] 24)) = Wbx at *
  have lbx := bx.lt
  have bxc0 := bx.cell 0
  have bxc1 := bx.cell 1
  simp at bxc0 bxc1
  go_wp2_with fail
  clear lbx bxc0 bxc1
  clear hsbx
  refine (isStation_any l _ m s _ hl hT).mono ?_
  rintro e w1 ⟨rfl, hb⟩
  replace hC : Below n0 w w1 := hC.trans (hb.mono (by have := hC.size; omega))
  replace hT := (RS.below hT hb).more hb.size
  replace bx := bx.below hb bx.lt
  clear hb
  obtain ⟨e, he⟩ : ∃ e, atE l m s = e := ⟨_, rfl⟩
  rw [he]
  by_cases h0 : e = 0
  case neg =>
    have HE := Lib.hid (lst_at (d := d) (by rw [he]; exact h0))
    have HE2 := Lib.hid he
    have b1 : (e != 0) = true := by simp [h0]
    clear he h0
    have lbx := bx.lt
    have bxc0 := bx.cell 0
    have bxc1 := bx.cell 1
    simp at bxc0 bxc1
    go_wp2_with fail
    clear lbx bxc0 bxc1
    refine (isStation_any l _ m s _ hl hT).mono ?_
    rintro e w2 ⟨rfl, hb⟩
    replace hC : Below n0 w w2 := hC.trans (hb.mono (by have := hC.size; omega))
    replace hT := (RS.below hT hb).more hb.size
    replace bx := bx.below hb bx.lt
    clear hb
    rw [HE2.out]
    go_wp2_with fail
    exact bodyPost_ret (v := .tuple #[.int .i64 0, .int .i64 e]) (by simp [results, Try.results33, go_sem]) rfl ⟨by rw [HE.out.1, HE.out.2, HE2.out], by first | exact hC | (rw [hn0]; exact hC) | (with_reducible rw [hn0]; exact bel_of) | exact bel_of⟩
  subst h0
  obtain ⟨hOK, k, hk, hlt⟩ := atE_zero he
  have HAT := Lib.hid he
  have HB := Lib.hid hOK
  have hm0 := hOK.lo
  have hm1 := hOK.hi
  have h20 := hOK.few
  have wn : IntKind.i64.wrap (-m) = -m := by rw [IntKind.wrap_i64]; omega
  clear he hOK
  have lbx := bx.lt
  have bxc0 := bx.cell 0
  have bxc1 := bx.cell 1
  simp at bxc0 bxc1
  go_wp2_with fail
  clear lbx bxc0 bxc1
  obtain ⟨q, hq⟩ : ∃ q, inB (-m) m d = q := ⟨_, rfl⟩
  refine (inside_b hq _).mono ?_
  rintro e w2 ⟨rfl, hb⟩
  replace hC : Below n0 w w2 := hC.trans (hb.mono (by have := hC.size; omega))
  replace hT := (RS.below hT hb).more hb.size
  replace bx := bx.below hb bx.lt
  clear hb
  clear wn
  cases q
  case false =>
    have HE := Lib.hid (lst_in HAT.out hq)
    clear hq
    go_wp2_with fail
    exact bodyPost_ret (v := .tuple #[.int .i64 0, .int .i64 3]) (by simp [results, Try.results33, go_sem]) rfl ⟨by rw [HE.out.1, HE.out.2], by first | exact hC | (rw [hn0]; exact hC) | (with_reducible rw [hn0]; exact bel_of) | exact bel_of⟩
  have hdr : -m ≤ d ∧ d ≤ m := by unfold inB at hq; simpa using hq
  have HQ := Lib.hid hq
  subst hk
  have hk1 : (k : Int) < (l.length : Int) + 1 := by omega
  have hk2 : (k : Int) + 1 < (l.length : Int) + 1 := by omega
  have wk1 : IntKind.i64.wrap ((k : Int) + 1) = (k : Int) + 1 := by rw [IntKind.wrap_i64]; omega
  clear hq
  have lbx := bx.lt
  have bxc0 := bx.cell 0
  have bxc1 := bx.cell 1
  simp at bxc0 bxc1
  go_upto_region 5 with fail
  refine region_keep [24, 25, 26, 27, 28, 29, 30, 31, 32, 33, 34, 35, 36, 37, 38, 8] (fun u V => u 8 = .int .i64 (witK m l k d) ∧ Below w2.heap.size w2 V) ?_ ?_
  ·skip
   have d0ya : Below w2.heap.size w2 w2.drew := by exact bel_of
   refine wp_region_noPanic (plain_any [0, 1, 2, 3, 5, 6, 8, 10, 11, 12, 15] (Below w2.heap.size w2) mixed ?_)
   refine any_tk 0 ?_
   refine any_tk 1 ?_
   refine any_tk 2 ?_
   refine any_tk 3 ?_
   refine any_tk 5 ?_
   refine any_tk 8 ?_
   refine any_tk 10 ?_
   refine any_tk 11 ?_
   have dya1 : Below w2.heap.size w2 w2.drew := by exact bel_of
   have hdr : Below w2.heap.size w2 w2.drew := Below.drew (Below.refl _ _)
   replace hT := (RS.below hT hdr).more hdr.size
   clear hdr
   generalize w2.drew = uya2 at *
   refine any_run1 (i := 4) (by kernel_rfl) (by rfl) (by kernel_rfl) ?_
   intro K hK
   have qya5 := dya1.size
   go_wp2_with fail
   refine (comeR_any l _ m _ HB.out hT).mono ?_
   rintro e vya4 ⟨gc, Qc, Vc, rfl, hqtc, tc, hb⟩
   have eya3 : Below w2.heap.size w2 vya4 := dya1.trans (hb.mono dya1.size)
   replace hT := (RS.below hT hb).more hb.size
   clear hb
   refine hK _ _ (fun _ => eya3) ?_
   clear hK K
   refine any_tk 6 ?_
   refine any_run2 (i := 7) (j := 9) (by kernel_rfl) (by rfl) (by rfl) (by rfl) (by rfl) ?_ ?_
   ·skip
    intro K hK
    have oc := tc.o.cell (i := k) (by omega)
    rw [tc.v (k) (Nat.zero_le _) (by omega)] at oc
    have ol := tc.o.lt
    go_wp2_with fail
    refine hK _ _ (fun _ => eya3) ?_
    clear hK K oc ol
    refine any_run1 (i := 9) (by kernel_rfl) (by rfl) (by kernel_rfl) ?_
    intro K hK
    have qya8 := eya3.size
    go_wp2_with fail
    refine (togoR_any l _ m _ HB.out hT).mono ?_
    rintro e vya7 ⟨gg, Qg, Vg, rfl, hqtg, tg, hb⟩
    have eya6 : Below w2.heap.size w2 vya7 := eya3.trans (hb.mono eya3.size)
    replace tc := OwnTb.below tc hb
    replace hT := (RS.below hT hb).more hb.size
    clear hb
    refine hK _ _ (fun _ => eya6) ?_
    clear hK K
    refine any_tk 12 ?_
    refine any_run1 (i := 13) (by kernel_rfl) (by rfl) (by kernel_rfl) ?_
    intro K hK
    have oc := tg.o.cell (i := k + 1) (by omega)
    rw [tg.v (k + 1) (Nat.zero_le _) (by omega)] at oc
    have ol := tg.o.lt
    go_wp2_with fail
    refine hK _ _ (fun _ => eya6) ?_
    clear hK K oc ol
    refine any_run1 (i := 14) (by kernel_rfl) (by rfl) (by kernel_rfl) ?_
    intro K hK
    have ga : Gv vya7 (Qc k) 2 401 (iV (cmR m (l.take k).reverse)) := tc.r k (Nat.zero_le _) (by omega)
    have gb : Gv vya7 (Qg (k + 1)) 2 401 (iV (tgR m (l.drop (k + 1)))) := tg.r (k + 1) (Nat.zero_le _) (by omega)
    have qya11 := eya6.size
    go_wp2_with fail
    refine (withR_any l _ m k d _ _ _ HB.out hlt hdr hT ga gb).mono ?_
    rintro e vya10 ⟨rfl, hb⟩
    have eya9 : Below w2.heap.size w2 vya10 := eya6.trans (hb.mono eya6.size)
    replace hT := (RS.below hT hb).more hb.size
    clear hb
    refine hK _ _ (fun _ => eya9) ?_
    clear hK K
    refine any_tk 15 ?_
    refine any_done (by kernel_rfl) (NoPanic.normal ?_)
    exact ⟨rfl, by simp [setAll], rfl, rfl, eya9⟩
   ·skip
    intro K hK
    have qya14 := eya3.size
    go_wp2_with fail
    refine (togoR_any l _ m _ HB.out hT).mono ?_
    rintro e vya13 ⟨gg, Qg, Vg, rfl, hqtg, tg, hb⟩
    have eya12 : Below w2.heap.size w2 vya13 := eya3.trans (hb.mono eya3.size)
    replace tc := OwnTb.below tc hb
    replace hT := (RS.below hT hb).more hb.size
    clear hb
    refine hK _ _ (fun _ => eya12) ?_
    clear hK K
    refine any_tk 12 ?_
    refine any_run2 (i := 7) (j := 13) (by kernel_rfl) (by rfl) (by rfl) (by rfl) (by rfl) ?_ ?_
    ·skip
     intro K hK
     have oc := tc.o.cell (i := k) (by omega)
     rw [tc.v (k) (Nat.zero_le _) (by omega)] at oc
     have ol := tc.o.lt
     go_wp2_with fail
     refine hK _ _ (fun _ => eya12) ?_
     clear hK K oc ol
     refine any_run1 (i := 13) (by kernel_rfl) (by rfl) (by kernel_rfl) ?_
     intro K hK
     have oc := tg.o.cell (i := k + 1) (by omega)
     rw [tg.v (k + 1) (Nat.zero_le _) (by omega)] at oc
     have ol := tg.o.lt
     go_wp2_with fail
     refine hK _ _ (fun _ => eya12) ?_
     clear hK K oc ol
     refine any_run1 (i := 14) (by kernel_rfl) (by rfl) (by kernel_rfl) ?_
     intro K hK
     have ga : Gv vya13 (Qc k) 2 401 (iV (cmR m (l.take k).reverse)) := tc.r k (Nat.zero_le _) (by omega)
     have gb : Gv vya13 (Qg (k + 1)) 2 401 (iV (tgR m (l.drop (k + 1)))) := tg.r (k + 1) (Nat.zero_le _) (by omega)
     have qya17 := eya12.size
     go_wp2_with fail
     refine (withR_any l _ m k d _ _ _ HB.out hlt hdr hT ga gb).mono ?_
     rintro e vya16 ⟨rfl, hb⟩
     have eya15 : Below w2.heap.size w2 vya16 := eya12.trans (hb.mono eya12.size)
     replace hT := (RS.below hT hb).more hb.size
     clear hb
     refine hK _ _ (fun _ => eya15) ?_
     clear hK K
     refine any_tk 15 ?_
     refine any_done (by kernel_rfl) (NoPanic.normal ?_)
     exact ⟨rfl, by simp [setAll], rfl, rfl, eya15⟩
    ·skip
     intro K hK
     have oc := tg.o.cell (i := k + 1) (by omega)
     rw [tg.v (k + 1) (Nat.zero_le _) (by omega)] at oc
     have ol := tg.o.lt
     go_wp2_with fail
     refine hK _ _ (fun _ => eya12) ?_
     clear hK K oc ol
     refine any_run1 (i := 7) (by kernel_rfl) (by rfl) (by kernel_rfl) ?_
     intro K hK
     have oc := tc.o.cell (i := k) (by omega)
     rw [tc.v (k) (Nat.zero_le _) (by omega)] at oc
     have ol := tc.o.lt
     go_wp2_with fail
     refine hK _ _ (fun _ => eya12) ?_
     clear hK K oc ol
     refine any_run1 (i := 14) (by kernel_rfl) (by rfl) (by kernel_rfl) ?_
     intro K hK
     have ga : Gv vya13 (Qc k) 2 401 (iV (cmR m (l.take k).reverse)) := tc.r k (Nat.zero_le _) (by omega)
     have gb : Gv vya13 (Qg (k + 1)) 2 401 (iV (tgR m (l.drop (k + 1)))) := tg.r (k + 1) (Nat.zero_le _) (by omega)
     have qya20 := eya12.size
     go_wp2_with fail
     refine (withR_any l _ m k d _ _ _ HB.out hlt hdr hT ga gb).mono ?_
     rintro e vya19 ⟨rfl, hb⟩
     have eya18 : Below w2.heap.size w2 vya19 := eya12.trans (hb.mono eya12.size)
     replace hT := (RS.below hT hb).more hb.size
     clear hb
     refine hK _ _ (fun _ => eya18) ?_
     clear hK K
     refine any_tk 15 ?_
     refine any_done (by kernel_rfl) (NoPanic.normal ?_)
     exact ⟨rfl, by simp [setAll], rfl, rfl, eya18⟩
  clear lbx bxc0 bxc1
  rintro u V ⟨hu8, hbz⟩
  simp only [setAll, List.foldl, List.setIfInBounds_toArray, List.set_cons_succ, List.set_cons_zero, hu8]
  clear hu8
  replace hC : Below n0 w V := hC.trans (hbz.mono (by have := hC.size; omega))
  replace hT := (RS.below hT hbz).more hbz.size
  replace bx := bx.below hbz bx.lt
  clear hbz
  have hwk : witK m l ((k : Nat) : Int).toNat d = witK m l k d := by rw [Int.toNat_natCast]
  have HWK := Lib.hid hwk
  clear hwk
  obtain ⟨c, hc⟩ : ∃ c, witK m l k d = c := ⟨_, rfl⟩
  rw [hc]
  have hnv : never = 1099511627776 := rfl
  by_cases hcn : c < never
  case neg =>
    have HE := Lib.hid (lst_no HAT.out HQ.out (by rw [HWK.out, hc]; exact hcn))
    have d1 : decide (1099511627776 ≤ c) = true := decide_eq_true (by rw [hnv] at hcn; omega)
    have d2 : c ≥ 1099511627776 := by rw [hnv] at hcn; omega
    clear hcn hnv hc
    go_wp2_with fail
    exact bodyPost_ret (v := .tuple #[.int .i64 0, .int .i64 18]) (by simp [results, Try.results33, go_sem]) rfl ⟨by rw [HE.out.1, HE.out.2], by first | exact hC | (rw [hn0]; exact hC) | (with_reducible rw [hn0]; exact bel_of) | exact bel_of⟩
  have HE := Lib.hid (lst_ok HAT.out HQ.out (by rw [HWK.out, hc]; exact hcn))
  have HC3 := Lib.hid hc
  have d1 : decide (1099511627776 ≤ c) = false := decide_eq_false (by rw [hnv] at hcn; omega)
  have d2 : ¬ c ≥ 1099511627776 := by rw [hnv] at hcn; omega
  clear hcn hnv hc
  go_wp2_with fail
  exact bodyPost_ret (v := .tuple #[.int .i64 c, .int .i64 0]) (by simp [results, Try.results33, go_sem]) rfl ⟨by rw [HE.out.2, HE.out.1, HWK.out, HC3.out], by first | exact hC | (rw [hn0]; exact hC) | (with_reducible rw [hn0]; exact bel_of) | exact bel_of⟩
end Go.Proofs.Ytgbegdjakadbbaa

set_option linter.all false
namespace Go.Proofs.Ytgbegdjakadbbaa
open Go.RowKit Vp

/-- What is found among the first n. -/
def tlN (p : Int → Bool) (a : Int) (n : Nat) : Int × Int × Int := toldL ((lst a n).filter p)
theorem told_app (F : List Int) (f : Int) : toldL (F ++ [f]) = ((if (toldL F).2.2 = 0 then (toldL F).1 else f), f, 0) := by
  unfold toldL
  rw [List.length_append, if_neg (by simp)]
  by_cases h : F.length = 0
  · rw [List.length_eq_zero_iff] at h
    subst h
    simp [nthI]
  · rw [if_neg h]
    have h0 : 0 < F.length := by omega
    simp [nthI, h0]
theorem tlN_zero (p : Int → Bool) (a : Int) : tlN p a 0 = (0, 0, 18) := rfl
theorem tlN_yes {p : Int → Bool} {a : Int} {n : Nat} (h : p (a + n) = true) : tlN p a (n + 1) = ((if (tlN p a n).2.2 = 0 then (tlN p a n).1 else a + n), a + n, 0) := by
  unfold tlN
  rw [lst_succ, List.filter_append, ← told_app]
  congr 1
  simp [h]
theorem tlN_no {p : Int → Bool} {a : Int} {n : Nat} (h : p (a + n) = false) : tlN p a (n + 1) = tlN p a n := by
  unfold tlN
  rw [lst_succ, List.filter_append]
  simp [h]
theorem tlN_err (p : Int → Bool) (a : Int) (n : Nat) : (tlN p a n).2.2 = 0 ∨ tlN p a n = (0, 0, 18) := by
  unfold tlN toldL
  split
  · exact .inr rfl
  · exact .inl rfl
set_option maxHeartbeats 16000000 in
set_option maxRecDepth 100000 in
theorem bendsR_any (l : List St) (v : Value) (m s : Int) (w : World) (hl : l.length ≤ 1000) (hT : RT w w.heap.size v l) :
    Calls Try.prog 29 #[bV v m, .int .i64 s] w fun e w' => e = .returned (.tuple #[.agg #[.int .i64 (bdsL l m s).1, .int .i64 (bdsL l m s).2.1], .int .i64 (bdsL l m s).2.2]) ∧ Below w.heap.size w w' := by
  unfold bV
  obtain ⟨b, off, cap, A, rfl, -, hcap⟩ := hT.slice
  obtain ⟨n0, hn0⟩ : ∃ n, w.heap.size = n := ⟨_, rfl⟩
  have hC : Below n0 w w := Below.refl _ _
  go_enter Try.func29, Try.ntmps29
  go_upto_region 1 with fail
  have hqbx : n0 ≤ n0 := by have := hC.size; omega
  have bx : BK (w.alloc (.cells #[.slice A l.length cap, .int .i64 m] 24)) (n0) #[.slice A l.length cap, .int .i64 m] 24 := BK.new' _ _ _ (n0) hn0
  have hsbx : (w.alloc (.cells #[.slice A l.length cap, .int .i64 m] 24)).heap.size = n0 + 1 := by simp [hn0]
  replace hC : Below n0 w (w.alloc (.cells #[.slice A l.length cap, .int .i64 m] 24)) := Below.alloc hC (by have := hC.size; omega) _
  replace hT := (RS.below hT (w' := (w.alloc (.cells #[.slice A l.length cap, .int .i64 m] 24))) (Below.alloc (Below.refl _ _) (Nat.le_refl _) _)).more (B' := (w.alloc (.cells #[.slice A l.length cap, .int .i64 m] 24)).heap.size) (by simp)
  generalize (w.alloc (.cells #[.slice A l.length cap, .int .i64 m] 24)) = Wbx at *
  have hqrs : n0 ≤ n0 + 1 := by have := hC.size; omega
  have rs : BK (Wbx.alloc (.cells #[.int .i64 0, .int .i64 0] 42)) (n0 + 1) #[.int .i64 0, .int .i64 0] 42 := BK.new' _ _ _ (n0 + 1) hsbx
  have hsrs : (Wbx.alloc (.cells #[.int .i64 0, .int .i64 0] 42)).heap.size = n0 + 1 + 1 := by simp [hsbx]
  replace hC : Below n0 w (Wbx.alloc (.cells #[.int .i64 0, .int .i64 0] 42)) := Below.alloc hC (by have := hC.size; omega) _
  replace hT := (RS.below hT (w' := (Wbx.alloc (.cells #[.int .i64 0, .int .i64 0] 42))) (Below.alloc (Below.refl _ _) (Nat.le_refl _) _)).more (B' := (Wbx.alloc (.cells #[.int .i64 0, .int .i64 0] 42)).heap.size) (by simp)
  replace bx := bx.alloc (.cells #[.int .i64 0, .int .i64 0] 42)
  generalize (Wbx.alloc (.cells #[.int .i64 0, .int .i64 0] 42)) = Wrs at *
  clear hsbx
  have lbx := bx.lt
  have bxc0 := bx.cell 0
  have bxc1 := bx.cell 1
  simp at bxc0 bxc1
  go_wp2_with fail
  clear lbx bxc0 bxc1
  clear hsrs
  refine (isStation_any l _ m s _ hl hT).mono ?_
  rintro e w1 ⟨rfl, hb⟩
  replace hC : Below n0 w w1 := hC.trans (hb.mono (by have := hC.size; omega))
  replace hT := (RS.below hT hb).more hb.size
  replace bx := bx.below hb bx.lt
  replace rs := rs.below hb rs.lt
  clear hb
  obtain ⟨e, he⟩ : ∃ e, atE l m s = e := ⟨_, rfl⟩
  rw [he]
  by_cases h0 : e = 0
  case neg =>
    have HE := Lib.hid (show bdsL l m s = (0, 0, e) by unfold bdsL; rw [he, if_neg h0])
    have HE2 := Lib.hid he
    have b1 : (e != 0) = true := by simp [h0]
    clear he h0
    have lbx := bx.lt
    have bxc0 := bx.cell 0
    have bxc1 := bx.cell 1
    simp at bxc0 bxc1
    go_wp2_with fail
    clear lbx bxc0 bxc1
    refine (isStation_any l _ m s _ hl hT).mono ?_
    rintro e w2 ⟨rfl, hb⟩
    replace hC : Below n0 w w2 := hC.trans (hb.mono (by have := hC.size; omega))
    replace hT := (RS.below hT hb).more hb.size
    replace bx := bx.below hb bx.lt
    replace rs := rs.below hb rs.lt
    clear hb
    rw [HE2.out]
    have lrs := rs.lt
    have rsc0 := rs.cell 0
    have rsc1 := rs.cell 1
    simp at rsc0 rsc1
    have rsf0 := rs.frozen 0
    have rsf1 := rs.frozen 1
    go_wp2_with fail
    refine bodyPost_ret (v := .tuple #[.agg #[.int .i64 0, .int .i64 0], .int .i64 e]) (by simp [results, Try.results29, go_sem, *]) rfl ?_
    rw [HE.out]
    exact ⟨rfl, by rw [hn0]; exact (hC.setCell (by show n0 ≤ n0 + 1; omega) _).setCell (by show n0 ≤ n0 + 1; omega) _⟩
  subst h0
  obtain ⟨hOK, k, hk, hlt⟩ := atE_zero he
  have HAT := Lib.hid he
  have HB := Lib.hid hOK
  have hm0 := hOK.lo
  have hm1 := hOK.hi
  have h20 := hOK.few
  subst hk
  have hk1 : (k : Int) < (l.length : Int) + 1 := by omega
  have hk2 : (k : Int) + 1 < (l.length : Int) + 1 := by omega
  have wk1 : IntKind.i64.wrap ((k : Int) + 1) = (k : Int) + 1 := by rw [IntKind.wrap_i64]; omega
  clear he hOK
  have lbx := bx.lt
  have bxc0 := bx.cell 0
  have bxc1 := bx.cell 1
  simp at bxc0 bxc1
  go_upto_region 3 with fail
  refine region_keep [19, 20, 21, 22, 23, 24, 25, 26, 27, 28, 29, 30, 6, 7] (fun u V => ∃ qa qb, u 6 = .slice (some ⟨qa, 0, none⟩) 401 401 ∧ u 7 = .slice (some ⟨qb, 0, none⟩) 401 401 ∧ Gv V qa 2 401 (iV (cmR m (l.take (k + 1)).reverse)) ∧ Gv V qb 2 401 (iV (tgR m (l.drop (k + 1)))) ∧ Below w1.heap.size w1 V) ?_ ?_
  ·skip
   have d0ya : Below w1.heap.size w1 w1.drew := by exact bel_of
   refine wp_region_noPanic (plain_any [0, 2, 3, 4, 6, 8, 9, 10, 12, 13] (Below w1.heap.size w1) mixed ?_)
   refine any_tk 0 ?_
   refine any_tk 2 ?_
   refine any_tk 3 ?_
   refine any_tk 6 ?_
   refine any_tk 8 ?_
   refine any_tk 9 ?_
   have dya1 : Below w1.heap.size w1 w1.drew := by exact bel_of
   have hdr : Below w1.heap.size w1 w1.drew := Below.drew (Below.refl _ _)
   replace hT := (RS.below hT hdr).more hdr.size
   clear hdr
   generalize w1.drew = uya2 at *
   refine any_run1 (i := 1) (by kernel_rfl) (by rfl) (by kernel_rfl) ?_
   intro K hK
   have qya5 := dya1.size
   go_wp2_with fail
   refine (comeR_any l _ m _ HB.out hT).mono ?_
   rintro e vya4 ⟨gc, Qc, Vc, rfl, hqtc, tc, hb⟩
   have eya3 : Below w1.heap.size w1 vya4 := dya1.trans (hb.mono dya1.size)
   replace hT := (RS.below hT hb).more hb.size
   clear hb
   refine hK _ _ (fun _ => eya3) ?_
   clear hK K
   refine any_tk 4 ?_
   refine any_run2 (i := 5) (j := 7) (by kernel_rfl) (by rfl) (by rfl) (by rfl) (by rfl) ?_ ?_
   ·skip
    intro K hK
    have oc := tc.o.cell (i := k + 1) (by omega)
    rw [tc.v (k + 1) (Nat.zero_le _) (by omega)] at oc
    have ol := tc.o.lt
    go_wp2_with fail
    refine hK _ _ (fun _ => eya3) ?_
    clear hK K oc ol
    refine any_run1 (i := 7) (by kernel_rfl) (by rfl) (by kernel_rfl) ?_
    intro K hK
    have qya8 := eya3.size
    go_wp2_with fail
    refine (togoR_any l _ m _ HB.out hT).mono ?_
    rintro e vya7 ⟨gg, Qg, Vg, rfl, hqtg, tg, hb⟩
    have eya6 : Below w1.heap.size w1 vya7 := eya3.trans (hb.mono eya3.size)
    replace tc := OwnTb.below tc hb
    replace hT := (RS.below hT hb).more hb.size
    clear hb
    refine hK _ _ (fun _ => eya6) ?_
    clear hK K
    refine any_tk 10 ?_
    refine any_tk 12 ?_
    refine any_run1 (i := 11) (by kernel_rfl) (by rfl) (by kernel_rfl) ?_
    intro K hK
    have oc := tg.o.cell (i := k + 1) (by omega)
    rw [tg.v (k + 1) (Nat.zero_le _) (by omega)] at oc
    have ol := tg.o.lt
    go_wp2_with fail
    refine hK _ _ (fun _ => eya6) ?_
    clear hK K oc ol
    refine any_tk 13 ?_
    refine any_done (by kernel_rfl) (NoPanic.normal ?_)
    exact ⟨rfl, by simp [setAll], rfl, _, _, rfl, rfl, tc.r (k + 1) (Nat.zero_le _) (by omega), tg.r (k + 1) (Nat.zero_le _) (by omega), eya6⟩
   ·skip
    intro K hK
    have qya11 := eya3.size
    go_wp2_with fail
    refine (togoR_any l _ m _ HB.out hT).mono ?_
    rintro e vya10 ⟨gg, Qg, Vg, rfl, hqtg, tg, hb⟩
    have eya9 : Below w1.heap.size w1 vya10 := eya3.trans (hb.mono eya3.size)
    replace tc := OwnTb.below tc hb
    replace hT := (RS.below hT hb).more hb.size
    clear hb
    refine hK _ _ (fun _ => eya9) ?_
    clear hK K
    refine any_tk 10 ?_
    refine any_run2 (i := 5) (j := 11) (by kernel_rfl) (by rfl) (by rfl) (by rfl) (by rfl) ?_ ?_
    ·skip
     intro K hK
     have oc := tc.o.cell (i := k + 1) (by omega)
     rw [tc.v (k + 1) (Nat.zero_le _) (by omega)] at oc
     have ol := tc.o.lt
     go_wp2_with fail
     refine hK _ _ (fun _ => eya9) ?_
     clear hK K oc ol
     refine any_tk 12 ?_
     refine any_run1 (i := 11) (by kernel_rfl) (by rfl) (by kernel_rfl) ?_
     intro K hK
     have oc := tg.o.cell (i := k + 1) (by omega)
     rw [tg.v (k + 1) (Nat.zero_le _) (by omega)] at oc
     have ol := tg.o.lt
     go_wp2_with fail
     refine hK _ _ (fun _ => eya9) ?_
     clear hK K oc ol
     refine any_tk 13 ?_
     refine any_done (by kernel_rfl) (NoPanic.normal ?_)
     exact ⟨rfl, by simp [setAll], rfl, _, _, rfl, rfl, tc.r (k + 1) (Nat.zero_le _) (by omega), tg.r (k + 1) (Nat.zero_le _) (by omega), eya9⟩
    ·skip
     intro K hK
     have oc := tg.o.cell (i := k + 1) (by omega)
     rw [tg.v (k + 1) (Nat.zero_le _) (by omega)] at oc
     have ol := tg.o.lt
     go_wp2_with fail
     refine hK _ _ (fun _ => eya9) ?_
     clear hK K oc ol
     refine any_run1 (i := 5) (by kernel_rfl) (by rfl) (by kernel_rfl) ?_
     intro K hK
     have oc := tc.o.cell (i := k + 1) (by omega)
     rw [tc.v (k + 1) (Nat.zero_le _) (by omega)] at oc
     have ol := tc.o.lt
     go_wp2_with fail
     refine hK _ _ (fun _ => eya9) ?_
     clear hK K oc ol
     refine any_tk 12 ?_
     refine any_tk 13 ?_
     refine any_done (by kernel_rfl) (NoPanic.normal ?_)
     exact ⟨rfl, by simp [setAll], rfl, _, _, rfl, rfl, tc.r (k + 1) (Nat.zero_le _) (by omega), tg.r (k + 1) (Nat.zero_le _) (by omega), eya9⟩
  clear lbx bxc0 bxc1
  rintro u V ⟨qa, qb, hu6, hu7, ga, gb, hbz⟩
  simp only [setAll, List.foldl, List.setIfInBounds_toArray, List.set_cons_succ, List.set_cons_zero, hu6, hu7]
  clear hu6 hu7
  replace hC : Below n0 w V := hC.trans (hbz.mono (by have := hC.size; omega))
  replace hT := (RS.below hT hbz).more hbz.size
  replace bx := bx.below hbz bx.lt
  replace rs := rs.below hbz rs.lt
  clear hbz
  go_upto_region 5 with fail
  have la := ga.lt
  have lb := gb.lt
  have lr := rs.lt
  obtain ⟨gr, hgr⟩ : ∃ n, V.heap.size = n := ⟨_, rfl⟩
  try rw [hgr]
  rw [hgr] at la lb lr
  have hqrr : n0 ≤ gr := by have := hC.size; omega
  have rr : BK (V.alloc (.cells #[.int .i64 0, .int .i64 0] 42)) (gr) #[.int .i64 0, .int .i64 0] 42 := BK.new' _ _ _ (gr) hgr
  have hsrr : (V.alloc (.cells #[.int .i64 0, .int .i64 0] 42)).heap.size = gr + 1 := by simp [hgr]
  replace hC : Below n0 w (V.alloc (.cells #[.int .i64 0, .int .i64 0] 42)) := Below.alloc hC (by have := hC.size; omega) _
  replace rs := rs.alloc (.cells #[.int .i64 0, .int .i64 0] 42)
  replace ga := ga.alloc (.cells #[.int .i64 0, .int .i64 0] 42)
  replace gb := gb.alloc (.cells #[.int .i64 0, .int .i64 0] 42)
  generalize (V.alloc (.cells #[.int .i64 0, .int .i64 0] 42)) = Wrr at *
  clear hgr
  clear hsrr
  obtain ⟨pre, hpre⟩ : ∃ p, (l.take (k + 1)).reverse = p := ⟨_, rfl⟩
  obtain ⟨post, hpost⟩ : ∃ p, l.drop (k + 1) = p := ⟨_, rfl⟩
  obtain ⟨P, hP⟩ : ∃ P : Int → Bool, (fun f => decide (com m pre f < never) && decide (tgo m post f < never)) = P := ⟨_, rfl⟩
  have HBD := Lib.hid (show bdsL l m ((k : Nat) : Int) = tlN P (-200) 401 by
    unfold bdsL
    rw [if_pos HAT.out, Int.toNat_natCast]
    unfold tlN bdsF
    rw [hpre, hpost, hP])
  have HP := Lib.hid (fun f => congrFun hP f)
  rw [hpre] at ga
  rw [hpost] at gb
  clear hpre hpost hP hT bx hk1 hk2 wk1
  go_wp2_with fail
  go_loopw [9, 10] (fun fd fv wr => ∃ x : Nat, x ≤ 401 ∧ fv = .int .i64 ((x : Int) - 200) ∧ fd = .bool (decide ((tlN P (-200) x).2.2 = 0)) ∧ BK wr gr #[.int .i64 (tlN P (-200) x).1, .int .i64 (tlN P (-200) x).2.1] 42 ∧ BK wr (n0 + 1) #[.int .i64 0, .int .i64 0] 42 ∧ Gv wr qa 2 401 (iV (cmR m pre)) ∧ Gv wr qb 2 401 (iV (tgR m post)) ∧ Below n0 w wr) (fun _ fv _ => (201 - intOf fv).toNat)
  case atStart => exact ⟨0, by decide, by simp, by rw [tlN_zero]; rfl, rr, rs, ga, gb, hC⟩
  case round =>
    clear rr rs ga gb hC
    obtain ⟨x, hx, rfl, rfl, rr, rs, ga, gb, hC⟩ := hrel
    obtain ⟨⟨lo, hi, er⟩, hT⟩ : ∃ T, tlN P (-200) x = T := ⟨_, rfl⟩
    have her := tlN_err P (-200) x
    rw [hT] at her rr ⊢
    have HTX := Lib.hid hT
    dsimp only at her rr ⊢
    clear hT
    by_cases hlt4 : x < 401
    case neg =>
      obtain rfl : x = 401 := by omega
      have d0 : decide (((401 : Nat) : Int) - 200 ≤ 200) = false := by decide
      rw [HTX.out] at HBD
      clear ga gb
      rcases her with rfl | her
      ·skip
       have HE := Lib.hid HBD.out
       have lrr := rr.lt
       have rrc0 := rr.cell 0
       have rrc1 := rr.cell 1
       simp at rrc0 rrc1
       have lrs := rs.lt
       have rsc0 := rs.cell 0
       have rsc1 := rs.cell 1
       simp at rsc0 rsc1
       have rsf0 := rs.frozen 0
       have rsf1 := rs.frozen 1
       go_wp2_with fail
       refine bodyPost_ret (v := .tuple #[.agg #[.int .i64 lo, .int .i64 hi], .int .i64 0]) (by simp [results, Try.results29, go_sem, *]) rfl ?_
       rw [HE.out]
       exact ⟨rfl, by rw [hn0]; exact (hC.setCell (by show n0 ≤ n0 + 1; omega) _).setCell (by show n0 ≤ n0 + 1; omega) _⟩
      ·skip
       injection her with e1 e2
       injection e2 with e2 e3
       subst e1 e2 e3
       have HE := Lib.hid HBD.out
       have lrs := rs.lt
       have rsc0 := rs.cell 0
       have rsc1 := rs.cell 1
       simp at rsc0 rsc1
       have rsf0 := rs.frozen 0
       have rsf1 := rs.frozen 1
       go_wp2_with fail
       refine bodyPost_ret (v := .tuple #[.agg #[.int .i64 0, .int .i64 0], .int .i64 18]) (by simp [results, Try.results29, go_sem, *]) rfl ?_
       rw [HE.out]
       exact ⟨rfl, by rw [hn0]; exact (hC.setCell (by show n0 ≤ n0 + 1; omega) _).setCell (by show n0 ≤ n0 + 1; omega) _⟩
    have d0 : decide ((x : Int) - 200 ≤ 200) = true := decide_eq_true (by omega)
    have d0' : (x : Int) - 200 ≤ 200 := by omega
    obtain ⟨f, hfe⟩ : ∃ f, (x : Int) - 200 = f := ⟨_, rfl⟩
    have HFE := Lib.hid hfe
    have HFX := Lib.hid (show (-200 : Int) + (x : Int) = f by omega)
    have hfr : -200 ≤ f ∧ f ≤ 200 := by omega
    have rc := ga.cell hlt4
    have rl := ga.lt
    have rg := gb.cell hlt4
    have rm := gb.lt
    unfold iV at rc rg
    rw [show cmR m pre x = com m pre f by unfold cmR; rw [hfe]] at rc
    rw [show tgR m post x = tgo m post f by unfold tgR; rw [hfe]] at rg
    rw [hfe] at d0 d0' ⊢
    clear hfe
    have hPf := HP.out f
    obtain ⟨cc, hcc⟩ : ∃ c, com m pre f = c := ⟨_, rfl⟩
    obtain ⟨tg, htg⟩ : ∃ c, tgo m post f = c := ⟨_, rfl⟩
    try dsimp only at hPf
    rw [hcc, htg] at hPf
    rw [hcc] at rc
    rw [htg] at rg
    have hnv : never = 1099511627776 := rfl
    rw [hnv] at hPf
    have wf1 : IntKind.i64.wrap (f + 1) = f + 1 := by rw [IntKind.wrap_i64]; omega
    have wfx : IntKind.i64.wrap (f + 200) = (x : Int) := by have := HFE.out; rw [IntKind.wrap_i64]; omega
    have hx5 : (x : Int) < 401 := by omega
    clear hcc htg hnv hfr
    by_cases hc1 : cc < 1099511627776
    case neg =>
      have HN := Lib.hid (show tlN P (-200) (x + 1) = (lo, hi, er) by rw [tlN_no (by rw [HFX.out, ← hPf]; simp; omega), HTX.out])
      clear hPf
      go_wp2_with fail
      go_roundw
      case rel => exact ⟨x + 1, by omega, by congr 1; have := HFE.out; omega, by rw [HN.out], by rw [HN.out]; exact rr, rs, ga, gb, hC⟩
      case measure => first | (simp [intOf]; done) | (simp [intOf]; omega)
    by_cases hc2 : tg < 1099511627776
    case neg =>
      have HN := Lib.hid (show tlN P (-200) (x + 1) = (lo, hi, er) by rw [tlN_no (by rw [HFX.out, ← hPf]; simp; omega), HTX.out])
      clear hPf
      go_wp2_with fail
      go_roundw
      case rel => exact ⟨x + 1, by omega, by congr 1; have := HFE.out; omega, by rw [HN.out], by rw [HN.out]; exact rr, rs, ga, gb, hC⟩
      case measure => first | (simp [intOf]; done) | (simp [intOf]; omega)
    rcases her with rfl | her
    ·skip
     have HN := Lib.hid (show tlN P (-200) (x + 1) = (lo, f, 0) by rw [tlN_yes (by rw [HFX.out, ← hPf]; simp; omega), HTX.out, HFX.out]; rfl)
     have lrr := rr.lt
     have rrc0 := rr.cell 0
     have rrc1 := rr.cell 1
     simp at rrc0 rrc1
     have rrf0 := rr.frozen 0
     have rrf1 := rr.frozen 1
     have rrA := rr.set 1 (.int .i64 f)
     simp at rrA
     have rsA : BK (wr.setCell ⟨gr, 1, none⟩ (.int .i64 f)) (n0 + 1) #[.int .i64 0, .int .i64 0] 42 := (BK.far rs (p := ⟨gr, 1, none⟩) (by show n0 + 1 ≠ gr; omega) (.int .i64 f))
     have gaA : Gv (wr.setCell ⟨gr, 1, none⟩ (.int .i64 f)) qa 2 401 (iV (cmR m pre)) := (Gv.far ga (p := ⟨gr, 1, none⟩) (by show qa ≠ gr; omega) (.int .i64 f))
     have gbA : Gv (wr.setCell ⟨gr, 1, none⟩ (.int .i64 f)) qb 2 401 (iV (tgR m post)) := (Gv.far gb (p := ⟨gr, 1, none⟩) (by show qb ≠ gr; omega) (.int .i64 f))
     have hCA : Below n0 w (wr.setCell ⟨gr, 1, none⟩ (.int .i64 f)) := hC.setCell (by show n0 ≤ gr; omega) _
     have HAll := Lib.hid (And.intro rrA (And.intro rsA (And.intro gaA (And.intro gbA hCA))))
     clear hPf rrA rsA gaA gbA hCA rr rs ga gb hC
     go_wp2_with fail
     go_roundw
     case rel => exact ⟨x + 1, by omega, by congr 1; have := HFE.out; omega, by rw [HN.out]; rfl, by rw [HN.out]; exact HAll.out.1, HAll.out.2.1, HAll.out.2.2.1, HAll.out.2.2.2.1, HAll.out.2.2.2.2⟩
     case measure => first | (simp [intOf]; done) | (simp [intOf]; omega)
    ·skip
     injection her with e1 e2
     injection e2 with e2 e3
     subst e1 e2 e3
     have HN := Lib.hid (show tlN P (-200) (x + 1) = (f, f, 0) by rw [tlN_yes (by rw [HFX.out, ← hPf]; simp; omega), HTX.out, HFX.out]; rfl)
     have lrr := rr.lt
     have rrc0 := rr.cell 0
     have rrc1 := rr.cell 1
     simp at rrc0 rrc1
     have rrf0 := rr.frozen 0
     have rrf1 := rr.frozen 1
     have rrA := (rr.set 0 (.int .i64 f)).set 1 (.int .i64 f)
     simp at rrA
     have rsA : BK ((wr.setCell ⟨gr, 0, none⟩ (.int .i64 f)).setCell ⟨gr, 1, none⟩ (.int .i64 f)) (n0 + 1) #[.int .i64 0, .int .i64 0] 42 := (BK.far (BK.far rs (p := ⟨gr, 0, none⟩) (by show n0 + 1 ≠ gr; omega) (.int .i64 f)) (p := ⟨gr, 1, none⟩) (by show n0 + 1 ≠ gr; omega) (.int .i64 f))
     have gaA : Gv ((wr.setCell ⟨gr, 0, none⟩ (.int .i64 f)).setCell ⟨gr, 1, none⟩ (.int .i64 f)) qa 2 401 (iV (cmR m pre)) := (Gv.far (Gv.far ga (p := ⟨gr, 0, none⟩) (by show qa ≠ gr; omega) (.int .i64 f)) (p := ⟨gr, 1, none⟩) (by show qa ≠ gr; omega) (.int .i64 f))
     have gbA : Gv ((wr.setCell ⟨gr, 0, none⟩ (.int .i64 f)).setCell ⟨gr, 1, none⟩ (.int .i64 f)) qb 2 401 (iV (tgR m post)) := (Gv.far (Gv.far gb (p := ⟨gr, 0, none⟩) (by show qb ≠ gr; omega) (.int .i64 f)) (p := ⟨gr, 1, none⟩) (by show qb ≠ gr; omega) (.int .i64 f))
     have hCA : Below n0 w ((wr.setCell ⟨gr, 0, none⟩ (.int .i64 f)).setCell ⟨gr, 1, none⟩ (.int .i64 f)) := (hC.setCell (by show n0 ≤ gr; omega) _).setCell (by show n0 ≤ gr; omega) _
     have HAll := Lib.hid (And.intro rrA (And.intro rsA (And.intro gaA (And.intro gbA hCA))))
     clear hPf rrA rsA gaA gbA hCA rr rs ga gb hC
     go_wp2_with fail
     go_roundw
     case rel => exact ⟨x + 1, by omega, by congr 1; have := HFE.out; omega, by rw [HN.out]; rfl, by rw [HN.out]; exact HAll.out.1, HAll.out.2.1, HAll.out.2.2.1, HAll.out.2.2.2.1, HAll.out.2.2.2.2⟩
     case measure => first | (simp [intOf]; done) | (simp [intOf]; omega)
end Go.Proofs.Ytgbegdjakadbbaa

set_option linter.all false
namespace Go.Proofs.Ytgbegdjakadbbaa
open Go.RowKit Vp

theorem spn_yes0 {l : List St} {m : Int} (hB : OkB l m) {k : Nat} (hk : k < l.length) (h : tgo m l 0 < never) : (spnL l m k).2.2 = 0 := (spn_yes hB hk h).2
set_option maxHeartbeats 16000000 in
set_option maxRecDepth 100000 in
theorem spanR_any (l : List St) (v : Value) (m s : Int) (w : World) (hl : l.length ≤ 1000) (hT : RT w w.heap.size v l) :
    Calls Try.prog 31 #[bV v m, .int .i64 s] w fun e w' => e = .returned (.tuple #[.agg #[.int .i64 (spnL l m s).1, .int .i64 (spnL l m s).2.1], .int .i64 (spnL l m s).2.2]) ∧ Below w.heap.size w w' := by
  have hT00 := hT
  unfold bV
  obtain ⟨b, off, cap, A, rfl, -, hcap⟩ := hT.slice
  obtain ⟨n0, hn0⟩ : ∃ n, w.heap.size = n := ⟨_, rfl⟩
  have hC : Below n0 w w := Below.refl _ _
  go_enter Try.func31, Try.ntmps31
  go_upto_region 1 with fail
  have hqbx : n0 ≤ n0 := by have := hC.size; omega
  have bx : BK (w.alloc (.cells #[.slice A l.length cap, .int .i64 m] 24)) (n0) #[.slice A l.length cap, .int .i64 m] 24 := BK.new' _ _ _ (n0) hn0
  have hsbx : (w.alloc (.cells #[.slice A l.length cap, .int .i64 m] 24)).heap.size = n0 + 1 := by simp [hn0]
  replace hC : Below n0 w (w.alloc (.cells #[.slice A l.length cap, .int .i64 m] 24)) := Below.alloc hC (by have := hC.size; omega) _
  replace hT := (RS.below hT (w' := (w.alloc (.cells #[.slice A l.length cap, .int .i64 m] 24))) (Below.alloc (Below.refl _ _) (Nat.le_refl _) _)).more (B' := (w.alloc (.cells #[.slice A l.length cap, .int .i64 m] 24)).heap.size) (by simp)
  generalize (w.alloc (.cells #[.slice A l.length cap, .int .i64 m] 24)) = Wbx at *
  have hqrs : n0 ≤ n0 + 1 := by have := hC.size; omega
  have rs : BK (Wbx.alloc (.cells #[.int .i64 0, .int .i64 0] 42)) (n0 + 1) #[.int .i64 0, .int .i64 0] 42 := BK.new' _ _ _ (n0 + 1) hsbx
  have hsrs : (Wbx.alloc (.cells #[.int .i64 0, .int .i64 0] 42)).heap.size = n0 + 1 + 1 := by simp [hsbx]
  replace hC : Below n0 w (Wbx.alloc (.cells #[.int .i64 0, .int .i64 0] 42)) := Below.alloc hC (by have := hC.size; omega) _
  replace hT := (RS.below hT (w' := (Wbx.alloc (.cells #[.int .i64 0, .int .i64 0] 42))) (Below.alloc (Below.refl _ _) (Nat.le_refl _) _)).more (B' := (Wbx.alloc (.cells #[.int .i64 0, .int .i64 0] 42)).heap.size) (by simp)
  replace bx := bx.alloc (.cells #[.int .i64 0, .int .i64 0] 42)
  generalize (Wbx.alloc (.cells #[.int .i64 0, .int .i64 0] 42)) = Wrs at *
  clear hsbx
  have lbx := bx.lt
  have bxc0 := bx.cell 0
  have bxc1 := bx.cell 1
  simp at bxc0 bxc1
  go_wp2_with fail
  clear lbx bxc0 bxc1
  clear hsrs
  refine (isStation_any l _ m s _ hl hT).mono ?_
  rintro e w1 ⟨rfl, hb⟩
  replace hC : Below n0 w w1 := hC.trans (hb.mono (by have := hC.size; omega))
  replace hT := (RS.below hT hb).more hb.size
  replace bx := bx.below hb bx.lt
  replace rs := rs.below hb rs.lt
  clear hb
  obtain ⟨e, he⟩ : ∃ e, atE l m s = e := ⟨_, rfl⟩
  rw [he]
  by_cases h0 : e = 0
  case neg =>
    have HE := Lib.hid (show spnL l m s = (0, 0, e) by unfold spnL; rw [he, if_neg h0])
    have HE2 := Lib.hid he
    have b1 : (e != 0) = true := by simp [h0]
    clear he h0
    have lbx := bx.lt
    have bxc0 := bx.cell 0
    have bxc1 := bx.cell 1
    simp at bxc0 bxc1
    go_wp2_with fail
    clear lbx bxc0 bxc1
    refine (isStation_any l _ m s _ hl hT).mono ?_
    rintro e w2 ⟨rfl, hb⟩
    replace hC : Below n0 w w2 := hC.trans (hb.mono (by have := hC.size; omega))
    replace hT := (RS.below hT hb).more hb.size
    replace bx := bx.below hb bx.lt
    replace rs := rs.below hb rs.lt
    clear hb
    rw [HE2.out]
    have lrs := rs.lt
    have rsc0 := rs.cell 0
    have rsc1 := rs.cell 1
    simp at rsc0 rsc1
    have rsf0 := rs.frozen 0
    have rsf1 := rs.frozen 1
    go_wp2_with fail
    refine bodyPost_ret (v := .tuple #[.agg #[.int .i64 0, .int .i64 0], .int .i64 e]) (by simp [results, Try.results31, go_sem, *]) rfl ?_
    rw [HE.out]
    exact ⟨rfl, by (try rw [hn0]); exact (hC.setCell (by show n0 ≤ n0 + 1; omega) _).setCell (by show n0 ≤ n0 + 1; omega) _⟩
  subst h0
  obtain ⟨hOK, k, hk, hlt⟩ := atE_zero he
  have HAT := Lib.hid he
  have HB := Lib.hid hOK
  have hm0 := hOK.lo
  have hm1 := hOK.hi
  have h20 := hOK.few
  subst hk
  have hk1 : (k : Int) < (l.length : Int) + 1 := by omega
  have hk2 : (k : Int) + 1 < (l.length : Int) + 1 := by omega
  have wk1 : IntKind.i64.wrap ((k : Int) + 1) = (k : Int) + 1 := by rw [IntKind.wrap_i64]; omega
  clear he hOK
  have H0 := Lib.hid (show RT w n0 (.slice A l.length cap) l by rw [← hn0]; exact hT00)
  clear hT00
  have lbx := bx.lt
  have bxc0 := bx.cell 0
  have bxc1 := bx.cell 1
  simp at bxc0 bxc1
  go_upto_region 3 with fail
  refine region_keep [20, 21, 22, 23, 24, 25, 26, 6, 7] (fun u V => ∃ qa gO Q V2, u 6 = .slice (some ⟨qa, 0, none⟩) 401 401 ∧ u 7 = .slice (some ⟨gO, 0, none⟩) (l.length + 1) (l.length + 1) ∧ Gv V qa 2 401 (iV (cmR m (l.take k).reverse)) ∧ Tab V gO l.length 0 Q V2 (tgT m l) ∧ Below w1.heap.size w1 V) ?_ ?_
  ·skip
   have d0ya : Below w1.heap.size w1 w1.drew := by exact bel_of
   refine wp_region_noPanic (plain_any [0, 2, 3, 5, 7, 8] (Below w1.heap.size w1) mixed ?_)
   refine any_tk 0 ?_
   refine any_tk 2 ?_
   refine any_tk 5 ?_
   have dya1 : Below w1.heap.size w1 w1.drew := by exact bel_of
   have hdr : Below w1.heap.size w1 w1.drew := Below.drew (Below.refl _ _)
   replace hT := (RS.below hT hdr).more hdr.size
   clear hdr
   generalize w1.drew = uya2 at *
   refine any_run1 (i := 1) (by kernel_rfl) (by rfl) (by kernel_rfl) ?_
   intro K hK
   have qya5 := dya1.size
   go_wp2_with fail
   refine (comeR_any l _ m _ HB.out hT).mono ?_
   rintro e vya4 ⟨gc, Qc, Vc, rfl, hqtc, tc, hb⟩
   have eya3 : Below w1.heap.size w1 vya4 := dya1.trans (hb.mono dya1.size)
   replace hT := (RS.below hT hb).more hb.size
   clear hb
   refine hK _ _ (fun _ => eya3) ?_
   clear hK K
   refine any_tk 3 ?_
   refine any_run2 (i := 4) (j := 6) (by kernel_rfl) (by rfl) (by rfl) (by rfl) (by rfl) ?_ ?_
   ·skip
    intro K hK
    have oc := tc.o.cell (i := k) (by omega)
    rw [tc.v (k) (Nat.zero_le _) (by omega)] at oc
    have ol := tc.o.lt
    go_wp2_with fail
    refine hK _ _ (fun _ => eya3) ?_
    clear hK K oc ol
    refine any_run1 (i := 6) (by kernel_rfl) (by rfl) (by kernel_rfl) ?_
    intro K hK
    have qya8 := eya3.size
    go_wp2_with fail
    refine (togoR_any l _ m _ HB.out hT).mono ?_
    rintro e vya7 ⟨gg, Qg, Vg, rfl, hqtg, tg, hb⟩
    have eya6 : Below w1.heap.size w1 vya7 := eya3.trans (hb.mono eya3.size)
    replace tc := OwnTb.below tc hb
    replace hT := (RS.below hT hb).more hb.size
    clear hb
    refine hK _ _ (fun _ => eya6) ?_
    clear hK K
    refine any_tk 7 ?_
    refine any_tk 8 ?_
    refine any_done (by kernel_rfl) (NoPanic.normal ?_)
    exact ⟨rfl, by simp [setAll], rfl, _, _, _, _, rfl, rfl, tc.r k (Nat.zero_le _) (by omega), tg, eya6⟩
   ·skip
    intro K hK
    have qya11 := eya3.size
    go_wp2_with fail
    refine (togoR_any l _ m _ HB.out hT).mono ?_
    rintro e vya10 ⟨gg, Qg, Vg, rfl, hqtg, tg, hb⟩
    have eya9 : Below w1.heap.size w1 vya10 := eya3.trans (hb.mono eya3.size)
    replace tc := OwnTb.below tc hb
    replace hT := (RS.below hT hb).more hb.size
    clear hb
    refine hK _ _ (fun _ => eya9) ?_
    clear hK K
    refine any_run1 (i := 4) (by kernel_rfl) (by rfl) (by kernel_rfl) ?_
    intro K hK
    have oc := tc.o.cell (i := k) (by omega)
    rw [tc.v (k) (Nat.zero_le _) (by omega)] at oc
    have ol := tc.o.lt
    go_wp2_with fail
    refine hK _ _ (fun _ => eya9) ?_
    clear hK K oc ol
    refine any_tk 7 ?_
    refine any_tk 8 ?_
    refine any_done (by kernel_rfl) (NoPanic.normal ?_)
    exact ⟨rfl, by simp [setAll], rfl, _, _, _, _, rfl, rfl, tc.r k (Nat.zero_le _) (by omega), tg, eya9⟩
  clear lbx bxc0 bxc1
  rintro u V ⟨qa, gO, Q, V2, hu6, hu7, ga, tab, hbz⟩
  simp only [setAll, List.foldl, List.setIfInBounds_toArray, List.set_cons_succ, List.set_cons_zero, hu6, hu7]
  clear hu6 hu7
  replace hC : Below n0 w V := hC.trans (hbz.mono (by have := hC.size; omega))
  replace hT := (RS.below hT hbz).more hbz.size
  replace bx := bx.below hbz bx.lt
  replace rs := rs.below hbz rs.lt
  clear hbz
  have oc := tab.o.cell (i := 0) (by omega)
  rw [tab.v 0 (Nat.le_refl _) (Nat.zero_le _)] at oc
  have ol := tab.o.lt
  have hr := tab.r 0 (Nat.le_refl _) (Nat.zero_le _)
  have rc := hr.cell (i := 200) (by decide)
  have rl := hr.lt
  have he0 : tgT m l 0 200 = tgo m l 0 := by unfold tgT tgR; rw [List.drop_zero]; rfl
  unfold iV at rc
  rw [he0] at rc
  obtain ⟨c, hc⟩ : ∃ c, tgo m l 0 = c := ⟨_, rfl⟩
  rw [hc] at rc
  have HC3 := Lib.hid hc
  have hk0 : (0 : Int) < (l.length : Int) + 1 := by omega
  have hnv : never = 1099511627776 := rfl
  clear hr he0 hc
  by_cases hcn : c < 1099511627776
  case neg =>
    have HE := Lib.hid (show spnL l m ((k : Nat) : Int) = (0, 0, 18) by unfold spnL; rw [if_pos HAT.out, if_neg (by rw [HC3.out, hnv]; exact hcn)])
    have d1 : decide (1099511627776 ≤ c) = true := decide_eq_true (by omega)
    have d2 : c ≥ 1099511627776 := by omega
    clear hnv
    have lrs := rs.lt
    have rsc0 := rs.cell 0
    have rsc1 := rs.cell 1
    simp at rsc0 rsc1
    have rsf0 := rs.frozen 0
    have rsf1 := rs.frozen 1
    go_wp2_with fail
    refine bodyPost_ret (v := .tuple #[.agg #[.int .i64 0, .int .i64 0], .int .i64 18]) (by simp [results, Try.results31, go_sem, *]) rfl ?_
    rw [HE.out]
    exact ⟨rfl, by (try rw [hn0]); exact (hC.setCell (by show n0 ≤ n0 + 1; omega) _).setCell (by show n0 ≤ n0 + 1; omega) _⟩
  have d1 : decide (1099511627776 ≤ c) = false := decide_eq_false (by omega)
  have d2 : ¬ c ≥ 1099511627776 := by omega
  have HCN := Lib.hid (show tgo m l 0 < never by rw [HC3.out, hnv]; exact hcn)
  clear hnv
  go_upto_region 8 with fail
  clear oc ol rc rl d1 d2 hcn hk0
  have la := ga.lt
  have lo_ := tab.o.lt
  have lr := rs.lt
  have lq : ∀ j, j ≤ l.length → Q j < V.heap.size := fun j hj => (tab.r j (Nat.zero_le _) hj).lt
  obtain ⟨gr, hgr⟩ : ∃ n, V.heap.size = n := ⟨_, rfl⟩
  try rw [hgr]
  rw [hgr] at la lo_ lr lq
  have LQ := Lib.hid lq
  clear lq
  replace tab := Tab.next tab (W' := (V.alloc (.cells #[.int .i64 0, .int .i64 0] 42))) (Below.alloc (Below.refl _ _) (Nat.le_refl _) _)
  have hqrr : n0 ≤ gr := by have := hC.size; omega
  have rr : BK (V.alloc (.cells #[.int .i64 0, .int .i64 0] 42)) (gr) #[.int .i64 0, .int .i64 0] 42 := BK.new' _ _ _ (gr) hgr
  have hsrr : (V.alloc (.cells #[.int .i64 0, .int .i64 0] 42)).heap.size = gr + 1 := by simp [hgr]
  replace hC : Below n0 w (V.alloc (.cells #[.int .i64 0, .int .i64 0] 42)) := Below.alloc hC (by have := hC.size; omega) _
  replace bx := bx.alloc (.cells #[.int .i64 0, .int .i64 0] 42)
  replace rs := rs.alloc (.cells #[.int .i64 0, .int .i64 0] 42)
  replace ga := ga.alloc (.cells #[.int .i64 0, .int .i64 0] 42)
  generalize (V.alloc (.cells #[.int .i64 0, .int .i64 0] 42)) = Wrr at *
  clear hgr
  clear hsrr
  obtain ⟨P, hP⟩ : ∃ P : Int → Bool, (fun d => witK m l k d == tgo m l 0) = P := ⟨_, rfl⟩
  obtain ⟨N, hN⟩ : ∃ N, cnt (-m) m = N := ⟨_, rfl⟩
  have hN2 : (N : Int) = 2 * m + 1 := by rw [← hN]; unfold cnt; omega
  have HBD := Lib.hid (show spnL l m ((k : Nat) : Int) = tlN P (-m) N by
    unfold spnL
    rw [if_pos HAT.out, if_pos HCN.out, Int.toNat_natCast]
    unfold tlN spnF
    rw [hP, hN])
  have HP := Lib.hid (fun f => congrFun hP f)
  have wn : IntKind.i64.wrap (-m) = -m := by rw [IntKind.wrap_i64]; omega
  clear hP hT hN hk1
  have lbx := bx.lt
  have bxc0 := bx.cell 0
  have bxc1 := bx.cell 1
  simp at bxc0 bxc1
  go_wp2_with fail
  clear lbx bxc0 bxc1
  clear wn
  go_loopw [10, 11] (fun fd fv wr => ∃ x : Nat, x ≤ N ∧ fv = .int .i64 (-m + (x : Int)) ∧ fd = .bool (decide ((tlN P (-m) x).2.2 = 0)) ∧ BK wr gr #[.int .i64 (tlN P (-m) x).1, .int .i64 (tlN P (-m) x).2.1] 42 ∧ BK wr (n0 + 1) #[.int .i64 0, .int .i64 0] 42 ∧ BK wr n0 #[.slice A l.length cap, .int .i64 m] 24 ∧ Gv wr qa 2 401 (iV (cmR m (l.take k).reverse)) ∧ Tab wr gO l.length 0 Q V2 (tgT m l) ∧ Below n0 w wr) (fun _ fv _ => (m + 1 - intOf fv).toNat)
  case atStart => exact ⟨0, Nat.zero_le _, by simp, by rw [tlN_zero]; rfl, rr, rs, bx, ga, tab, hC⟩
  case round =>
    clear rr rs bx ga tab hC
    obtain ⟨x, hx, rfl, rfl, rr, rs, bx, ga, tab, hC⟩ := hrel
    obtain ⟨⟨lo, hi, er⟩, hT⟩ : ∃ T, tlN P (-m) x = T := ⟨_, rfl⟩
    have her := tlN_err P (-m) x
    rw [hT] at her rr ⊢
    have HTX := Lib.hid hT
    dsimp only at her rr ⊢
    clear hT
    by_cases hlt4 : x < N
    case neg =>
      obtain rfl : x = N := by omega
      have d0 : decide (-m + (x : Int) ≤ m) = false := decide_eq_false (by omega)
      have d0' : ¬ (-m + (x : Int) ≤ m) := by omega
      rw [HTX.out] at HBD
      clear ga tab
      rcases her with rfl | her
      ·skip
       have HE := Lib.hid HBD.out
       have lbx := bx.lt
       have bxc0 := bx.cell 0
       have bxc1 := bx.cell 1
       simp at bxc0 bxc1
       have lrr := rr.lt
       have rrc0 := rr.cell 0
       have rrc1 := rr.cell 1
       simp at rrc0 rrc1
       have lrs := rs.lt
       have rsc0 := rs.cell 0
       have rsc1 := rs.cell 1
       simp at rsc0 rsc1
       have rsf0 := rs.frozen 0
       have rsf1 := rs.frozen 1
       go_wp2_with fail
       refine bodyPost_ret (v := .tuple #[.agg #[.int .i64 lo, .int .i64 hi], .int .i64 0]) (by simp [results, Try.results31, go_sem, *]) rfl ?_
       rw [HE.out]
       exact ⟨rfl, by (try rw [hn0]); exact (hC.setCell (by show n0 ≤ n0 + 1; omega) _).setCell (by show n0 ≤ n0 + 1; omega) _⟩
      ·skip
       exfalso
       have h := spn_yes0 HB.out hlt HCN.out
       rw [HBD.out, her] at h
       cases h
    obtain ⟨d, hde⟩ : ∃ d, -m + (x : Int) = d := ⟨_, rfl⟩
    have HDE := Lib.hid hde
    rw [hde]
    have hdr : -m ≤ d ∧ d ≤ m := by omega
    have d0 : decide (d ≤ m) = true := decide_eq_true hdr.2
    have d0' : d ≤ m := hdr.2
    have hPf := HP.out d
    have wf1 : IntKind.i64.wrap (d + 1) = d + 1 := by rw [IntKind.wrap_i64]; omega
    have wk1 : IntKind.i64.wrap ((k : Int) + 1) = (k : Int) + 1 := by rw [IntKind.wrap_i64]; omega
    have oc := tab.o.cell (i := k + 1) (by omega)
    rw [tab.v (k + 1) (Nat.zero_le _) (by omega)] at oc
    have ol := tab.o.lt
    have gb : Gv wr (Q (k + 1)) 2 401 (iV (tgR m (l.drop (k + 1)))) := tab.r (k + 1) (Nat.zero_le _) (by omega)
    have hT : RT wr wr.heap.size (.slice A l.length cap) l := RS.more (RS.below H0.out hC) (by have := hC.size; omega)
    try dsimp only at hPf
    rw [HC3.out] at hPf
    have HPF := Lib.hid hPf
    clear hde hPf
    have lbx := bx.lt
    have bxc0 := bx.cell 0
    have bxc1 := bx.cell 1
    simp at bxc0 bxc1
    go_upto_region 12 with fail
    refine wp_region_noPanic (plain_any [0, 1, 2, 3, 4, 5, 6, 7, 8, 10, 11] (Below wr.heap.size wr) mixed ?_)
    refine any_tk 0 ?_
    have d0z : Below wr.heap.size wr wr.drew := by exact bel_of
    refine any_tk 1 ?_
    refine any_tk 2 ?_
    refine any_tk 3 ?_
    refine any_tk 4 ?_
    refine any_tk 5 ?_
    refine any_tk 6 ?_
    refine any_tk 7 ?_
    refine any_tk 8 ?_
    refine any_tk 10 ?_
    have qz1 := d0z.size
    refine any_run1 (i := 9) (by kernel_rfl) (by rfl) (by kernel_rfl) ?_
    intro K hK
    go_wp2_with fail
    refine (withR_any l _ m k d _ _ _ HB.out hlt hdr ((RS.below hT d0z).more d0z.size) (ga.below d0z ga.lt) (gb.below d0z gb.lt)).mono ?_
    rintro e vz1 ⟨rfl, hb⟩
    obtain ⟨c1, hc1⟩ : ∃ c, witK m l k d = c := ⟨_, rfl⟩
    have hPf := HPF.out
    rw [hc1] at hPf ⊢
    have HPG := Lib.hid hPf
    clear hc1 hPf HPF
    have ez1 : Below wr.heap.size wr vz1 := d0z.trans (hb.mono d0z.size)
    clear hb
    refine hK _ _ (fun _ => ez1) ?_
    clear hK K
    refine any_tk 11 ?_
    refine any_done (by kernel_rfl) (NoPanic.normal ?_)
    have hb := ez1
    replace hC : Below n0 w vz1 := hC.trans (hb.mono (by have := hC.size; omega))
    replace bx := bx.below hb bx.lt
    replace rs := rs.below hb rs.lt
    replace rr := rr.below hb rr.lt
    replace ga := ga.below hb ga.lt
    replace gb := gb.below hb gb.lt
    replace tab := Tab.next tab hb
    replace hT := (RS.below hT hb).more hb.size
    clear hb
    clear lbx bxc0 bxc1
    clear oc ol gb hT wk1
    have hPf := HPG.out
    by_cases hcq : c1 = c
    case neg =>
      have hq1 : (c1 == c) = false := beq_eq_false_iff_ne.2 hcq
      rw [hq1] at hPf
      have HN := Lib.hid (show tlN P (-m) (x + 1) = (lo, hi, er) by rw [tlN_no (by rw [HDE.out, ← hPf]), HTX.out])
      clear hPf hcq
      go_wp2_with fail
      go_roundw
      case rel => exact ⟨x + 1, by omega, by congr 1; have := HDE.out; omega, by rw [HN.out], by rw [HN.out]; exact rr, rs, bx, ga, tab, hC⟩
      case measure => first | (simp [intOf]; done) | (simp [intOf]; omega)
    have hq1 : (c1 == c) = true := beq_iff_eq.2 hcq
    rw [hq1] at hPf
    have hq2 : (c1 == c1) = true := beq_self_eq_true _
    subst hcq
    clear hq1
    rcases her with rfl | her
    ·skip
     have HN := Lib.hid (show tlN P (-m) (x + 1) = (lo, d, 0) by rw [tlN_yes (by rw [HDE.out, ← hPf]), HTX.out, HDE.out]; rfl)
     have lrr := rr.lt
     have rrc0 := rr.cell 0
     have rrc1 := rr.cell 1
     simp at rrc0 rrc1
     have rrf0 := rr.frozen 0
     have rrf1 := rr.frozen 1
     have rrA := rr.set 1 (.int .i64 d)
     simp at rrA
     have rsA : BK (vz1.setCell ⟨gr, 1, none⟩ (.int .i64 d)) (n0 + 1) #[.int .i64 0, .int .i64 0] 42 := (BK.far rs (p := ⟨gr, 1, none⟩) (by show n0 + 1 ≠ gr; omega) (.int .i64 d))
     have bxA : BK (vz1.setCell ⟨gr, 1, none⟩ (.int .i64 d)) n0 #[.slice A l.length cap, .int .i64 m] 24 := (BK.far bx (p := ⟨gr, 1, none⟩) (by show n0 ≠ gr; omega) (.int .i64 d))
     have gaA : Gv (vz1.setCell ⟨gr, 1, none⟩ (.int .i64 d)) qa 2 401 (iV (cmR m (l.take k).reverse)) := (Gv.far ga (p := ⟨gr, 1, none⟩) (by show qa ≠ gr; omega) (.int .i64 d))
     have tabA : Tab (vz1.setCell ⟨gr, 1, none⟩ (.int .i64 d)) gO l.length 0 Q V2 (tgT m l) := (Tab.far tab (p := ⟨gr, 1, none⟩) (by show gO ≠ gr; omega) (fun j _ hj => by show Q j ≠ gr; have := LQ.out j hj; omega) (.int .i64 d))
     have hCA : Below n0 w (vz1.setCell ⟨gr, 1, none⟩ (.int .i64 d)) := hC.setCell (by show n0 ≤ gr; omega) _
     have HAll := Lib.hid (And.intro rrA (And.intro rsA (And.intro bxA (And.intro gaA (And.intro tabA hCA)))))
     clear hPf rrA rsA bxA gaA tabA hCA rr rs bx ga tab hC
     go_wp2_with fail
     go_roundw
     case rel => exact ⟨x + 1, by omega, by congr 1; have := HDE.out; omega, by rw [HN.out]; rfl, by rw [HN.out]; exact HAll.out.1, HAll.out.2.1, HAll.out.2.2.1, HAll.out.2.2.2.1, HAll.out.2.2.2.2.1, HAll.out.2.2.2.2.2⟩
     case measure => first | (simp [intOf]; done) | (simp [intOf]; omega)
    ·skip
     injection her with e1 e2
     injection e2 with e2 e3
     subst e1 e2 e3
     have HN := Lib.hid (show tlN P (-m) (x + 1) = (d, d, 0) by rw [tlN_yes (by rw [HDE.out, ← hPf]), HTX.out, HDE.out]; rfl)
     have lrr := rr.lt
     have rrc0 := rr.cell 0
     have rrc1 := rr.cell 1
     simp at rrc0 rrc1
     have rrf0 := rr.frozen 0
     have rrf1 := rr.frozen 1
     have rrA := (rr.set 0 (.int .i64 d)).set 1 (.int .i64 d)
     simp at rrA
     have rsA : BK ((vz1.setCell ⟨gr, 0, none⟩ (.int .i64 d)).setCell ⟨gr, 1, none⟩ (.int .i64 d)) (n0 + 1) #[.int .i64 0, .int .i64 0] 42 := (BK.far (BK.far rs (p := ⟨gr, 0, none⟩) (by show n0 + 1 ≠ gr; omega) (.int .i64 d)) (p := ⟨gr, 1, none⟩) (by show n0 + 1 ≠ gr; omega) (.int .i64 d))
     have bxA : BK ((vz1.setCell ⟨gr, 0, none⟩ (.int .i64 d)).setCell ⟨gr, 1, none⟩ (.int .i64 d)) n0 #[.slice A l.length cap, .int .i64 m] 24 := (BK.far (BK.far bx (p := ⟨gr, 0, none⟩) (by show n0 ≠ gr; omega) (.int .i64 d)) (p := ⟨gr, 1, none⟩) (by show n0 ≠ gr; omega) (.int .i64 d))
     have gaA : Gv ((vz1.setCell ⟨gr, 0, none⟩ (.int .i64 d)).setCell ⟨gr, 1, none⟩ (.int .i64 d)) qa 2 401 (iV (cmR m (l.take k).reverse)) := (Gv.far (Gv.far ga (p := ⟨gr, 0, none⟩) (by show qa ≠ gr; omega) (.int .i64 d)) (p := ⟨gr, 1, none⟩) (by show qa ≠ gr; omega) (.int .i64 d))
     have tabA : Tab ((vz1.setCell ⟨gr, 0, none⟩ (.int .i64 d)).setCell ⟨gr, 1, none⟩ (.int .i64 d)) gO l.length 0 Q V2 (tgT m l) := (Tab.far (Tab.far tab (p := ⟨gr, 0, none⟩) (by show gO ≠ gr; omega) (fun j _ hj => by show Q j ≠ gr; have := LQ.out j hj; omega) (.int .i64 d)) (p := ⟨gr, 1, none⟩) (by show gO ≠ gr; omega) (fun j _ hj => by show Q j ≠ gr; have := LQ.out j hj; omega) (.int .i64 d))
     have hCA : Below n0 w ((vz1.setCell ⟨gr, 0, none⟩ (.int .i64 d)).setCell ⟨gr, 1, none⟩ (.int .i64 d)) := (hC.setCell (by show n0 ≤ gr; omega) _).setCell (by show n0 ≤ gr; omega) _
     have HAll := Lib.hid (And.intro rrA (And.intro rsA (And.intro bxA (And.intro gaA (And.intro tabA hCA)))))
     clear hPf rrA rsA bxA gaA tabA hCA rr rs bx ga tab hC
     go_wp2_with fail
     go_roundw
     case rel => exact ⟨x + 1, by omega, by congr 1; have := HDE.out; omega, by rw [HN.out]; rfl, by rw [HN.out]; exact HAll.out.1, HAll.out.2.1, HAll.out.2.2.1, HAll.out.2.2.2.1, HAll.out.2.2.2.2.1, HAll.out.2.2.2.2.2⟩
     case measure => first | (simp [intOf]; done) | (simp [intOf]; omega)
end Go.Proofs.Ytgbegdjakadbbaa

set_option linter.all false
namespace Go.Proofs.Ytgbegdjakadbbaa
open Go.RowKit Vp

set_option maxHeartbeats 16000000 in
set_option maxRecDepth 100000 in
theorem warpSpans_any (l : List St) (vs : Value) (m : Int) (n1 : Int) (n2 : Int) (w : World) (hT : RT w w.heap.size vs l) (hlM : l.length ≤ maxLen) (hmI : okI m) (h1 : okI n1) (h2 : okI n2) :
    Calls Try.prog 5 #[bV vs m, .int .i64 n1, .int .i64 n2] w fun x w' => x = .returned (.bool true) ∧ Below w.heap.size w w' := by
  unfold bV
  obtain ⟨b, off, cap, A, rfl, -, hcap⟩ := hT.slice
  obtain ⟨n0, hn0⟩ : ∃ n, w.heap.size = n := ⟨_, rfl⟩
  have hC : Below n0 w w := Below.refl _ _
  go_enter Try.func5, Try.ntmps5
  go_upto_region 1 with fail
  have hqbx : n0 ≤ n0 := by have := hC.size; omega
  have bx : BK (w.alloc (.cells #[.slice A l.length cap, .int .i64 m] 24)) (n0) #[.slice A l.length cap, .int .i64 m] 24 := BK.new' _ _ _ (n0) hn0
  have hsbx : (w.alloc (.cells #[.slice A l.length cap, .int .i64 m] 24)).heap.size = n0 + 1 := by simp [hn0]
  replace hC : Below n0 w (w.alloc (.cells #[.slice A l.length cap, .int .i64 m] 24)) := Below.alloc hC (by have := hC.size; omega) _
  replace hT := (RS.below hT (w' := (w.alloc (.cells #[.slice A l.length cap, .int .i64 m] 24))) (Below.alloc (Below.refl _ _) (Nat.le_refl _) _)).more (B' := (w.alloc (.cells #[.slice A l.length cap, .int .i64 m] 24)).heap.size) (by simp)
  generalize (w.alloc (.cells #[.slice A l.length cap, .int .i64 m] 24)) = Wbx at *
  clear hsbx
  have lbx := bx.lt
  have bxc0 := bx.cell 0
  have bxc1 := bx.cell 1
  simp at bxc0 bxc1
  go_wp2_with fail
  clear lbx bxc0 bxc1
  refine (great_any l _ m _ hlM hT).mono ?_
  rintro e w1 ⟨rfl, hb⟩
  replace hC : Below n0 w w1 := hC.trans (hb.mono (by have := hC.size; omega))
  replace hT := (RS.below hT hb).more hb.size
  replace bx := bx.below hb bx.lt
  clear hb
  by_cases hgr : 30 < l.length
  case pos =>
    rw [decide_eq_true hgr]
    clear hgr
    go_wp2_with fail
    refine (works_any _).mono ?_
    rintro e w2 ⟨rfl, hb⟩
    replace hC : Below n0 w w2 := hC.trans (hb.mono (by have := hC.size; omega))
    replace hT := (RS.below hT hb).more hb.size
    replace bx := bx.below hb bx.lt
    clear hb
    go_wp2_with fail
    exact bodyPost_ret (v := .bool true) (by simp [results, Try.results5, go_sem]) rfl ⟨rfl, by first | exact hC | (rw [hn0]; exact hC) | (with_reducible rw [hn0]; exact bel_of) | exact bel_of⟩
  rw [decide_eq_false hgr]
  have hlk : l.length ≤ 1000 := by omega
  clear hgr
  have lbx := bx.lt
  have bxc0 := bx.cell 0
  have bxc1 := bx.cell 1
  simp at bxc0 bxc1
  go_wp2_with fail
  clear lbx bxc0 bxc1
  refine (wide_any l _ m _ hlk hT).mono ?_
  rintro e w2 ⟨rfl, hb⟩
  replace hC : Below n0 w w2 := hC.trans (hb.mono (by have := hC.size; omega))
  replace hT := (RS.below hT hb).more hb.size
  replace bx := bx.below hb bx.lt
  clear hb
  generalize ((blaE l m == 0) && decide (10 < l.length)) = q
  cases q
  case true =>
    go_wp2_with fail
    refine (works_any _).mono ?_
    rintro e w3 ⟨rfl, hb⟩
    replace hC : Below n0 w w3 := hC.trans (hb.mono (by have := hC.size; omega))
    replace hT := (RS.below hT hb).more hb.size
    replace bx := bx.below hb bx.lt
    clear hb
    go_wp2_with fail
    exact bodyPost_ret (v := .bool true) (by simp [results, Try.results5, go_sem]) rfl ⟨rfl, by first | exact hC | (rw [hn0]; exact hC) | (with_reducible rw [hn0]; exact bel_of) | exact bel_of⟩
  obtain ⟨⟨b1, b2, be⟩, hbd⟩ : ∃ T, bdsL l m n1 = T := ⟨_, rfl⟩
  obtain ⟨⟨s1, s2, se⟩, hsp⟩ : ∃ T, spnL l m n1 = T := ⟨_, rfl⟩
  obtain ⟨lv, hlv⟩ : ∃ T, lstV l m n1 n2 = T := ⟨_, rfl⟩
  obtain ⟨le, hle⟩ : ∃ T, lstE l m n1 n2 = T := ⟨_, rfl⟩
  have HBD := Lib.hid hbd
  have HSP := Lib.hid hsp
  have HLV := Lib.hid hlv
  have HLE := Lib.hid hle
  clear hbd hsp hlv hle
  have c_b1 : (b1 == b1) = true := beq_self_eq_true _
  have c_b2 : (b2 == b2) = true := beq_self_eq_true _
  have c_be : (be == be) = true := beq_self_eq_true _
  have c_s1 : (s1 == s1) = true := beq_self_eq_true _
  have c_s2 : (s2 == s2) = true := beq_self_eq_true _
  have c_se : (se == se) = true := beq_self_eq_true _
  have c_lv : (lv == lv) = true := beq_self_eq_true _
  have c_le : (le == le) = true := beq_self_eq_true _
  have lbx := bx.lt
  have bxc0 := bx.cell 0
  have bxc1 := bx.cell 1
  simp at bxc0 bxc1
  go_wp2_with fail
  clear lbx bxc0 bxc1
  refine (Bends_any l _ m _ _ hlk hT).mono ?_
  rintro e w3 ⟨rfl, hb⟩
  replace hC : Below n0 w w3 := hC.trans (hb.mono (by have := hC.size; omega))
  replace hT := (RS.below hT hb).more hb.size
  replace bx := bx.below hb bx.lt
  clear hb
  rw [HBD.out]
  have lbx := bx.lt
  have bxc0 := bx.cell 0
  have bxc1 := bx.cell 1
  simp at bxc0 bxc1
  go_upto_region 4 with fail
  clear lbx bxc0 bxc1
  obtain ⟨m1, hm1⟩ : ∃ n, w3.heap.size = n := ⟨_, rfl⟩
  try rw [hm1]
  have hqt1 : n0 ≤ m1 := by have := hC.size; omega
  have t1 : BK (w3.alloc (.cells #[.int .i64 b1, .int .i64 b2] 42)) (m1) #[.int .i64 b1, .int .i64 b2] 42 := BK.new' _ _ _ (m1) hm1
  have hst1 : (w3.alloc (.cells #[.int .i64 b1, .int .i64 b2] 42)).heap.size = m1 + 1 := by simp [hm1]
  replace hC : Below n0 w (w3.alloc (.cells #[.int .i64 b1, .int .i64 b2] 42)) := Below.alloc hC (by have := hC.size; omega) _
  replace hT := (RS.below hT (w' := (w3.alloc (.cells #[.int .i64 b1, .int .i64 b2] 42))) (Below.alloc (Below.refl _ _) (Nat.le_refl _) _)).more (B' := (w3.alloc (.cells #[.int .i64 b1, .int .i64 b2] 42)).heap.size) (by simp)
  replace bx := bx.alloc (.cells #[.int .i64 b1, .int .i64 b2] 42)
  generalize (w3.alloc (.cells #[.int .i64 b1, .int .i64 b2] 42)) = Wt1 at *
  clear hm1
  clear hst1
  have lbx := bx.lt
  have bxc0 := bx.cell 0
  have bxc1 := bx.cell 1
  simp at bxc0 bxc1
  have lt1 := t1.lt
  have t1c0 := t1.cell 0
  have t1c1 := t1.cell 1
  simp at t1c0 t1c1
  go_wp2_with fail
  clear lbx bxc0 bxc1
  clear lt1 t1c0 t1c1
  refine (bendsR_any l _ m _ _ hlk hT).mono ?_
  rintro e w4 ⟨rfl, hb⟩
  replace hC : Below n0 w w4 := hC.trans (hb.mono (by have := hC.size; omega))
  replace hT := (RS.below hT hb).more hb.size
  replace bx := bx.below hb bx.lt
  replace t1 := t1.below hb t1.lt
  clear hb
  rw [HBD.out]
  have lbx := bx.lt
  have bxc0 := bx.cell 0
  have bxc1 := bx.cell 1
  simp at bxc0 bxc1
  have lt1 := t1.lt
  have t1c0 := t1.cell 0
  have t1c1 := t1.cell 1
  simp at t1c0 t1c1
  go_upto_region 5 with fail
  clear lbx bxc0 bxc1
  clear lt1 t1c0 t1c1
  obtain ⟨m2, hm2⟩ : ∃ n, w4.heap.size = n := ⟨_, rfl⟩
  try rw [hm2]
  have hqt2 : n0 ≤ m2 := by have := hC.size; omega
  have t2 : BK (w4.alloc (.cells #[.int .i64 b1, .int .i64 b2] 42)) (m2) #[.int .i64 b1, .int .i64 b2] 42 := BK.new' _ _ _ (m2) hm2
  have hst2 : (w4.alloc (.cells #[.int .i64 b1, .int .i64 b2] 42)).heap.size = m2 + 1 := by simp [hm2]
  replace hC : Below n0 w (w4.alloc (.cells #[.int .i64 b1, .int .i64 b2] 42)) := Below.alloc hC (by have := hC.size; omega) _
  replace hT := (RS.below hT (w' := (w4.alloc (.cells #[.int .i64 b1, .int .i64 b2] 42))) (Below.alloc (Below.refl _ _) (Nat.le_refl _) _)).more (B' := (w4.alloc (.cells #[.int .i64 b1, .int .i64 b2] 42)).heap.size) (by simp)
  replace bx := bx.alloc (.cells #[.int .i64 b1, .int .i64 b2] 42)
  replace t1 := t1.alloc (.cells #[.int .i64 b1, .int .i64 b2] 42)
  generalize (w4.alloc (.cells #[.int .i64 b1, .int .i64 b2] 42)) = Wt2 at *
  clear hm2
  clear hst2
  have lbx := bx.lt
  have bxc0 := bx.cell 0
  have bxc1 := bx.cell 1
  simp at bxc0 bxc1
  have lt1 := t1.lt
  have t1c0 := t1.cell 0
  have t1c1 := t1.cell 1
  simp at t1c0 t1c1
  have lt2 := t2.lt
  have t2c0 := t2.cell 0
  have t2c1 := t2.cell 1
  simp at t2c0 t2c1
  go_wp2_with fail
  clear lbx bxc0 bxc1
  clear lt1 t1c0 t1c1
  clear lt2 t2c0 t2c1
  refine (Span_any l _ m _ _ hlk hT).mono ?_
  rintro e w5 ⟨rfl, hb⟩
  replace hC : Below n0 w w5 := hC.trans (hb.mono (by have := hC.size; omega))
  replace hT := (RS.below hT hb).more hb.size
  replace bx := bx.below hb bx.lt
  replace t1 := t1.below hb t1.lt
  replace t2 := t2.below hb t2.lt
  clear hb
  rw [HSP.out]
  have lbx := bx.lt
  have bxc0 := bx.cell 0
  have bxc1 := bx.cell 1
  simp at bxc0 bxc1
  have lt1 := t1.lt
  have t1c0 := t1.cell 0
  have t1c1 := t1.cell 1
  simp at t1c0 t1c1
  have lt2 := t2.lt
  have t2c0 := t2.cell 0
  have t2c1 := t2.cell 1
  simp at t2c0 t2c1
  go_upto_region 6 with fail
  clear lbx bxc0 bxc1
  clear lt1 t1c0 t1c1
  clear lt2 t2c0 t2c1
  obtain ⟨m3, hm3⟩ : ∃ n, w5.heap.size = n := ⟨_, rfl⟩
  try rw [hm3]
  have hqt3 : n0 ≤ m3 := by have := hC.size; omega
  have t3 : BK (w5.alloc (.cells #[.int .i64 s1, .int .i64 s2] 42)) (m3) #[.int .i64 s1, .int .i64 s2] 42 := BK.new' _ _ _ (m3) hm3
  have hst3 : (w5.alloc (.cells #[.int .i64 s1, .int .i64 s2] 42)).heap.size = m3 + 1 := by simp [hm3]
  replace hC : Below n0 w (w5.alloc (.cells #[.int .i64 s1, .int .i64 s2] 42)) := Below.alloc hC (by have := hC.size; omega) _
  replace hT := (RS.below hT (w' := (w5.alloc (.cells #[.int .i64 s1, .int .i64 s2] 42))) (Below.alloc (Below.refl _ _) (Nat.le_refl _) _)).more (B' := (w5.alloc (.cells #[.int .i64 s1, .int .i64 s2] 42)).heap.size) (by simp)
  replace bx := bx.alloc (.cells #[.int .i64 s1, .int .i64 s2] 42)
  replace t1 := t1.alloc (.cells #[.int .i64 s1, .int .i64 s2] 42)
  replace t2 := t2.alloc (.cells #[.int .i64 s1, .int .i64 s2] 42)
  generalize (w5.alloc (.cells #[.int .i64 s1, .int .i64 s2] 42)) = Wt3 at *
  clear hm3
  clear hst3
  have lbx := bx.lt
  have bxc0 := bx.cell 0
  have bxc1 := bx.cell 1
  simp at bxc0 bxc1
  have lt1 := t1.lt
  have t1c0 := t1.cell 0
  have t1c1 := t1.cell 1
  simp at t1c0 t1c1
  have lt2 := t2.lt
  have t2c0 := t2.cell 0
  have t2c1 := t2.cell 1
  simp at t2c0 t2c1
  have lt3 := t3.lt
  have t3c0 := t3.cell 0
  have t3c1 := t3.cell 1
  simp at t3c0 t3c1
  go_wp2_with fail
  clear lbx bxc0 bxc1
  clear lt1 t1c0 t1c1
  clear lt2 t2c0 t2c1
  clear lt3 t3c0 t3c1
  refine (spanR_any l _ m _ _ hlk hT).mono ?_
  rintro e w6 ⟨rfl, hb⟩
  replace hC : Below n0 w w6 := hC.trans (hb.mono (by have := hC.size; omega))
  replace hT := (RS.below hT hb).more hb.size
  replace bx := bx.below hb bx.lt
  replace t1 := t1.below hb t1.lt
  replace t2 := t2.below hb t2.lt
  replace t3 := t3.below hb t3.lt
  clear hb
  rw [HSP.out]
  have lbx := bx.lt
  have bxc0 := bx.cell 0
  have bxc1 := bx.cell 1
  simp at bxc0 bxc1
  have lt1 := t1.lt
  have t1c0 := t1.cell 0
  have t1c1 := t1.cell 1
  simp at t1c0 t1c1
  have lt2 := t2.lt
  have t2c0 := t2.cell 0
  have t2c1 := t2.cell 1
  simp at t2c0 t2c1
  have lt3 := t3.lt
  have t3c0 := t3.cell 0
  have t3c1 := t3.cell 1
  simp at t3c0 t3c1
  go_upto_region 7 with fail
  clear lbx bxc0 bxc1
  clear lt1 t1c0 t1c1
  clear lt2 t2c0 t2c1
  clear lt3 t3c0 t3c1
  obtain ⟨m4, hm4⟩ : ∃ n, w6.heap.size = n := ⟨_, rfl⟩
  try rw [hm4]
  have hqt4 : n0 ≤ m4 := by have := hC.size; omega
  have t4 : BK (w6.alloc (.cells #[.int .i64 s1, .int .i64 s2] 42)) (m4) #[.int .i64 s1, .int .i64 s2] 42 := BK.new' _ _ _ (m4) hm4
  have hst4 : (w6.alloc (.cells #[.int .i64 s1, .int .i64 s2] 42)).heap.size = m4 + 1 := by simp [hm4]
  replace hC : Below n0 w (w6.alloc (.cells #[.int .i64 s1, .int .i64 s2] 42)) := Below.alloc hC (by have := hC.size; omega) _
  replace hT := (RS.below hT (w' := (w6.alloc (.cells #[.int .i64 s1, .int .i64 s2] 42))) (Below.alloc (Below.refl _ _) (Nat.le_refl _) _)).more (B' := (w6.alloc (.cells #[.int .i64 s1, .int .i64 s2] 42)).heap.size) (by simp)
  replace bx := bx.alloc (.cells #[.int .i64 s1, .int .i64 s2] 42)
  replace t1 := t1.alloc (.cells #[.int .i64 s1, .int .i64 s2] 42)
  replace t2 := t2.alloc (.cells #[.int .i64 s1, .int .i64 s2] 42)
  replace t3 := t3.alloc (.cells #[.int .i64 s1, .int .i64 s2] 42)
  generalize (w6.alloc (.cells #[.int .i64 s1, .int .i64 s2] 42)) = Wt4 at *
  clear hm4
  clear hst4
  have lbx := bx.lt
  have bxc0 := bx.cell 0
  have bxc1 := bx.cell 1
  simp at bxc0 bxc1
  have lt1 := t1.lt
  have t1c0 := t1.cell 0
  have t1c1 := t1.cell 1
  simp at t1c0 t1c1
  have lt2 := t2.lt
  have t2c0 := t2.cell 0
  have t2c1 := t2.cell 1
  simp at t2c0 t2c1
  have lt3 := t3.lt
  have t3c0 := t3.cell 0
  have t3c1 := t3.cell 1
  simp at t3c0 t3c1
  have lt4 := t4.lt
  have t4c0 := t4.cell 0
  have t4c1 := t4.cell 1
  simp at t4c0 t4c1
  go_wp2_with fail
  clear lbx bxc0 bxc1
  clear lt1 t1c0 t1c1
  clear lt2 t2c0 t2c1
  clear lt3 t3c0 t3c1
  clear lt4 t4c0 t4c1
  refine (Least_any l _ m _ _ _ hlk hT).mono ?_
  rintro e w7 ⟨rfl, hb⟩
  replace hC : Below n0 w w7 := hC.trans (hb.mono (by have := hC.size; omega))
  replace hT := (RS.below hT hb).more hb.size
  replace bx := bx.below hb bx.lt
  replace t1 := t1.below hb t1.lt
  replace t2 := t2.below hb t2.lt
  replace t3 := t3.below hb t3.lt
  replace t4 := t4.below hb t4.lt
  clear hb
  rw [HLV.out, HLE.out]
  have lbx := bx.lt
  have bxc0 := bx.cell 0
  have bxc1 := bx.cell 1
  simp at bxc0 bxc1
  have lt1 := t1.lt
  have t1c0 := t1.cell 0
  have t1c1 := t1.cell 1
  simp at t1c0 t1c1
  have lt2 := t2.lt
  have t2c0 := t2.cell 0
  have t2c1 := t2.cell 1
  simp at t2c0 t2c1
  have lt3 := t3.lt
  have t3c0 := t3.cell 0
  have t3c1 := t3.cell 1
  simp at t3c0 t3c1
  have lt4 := t4.lt
  have t4c0 := t4.cell 0
  have t4c1 := t4.cell 1
  simp at t4c0 t4c1
  go_wp2_with fail
  clear lbx bxc0 bxc1
  clear lt1 t1c0 t1c1
  clear lt2 t2c0 t2c1
  clear lt3 t3c0 t3c1
  clear lt4 t4c0 t4c1
  refine (leastR_any l _ m _ _ _ hlk hT).mono ?_
  rintro e w8 ⟨rfl, hb⟩
  replace hC : Below n0 w w8 := hC.trans (hb.mono (by have := hC.size; omega))
  replace hT := (RS.below hT hb).more hb.size
  replace bx := bx.below hb bx.lt
  replace t1 := t1.below hb t1.lt
  replace t2 := t2.below hb t2.lt
  replace t3 := t3.below hb t3.lt
  replace t4 := t4.below hb t4.lt
  clear hb
  rw [HLV.out, HLE.out]
  have lbx := bx.lt
  have bxc0 := bx.cell 0
  have bxc1 := bx.cell 1
  simp at bxc0 bxc1
  have lt1 := t1.lt
  have t1c0 := t1.cell 0
  have t1c1 := t1.cell 1
  simp at t1c0 t1c1
  have lt2 := t2.lt
  have t2c0 := t2.cell 0
  have t2c1 := t2.cell 1
  simp at t2c0 t2c1
  have lt3 := t3.lt
  have t3c0 := t3.cell 0
  have t3c1 := t3.cell 1
  simp at t3c0 t3c1
  have lt4 := t4.lt
  have t4c0 := t4.cell 0
  have t4c1 := t4.cell 1
  simp at t4c0 t4c1
  go_wp2_with fail
  clear lbx bxc0 bxc1
  clear lt1 t1c0 t1c1
  clear lt2 t2c0 t2c1
  clear lt3 t3c0 t3c1
  clear lt4 t4c0 t4c1
  refine (works_any _).mono ?_
  rintro e w9 ⟨rfl, hb⟩
  replace hC : Below n0 w w9 := hC.trans (hb.mono (by have := hC.size; omega))
  replace hT := (RS.below hT hb).more hb.size
  replace bx := bx.below hb bx.lt
  replace t1 := t1.below hb t1.lt
  replace t2 := t2.below hb t2.lt
  replace t3 := t3.below hb t3.lt
  replace t4 := t4.below hb t4.lt
  clear hb
  go_wp2_with fail
  exact bodyPost_ret (v := .bool true) (by simp [results, Try.results5, go_sem]) rfl ⟨rfl, by first | exact hC | (rw [hn0]; exact hC) | (with_reducible rw [hn0]; exact bel_of) | exact bel_of⟩
end Go.Proofs.Ytgbegdjakadbbaa

namespace Go.Proofs.Ytgbegdjakadbbaa.warpSpans
open Go.ChangeShapes Go.WideShapes Go.ChangeAt Go.RowKit Go.Deep

set_option maxRecDepth 100000 in
theorem lifted (os : Os) (started : os.Started) (H : Type) (enc : TypeId × Value → H) :
    ReturnsInHanded {} Try.checked os 5 .any (Rows.warpSpansSpec.pre6 enc Try.prog Try.f5 Rows.warpSpansRow.domain false) (Rows.warpSpansSpec.post enc Try.prog Try.f5 false true false false) := by
  refine returnsInHanded_of_change (C := Try.checked) own started (by kernel_rfl) Try.func5
    (ChangeSpec.witness6 (enc := enc) (C := Try.checked) false ⟨#[], #[.agg #[.slice none 0 0, .int .i64 0], .int .i64 0, .int .i64 0], []⟩ 8 (by kernel_rfl) (by kernel_rfl) (by kernel_rfl) (by kernel_rfl)) ?_
  intro W base args ds gs before hval0 hW hcnd _
  have hval : ∀ (j : Nat) t v, Try.f5.params[j]? = some t → args[j]? = some v → Value.okWide Try.prog W .any base t v := hval0
  have hW2 : DataW.Whole enc Try.prog Try.f5.params.toList Rows.warpSpansSpec.vars false W args.toList ds gs before := hW
  obtain ⟨p, q, hA0, hV, rfl, hfz, hnd⟩ := hW
  have hA : DataW.TrodAll enc Try.prog W 0 (fun _ => true) true Try.f5.params.toList args.toList ds p := hA0
  rw [Try.params5] at hA hval
  obtain ⟨v0, vs0, d0, ds0, p0, q0, hargs, rfl, rfl, h0, r0⟩ := trodAll_cons hA
  obtain ⟨v1, vs1, d1, ds1, p1, q1, rfl, rfl, rfl, h1, r1⟩ := trodAll_cons r0
  obtain ⟨v2, vs2, d2, ds2, p2, q2, rfl, rfl, rfl, h2, r2⟩ := trodAll_cons r1
  obtain ⟨rfl, rfl, rfl⟩ := trodAll_nil r2
  obtain rfl : args = #[v0, v1, v2] := by cases args; simp_all
  obtain ⟨rfl, rfl⟩ := trodVars_none hV
  obtain ⟨vs0_, l0, m0, rfl, g0, k0, j0⟩ := open_blade (hval 0 24 v0 rfl rfl) h0
  obtain ⟨l1, rfl, rfl, rfl, g1⟩ := open_int Try.underlying3 (hval 1 3 v1 rfl rfl) h1
  obtain ⟨l2, rfl, rfl, rfl, g2⟩ := open_int Try.underlying2 (hval 2 2 v2 rfl rfl) h2
  refine (warpSpans_any (l := l0) (m := m0) (vs := vs0_) (hT := g0) (hlM := k0) (hmI := j0) (n1 := l1) (h1 := okI_wf g1) (n2 := l2) (h2 := okI_wf g2) (w := W)).mono fun e W' ⟨he, hg⟩ => ?_
  subst he
  exact ⟨_, rfl, law_done hW2 rfl rfl rfl (by rw [Try.params5]; decide +kernel) hg⟩

theorem over : Rows.warpSpansRow.holds Try.pinned (OpenSpec.ofChange Rows.warpSpansSpec) :=
  OpenClaim.holds_of_wide 5 Try.f5 rfl rfl rfl rfl rfl rfl rfl ⟨rfl, rfl, rfl, rfl, rfl⟩ rfl rfl rfl rfl rfl (by kernel_rfl) Try.func5 (by kernel_rfl)
    (of_decide_eq_true (by kernel_rfl)) (by unfold Func.isWrapper; first | (rw [if_pos (by decide +kernel)]; kernel_rfl) | (rw [if_neg (by decide +kernel)]; exact ⟨rfl, rfl⟩))
    (fun os started H enc _ => lifted os started H enc)

theorem proved : Rows.WarpSpansSaid :=
  over
end Go.Proofs.Ytgbegdjakadbbaa.warpSpans
namespace Go.Proofs.Ytgbegdjakadbbaa
theorem warpSpans_proved : Rows.WarpSpansSaid := warpSpans.proved
#print axioms warpSpans_proved
end Go.Proofs.Ytgbegdjakadbbaa
