/- Contracts of the functions for valid books whose tests agree, by natural numbers. Plain: what another test, and turned tests, do to the differences. Which edges numbers tell. -/
import Derived.Test.YtkljdbgkhghiaaaP25
import Derived.Test.YtkljdbgkhghiaaaP21
import Derived.Test.YtkljdbgkhghiaaaP24
import Derived.Test.YtkljdbgkhghiaaaP22
import Derived.Test.YtkljdbgkhghiaaaP28
import Derived.Test.YtkljdbgkhghiaaaP2
set_option linter.all false
set_option linter.unnecessarySimpa false
set_option linter.unusedSimpArgs false
set_option linter.unusedVariables false
set_option linter.unusedSectionVars false

set_option linter.all false
namespace Go.Proofs.Ytkljdbgkhghiaaa
open Go.RowKit Kp

theorem truth_iff {N : Nat} {ts : List Kt} {l : List Int} (hb : bookE (N : Int) ts = 0) : truthE N ts l = 0 ↔ Tru N ts l := by
  obtain ⟨n, hn, ho, hl⟩ := bookE_ok hb
  obtain rfl : n = N := by omega
  clear hn
  have hr : anyB (ruleBad l) ts = true ↔ ¬ ∀ t ∈ ts, t.lo ≤ nthI l t.one.toNat - nthI l t.two.toNat ∧ nthI l t.one.toNat - nthI l t.two.toNat ≤ t.hi := by
    unfold anyB
    rw [List.any_eq_true]
    constructor
    · rintro ⟨t, ht, hq⟩ h
      have := h t ht
      unfold ruleBad inB at hq
      simp at hq
      omega
    · intro h
      apply Classical.byContradiction
      intro hc
      apply h
      intro t ht
      apply Classical.byContradiction
      intro hd
      refine hc ⟨t, ht, ?_⟩
      unfold ruleBad inB
      simp
      omega
  have ha : allIn 0 1000 l = true ↔ ∀ v, v < l.length → 0 ≤ nthI l v ∧ nthI l v ≤ 1000 := by
    rw [allIn_iff]
    constructor
    · intro h v hv
      have := h v hv
      unfold inB at this
      simpa using this
    · intro h v hv
      have := h v hv
      unfold inB
      simpa using this
  unfold truthE
  rw [if_neg (fun h => h hb)]
  constructor
  · intro h
    split at h
    · cases h
    · rename_i h1
      split at h
      · cases h
      · rename_i h2
        split at h
        · cases h
        · rename_i h3
          have h1' : l.length = n := by omega
          refine ⟨h1', fun v hv => ha.1 (by simpa using h2) v (by omega), ?_⟩
          exact Classical.byContradiction fun hc => h3 (hr.2 hc)
  · rintro ⟨h1, h2, h3⟩
    rw [if_neg (by omega), if_neg (by rw [ha.2 (fun v hv => h2 v (by omega))]; decide), if_neg (fun h => hr.1 h h3)]
theorem reachL_len {N : Nat} {ts : List Kt} {z : Nat} : (reachL N ts z).length = N := by unfold reachL; simp
theorem reachL_at {N : Nat} {ts : List Kt} {z v : Nat} (h : v < N) : nthI (reachL N ts z) v = reachP N ts z v := by
  unfold reachL nthI; rw [List.getD_eq_getElem?_getD]; simp [h]
theorem reachL_ok {N : Nat} {ts : List Kt} {z : Nat} (hb : bookE (N : Int) ts = 0) (ho : Okb N ts) (ha : Agr N ts) (hz : z < N) : truthE N ts (reachL N ts z) = 0 ∧ ∀ a, a < N → nthI (reachL N ts z) a - nthI (reachL N ts z) z = D N ts z a := by
  have h := reach_tru ho ha hz reachL_len (fun v hv => reachL_at hv)
  exact ⟨(truth_iff hb).2 h.1, h.2⟩
theorem leastP_at {N : Nat} {ts : List Kt} {v : Nat} (h : v < N) : nthI (leastP N ts) v = -D N ts v N := by
  unfold leastP nthI; rw [List.getD_eq_getElem?_getD]; simp [h]
theorem leastP_length {N : Nat} {ts : List Kt} : (leastP N ts).length = N := by unfold leastP; simp
theorem leastP_ok {N : Nat} {ts : List Kt} (hb : bookE (N : Int) ts = 0) (ho : Okb N ts) (ha : Agr N ts) : truthE N ts (leastP N ts) = 0 :=
  (truth_iff hb).2 (least_tru ho ha leastP_length fun v hv => leastP_at hv)
theorem open_two {N : Nat} {ts : List Kt} {u v : Nat} (hb : bookE (N : Int) ts = 0) (ha : Agr N ts) (hu : u < N) (hv : v < N) (hne : u ≠ v) : openE N ts (twoE N u v) = 0 := openE_agr hb (twoE_ok (by omega)) ha
theorem open_one {N : Nat} {ts : List Kt} {u : Nat} (hb : bookE (N : Int) ts = 0) (ha : Agr N ts) (hu : u < N) : openE N ts (oneE N u) = 0 := openE_agr hb (by unfold oneE; rw [if_neg (by omega)]) ha
theorem span_val {N : Nat} {ts : List Kt} {u v : Nat} : spanE N ts u v 0 = .tuple #[.agg #[.int .i64 (-D N ts u v), .int .i64 (D N ts v u)], .int .i64 0] := by
  unfold spanE spanA; rw [if_pos rfl, Int.toNat_natCast]
theorem span_bad {E : Int} {ts : List Kt} {u v : Nat} {e : Int} (h : e ≠ 0) : spanE E ts u v e = .tuple #[.agg #[.int .i64 0, .int .i64 0], .int .i64 e] := if_neg h
theorem spanN_any {N : Nat} {ts : List Kt} {u z : Nat} (v : Value) (w : World) (hb : bookE (N : Int) ts = 0) (ha : Agr N ts) (hu : u < N) (hz : z < N) (hne : u ≠ z) (hl : ts.length ≤ 1000) (h : RT w w.heap.size v ts) :
    Calls Try.prog 24 #[.agg #[.int .i64 N, v], .int .i64 u, .int .i64 z] w fun x w' => x = .returned (.tuple #[.agg #[.int .i64 (-D N ts u z), .int .i64 (D N ts z u)], .int .i64 0]) ∧ Below w.heap.size w w' := by
  have h1 := spanP_any (N : Int) u z ts v w hl h
  rw [open_two hb ha hu hz hne, Int.toNat_natCast, Int.toNat_natCast, span_val] at h1
  exact h1
theorem spanRN_any {N : Nat} {ts : List Kt} {u z : Nat} (v : Value) (w : World) (hb : bookE (N : Int) ts = 0) (ha : Agr N ts) (hu : u < N) (hz : z < N) (hne : u ≠ z) (hl : ts.length ≤ 1000) (h : RT w w.heap.size v ts) :
    Calls Try.prog 25 #[.agg #[.int .i64 N, v], .int .i64 u, .int .i64 z] w fun x w' => x = .returned (.tuple #[.agg #[.int .i64 (-D N ts u z), .int .i64 (D N ts z u)], .int .i64 0]) ∧ Below w.heap.size w w' := by
  have h1 := spanE_any (N : Int) u z ts v w hl h
  rw [open_two hb ha hu hz hne, Int.toNat_natCast, Int.toNat_natCast, span_val] at h1
  exact h1
/-- A chain and a truth that prove a span. -/
theorem chainN_any {N : Nat} {ts : List Kt} {u z : Nat} (v : Value) (w : World) (hb : bookE (N : Int) ts = 0) (ha : Agr N ts) (hu : u < N) (hz : z < N) (hne : u ≠ z) (hl : ts.length ≤ 1000) (h : RT w w.heap.size v ts) :
    Calls Try.prog 26 #[.agg #[.int .i64 N, v], .int .i64 u, .int .i64 z] w fun x w' => ∃ v' c, x = .returned (.tuple #[v', .int .i64 0]) ∧ RL w' w'.heap.size v' c ∧ ChainOk N ts u z c ∧ Below w.heap.size w w' := by
  refine (chain_any (N : Int) u z ts v w hl h).mono ?_
  rintro e w' ⟨v', c, rfl, h1, h2, h3, h4⟩
  have h0 := open_two hb ha hu hz hne
  have h5 := h3 h0
  rw [Int.toNat_natCast, Int.toNat_natCast, Int.toNat_natCast] at h5
  exact ⟨v', c, by rw [h0], h1, h5, h4⟩
theorem reachN_any {N : Nat} {ts : List Kt} {u z : Nat} (v : Value) (w : World) (hb : bookE (N : Int) ts = 0) (ha : Agr N ts) (hu : u < N) (hz : z < N) (hne : u ≠ z) (hl : ts.length ≤ 1000) (h : RT w w.heap.size v ts) :
    Calls Try.prog 27 #[.agg #[.int .i64 N, v], .int .i64 u, .int .i64 z] w fun x w' => ∃ v', x = .returned (.tuple #[v', .int .i64 0]) ∧ RI w' w'.heap.size v' (reachL N ts z) ∧ Below w.heap.size w w' := by
  refine (reach_any (N : Int) u z ts v w hl h).mono ?_
  rintro e w' ⟨v', rfl, h1, h4⟩
  have h0 := open_two hb ha hu hz hne
  rw [if_pos h0, Int.toNat_natCast, Int.toNat_natCast] at h1
  exact ⟨v', by rw [h0], h1, h4⟩
/-- Lists of edges of a valid book whose tests agree. -/
theorem listN {P : Nat → List Kt → List Int} {N : Nat} {ts : List Kt} {w : World} {e : Ending} {w' : World} (hb : bookE (N : Int) ts = 0) (ha : Agr N ts) (h : ListPost N ts P w e w') : ∃ v, e = .returned (.tuple #[v, .int .i64 0]) ∧ RI w' w'.heap.size v (P N ts) ∧ Below w.heap.size w w' := by
  obtain ⟨v, rfl, h1, h2⟩ := h
  have h0 : openE (N : Int) ts 0 = 0 := openE_agr hb rfl ha
  rw [h0, listE_ok] at h1
  exact ⟨v, by rw [h0], h1, h2⟩
theorem listC {P : Nat → List Kt → List Int} {N : Nat} {ts : List Kt} {w : World} {e : Ending} {w' : World} (hb : bookE (N : Int) ts = 0) (ha : ¬ Agr N ts) (h : ListPost N ts P w e w') : ∃ v, e = .returned (.tuple #[v, .int .i64 21]) ∧ RI w' w'.heap.size v [] ∧ Below w.heap.size w w' := by
  obtain ⟨v, rfl, h1, h2⟩ := h
  have h0 : openE (N : Int) ts 0 = 21 := openE_clash hb rfl ha
  rw [h0, listE_bad (by decide)] at h1
  exact ⟨v, by rw [h0], h1, h2⟩
theorem spanC_any {N : Nat} {ts : List Kt} {u z : Nat} (v : Value) (w : World) (hb : bookE (N : Int) ts = 0) (ha : ¬ Agr N ts) (hu : u < N) (hz : z < N) (hne : u ≠ z) (hl : ts.length ≤ 1000) (h : RT w w.heap.size v ts) :
    Calls Try.prog 24 #[.agg #[.int .i64 N, v], .int .i64 u, .int .i64 z] w fun x w' => x = .returned (.tuple #[.agg #[.int .i64 0, .int .i64 0], .int .i64 21]) ∧ Below w.heap.size w w' := by
  have h1 := spanP_any (N : Int) u z ts v w hl h
  rw [openE_clash hb (twoE_ok (by omega)) ha, span_bad (by decide)] at h1
  exact h1
theorem sharpN_any {N : Nat} {ts : List Kt} {u : Nat} (v : Value) (w : World) (hb : bookE (N : Int) ts = 0) (ha : Agr N ts) (hu : u < N) (hl : ts.length ≤ 1000) (h : RT w w.heap.size v ts) :
    Calls Try.prog 31 #[.agg #[.int .i64 N, v], .int .i64 u] w fun x w' => x = .returned (.tuple #[.agg #[.int .i64 (-D N ts u N), .int .i64 (D N ts N u)], .int .i64 0]) ∧ Below w.heap.size w w' := by
  have h1 := sharpP_any (N : Int) u ts v w hl h
  rw [open_one hb ha hu, Int.toNat_natCast, Int.toNat_natCast, span_val] at h1
  exact h1
theorem sharpC_any {N : Nat} {ts : List Kt} {u : Nat} (v : Value) (w : World) (hb : bookE (N : Int) ts = 0) (ha : ¬ Agr N ts) (hu : u < N) (hl : ts.length ≤ 1000) (h : RT w w.heap.size v ts) :
    Calls Try.prog 31 #[.agg #[.int .i64 N, v], .int .i64 u] w fun x w' => x = .returned (.tuple #[.agg #[.int .i64 0, .int .i64 0], .int .i64 21]) ∧ Below w.heap.size w w' := by
  have h1 := sharpP_any (N : Int) u ts v w hl h
  rw [openE_clash hb (by unfold oneE; rw [if_neg (by omega)]) ha, span_bad (by decide)] at h1
  exact h1
/-- What the lists of numbers have. -/
theorem ev_mem {p : Nat → Bool} {i : Nat} {x : Int} : x ∈ ev p i ↔ ∃ k : Nat, k < i ∧ p k = true ∧ x = k := by
  unfold ev
  rw [List.mem_map]
  constructor
  · rintro ⟨k, hk, rfl⟩
    obtain ⟨h1, h2⟩ := List.mem_filter.1 hk
    exact ⟨k, List.mem_range.1 h1, h2, rfl⟩
  · rintro ⟨k, h1, h2, rfl⟩
    exact ⟨k, List.mem_filter.2 ⟨List.mem_range.2 h1, h2⟩, rfl⟩
/-- A truth of the links: what a chain is worth is not less than the difference. -/
theorem chain_pot {N : Nat} {ts : List Kt} {p : Nat → Int} (ho : Okb N ts) (hp : PotB N ts p) {c : List Kl} {n : Int} (h : chainR N ts c = (n, 0)) :
    c.length ≠ 0 ∧ p (pl N (nthL c (c.length - 1)).dst) - p (pl N (nthL c 0).src) ≤ n := by
  have hn : c.length ≠ 0 := chainR_len (E := N) (ts := ts) (c := c) (by rw [h])
  have hc : c ≠ [] := fun h => hn (by rw [h]; rfl)
  refine ⟨hn, ?_⟩
  unfold chainR at h
  split at h
  · rename_i hb; injection h with _ h2; exact absurd h2 hb
  · split at h
    · cases h
    · split at h
      · cases h
      · rename_i w hw
        injection h with h1 _
        subst h1
        rw [Int.toNat_natCast] at hw
        have hk := chk_pot ho hp hc hw ⟨0, 0, 0⟩
        rw [← nthL_last ⟨0, 0, 0⟩ hc] at hk
        omega
end Go.Proofs.Ytkljdbgkhghiaaa

set_option linter.all false
namespace Go.Proofs.Ytkljdbgkhghiaaa
open Go.RowKit Kp

theorem Kp.PotB.sub {N : Nat} {ts ts' : List Kt} {p : Nat → Int} (h : PotB N ts' p) (hs : ∀ t ∈ ts, t ∈ ts') : PotB N ts p := ⟨fun t ht => h.tst t (hs t ht), h.edge⟩
theorem Kp.PotB.and {N : Nat} {ts ts' : List Kt} {p : Nat → Int} (h : PotB N ts p) (h' : PotB N ts' p) : PotB N (ts ++ ts') p :=
  ⟨fun t ht => (List.mem_append.1 ht).elim (h.tst t) (h'.tst t), h.edge⟩
/-- More tests do not make a difference greater. -/
theorem D_more {N : Nat} {ts ts' : List Kt} (h : Okb N ts) (h' : Okb N ts') (ha : Agr N ts') (hs : ∀ p, PotB N ts' p → PotB N ts p) {u v : Nat} (hu : u ≤ N) (hv : v ≤ N) : D N ts' u v ≤ D N ts u v := by
  have h1 := D_ge h (hs _ (D_pot h' ha hu)) hu hv
  rw [D_self h' ha hu] at h1
  omega
theorem D_same {N : Nat} {ts ts' : List Kt} (h : Okb N ts) (h' : Okb N ts') (ha : Agr N ts) (ha' : Agr N ts') (hs : ∀ p, PotB N ts' p ↔ PotB N ts p) {u v : Nat} (hu : u ≤ N) (hv : v ≤ N) : D N ts' u v = D N ts u v :=
  Int.le_antisymm (D_more h h' ha' (fun p => (hs p).1) hu hv) (D_more h' h ha (fun p => (hs p).2) hu hv)
theorem agr_sub {N : Nat} {ts ts' : List Kt} (h : Okb N ts) (h' : Okb N ts') (hs : ∀ p, PotB N ts' p → PotB N ts p) (ha : Agr N ts') : Agr N ts := by
  obtain ⟨p, hp⟩ := (agr_iff h').1 ha
  exact (agr_iff h).2 ⟨p, hs p hp⟩
theorem ev_mono {p q : Nat → Bool} : ∀ {i : Nat}, (∀ k, k < i → p k = true → q k = true) → (ev p i).length ≤ (ev q i).length := by
  intro i
  induction i with
  | zero => intro _; exact Nat.le_refl _
  | succ i ih =>
    intro h
    have h1 := ih fun k hk => h k (by omega)
    cases hp : p i with
    | true => rw [← ev_yes hp, ← ev_yes (h i (by omega) hp)]; simp; exact h1
    | false =>
      rw [← ev_no hp]
      cases hq : q i with
      | true => rw [← ev_yes hq]; simp; omega
      | false => rw [← ev_no hq]; exact h1
theorem ev_congr {p q : Nat → Bool} {i : Nat} (h : ∀ k, k < i → p k = q k) : ev p i = ev q i := by
  unfold ev
  congr 1
  exact List.filter_congr fun k hk => h k (List.mem_range.1 hk)
theorem sureB_iff {N : Nat} {ts : List Kt} {v : Nat} : sureB N ts v = true ↔ ∀ u, u < N → u = v ∨ D N ts v u ≤ 0 := by
  unfold sureB
  rw [List.all_eq_true]
  constructor
  · intro h u hu
    have := h u (List.mem_range.2 hu)
    unfold sureF at this
    simp at this
    omega
  · intro h u hu
    have := h u (List.mem_range.1 hu)
    unfold sureF
    simp
    omega
/-- The tests that v is the sharpest fit a truth just if it is. -/
theorem may_pot {N : Nat} {ts : List Kt} {p : Nat → Int} {v : Nat} (hv : v < N) (hp : PotB N ts p) : PotB N (ts ++ mayT N v N) p ↔ ∀ u, u < N → p u ≤ p v := by
  constructor
  · intro h u hu
    by_cases he : u = v
    · subst he; omega
    · have := h.tst ⟨v, u, 0, 1000⟩ (List.mem_append_right _ ((mem_mayT N).2 ⟨u, hu, he, rfl⟩))
      simp only [Int.toNat_natCast] at this
      omega
  · intro h
    refine hp.and ⟨fun t ht => ?_, hp.edge⟩
    obtain ⟨u, hu, _, rfl⟩ := (mem_mayT N).1 ht
    have h1 := h u hu
    have h2 := hp.edge u hu
    have h3 := hp.edge v hv
    simp only [Int.toNat_natCast]
    omega
theorem mayB_iff {N : Nat} {ts : List Kt} {v : Nat} (h : Okb N ts) (hv : v < N) : mayB N ts v = true ↔ ∃ p, PotB N ts p ∧ ∀ u, u < N → p u ≤ p v := by
  unfold mayB
  rw [decide_eq_true_iff, agr_iff (okb_may h hv N (Nat.le_refl N))]
  constructor
  · rintro ⟨p, hp⟩
    have hp' : PotB N ts p := hp.sub fun t ht => List.mem_append_left _ ht
    exact ⟨p, hp', (may_pot hv hp').1 hp⟩
  · rintro ⟨p, hp, hq⟩
    exact ⟨p, (may_pot hv hp).2 hq⟩
/-- Some edge is the sharpest. -/
theorem top_of (p : Nat → Int) : ∀ n, 0 < n → ∃ v, v < n ∧ ∀ u, u < n → p u ≤ p v := by
  intro n
  induction n with
  | zero => intro h; omega
  | succ n ih =>
    intro _
    rcases Nat.eq_zero_or_pos n with rfl | h
    · exact ⟨0, by omega, fun u hu => by obtain rfl : u = 0 := by omega
                                         exact Int.le_refl _⟩
    · obtain ⟨v, hv, hm⟩ := ih h
      by_cases hc : p n ≤ p v
      · exact ⟨v, by omega, fun u hu => by
          rcases Nat.lt_or_ge u n with h1 | h1
          · exact hm u h1
          · obtain rfl : u = n := by omega
            exact hc⟩
      · exact ⟨n, by omega, fun u hu => by
          rcases Nat.lt_or_ge u n with h1 | h1
          · have := hm u h1; omega
          · obtain rfl : u = n := by omega
            exact Int.le_refl _⟩
theorem mayP_pos {N : Nat} {ts : List Kt} (h : Okb N ts) (ha : Agr N ts) : 0 < (mayP N ts).length := by
  obtain ⟨p, hp⟩ := (agr_iff h).1 ha
  obtain ⟨v, hv, hm⟩ := top_of p N (by have := h.pos; omega)
  have hq : (v : Int) ∈ mayP N ts := ev_mem.2 ⟨v, hv, (mayB_iff h hv).2 ⟨p, hp, hm⟩, rfl⟩
  exact List.length_pos_of_mem hq
/-- An edge that surely is the sharpest can be it. -/
theorem sure_may {N : Nat} {ts : List Kt} (h : Okb N ts) (ha : Agr N ts) {v : Nat} (hv : v < N) (hs : sureB N ts v = true) : mayB N ts v = true := by
  obtain ⟨p, hp⟩ := (agr_iff h).1 ha
  refine (mayB_iff h hv).2 ⟨p, hp, fun u hu => ?_⟩
  rcases sureB_iff.1 hs u hu with rfl | h1
  · exact Int.le_refl _
  · have := D_ge h hp (show v ≤ N by omega) (show u ≤ N by omega)
    omega
section
variable {N : Nat} {ts : List Kt} {t : Kt}
theorem sub_snoc (ts : List Kt) (t : Kt) : ∀ p, PotB N (ts ++ [t]) p → PotB N ts p := fun p h => h.sub fun q hq => List.mem_append_left _ hq
/-- A test that tells nothing. -/
theorem nothing_pot (h : Okb N ts) (ht : Okb N (ts ++ [t])) (h1 : t.lo ≤ -D N ts t.one.toNat t.two.toNat) (h2 : D N ts t.two.toNat t.one.toNat ≤ t.hi) (p : Nat → Int) : PotB N (ts ++ [t]) p ↔ PotB N ts p := by
  refine ⟨sub_snoc ts t p, fun hp => hp.and ⟨fun q hq => ?_, hp.edge⟩⟩
  obtain rfl : q = t := by simpa using hq
  obtain ⟨q1, q2, q3, q4, _⟩ := ht.tst q (by simp)
  have a := D_ge h hp (show q.one.toNat ≤ N by omega) (show q.two.toNat ≤ N by omega)
  have b := D_ge h hp (show q.two.toNat ≤ N by omega) (show q.one.toNat ≤ N by omega)
  omega
theorem sure_more (h : Okb N ts) (ht : Okb N (ts ++ [t])) (ha : Agr N (ts ++ [t])) {v : Nat} (hv : v < N) (hs : sureB N ts v = true) : sureB N (ts ++ [t]) v = true := by
  refine sureB_iff.2 fun u hu => ?_
  rcases sureB_iff.1 hs u hu with e | e
  · exact .inl e
  · have := D_more h ht ha (sub_snoc ts t) (show v ≤ N by omega) (show u ≤ N by omega)
    exact .inr (by omega)
theorem may_more (h : Okb N ts) (ht : Okb N (ts ++ [t])) {v : Nat} (hv : v < N) (hm : mayB N (ts ++ [t]) v = true) : mayB N ts v = true := by
  obtain ⟨p, hp, hq⟩ := (mayB_iff ht hv).1 hm
  exact (mayB_iff h hv).2 ⟨p, sub_snoc ts t p hp, hq⟩
end
/-- Tests that are turned round. -/
def turnX (ts : List Kt) : List Kt := ts.map fun t => ⟨t.one, t.two, -t.hi, -t.lo⟩
def turnY (ts : List Kt) : List Kt := ts.map fun t => ⟨t.two, t.one, -t.hi, -t.lo⟩
section
variable {N : Nat} {ts : List Kt}
theorem okb_turnX (h : Okb N ts) : Okb N (turnX ts) := ⟨h.pos, h.few, fun t ht => by
  obtain ⟨q, hq, rfl⟩ := List.mem_map.1 ht
  have := h.tst q hq
  dsimp only
  omega⟩
theorem okb_turnY (h : Okb N ts) : Okb N (turnY ts) := ⟨h.pos, h.few, fun t ht => by
  obtain ⟨q, hq, rfl⟩ := List.mem_map.1 ht
  have := h.tst q hq
  dsimp only
  omega⟩
theorem pot_turnY (p : Nat → Int) : PotB N (turnY ts) p ↔ PotB N ts p := by
  constructor
  · intro h
    refine ⟨fun t ht => ?_, h.edge⟩
    have := h.tst _ (List.mem_map.2 ⟨t, ht, rfl⟩)
    dsimp only at this
    omega
  · intro h
    refine ⟨fun t ht => ?_, h.edge⟩
    obtain ⟨q, hq, rfl⟩ := List.mem_map.1 ht
    have := h.tst q hq
    dsimp only
    omega
def upd1 (N : Nat) (p : Nat → Int) (v : Nat) : Int := if v < N then 1000 - p v else -p v
theorem pot_turnX (h : Okb N ts) {p : Nat → Int} (hp : PotB N ts p) : PotB N (turnX ts) (upd1 N p) := by
  refine ⟨fun t ht => ?_, fun v hv => ?_⟩
  · obtain ⟨q, hq, rfl⟩ := List.mem_map.1 ht
    have h1 := hp.tst q hq
    obtain ⟨q1, q2, q3, q4, _⟩ := h.tst q hq
    dsimp only
    unfold upd1
    rw [if_pos (by omega), if_pos (by omega)]
    omega
  · have := hp.edge v hv
    unfold upd1
    rw [if_pos hv, if_neg (by omega)]
    omega
theorem turnX2 : turnX (turnX ts) = ts := by
  unfold turnX
  rw [List.map_map]
  conv => rhs; rw [← List.map_id ts]
  refine List.map_congr_left fun t ht => ?_
  obtain ⟨a, b, c, d⟩ := t
  simp
theorem agr_turnX (h : Okb N ts) : Agr N (turnX ts) ↔ Agr N ts := by
  constructor
  · intro ha
    obtain ⟨p, hp⟩ := (agr_iff (okb_turnX h)).1 ha
    have := pot_turnX (okb_turnX h) hp
    rw [turnX2] at this
    exact (agr_iff h).2 ⟨_, this⟩
  · intro ha
    obtain ⟨p, hp⟩ := (agr_iff h).1 ha
    exact (agr_iff (okb_turnX h)).2 ⟨_, pot_turnX h hp⟩
theorem agr_turnY (h : Okb N ts) : Agr N (turnY ts) ↔ Agr N ts := by
  rw [agr_iff h, agr_iff (okb_turnY h)]
  exact exists_congr fun p => pot_turnY p
theorem D_turnY (h : Okb N ts) (ha : Agr N ts) {u v : Nat} (hu : u ≤ N) (hv : v ≤ N) : D N (turnY ts) u v = D N ts u v :=
  D_same h (okb_turnY h) ha ((agr_turnY h).2 ha) (fun p => pot_turnY p) hu hv
theorem turnX_le (h : Okb N ts) (ha : Agr N ts) {u v : Nat} (hu : u ≤ N) (hv : v ≤ N) : upd1 N (D N ts u) v - upd1 N (D N ts u) u ≤ D N (turnX ts) u v :=
  D_ge (okb_turnX h) (pot_turnX h (D_pot h ha hu)) hu hv
/-- The differences of turned tests. -/
theorem turnX_ge (h : Okb N ts) (ha : Agr N ts) {u v z : Nat} (hu : u ≤ N) (hv : v ≤ N) (hz : z ≤ N) : upd1 N (D N ts z) v - upd1 N (D N ts z) u ≤ D N (turnX ts) u v :=
  D_ge (okb_turnX h) (pot_turnX h (D_pot h ha hz)) hu hv
theorem D_turnX (h : Okb N ts) (ha : Agr N ts) {u v : Nat} (hu : u < N) (hv : v < N) : D N (turnX ts) u v = D N ts v u := by
  have hX := okb_turnX h
  have haX := (agr_turnX h).2 ha
  have a := turnX_ge h ha (u := u) (v := v) (z := v) (by omega) (by omega) (by omega)
  have b := turnX_ge hX haX (u := v) (v := u) (z := u) (by omega) (by omega) (by omega)
  rw [turnX2] at b
  unfold upd1 at a b
  rw [if_pos hv, if_pos hu, D_self h ha (by omega)] at a
  rw [if_pos hv, if_pos hu, D_self hX haX (by omega)] at b
  omega
theorem D_turnX_lo (h : Okb N ts) (ha : Agr N ts) {u : Nat} (hu : u < N) : D N (turnX ts) u N = D N ts N u - 1000 := by
  have hX := okb_turnX h
  have haX := (agr_turnX h).2 ha
  have a := turnX_ge h ha (u := u) (v := N) (z := N) (by omega) (by omega) (by omega)
  have b := turnX_ge hX haX (u := N) (v := u) (z := u) (by omega) (by omega) (by omega)
  rw [turnX2] at b
  unfold upd1 at a b
  rw [if_pos hu, if_neg (by omega), D_self h ha (by omega)] at a
  rw [if_pos hu, if_neg (by omega), D_self hX haX (by omega)] at b
  omega
theorem D_turnX_hi (h : Okb N ts) (ha : Agr N ts) {u : Nat} (hu : u < N) : D N (turnX ts) N u = 1000 + D N ts u N := by
  have hX := okb_turnX h
  have haX := (agr_turnX h).2 ha
  have a := turnX_ge h ha (u := N) (v := u) (z := u) (by omega) (by omega) (by omega)
  have b := turnX_ge hX haX (u := u) (v := N) (z := N) (by omega) (by omega) (by omega)
  rw [turnX2] at b
  unfold upd1 at a b
  rw [if_pos hu, if_neg (by omega), D_self h ha (by omega)] at a
  rw [if_pos hu, if_neg (by omega), D_self hX haX (by omega)] at b
  omega
theorem tru_turnY {l : List Int} : Tru N (turnY ts) l ↔ Tru N ts l := by
  constructor
  · rintro ⟨h1, h2, h3⟩
    refine ⟨h1, h2, fun t ht => ?_⟩
    have := h3 _ (List.mem_map.2 ⟨t, ht, rfl⟩)
    dsimp only at this
    omega
  · rintro ⟨h1, h2, h3⟩
    refine ⟨h1, h2, fun t ht => ?_⟩
    obtain ⟨q, hq, rfl⟩ := List.mem_map.1 ht
    have := h3 q hq
    dsimp only
    omega
theorem tru_turnX (h : Okb N ts) {l : List Int} (ht : Tru N ts l) : Tru N (turnX ts) (l.map fun x => 1000 - x) := by
  have at_ : ∀ v, v < N → nthI (l.map fun x => 1000 - x) v = 1000 - nthI l v := by
    intro v hv
    have := ht.len
    unfold nthI
    rw [List.getD_eq_getElem?_getD, List.getD_eq_getElem?_getD, List.getElem?_map, List.getElem?_eq_getElem (by omega)]
    rfl
  refine ⟨by rw [List.length_map]; exact ht.len, fun v hv => ?_, fun t hm => ?_⟩
  · have := ht.rng v hv
    rw [at_ v hv]; omega
  · obtain ⟨q, hq, rfl⟩ := List.mem_map.1 hm
    have h1 := ht.tst q hq
    obtain ⟨q1, q2, q3, q4, _⟩ := h.tst q hq
    dsimp only
    rw [at_ _ (by omega), at_ _ (by omega)]
    omega
end
end Go.Proofs.Ytkljdbgkhghiaaa

namespace Go.Proofs.Ytkljdbgkhghiaaa
open Go.RowKit Kp
theorem other_lt {a m N : Nat} (hN : 2 ≤ N) : (a + 1 + m) % N < N := Nat.mod_lt _ (by omega)
theorem other_ne {a m N : Nat} (ha : a < N) (hm : m < N - 1) : (a + 1 + m) % N ≠ a := by
  rcases Nat.lt_or_ge (a + 1 + m) N with h | h
  · rw [Nat.mod_eq_of_lt h]; omega
  · rw [Nat.mod_eq_sub_mod h, Nat.mod_eq_of_lt (by omega)]; omega
theorem next_ne {a N : Nat} (hN : 2 ≤ N) (ha : a < N) : (a + 1) % N ≠ a := by
  rcases Nat.lt_or_ge (a + 1) N with h | h
  · rw [Nat.mod_eq_of_lt h]; omega
  · rw [Nat.mod_eq_sub_mod h, Nat.mod_eq_of_lt (by omega)]; omega
/-- How long a third edge is sought. -/
def thr (N a z k : Nat) : Nat := if k ≠ a ∧ k ≠ z then 0 else if (k + 1) % N ≠ a ∧ (k + 1) % N ≠ z then 1 else 2
theorem thr_dec {N a z k : Nat} (hN : 3 ≤ N) (hk : k < N) (h : k = a ∨ k = z) : thr N a z ((k + 1) % N) < thr N a z k := by
  have h1 : (k + 1) % N = if k + 1 < N then k + 1 else 0 := by
    split
    · rename_i h; exact Nat.mod_eq_of_lt h
    · obtain rfl : k + 1 = N := by omega
      exact Nat.mod_self _
  have h2 : ((k + 1) % N + 1) % N = if k + 2 < N then k + 2 else if k + 1 < N then 0 else 1 := by
    rw [h1]
    split
    · split
      · rename_i h h'; exact Nat.mod_eq_of_lt h'
      · rename_i h h'; obtain rfl : k + 1 + 1 = N := by omega
        exact Nat.mod_self _
    · rw [if_neg (by omega)]; exact Nat.mod_eq_of_lt (by omega)
  unfold thr
  rw [h2, h1]
  split <;> split <;> (try split) <;> (try split) <;> (try split) <;> omega
/-- Remainders in words. -/
theorem rem_nat (x n : Nat) : (x : Int) % (n : Int) = ((x % n : Nat) : Int) := by omega
theorem tmod_nat (x n : Nat) : (x : Int).tmod (n : Int) = ((x % n : Nat) : Int) := by
  rw [Int.tmod_eq_emod_of_nonneg (by omega)]; exact rem_nat x n
end Go.Proofs.Ytkljdbgkhghiaaa
