/- The table of all differences. -/
import Derived.Test.YtkljdbgkhghiaaaP12
import Derived.Deep.OwnRows
set_option linter.all false
set_option linter.unnecessarySimpa false
set_option linter.unusedSimpArgs false
set_option linter.unusedVariables false
set_option linter.unusedSectionVars false

namespace Go.Proofs.Ytkljdbgkhghiaaa
open Go.RowKit Kp

/-- A table that is made far, place by place. -/
def fillN (N : Nat) : Nat → List Int
  | 0 => List.replicate N 0
  | k + 1 => (fillN N k).set k cap
theorem fillN_len (N k : Nat) : (fillN N k).length = N := by
  induction k with
  | zero => simp [fillN]
  | succ k ih => simp [fillN, ih]
theorem fillN_at (N : Nat) : ∀ k, k ≤ N → ∀ j, j < N → nthI (fillN N k) j = if j < k then cap else 0 := by
  intro k
  induction k with
  | zero => intro _ j hj; rw [if_neg (by omega)]; exact nthI_rep hj
  | succ k ih =>
    intro hk j hj
    rw [fillN, nthI_set (by rw [fillN_len]; omega), ih (by omega) j hj]
    by_cases h : k = j
    · rw [if_pos h, if_pos (by omega)]
    · rw [if_neg h]
      by_cases h2 : j < k
      · rw [if_pos h2, if_pos (by omega)]
      · rw [if_neg h2, if_neg (by omega)]
theorem fillN_all (n : Nat) : fillN (n * n) (n * n) = i1 n 0 := by
  refine nthI_ext (by rw [fillN_len, i1_len]) fun j hj => ?_
  rw [fillN_len] at hj
  rw [fillN_at _ _ (Nat.le_refl _) j hj, if_pos hj]
  unfold i1
  rw [nthI_rep hj]

/-- A place of the table, as it is reckoned. -/
theorem idx_facts {u v n N : Nat} (hn : n ≤ 17) (hN : n * n = N) (hu : u < n) (hv : v < n) : ∃ p q : Nat, (u : Int) * (n : Int) = p ∧ (p : Int) + (v : Int) = q ∧ q = u * n + v ∧ q < N ∧ IntKind.i64.wrap (p : Int) = p ∧ IntKind.i64.wrap (q : Int) = q := by
  have h1 := idx_lt hu hv
  have h2 : n * n ≤ 17 * 17 := Nat.mul_le_mul hn hn
  refine ⟨u * n, u * n + v, by simp, by simp, rfl, by omega, ?_, ?_⟩
  · rw [IntKind.wrap_i64]; omega
  · rw [IntKind.wrap_i64]; omega

set_option maxHeartbeats 8000000 in
set_option maxRecDepth 100000 in
theorem most_any (E : Nat) (ts : List Kt) (v : Value) (w : World) (ho : Okb E ts) (hl : ts.length ≤ 1000) (h : RT w w.heap.size v ts) :
    Calls Try.prog 57 #[.agg #[.int .i64 E, v]] w fun e w' => ∃ g, e = .returned (.slice (some ⟨g, 0, none⟩) ((E + 1) * (E + 1)) ((E + 1) * (E + 1))) ∧ Lb w' g (fwM (E + 1) (E + 1) (initL E ts)) ∧ Below w.heap.size w w' ∧ w.heap.size ≤ g := by
  have hE := ho.few
  obtain ⟨n, hn⟩ : ∃ n, E + 1 = n := ⟨_, rfl⟩
  have hni : (E : Int) + 1 = (n : Int) := by omega
  have hn17 : n ≤ 17 := by omega
  obtain ⟨N, hN⟩ : ∃ N, n * n = N := ⟨_, rfl⟩
  have hNi : (n : Int) * (n : Int) = (N : Int) := by rw [← hN]; exact_mod_cast rfl
  have hN289 : N ≤ 289 := by rw [← hN]; exact Nat.mul_le_mul hn17 hn17
  have hmk := fun W => run_make_row' (P := Try.prog) 40 2 (.int .i64 0) 8 i64_slice i64_info rfl .i64 .i64 N (by omega) (by omega) W
  rw [hn, hN]
  obtain ⟨b, off, cp, A, rfl, hA⟩ := h.slice
  have HR := Lib.hid h
  have HA := Lib.hid hA
  clear h hA
  obtain ⟨g1, hg1⟩ : ∃ n, w.heap.size = n := ⟨_, rfl⟩
  go_enter Try.func57, Try.ntmps57
  go_upto_region 1 with fail
  have hC : Below w.heap.size w (w.alloc (.cells #[.int .i64 E, .slice A ts.length cp] 24)) := by exact bel_of
  have bB : BK (w.alloc (.cells #[.int .i64 E, .slice A ts.length cp] 24)) g1 #[.int .i64 E, .slice A ts.length cp] 24 := BK.new' _ _ _ g1 hg1
  have hS : (w.alloc (.cells #[.int .i64 E, .slice A ts.length cp] 24)).heap.size = g1 + 1 := by simp [hg1]
  generalize w.alloc (.cells #[.int .i64 E, .slice A ts.length cp] 24) = W1 at *
  have y0 := bB.cell 0
  have y1 := bB.cell 1
  have lB := bB.lt
  simp at y0 y1
  go_upto_region 3 with fail
  have hM : Below W1.heap.size W1 (W1.alloc (.cells (madeCells #[.int .i64 0] N) 2)) := Below.alloc (Below.refl _ _) (Nat.le_refl _) _
  have hL : Lb (W1.alloc (.cells (madeCells #[.int .i64 0] N) 2)) (g1 + 1) (fillN N 0) := by
    unfold Lb fillN
    rw [← made_ofI]
    exact BK.new' _ _ _ (g1 + 1) hS
  have hC2 : Below w.heap.size w (W1.alloc (.cells (madeCells #[.int .i64 0] N) 2)) := hC.trans (hM.mono hC.size)
  replace bB := bB.below hM bB.lt
  clear hmk y0 y1 lB hM hC
  have hC := hC2
  clear hC2
  generalize W1.alloc (.cells (madeCells #[.int .i64 0] N) 2) = W2 at *
  clear hS W1
  go_wp2_with fail
  go_loopw [5] (fun iv wr => ∃ k : Nat, k ≤ N ∧ iv = .int .i64 k ∧ Lb wr (g1 + 1) (fillN N k) ∧ BK wr g1 #[.int .i64 E, .slice A ts.length cp] 24 ∧ Below w.heap.size w wr) (fun iv _ => N - (intOf iv).toNat)
  case atStart => exact ⟨0, Nat.zero_le _, rfl, hL, bB, hC⟩
  case round =>
    clear hL bB hC
    obtain ⟨k, hk, rfl, hL, bB, hC⟩ := hrel
    by_cases hlt : k < N
    · have c1 := hL.at (i := k) (by rw [fillN_len]; exact hlt)
      have f1 := hL.frozen k
      have l1 := hL.lt
      have hL2 := hL.set k cap
      have hoth : ∀ q, q ≠ g1 + 1 → (wr.setCell ⟨g1 + 1, k, none⟩ (.int .i64 1099511627776)).heap[q]? = wr.heap[q]? := fun q hq => Below.heap_setCell wr _ _ _ (by show q ≠ g1 + 1; exact hq)
      have hC2 := Below.setCell (p := ⟨g1 + 1, k, none⟩) hC (by show w.heap.size ≤ g1 + 1; omega) (.int .i64 1099511627776)
      have bB2 : BK (wr.setCell ⟨g1 + 1, k, none⟩ (.int .i64 1099511627776)) g1 _ _ := (hoth g1 (by omega)).trans bB
      have H1 := Lib.hid hL2
      have H2 := Lib.hid hC2
      have H3 := Lib.hid bB2
      clear hL hL2 hoth hC2 bB2 bB hC
      go_wp2_with fail
      go_roundw
      case rel => exact ⟨k + 1, by omega, by go_num, H1.out, H3.out, H2.out⟩
      case measure => simp [intOf]; omega
    · have hkN : k = N := by omega
      rw [hkN, ← hN, fillN_all] at hL
      clear hkN
      obtain ⟨W3, hW3⟩ : ∃ W3, wr = W3 := ⟨_, rfl⟩
      rw [hW3] at hL bB hC ⊢
      clear hW3
      go_wp2_with fail
      clear hlt hk
      go_loopw [6] (fun iv wr => ∃ k : Nat, k ≤ n ∧ iv = .int .i64 k ∧ Lb wr (g1 + 1) (i1 n k) ∧ BK wr g1 #[.int .i64 E, .slice A ts.length cp] 24 ∧ Below w.heap.size w wr) (fun iv _ => n - (intOf iv).toNat)
      case atStart => exact ⟨0, Nat.zero_le _, rfl, hL, bB, hC⟩
      case round =>
        clear hL bB hC
        obtain ⟨k, hk, rfl, hL, bB, hC⟩ := hrel
        by_cases hlt : k < n
        · obtain ⟨p, q, hp, hq, hqe, hqN, wp, wq⟩ := idx_facts hn17 hN hlt hlt
          have c1 := hL.at (i := q) (by rw [i1_len, hN]; exact hqN)
          have f1 := hL.frozen q
          have l1 := hL.lt
          have hL2 := hL.set q 0
          have hoth : ∀ j, j ≠ g1 + 1 → (wr.setCell ⟨g1 + 1, q, none⟩ (.int .i64 0)).heap[j]? = wr.heap[j]? := fun j hj => Below.heap_setCell wr _ _ _ (by show j ≠ g1 + 1; exact hj)
          have hC2 := Below.setCell (p := ⟨g1 + 1, q, none⟩) hC (by show w.heap.size ≤ g1 + 1; omega) (.int .i64 0)
          have bB2 : BK (wr.setCell ⟨g1 + 1, q, none⟩ (.int .i64 0)) g1 _ _ := (hoth g1 (by omega)).trans bB
          rw [show (i1 n k).set q 0 = i1 n (k + 1) by rw [hqe]; rfl] at hL2
          have H1 := Lib.hid hL2
          have H2 := Lib.hid hC2
          have H3 := Lib.hid bB2
          clear hL hL2 hoth hC2 bB2 bB hC hqe
          go_wp2_with fail
          go_roundw
          case rel => exact ⟨k + 1, by omega, by go_num, H1.out, H3.out, H2.out⟩
          case measure => simp [intOf]; omega
        · have hkn : k = E + 1 := by omega
          rw [hkn, ← hn] at hL
          have hL0 : Lb wr (g1 + 1) (i2 E 0) := hL
          clear hkn hL
          have hL := hL0
          clear hL0
          obtain ⟨W4, hW4⟩ : ∃ W4, wr = W4 := ⟨_, rfl⟩
          rw [hW4] at hL bB hC ⊢
          clear hW4
          go_wp2_with fail
          clear hlt hk
          go_loopw [7] (fun iv wr => ∃ k : Nat, k ≤ E ∧ iv = .int .i64 k ∧ Lb wr (g1 + 1) (i2 E k) ∧ BK wr g1 #[.int .i64 E, .slice A ts.length cp] 24 ∧ Below w.heap.size w wr) (fun iv _ => E - (intOf iv).toNat)
          case atStart => exact ⟨0, Nat.zero_le _, rfl, hL, bB, hC⟩
          case round =>
            clear hL bB hC
            obtain ⟨k, hk, rfl, hL, bB, hC⟩ := hrel
            have y0 := bB.cell 0
            have y1 := bB.cell 1
            have lB := bB.lt
            simp at y0 y1
            by_cases hlt : k < E
            · obtain ⟨p, q, hp, hq, hqe, hqN, wp, wq⟩ := idx_facts (u := E) (v := k) hn17 hN (by omega) (by omega)
              obtain ⟨p', q', hp', hq', hqe', hqN', wp', wq'⟩ := idx_facts (u := k) (v := E) hn17 hN (by omega) (by omega)
              have hlen : (i2 E k).length = N := by rw [i2_len, hn, hN]
              have c1 := hL.at (i := q) (by rw [hlen]; exact hqN)
              have f1 := hL.frozen q
              have l1 := hL.lt
              have hL2 := hL.set q 1000
              have c2 := hL2.at (i := q') (by simp [hlen]; exact hqN')
              have f2 := hL2.frozen q'
              have l2 := hL2.lt
              have hL3 := hL2.set q' 0
              have hC2 := Below.setCell (p := ⟨g1 + 1, q', none⟩) (Below.setCell (p := ⟨g1 + 1, q, none⟩) hC (by show w.heap.size ≤ g1 + 1; omega) (.int .i64 1000)) (by show w.heap.size ≤ g1 + 1; omega) (.int .i64 0)
              have bB2 : BK ((wr.setCell ⟨g1 + 1, q, none⟩ (.int .i64 1000)).setCell ⟨g1 + 1, q', none⟩ (.int .i64 0)) g1 _ _ := BK.far (BK.far bB (by show g1 ≠ g1 + 1; omega) _) (by show g1 ≠ g1 + 1; omega) _
              rw [show ((i2 E k).set q 1000).set q' 0 = i2 E (k + 1) by rw [hqe, hqe', ← hn]; rfl] at hL3
              have H1 := Lib.hid hL3
              have H2 := Lib.hid hC2
              have H3 := Lib.hid bB2
              clear hL hL2 hL3 hC2 bB2 bB hC hqe hqe' hlen
              have hd0 : Below (g1 + 1) wr wr.drew := Below.drew (Below.refl _ _)
              have hd1 : Below (g1 + 1) wr (wr.setCell ⟨g1 + 1, q, none⟩ (.int .i64 1000)).drew := Below.drew (Below.setCell (p := ⟨g1 + 1, q, none⟩) (Below.refl _ _) (by show g1 + 1 ≤ g1 + 1; omega) _)
              go_upto_region 14 with fail
              refine wp_region_noPanic (plain_any [0, 1, 2, 3, 4, 5, 6, 7, 8, 9, 10, 11, 12, 13, 14] (Below (g1 + 1) wr) mixed ?_)
              refine any_take 0 ?_ (by rfl) (by kernel_rfl) (fun _ _ _ _ _ hx => hx.elim) (.inl ⟨by rfl, ?_⟩) (by with_reducible assumption) ?_; rotate_left; (intro X hX; have r1 := (Below.cell (p := ⟨g1, 0, none⟩) hX (by show g1 < g1 + 1; omega)).trans y0; clear hX; go_simp; rfl); simp only [List.getElem_toArray, List.getElem_cons_succ, List.getElem_cons_zero, Act.put, List.setIfInBounds_toArray, List.set_cons_succ, List.set_cons_zero]
              refine any_take 1 ?_ (by rfl) (by kernel_rfl) (fun _ _ _ _ _ hx => hx.elim) (.inl ⟨by rfl, ?_⟩) (by with_reducible assumption) ?_; rotate_left; (intro X hX; have r1 := (Below.cell (p := ⟨g1, 0, none⟩) hX (by show g1 < g1 + 1; omega)).trans y0; clear hX; go_simp; rfl); simp only [List.getElem_toArray, List.getElem_cons_succ, List.getElem_cons_zero, Act.put, List.setIfInBounds_toArray, List.set_cons_succ, List.set_cons_zero]
              refine any_take 2 ?_ (by rfl) (by kernel_rfl) (fun _ _ _ _ _ hx => hx.elim) (.inl ⟨by rfl, ?_⟩) (by with_reducible assumption) ?_; rotate_left; (intro X hX; have r1 := (Below.cell (p := ⟨g1, 0, none⟩) hX (by show g1 < g1 + 1; omega)).trans y0; clear hX; go_simp; rfl); simp only [List.getElem_toArray, List.getElem_cons_succ, List.getElem_cons_zero, Act.put, List.setIfInBounds_toArray, List.set_cons_succ, List.set_cons_zero]
              refine any_take 3 ?_ (by rfl) (by kernel_rfl) (fun _ _ _ _ _ hx => hx.elim) (.inl ⟨by rfl, ?_⟩) (by with_reducible assumption) ?_; rotate_left; (intro X hX; have r1 := (Below.cell (p := ⟨g1, 0, none⟩) hX (by show g1 < g1 + 1; omega)).trans y0; clear hX; go_simp; rfl); simp only [List.getElem_toArray, List.getElem_cons_succ, List.getElem_cons_zero, Act.put, List.setIfInBounds_toArray, List.set_cons_succ, List.set_cons_zero]
              refine any_take 4 ?_ (by rfl) (by kernel_rfl) (fun _ _ _ _ _ hx => hx.elim) (.inl ⟨by rfl, ?_⟩) (by with_reducible assumption) ?_; rotate_left; (intro X hX; have r1 := (Below.cell (p := ⟨g1, 0, none⟩) hX (by show g1 < g1 + 1; omega)).trans y0; clear hX; go_simp; rfl); simp only [List.getElem_toArray, List.getElem_cons_succ, List.getElem_cons_zero, Act.put, List.setIfInBounds_toArray, List.set_cons_succ, List.set_cons_zero]
              refine any_take 5 ?_ (by rfl) (by kernel_rfl) (fun _ _ _ _ _ hx => hx.elim) (.inl ⟨by rfl, ?_⟩) (by with_reducible assumption) ?_; rotate_left; (intro X hX; have r1 := (Below.cell (p := ⟨g1, 0, none⟩) hX (by show g1 < g1 + 1; omega)).trans y0; clear hX; go_simp; rfl); simp only [List.getElem_toArray, List.getElem_cons_succ, List.getElem_cons_zero, Act.put, List.setIfInBounds_toArray, List.set_cons_succ, List.set_cons_zero]
              refine any_take 6 ?_ (by rfl) (by kernel_rfl) (fun _ _ _ _ _ hx => hx.elim) (.inl ⟨by rfl, ?_⟩) (by with_reducible assumption) ?_; rotate_left; (intro X hX; have r1 := (Below.cell (p := ⟨g1, 0, none⟩) hX (by show g1 < g1 + 1; omega)).trans y0; clear hX; go_simp; rfl); simp only [List.getElem_toArray, List.getElem_cons_succ, List.getElem_cons_zero, Act.put, List.setIfInBounds_toArray, List.set_cons_succ, List.set_cons_zero]
              refine any_take 7 ?_ (by rfl) (by kernel_rfl) (fun _ _ _ _ _ hx => hx.elim) (.inl ⟨by rfl, ?_⟩) (by with_reducible assumption) ?_; rotate_left; (intro X hX; have r1 := (Below.cell (p := ⟨g1, 0, none⟩) hX (by show g1 < g1 + 1; omega)).trans y0; clear hX; go_simp; rfl); simp only [List.getElem_toArray, List.getElem_cons_succ, List.getElem_cons_zero, Act.put, List.setIfInBounds_toArray, List.set_cons_succ, List.set_cons_zero]
              refine any_take 8 ?_ (by rfl) (by kernel_rfl) (fun _ _ _ _ _ hx => hx.elim) (.inl ⟨by rfl, ?_⟩) (by with_reducible assumption) ?_; rotate_left; (intro X hX; have r1 := (Below.cell (p := ⟨g1, 0, none⟩) hX (by show g1 < g1 + 1; omega)).trans y0; clear hX; go_simp; rfl); simp only [List.getElem_toArray, List.getElem_cons_succ, List.getElem_cons_zero, Act.put, List.setIfInBounds_toArray, List.set_cons_succ, List.set_cons_zero]
              refine any_take 9 ?_ (by rfl) (by kernel_rfl) (fun _ _ _ _ _ hx => hx.elim) (.inl ⟨by rfl, ?_⟩) (by with_reducible assumption) ?_; rotate_left; (intro X hX; have r1 := (Below.cell (p := ⟨g1, 0, none⟩) hX (by show g1 < g1 + 1; omega)).trans y0; clear hX; go_simp; rfl); simp only [List.getElem_toArray, List.getElem_cons_succ, List.getElem_cons_zero, Act.put, List.setIfInBounds_toArray, List.set_cons_succ, List.set_cons_zero]
              refine any_take 10 ?_ (by rfl) (by kernel_rfl) (fun _ _ _ _ _ hx => hx.elim) (.inl ⟨by rfl, ?_⟩) (by with_reducible assumption) ?_; rotate_left; (intro X hX; have r1 := (Below.cell (p := ⟨g1, 0, none⟩) hX (by show g1 < g1 + 1; omega)).trans y0; clear hX; go_simp; rfl); simp only [List.getElem_toArray, List.getElem_cons_succ, List.getElem_cons_zero, Act.put, List.setIfInBounds_toArray, List.set_cons_succ, List.set_cons_zero]
              refine any_take 11 ?_ (by rfl) (by kernel_rfl) (fun _ _ _ _ _ hx => hx.elim) (.inl ⟨by rfl, ?_⟩) (by with_reducible assumption) ?_; rotate_left; (intro X hX; have r1 := (Below.cell (p := ⟨g1, 0, none⟩) hX (by show g1 < g1 + 1; omega)).trans y0; clear hX; go_simp; rfl); simp only [List.getElem_toArray, List.getElem_cons_succ, List.getElem_cons_zero, Act.put, List.setIfInBounds_toArray, List.set_cons_succ, List.set_cons_zero]
              refine any_take 12 ?_ (by rfl) (by kernel_rfl) (fun _ _ _ _ _ hx => hx.elim) (.inl ⟨by rfl, ?_⟩) (by with_reducible assumption) ?_; rotate_left; (intro X hX; have r1 := (Below.cell (p := ⟨g1, 0, none⟩) hX (by show g1 < g1 + 1; omega)).trans y0; clear hX; go_simp; rfl); simp only [List.getElem_toArray, List.getElem_cons_succ, List.getElem_cons_zero, Act.put, List.setIfInBounds_toArray, List.set_cons_succ, List.set_cons_zero]
              refine any_take 13 ?_ (by rfl) (by kernel_rfl) (fun _ _ _ _ _ hx => hx.elim) (.inl ⟨by rfl, ?_⟩) (by with_reducible assumption) ?_; rotate_left; (intro X hX; have r1 := (Below.cell (p := ⟨g1, 0, none⟩) hX (by show g1 < g1 + 1; omega)).trans y0; clear hX; go_simp; rfl); simp only [List.getElem_toArray, List.getElem_cons_succ, List.getElem_cons_zero, Act.put, List.setIfInBounds_toArray, List.set_cons_succ, List.set_cons_zero]
              refine any_take 14 ?_ (by rfl) (by kernel_rfl) (fun _ _ _ _ _ hx => hx.elim) (.inl ⟨by rfl, ?_⟩) (by with_reducible assumption) ?_; rotate_left; (intro X hX; have r1 := (Below.cell (p := ⟨g1, 0, none⟩) hX (by show g1 < g1 + 1; omega)).trans y0; clear hX; go_simp; rfl); simp only [List.getElem_toArray, List.getElem_cons_succ, List.getElem_cons_zero, Act.put, List.setIfInBounds_toArray, List.set_cons_succ, List.set_cons_zero]
              refine any_run1 (i := 15) (by kernel_rfl) (by rfl) (by kernel_rfl) ?_
              intro K hK
              go_wp2_with fail
              refine hK _ _ (fun _ => hd1) ?_
              clear hK K
              refine any_run1 (i := 16) (by kernel_rfl) (by rfl) (by kernel_rfl) ?_
              intro K hK
              go_wp2_with fail
              refine hK _ _ (fun _ => hd1) ?_
              clear hK K
              refine any_run1 (i := 17) (by kernel_rfl) (by rfl) (by kernel_rfl) ?_
              intro K hK
              go_wp2_with fail
              refine hK _ _ (fun hx => (Bool.false_ne_true (hx.symm.trans (by kernel_rfl))).elim) ?_
              clear hK K
              refine any_done (by kernel_rfl) (NoPanic.normal ?_)
              go_wp2_with fail
              go_roundw
              case rel => exact ⟨k + 1, by omega, by go_num, H1.out, H3.out, Below.drew H2.out⟩
              case measure => simp [intOf]; omega
            · have hkE : k = E := by omega
              rw [hkE] at hL
              clear hkE
              have hL0 : Lb wr (g1 + 1) ((ts.take 0).foldl (tmin n) (i2 E E)) := by simpa using hL
              clear hL
              have hL := hL0
              clear hL0
              obtain ⟨W5, hW5⟩ : ∃ W5, wr = W5 := ⟨_, rfl⟩
              rw [hW5] at hL bB hC y0 y1 lB ⊢
              clear hW5
              go_wp2_with fail
              clear hlt hk y0 y1 lB
              go_loopw [8] (fun iv wr => ∃ k : Nat, k ≤ ts.length ∧ iv = .int .i64 k ∧ Lb wr (g1 + 1) ((ts.take k).foldl (tmin n) (i2 E E)) ∧ BK wr g1 #[.int .i64 E, .slice A ts.length cp] 24 ∧ Below w.heap.size w wr) (fun iv _ => ts.length - (intOf iv).toNat)
              case atStart => exact ⟨0, Nat.zero_le _, rfl, hL, bB, hC⟩
              case round =>
                clear hL bB hC
                obtain ⟨k, hk, rfl, hL, bB, hC⟩ := hrel
                have y0 := bB.cell 0
                have y1 := bB.cell 1
                have lB := bB.lt
                simp at y0 y1
                by_cases hlt : k < ts.length
                · obtain rfl := HA.out (by omega)
                  obtain ⟨hb, d1, d2, d3, d4⟩ := HR.out.at hlt
                  rw [← hC.cell (by exact hb)] at d1 d2 d3 d4
                  have hbb : b < wr.heap.size := Nat.lt_of_lt_of_le hb hC.size
                  have htk := ho.tst _ (nthT_mem hlt)
                  have hsu : (ts.take (k + 1)).foldl (tmin n) (i2 E E) = tmin n ((ts.take k).foldl (tmin n) (i2 E E)) (nthT ts k) := by
                    rw [List.take_succ_eq_append_getElem hlt, List.foldl_append]
                    unfold nthT
                    rw [List.getD_eq_getElem?_getD, List.getElem?_eq_getElem hlt]; rfl
                  have hlen0 : ((ts.take k).foldl (tmin n) (i2 E E)).length = N := by
                    have : ∀ (l : List Kt) (z : List Int), z.length = N → (l.foldl (tmin n) z).length = N := by
                      intro l
                      induction l with
                      | nil => intro z hz; exact hz
                      | cons t l ih => intro z hz; exact ih _ (by rw [tmin_len]; exact hz)
                    exact this _ _ (by rw [i2_len, hn, hN])
                  have HSU := Lib.hid hsu
                  clear hsu
                  generalize (ts.take k).foldl (tmin n) (i2 E E) = l0 at *
                  generalize nthT ts k = t at *
                  obtain ⟨one, two, lo, hi⟩ := t
                  dsimp only at d1 d2 d3 d4 htk
                  obtain ⟨q1, q2, q3, q4, q5, q6, q7, q8⟩ := htk
                  obtain ⟨o, rfl⟩ : ∃ a : Nat, one = a := ⟨one.toNat, by omega⟩
                  obtain ⟨tw, rfl⟩ : ∃ a : Nat, two = a := ⟨two.toNat, by omega⟩
                  have ww : IntKind.i64.wrap (-lo) = -lo := by rw [IntKind.wrap_i64]; omega
                  obtain ⟨p, q, hp, hq, hqe, hqN, wp, wq⟩ := idx_facts (u := tw) (v := o) hn17 hN (by omega) (by omega)
                  obtain ⟨p', q', hp', hq', hqe', hqN', wp', wq'⟩ := idx_facts (u := o) (v := tw) hn17 hN (by omega) (by omega)
                  have hts : tmin n l0 ⟨o, tw, lo, hi⟩ = (l0.set q (min (nthI l0 q) hi)).set q' (min (nthI (l0.set q (min (nthI l0 q) hi)) q') (-lo)) := by
                    unfold tmin X; simp only [Int.toNat_natCast]; rw [hqe, hqe']
                  have HTS := Lib.hid hts
                  have c1 := hL.at (i := q) (by rw [hlen0]; exact hqN)
                  have f1 := hL.frozen q
                  have l1 := hL.lt
                  clear hqe hqe' hts q1 q2 q3 q4 q5 q6 q7 q8
                  obtain ⟨m1, hm1⟩ : ∃ m, (if hi < nthI l0 q then hi else nthI l0 q) = m := ⟨_, rfl⟩
                  have hmm1 : min (nthI l0 q) hi = m1 := by rw [← hm1]; split <;> omega
                  have HM1 := Lib.hid hmm1
                  clear hmm1
                  have hb1 : Below wr.heap.size wr (wr.alloc (.cells #[.int .i64 o, .int .i64 tw, .int .i64 lo, .int .i64 hi] 56)) := by exact bel_of
                  obtain ⟨gT, hgT⟩ : ∃ n, wr.heap.size = n := ⟨_, rfl⟩
                  have bT : BK (wr.alloc (.cells #[.int .i64 o, .int .i64 tw, .int .i64 lo, .int .i64 hi] 56)) gT #[.int .i64 o, .int .i64 tw, .int .i64 lo, .int .i64 hi] 56 := BK.new' _ _ _ gT hgT
                  go_upto_region 19 with fail
                  have hL1 := hL.below hb1
                  have bB1 := bB.below hb1 bB.lt
                  have hC1 : Below w.heap.size w (wr.alloc (.cells #[.int .i64 o, .int .i64 tw, .int .i64 lo, .int .i64 hi] 56)) := hC.trans (hb1.mono hC.size)
                  have hgT2 : g1 + 1 < gT := by omega
                  clear hL bB hC d1 d2 d3 d4 y0 y1 lB c1 f1 l1 hbb hb1
                  generalize wr.alloc (.cells #[.int .i64 o, .int .i64 tw, .int .i64 lo, .int .i64 hi] 56) = V1 at *
                  clear hgT
                  have c1 := hL1.at (i := q) (by rw [hlen0]; exact hqN)
                  have f1 := hL1.frozen q
                  have l1 := hL1.lt
                  have t0 := bT.cell 0
                  have t1 := bT.cell 1
                  have t2 := bT.cell 2
                  have t3 := bT.cell 3
                  have lT := bT.lt
                  simp at t0 t1 t2 t3
                  have HL := Lib.hid (hL1.set q m1)
                  have HB := Lib.hid (BK.far (p := ⟨g1 + 1, q, none⟩) bB1 (by show g1 ≠ g1 + 1; omega) (.int .i64 m1))
                  have HT := Lib.hid (BK.far (p := ⟨g1 + 1, q, none⟩) bT (by show gT ≠ g1 + 1; omega) (.int .i64 m1))
                  have HC := Lib.hid (Below.setCell (p := ⟨g1 + 1, q, none⟩) hC1 (by show w.heap.size ≤ g1 + 1; omega) (.int .i64 m1))
                  clear hL1 bB1 bT hC1
                  have hd0 : Below V1.heap.size V1 V1.drew := Below.drew (Below.refl _ _)
                  refine wp_region_noPanic (plain_any (List.range 23) (Below V1.heap.size V1) mixed ?_)
                  (refine any_take 0 ?_ (by rfl) (by kernel_rfl) (fun _ _ _ _ _ hx => hx.elim) (.inl ⟨by rfl, ?_⟩) (by with_reducible assumption) ?_; rotate_left; (intro X hX; obtain ⟨r1, r2⟩ := Below.rules hX; clear hX; go_simp; rfl); simp only [List.getElem_toArray, List.getElem_cons_succ, List.getElem_cons_zero, Act.put, List.setIfInBounds_toArray, List.set_cons_succ, List.set_cons_zero])
                  (refine any_take 1 ?_ (by rfl) (by kernel_rfl) (fun _ _ _ _ _ hx => hx.elim) (.inl ⟨by rfl, ?_⟩) (by with_reducible assumption) ?_; rotate_left; (intro X hX; obtain ⟨r1, r2⟩ := Below.rules hX; clear hX; go_simp; rfl); simp only [List.getElem_toArray, List.getElem_cons_succ, List.getElem_cons_zero, Act.put, List.setIfInBounds_toArray, List.set_cons_succ, List.set_cons_zero])
                  (refine any_take 2 ?_ (by rfl) (by kernel_rfl) (fun _ _ _ _ _ hx => hx.elim) (.inl ⟨by rfl, ?_⟩) (by with_reducible assumption) ?_; rotate_left; (intro X hX; obtain ⟨r1, r2⟩ := Below.rules hX; clear hX; go_simp; rfl); simp only [List.getElem_toArray, List.getElem_cons_succ, List.getElem_cons_zero, Act.put, List.setIfInBounds_toArray, List.set_cons_succ, List.set_cons_zero])
                  (refine any_take 3 ?_ (by rfl) (by kernel_rfl) (fun _ _ _ _ _ hx => hx.elim) (.inl ⟨by rfl, ?_⟩) (by with_reducible assumption) ?_; rotate_left; (intro X hX; obtain ⟨r1, r2⟩ := Below.rules hX; clear hX; go_simp; rfl); simp only [List.getElem_toArray, List.getElem_cons_succ, List.getElem_cons_zero, Act.put, List.setIfInBounds_toArray, List.set_cons_succ, List.set_cons_zero])
                  (refine any_take 4 ?_ (by rfl) (by kernel_rfl) (fun _ _ _ _ _ hx => hx.elim) (.inl ⟨by rfl, ?_⟩) (by with_reducible assumption) ?_; rotate_left; (intro X hX; obtain ⟨r1, r2⟩ := Below.rules hX; clear hX; go_simp; rfl); simp only [List.getElem_toArray, List.getElem_cons_succ, List.getElem_cons_zero, Act.put, List.setIfInBounds_toArray, List.set_cons_succ, List.set_cons_zero])
                  (refine any_take 5 ?_ (by rfl) (by kernel_rfl) (fun _ _ _ _ _ hx => hx.elim) (.inl ⟨by rfl, ?_⟩) (by with_reducible assumption) ?_; rotate_left; (intro X hX; obtain ⟨r1, r2⟩ := Below.rules hX; clear hX; go_simp; rfl); simp only [List.getElem_toArray, List.getElem_cons_succ, List.getElem_cons_zero, Act.put, List.setIfInBounds_toArray, List.set_cons_succ, List.set_cons_zero])
                  (refine any_take 6 ?_ (by rfl) (by kernel_rfl) (fun _ _ _ _ _ hx => hx.elim) (.inl ⟨by rfl, ?_⟩) (by with_reducible assumption) ?_; rotate_left; (intro X hX; obtain ⟨r1, r2⟩ := Below.rules hX; clear hX; go_simp; rfl); simp only [List.getElem_toArray, List.getElem_cons_succ, List.getElem_cons_zero, Act.put, List.setIfInBounds_toArray, List.set_cons_succ, List.set_cons_zero])
                  (refine any_take 7 ?_ (by rfl) (by kernel_rfl) (fun _ _ _ _ _ hx => hx.elim) (.inl ⟨by rfl, ?_⟩) (by with_reducible assumption) ?_; rotate_left; (intro X hX; obtain ⟨r1, r2⟩ := Below.rules hX; clear hX; go_simp; rfl); simp only [List.getElem_toArray, List.getElem_cons_succ, List.getElem_cons_zero, Act.put, List.setIfInBounds_toArray, List.set_cons_succ, List.set_cons_zero])
                  (refine any_take 8 ?_ (by rfl) (by kernel_rfl) (fun _ _ _ _ _ hx => hx.elim) (.inl ⟨by rfl, ?_⟩) (by with_reducible assumption) ?_; rotate_left; (intro X hX; obtain ⟨r1, r2⟩ := Below.rules hX; clear hX; go_simp; rfl); simp only [List.getElem_toArray, List.getElem_cons_succ, List.getElem_cons_zero, Act.put, List.setIfInBounds_toArray, List.set_cons_succ, List.set_cons_zero])
                  (refine any_take 9 ?_ (by rfl) (by kernel_rfl) (fun _ _ _ _ _ hx => hx.elim) (.inl ⟨by rfl, ?_⟩) (by with_reducible assumption) ?_; rotate_left; (intro X hX; obtain ⟨r1, r2⟩ := Below.rules hX; clear hX; go_simp; rfl); simp only [List.getElem_toArray, List.getElem_cons_succ, List.getElem_cons_zero, Act.put, List.setIfInBounds_toArray, List.set_cons_succ, List.set_cons_zero])
                  (refine any_take 10 ?_ (by rfl) (by kernel_rfl) (fun _ _ _ _ _ hx => hx.elim) (.inl ⟨by rfl, ?_⟩) (by with_reducible assumption) ?_; rotate_left; (intro X hX; obtain ⟨r1, r2⟩ := Below.rules hX; clear hX; go_simp; rfl); simp only [List.getElem_toArray, List.getElem_cons_succ, List.getElem_cons_zero, Act.put, List.setIfInBounds_toArray, List.set_cons_succ, List.set_cons_zero])
                  (refine any_take 11 ?_ (by rfl) (by kernel_rfl) (fun _ _ _ _ _ hx => hx.elim) (.inl ⟨by rfl, ?_⟩) (by with_reducible assumption) ?_; rotate_left; (intro X hX; obtain ⟨r1, r2⟩ := Below.rules hX; clear hX; go_simp; rfl); simp only [List.getElem_toArray, List.getElem_cons_succ, List.getElem_cons_zero, Act.put, List.setIfInBounds_toArray, List.set_cons_succ, List.set_cons_zero])
                  (refine any_take 12 ?_ (by rfl) (by kernel_rfl) (fun _ _ _ _ _ hx => hx.elim) (.inl ⟨by rfl, ?_⟩) (by with_reducible assumption) ?_; rotate_left; (intro X hX; obtain ⟨r1, r2⟩ := Below.rules hX; clear hX; go_simp; rfl); simp only [List.getElem_toArray, List.getElem_cons_succ, List.getElem_cons_zero, Act.put, List.setIfInBounds_toArray, List.set_cons_succ, List.set_cons_zero])
                  (refine any_take 13 ?_ (by rfl) (by kernel_rfl) (fun _ _ _ _ _ hx => hx.elim) (.inl ⟨by rfl, ?_⟩) (by with_reducible assumption) ?_; rotate_left; (intro X hX; obtain ⟨r1, r2⟩ := Below.rules hX; clear hX; go_simp; rfl); simp only [List.getElem_toArray, List.getElem_cons_succ, List.getElem_cons_zero, Act.put, List.setIfInBounds_toArray, List.set_cons_succ, List.set_cons_zero])
                  (refine any_take 14 ?_ (by rfl) (by kernel_rfl) (fun _ _ _ _ _ hx => hx.elim) (.inl ⟨by rfl, ?_⟩) (by with_reducible assumption) ?_; rotate_left; (intro X hX; obtain ⟨r1, r2⟩ := Below.rules hX; clear hX; go_simp; rfl); simp only [List.getElem_toArray, List.getElem_cons_succ, List.getElem_cons_zero, Act.put, List.setIfInBounds_toArray, List.set_cons_succ, List.set_cons_zero])
                  (refine any_take 15 ?_ (by rfl) (by kernel_rfl) (fun _ _ _ _ _ hx => hx.elim) (.inl ⟨by rfl, ?_⟩) (by with_reducible assumption) ?_; rotate_left; (intro X hX; obtain ⟨r1, r2⟩ := Below.rules hX; clear hX; go_simp; rfl); simp only [List.getElem_toArray, List.getElem_cons_succ, List.getElem_cons_zero, Act.put, List.setIfInBounds_toArray, List.set_cons_succ, List.set_cons_zero])
                  (refine any_take 16 ?_ (by rfl) (by kernel_rfl) (fun _ _ _ _ _ hx => hx.elim) (.inl ⟨by rfl, ?_⟩) (by with_reducible assumption) ?_; rotate_left; (intro X hX; obtain ⟨r1, r2⟩ := Below.rules hX; clear hX; go_simp; rfl); simp only [List.getElem_toArray, List.getElem_cons_succ, List.getElem_cons_zero, Act.put, List.setIfInBounds_toArray, List.set_cons_succ, List.set_cons_zero])
                  (refine any_take 17 ?_ (by rfl) (by kernel_rfl) (fun _ _ _ _ _ hx => hx.elim) (.inl ⟨by rfl, ?_⟩) (by with_reducible assumption) ?_; rotate_left; (intro X hX; obtain ⟨r1, r2⟩ := Below.rules hX; clear hX; go_simp; rfl); simp only [List.getElem_toArray, List.getElem_cons_succ, List.getElem_cons_zero, Act.put, List.setIfInBounds_toArray, List.set_cons_succ, List.set_cons_zero])
                  (refine any_take 18 ?_ (by rfl) (by kernel_rfl) (fun _ _ _ _ _ hx => hx.elim) (.inl ⟨by rfl, ?_⟩) (by with_reducible assumption) ?_; rotate_left; (intro X hX; obtain ⟨r1, r2⟩ := Below.rules hX; clear hX; go_simp; rfl); simp only [List.getElem_toArray, List.getElem_cons_succ, List.getElem_cons_zero, Act.put, List.setIfInBounds_toArray, List.set_cons_succ, List.set_cons_zero])
                  (refine any_take 19 ?_ (by rfl) (by kernel_rfl) (fun _ _ _ _ _ hx => hx.elim) (.inl ⟨by rfl, ?_⟩) (by with_reducible assumption) ?_; rotate_left; (intro X hX; obtain ⟨r1, r2⟩ := Below.rules hX; clear hX; go_simp; rfl); simp only [List.getElem_toArray, List.getElem_cons_succ, List.getElem_cons_zero, Act.put, List.setIfInBounds_toArray, List.set_cons_succ, List.set_cons_zero])
                  (refine any_take 20 ?_ (by rfl) (by kernel_rfl) (fun _ _ _ _ _ hx => hx.elim) (.inl ⟨by rfl, ?_⟩) (by with_reducible assumption) ?_; rotate_left; (intro X hX; obtain ⟨r1, r2⟩ := Below.rules hX; clear hX; go_simp; rfl); simp only [List.getElem_toArray, List.getElem_cons_succ, List.getElem_cons_zero, Act.put, List.setIfInBounds_toArray, List.set_cons_succ, List.set_cons_zero])
                  (refine any_take 21 ?_ (by rfl) (by kernel_rfl) (fun _ _ _ _ _ hx => hx.elim) (.inl ⟨by rfl, ?_⟩) (by with_reducible assumption) ?_; rotate_left; (intro X hX; obtain ⟨r1, r2⟩ := Below.rules hX; clear hX; go_simp; rfl); simp only [List.getElem_toArray, List.getElem_cons_succ, List.getElem_cons_zero, Act.put, List.setIfInBounds_toArray, List.set_cons_succ, List.set_cons_zero])
                  (refine any_take 22 ?_ (by rfl) (by kernel_rfl) (fun _ _ _ _ _ hx => hx.elim) (.inl ⟨by rfl, ?_⟩) (by with_reducible assumption) ?_; rotate_left; (intro X hX; obtain ⟨r1, r2⟩ := Below.rules hX; clear hX; go_simp; rfl); simp only [List.getElem_toArray, List.getElem_cons_succ, List.getElem_cons_zero, Act.put, List.setIfInBounds_toArray, List.set_cons_succ, List.set_cons_zero])
                  refine any_run1 (i := 23) (by kernel_rfl) (by rfl) (by kernel_rfl) ?_
                  intro K hK
                  go_wp2_with fail
                  refine hK _ _ (fun hx => (Bool.false_ne_true (hx.symm.trans (by kernel_rfl))).elim) ?_
                  clear hK K
                  refine any_done (by kernel_rfl) (NoPanic.normal ?_)
                  clear hd0
                  go_upto_region 20 with fail
                  have hL2 : Lb (V1.setCell ⟨g1 + 1, q, none⟩ (.int .i64 m1)).drew (g1 + 1) (l0.set q m1) := HL.out.same rfl
                  have bB2 : BK (V1.setCell ⟨g1 + 1, q, none⟩ (.int .i64 m1)).drew g1 _ _ := HB.out
                  have bT2 : BK (V1.setCell ⟨g1 + 1, q, none⟩ (.int .i64 m1)).drew gT #[.int .i64 o, .int .i64 tw, .int .i64 lo, .int .i64 hi] 56 := HT.out
                  have hC2 : Below w.heap.size w (V1.setCell ⟨g1 + 1, q, none⟩ (.int .i64 m1)).drew := Below.drew HC.out
                  clear HL HB HT HC t0 t1 t2 t3 lT c1 f1 l1
                  generalize (V1.setCell ⟨g1 + 1, q, none⟩ (.int .i64 m1)).drew = V2 at *
                  have hlen1 : (l0.set q m1).length = N := by rw [List.length_set]; exact hlen0
                  obtain ⟨l2, hl2⟩ : ∃ l, l0.set q m1 = l := ⟨_, rfl⟩
                  rw [hl2] at hL2 hlen1
                  have HL2 := Lib.hid hl2
                  clear hl2 hm1
                  have c1 := hL2.at (i := q') (by rw [hlen1]; exact hqN')
                  have f1 := hL2.frozen q'
                  have l1 := hL2.lt
                  have t0 := bT2.cell 0
                  have t1 := bT2.cell 1
                  have t2 := bT2.cell 2
                  have t3 := bT2.cell 3
                  have lT := bT2.lt
                  simp at t0 t1 t2 t3
                  obtain ⟨m2, hm2⟩ : ∃ m, (if -lo < nthI l2 q' then -lo else nthI l2 q') = m := ⟨_, rfl⟩
                  have hmm2 : min (nthI l2 q') (-lo) = m2 := by rw [← hm2]; split <;> omega
                  have HM2 := Lib.hid hmm2
                  clear hmm2
                  have hts2 : tmin n l0 ⟨o, tw, lo, hi⟩ = l2.set q' m2 := by rw [HTS.out, HM1.out, HL2.out, HM2.out]
                  have HL := Lib.hid (hL2.set q' m2)
                  have HB := Lib.hid (BK.far (p := ⟨g1 + 1, q', none⟩) bB2 (by show g1 ≠ g1 + 1; omega) (.int .i64 m2))
                  have HC := Lib.hid (Below.setCell (p := ⟨g1 + 1, q', none⟩) hC2 (by show w.heap.size ≤ g1 + 1; omega) (.int .i64 m2))
                  rw [← hts2, ← HSU.out] at HL
                  clear hL2 bB2 bT2 hC2 hts2 HTS HSU HM1 HL2 HM2
                  have hd0 : Below V2.heap.size V2 V2.drew := Below.drew (Below.refl _ _)
                  refine wp_region_noPanic (plain_any (List.range 24) (Below V2.heap.size V2) mixed ?_)
                  (refine any_take 0 ?_ (by rfl) (by kernel_rfl) (fun _ _ _ _ _ hx => hx.elim) (.inl ⟨by rfl, ?_⟩) (by with_reducible assumption) ?_; rotate_left; (intro X hX; obtain ⟨r1, r2⟩ := Below.rules hX; clear hX; go_simp; rfl); simp only [List.getElem_toArray, List.getElem_cons_succ, List.getElem_cons_zero, Act.put, List.setIfInBounds_toArray, List.set_cons_succ, List.set_cons_zero])
                  (refine any_take 1 ?_ (by rfl) (by kernel_rfl) (fun _ _ _ _ _ hx => hx.elim) (.inl ⟨by rfl, ?_⟩) (by with_reducible assumption) ?_; rotate_left; (intro X hX; obtain ⟨r1, r2⟩ := Below.rules hX; clear hX; go_simp; rfl); simp only [List.getElem_toArray, List.getElem_cons_succ, List.getElem_cons_zero, Act.put, List.setIfInBounds_toArray, List.set_cons_succ, List.set_cons_zero])
                  (refine any_take 2 ?_ (by rfl) (by kernel_rfl) (fun _ _ _ _ _ hx => hx.elim) (.inl ⟨by rfl, ?_⟩) (by with_reducible assumption) ?_; rotate_left; (intro X hX; obtain ⟨r1, r2⟩ := Below.rules hX; clear hX; go_simp; rfl); simp only [List.getElem_toArray, List.getElem_cons_succ, List.getElem_cons_zero, Act.put, List.setIfInBounds_toArray, List.set_cons_succ, List.set_cons_zero])
                  (refine any_take 3 ?_ (by rfl) (by kernel_rfl) (fun _ _ _ _ _ hx => hx.elim) (.inl ⟨by rfl, ?_⟩) (by with_reducible assumption) ?_; rotate_left; (intro X hX; obtain ⟨r1, r2⟩ := Below.rules hX; clear hX; go_simp; rfl); simp only [List.getElem_toArray, List.getElem_cons_succ, List.getElem_cons_zero, Act.put, List.setIfInBounds_toArray, List.set_cons_succ, List.set_cons_zero])
                  (refine any_take 4 ?_ (by rfl) (by kernel_rfl) (fun _ _ _ _ _ hx => hx.elim) (.inl ⟨by rfl, ?_⟩) (by with_reducible assumption) ?_; rotate_left; (intro X hX; obtain ⟨r1, r2⟩ := Below.rules hX; clear hX; go_simp; rfl); simp only [List.getElem_toArray, List.getElem_cons_succ, List.getElem_cons_zero, Act.put, List.setIfInBounds_toArray, List.set_cons_succ, List.set_cons_zero])
                  (refine any_take 5 ?_ (by rfl) (by kernel_rfl) (fun _ _ _ _ _ hx => hx.elim) (.inl ⟨by rfl, ?_⟩) (by with_reducible assumption) ?_; rotate_left; (intro X hX; obtain ⟨r1, r2⟩ := Below.rules hX; clear hX; go_simp; rfl); simp only [List.getElem_toArray, List.getElem_cons_succ, List.getElem_cons_zero, Act.put, List.setIfInBounds_toArray, List.set_cons_succ, List.set_cons_zero])
                  (refine any_take 6 ?_ (by rfl) (by kernel_rfl) (fun _ _ _ _ _ hx => hx.elim) (.inl ⟨by rfl, ?_⟩) (by with_reducible assumption) ?_; rotate_left; (intro X hX; obtain ⟨r1, r2⟩ := Below.rules hX; clear hX; go_simp; rfl); simp only [List.getElem_toArray, List.getElem_cons_succ, List.getElem_cons_zero, Act.put, List.setIfInBounds_toArray, List.set_cons_succ, List.set_cons_zero])
                  (refine any_take 7 ?_ (by rfl) (by kernel_rfl) (fun _ _ _ _ _ hx => hx.elim) (.inl ⟨by rfl, ?_⟩) (by with_reducible assumption) ?_; rotate_left; (intro X hX; obtain ⟨r1, r2⟩ := Below.rules hX; clear hX; go_simp; rfl); simp only [List.getElem_toArray, List.getElem_cons_succ, List.getElem_cons_zero, Act.put, List.setIfInBounds_toArray, List.set_cons_succ, List.set_cons_zero])
                  (refine any_take 8 ?_ (by rfl) (by kernel_rfl) (fun _ _ _ _ _ hx => hx.elim) (.inl ⟨by rfl, ?_⟩) (by with_reducible assumption) ?_; rotate_left; (intro X hX; obtain ⟨r1, r2⟩ := Below.rules hX; clear hX; go_simp; rfl); simp only [List.getElem_toArray, List.getElem_cons_succ, List.getElem_cons_zero, Act.put, List.setIfInBounds_toArray, List.set_cons_succ, List.set_cons_zero])
                  (refine any_take 9 ?_ (by rfl) (by kernel_rfl) (fun _ _ _ _ _ hx => hx.elim) (.inl ⟨by rfl, ?_⟩) (by with_reducible assumption) ?_; rotate_left; (intro X hX; obtain ⟨r1, r2⟩ := Below.rules hX; clear hX; go_simp; rfl); simp only [List.getElem_toArray, List.getElem_cons_succ, List.getElem_cons_zero, Act.put, List.setIfInBounds_toArray, List.set_cons_succ, List.set_cons_zero])
                  (refine any_take 10 ?_ (by rfl) (by kernel_rfl) (fun _ _ _ _ _ hx => hx.elim) (.inl ⟨by rfl, ?_⟩) (by with_reducible assumption) ?_; rotate_left; (intro X hX; obtain ⟨r1, r2⟩ := Below.rules hX; clear hX; go_simp; rfl); simp only [List.getElem_toArray, List.getElem_cons_succ, List.getElem_cons_zero, Act.put, List.setIfInBounds_toArray, List.set_cons_succ, List.set_cons_zero])
                  (refine any_take 11 ?_ (by rfl) (by kernel_rfl) (fun _ _ _ _ _ hx => hx.elim) (.inl ⟨by rfl, ?_⟩) (by with_reducible assumption) ?_; rotate_left; (intro X hX; obtain ⟨r1, r2⟩ := Below.rules hX; clear hX; go_simp; rfl); simp only [List.getElem_toArray, List.getElem_cons_succ, List.getElem_cons_zero, Act.put, List.setIfInBounds_toArray, List.set_cons_succ, List.set_cons_zero])
                  (refine any_take 12 ?_ (by rfl) (by kernel_rfl) (fun _ _ _ _ _ hx => hx.elim) (.inl ⟨by rfl, ?_⟩) (by with_reducible assumption) ?_; rotate_left; (intro X hX; obtain ⟨r1, r2⟩ := Below.rules hX; clear hX; go_simp; rfl); simp only [List.getElem_toArray, List.getElem_cons_succ, List.getElem_cons_zero, Act.put, List.setIfInBounds_toArray, List.set_cons_succ, List.set_cons_zero])
                  (refine any_take 13 ?_ (by rfl) (by kernel_rfl) (fun _ _ _ _ _ hx => hx.elim) (.inl ⟨by rfl, ?_⟩) (by with_reducible assumption) ?_; rotate_left; (intro X hX; obtain ⟨r1, r2⟩ := Below.rules hX; clear hX; go_simp; rfl); simp only [List.getElem_toArray, List.getElem_cons_succ, List.getElem_cons_zero, Act.put, List.setIfInBounds_toArray, List.set_cons_succ, List.set_cons_zero])
                  (refine any_take 14 ?_ (by rfl) (by kernel_rfl) (fun _ _ _ _ _ hx => hx.elim) (.inl ⟨by rfl, ?_⟩) (by with_reducible assumption) ?_; rotate_left; (intro X hX; obtain ⟨r1, r2⟩ := Below.rules hX; clear hX; go_simp; rfl); simp only [List.getElem_toArray, List.getElem_cons_succ, List.getElem_cons_zero, Act.put, List.setIfInBounds_toArray, List.set_cons_succ, List.set_cons_zero])
                  (refine any_take 15 ?_ (by rfl) (by kernel_rfl) (fun _ _ _ _ _ hx => hx.elim) (.inl ⟨by rfl, ?_⟩) (by with_reducible assumption) ?_; rotate_left; (intro X hX; obtain ⟨r1, r2⟩ := Below.rules hX; clear hX; go_simp; rfl); simp only [List.getElem_toArray, List.getElem_cons_succ, List.getElem_cons_zero, Act.put, List.setIfInBounds_toArray, List.set_cons_succ, List.set_cons_zero])
                  (refine any_take 16 ?_ (by rfl) (by kernel_rfl) (fun _ _ _ _ _ hx => hx.elim) (.inl ⟨by rfl, ?_⟩) (by with_reducible assumption) ?_; rotate_left; (intro X hX; obtain ⟨r1, r2⟩ := Below.rules hX; clear hX; go_simp; rfl); simp only [List.getElem_toArray, List.getElem_cons_succ, List.getElem_cons_zero, Act.put, List.setIfInBounds_toArray, List.set_cons_succ, List.set_cons_zero])
                  (refine any_take 17 ?_ (by rfl) (by kernel_rfl) (fun _ _ _ _ _ hx => hx.elim) (.inl ⟨by rfl, ?_⟩) (by with_reducible assumption) ?_; rotate_left; (intro X hX; obtain ⟨r1, r2⟩ := Below.rules hX; clear hX; go_simp; rfl); simp only [List.getElem_toArray, List.getElem_cons_succ, List.getElem_cons_zero, Act.put, List.setIfInBounds_toArray, List.set_cons_succ, List.set_cons_zero])
                  (refine any_take 18 ?_ (by rfl) (by kernel_rfl) (fun _ _ _ _ _ hx => hx.elim) (.inl ⟨by rfl, ?_⟩) (by with_reducible assumption) ?_; rotate_left; (intro X hX; obtain ⟨r1, r2⟩ := Below.rules hX; clear hX; go_simp; rfl); simp only [List.getElem_toArray, List.getElem_cons_succ, List.getElem_cons_zero, Act.put, List.setIfInBounds_toArray, List.set_cons_succ, List.set_cons_zero])
                  (refine any_take 19 ?_ (by rfl) (by kernel_rfl) (fun _ _ _ _ _ hx => hx.elim) (.inl ⟨by rfl, ?_⟩) (by with_reducible assumption) ?_; rotate_left; (intro X hX; obtain ⟨r1, r2⟩ := Below.rules hX; clear hX; go_simp; rfl); simp only [List.getElem_toArray, List.getElem_cons_succ, List.getElem_cons_zero, Act.put, List.setIfInBounds_toArray, List.set_cons_succ, List.set_cons_zero])
                  (refine any_take 20 ?_ (by rfl) (by kernel_rfl) (fun _ _ _ _ _ hx => hx.elim) (.inl ⟨by rfl, ?_⟩) (by with_reducible assumption) ?_; rotate_left; (intro X hX; obtain ⟨r1, r2⟩ := Below.rules hX; clear hX; go_simp; rfl); simp only [List.getElem_toArray, List.getElem_cons_succ, List.getElem_cons_zero, Act.put, List.setIfInBounds_toArray, List.set_cons_succ, List.set_cons_zero])
                  (refine any_take 21 ?_ (by rfl) (by kernel_rfl) (fun _ _ _ _ _ hx => hx.elim) (.inl ⟨by rfl, ?_⟩) (by with_reducible assumption) ?_; rotate_left; (intro X hX; obtain ⟨r1, r2⟩ := Below.rules hX; clear hX; go_simp; rfl); simp only [List.getElem_toArray, List.getElem_cons_succ, List.getElem_cons_zero, Act.put, List.setIfInBounds_toArray, List.set_cons_succ, List.set_cons_zero])
                  (refine any_take 22 ?_ (by rfl) (by kernel_rfl) (fun _ _ _ _ _ hx => hx.elim) (.inl ⟨by rfl, ?_⟩) (by with_reducible assumption) ?_; rotate_left; (intro X hX; obtain ⟨r1, r2⟩ := Below.rules hX; clear hX; go_simp; rfl); simp only [List.getElem_toArray, List.getElem_cons_succ, List.getElem_cons_zero, Act.put, List.setIfInBounds_toArray, List.set_cons_succ, List.set_cons_zero])
                  (refine any_take 23 ?_ (by rfl) (by kernel_rfl) (fun _ _ _ _ _ hx => hx.elim) (.inl ⟨by rfl, ?_⟩) (by with_reducible assumption) ?_; rotate_left; (intro X hX; obtain ⟨r1, r2⟩ := Below.rules hX; clear hX; go_simp; rfl); simp only [List.getElem_toArray, List.getElem_cons_succ, List.getElem_cons_zero, Act.put, List.setIfInBounds_toArray, List.set_cons_succ, List.set_cons_zero])
                  refine any_run1 (i := 24) (by kernel_rfl) (by rfl) (by kernel_rfl) ?_
                  intro K hK
                  go_wp2_with fail
                  refine hK _ _ (fun hx => (Bool.false_ne_true (hx.symm.trans (by kernel_rfl))).elim) ?_
                  clear hK K
                  refine any_done (by kernel_rfl) (NoPanic.normal ?_)
                  clear hd0
                  go_wp2_with fail
                  go_roundw
                  case rel => exact ⟨k + 1, by omega, by go_num, HL.out, HB.out, Below.drew HC.out⟩
                  case measure => simp [intOf]; omega
                · have hkT : k = ts.length := by omega
                  rw [hkT, List.take_length] at hL
                  clear hkT
                  have hL0 : Lb wr (g1 + 1) (fwM n 0 (initL E ts)) := by unfold fwM initL; rw [hn]; exact hL
                  clear hL
                  have hL := hL0
                  clear hL0
                  have len0 : (initL E ts).length = n * n := by
                    have : ∀ (l : List Kt) (z : List Int), z.length = n * n → (l.foldl (tmin n) z).length = n * n := by
                      intro l
                      induction l with
                      | nil => intro z hz; exact hz
                      | cons t l ih => intro z hz; exact ih _ (by rw [tmin_len]; exact hz)
                    unfold initL
                    rw [hn]
                    exact this _ _ (by rw [i2_len, hn])
                  have rng0 := rng_init ho
                  obtain ⟨l0, hl0⟩ : ∃ l, initL E ts = l := ⟨_, rfl⟩
                  rw [hl0] at hL len0 rng0
                  have HL0 := Lib.hid hl0
                  have HLEN := Lib.hid len0
                  have HRNG := Lib.hid rng0
                  clear hl0 len0 rng0
                  obtain ⟨W6, hW6⟩ : ∃ W, wr = W := ⟨_, rfl⟩
                  rw [hW6] at hL bB hC y0 y1 lB ⊢
                  clear hW6
                  clear bB
                  go_wp2_with fail
                  clear hlt hk y0 y1 lB
                  go_loopw [10] (fun iv wr => ∃ m : Nat, m ≤ n ∧ iv = .int .i64 m ∧ Lb wr (g1 + 1) (fwM n m l0) ∧ Below w.heap.size w wr) (fun iv _ => n - (intOf iv).toNat)
                  case atStart => exact ⟨0, Nat.zero_le _, rfl, hL, hC⟩
                  case round =>
                    clear hL hC
                    obtain ⟨m, hk, rfl, hL, hC⟩ := hrel
                    by_cases hlt : m < n
                    · have hL0 : Lb wr (g1 + 1) (fwU n m 0 (fwM n m l0)) := hL
                      clear hL
                      have hL := hL0
                      clear hL0
                      obtain ⟨W7, hW7⟩ : ∃ W, wr = W := ⟨_, rfl⟩
                      rw [hW7] at hL hC ⊢
                      clear hW7
                      go_wp2_with fail
                      go_loopw [11] (fun iv wr => ∃ u : Nat, u ≤ n ∧ iv = .int .i64 u ∧ Lb wr (g1 + 1) (fwU n m u (fwM n m l0)) ∧ Below w.heap.size w wr) (fun iv _ => n - (intOf iv).toNat)
                      case atStart => exact ⟨0, Nat.zero_le _, rfl, hL, hC⟩
                      case round =>
                        clear hL hC
                        obtain ⟨u, hku, rfl, hL, hC⟩ := hrel
                        by_cases hlu : u < n
                        · have hL0 : Lb wr (g1 + 1) (fwV n m u 0 (fwU n m u (fwM n m l0))) := hL
                          clear hL
                          have hL := hL0
                          clear hL0
                          obtain ⟨W8, hW8⟩ : ∃ W, wr = W := ⟨_, rfl⟩
                          rw [hW8] at hL hC ⊢
                          clear hW8
                          go_wp2_with fail
                          go_loopw [12] (fun iv wr => ∃ v : Nat, v ≤ n ∧ iv = .int .i64 v ∧ Lb wr (g1 + 1) (fwV n m u v (fwU n m u (fwM n m l0))) ∧ Below w.heap.size w wr) (fun iv _ => n - (intOf iv).toNat)
                          case atStart => exact ⟨0, Nat.zero_le _, rfl, hL, hC⟩
                          case round =>
                            clear hL hC
                            obtain ⟨v, hkv, rfl, hL, hC⟩ := hrel
                            by_cases hlv : v < n
                            · have hlen : (fwV n m u v (fwU n m u (fwM n m l0))).length = N := by rw [fwV_len, fwU_len, fwM_len, HLEN.out, hN]
                              have hrng := rng_V n m u (rng_U n m (rng_M n HRNG.out m) u) v
                              have hup : fwV n m u (v + 1) (fwU n m u (fwM n m l0)) = upd n m u v (fwV n m u v (fwU n m u (fwM n m l0))) := rfl
                              have HUP := Lib.hid hup
                              clear hup
                              generalize fwV n m u v (fwU n m u (fwM n m l0)) = l1 at *
                              obtain ⟨p, q, hp, hq, hqe, hqN, wp, wq⟩ := idx_facts (u := u) (v := v) hn17 hN hlu hlv
                              have hpn : u * n = p := by exact_mod_cast hp
                              obtain ⟨q2, hq2n⟩ : ∃ j, p + m = j := ⟨_, rfl⟩
                              have hq2 : (p : Int) + (m : Int) = (q2 : Int) := by omega
                              have hq2e : q2 = u * n + m := by rw [hpn]; exact hq2n.symm
                              have hq2N : q2 < N := by have := idx_lt hlu hlt; rw [hN, ← hq2e] at this; exact this
                              have wq2 : IntKind.i64.wrap (q2 : Int) = q2 := by rw [IntKind.wrap_i64]; omega
                              obtain ⟨p3, q3, hp3, hq3, hqe3, hqN3, wp3, wq3⟩ := idx_facts (u := m) (v := v) hn17 hN hlt hlv
                              have r2 := hrng q2
                              have r3 := hrng q3
                              obtain ⟨s, hs⟩ : ∃ s, nthI l1 q2 + nthI l1 q3 = s := ⟨_, rfl⟩
                              have ws : IntKind.i64.wrap s = s := by rw [IntKind.wrap_i64]; unfold cap at r2 r3; omega
                              obtain ⟨x, hx⟩ : ∃ x, (if -1099511627776 < s then s else -1099511627776) = x := ⟨_, rfl⟩
                              have hxx : max (-cap) s = x := by rw [← hx]; unfold cap; split <;> omega
                              obtain ⟨m1, hm1⟩ : ∃ z, (if x < nthI l1 q then x else nthI l1 q) = z := ⟨_, rfl⟩
                              have hmm : min (nthI l1 q) x = m1 := by rw [← hm1]; split <;> omega
                              have hup2 : upd n m u v l1 = l1.set q m1 := by unfold upd X; rw [← hqe, ← hq2e, ← hqe3, hs, hxx, hmm]
                              have c1 := hL.at (i := q) (by rw [hlen]; exact hqN)
                              have c2 := hL.at (i := q2) (by rw [hlen]; exact hq2N)
                              have c3 := hL.at (i := q3) (by rw [hlen]; exact hqN3)
                              have f1 := hL.frozen q
                              have hlo := hL.lt
                              have HL := Lib.hid (hL.set q m1)
                              have HC := Lib.hid (Below.setCell (p := ⟨g1 + 1, q, none⟩) hC (by show w.heap.size ≤ g1 + 1; omega) (.int .i64 m1))
                              rw [← hup2, ← HUP.out] at HL
                              clear hL hC hup2 hmm hxx hrng r2 r3 hqe hq2e hqe3 hpn hq2n HUP hlen
                              have hd0 : Below wr.heap.size wr wr.drew := Below.drew (Below.refl _ _)
                              go_upto_region 30 with fail
                              refine wp_region_noPanic (plain_any (List.range 34) (Below wr.heap.size wr) mixed ?_)
                              (refine any_take 0 ?_ (by rfl) (by kernel_rfl) (fun _ _ _ _ _ hx => hx.elim) (.inl ⟨by rfl, ?_⟩) (by with_reducible assumption) ?_; rotate_left; (intro X hX; obtain ⟨r1, r2⟩ := Below.rules hX; clear hX; go_simp; rfl); simp only [List.getElem_toArray, List.getElem_cons_succ, List.getElem_cons_zero, Act.put, List.setIfInBounds_toArray, List.set_cons_succ, List.set_cons_zero])
                              (refine any_take 1 ?_ (by rfl) (by kernel_rfl) (fun _ _ _ _ _ hx => hx.elim) (.inl ⟨by rfl, ?_⟩) (by with_reducible assumption) ?_; rotate_left; (intro X hX; obtain ⟨r1, r2⟩ := Below.rules hX; clear hX; go_simp; rfl); simp only [List.getElem_toArray, List.getElem_cons_succ, List.getElem_cons_zero, Act.put, List.setIfInBounds_toArray, List.set_cons_succ, List.set_cons_zero])
                              (refine any_take 2 ?_ (by rfl) (by kernel_rfl) (fun _ _ _ _ _ hx => hx.elim) (.inl ⟨by rfl, ?_⟩) (by with_reducible assumption) ?_; rotate_left; (intro X hX; obtain ⟨r1, r2⟩ := Below.rules hX; clear hX; go_simp; rfl); simp only [List.getElem_toArray, List.getElem_cons_succ, List.getElem_cons_zero, Act.put, List.setIfInBounds_toArray, List.set_cons_succ, List.set_cons_zero])
                              (refine any_take 3 ?_ (by rfl) (by kernel_rfl) (fun _ _ _ _ _ hx => hx.elim) (.inl ⟨by rfl, ?_⟩) (by with_reducible assumption) ?_; rotate_left; (intro X hX; obtain ⟨r1, r2⟩ := Below.rules hX; clear hX; go_simp; rfl); simp only [List.getElem_toArray, List.getElem_cons_succ, List.getElem_cons_zero, Act.put, List.setIfInBounds_toArray, List.set_cons_succ, List.set_cons_zero])
                              (refine any_take 4 ?_ (by rfl) (by kernel_rfl) (fun _ _ _ _ _ hx => hx.elim) (.inl ⟨by rfl, ?_⟩) (by with_reducible assumption) ?_; rotate_left; (intro X hX; obtain ⟨r1, r2⟩ := Below.rules hX; clear hX; go_simp; rfl); simp only [List.getElem_toArray, List.getElem_cons_succ, List.getElem_cons_zero, Act.put, List.setIfInBounds_toArray, List.set_cons_succ, List.set_cons_zero])
                              (refine any_take 5 ?_ (by rfl) (by kernel_rfl) (fun _ _ _ _ _ hx => hx.elim) (.inl ⟨by rfl, ?_⟩) (by with_reducible assumption) ?_; rotate_left; (intro X hX; obtain ⟨r1, r2⟩ := Below.rules hX; clear hX; go_simp; rfl); simp only [List.getElem_toArray, List.getElem_cons_succ, List.getElem_cons_zero, Act.put, List.setIfInBounds_toArray, List.set_cons_succ, List.set_cons_zero])
                              (refine any_take 6 ?_ (by rfl) (by kernel_rfl) (fun _ _ _ _ _ hx => hx.elim) (.inl ⟨by rfl, ?_⟩) (by with_reducible assumption) ?_; rotate_left; (intro X hX; obtain ⟨r1, r2⟩ := Below.rules hX; clear hX; go_simp; rfl); simp only [List.getElem_toArray, List.getElem_cons_succ, List.getElem_cons_zero, Act.put, List.setIfInBounds_toArray, List.set_cons_succ, List.set_cons_zero])
                              (refine any_take 7 ?_ (by rfl) (by kernel_rfl) (fun _ _ _ _ _ hx => hx.elim) (.inl ⟨by rfl, ?_⟩) (by with_reducible assumption) ?_; rotate_left; (intro X hX; obtain ⟨r1, r2⟩ := Below.rules hX; clear hX; go_simp; rfl); simp only [List.getElem_toArray, List.getElem_cons_succ, List.getElem_cons_zero, Act.put, List.setIfInBounds_toArray, List.set_cons_succ, List.set_cons_zero])
                              (refine any_take 8 ?_ (by rfl) (by kernel_rfl) (fun _ _ _ _ _ hx => hx.elim) (.inl ⟨by rfl, ?_⟩) (by with_reducible assumption) ?_; rotate_left; (intro X hX; obtain ⟨r1, r2⟩ := Below.rules hX; clear hX; go_simp; rfl); simp only [List.getElem_toArray, List.getElem_cons_succ, List.getElem_cons_zero, Act.put, List.setIfInBounds_toArray, List.set_cons_succ, List.set_cons_zero])
                              (refine any_take 9 ?_ (by rfl) (by kernel_rfl) (fun _ _ _ _ _ hx => hx.elim) (.inl ⟨by rfl, ?_⟩) (by with_reducible assumption) ?_; rotate_left; (intro X hX; obtain ⟨r1, r2⟩ := Below.rules hX; clear hX; go_simp; rfl); simp only [List.getElem_toArray, List.getElem_cons_succ, List.getElem_cons_zero, Act.put, List.setIfInBounds_toArray, List.set_cons_succ, List.set_cons_zero])
                              (refine any_take 10 ?_ (by rfl) (by kernel_rfl) (fun _ _ _ _ _ hx => hx.elim) (.inl ⟨by rfl, ?_⟩) (by with_reducible assumption) ?_; rotate_left; (intro X hX; obtain ⟨r1, r2⟩ := Below.rules hX; clear hX; go_simp; rfl); simp only [List.getElem_toArray, List.getElem_cons_succ, List.getElem_cons_zero, Act.put, List.setIfInBounds_toArray, List.set_cons_succ, List.set_cons_zero])
                              (refine any_take 11 ?_ (by rfl) (by kernel_rfl) (fun _ _ _ _ _ hx => hx.elim) (.inl ⟨by rfl, ?_⟩) (by with_reducible assumption) ?_; rotate_left; (intro X hX; obtain ⟨r1, r2⟩ := Below.rules hX; clear hX; go_simp; rfl); simp only [List.getElem_toArray, List.getElem_cons_succ, List.getElem_cons_zero, Act.put, List.setIfInBounds_toArray, List.set_cons_succ, List.set_cons_zero])
                              (refine any_take 12 ?_ (by rfl) (by kernel_rfl) (fun _ _ _ _ _ hx => hx.elim) (.inl ⟨by rfl, ?_⟩) (by with_reducible assumption) ?_; rotate_left; (intro X hX; obtain ⟨r1, r2⟩ := Below.rules hX; clear hX; go_simp; rfl); simp only [List.getElem_toArray, List.getElem_cons_succ, List.getElem_cons_zero, Act.put, List.setIfInBounds_toArray, List.set_cons_succ, List.set_cons_zero])
                              (refine any_take 13 ?_ (by rfl) (by kernel_rfl) (fun _ _ _ _ _ hx => hx.elim) (.inl ⟨by rfl, ?_⟩) (by with_reducible assumption) ?_; rotate_left; (intro X hX; obtain ⟨r1, r2⟩ := Below.rules hX; clear hX; go_simp; rfl); simp only [List.getElem_toArray, List.getElem_cons_succ, List.getElem_cons_zero, Act.put, List.setIfInBounds_toArray, List.set_cons_succ, List.set_cons_zero])
                              (refine any_take 14 ?_ (by rfl) (by kernel_rfl) (fun _ _ _ _ _ hx => hx.elim) (.inl ⟨by rfl, ?_⟩) (by with_reducible assumption) ?_; rotate_left; (intro X hX; obtain ⟨r1, r2⟩ := Below.rules hX; clear hX; go_simp; rfl); simp only [List.getElem_toArray, List.getElem_cons_succ, List.getElem_cons_zero, Act.put, List.setIfInBounds_toArray, List.set_cons_succ, List.set_cons_zero])
                              (refine any_take 15 ?_ (by rfl) (by kernel_rfl) (fun _ _ _ _ _ hx => hx.elim) (.inl ⟨by rfl, ?_⟩) (by with_reducible assumption) ?_; rotate_left; (intro X hX; obtain ⟨r1, r2⟩ := Below.rules hX; clear hX; go_simp; rfl); simp only [List.getElem_toArray, List.getElem_cons_succ, List.getElem_cons_zero, Act.put, List.setIfInBounds_toArray, List.set_cons_succ, List.set_cons_zero])
                              (refine any_take 16 ?_ (by rfl) (by kernel_rfl) (fun _ _ _ _ _ hx => hx.elim) (.inl ⟨by rfl, ?_⟩) (by with_reducible assumption) ?_; rotate_left; (intro X hX; obtain ⟨r1, r2⟩ := Below.rules hX; clear hX; go_simp; rfl); simp only [List.getElem_toArray, List.getElem_cons_succ, List.getElem_cons_zero, Act.put, List.setIfInBounds_toArray, List.set_cons_succ, List.set_cons_zero])
                              (refine any_take 17 ?_ (by rfl) (by kernel_rfl) (fun _ _ _ _ _ hx => hx.elim) (.inl ⟨by rfl, ?_⟩) (by with_reducible assumption) ?_; rotate_left; (intro X hX; obtain ⟨r1, r2⟩ := Below.rules hX; clear hX; go_simp; rfl); simp only [List.getElem_toArray, List.getElem_cons_succ, List.getElem_cons_zero, Act.put, List.setIfInBounds_toArray, List.set_cons_succ, List.set_cons_zero])
                              (refine any_take 18 ?_ (by rfl) (by kernel_rfl) (fun _ _ _ _ _ hx => hx.elim) (.inl ⟨by rfl, ?_⟩) (by with_reducible assumption) ?_; rotate_left; (intro X hX; obtain ⟨r1, r2⟩ := Below.rules hX; clear hX; go_simp; rfl); simp only [List.getElem_toArray, List.getElem_cons_succ, List.getElem_cons_zero, Act.put, List.setIfInBounds_toArray, List.set_cons_succ, List.set_cons_zero])
                              (refine any_take 19 ?_ (by rfl) (by kernel_rfl) (fun _ _ _ _ _ hx => hx.elim) (.inl ⟨by rfl, ?_⟩) (by with_reducible assumption) ?_; rotate_left; (intro X hX; obtain ⟨r1, r2⟩ := Below.rules hX; clear hX; go_simp; rfl); simp only [List.getElem_toArray, List.getElem_cons_succ, List.getElem_cons_zero, Act.put, List.setIfInBounds_toArray, List.set_cons_succ, List.set_cons_zero])
                              (refine any_take 20 ?_ (by rfl) (by kernel_rfl) (fun _ _ _ _ _ hx => hx.elim) (.inl ⟨by rfl, ?_⟩) (by with_reducible assumption) ?_; rotate_left; (intro X hX; obtain ⟨r1, r2⟩ := Below.rules hX; clear hX; go_simp; rfl); simp only [List.getElem_toArray, List.getElem_cons_succ, List.getElem_cons_zero, Act.put, List.setIfInBounds_toArray, List.set_cons_succ, List.set_cons_zero])
                              (refine any_take 21 ?_ (by rfl) (by kernel_rfl) (fun _ _ _ _ _ hx => hx.elim) (.inl ⟨by rfl, ?_⟩) (by with_reducible assumption) ?_; rotate_left; (intro X hX; obtain ⟨r1, r2⟩ := Below.rules hX; clear hX; go_simp; rfl); simp only [List.getElem_toArray, List.getElem_cons_succ, List.getElem_cons_zero, Act.put, List.setIfInBounds_toArray, List.set_cons_succ, List.set_cons_zero])
                              (refine any_take 22 ?_ (by rfl) (by kernel_rfl) (fun _ _ _ _ _ hx => hx.elim) (.inl ⟨by rfl, ?_⟩) (by with_reducible assumption) ?_; rotate_left; (intro X hX; obtain ⟨r1, r2⟩ := Below.rules hX; clear hX; go_simp; rfl); simp only [List.getElem_toArray, List.getElem_cons_succ, List.getElem_cons_zero, Act.put, List.setIfInBounds_toArray, List.set_cons_succ, List.set_cons_zero])
                              (refine any_take 23 ?_ (by rfl) (by kernel_rfl) (fun _ _ _ _ _ hx => hx.elim) (.inl ⟨by rfl, ?_⟩) (by with_reducible assumption) ?_; rotate_left; (intro X hX; obtain ⟨r1, r2⟩ := Below.rules hX; clear hX; go_simp; rfl); simp only [List.getElem_toArray, List.getElem_cons_succ, List.getElem_cons_zero, Act.put, List.setIfInBounds_toArray, List.set_cons_succ, List.set_cons_zero])
                              (refine any_take 24 ?_ (by rfl) (by kernel_rfl) (fun _ _ _ _ _ hx => hx.elim) (.inl ⟨by rfl, ?_⟩) (by with_reducible assumption) ?_; rotate_left; (intro X hX; obtain ⟨r1, r2⟩ := Below.rules hX; clear hX; go_simp; rfl); simp only [List.getElem_toArray, List.getElem_cons_succ, List.getElem_cons_zero, Act.put, List.setIfInBounds_toArray, List.set_cons_succ, List.set_cons_zero])
                              (refine any_take 25 ?_ (by rfl) (by kernel_rfl) (fun _ _ _ _ _ hx => hx.elim) (.inl ⟨by rfl, ?_⟩) (by with_reducible assumption) ?_; rotate_left; (intro X hX; obtain ⟨r1, r2⟩ := Below.rules hX; clear hX; go_simp; rfl); simp only [List.getElem_toArray, List.getElem_cons_succ, List.getElem_cons_zero, Act.put, List.setIfInBounds_toArray, List.set_cons_succ, List.set_cons_zero])
                              (refine any_take 26 ?_ (by rfl) (by kernel_rfl) (fun _ _ _ _ _ hx => hx.elim) (.inl ⟨by rfl, ?_⟩) (by with_reducible assumption) ?_; rotate_left; (intro X hX; obtain ⟨r1, r2⟩ := Below.rules hX; clear hX; go_simp; rfl); simp only [List.getElem_toArray, List.getElem_cons_succ, List.getElem_cons_zero, Act.put, List.setIfInBounds_toArray, List.set_cons_succ, List.set_cons_zero])
                              (refine any_take 27 ?_ (by rfl) (by kernel_rfl) (fun _ _ _ _ _ hx => hx.elim) (.inl ⟨by rfl, ?_⟩) (by with_reducible assumption) ?_; rotate_left; (intro X hX; obtain ⟨r1, r2⟩ := Below.rules hX; clear hX; go_simp; rfl); simp only [List.getElem_toArray, List.getElem_cons_succ, List.getElem_cons_zero, Act.put, List.setIfInBounds_toArray, List.set_cons_succ, List.set_cons_zero])
                              (refine any_take 28 ?_ (by rfl) (by kernel_rfl) (fun _ _ _ _ _ hx => hx.elim) (.inl ⟨by rfl, ?_⟩) (by with_reducible assumption) ?_; rotate_left; (intro X hX; obtain ⟨r1, r2⟩ := Below.rules hX; clear hX; go_simp; rfl); simp only [List.getElem_toArray, List.getElem_cons_succ, List.getElem_cons_zero, Act.put, List.setIfInBounds_toArray, List.set_cons_succ, List.set_cons_zero])
                              (refine any_take 29 ?_ (by rfl) (by kernel_rfl) (fun _ _ _ _ _ hx => hx.elim) (.inl ⟨by rfl, ?_⟩) (by with_reducible assumption) ?_; rotate_left; (intro X hX; obtain ⟨r1, r2⟩ := Below.rules hX; clear hX; go_simp; rfl); simp only [List.getElem_toArray, List.getElem_cons_succ, List.getElem_cons_zero, Act.put, List.setIfInBounds_toArray, List.set_cons_succ, List.set_cons_zero])
                              (refine any_take 30 ?_ (by rfl) (by kernel_rfl) (fun _ _ _ _ _ hx => hx.elim) (.inl ⟨by rfl, ?_⟩) (by with_reducible assumption) ?_; rotate_left; (intro X hX; obtain ⟨r1, r2⟩ := Below.rules hX; clear hX; go_simp; rfl); simp only [List.getElem_toArray, List.getElem_cons_succ, List.getElem_cons_zero, Act.put, List.setIfInBounds_toArray, List.set_cons_succ, List.set_cons_zero])
                              (refine any_take 31 ?_ (by rfl) (by kernel_rfl) (fun _ _ _ _ _ hx => hx.elim) (.inl ⟨by rfl, ?_⟩) (by with_reducible assumption) ?_; rotate_left; (intro X hX; obtain ⟨r1, r2⟩ := Below.rules hX; clear hX; go_simp; rfl); simp only [List.getElem_toArray, List.getElem_cons_succ, List.getElem_cons_zero, Act.put, List.setIfInBounds_toArray, List.set_cons_succ, List.set_cons_zero])
                              (refine any_take 32 ?_ (by rfl) (by kernel_rfl) (fun _ _ _ _ _ hx => hx.elim) (.inl ⟨by rfl, ?_⟩) (by with_reducible assumption) ?_; rotate_left; (intro X hX; obtain ⟨r1, r2⟩ := Below.rules hX; clear hX; go_simp; rfl); simp only [List.getElem_toArray, List.getElem_cons_succ, List.getElem_cons_zero, Act.put, List.setIfInBounds_toArray, List.set_cons_succ, List.set_cons_zero])
                              (refine any_take 33 ?_ (by rfl) (by kernel_rfl) (fun _ _ _ _ _ hx => hx.elim) (.inl ⟨by rfl, ?_⟩) (by with_reducible assumption) ?_; rotate_left; (intro X hX; obtain ⟨r1, r2⟩ := Below.rules hX; clear hX; go_simp; rfl); simp only [List.getElem_toArray, List.getElem_cons_succ, List.getElem_cons_zero, Act.put, List.setIfInBounds_toArray, List.set_cons_succ, List.set_cons_zero])
                              refine any_run1 (i := 34) (by kernel_rfl) (by rfl) (by kernel_rfl) ?_
                              intro K hK
                              go_wp2_with fail
                              refine hK _ _ (fun hx => (Bool.false_ne_true (hx.symm.trans (by kernel_rfl))).elim) ?_
                              clear hK K
                              refine any_done (by kernel_rfl) (NoPanic.normal ?_)
                              clear hd0
                              go_wp2_with fail
                              go_roundw
                              case rel => exact ⟨v + 1, by omega, by go_num, HL.out, Below.drew HC.out⟩
                              case measure => simp [intOf]; omega
                            · have hkT : v = n := by omega
                              rw [hkT] at hL
                              clear hkT
                              have hL0 : Lb wr (g1 + 1) (fwU n m (u + 1) (fwM n m l0)) := hL
                              have H1 := Lib.hid hL0
                              have H2 := Lib.hid hC
                              clear hL hL0 hC
                              go_wp2_with fail
                              go_roundw
                              case rel => exact ⟨u + 1, by omega, by go_num, H1.out, H2.out⟩
                              case measure => simp [intOf]; omega
                        · have hkT : u = n := by omega
                          rw [hkT] at hL
                          clear hkT
                          have hL0 : Lb wr (g1 + 1) (fwM n (m + 1) l0) := hL
                          have H1 := Lib.hid hL0
                          have H2 := Lib.hid hC
                          clear hL hL0 hC
                          go_wp2_with fail
                          go_roundw
                          case rel => exact ⟨m + 1, by omega, by go_num, H1.out, H2.out⟩
                          case measure => simp [intOf]; omega
                    · have hkT : m = n := by omega
                      rw [hkT] at hL
                      clear hkT
                      have H1 := Lib.hid hL
                      have H2 := Lib.hid hC
                      clear hL hC
                      go_wp2_with fail
                      have H3 : Lb wr (g1 + 1) (fwM n n (initL E ts)) := by rw [HL0.out]; exact H1.out
                      have H4 : w.heap.size ≤ g1 + 1 := by omega
                      first
                       | exact bodyPost_ret (v := .slice (some ⟨g1 + 1, 0, none⟩) N N) (by simp [results, Try.results57, go_sem]) rfl ⟨g1 + 1, rfl, H3, H2.out, H4⟩
                       | (go_ret; exact ⟨g1 + 1, rfl, H3, H2.out, H4⟩)
end Go.Proofs.Ytkljdbgkhghiaaa
