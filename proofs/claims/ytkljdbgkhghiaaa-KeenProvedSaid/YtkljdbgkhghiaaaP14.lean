/- Agree, as the reference has it. The span of two edges, by the reference. Plain: the errors of a book whose tests have to agree; what another test tells; which edges can be the sharpest, and which surely are. The errors of a book whose tests have to agree, by the reference. Two, Span and Sharp of the reference. Appends: of a whole slice to an empty one in a block; of an element in a block that is known; what of the memory stays. -/
import Derived.Test.YtkljdbgkhghiaaaP13
import Derived.Test.YtkljdbgkhghiaaaP9
import Derived.Test.YtkljdbgkhghiaaaP12
set_option linter.all false
set_option linter.unnecessarySimpa false
set_option linter.unusedSimpArgs false
set_option linter.unusedVariables false
set_option linter.unusedSectionVars false

namespace Go.Proofs.Ytkljdbgkhghiaaa
open Go.RowKit Kp
set_option maxHeartbeats 8000000 in
set_option maxRecDepth 100000 in
theorem agreeR_any (E : Nat) (ts : List Kt) (v : Value) (w : World) (ho : Okb E ts) (hl : ts.length ≤ 1000) (h : RT w w.heap.size v ts) :
    Calls Try.prog 22 #[.agg #[.int .i64 E, v]] w fun e w' => e = .returned (.bool (decide (Agr E ts))) ∧ Below w.heap.size w w' := by
  have hE := ho.few
  obtain ⟨b, off, cp, A, rfl, hA⟩ := h.slice
  have HR := Lib.hid h
  clear h hA
  obtain ⟨n0, hn0⟩ : ∃ n, w.heap.size = n := ⟨_, rfl⟩
  go_enter Try.func22, Try.ntmps22
  go_wp2_with fail
  have hC : Below w.heap.size w (w.alloc (.cells #[.int .i64 E, .slice A ts.length cp] 24)) := by exact bel_of
  have bB : BK (w.alloc (.cells #[.int .i64 E, .slice A ts.length cp] 24)) n0 #[.int .i64 E, .slice A ts.length cp] 24 := BK.new' _ _ _ n0 hn0
  generalize w.alloc (.cells #[.int .i64 E, .slice A ts.length cp] 24) = W0 at *
  refine (most_any E ts _ _ ho hl ((RS.below HR.out hC).more hC.size)).mono ?_
  rintro x w1 ⟨g, rfl, hL, hb1, hg⟩
  replace hC : Below w.heap.size w w1 := hC.trans (hb1.mono hC.size)
  replace bB := bB.below hb1 bB.lt
  clear hb1
  have y0 := bB.cell 0
  have lB := bB.lt
  simp at y0
  have hlen : (fwM (E + 1) (E + 1) (initL E ts)).length = (E + 1) * (E + 1) := by
    have : ∀ (l : List Kt) (z : List Int), z.length = (E + 1) * (E + 1) → (l.foldl (tmin (E + 1)) z).length = (E + 1) * (E + 1) := by
      intro l
      induction l with
      | nil => intro z hz; exact hz
      | cons t l ih => intro z hz; exact ih _ (by rw [tmin_len]; exact hz)
    rw [fwM_len]
    unfold initL
    exact this _ _ (by rw [i2_len])
  have hD : ∀ u, D E ts u u = nthI (fwM (E + 1) (E + 1) (initL E ts)) (u * (E + 1) + u) := fun u => rfl
  have HD := Lib.hid hD
  clear hD
  generalize fwM (E + 1) (E + 1) (initL E ts) = l0 at *
  obtain ⟨N, hN⟩ : ∃ N, (E + 1) * (E + 1) = N := ⟨_, rfl⟩
  rw [hN] at hlen ⊢
  go_wp2_with fail
  go_loopw [4] (fun iv wr => ∃ k : Nat, k ≤ E + 1 ∧ iv = .int .i64 k ∧ w1 = wr ∧ ∀ j, j < k → 0 ≤ D E ts j j) (fun iv _ => E + 1 - (intOf iv).toNat)
  case atStart => exact ⟨0, Nat.zero_le _, rfl, rfl, fun j hj => absurd hj (by omega)⟩
  case round =>
    obtain ⟨k, hk, rfl, rfl, hj⟩ := hrel
    have HJ := Lib.hid hj
    clear hj
    by_cases hlt : k ≤ E
    · have hq0 := idx_lt (n := E + 1) (u := k) (v := k) (by omega) (by omega)
      obtain ⟨q, hq⟩ : ∃ q, k * (E + 1) + k = q := ⟨_, rfl⟩
      rw [hN, hq] at hq0
      have hqi : (k : Int) * ((E : Int) + 2) = (q : Int) := by rw [← hq, Nat.mul_add]; push_cast; rw [Int.mul_add]; omega
      have hN2 : N ≤ 289 := by rw [← hN]; exact Nat.mul_le_mul (show E + 1 ≤ 17 by omega) (show E + 1 ≤ 17 by omega)
      have wq : IntKind.i64.wrap (q : Int) = q := by rw [IntKind.wrap_i64]; omega
      have c1 := hL.at (i := q) (by rw [hlen]; exact hq0)
      have hDk : D E ts k k = nthI l0 q := by rw [HD.out, hq]
      have HDK := Lib.hid hDk
      clear hDk hq
      by_cases hz : nthI l0 q < 0
      · have HS := Lib.hid (show decide (Agr E ts) = false from decide_eq_false (fun ha => by have := ha k hlt; rw [HDK.out] at this; omega))
        go_wp2_with fail
        exact bodyPost_ret (v := .bool false) (by simp [results, Try.results22, go_sem]) rfl ⟨by rw [HS.out], hC⟩
      · have HZ := Lib.hid (show 0 ≤ D E ts k k by rw [HDK.out]; omega)
        go_wp2_with fail
        go_roundw
        case rel => exact ⟨k + 1, by omega, by go_num, trivial, fun j hj => if h : j = k then h ▸ HZ.out else HJ.out j (by omega)⟩
        case measure => simp [intOf]; omega
    · have hkE : k = E + 1 := by omega
      have HS := Lib.hid (show decide (Agr E ts) = true from decide_eq_true (fun v hv => HJ.out v (by omega)))
      go_wp2_with fail
      exact bodyPost_ret (v := .bool true) (by simp [results, Try.results22, go_sem]) rfl ⟨by rw [HS.out], hC⟩
end Go.Proofs.Ytkljdbgkhghiaaa

namespace Go.Proofs.Ytkljdbgkhghiaaa
open Go.RowKit Kp

theorem fwM_len2 (E : Nat) (ts : List Kt) : (fwM (E + 1) (E + 1) (initL E ts)).length = (E + 1) * (E + 1) := by
  have : ∀ (l : List Kt) (z : List Int), z.length = (E + 1) * (E + 1) → (l.foldl (tmin (E + 1)) z).length = (E + 1) * (E + 1) := by
    intro l
    induction l with
    | nil => intro z hz; exact hz
    | cons t l ih => intro z hz; exact ih _ (by rw [tmin_len]; exact hz)
  rw [fwM_len]
  unfold initL
  exact this _ _ (by rw [i2_len])
theorem rng_D {E : Nat} {ts : List Kt} (ho : Okb E ts) (u v : Nat) : -cap ≤ D E ts u v ∧ D E ts u v ≤ cap := rng_M (E + 1) (rng_init ho) (E + 1) _

set_option maxHeartbeats 8000000 in
set_option maxRecDepth 100000 in
theorem spanR_any (E : Nat) (ts : List Kt) (one two : Nat) (v : Value) (w : World) (ho : Okb E ts) (hl : ts.length ≤ 1000) (h1 : one ≤ E) (h2 : two ≤ E) (h : RT w w.heap.size v ts) :
    Calls Try.prog 62 #[.agg #[.int .i64 E, v], .int .i64 one, .int .i64 two] w fun e w' => e = .returned (spanA E ts one two) ∧ Below w.heap.size w w' := by
  have hE := ho.few
  obtain ⟨n, hn⟩ : ∃ n, E + 1 = n := ⟨_, rfl⟩
  have hni : (E : Int) + 1 = (n : Int) := by omega
  have hn17 : n ≤ 17 := by omega
  have hr1 := rng_D ho one two
  have hr2 := rng_D ho two one
  have hD1 : D E ts one two = nthI (fwM (E + 1) (E + 1) (initL E ts)) (one * (E + 1) + two) := rfl
  have hD2 : D E ts two one = nthI (fwM (E + 1) (E + 1) (initL E ts)) (two * (E + 1) + one) := rfl
  have hlen := fwM_len2 E ts
  have hlt1 := idx_lt (n := E + 1) (u := one) (v := two) (by omega) (by omega)
  have hlt2 := idx_lt (n := E + 1) (u := two) (v := one) (by omega) (by omega)
  have hN2 : (E + 1) * (E + 1) ≤ 289 := Nat.mul_le_mul (show E + 1 ≤ 17 by omega) (show E + 1 ≤ 17 by omega)
  have hpi1 : ∀ x : Nat, (x : Int) * (n : Int) = ((x * (E + 1) : Nat) : Int) := fun x => by rw [hn]; push_cast; rfl
  unfold spanA
  obtain ⟨b, off, cp, A, rfl, hA⟩ := h.slice
  have HR := Lib.hid h
  have HM := Lib.hid (fun W (hW : Below w.heap.size w W) => most_any E ts _ W ho hl ((RS.below h hW).more hW.size))
  clear h hA
  generalize D E ts one two = a at *
  generalize D E ts two one = z at *
  generalize hTe : fwM (E + 1) (E + 1) (initL E ts) = T at *
  have wa : IntKind.i64.wrap (-a) = -a := by rw [IntKind.wrap_i64]; unfold cap at hr1; omega
  have p1 := hpi1 one
  have p2 := hpi1 two
  obtain ⟨N, hN⟩ : ∃ N, (E + 1) * (E + 1) = N := ⟨_, rfl⟩
  obtain ⟨m1, hm1⟩ : ∃ m, one * (E + 1) = m := ⟨_, rfl⟩
  obtain ⟨m2, hm2⟩ : ∃ m, two * (E + 1) = m := ⟨_, rfl⟩
  rw [hm1] at p1 hlt1 hD1
  rw [hm2] at p2 hlt2 hD2
  obtain ⟨q1, hq1⟩ : ∃ q, m1 + two = q := ⟨_, rfl⟩
  obtain ⟨q2, hq2⟩ : ∃ q, m2 + one = q := ⟨_, rfl⟩
  rw [hq1] at hlt1 hD1
  rw [hq2] at hlt2 hD2
  rw [hN] at hlen hlt1 hlt2 hN2 HM
  have s1 : (m1 : Int) + (two : Int) = (q1 : Int) := by omega
  have s2 : (m2 : Int) + (one : Int) = (q2 : Int) := by omega
  have wm1 : IntKind.i64.wrap (m1 : Int) = m1 := by rw [IntKind.wrap_i64]; omega
  have wm2 : IntKind.i64.wrap (m2 : Int) = m2 := by rw [IntKind.wrap_i64]; omega
  have wq1 : IntKind.i64.wrap (q1 : Int) = q1 := by rw [IntKind.wrap_i64]; omega
  have wq2 : IntKind.i64.wrap (q2 : Int) = q2 := by rw [IntKind.wrap_i64]; omega
  have wn : IntKind.i64.wrap (n : Int) = n := by rw [IntKind.wrap_i64]; omega
  clear hpi1 hN hm1 hm2 hq1 hq2 hn hTe hr1 hr2
  obtain ⟨n0, hn0⟩ : ∃ n, w.heap.size = n := ⟨_, rfl⟩
  have hC : Below w.heap.size w w := Below.refl _ _
  go_enter Try.func62, Try.ntmps62
  go_upto_region 1 with fail
  have hC1 : Below w.heap.size w (w.alloc (.cells #[.int .i64 E, .slice A ts.length cp] 24)) := by exact bel_of
  have bB : BK (w.alloc (.cells #[.int .i64 E, .slice A ts.length cp] 24)) n0 #[.int .i64 E, .slice A ts.length cp] 24 := BK.new' _ _ _ n0 hn0
  have hn1 : (w.alloc (.cells #[.int .i64 E, .slice A ts.length cp] 24)).heap.size = n0 + 1 := by simp [hn0]
  generalize w.alloc (.cells #[.int .i64 E, .slice A ts.length cp] 24) = Wa at *
  have hC2 : Below w.heap.size w (Wa.alloc (.cells #[.int .i64 0, .int .i64 0] 36)) := Below.alloc hC1 hC1.size _
  have b6 : BK (Wa.alloc (.cells #[.int .i64 0, .int .i64 0] 36)) (n0 + 1) #[.int .i64 0, .int .i64 0] 36 := BK.new' _ _ _ (n0 + 1) hn1
  replace bB := bB.alloc (.cells #[.int .i64 0, .int .i64 0] 36)
  generalize Wa.alloc (.cells #[.int .i64 0, .int .i64 0] 36) = W0 at *
  have lB := bB.lt
  have y0 := bB.cell 0
  have y1 := bB.cell 1
  simp at y0 y1
  have hd0 : Below W0.heap.size W0 W0.drew := Below.drew (Below.refl _ _)
  refine wp_region_noPanic (plain_any [0, 2, 3, 4] (Below W0.heap.size W0) mixed ?_)
  (refine any_take 0 ?_ (by rfl) (by kernel_rfl) (fun _ _ _ _ _ hx => hx.elim) (.inl ⟨by rfl, ?_⟩) (by exact bel_of) ?_; rotate_left; (intro X hX; obtain ⟨r1, r2⟩ := Below.rules hX; clear hX; go_simp; rfl); simp only [List.getElem_toArray, List.getElem_cons_succ, List.getElem_cons_zero, Act.put, List.setIfInBounds_toArray, List.set_cons_succ, List.set_cons_zero])
  (refine any_take 2 ?_ (by rfl) (by kernel_rfl) (fun _ _ _ _ _ hx => hx.elim) (.inl ⟨by rfl, ?_⟩) (by exact bel_of) ?_; rotate_left; (intro X hX; obtain ⟨r1, r2⟩ := Below.rules hX; clear hX; go_simp; rfl); simp only [List.getElem_toArray, List.getElem_cons_succ, List.getElem_cons_zero, Act.put, List.setIfInBounds_toArray, List.set_cons_succ, List.set_cons_zero])
  (refine any_take 3 ?_ (by rfl) (by kernel_rfl) (fun _ _ _ _ _ hx => hx.elim) (.inl ⟨by rfl, ?_⟩) (by exact bel_of) ?_; rotate_left; (intro X hX; obtain ⟨r1, r2⟩ := Below.rules hX; clear hX; go_simp; rfl); simp only [List.getElem_toArray, List.getElem_cons_succ, List.getElem_cons_zero, Act.put, List.setIfInBounds_toArray, List.set_cons_succ, List.set_cons_zero])
  (refine any_take 4 ?_ (by rfl) (by kernel_rfl) (fun _ _ _ _ _ hx => hx.elim) (.inl ⟨by rfl, ?_⟩) (by exact bel_of) ?_; rotate_left; (intro X hX; obtain ⟨r1, r2⟩ := Below.rules hX; clear hX; go_simp; rfl); simp only [List.getElem_toArray, List.getElem_cons_succ, List.getElem_cons_zero, Act.put, List.setIfInBounds_toArray, List.set_cons_succ, List.set_cons_zero])
  refine any_run1 (i := 1) (by kernel_rfl) (by rfl) (by kernel_rfl) ?_
  intro K3 hK3
  go_wp2_with fail
  refine (HM.out _ (hC2.trans (hd0.mono hC2.size))).mono ?_
  rintro e W1 ⟨g, rfl, hL, hb1, hg⟩
  have hb01 : Below W0.heap.size W0 W1 := hd0.trans hb1
  refine hK3 _ _ (fun _ => hb01) ?_
  clear hK3 K3 y0 y1 lB
  refine any_run1 (i := 5) (by kernel_rfl) (by rfl) (by kernel_rfl) ?_
  intro K3 hK3
  go_wp2_with fail
  refine hK3 _ _ (fun _ => hb01) ?_
  clear hK3 K3
  refine any_run1 (i := 6) (by kernel_rfl) (by rfl) (by kernel_rfl) ?_
  intro K3 hK3
  go_wp2_with fail
  refine hK3 _ _ (fun _ => hb01) ?_
  clear hK3 K3
  refine any_done (by kernel_rfl) (NoPanic.normal ?_)
  have hC3 : Below w.heap.size w W1 := hC2.trans (hb01.mono hC2.size)
  replace b6 := b6.below hb01 b6.lt
  have cx1 := hL.at (i := q1) (by rw [hlen]; exact hlt1)
  have cx2 := hL.at (i := q2) (by rw [hlen]; exact hlt2)
  rw [← hD1] at cx1
  rw [← hD2] at cx2
  have lg := hL.lt
  have l6 := b6.lt
  have z0 := b6.frozen 0
  have z1 := b6.frozen 1
  have y0 := b6.cell 0
  have y1 := b6.cell 1
  simp at y0 y1
  clear hb01 hd0 hb1 hL HM hD1 hD2 hlen bB hC hC2
  go_upto_region 2 with fail
  refine wp_region_noPanic (plain_any [0, 1, 2, 3, 4, 5, 6, 7, 8, 9, 10, 11, 12, 13, 14, 15, 16, 17] (Below W1.heap.size W1) mixed ?_)
  (refine any_take 0 ?_ (by rfl) (by kernel_rfl) (fun _ _ _ _ _ hx => hx.elim) (.inl ⟨by rfl, ?_⟩) (by exact bel_of) ?_; rotate_left; (intro X hX; obtain ⟨r1, r2⟩ := Below.rules hX; clear hX; go_simp; rfl); simp only [List.getElem_toArray, List.getElem_cons_succ, List.getElem_cons_zero, Act.put, List.setIfInBounds_toArray, List.set_cons_succ, List.set_cons_zero])
  (refine any_take 1 ?_ (by rfl) (by kernel_rfl) (fun _ _ _ _ _ hx => hx.elim) (.inl ⟨by rfl, ?_⟩) (by exact bel_of) ?_; rotate_left; (intro X hX; obtain ⟨r1, r2⟩ := Below.rules hX; clear hX; go_simp; rfl); simp only [List.getElem_toArray, List.getElem_cons_succ, List.getElem_cons_zero, Act.put, List.setIfInBounds_toArray, List.set_cons_succ, List.set_cons_zero])
  (refine any_take 2 ?_ (by rfl) (by kernel_rfl) (fun _ _ _ _ _ hx => hx.elim) (.inl ⟨by rfl, ?_⟩) (by exact bel_of) ?_; rotate_left; (intro X hX; obtain ⟨r1, r2⟩ := Below.rules hX; clear hX; go_simp; rfl); simp only [List.getElem_toArray, List.getElem_cons_succ, List.getElem_cons_zero, Act.put, List.setIfInBounds_toArray, List.set_cons_succ, List.set_cons_zero])
  (refine any_take 3 ?_ (by rfl) (by kernel_rfl) (fun _ _ _ _ _ hx => hx.elim) (.inl ⟨by rfl, ?_⟩) (by exact bel_of) ?_; rotate_left; (intro X hX; obtain ⟨r1, r2⟩ := Below.rules hX; clear hX; go_simp; rfl); simp only [List.getElem_toArray, List.getElem_cons_succ, List.getElem_cons_zero, Act.put, List.setIfInBounds_toArray, List.set_cons_succ, List.set_cons_zero])
  (refine any_take 4 ?_ (by rfl) (by kernel_rfl) (fun _ _ _ _ _ hx => hx.elim) (.inl ⟨by rfl, ?_⟩) (by exact bel_of) ?_; rotate_left; (intro X hX; obtain ⟨r1, r2⟩ := Below.rules hX; clear hX; go_simp; rfl); simp only [List.getElem_toArray, List.getElem_cons_succ, List.getElem_cons_zero, Act.put, List.setIfInBounds_toArray, List.set_cons_succ, List.set_cons_zero])
  (refine any_take 5 ?_ (by rfl) (by kernel_rfl) (fun _ _ _ _ _ hx => hx.elim) (.inl ⟨by rfl, ?_⟩) (by exact bel_of) ?_; rotate_left; (intro X hX; obtain ⟨r1, r2⟩ := Below.rules hX; clear hX; go_simp; rfl); simp only [List.getElem_toArray, List.getElem_cons_succ, List.getElem_cons_zero, Act.put, List.setIfInBounds_toArray, List.set_cons_succ, List.set_cons_zero])
  (refine any_take 6 ?_ (by rfl) (by kernel_rfl) (fun _ _ _ _ _ hx => hx.elim) (.inl ⟨by rfl, ?_⟩) (by exact bel_of) ?_; rotate_left; (intro X hX; obtain ⟨r1, r2⟩ := Below.rules hX; clear hX; go_simp; rfl); simp only [List.getElem_toArray, List.getElem_cons_succ, List.getElem_cons_zero, Act.put, List.setIfInBounds_toArray, List.set_cons_succ, List.set_cons_zero])
  (refine any_take 7 ?_ (by rfl) (by kernel_rfl) (fun _ _ _ _ _ hx => hx.elim) (.inl ⟨by rfl, ?_⟩) (by exact bel_of) ?_; rotate_left; (intro X hX; obtain ⟨r1, r2⟩ := Below.rules hX; clear hX; go_simp; rfl); simp only [List.getElem_toArray, List.getElem_cons_succ, List.getElem_cons_zero, Act.put, List.setIfInBounds_toArray, List.set_cons_succ, List.set_cons_zero])
  (refine any_take 8 ?_ (by rfl) (by kernel_rfl) (fun _ _ _ _ _ hx => hx.elim) (.inl ⟨by rfl, ?_⟩) (by exact bel_of) ?_; rotate_left; (intro X hX; obtain ⟨r1, r2⟩ := Below.rules hX; clear hX; go_simp; rfl); simp only [List.getElem_toArray, List.getElem_cons_succ, List.getElem_cons_zero, Act.put, List.setIfInBounds_toArray, List.set_cons_succ, List.set_cons_zero])
  (refine any_take 9 ?_ (by rfl) (by kernel_rfl) (fun _ _ _ _ _ hx => hx.elim) (.inl ⟨by rfl, ?_⟩) (by exact bel_of) ?_; rotate_left; (intro X hX; obtain ⟨r1, r2⟩ := Below.rules hX; clear hX; go_simp; rfl); simp only [List.getElem_toArray, List.getElem_cons_succ, List.getElem_cons_zero, Act.put, List.setIfInBounds_toArray, List.set_cons_succ, List.set_cons_zero])
  (refine any_take 10 ?_ (by rfl) (by kernel_rfl) (fun _ _ _ _ _ hx => hx.elim) (.inl ⟨by rfl, ?_⟩) (by exact bel_of) ?_; rotate_left; (intro X hX; obtain ⟨r1, r2⟩ := Below.rules hX; clear hX; go_simp; rfl); simp only [List.getElem_toArray, List.getElem_cons_succ, List.getElem_cons_zero, Act.put, List.setIfInBounds_toArray, List.set_cons_succ, List.set_cons_zero])
  (refine any_take 11 ?_ (by rfl) (by kernel_rfl) (fun _ _ _ _ _ hx => hx.elim) (.inl ⟨by rfl, ?_⟩) (by exact bel_of) ?_; rotate_left; (intro X hX; obtain ⟨r1, r2⟩ := Below.rules hX; clear hX; go_simp; rfl); simp only [List.getElem_toArray, List.getElem_cons_succ, List.getElem_cons_zero, Act.put, List.setIfInBounds_toArray, List.set_cons_succ, List.set_cons_zero])
  (refine any_take 12 ?_ (by rfl) (by kernel_rfl) (fun _ _ _ _ _ hx => hx.elim) (.inl ⟨by rfl, ?_⟩) (by exact bel_of) ?_; rotate_left; (intro X hX; obtain ⟨r1, r2⟩ := Below.rules hX; clear hX; go_simp; rfl); simp only [List.getElem_toArray, List.getElem_cons_succ, List.getElem_cons_zero, Act.put, List.setIfInBounds_toArray, List.set_cons_succ, List.set_cons_zero])
  (refine any_take 13 ?_ (by rfl) (by kernel_rfl) (fun _ _ _ _ _ hx => hx.elim) (.inl ⟨by rfl, ?_⟩) (by exact bel_of) ?_; rotate_left; (intro X hX; obtain ⟨r1, r2⟩ := Below.rules hX; clear hX; go_simp; rfl); simp only [List.getElem_toArray, List.getElem_cons_succ, List.getElem_cons_zero, Act.put, List.setIfInBounds_toArray, List.set_cons_succ, List.set_cons_zero])
  (refine any_take 14 ?_ (by rfl) (by kernel_rfl) (fun _ _ _ _ _ hx => hx.elim) (.inl ⟨by rfl, ?_⟩) (by exact bel_of) ?_; rotate_left; (intro X hX; obtain ⟨r1, r2⟩ := Below.rules hX; clear hX; go_simp; rfl); simp only [List.getElem_toArray, List.getElem_cons_succ, List.getElem_cons_zero, Act.put, List.setIfInBounds_toArray, List.set_cons_succ, List.set_cons_zero])
  (refine any_take 15 ?_ (by rfl) (by kernel_rfl) (fun _ _ _ _ _ hx => hx.elim) (.inl ⟨by rfl, ?_⟩) (by exact bel_of) ?_; rotate_left; (intro X hX; obtain ⟨r1, r2⟩ := Below.rules hX; clear hX; go_simp; rfl); simp only [List.getElem_toArray, List.getElem_cons_succ, List.getElem_cons_zero, Act.put, List.setIfInBounds_toArray, List.set_cons_succ, List.set_cons_zero])
  (refine any_take 16 ?_ (by rfl) (by kernel_rfl) (fun _ _ _ _ _ hx => hx.elim) (.inl ⟨by rfl, ?_⟩) (by exact bel_of) ?_; rotate_left; (intro X hX; obtain ⟨r1, r2⟩ := Below.rules hX; clear hX; go_simp; rfl); simp only [List.getElem_toArray, List.getElem_cons_succ, List.getElem_cons_zero, Act.put, List.setIfInBounds_toArray, List.set_cons_succ, List.set_cons_zero])
  (refine any_take 17 ?_ (by rfl) (by kernel_rfl) (fun _ _ _ _ _ hx => hx.elim) (.inl ⟨by rfl, ?_⟩) (by exact bel_of) ?_; rotate_left; (intro X hX; obtain ⟨r1, r2⟩ := Below.rules hX; clear hX; go_simp; rfl); simp only [List.getElem_toArray, List.getElem_cons_succ, List.getElem_cons_zero, Act.put, List.setIfInBounds_toArray, List.set_cons_succ, List.set_cons_zero])
  refine any_run1 (i := 18) (by kernel_rfl) (by rfl) (by kernel_rfl) ?_
  intro K3 hK3
  go_wp2_with fail
  refine hK3 _ _ (fun hx => (Bool.false_ne_true (hx.symm.trans (by kernel_rfl))).elim) ?_
  clear hK3 K3
  refine any_done (by kernel_rfl) (NoPanic.normal ?_)
  clear y0 y1
  have b7 := ((b6.set 0 (.int .i64 (-a))).set 1 (.int .i64 z)).drew
  simp at b7
  have hn1w : w.heap.size ≤ n0 + 1 := by omega
  have hC4 : Below w.heap.size w ((W1.setCell ⟨n0 + 1, 0, none⟩ (.int .i64 (-a))).setCell ⟨n0 + 1, 1, none⟩ (.int .i64 z)).drew := (Below.setCell (Below.setCell hC3 hn1w _) hn1w _).drew
  generalize ((W1.setCell ⟨n0 + 1, 0, none⟩ (.int .i64 (-a))).setCell ⟨n0 + 1, 1, none⟩ (.int .i64 z)).drew = W3 at *
  have y0 := b7.cell 0
  have y1 := b7.cell 1
  simp at y0 y1
  go_wp2_with fail
  exact bodyPost_ret (v := .agg #[.int .i64 (-a), .int .i64 z]) (by simp [results, Try.results62, go_sem, y0, y1]) rfl ⟨rfl, by first | exact hC4 | (rw [hn0] at hC4; exact hC4)⟩
end Go.Proofs.Ytkljdbgkhghiaaa

namespace Go.Proofs.Ytkljdbgkhghiaaa
open Kp
/-- The error of a book whose tests have to agree; that of what is asked stands between. -/
def openE (E : Int) (ts : List Kt) (asked : Int) : Int := if bookE E ts ≠ 0 then bookE E ts else if asked ≠ 0 then asked else if Agr E.toNat ts then 0 else 21
section
variable {E : Int} {N : Nat} {ts : List Kt} {a : Int}
theorem openE_bad (h : bookE E ts ≠ 0) : openE E ts a = bookE E ts := by unfold openE; rw [if_pos h]
theorem openE_ask (h : bookE E ts = 0) (ha : a ≠ 0) : openE E ts a = a := by unfold openE; rw [if_neg (by simp [h]), if_pos ha]
theorem openE_agr (h : bookE (N : Int) ts = 0) (ha : a = 0) (hg : Agr N ts) : openE (N : Int) ts a = 0 := by
  unfold openE; rw [if_neg (by simp [h]), if_neg (by simp [ha]), Int.toNat_natCast, if_pos hg]
theorem openE_clash (h : bookE (N : Int) ts = 0) (ha : a = 0) (hg : ¬ Agr N ts) : openE (N : Int) ts a = 21 := by
  unfold openE; rw [if_neg (by simp [h]), if_neg (by simp [ha]), Int.toNat_natCast, if_neg hg]
theorem openE_ok (h : openE E ts a = 0) : ∃ n : Nat, E = n ∧ Okb n ts ∧ ts.length ≤ 40 ∧ a = 0 ∧ Agr n ts ∧ bookE (n : Int) ts = 0 := by
  by_cases h0 : bookE E ts = 0
  · obtain ⟨n, rfl, ho, hl⟩ := bookE_ok h0
    by_cases ha : a = 0
    · by_cases hg : Agr n ts
      · exact ⟨n, rfl, ho, hl, ha, hg, h0⟩
      · rw [openE_clash h0 ha hg] at h; cases h
    · rw [openE_ask h0 ha] at h; exact absurd h ha
  · rw [openE_bad h0] at h; exact absurd h h0
end
/-- The error of two edges that have to be different ones. -/
def twoE (E one two : Int) : Int := if one < 0 ∨ E ≤ one ∨ two < 0 ∨ E ≤ two ∨ one = two then 2 else 0
theorem twoE_bad {E one two : Int} (h : one < 0 ∨ E ≤ one ∨ two < 0 ∨ E ≤ two ∨ one = two) : twoE E one two = 2 := if_pos h
theorem twoE_ok {E one two : Int} (h : ¬ (one < 0 ∨ E ≤ one ∨ two < 0 ∨ E ≤ two ∨ one = two)) : twoE E one two = 0 := if_neg h
theorem twoE_nat {N : Nat} {one two : Int} (h : twoE N one two = 0) : ∃ u v : Nat, one = u ∧ two = v ∧ u < N ∧ v < N ∧ u ≠ v := by
  have hn : ¬ (one < 0 ∨ (N : Int) ≤ one ∨ two < 0 ∨ (N : Int) ≤ two ∨ one = two) := fun hc => by rw [twoE_bad hc] at h; cases h
  exact ⟨one.toNat, two.toNat, by omega, by omega, by omega, by omega, by omega⟩
/-- The error of an edge. -/
def oneE (E v : Int) : Int := if v < 0 ∨ E ≤ v then 2 else 0
theorem oneE_nat {N : Nat} {v : Int} (h : oneE N v = 0) : ∃ u : Nat, v = u ∧ u < N := by
  unfold oneE at h
  split at h
  · cases h
  · exact ⟨v.toNat, by omega, by omega⟩
end Go.Proofs.Ytkljdbgkhghiaaa

namespace Go.Proofs.Ytkljdbgkhghiaaa
open Go.RowKit Kp

set_option maxHeartbeats 8000000 in
set_option maxRecDepth 100000 in
theorem needs_any (E : Int) (ts : List Kt) (v : Value) (w : World) (hl : ts.length ≤ 1000) (h : RT w w.heap.size v ts) :
    Calls Try.prog 65 #[.agg #[.int .i64 E, v]] w fun x w' => x = .returned (.int .i64 (openE E ts 0)) ∧ Below w.heap.size w w' := by
  obtain ⟨b, off, cap, A, rfl, _⟩ := h.slice
  have hR := h
  clear h
  have hC : Below w.heap.size w w := Below.refl _ _
  go_enter Try.func65, Try.ntmps65
  go_wp2_with fail
  have bx : BK (w.alloc (.cells #[.int .i64 E, .slice A ts.length cap] 24)) w.heap.size #[.int .i64 E, .slice A ts.length cap] 24 := BK.new _ _ _
  replace hC : Below w.heap.size w (w.alloc (.cells #[.int .i64 E, .slice A ts.length cap] 24)) := Below.alloc hC hC.size _
  replace hR := (RS.below hR (w' := (w.alloc (.cells #[.int .i64 E, .slice A ts.length cap] 24))) (Below.alloc (Below.refl _ _) (Nat.le_refl _) _)).more (B' := (w.alloc (.cells #[.int .i64 E, .slice A ts.length cap] 24)).heap.size) (by simp)
  generalize (w.alloc (.cells #[.int .i64 E, .slice A ts.length cap] 24)) = Wbx at *
  obtain ⟨gbx, hgbx⟩ : ∃ g, w.heap.size = g := ⟨_, rfl⟩
  rw [hgbx] at bx
  try rw [hgbx]
  have HGbx := Lib.hid hgbx
  clear hgbx
  refine (refBook_any E ts _ _ hl hR).mono ?_
  rintro e w1 ⟨rfl, hb⟩
  replace hC : Below w.heap.size w w1 := hC.trans (hb.mono hC.size)
  replace hR := (RS.below hR hb).more hb.size
  replace bx := bx.below hb bx.lt
  clear hb
  have lbx := bx.lt
  have bxc0 := bx.cell 0
  have bxc1 := bx.cell 1
  simp at bxc0 bxc1
  obtain ⟨e, he⟩ : ∃ e, bookE E ts = e := ⟨_, rfl⟩
  have HE := Lib.hid he
  rw [he]
  clear he
  by_cases h0 : e = 0
  case neg =>
    have b1 : (e != 0) = true := by simp [h0]
    have HS := Lib.hid (show openE E ts 0 = e by rw [openE_bad (by rw [HE.out]; exact h0), HE.out])
    clear h0
    go_wp2_with fail
    clear lbx bxc0 bxc1
    refine (refBook_any E ts _ _ hl hR).mono ?_
    rintro e w2 ⟨rfl, hb⟩
    replace hC : Below w.heap.size w w2 := hC.trans (hb.mono hC.size)
    replace hR := (RS.below hR hb).more hb.size
    replace bx := bx.below hb bx.lt
    clear hb
    rw [HE.out]
    go_wp2_with fail
    exact bodyPost_ret (v := .int .i64 e) (by simp [results, Try.results65, go_sem]) rfl ⟨by rw [HS.out], by first | exact hC | (rw [← HGbx.out]; exact hC) | exact bel_of | (rw [← HGbx.out]; exact bel_of)⟩
  subst h0
  obtain ⟨N, rfl, ho, hl40⟩ := bookE_ok HE.out
  have HO := Lib.hid ho
  clear ho
  go_wp2_with fail
  clear lbx bxc0 bxc1
  refine (agreeR_any N ts _ _ HO.out hl hR).mono ?_
  rintro e w3 ⟨rfl, hb⟩
  replace hC : Below w.heap.size w w3 := hC.trans (hb.mono hC.size)
  replace hR := (RS.below hR hb).more hb.size
  replace bx := bx.below hb bx.lt
  clear hb
  by_cases ha : Agr N ts
  · rw [decide_eq_true ha]
    have HS := Lib.hid (openE_agr HE.out rfl ha)
    clear ha
    go_wp2_with fail
    exact bodyPost_ret (v := .int .i64 0) (by simp [results, Try.results65, go_sem]) rfl ⟨by rw [HS.out], by first | exact hC | (rw [← HGbx.out]; exact hC) | exact bel_of | (rw [← HGbx.out]; exact bel_of)⟩
  · rw [decide_eq_false ha]
    have HS := Lib.hid (openE_clash HE.out rfl ha)
    clear ha
    go_wp2_with fail
    exact bodyPost_ret (v := .int .i64 21) (by simp [results, Try.results65, go_sem]) rfl ⟨by rw [HS.out], by first | exact hC | (rw [← HGbx.out]; exact hC) | exact bel_of | (rw [← HGbx.out]; exact bel_of)⟩
end Go.Proofs.Ytkljdbgkhghiaaa

namespace Go.Proofs.Ytkljdbgkhghiaaa
open Go.RowKit Kp

set_option linter.all false
set_option maxHeartbeats 8000000 in
set_option maxRecDepth 100000 in
theorem two_any (E one two : Int) (ts : List Kt) (v : Value) (w : World) (hl : ts.length ≤ 1000) (h : RT w w.heap.size v ts) :
    Calls Try.prog 61 #[.agg #[.int .i64 E, v], .int .i64 one, .int .i64 two] w fun x w' => x = .returned (.int .i64 (openE E ts (twoE E one two))) ∧ Below w.heap.size w w' := by
  obtain ⟨b, off, cap, A, rfl, _⟩ := h.slice
  have hR := h
  clear h
  have hC : Below w.heap.size w w := Below.refl _ _
  go_enter Try.func61, Try.ntmps61
  go_wp2_with fail
  have bx : BK (w.alloc (.cells #[.int .i64 E, .slice A ts.length cap] 24)) w.heap.size #[.int .i64 E, .slice A ts.length cap] 24 := BK.new _ _ _
  replace hC : Below w.heap.size w (w.alloc (.cells #[.int .i64 E, .slice A ts.length cap] 24)) := Below.alloc hC hC.size _
  replace hR := (RS.below hR (w' := (w.alloc (.cells #[.int .i64 E, .slice A ts.length cap] 24))) (Below.alloc (Below.refl _ _) (Nat.le_refl _) _)).more (B' := (w.alloc (.cells #[.int .i64 E, .slice A ts.length cap] 24)).heap.size) (by simp)
  generalize (w.alloc (.cells #[.int .i64 E, .slice A ts.length cap] 24)) = Wbx at *
  obtain ⟨gbx, hgbx⟩ : ∃ g, w.heap.size = g := ⟨_, rfl⟩
  rw [hgbx] at bx
  try rw [hgbx]
  have HGbx := Lib.hid hgbx
  clear hgbx
  refine (refBook_any E ts _ _ hl hR).mono ?_
  rintro e w1 ⟨rfl, hb⟩
  replace hC : Below w.heap.size w w1 := hC.trans (hb.mono hC.size)
  replace hR := (RS.below hR hb).more hb.size
  replace bx := bx.below hb bx.lt
  clear hb
  have lbx := bx.lt
  have bxc0 := bx.cell 0
  have bxc1 := bx.cell 1
  simp at bxc0 bxc1
  obtain ⟨e, he⟩ : ∃ e, bookE E ts = e := ⟨_, rfl⟩
  have HE := Lib.hid he
  rw [he]
  clear he
  by_cases h0 : e = 0
  case neg =>
    have b1 : (e != 0) = true := by simp [h0]
    have HS := Lib.hid (show openE E ts (twoE E one two) = e by rw [openE_bad (by rw [HE.out]; exact h0), HE.out])
    clear h0
    go_wp2_with fail
    clear lbx bxc0 bxc1
    refine (refBook_any E ts _ _ hl hR).mono ?_
    rintro e w2 ⟨rfl, hb⟩
    replace hC : Below w.heap.size w w2 := hC.trans (hb.mono hC.size)
    replace hR := (RS.below hR hb).more hb.size
    replace bx := bx.below hb bx.lt
    clear hb
    rw [HE.out]
    go_wp2_with fail
    exact bodyPost_ret (v := .int .i64 e) (by simp [results, Try.results61, go_sem]) rfl ⟨by rw [HS.out], by first | exact hC | (rw [← HGbx.out]; exact hC) | exact bel_of | (rw [← HGbx.out]; exact bel_of)⟩
  subst h0
  obtain ⟨N, rfl, ho, hl40⟩ := bookE_ok HE.out
  have HO := Lib.hid ho
  clear ho
  by_cases hb : one < 0 ∨ (N : Int) ≤ one ∨ two < 0 ∨ (N : Int) ≤ two ∨ one = two
  · have HS := Lib.hid (show openE (N : Int) ts (twoE N one two) = 2 by rw [twoE_bad hb, openE_ask HE.out (by decide)])
    have paths : one < 0 ∨ (¬ one < 0 ∧ (N : Int) ≤ one) ∨ (¬ one < 0 ∧ ¬ (N : Int) ≤ one ∧ two < 0) ∨ (¬ one < 0 ∧ ¬ (N : Int) ≤ one ∧ ¬ two < 0 ∧ (N : Int) ≤ two) ∨ (¬ one < 0 ∧ ¬ (N : Int) ≤ one ∧ ¬ two < 0 ∧ ¬ (N : Int) ≤ two ∧ one = two) := by omega
    clear hb
    rcases paths with h1 | ⟨h1, h2⟩ | ⟨h1, h2, h3⟩ | ⟨h1, h2, h3, h4⟩ | ⟨h1, h2, h3, h4, h5⟩
    · skip
      go_wp2_with fail
      exact bodyPost_ret (v := .int .i64 2) (by simp [results, Try.results61, go_sem]) rfl ⟨by rw [HS.out], by first | exact hC | (rw [← HGbx.out]; exact hC) | exact bel_of | (rw [← HGbx.out]; exact bel_of)⟩
    · skip
      go_wp2_with fail
      exact bodyPost_ret (v := .int .i64 2) (by simp [results, Try.results61, go_sem]) rfl ⟨by rw [HS.out], by first | exact hC | (rw [← HGbx.out]; exact hC) | exact bel_of | (rw [← HGbx.out]; exact bel_of)⟩
    · skip
      go_wp2_with fail
      exact bodyPost_ret (v := .int .i64 2) (by simp [results, Try.results61, go_sem]) rfl ⟨by rw [HS.out], by first | exact hC | (rw [← HGbx.out]; exact hC) | exact bel_of | (rw [← HGbx.out]; exact bel_of)⟩
    · skip
      go_wp2_with fail
      exact bodyPost_ret (v := .int .i64 2) (by simp [results, Try.results61, go_sem]) rfl ⟨by rw [HS.out], by first | exact hC | (rw [← HGbx.out]; exact hC) | exact bel_of | (rw [← HGbx.out]; exact bel_of)⟩
    · have b2 : (one == two) = true := beq_iff_eq.2 h5
      clear h5
      go_wp2_with fail
      exact bodyPost_ret (v := .int .i64 2) (by simp [results, Try.results61, go_sem]) rfl ⟨by rw [HS.out], by first | exact hC | (rw [← HGbx.out]; exact hC) | exact bel_of | (rw [← HGbx.out]; exact bel_of)⟩
  · have HS := Lib.hid (show twoE N one two = 0 from twoE_ok hb)
    obtain ⟨h1, h2, h3, h4, h5⟩ : ¬ one < 0 ∧ ¬ (N : Int) ≤ one ∧ ¬ two < 0 ∧ ¬ (N : Int) ≤ two ∧ one ≠ two := by omega
    have b2 : (one == two) = false := beq_eq_false_iff_ne.2 h5
    clear hb h5
    go_wp2_with fail
    clear lbx bxc0 bxc1
    refine (needs_any N ts _ _ hl hR).mono ?_
    rintro e w3 ⟨rfl, hb⟩
    replace hC : Below w.heap.size w w3 := hC.trans (hb.mono hC.size)
    replace hR := (RS.below hR hb).more hb.size
    replace bx := bx.below hb bx.lt
    clear hb
    go_wp2_with fail
    exact bodyPost_ret (v := .int .i64 (openE N ts 0)) (by simp [results, Try.results61, go_sem]) rfl ⟨by rw [HS.out], by first | exact hC | (rw [← HGbx.out]; exact hC) | exact bel_of | (rw [← HGbx.out]; exact bel_of)⟩

/-- The cells of a result that is a range. -/
theorem fin_range {W : World} {g t : Nat} (h : BK W g #[.int .i64 0, .int .i64 0] t) (lo hi : Int) : BK ((W.setCell ⟨g, 0, none⟩ (.int .i64 lo)).setCell ⟨g, 1, none⟩ (.int .i64 hi)) g #[.int .i64 lo, .int .i64 hi] t := by
  have := (h.set 0 (.int .i64 lo)).set 1 (.int .i64 hi)
  simpa using this
/-- The span of two edges, or the error. -/
def spanE (E : Int) (ts : List Kt) (one two : Nat) (e : Int) : Value := if e = 0 then .tuple #[spanA E.toNat ts one two, .int .i64 0] else .tuple #[.agg #[.int .i64 0, .int .i64 0], .int .i64 e]
theorem spanE_bad {E : Int} {ts : List Kt} {one two : Nat} {e : Int} (h : e ≠ 0) : spanE E ts one two e = .tuple #[.agg #[.int .i64 0, .int .i64 0], .int .i64 e] := if_neg h
theorem spanE_ok {N : Nat} {ts : List Kt} {one two : Nat} : spanE (N : Int) ts one two 0 = .tuple #[spanA N ts one two, .int .i64 0] := by unfold spanE; rw [if_pos rfl, Int.toNat_natCast]

end Go.Proofs.Ytkljdbgkhghiaaa

set_option linter.all false
namespace Go.Proofs.Ytkljdbgkhghiaaa
open Go.RowKit Kp

theorem own_keep {W W' : World} {base e e' sz n : Nat} {v : Value} {xs : List Value} (h : W.ownsRow base e sz v n xs) (hk : ∀ k cs t, BK W k cs t → t ≠ e' → BK W' k cs t) (hne : e ≠ e') : W'.ownsRow base e sz v n xs := by
  obtain ⟨hl, h2⟩ := h
  refine ⟨hl, ?_⟩
  rcases h2 with h2 | ⟨g, cap, cur, h3, h4, h5, h6⟩
  · exact .inl h2
  · exact .inr ⟨g, cap, cur, h3, h4, hk _ _ _ h5 hne, h6⟩
/-- What is appended, the element lying in a block that is known. -/
theorem app_b {P : Program} {t e size bytes : Nat} {z : Value} (hinf : (P.info? e).map (fun i => (i.zero, i.size, i.bytes)) = some (some z, size, bytes)) (ht : P.underlying t = some (.slice e)) (hzs : z.cells.size = size) (hsz : 0 < size) (hb1 : bytes ≤ 1000)
    {base n : Nat} {W : World} {xs news : List Value} {v : Value} (hown : W.ownsRow base e size v n xs) {g tn : Nat} (hg : BK W g news.toArray tn) (hl : news.length = size) (h1 : ∀ u ∈ news, u.oneCell' = true) (hn : n ≤ 100000) (hbase : base ≤ W.heap.size) (ty : Nat) :
    ∃ v' w2, (Builtin.append_ #[t, t] ty #[v, .slice (some ⟨g, 0, none⟩) 1 1]).run P W = .ok v' w2 ∧ w2.ownsRow base e size v' (n + 1) (xs ++ news) ∧ (∀ w0, Below base w0 W → Below base w0 w2) ∧ W.heap.size ≤ w2.heap.size ∧ (∀ k cs t, BK W k cs t → t ≠ e → BK w2 k cs t) := by
  obtain ⟨i0, hi0, hz0, hz1, hz2⟩ := info_parts hinf
  obtain ⟨g', cap', w2, hrun, hown', hgr, _⟩ := app1 (P := P) t ty e i0 z size bytes ht hi0 hz0 hz1 hz2 hzs hsz hb1 base W v n xs hown g news tn hg hl h1 hn hbase
  refine ⟨_, w2, hrun, hown', fun w0 hbw => Below.grown hbw hgr hbase fun k hk => (hown.lt k hk).1, hgr.size, ?_⟩
  intro k cs t hk hte
  refine hk.grown hgr ?_
  intro hq
  obtain ⟨c, hc⟩ := own_block hown hq.symm
  unfold BK at hk
  rw [hk] at hc; injection hc with hc; injection hc with _ hc; exact hte hc
theorem app_b_i {T TS : Nat} (hinf : (Try.prog.info? T).map (fun i => (i.zero, i.size, i.bytes)) = some (some (.int .i64 0), 1, 8)) (ht : Try.prog.underlying TS = some (.slice T)) {W : World} {base g tn : Nat} {v : Value} {l : List Int} {x : Int} (h : OwnI T W base v l) (hg : BK W g #[.int .i64 x] tn) (hn : l.length ≤ 100000) (hbase : base ≤ W.heap.size) :
    ∃ v' w2, (Builtin.append_ #[TS, TS] TS #[v, .slice (some ⟨g, 0, none⟩) 1 1]).run Try.prog W = .ok v' w2 ∧ OwnI T w2 base v' (l ++ [x]) ∧ (∀ w0, Below base w0 W → Below base w0 w2) ∧ W.heap.size ≤ w2.heap.size ∧ (∀ k cs t, BK W k cs t → t ≠ T → BK w2 k cs t) := by
  obtain ⟨v', w2, h1, h2, h3⟩ := app_b (news := [.int .i64 x]) hinf ht rfl (by decide) (by decide) h hg rfl (by simp [Value.oneCell']) hn hbase TS
  refine ⟨v', w2, h1, ?_, h3⟩
  unfold OwnI
  rw [← ofI_app, List.length_append]
  exact h2
theorem app_b_kt {W : World} {base g tn : Nat} {v : Value} {l : List Kt} {x : Kt} (h : OwnT W base v l) (hg : BK W g #[.int .i64 x.one, .int .i64 x.two, .int .i64 x.lo, .int .i64 x.hi] tn) (hn : l.length ≤ 100000) (hbase : base ≤ W.heap.size) :
    ∃ v' w2, (Builtin.append_ #[22, 22] 22 #[v, .slice (some ⟨g, 0, none⟩) 1 1]).run Try.prog W = .ok v' w2 ∧ OwnT w2 base v' (l ++ [x]) ∧ (∀ w0, Below base w0 W → Below base w0 w2) ∧ W.heap.size ≤ w2.heap.size ∧ (∀ k cs t, BK W k cs t → t ≠ 56 → BK w2 k cs t) := by
  obtain ⟨v', w2, h1, h2, h3⟩ := app_b (news := encT x) kt_info kt_slice rfl (by decide) (by decide) h hg rfl (by intro u hu; simp [encT] at hu; rcases hu with rfl | rfl | rfl | rfl <;> rfl) hn hbase 22
  refine ⟨v', w2, h1, ?_, h3⟩
  unfold OwnT
  rw [← ofG_app, List.length_append]
  exact h2
theorem app_b_kl {W : World} {base g tn : Nat} {v : Value} {l : List Kl} {x : Kl} (h : OwnL W base v l) (hg : BK W g #[.int .i64 x.src, .int .i64 x.dst, .int .i64 x.tst] tn) (hn : l.length ≤ 100000) (hbase : base ≤ W.heap.size) :
    ∃ v' w2, (Builtin.append_ #[25, 25] 25 #[v, .slice (some ⟨g, 0, none⟩) 1 1]).run Try.prog W = .ok v' w2 ∧ OwnL w2 base v' (l ++ [x]) ∧ (∀ w0, Below base w0 W → Below base w0 w2) ∧ W.heap.size ≤ w2.heap.size ∧ (∀ k cs t, BK W k cs t → t ≠ 44 → BK w2 k cs t) := by
  obtain ⟨v', w2, h1, h2, h3⟩ := app_b (news := encL x) kl_info kl_slice rfl (by decide) (by decide) h hg rfl (by intro u hu; simp [encL] at hu; rcases hu with rfl | rfl | rfl <;> rfl) hn hbase 25
  refine ⟨v', w2, h1, ?_, h3⟩
  unfold OwnL
  rw [← ofG_app, List.length_append]
  exact h2

/-- A list that came in is appended to an empty one in a block. -/
theorem app_src {P : Program} {t e size bytes : Nat} {z : Value} (hinf : (P.info? e).map (fun i => (i.zero, i.size, i.bytes)) = some (some z, size, bytes)) (ht : P.underlying t = some (.slice e)) (hzs : z.cells.size = size) (hsz : 0 < size) (hb1 : bytes ≤ 1000)
    {base B m g : Nat} {W : World} {news : List Value} {src : Value} (hg : BK W g #[] e) (hbg : base ≤ g) (hs : RS W B size src m news) (h1 : ∀ u ∈ news, u.oneCell' = true) (hm : m ≤ 100000) (hbase : base ≤ W.heap.size) (ty : Nat) :
    ∃ v' w2, (Builtin.append_ #[t, t] ty #[.slice (some ⟨g, 0, none⟩) 0 0, src]).run P W = .ok v' w2 ∧ w2.ownsRow base e size v' m news ∧ (∀ w0, Below base w0 W → Below base w0 w2) ∧ W.heap.size ≤ w2.heap.size ∧ (∀ k cs t, BK W k cs t → 0 < cs.size → BK w2 k cs t) := by
  obtain ⟨i0, hi0, hz0, hz1, hz2⟩ := info_parts hinf
  have hown : W.ownsRow base e size (.slice (some ⟨g, 0, none⟩) 0 0) 0 [] := ⟨by simp, .inr ⟨g, 0, #[], rfl, hbg, hg, Nat.le_refl _, by unfold maxLen; omega, by simp, by simp⟩⟩
  have hne : ∀ (k : Nat) (cs : Array Value) (t' : TypeId), BK W k cs t' → 0 < cs.size → some k ≠ (Value.slice (some ⟨g, 0, none⟩) 0 0).ownBlock := by
    intro k cs t' hk hc hq
    have : k = g := by simpa [Value.ownBlock] using hq
    subst this
    unfold BK at hk hg
    rw [hg] at hk
    injection hk with hk
    injection hk with hk _
    subst hk
    simp at hc
  obtain ⟨A, c, b, off, rfl, hl, hA, hc⟩ := hs
  rcases Nat.eq_zero_or_pos m with h0 | h0
  · subst h0
    have hn : news = [] := List.eq_nil_of_length_eq_zero (by simpa using hl.1)
    subst hn
    cases A with
    | none =>
      refine ⟨.slice (some ⟨g, 0, none⟩) 0 0, W, ?_, hown, fun _ h => h, Nat.le_refl _, fun _ _ _ h _ => h⟩
      simp [Builtin.append_, run_underlying ht, sizeOf, typeInfo, hi0, Builtin.lenOf, Builtin.firstCells, storeCells]
    | some ad =>
      obtain ⟨v', w2, hrun, hown', hgr, _, _⟩ := run_append_own_at (P := P) (w := W) base t ty e i0 z size bytes ht hi0 hz0 hz1 hz2 hzs hsz _ 0 [] hown ad 0 c [] (by simp) (fun j u hu => by simp at hu) h1 (by unfold maxLen; omega) (by omega) hbase
      exact ⟨v', w2, hrun, by simpa using hown', fun w0 hbw => Below.grown hbw hgr hbase fun k hk => (hown.lt k hk).1, hgr.size, fun k cs t' hk hcs => hk.grown hgr (hne k cs t' hk hcs)⟩
  · obtain ⟨rfl, hb⟩ := hA (by omega)
    obtain ⟨v', w2, hrun, hown', hgr, _, _⟩ := run_append_own_at (P := P) (w := W) base t ty e i0 z size bytes ht hi0 hz0 hz1 hz2 hzs hsz _ 0 [] hown ⟨b, off, none⟩ m c news hl.1 (fun j u hu => by
      have hj : j < news.length := (List.getElem?_eq_some_iff.1 hu).1
      have e : (⟨b, off, none⟩ : Addr).add j = ⟨b, off + j, none⟩ := by unfold Addr.add; split <;> simp_all
      rw [e, hc j hj]; exact hu) h1 (by unfold maxLen; omega) (by
        have : (0 + m) * bytes ≤ 100000 * 1000 := Nat.mul_le_mul (by omega) hb1
        omega) hbase
    exact ⟨v', w2, hrun, by simpa using hown', fun w0 hbw => Below.grown hbw hgr hbase fun k hk => (hown.lt k hk).1, hgr.size, fun k cs t' hk hcs => hk.grown hgr (hne k cs t' hk hcs)⟩
theorem ofT_one {l : List Kt} : ∀ u ∈ ofG encT l, u.oneCell' = true := by
  intro u hu
  obtain ⟨x, _, hx⟩ := List.mem_flatMap.1 hu
  simp [encT] at hx
  rcases hx with rfl | rfl | rfl | rfl <;> rfl
theorem app_all_kt {base B g : Nat} {W : World} {src : Value} {l : List Kt} (hg : BK W g #[] 56) (hbg : base ≤ g) (hs : RT W B src l) (hm : l.length ≤ 100000) (hbase : base ≤ W.heap.size) :
    ∃ v' w2, (Builtin.append_ #[22, 22] 22 #[.slice (some ⟨g, 0, none⟩) 0 0, src]).run Try.prog W = .ok v' w2 ∧ OwnT w2 base v' l ∧ (∀ w0, Below base w0 W → Below base w0 w2) ∧ W.heap.size ≤ w2.heap.size ∧ (∀ k cs t, BK W k cs t → 0 < cs.size → BK w2 k cs t) :=
  app_src kt_info kt_slice rfl (by decide) (by decide) hg hbg hs ofT_one hm hbase _
end Go.Proofs.Ytkljdbgkhghiaaa
