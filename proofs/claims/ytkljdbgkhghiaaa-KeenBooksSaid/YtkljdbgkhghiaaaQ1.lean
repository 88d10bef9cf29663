/- KeenBooks: the walk. KeenBooks answers true for every input: which books are valid, and which numbers are a truth, are as the program computes them what the reference computes. -/
import Derived.Test.YtkljdbgkhghiaaaP27
import Derived.Test.YtkljdbgkhghiaaaP28
import Derived.Test.YtkljdbgkhghiaaaRows
set_option linter.all false
set_option linter.unnecessarySimpa false
set_option linter.unusedSimpArgs false
set_option linter.unusedVariables false
set_option linter.unusedSectionVars false

set_option linter.all false
namespace Go.Proofs.Ytkljdbgkhghiaaa
open Go.RowKit Kp

set_option maxHeartbeats 8000000 in
set_option maxRecDepth 100000 in
theorem keenBooks_any (E : Int) (ts : List Kt) (v : Value) (l : List Int) (u : Value) (w : World) (h : RT w w.heap.size v ts) (hE : okI E) (hts : ∀ t ∈ ts, okT t) (hl : ts.length ≤ maxLen) (hu : RI w w.heap.size u l) (hul : ∀ x ∈ l, okI x) (hll : l.length ≤ maxLen) :
    Calls Try.prog 12 #[.agg #[.int .i64 E, v], u] w fun x w' => x = .returned (.bool true) ∧ Below w.heap.size w w' := by
  obtain ⟨b, off, cap, A, rfl, hAx⟩ := h.slice
  clear hAx
  have hR := h
  clear h
  obtain ⟨n0, hn0⟩ : ∃ n, w.heap.size = n := ⟨_, rfl⟩
  have hC : Below n0 w w := Below.refl _ _
  obtain ⟨A_u, c_u, rfl⟩ : ∃ A c, u = .slice A l.length c := by
    obtain ⟨A, cp, b, off, hv, hl, hA, _⟩ := hu
    exact ⟨A, cp, hv⟩
  clear hul
  clear hE hts
  go_enter Try.func12, Try.ntmps12
  go_wp2_with fail
  have hqbx : n0 ≤ n0 := by have := hC.size; omega
  have bx : BK (w.alloc (.cells #[.int .i64 E, .slice A ts.length cap] 24)) (n0) #[.int .i64 E, .slice A ts.length cap] 24 := BK.new' _ _ _ (n0) hn0
  have hsbx : (w.alloc (.cells #[.int .i64 E, .slice A ts.length cap] 24)).heap.size = n0 + 1 := by simp [hn0]
  replace hC : Below n0 w (w.alloc (.cells #[.int .i64 E, .slice A ts.length cap] 24)) := Below.alloc hC (by have := hC.size; omega) _
  replace hR := (RS.below hR (w' := (w.alloc (.cells #[.int .i64 E, .slice A ts.length cap] 24))) (Below.alloc (Below.refl _ _) (Nat.le_refl _) _)).more (B' := (w.alloc (.cells #[.int .i64 E, .slice A ts.length cap] 24)).heap.size) (by simp)
  replace hu := (RS.below hu (w' := (w.alloc (.cells #[.int .i64 E, .slice A ts.length cap] 24))) (Below.alloc (Below.refl _ _) (Nat.le_refl _) _)).more (B' := (w.alloc (.cells #[.int .i64 E, .slice A ts.length cap] 24)).heap.size) (by simp)
  generalize (w.alloc (.cells #[.int .i64 E, .slice A ts.length cap] 24)) = Wbx at *
  clear hsbx
  refine (great_any E ts _ _ hl hR).mono ?_
  rintro e w1 ⟨rfl, hb⟩
  replace hC : Below n0 w w1 := hC.trans (hb.mono (by have := hC.size; omega))
  replace hR := (RS.below hR hb).more hb.size
  replace hu := (RS.below hu hb).more hb.size
  replace bx := bx.below hb bx.lt
  clear hb
  by_cases h5 : 50 < ts.length
  case pos =>
    rw [decide_eq_true h5]
    clear h5
    go_wp2_with fail
    refine (works_any _).mono ?_
    rintro e w2 ⟨rfl, hb⟩
    replace hC : Below n0 w w2 := hC.trans (hb.mono (by have := hC.size; omega))
    replace hR := (RS.below hR hb).more hb.size
    replace hu := (RS.below hu hb).more hb.size
    replace bx := bx.below hb bx.lt
    clear hb
    go_wp2_with fail
    exact bodyPost_ret (v := .bool true) (by simp [results, Try.results12, go_sem]) rfl ⟨rfl, by first | exact hC | (rw [hn0]; exact hC) | (with_reducible rw [hn0]; exact bel_of) | exact bel_of⟩
  rw [decide_eq_false h5]
  have hl50 : ts.length ≤ 50 := by omega
  by_cases h6 : l.length > 30
  case pos =>
    have h7 : (l.length : Int) > 30 := by omega
    clear h6
    go_wp2_with fail
    refine (works_any _).mono ?_
    rintro e w2 ⟨rfl, hb⟩
    replace hC : Below n0 w w2 := hC.trans (hb.mono (by have := hC.size; omega))
    replace hR := (RS.below hR hb).more hb.size
    replace hu := (RS.below hu hb).more hb.size
    replace bx := bx.below hb bx.lt
    clear hb
    go_wp2_with fail
    exact bodyPost_ret (v := .bool true) (by simp [results, Try.results12, go_sem]) rfl ⟨rfl, by first | exact hC | (rw [hn0]; exact hC) | (with_reducible rw [hn0]; exact bel_of) | exact bel_of⟩
  have hm30 : l.length ≤ 30 := by omega
  have h7 : ¬ (l.length : Int) > 30 := by omega
  clear h6
  have lbx := bx.lt
  have bxc0 := bx.cell 0
  have bxc1 := bx.cell 1
  simp at bxc0 bxc1
  go_upto_region 3 with fail
  refine wp_region_noPanic (plain_any [0, 2, 4, 5, 6, 7, 9, 10, 12, 13, 14, 16] (Below w1.heap.size w1) mixed ?_)
  (refine any_take 0 ?_ (by rfl) (by kernel_rfl) (fun _ _ _ _ _ hx => hx.elim) (.inl ⟨by rfl, ?_⟩) (by exact bel_of) ?_; rotate_left; (intro X hX; obtain ⟨r1, r2⟩ := Below.rules hX; clear hX; go_simp; rfl); simp only [List.getElem_toArray, List.getElem_cons_succ, List.getElem_cons_zero, Act.put, List.setIfInBounds_toArray, List.set_cons_succ, List.set_cons_zero])
  have d0z : Below w1.heap.size w1 w1.drew := by exact bel_of
  (refine any_take 2 ?_ (by rfl) (by kernel_rfl) (fun _ _ _ _ _ hx => hx.elim) (.inl ⟨by rfl, ?_⟩) (by exact bel_of) ?_; rotate_left; (intro X hX; obtain ⟨r1, r2⟩ := Below.rules hX; clear hX; go_simp; rfl); simp only [List.getElem_toArray, List.getElem_cons_succ, List.getElem_cons_zero, Act.put, List.setIfInBounds_toArray, List.set_cons_succ, List.set_cons_zero])
  have qz1 := d0z.size
  refine any_run1 (i := 1) (by kernel_rfl) (by rfl) (by kernel_rfl) ?_
  intro K hK
  go_wp2_with fail
  refine (checkBook_any E ts _ _ (by omega) ((RS.below hR d0z).more d0z.size)).mono ?_
  rintro e vz1 ⟨rfl, hb⟩
  have ez1 : Below w1.heap.size w1 vz1 := d0z.trans (hb.mono d0z.size)
  clear hb
  refine hK _ _ (fun _ => ez1) ?_
  clear hK K
  have qz2 := ez1.size
  refine any_run1 (i := 3) (by kernel_rfl) (by rfl) (by kernel_rfl) ?_
  intro K hK
  go_wp2_with fail
  refine (refBook_any E ts _ _ (by omega) ((RS.below hR ez1).more ez1.size)).mono ?_
  rintro e vz2 ⟨rfl, hb⟩
  have ez2 : Below w1.heap.size w1 vz2 := ez1.trans (hb.mono ez1.size)
  clear hb
  refine hK _ _ (fun _ => ez2) ?_
  clear hK K
  (refine any_take 4 ?_ (by rfl) (by kernel_rfl) (fun _ _ _ _ _ hx => hx.elim) (.inl ⟨by rfl, ?_⟩) (by exact bel_of) ?_; rotate_left; (intro X hX; obtain ⟨r1, r2⟩ := Below.rules hX; clear hX; go_simp; rfl); simp only [List.getElem_toArray, List.getElem_cons_succ, List.getElem_cons_zero, Act.put, List.setIfInBounds_toArray, List.set_cons_succ, List.set_cons_zero])
  (refine any_take 5 ?_ (by rfl) (by kernel_rfl) (fun _ _ _ _ _ hx => hx.elim) (.inl ⟨by rfl, ?_⟩) (by exact bel_of) ?_; rotate_left; (intro X hX; obtain ⟨r1, r2⟩ := Below.rules hX; clear hX; go_simp; rfl); simp only [List.getElem_toArray, List.getElem_cons_succ, List.getElem_cons_zero, Act.put, List.setIfInBounds_toArray, List.set_cons_succ, List.set_cons_zero])
  (refine any_take 6 ?_ (by rfl) (by kernel_rfl) (fun _ _ _ _ _ hx => hx.elim) (.inl ⟨by rfl, ?_⟩) (by exact bel_of) ?_; rotate_left; (intro X hX; obtain ⟨r1, r2⟩ := Below.rules hX; clear hX; go_simp; rfl); simp only [List.getElem_toArray, List.getElem_cons_succ, List.getElem_cons_zero, Act.put, List.setIfInBounds_toArray, List.set_cons_succ, List.set_cons_zero])
  (refine any_take 7 ?_ (by rfl) (by kernel_rfl) (fun _ _ _ _ _ hx => hx.elim) (.inl ⟨by rfl, ?_⟩) (by exact bel_of) ?_; rotate_left; (intro X hX; obtain ⟨r1, r2⟩ := Below.rules hX; clear hX; go_simp; rfl); simp only [List.getElem_toArray, List.getElem_cons_succ, List.getElem_cons_zero, Act.put, List.setIfInBounds_toArray, List.set_cons_succ, List.set_cons_zero])
  (refine any_take 9 ?_ (by rfl) (by kernel_rfl) (fun _ _ _ _ _ hx => hx.elim) (.inl ⟨by rfl, ?_⟩) (by exact bel_of) ?_; rotate_left; (intro X hX; obtain ⟨r1, r2⟩ := Below.rules hX; clear hX; go_simp; rfl); simp only [List.getElem_toArray, List.getElem_cons_succ, List.getElem_cons_zero, Act.put, List.setIfInBounds_toArray, List.set_cons_succ, List.set_cons_zero])
  (refine any_take 10 ?_ (by rfl) (by kernel_rfl) (fun _ _ _ _ _ hx => hx.elim) (.inl ⟨by rfl, ?_⟩) (by exact bel_of) ?_; rotate_left; (intro X hX; obtain ⟨r1, r2⟩ := Below.rules hX; clear hX; go_simp; rfl); simp only [List.getElem_toArray, List.getElem_cons_succ, List.getElem_cons_zero, Act.put, List.setIfInBounds_toArray, List.set_cons_succ, List.set_cons_zero])
  have qz3 := ez2.size
  refine any_run1 (i := 8) (by kernel_rfl) (by rfl) (by kernel_rfl) ?_
  intro K hK
  go_wp2_with fail
  refine (checkTruth_any E ts l _ _ _ (by omega) (by omega) ((RS.below hR ez2).more ez2.size) ((RS.below hu ez2).more ez2.size)).mono ?_
  rintro e vz3 ⟨rfl, hb⟩
  have ez3 : Below w1.heap.size w1 vz3 := ez2.trans (hb.mono ez2.size)
  clear hb
  refine hK _ _ (fun _ => ez3) ?_
  clear hK K
  have qz4 := ez3.size
  refine any_run1 (i := 11) (by kernel_rfl) (by rfl) (by kernel_rfl) ?_
  intro K hK
  go_wp2_with fail
  refine (refTruth_any E ts l _ _ _ (by omega) (by omega) ((RS.below hR ez3).more ez3.size) ((RS.below hu ez3).more ez3.size)).mono ?_
  rintro e vz4 ⟨rfl, hb⟩
  have ez4 : Below w1.heap.size w1 vz4 := ez3.trans (hb.mono ez3.size)
  clear hb
  refine hK _ _ (fun _ => ez4) ?_
  clear hK K
  (refine any_take 12 ?_ (by rfl) (by kernel_rfl) (fun _ _ _ _ _ hx => hx.elim) (.inl ⟨by rfl, ?_⟩) (by exact bel_of) ?_; rotate_left; (intro X hX; obtain ⟨r1, r2⟩ := Below.rules hX; clear hX; go_simp; rfl); simp only [List.getElem_toArray, List.getElem_cons_succ, List.getElem_cons_zero, Act.put, List.setIfInBounds_toArray, List.set_cons_succ, List.set_cons_zero])
  (refine any_take 13 ?_ (by rfl) (by kernel_rfl) (fun _ _ _ _ _ hx => hx.elim) (.inl ⟨by rfl, ?_⟩) (by exact bel_of) ?_; rotate_left; (intro X hX; obtain ⟨r1, r2⟩ := Below.rules hX; clear hX; go_simp; rfl); simp only [List.getElem_toArray, List.getElem_cons_succ, List.getElem_cons_zero, Act.put, List.setIfInBounds_toArray, List.set_cons_succ, List.set_cons_zero])
  (refine any_take 14 ?_ (by rfl) (by kernel_rfl) (fun _ _ _ _ _ hx => hx.elim) (.inl ⟨by rfl, ?_⟩) (by exact bel_of) ?_; rotate_left; (intro X hX; obtain ⟨r1, r2⟩ := Below.rules hX; clear hX; go_simp; rfl); simp only [List.getElem_toArray, List.getElem_cons_succ, List.getElem_cons_zero, Act.put, List.setIfInBounds_toArray, List.set_cons_succ, List.set_cons_zero])
  have qz5 := ez4.size
  refine any_run1 (i := 15) (by kernel_rfl) (by rfl) (by kernel_rfl) ?_
  intro K hK
  go_wp2_with fail
  refine (works_any _).mono ?_
  rintro e vz5 ⟨rfl, hb⟩
  have ez5 : Below w1.heap.size w1 vz5 := ez4.trans (hb.mono ez4.size)
  clear hb
  refine hK _ _ (fun _ => ez5) ?_
  clear hK K
  (refine any_take 16 ?_ (by rfl) (by kernel_rfl) (fun _ _ _ _ _ hx => hx.elim) (.inl ⟨by rfl, ?_⟩) (by exact bel_of) ?_; rotate_left; (intro X hX; obtain ⟨r1, r2⟩ := Below.rules hX; clear hX; go_simp; rfl); simp only [List.getElem_toArray, List.getElem_cons_succ, List.getElem_cons_zero, Act.put, List.setIfInBounds_toArray, List.set_cons_succ, List.set_cons_zero])
  refine any_run1 (i := 17) (by kernel_rfl) (by rfl) (by kernel_rfl) ?_
  intro K hK
  go_wp2_with fail
  refine hK _ _ (fun _ => ez5) ?_
  clear hK K
  refine any_done (by kernel_rfl) (NoPanic.normal ?_)
  have hb := ez5
  replace hC : Below n0 w vz5 := hC.trans (hb.mono (by have := hC.size; omega))
  replace hR := (RS.below hR hb).more hb.size
  replace hu := (RS.below hu hb).more hb.size
  replace bx := bx.below hb bx.lt
  clear hb
  go_wp2_with fail
  exact bodyPost_ret (v := .bool true) (by simp [results, Try.results12, go_sem]) rfl ⟨rfl, by first | exact hC | (rw [hn0]; exact hC) | (with_reducible rw [hn0]; exact bel_of) | exact bel_of⟩
end Go.Proofs.Ytkljdbgkhghiaaa

namespace Go.Proofs.Ytkljdbgkhghiaaa.keenBooks
open Go.ChangeShapes Go.WideShapes Go.ChangeAt Go.RowKit Go.Deep

set_option maxRecDepth 100000 in
theorem lifted (os : Os) (started : os.Started) (H : Type) (enc : TypeId × Value → H) :
    ReturnsInHanded {} Try.checked os 12 .any (Rows.keenBooksSpec.pre6 enc Try.prog Try.f12 Rows.keenBooksRow.domain false) (Rows.keenBooksSpec.post enc Try.prog Try.f12 false true false false) := by
  refine returnsInHanded_of_change (C := Try.checked) own started (by kernel_rfl) Try.func12
    (ChangeSpec.witness6 (enc := enc) (C := Try.checked) false ⟨#[], #[.agg #[.int .i64 0, .slice none 0 0], .slice none 0 0], []⟩ 8 (by kernel_rfl) (by kernel_rfl) (by kernel_rfl) (by kernel_rfl)) ?_
  intro W base args ds gs before hval0 hW hcnd _
  have hval : ∀ (j : Nat) t v, Try.f12.params[j]? = some t → args[j]? = some v → Value.okWide Try.prog W .any base t v := hval0
  have hW2 : DataW.Whole enc Try.prog Try.f12.params.toList Rows.keenBooksSpec.vars false W args.toList ds gs before := hW
  obtain ⟨p, q, hA0, hV, rfl, hfz, hnd⟩ := hW
  have hA : DataW.TrodAll enc Try.prog W 0 (fun _ => true) true Try.f12.params.toList args.toList ds p := hA0
  rw [Try.params12] at hA hval
  obtain ⟨v0, vs0, d0, ds0, p0, q0, hargs, rfl, rfl, h0, r0⟩ := trodAll_cons hA
  obtain ⟨v1, vs1, d1, ds1, p1, q1, rfl, rfl, rfl, h1, r1⟩ := trodAll_cons r0
  obtain ⟨rfl, rfl, rfl⟩ := trodAll_nil r1
  obtain rfl : args = #[v0, v1] := by cases args; simp_all
  obtain ⟨rfl, rfl⟩ := trodVars_none hV
  obtain ⟨E0, s0, l0, rfl, g0, k0, n0, m0⟩ := open_book (hval 0 24 v0 rfl rfl) h0
  obtain ⟨l1, g1, k1, m1⟩ := open_i64s (hval 1 40 v1 rfl rfl) h1
  refine (keenBooks_any (E := E0) (ts := l0) (v := s0) (h := g0) (hE := k0) (hts := n0) (hl := m0) (l := l1) (u := v1) (hu := g1) (hul := k1) (hll := m1) (w := W)).mono fun e W' ⟨he, hg⟩ => ?_
  subst he
  exact ⟨_, rfl, law_done hW2 rfl rfl rfl (by rw [Try.params12]; decide +kernel) hg⟩

theorem over : Rows.keenBooksRow.holds Try.pinned (OpenSpec.ofChange Rows.keenBooksSpec) :=
  OpenClaim.holds_of_wide 12 Try.f12 rfl rfl rfl rfl rfl rfl rfl ⟨rfl, rfl, rfl, rfl, rfl⟩ rfl rfl rfl rfl rfl (by kernel_rfl) Try.func12 (by kernel_rfl)
    (of_decide_eq_true (by kernel_rfl)) (by unfold Func.isWrapper; first | (rw [if_pos (by decide +kernel)]; kernel_rfl) | (rw [if_neg (by decide +kernel)]; exact ⟨rfl, rfl⟩))
    (fun os started H enc _ => lifted os started H enc)

theorem proved : Rows.KeenBooksSaid :=
  over
end Go.Proofs.Ytkljdbgkhghiaaa.keenBooks
namespace Go.Proofs.Ytkljdbgkhghiaaa
theorem keenBooks_proved : Rows.KeenBooksSaid := keenBooks.proved
#print axioms keenBooks_proved
end Go.Proofs.Ytkljdbgkhghiaaa
