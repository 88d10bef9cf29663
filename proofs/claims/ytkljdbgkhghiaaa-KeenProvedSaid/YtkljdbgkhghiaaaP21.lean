/- Sharp and Tells of the program. -/
import Derived.Test.YtkljdbgkhghiaaaP20
import Derived.Test.YtkljdbgkhghiaaaP15
import Derived.Test.YtkljdbgkhghiaaaP4
set_option linter.all false
set_option linter.unnecessarySimpa false
set_option linter.unusedSimpArgs false
set_option linter.unusedVariables false
set_option linter.unusedSectionVars false

set_option linter.all false
namespace Go.Proofs.Ytkljdbgkhghiaaa
open Go.RowKit Kp

theorem openX_any {a : Int} (E asked : Int) (ts : List Kt) (v : Value) (w : World) (ha : asked = a) (hl : ts.length ≤ 1000) (h : RT w w.heap.size v ts) :
    Calls Try.prog 58 #[.agg #[.int .i64 E, v], .int .i64 a] w (OpenPost E v ts asked w) := by
  subst ha; exact open_any E asked ts v w hl h

set_option maxHeartbeats 8000000 in
set_option maxRecDepth 100000 in
theorem sharpP_any (E one : Int) (ts : List Kt) (v : Value) (w : World) (hl : ts.length ≤ 1000) (h : RT w w.heap.size v ts) :
    Calls Try.prog 31 #[.agg #[.int .i64 E, v], .int .i64 one] w fun x w' => x = .returned (spanE E ts one.toNat E.toNat (openE E ts (oneE E one))) ∧ Below w.heap.size w w' := by
  obtain ⟨b, off, cap, A, rfl, hAx⟩ := h.slice
  clear hAx
  have hR := h
  clear h
  obtain ⟨n0, hn0⟩ : ∃ n, w.heap.size = n := ⟨_, rfl⟩
  have hC : Below n0 w w := Below.refl _ _
  go_enter Try.func31, Try.ntmps31
  go_upto_region 2 with fail
  have hqbx : n0 ≤ n0 := by have := hC.size; omega
  have bx : BK (w.alloc (.cells #[.int .i64 E, .slice A ts.length cap] 24)) (n0) #[.int .i64 E, .slice A ts.length cap] 24 := BK.new' _ _ _ (n0) hn0
  have hsbx : (w.alloc (.cells #[.int .i64 E, .slice A ts.length cap] 24)).heap.size = n0 + 1 := by simp [hn0]
  replace hC : Below n0 w (w.alloc (.cells #[.int .i64 E, .slice A ts.length cap] 24)) := Below.alloc hC (by have := hC.size; omega) _
  replace hR := (RS.below hR (w' := (w.alloc (.cells #[.int .i64 E, .slice A ts.length cap] 24))) (Below.alloc (Below.refl _ _) (Nat.le_refl _) _)).more (B' := (w.alloc (.cells #[.int .i64 E, .slice A ts.length cap] 24)).heap.size) (by simp)
  generalize (w.alloc (.cells #[.int .i64 E, .slice A ts.length cap] 24)) = Wbx at *
  have hqrs : n0 ≤ n0 + 1 := by have := hC.size; omega
  have rs : BK (Wbx.alloc (.cells #[.int .i64 0, .int .i64 0] 36)) (n0 + 1) #[.int .i64 0, .int .i64 0] 36 := BK.new' _ _ _ (n0 + 1) hsbx
  have hsrs : (Wbx.alloc (.cells #[.int .i64 0, .int .i64 0] 36)).heap.size = n0 + 1 + 1 := by simp [hsbx]
  replace hC : Below n0 w (Wbx.alloc (.cells #[.int .i64 0, .int .i64 0] 36)) := Below.alloc hC (by have := hC.size; omega) _
  replace hR := (RS.below hR (w' := (Wbx.alloc (.cells #[.int .i64 0, .int .i64 0] 36))) (Below.alloc (Below.refl _ _) (Nat.le_refl _) _)).more (B' := (Wbx.alloc (.cells #[.int .i64 0, .int .i64 0] 36)).heap.size) (by simp)
  replace bx := bx.alloc (.cells #[.int .i64 0, .int .i64 0] 36)
  generalize (Wbx.alloc (.cells #[.int .i64 0, .int .i64 0] 36)) = Wrs at *
  clear hsbx
  have lbx := bx.lt
  have bxc0 := bx.cell 0
  have bxc1 := bx.cell 1
  simp at bxc0 bxc1
  have paths : (one < 0 ∧ oneE E one = 2) ∨ (¬ one < 0 ∧ E ≤ one ∧ oneE E one = 2) ∨ (¬ one < 0 ∧ ¬ E ≤ one ∧ oneE E one = 0) := by
    unfold oneE
    by_cases h1 : one < 0
    · exact .inl ⟨h1, if_pos (.inl h1)⟩
    · by_cases h2 : E ≤ one
      · exact .inr (.inl ⟨h1, h2, if_pos (.inr h2)⟩)
      · exact .inr (.inr ⟨h1, h2, if_neg (by omega)⟩)
  rcases paths with ⟨h1, ha⟩ | ⟨h1, h2, ha⟩ | ⟨h1, h2, ha⟩
  all_goals
    have HA := Lib.hid ha
    clear ha
    go_wp2_with fail
    clear lbx bxc0 bxc1
    clear hsrs
    refine (openX_any E (oneE E one) ts _ _ HA.out hl hR).mono ?_
    rintro e w1 ⟨p, rfl, hop, hb⟩
    replace hC : Below n0 w w1 := hC.trans (hb.mono (by have := hC.size; omega))
    replace hR := (RS.below hR hb).more hb.size
    replace bx := bx.below hb bx.lt
    replace rs := rs.below hb rs.lt
    clear hb
    obtain ⟨e, he⟩ : ∃ e, openE E ts (oneE E one) = e := ⟨_, rfl⟩
    have HE := Lib.hid he
    rw [he] at hop ⊢
    clear he
    by_cases h0 : e = 0
    case neg =>
      clear hop
      have b1 : (e != 0) = true := by simp [h0]
      have HS := Lib.hid (spanE_bad (E := E) (ts := ts) (one := one.toNat) (two := E.toNat) h0)
      clear h0
      have lrs := rs.lt
      have rsc0 := rs.cell 0
      have rsc1 := rs.cell 1
      simp at rsc0 rsc1
      have rsf0 := rs.frozen 0
      have rsf1 := rs.frozen 1
      go_wp2_with fail
      clear lrs rsc0 rsc1
      clear rsf0 rsf1
      replace hC : Below n0 w ((w1.setCell ⟨n0 + 1, 0, none⟩ (.int .i64 0)).setCell ⟨n0 + 1, 1, none⟩ (.int .i64 0)) := Below.setCell (Below.setCell hC (by show n0 ≤ n0 + 1; omega) _) (by show n0 ≤ n0 + 1; omega) _
      replace rs := fin_range rs 0 0
      have z0 := rs.cell 0
      have z1 := rs.cell 1
      simp at z0 z1
      exact bodyPost_ret (v := .tuple #[.agg #[.int .i64 0, .int .i64 0], .int .i64 e]) (by simp [results, Try.results31, go_sem, z0, z1]) rfl ⟨by rw [HE.out, HS.out], by first | exact hC | (rw [hn0]; exact hC) | (with_reducible rw [hn0]; exact bel_of) | exact bel_of⟩
  · exact absurd ((openE_ok (HE.out.trans h0)).choose_spec.2.2.2.1.symm.trans HA.out) (by decide)
  · exact absurd ((openE_ok (HE.out.trans h0)).choose_spec.2.2.2.1.symm.trans HA.out) (by decide)
  subst h0
  obtain ⟨N, rfl, ho, hl40, h2, hg, hbk⟩ := openE_ok HE.out
  obtain ⟨u, rfl, hu⟩ := oneE_nat h2
  obtain ⟨gb, rfl, hBn, hgb, hRg⟩ := hop rfl
  rw [Int.toNat_natCast] at hBn
  have HO := Lib.hid ho
  have HG := Lib.hid hg
  clear ho h2 hg hbk hop
  have HS := Lib.hid (spanE_ok (N := N) (ts := ts) (one := u) (two := N))
  have lbx := bx.lt
  have bxc0 := bx.cell 0
  have bxc1 := bx.cell 1
  simp at bxc0 bxc1
  go_wp2_with fail
  clear lbx bxc0 bxc1
  refine (span_any N _ ts _ 0 gb u N _ HO.out HG.out hl40 ⟨Int.le_refl 0, by have := HO.out.pos; omega⟩ (by omega) (by omega) hBn).mono ?_
  rintro e w2 ⟨rfl, hb⟩
  replace hC : Below n0 w w2 := hC.trans (hb.mono (by have := hC.size; omega))
  replace hR := (RS.below hR hb).more hb.size
  replace bx := bx.below hb bx.lt
  replace rs := rs.below hb rs.lt
  clear hb
  have lrs := rs.lt
  have rsc0 := rs.cell 0
  have rsc1 := rs.cell 1
  simp at rsc0 rsc1
  have rsf0 := rs.frozen 0
  have rsf1 := rs.frozen 1
  clear hBn
  unfold spanA at HS ⊢
  generalize D N ts u N = dlo at *
  generalize D N ts N u = dhi at *
  go_wp2_with fail
  clear lrs rsc0 rsc1
  clear rsf0 rsf1
  replace hC : Below n0 w ((w2.setCell ⟨n0 + 1, 0, none⟩ (.int .i64 (-dlo))).setCell ⟨n0 + 1, 1, none⟩ (.int .i64 dhi)) := Below.setCell (Below.setCell hC (by show n0 ≤ n0 + 1; omega) _) (by show n0 ≤ n0 + 1; omega) _
  replace rs := fin_range rs (-dlo) dhi
  have z0 := rs.cell 0
  have z1 := rs.cell 1
  simp at z0 z1
  exact bodyPost_ret (v := .tuple #[.agg #[.int .i64 (-dlo), .int .i64 dhi], .int .i64 0]) (by simp [results, Try.results31, go_sem, z0, z1]) rfl ⟨by rw [HE.out, Int.toNat_natCast, Int.toNat_natCast, HS.out], by first | exact hC | (rw [hn0]; exact hC) | (with_reducible rw [hn0]; exact bel_of) | exact bel_of⟩

set_option maxHeartbeats 8000000 in
set_option maxRecDepth 100000 in
theorem tellsP_any (E : Int) (ts : List Kt) (t : Kt) (v : Value) (w : World) (hl : ts.length ≤ 1000) (h : RT w w.heap.size v ts) :
    Calls Try.prog 39 #[.agg #[.int .i64 E, v], tV t] w fun x w' => x = .returned (tellsV E ts t (openE E ts (testE E t))) ∧ Below w.heap.size w w' := by
  obtain ⟨b, off, cap, A, rfl, hAx⟩ := h.slice
  clear hAx
  have hR := h
  clear h
  obtain ⟨n0, hn0⟩ : ∃ n, w.heap.size = n := ⟨_, rfl⟩
  have hC : Below n0 w w := Below.refl _ _
  obtain ⟨one, two, lo, hi⟩ := t
  unfold tV
  go_enter Try.func39, Try.ntmps39
  go_upto_region 1 with fail
  have hqbx : n0 ≤ n0 := by have := hC.size; omega
  have bx : BK (w.alloc (.cells #[.int .i64 E, .slice A ts.length cap] 24)) (n0) #[.int .i64 E, .slice A ts.length cap] 24 := BK.new' _ _ _ (n0) hn0
  have hsbx : (w.alloc (.cells #[.int .i64 E, .slice A ts.length cap] 24)).heap.size = n0 + 1 := by simp [hn0]
  replace hC : Below n0 w (w.alloc (.cells #[.int .i64 E, .slice A ts.length cap] 24)) := Below.alloc hC (by have := hC.size; omega) _
  replace hR := (RS.below hR (w' := (w.alloc (.cells #[.int .i64 E, .slice A ts.length cap] 24))) (Below.alloc (Below.refl _ _) (Nat.le_refl _) _)).more (B' := (w.alloc (.cells #[.int .i64 E, .slice A ts.length cap] 24)).heap.size) (by simp)
  generalize (w.alloc (.cells #[.int .i64 E, .slice A ts.length cap] 24)) = Wbx at *
  have hqbt : n0 ≤ n0 + 1 := by have := hC.size; omega
  have bt : BK (Wbx.alloc (.cells #[.int .i64 one, .int .i64 two, .int .i64 lo, .int .i64 hi] 56)) (n0 + 1) #[.int .i64 one, .int .i64 two, .int .i64 lo, .int .i64 hi] 56 := BK.new' _ _ _ (n0 + 1) hsbx
  have hsbt : (Wbx.alloc (.cells #[.int .i64 one, .int .i64 two, .int .i64 lo, .int .i64 hi] 56)).heap.size = n0 + 1 + 1 := by simp [hsbx]
  replace hC : Below n0 w (Wbx.alloc (.cells #[.int .i64 one, .int .i64 two, .int .i64 lo, .int .i64 hi] 56)) := Below.alloc hC (by have := hC.size; omega) _
  replace hR := (RS.below hR (w' := (Wbx.alloc (.cells #[.int .i64 one, .int .i64 two, .int .i64 lo, .int .i64 hi] 56))) (Below.alloc (Below.refl _ _) (Nat.le_refl _) _)).more (B' := (Wbx.alloc (.cells #[.int .i64 one, .int .i64 two, .int .i64 lo, .int .i64 hi] 56)).heap.size) (by simp)
  replace bx := bx.alloc (.cells #[.int .i64 one, .int .i64 two, .int .i64 lo, .int .i64 hi] 56)
  generalize (Wbx.alloc (.cells #[.int .i64 one, .int .i64 two, .int .i64 lo, .int .i64 hi] 56)) = Wbt at *
  clear hsbx
  have lbx := bx.lt
  have bxc0 := bx.cell 0
  have bxc1 := bx.cell 1
  simp at bxc0 bxc1
  have lbt := bt.lt
  have btc0 := bt.cell 0
  have btc1 := bt.cell 1
  have btc2 := bt.cell 2
  have btc3 := bt.cell 3
  simp at btc0 btc1 btc2 btc3
  clear hsbt
  refine wp_region_noPanic (plain_any [0, 1, 2, 3, 6, 7, 8] (Below Wbt.heap.size Wbt) mixed ?_)
  (refine any_take 0 ?_ (by rfl) (by kernel_rfl) (fun _ _ _ _ _ hx => hx.elim) (.inl ⟨by rfl, ?_⟩) (by exact bel_of) ?_; rotate_left; (intro X hX; obtain ⟨r1, r2⟩ := Below.rules hX; clear hX; go_simp; rfl); simp only [List.getElem_toArray, List.getElem_cons_succ, List.getElem_cons_zero, Act.put, List.setIfInBounds_toArray, List.set_cons_succ, List.set_cons_zero])
  have d0z : Below Wbt.heap.size Wbt Wbt.drew := by exact bel_of
  (refine any_take 1 ?_ (by rfl) (by kernel_rfl) (fun _ _ _ _ _ hx => hx.elim) (.inl ⟨by rfl, ?_⟩) (by exact bel_of) ?_; rotate_left; (intro X hX; obtain ⟨r1, r2⟩ := Below.rules hX; clear hX; go_simp; rfl); simp only [List.getElem_toArray, List.getElem_cons_succ, List.getElem_cons_zero, Act.put, List.setIfInBounds_toArray, List.set_cons_succ, List.set_cons_zero])
  (refine any_take 2 ?_ (by rfl) (by kernel_rfl) (fun _ _ _ _ _ hx => hx.elim) (.inl ⟨by rfl, ?_⟩) (by exact bel_of) ?_; rotate_left; (intro X hX; obtain ⟨r1, r2⟩ := Below.rules hX; clear hX; go_simp; rfl); simp only [List.getElem_toArray, List.getElem_cons_succ, List.getElem_cons_zero, Act.put, List.setIfInBounds_toArray, List.set_cons_succ, List.set_cons_zero])
  (refine any_take 3 ?_ (by rfl) (by kernel_rfl) (fun _ _ _ _ _ hx => hx.elim) (.inl ⟨by rfl, ?_⟩) (by exact bel_of) ?_; rotate_left; (intro X hX; obtain ⟨r1, r2⟩ := Below.rules hX; clear hX; go_simp; rfl); simp only [List.getElem_toArray, List.getElem_cons_succ, List.getElem_cons_zero, Act.put, List.setIfInBounds_toArray, List.set_cons_succ, List.set_cons_zero])
  have qz1 := d0z.size
  refine any_run1 (i := 4) (by kernel_rfl) (by rfl) (by kernel_rfl) ?_
  intro K hK
  go_wp2_with fail
  refine (checkTestX_any E ⟨one, two, lo, hi⟩ _).mono ?_
  rintro e vz1 ⟨r, rfl, hr, hb⟩
  have ez1 : Below Wbt.heap.size Wbt vz1 := d0z.trans (hb.mono d0z.size)
  clear hb
  refine hK _ _ (fun _ => ez1) ?_
  clear hK K
  have qz2 := ez1.size
  refine any_run1 (i := 5) (by kernel_rfl) (by rfl) (by kernel_rfl) ?_
  intro K hK
  go_wp2_with fail
  refine (open_any E r ts _ _ hl ((RS.below hR ez1).more ez1.size)).mono ?_
  rintro e vz2 ⟨p, rfl, hop, hb⟩
  have ez2 : Below Wbt.heap.size Wbt vz2 := ez1.trans (hb.mono ez1.size)
  clear hb
  refine hK _ _ (fun _ => ez2) ?_
  clear hK K
  (refine any_take 6 ?_ (by rfl) (by kernel_rfl) (fun _ _ _ _ _ hx => hx.elim) (.inl ⟨by rfl, ?_⟩) (by exact bel_of) ?_; rotate_left; (intro X hX; obtain ⟨r1, r2⟩ := Below.rules hX; clear hX; go_simp; rfl); simp only [List.getElem_toArray, List.getElem_cons_succ, List.getElem_cons_zero, Act.put, List.setIfInBounds_toArray, List.set_cons_succ, List.set_cons_zero])
  (refine any_take 7 ?_ (by rfl) (by kernel_rfl) (fun _ _ _ _ _ hx => hx.elim) (.inl ⟨by rfl, ?_⟩) (by exact bel_of) ?_; rotate_left; (intro X hX; obtain ⟨r1, r2⟩ := Below.rules hX; clear hX; go_simp; rfl); simp only [List.getElem_toArray, List.getElem_cons_succ, List.getElem_cons_zero, Act.put, List.setIfInBounds_toArray, List.set_cons_succ, List.set_cons_zero])
  (refine any_take 8 ?_ (by rfl) (by kernel_rfl) (fun _ _ _ _ _ hx => hx.elim) (.inl ⟨by rfl, ?_⟩) (by exact bel_of) ?_; rotate_left; (intro X hX; obtain ⟨r1, r2⟩ := Below.rules hX; clear hX; go_simp; rfl); simp only [List.getElem_toArray, List.getElem_cons_succ, List.getElem_cons_zero, Act.put, List.setIfInBounds_toArray, List.set_cons_succ, List.set_cons_zero])
  refine any_run1 (i := 9) (by kernel_rfl) (by rfl) (by kernel_rfl) ?_
  intro K hK
  go_wp2_with fail
  refine hK _ _ (fun _ => ez2) ?_
  clear hK K
  refine any_run1 (i := 10) (by kernel_rfl) (by rfl) (by kernel_rfl) ?_
  intro K hK
  go_wp2_with fail
  refine hK _ _ (fun _ => ez2) ?_
  clear hK K
  refine any_done (by kernel_rfl) (NoPanic.normal ?_)
  have hb := ez2
  replace hC : Below n0 w vz2 := hC.trans (hb.mono (by have := hC.size; omega))
  replace hR := (RS.below hR hb).more hb.size
  replace bx := bx.below hb bx.lt
  replace bt := bt.below hb bt.lt
  clear hb
  clear lbx bxc0 bxc1
  clear lbt btc0 btc1 btc2 btc3
  obtain ⟨e, he⟩ : ∃ e, openE E ts r = e := ⟨_, rfl⟩
  have HE := Lib.hid ((openE_congr hr).symm.trans he)
  rw [he] at hop ⊢
  clear he hr
  by_cases h0 : e = 0
  case neg =>
    clear hop
    have b1 : (e != 0) = true := by simp [h0]
    have HS := Lib.hid (tellsV_bad (E := E) (ts := ts) (t := ⟨one, two, lo, hi⟩) h0)
    clear h0
    go_wp2_with fail
    exact bodyPost_ret (v := .tuple #[.int .i64 0, .int .i64 e]) (by simp [results, Try.results39, go_sem]) rfl ⟨by rw [HE.out, HS.out], by first | exact hC | (rw [hn0]; exact hC) | (with_reducible rw [hn0]; exact bel_of) | exact bel_of⟩
  subst h0
  obtain ⟨N, rfl, ho, hl40, h2, hg, hbk⟩ := openE_ok HE.out
  have HO2 := Lib.hid (okb_snoc ho h2)
  obtain ⟨t1, t2, t3, t4, t5, t6, t7, t8⟩ := testE_ok h2
  dsimp only at t1 t2 t3 t4 t5 t6 t7 t8
  obtain ⟨u, rfl⟩ : ∃ u : Nat, one = u := ⟨one.toNat, by omega⟩
  obtain ⟨v, rfl⟩ : ∃ v : Nat, two = v := ⟨two.toNat, by omega⟩
  obtain ⟨gb, rfl, hBn, hgb, hRg⟩ := hop rfl
  rw [Int.toNat_natCast] at hBn
  have HO := Lib.hid ho
  have HG := Lib.hid hg
  clear ho h2 hg hbk hop t1 t3 t5 t6 t7 t8
  have HS := Lib.hid (tellsV_ok (N := N) (ts := ts) (t := ⟨u, v, lo, hi⟩))
  have hq : tellsP N ts ⟨u, v, lo, hi⟩ = if hi < -D N ts u v ∨ D N ts v u < lo then 2 else if lo ≤ -D N ts u v ∧ D N ts v u ≤ hi then 0 else 1 := by
    have hi2 := tells_iff HO.out HG.out HO2.out
    dsimp only at hi2
    rw [Int.toNat_natCast, Int.toNat_natCast] at hi2
    unfold tellsP
    dsimp only
    rw [Int.toNat_natCast, Int.toNat_natCast]
    by_cases hc : hi < -D N ts u v ∨ D N ts v u < lo
    · rw [if_neg (fun h => by have := hi2.1 h; omega), if_pos hc]
    · rw [if_pos (hi2.2 (by omega)), if_neg hc]
  go_upto_region 4 with fail
  have lbt := bt.lt
  have btc0 := bt.cell 0
  have btc1 := bt.cell 1
  have btc2 := bt.cell 2
  have btc3 := bt.cell 3
  simp at btc0 btc1 btc2 btc3
  have hSP := fun W (hb : Below vz2.heap.size vz2 W) => span_any N _ ts _ 0 gb u v W HO.out HG.out hl40 ⟨Int.le_refl 0, by have := HO.out.pos; omega⟩ (by omega) (by omega) (hBn.below hb)
  unfold spanA at hSP
  generalize -D N ts u v = dlo at *
  generalize D N ts v u = dhi at *
  have HSP := Lib.hid hSP
  have HQ := Lib.hid hq
  clear hSP hq hBn
  apply region_cut (R := fun x y W => Below n0 w W ∧ BK W x #[.int .i64 dlo, .int .i64 dhi] 36 ∧ BK W y #[.int .i64 lo, .int .i64 hi] 36)
  case h =>
    have d0n : Below vz2.heap.size vz2 vz2.drew := by exact bel_of
    refine wp_region_noPanic (plain_any [0, 1, 2, 3, 4, 6, 7] (Below vz2.heap.size vz2) mixed ?_)
    (refine any_take 0 ?_ (by rfl) (by kernel_rfl) (fun _ _ _ _ _ hx => hx.elim) (.inl ⟨by rfl, ?_⟩) (by with_reducible assumption) ?_; rotate_left; (intro X hX; obtain ⟨r1, r2⟩ := Below.rules hX; clear hX; go_simp; rfl); simp only [List.getElem_toArray, List.getElem_cons_succ, List.getElem_cons_zero, Act.put, List.setIfInBounds_toArray, List.set_cons_succ, List.set_cons_zero])
    (refine any_take 1 ?_ (by rfl) (by kernel_rfl) (fun _ _ _ _ _ hx => hx.elim) (.inl ⟨by rfl, ?_⟩) (by with_reducible assumption) ?_; rotate_left; (intro X hX; obtain ⟨r1, r2⟩ := Below.rules hX; clear hX; go_simp; rfl); simp only [List.getElem_toArray, List.getElem_cons_succ, List.getElem_cons_zero, Act.put, List.setIfInBounds_toArray, List.set_cons_succ, List.set_cons_zero])
    (refine any_take 2 ?_ (by rfl) (by kernel_rfl) (fun _ _ _ _ _ hx => hx.elim) (.inl ⟨by rfl, ?_⟩) (by with_reducible assumption) ?_; rotate_left; (intro X hX; obtain ⟨r1, r2⟩ := Below.rules hX; clear hX; go_simp; rfl); simp only [List.getElem_toArray, List.getElem_cons_succ, List.getElem_cons_zero, Act.put, List.setIfInBounds_toArray, List.set_cons_succ, List.set_cons_zero])
    (refine any_take 3 ?_ (by rfl) (by kernel_rfl) (fun _ _ _ _ _ hx => hx.elim) (.inl ⟨by rfl, ?_⟩) (by with_reducible assumption) ?_; rotate_left; (intro X hX; obtain ⟨r1, r2⟩ := Below.rules hX; clear hX; go_simp; rfl); simp only [List.getElem_toArray, List.getElem_cons_succ, List.getElem_cons_zero, Act.put, List.setIfInBounds_toArray, List.set_cons_succ, List.set_cons_zero])
    (refine any_take 4 ?_ (by rfl) (by kernel_rfl) (fun _ _ _ _ _ hx => hx.elim) (.inl ⟨by rfl, ?_⟩) (by with_reducible assumption) ?_; rotate_left; (intro X hX; obtain ⟨r1, r2⟩ := Below.rules hX; clear hX; go_simp; rfl); simp only [List.getElem_toArray, List.getElem_cons_succ, List.getElem_cons_zero, Act.put, List.setIfInBounds_toArray, List.set_cons_succ, List.set_cons_zero])
    (refine any_take 6 ?_ (by rfl) (by kernel_rfl) (fun _ _ _ _ _ hx => hx.elim) (.inl ⟨by rfl, ?_⟩) (by with_reducible assumption) ?_; rotate_left; (intro X hX; obtain ⟨r1, r2⟩ := Below.rules hX; clear hX; go_simp; rfl); simp only [List.getElem_toArray, List.getElem_cons_succ, List.getElem_cons_zero, Act.put, List.setIfInBounds_toArray, List.set_cons_succ, List.set_cons_zero])
    (refine any_take 7 ?_ (by rfl) (by kernel_rfl) (fun _ _ _ _ _ hx => hx.elim) (.inl ⟨by rfl, ?_⟩) (by with_reducible assumption) ?_; rotate_left; (intro X hX; obtain ⟨r1, r2⟩ := Below.rules hX; clear hX; go_simp; rfl); simp only [List.getElem_toArray, List.getElem_cons_succ, List.getElem_cons_zero, Act.put, List.setIfInBounds_toArray, List.set_cons_succ, List.set_cons_zero])
    have dn1 : Below vz2.heap.size vz2 vz2.drew := by exact bel_of
    have hdr : Below vz2.heap.size vz2 vz2.drew := Below.drew (Below.refl _ _)
    clear hdr
    generalize vz2.drew = un2 at *
    refine any_run3 (i := 5) (j := 8) (k := 9) (by kernel_rfl) (by rfl) (by rfl) (by rfl) (by rfl) (by rfl) (by rfl) ?_ ?_ ?_
    ·skip
     intro K hK
     have qn5 := dn1.size
     go_wp2_with fail
     refine (HSP.out _ dn1).mono ?_
     rintro e vn4 ⟨rfl, hb⟩
     have en3 : Below vz2.heap.size vz2 vn4 := dn1.trans (hb.mono dn1.size)
     clear hb
     refine hK _ _ (fun _ => en3) ?_
     clear hK K
     refine any_run2 (i := 8) (j := 9) (by kernel_rfl) (by rfl) (by rfl) (by rfl) (by rfl) ?_ ?_
     ·skip
      intro K hK
      have qn7 := en3.size
      have en6 : Below vz2.heap.size vz2 (vn4.alloc (.cells #[.int .i64 0, .int .i64 0] 36)) := Below.alloc en3 en3.size _
      have hnx : Below vn4.heap.size vn4 (vn4.alloc (.cells #[.int .i64 0, .int .i64 0] 36)) := Below.alloc (Below.refl _ _) (Nat.le_refl _) _
      go_wp2_with fail
      have bU : BK (vn4.alloc (.cells #[.int .i64 0, .int .i64 0] 36)) vn4.heap.size #[.int .i64 0, .int .i64 0] 36 := BK.new _ _ _
      refine hK _ _ (fun _ => en6) ?_
      clear hK K hnx
      generalize (vn4.alloc (.cells #[.int .i64 0, .int .i64 0] 36)) = vn8 at *
      obtain ⟨gbU, hgbU⟩ : ∃ g, vn4.heap.size = g := ⟨_, rfl⟩
      have hqbU : vz2.heap.size ≤ gbU := by omega
      rw [hgbU] at bU
      try rw [hgbU]
      clear hgbU
      refine any_run1 (i := 9) (by kernel_rfl) (by rfl) (by kernel_rfl) ?_
      intro K hK
      have qn10 := en6.size
      have en9 : Below vz2.heap.size vz2 (vn8.alloc (.cells #[.int .i64 0, .int .i64 0] 36)) := Below.alloc en6 en6.size _
      have hnx : Below vn8.heap.size vn8 (vn8.alloc (.cells #[.int .i64 0, .int .i64 0] 36)) := Below.alloc (Below.refl _ _) (Nat.le_refl _) _
      go_wp2_with fail
      have nebUbV : gbU ≠ vn8.heap.size := Nat.ne_of_lt bU.lt
      replace bU := bU.below hnx bU.lt
      have bV : BK (vn8.alloc (.cells #[.int .i64 0, .int .i64 0] 36)) vn8.heap.size #[.int .i64 0, .int .i64 0] 36 := BK.new _ _ _
      refine hK _ _ (fun _ => en9) ?_
      clear hK K hnx
      generalize (vn8.alloc (.cells #[.int .i64 0, .int .i64 0] 36)) = vn11 at *
      obtain ⟨gbV, hgbV⟩ : ∃ g, vn8.heap.size = g := ⟨_, rfl⟩
      have hqbV : vz2.heap.size ≤ gbV := by omega
      rw [hgbV] at bV nebUbV
      try rw [hgbV]
      clear hgbV
      refine any_run1 (i := 10) (by kernel_rfl) (by rfl) (by kernel_rfl) ?_
      intro K hK
      have lbU := bU.lt
      have y0 := bU.cell 0
      have f0 := bU.frozen 0
      have y1 := bU.cell 1
      have f1 := bU.frozen 1
      simp at y0 y1
      go_wp2_with fail
      have en12 : Below vz2.heap.size vz2 ((vn11.setCell ⟨gbU, 0, none⟩ (.int .i64 dlo)).setCell ⟨gbU, 1, none⟩ (.int .i64 dhi)) := by exact bel_of
      have bV_ : BK ((vn11.setCell ⟨gbU, 0, none⟩ (.int .i64 dlo)).setCell ⟨gbU, 1, none⟩ (.int .i64 dhi)) gbV _ _ := (BK.far (BK.far bV (p := ⟨gbU, 0, none⟩) (by first | assumption | exact Ne.symm (by assumption)) _) (p := ⟨gbU, 1, none⟩) (by first | assumption | exact Ne.symm (by assumption)) _); clear bV; have bV := bV_; clear bV_
      have bU_ := ((bU.set 0 (.int .i64 dlo)).set 1 (.int .i64 dhi))
      simp at bU_
      clear bU; have bU := bU_; clear bU_
      clear y0 f0 y1 f1
      refine hK _ _ (fun _ => en12) ?_
      clear hK K
      generalize ((vn11.setCell ⟨gbU, 0, none⟩ (.int .i64 dlo)).setCell ⟨gbU, 1, none⟩ (.int .i64 dhi)) = vn13 at *
      refine any_run1 (i := 11) (by kernel_rfl) (by rfl) (by kernel_rfl) ?_
      intro K hK
      have lbV := bV.lt
      have y0 := bV.cell 0
      have f0 := bV.frozen 0
      have y1 := bV.cell 1
      have f1 := bV.frozen 1
      simp at y0 y1
      go_wp2_with fail
      have en14 : Below vz2.heap.size vz2 ((vn13.setCell ⟨gbV, 0, none⟩ (.int .i64 lo)).setCell ⟨gbV, 1, none⟩ (.int .i64 hi)) := by exact bel_of
      have bU_ : BK ((vn13.setCell ⟨gbV, 0, none⟩ (.int .i64 lo)).setCell ⟨gbV, 1, none⟩ (.int .i64 hi)) gbU _ _ := (BK.far (BK.far bU (p := ⟨gbV, 0, none⟩) (by first | assumption | exact Ne.symm (by assumption)) _) (p := ⟨gbV, 1, none⟩) (by first | assumption | exact Ne.symm (by assumption)) _); clear bU; have bU := bU_; clear bU_
      have bV_ := ((bV.set 0 (.int .i64 lo)).set 1 (.int .i64 hi))
      simp at bV_
      clear bV; have bV := bV_; clear bV_
      clear y0 f0 y1 f1
      refine hK _ _ (fun _ => en14) ?_
      clear hK K
      generalize ((vn13.setCell ⟨gbV, 0, none⟩ (.int .i64 lo)).setCell ⟨gbV, 1, none⟩ (.int .i64 hi)) = vn15 at *
      refine any_done (by kernel_rfl) (NoPanic.normal ?_)
      exact ⟨gbU, gbV, rfl, rfl, hC.trans (en14.mono (by have := hC.size; omega)), bU, bV⟩
     ·skip
      intro K hK
      have qn17 := en3.size
      have en16 : Below vz2.heap.size vz2 (vn4.alloc (.cells #[.int .i64 0, .int .i64 0] 36)) := Below.alloc en3 en3.size _
      have hnx : Below vn4.heap.size vn4 (vn4.alloc (.cells #[.int .i64 0, .int .i64 0] 36)) := Below.alloc (Below.refl _ _) (Nat.le_refl _) _
      go_wp2_with fail
      have bV : BK (vn4.alloc (.cells #[.int .i64 0, .int .i64 0] 36)) vn4.heap.size #[.int .i64 0, .int .i64 0] 36 := BK.new _ _ _
      refine hK _ _ (fun _ => en16) ?_
      clear hK K hnx
      generalize (vn4.alloc (.cells #[.int .i64 0, .int .i64 0] 36)) = vn18 at *
      obtain ⟨gbV, hgbV⟩ : ∃ g, vn4.heap.size = g := ⟨_, rfl⟩
      have hqbV : vz2.heap.size ≤ gbV := by omega
      rw [hgbV] at bV
      try rw [hgbV]
      clear hgbV
      refine any_run1 (i := 8) (by kernel_rfl) (by rfl) (by kernel_rfl) ?_
      intro K hK
      have qn20 := en16.size
      have en19 : Below vz2.heap.size vz2 (vn18.alloc (.cells #[.int .i64 0, .int .i64 0] 36)) := Below.alloc en16 en16.size _
      have hnx : Below vn18.heap.size vn18 (vn18.alloc (.cells #[.int .i64 0, .int .i64 0] 36)) := Below.alloc (Below.refl _ _) (Nat.le_refl _) _
      go_wp2_with fail
      have nebVbU : gbV ≠ vn18.heap.size := Nat.ne_of_lt bV.lt
      replace bV := bV.below hnx bV.lt
      have bU : BK (vn18.alloc (.cells #[.int .i64 0, .int .i64 0] 36)) vn18.heap.size #[.int .i64 0, .int .i64 0] 36 := BK.new _ _ _
      refine hK _ _ (fun _ => en19) ?_
      clear hK K hnx
      generalize (vn18.alloc (.cells #[.int .i64 0, .int .i64 0] 36)) = vn21 at *
      obtain ⟨gbU, hgbU⟩ : ∃ g, vn18.heap.size = g := ⟨_, rfl⟩
      have hqbU : vz2.heap.size ≤ gbU := by omega
      rw [hgbU] at bU nebVbU
      try rw [hgbU]
      clear hgbU
      refine any_run1 (i := 10) (by kernel_rfl) (by rfl) (by kernel_rfl) ?_
      intro K hK
      have lbU := bU.lt
      have y0 := bU.cell 0
      have f0 := bU.frozen 0
      have y1 := bU.cell 1
      have f1 := bU.frozen 1
      simp at y0 y1
      go_wp2_with fail
      have en22 : Below vz2.heap.size vz2 ((vn21.setCell ⟨gbU, 0, none⟩ (.int .i64 dlo)).setCell ⟨gbU, 1, none⟩ (.int .i64 dhi)) := by exact bel_of
      have bV_ : BK ((vn21.setCell ⟨gbU, 0, none⟩ (.int .i64 dlo)).setCell ⟨gbU, 1, none⟩ (.int .i64 dhi)) gbV _ _ := (BK.far (BK.far bV (p := ⟨gbU, 0, none⟩) (by first | assumption | exact Ne.symm (by assumption)) _) (p := ⟨gbU, 1, none⟩) (by first | assumption | exact Ne.symm (by assumption)) _); clear bV; have bV := bV_; clear bV_
      have bU_ := ((bU.set 0 (.int .i64 dlo)).set 1 (.int .i64 dhi))
      simp at bU_
      clear bU; have bU := bU_; clear bU_
      clear y0 f0 y1 f1
      refine hK _ _ (fun _ => en22) ?_
      clear hK K
      generalize ((vn21.setCell ⟨gbU, 0, none⟩ (.int .i64 dlo)).setCell ⟨gbU, 1, none⟩ (.int .i64 dhi)) = vn23 at *
      refine any_run1 (i := 11) (by kernel_rfl) (by rfl) (by kernel_rfl) ?_
      intro K hK
      have lbV := bV.lt
      have y0 := bV.cell 0
      have f0 := bV.frozen 0
      have y1 := bV.cell 1
      have f1 := bV.frozen 1
      simp at y0 y1
      go_wp2_with fail
      have en24 : Below vz2.heap.size vz2 ((vn23.setCell ⟨gbV, 0, none⟩ (.int .i64 lo)).setCell ⟨gbV, 1, none⟩ (.int .i64 hi)) := by exact bel_of
      have bU_ : BK ((vn23.setCell ⟨gbV, 0, none⟩ (.int .i64 lo)).setCell ⟨gbV, 1, none⟩ (.int .i64 hi)) gbU _ _ := (BK.far (BK.far bU (p := ⟨gbV, 0, none⟩) (by first | assumption | exact Ne.symm (by assumption)) _) (p := ⟨gbV, 1, none⟩) (by first | assumption | exact Ne.symm (by assumption)) _); clear bU; have bU := bU_; clear bU_
      have bV_ := ((bV.set 0 (.int .i64 lo)).set 1 (.int .i64 hi))
      simp at bV_
      clear bV; have bV := bV_; clear bV_
      clear y0 f0 y1 f1
      refine hK _ _ (fun _ => en24) ?_
      clear hK K
      generalize ((vn23.setCell ⟨gbV, 0, none⟩ (.int .i64 lo)).setCell ⟨gbV, 1, none⟩ (.int .i64 hi)) = vn25 at *
      refine any_done (by kernel_rfl) (NoPanic.normal ?_)
      exact ⟨gbU, gbV, rfl, rfl, hC.trans (en24.mono (by have := hC.size; omega)), bU, bV⟩
    ·skip
     intro K hK
     have qn27 := dn1.size
     have en26 : Below vz2.heap.size vz2 (un2.alloc (.cells #[.int .i64 0, .int .i64 0] 36)) := Below.alloc dn1 dn1.size _
     have hnx : Below un2.heap.size un2 (un2.alloc (.cells #[.int .i64 0, .int .i64 0] 36)) := Below.alloc (Below.refl _ _) (Nat.le_refl _) _
     go_wp2_with fail
     have bU : BK (un2.alloc (.cells #[.int .i64 0, .int .i64 0] 36)) un2.heap.size #[.int .i64 0, .int .i64 0] 36 := BK.new _ _ _
     refine hK _ _ (fun _ => en26) ?_
     clear hK K hnx
     generalize (un2.alloc (.cells #[.int .i64 0, .int .i64 0] 36)) = vn28 at *
     obtain ⟨gbU, hgbU⟩ : ∃ g, un2.heap.size = g := ⟨_, rfl⟩
     have hqbU : vz2.heap.size ≤ gbU := by omega
     rw [hgbU] at bU
     try rw [hgbU]
     clear hgbU
     refine any_run2 (i := 5) (j := 9) (by kernel_rfl) (by rfl) (by rfl) (by rfl) (by rfl) ?_ ?_
     ·skip
      intro K hK
      have qn31 := en26.size
      go_wp2_with fail
      refine (HSP.out _ en26).mono ?_
      rintro e vn30 ⟨rfl, hb⟩
      have en29 : Below vz2.heap.size vz2 vn30 := en26.trans (hb.mono en26.size)
      replace bU := bU.below hb bU.lt
      clear hb
      refine hK _ _ (fun _ => en29) ?_
      clear hK K
      refine any_run1 (i := 9) (by kernel_rfl) (by rfl) (by kernel_rfl) ?_
      intro K hK
      have qn33 := en29.size
      have en32 : Below vz2.heap.size vz2 (vn30.alloc (.cells #[.int .i64 0, .int .i64 0] 36)) := Below.alloc en29 en29.size _
      have hnx : Below vn30.heap.size vn30 (vn30.alloc (.cells #[.int .i64 0, .int .i64 0] 36)) := Below.alloc (Below.refl _ _) (Nat.le_refl _) _
      go_wp2_with fail
      have nebUbV : gbU ≠ vn30.heap.size := Nat.ne_of_lt bU.lt
      replace bU := bU.below hnx bU.lt
      have bV : BK (vn30.alloc (.cells #[.int .i64 0, .int .i64 0] 36)) vn30.heap.size #[.int .i64 0, .int .i64 0] 36 := BK.new _ _ _
      refine hK _ _ (fun _ => en32) ?_
      clear hK K hnx
      generalize (vn30.alloc (.cells #[.int .i64 0, .int .i64 0] 36)) = vn34 at *
      obtain ⟨gbV, hgbV⟩ : ∃ g, vn30.heap.size = g := ⟨_, rfl⟩
      have hqbV : vz2.heap.size ≤ gbV := by omega
      rw [hgbV] at bV nebUbV
      try rw [hgbV]
      clear hgbV
      refine any_run1 (i := 10) (by kernel_rfl) (by rfl) (by kernel_rfl) ?_
      intro K hK
      have lbU := bU.lt
      have y0 := bU.cell 0
      have f0 := bU.frozen 0
      have y1 := bU.cell 1
      have f1 := bU.frozen 1
      simp at y0 y1
      go_wp2_with fail
      have en35 : Below vz2.heap.size vz2 ((vn34.setCell ⟨gbU, 0, none⟩ (.int .i64 dlo)).setCell ⟨gbU, 1, none⟩ (.int .i64 dhi)) := by exact bel_of
      have bV_ : BK ((vn34.setCell ⟨gbU, 0, none⟩ (.int .i64 dlo)).setCell ⟨gbU, 1, none⟩ (.int .i64 dhi)) gbV _ _ := (BK.far (BK.far bV (p := ⟨gbU, 0, none⟩) (by first | assumption | exact Ne.symm (by assumption)) _) (p := ⟨gbU, 1, none⟩) (by first | assumption | exact Ne.symm (by assumption)) _); clear bV; have bV := bV_; clear bV_
      have bU_ := ((bU.set 0 (.int .i64 dlo)).set 1 (.int .i64 dhi))
      simp at bU_
      clear bU; have bU := bU_; clear bU_
      clear y0 f0 y1 f1
      refine hK _ _ (fun _ => en35) ?_
      clear hK K
      generalize ((vn34.setCell ⟨gbU, 0, none⟩ (.int .i64 dlo)).setCell ⟨gbU, 1, none⟩ (.int .i64 dhi)) = vn36 at *
      refine any_run1 (i := 11) (by kernel_rfl) (by rfl) (by kernel_rfl) ?_
      intro K hK
      have lbV := bV.lt
      have y0 := bV.cell 0
      have f0 := bV.frozen 0
      have y1 := bV.cell 1
      have f1 := bV.frozen 1
      simp at y0 y1
      go_wp2_with fail
      have en37 : Below vz2.heap.size vz2 ((vn36.setCell ⟨gbV, 0, none⟩ (.int .i64 lo)).setCell ⟨gbV, 1, none⟩ (.int .i64 hi)) := by exact bel_of
      have bU_ : BK ((vn36.setCell ⟨gbV, 0, none⟩ (.int .i64 lo)).setCell ⟨gbV, 1, none⟩ (.int .i64 hi)) gbU _ _ := (BK.far (BK.far bU (p := ⟨gbV, 0, none⟩) (by first | assumption | exact Ne.symm (by assumption)) _) (p := ⟨gbV, 1, none⟩) (by first | assumption | exact Ne.symm (by assumption)) _); clear bU; have bU := bU_; clear bU_
      have bV_ := ((bV.set 0 (.int .i64 lo)).set 1 (.int .i64 hi))
      simp at bV_
      clear bV; have bV := bV_; clear bV_
      clear y0 f0 y1 f1
      refine hK _ _ (fun _ => en37) ?_
      clear hK K
      generalize ((vn36.setCell ⟨gbV, 0, none⟩ (.int .i64 lo)).setCell ⟨gbV, 1, none⟩ (.int .i64 hi)) = vn38 at *
      refine any_done (by kernel_rfl) (NoPanic.normal ?_)
      exact ⟨gbU, gbV, rfl, rfl, hC.trans (en37.mono (by have := hC.size; omega)), bU, bV⟩
     ·skip
      intro K hK
      have qn40 := en26.size
      have en39 : Below vz2.heap.size vz2 (vn28.alloc (.cells #[.int .i64 0, .int .i64 0] 36)) := Below.alloc en26 en26.size _
      have hnx : Below vn28.heap.size vn28 (vn28.alloc (.cells #[.int .i64 0, .int .i64 0] 36)) := Below.alloc (Below.refl _ _) (Nat.le_refl _) _
      go_wp2_with fail
      have nebUbV : gbU ≠ vn28.heap.size := Nat.ne_of_lt bU.lt
      replace bU := bU.below hnx bU.lt
      have bV : BK (vn28.alloc (.cells #[.int .i64 0, .int .i64 0] 36)) vn28.heap.size #[.int .i64 0, .int .i64 0] 36 := BK.new _ _ _
      refine hK _ _ (fun _ => en39) ?_
      clear hK K hnx
      generalize (vn28.alloc (.cells #[.int .i64 0, .int .i64 0] 36)) = vn41 at *
      obtain ⟨gbV, hgbV⟩ : ∃ g, vn28.heap.size = g := ⟨_, rfl⟩
      have hqbV : vz2.heap.size ≤ gbV := by omega
      rw [hgbV] at bV nebUbV
      try rw [hgbV]
      clear hgbV
      refine any_run1 (i := 5) (by kernel_rfl) (by rfl) (by kernel_rfl) ?_
      intro K hK
      have qn44 := en39.size
      go_wp2_with fail
      refine (HSP.out _ en39).mono ?_
      rintro e vn43 ⟨rfl, hb⟩
      have en42 : Below vz2.heap.size vz2 vn43 := en39.trans (hb.mono en39.size)
      replace bU := bU.below hb bU.lt
      replace bV := bV.below hb bV.lt
      clear hb
      refine hK _ _ (fun _ => en42) ?_
      clear hK K
      refine any_run1 (i := 10) (by kernel_rfl) (by rfl) (by kernel_rfl) ?_
      intro K hK
      have lbU := bU.lt
      have y0 := bU.cell 0
      have f0 := bU.frozen 0
      have y1 := bU.cell 1
      have f1 := bU.frozen 1
      simp at y0 y1
      go_wp2_with fail
      have en45 : Below vz2.heap.size vz2 ((vn43.setCell ⟨gbU, 0, none⟩ (.int .i64 dlo)).setCell ⟨gbU, 1, none⟩ (.int .i64 dhi)) := by exact bel_of
      have bV_ : BK ((vn43.setCell ⟨gbU, 0, none⟩ (.int .i64 dlo)).setCell ⟨gbU, 1, none⟩ (.int .i64 dhi)) gbV _ _ := (BK.far (BK.far bV (p := ⟨gbU, 0, none⟩) (by first | assumption | exact Ne.symm (by assumption)) _) (p := ⟨gbU, 1, none⟩) (by first | assumption | exact Ne.symm (by assumption)) _); clear bV; have bV := bV_; clear bV_
      have bU_ := ((bU.set 0 (.int .i64 dlo)).set 1 (.int .i64 dhi))
      simp at bU_
      clear bU; have bU := bU_; clear bU_
      clear y0 f0 y1 f1
      refine hK _ _ (fun _ => en45) ?_
      clear hK K
      generalize ((vn43.setCell ⟨gbU, 0, none⟩ (.int .i64 dlo)).setCell ⟨gbU, 1, none⟩ (.int .i64 dhi)) = vn46 at *
      refine any_run1 (i := 11) (by kernel_rfl) (by rfl) (by kernel_rfl) ?_
      intro K hK
      have lbV := bV.lt
      have y0 := bV.cell 0
      have f0 := bV.frozen 0
      have y1 := bV.cell 1
      have f1 := bV.frozen 1
      simp at y0 y1
      go_wp2_with fail
      have en47 : Below vz2.heap.size vz2 ((vn46.setCell ⟨gbV, 0, none⟩ (.int .i64 lo)).setCell ⟨gbV, 1, none⟩ (.int .i64 hi)) := by exact bel_of
      have bU_ : BK ((vn46.setCell ⟨gbV, 0, none⟩ (.int .i64 lo)).setCell ⟨gbV, 1, none⟩ (.int .i64 hi)) gbU _ _ := (BK.far (BK.far bU (p := ⟨gbV, 0, none⟩) (by first | assumption | exact Ne.symm (by assumption)) _) (p := ⟨gbV, 1, none⟩) (by first | assumption | exact Ne.symm (by assumption)) _); clear bU; have bU := bU_; clear bU_
      have bV_ := ((bV.set 0 (.int .i64 lo)).set 1 (.int .i64 hi))
      simp at bV_
      clear bV; have bV := bV_; clear bV_
      clear y0 f0 y1 f1
      refine hK _ _ (fun _ => en47) ?_
      clear hK K
      generalize ((vn46.setCell ⟨gbV, 0, none⟩ (.int .i64 lo)).setCell ⟨gbV, 1, none⟩ (.int .i64 hi)) = vn48 at *
      refine any_done (by kernel_rfl) (NoPanic.normal ?_)
      exact ⟨gbU, gbV, rfl, rfl, hC.trans (en47.mono (by have := hC.size; omega)), bU, bV⟩
    ·skip
     intro K hK
     have qn50 := dn1.size
     have en49 : Below vz2.heap.size vz2 (un2.alloc (.cells #[.int .i64 0, .int .i64 0] 36)) := Below.alloc dn1 dn1.size _
     have hnx : Below un2.heap.size un2 (un2.alloc (.cells #[.int .i64 0, .int .i64 0] 36)) := Below.alloc (Below.refl _ _) (Nat.le_refl _) _
     go_wp2_with fail
     have bV : BK (un2.alloc (.cells #[.int .i64 0, .int .i64 0] 36)) un2.heap.size #[.int .i64 0, .int .i64 0] 36 := BK.new _ _ _
     refine hK _ _ (fun _ => en49) ?_
     clear hK K hnx
     generalize (un2.alloc (.cells #[.int .i64 0, .int .i64 0] 36)) = vn51 at *
     obtain ⟨gbV, hgbV⟩ : ∃ g, un2.heap.size = g := ⟨_, rfl⟩
     have hqbV : vz2.heap.size ≤ gbV := by omega
     rw [hgbV] at bV
     try rw [hgbV]
     clear hgbV
     refine any_run2 (i := 5) (j := 8) (by kernel_rfl) (by rfl) (by rfl) (by rfl) (by rfl) ?_ ?_
     ·skip
      intro K hK
      have qn54 := en49.size
      go_wp2_with fail
      refine (HSP.out _ en49).mono ?_
      rintro e vn53 ⟨rfl, hb⟩
      have en52 : Below vz2.heap.size vz2 vn53 := en49.trans (hb.mono en49.size)
      replace bV := bV.below hb bV.lt
      clear hb
      refine hK _ _ (fun _ => en52) ?_
      clear hK K
      refine any_run1 (i := 8) (by kernel_rfl) (by rfl) (by kernel_rfl) ?_
      intro K hK
      have qn56 := en52.size
      have en55 : Below vz2.heap.size vz2 (vn53.alloc (.cells #[.int .i64 0, .int .i64 0] 36)) := Below.alloc en52 en52.size _
      have hnx : Below vn53.heap.size vn53 (vn53.alloc (.cells #[.int .i64 0, .int .i64 0] 36)) := Below.alloc (Below.refl _ _) (Nat.le_refl _) _
      go_wp2_with fail
      have nebVbU : gbV ≠ vn53.heap.size := Nat.ne_of_lt bV.lt
      replace bV := bV.below hnx bV.lt
      have bU : BK (vn53.alloc (.cells #[.int .i64 0, .int .i64 0] 36)) vn53.heap.size #[.int .i64 0, .int .i64 0] 36 := BK.new _ _ _
      refine hK _ _ (fun _ => en55) ?_
      clear hK K hnx
      generalize (vn53.alloc (.cells #[.int .i64 0, .int .i64 0] 36)) = vn57 at *
      obtain ⟨gbU, hgbU⟩ : ∃ g, vn53.heap.size = g := ⟨_, rfl⟩
      have hqbU : vz2.heap.size ≤ gbU := by omega
      rw [hgbU] at bU nebVbU
      try rw [hgbU]
      clear hgbU
      refine any_run1 (i := 10) (by kernel_rfl) (by rfl) (by kernel_rfl) ?_
      intro K hK
      have lbU := bU.lt
      have y0 := bU.cell 0
      have f0 := bU.frozen 0
      have y1 := bU.cell 1
      have f1 := bU.frozen 1
      simp at y0 y1
      go_wp2_with fail
      have en58 : Below vz2.heap.size vz2 ((vn57.setCell ⟨gbU, 0, none⟩ (.int .i64 dlo)).setCell ⟨gbU, 1, none⟩ (.int .i64 dhi)) := by exact bel_of
      have bV_ : BK ((vn57.setCell ⟨gbU, 0, none⟩ (.int .i64 dlo)).setCell ⟨gbU, 1, none⟩ (.int .i64 dhi)) gbV _ _ := (BK.far (BK.far bV (p := ⟨gbU, 0, none⟩) (by first | assumption | exact Ne.symm (by assumption)) _) (p := ⟨gbU, 1, none⟩) (by first | assumption | exact Ne.symm (by assumption)) _); clear bV; have bV := bV_; clear bV_
      have bU_ := ((bU.set 0 (.int .i64 dlo)).set 1 (.int .i64 dhi))
      simp at bU_
      clear bU; have bU := bU_; clear bU_
      clear y0 f0 y1 f1
      refine hK _ _ (fun _ => en58) ?_
      clear hK K
      generalize ((vn57.setCell ⟨gbU, 0, none⟩ (.int .i64 dlo)).setCell ⟨gbU, 1, none⟩ (.int .i64 dhi)) = vn59 at *
      refine any_run1 (i := 11) (by kernel_rfl) (by rfl) (by kernel_rfl) ?_
      intro K hK
      have lbV := bV.lt
      have y0 := bV.cell 0
      have f0 := bV.frozen 0
      have y1 := bV.cell 1
      have f1 := bV.frozen 1
      simp at y0 y1
      go_wp2_with fail
      have en60 : Below vz2.heap.size vz2 ((vn59.setCell ⟨gbV, 0, none⟩ (.int .i64 lo)).setCell ⟨gbV, 1, none⟩ (.int .i64 hi)) := by exact bel_of
      have bU_ : BK ((vn59.setCell ⟨gbV, 0, none⟩ (.int .i64 lo)).setCell ⟨gbV, 1, none⟩ (.int .i64 hi)) gbU _ _ := (BK.far (BK.far bU (p := ⟨gbV, 0, none⟩) (by first | assumption | exact Ne.symm (by assumption)) _) (p := ⟨gbV, 1, none⟩) (by first | assumption | exact Ne.symm (by assumption)) _); clear bU; have bU := bU_; clear bU_
      have bV_ := ((bV.set 0 (.int .i64 lo)).set 1 (.int .i64 hi))
      simp at bV_
      clear bV; have bV := bV_; clear bV_
      clear y0 f0 y1 f1
      refine hK _ _ (fun _ => en60) ?_
      clear hK K
      generalize ((vn59.setCell ⟨gbV, 0, none⟩ (.int .i64 lo)).setCell ⟨gbV, 1, none⟩ (.int .i64 hi)) = vn61 at *
      refine any_done (by kernel_rfl) (NoPanic.normal ?_)
      exact ⟨gbU, gbV, rfl, rfl, hC.trans (en60.mono (by have := hC.size; omega)), bU, bV⟩
     ·skip
      intro K hK
      have qn63 := en49.size
      have en62 : Below vz2.heap.size vz2 (vn51.alloc (.cells #[.int .i64 0, .int .i64 0] 36)) := Below.alloc en49 en49.size _
      have hnx : Below vn51.heap.size vn51 (vn51.alloc (.cells #[.int .i64 0, .int .i64 0] 36)) := Below.alloc (Below.refl _ _) (Nat.le_refl _) _
      go_wp2_with fail
      have nebVbU : gbV ≠ vn51.heap.size := Nat.ne_of_lt bV.lt
      replace bV := bV.below hnx bV.lt
      have bU : BK (vn51.alloc (.cells #[.int .i64 0, .int .i64 0] 36)) vn51.heap.size #[.int .i64 0, .int .i64 0] 36 := BK.new _ _ _
      refine hK _ _ (fun _ => en62) ?_
      clear hK K hnx
      generalize (vn51.alloc (.cells #[.int .i64 0, .int .i64 0] 36)) = vn64 at *
      obtain ⟨gbU, hgbU⟩ : ∃ g, vn51.heap.size = g := ⟨_, rfl⟩
      have hqbU : vz2.heap.size ≤ gbU := by omega
      rw [hgbU] at bU nebVbU
      try rw [hgbU]
      clear hgbU
      refine any_run1 (i := 5) (by kernel_rfl) (by rfl) (by kernel_rfl) ?_
      intro K hK
      have qn67 := en62.size
      go_wp2_with fail
      refine (HSP.out _ en62).mono ?_
      rintro e vn66 ⟨rfl, hb⟩
      have en65 : Below vz2.heap.size vz2 vn66 := en62.trans (hb.mono en62.size)
      replace bV := bV.below hb bV.lt
      replace bU := bU.below hb bU.lt
      clear hb
      refine hK _ _ (fun _ => en65) ?_
      clear hK K
      refine any_run1 (i := 10) (by kernel_rfl) (by rfl) (by kernel_rfl) ?_
      intro K hK
      have lbU := bU.lt
      have y0 := bU.cell 0
      have f0 := bU.frozen 0
      have y1 := bU.cell 1
      have f1 := bU.frozen 1
      simp at y0 y1
      go_wp2_with fail
      have en68 : Below vz2.heap.size vz2 ((vn66.setCell ⟨gbU, 0, none⟩ (.int .i64 dlo)).setCell ⟨gbU, 1, none⟩ (.int .i64 dhi)) := by exact bel_of
      have bV_ : BK ((vn66.setCell ⟨gbU, 0, none⟩ (.int .i64 dlo)).setCell ⟨gbU, 1, none⟩ (.int .i64 dhi)) gbV _ _ := (BK.far (BK.far bV (p := ⟨gbU, 0, none⟩) (by first | assumption | exact Ne.symm (by assumption)) _) (p := ⟨gbU, 1, none⟩) (by first | assumption | exact Ne.symm (by assumption)) _); clear bV; have bV := bV_; clear bV_
      have bU_ := ((bU.set 0 (.int .i64 dlo)).set 1 (.int .i64 dhi))
      simp at bU_
      clear bU; have bU := bU_; clear bU_
      clear y0 f0 y1 f1
      refine hK _ _ (fun _ => en68) ?_
      clear hK K
      generalize ((vn66.setCell ⟨gbU, 0, none⟩ (.int .i64 dlo)).setCell ⟨gbU, 1, none⟩ (.int .i64 dhi)) = vn69 at *
      refine any_run1 (i := 11) (by kernel_rfl) (by rfl) (by kernel_rfl) ?_
      intro K hK
      have lbV := bV.lt
      have y0 := bV.cell 0
      have f0 := bV.frozen 0
      have y1 := bV.cell 1
      have f1 := bV.frozen 1
      simp at y0 y1
      go_wp2_with fail
      have en70 : Below vz2.heap.size vz2 ((vn69.setCell ⟨gbV, 0, none⟩ (.int .i64 lo)).setCell ⟨gbV, 1, none⟩ (.int .i64 hi)) := by exact bel_of
      have bU_ : BK ((vn69.setCell ⟨gbV, 0, none⟩ (.int .i64 lo)).setCell ⟨gbV, 1, none⟩ (.int .i64 hi)) gbU _ _ := (BK.far (BK.far bU (p := ⟨gbV, 0, none⟩) (by first | assumption | exact Ne.symm (by assumption)) _) (p := ⟨gbV, 1, none⟩) (by first | assumption | exact Ne.symm (by assumption)) _); clear bU; have bU := bU_; clear bU_
      have bV_ := ((bV.set 0 (.int .i64 lo)).set 1 (.int .i64 hi))
      simp at bV_
      clear bV; have bV := bV_; clear bV_
      clear y0 f0 y1 f1
      refine hK _ _ (fun _ => en70) ?_
      clear hK K
      generalize ((vn69.setCell ⟨gbV, 0, none⟩ (.int .i64 lo)).setCell ⟨gbV, 1, none⟩ (.int .i64 hi)) = vn71 at *
      refine any_done (by kernel_rfl) (NoPanic.normal ?_)
      exact ⟨gbU, gbV, rfl, rfl, hC.trans (en70.mono (by have := hC.size; omega)), bU, bV⟩
  case hr =>
    intro gU gV W6 hR
    obtain ⟨hC6, cU, cV⟩ := hR
    clear hC
    have hC := hC6
    clear hC6
    clear lbt btc0 btc1 btc2 btc3
    have lcU := cU.lt
    have cUc0 := cU.cell 0
    have cUc1 := cU.cell 1
    simp at cUc0 cUc1
    have lcV := cV.lt
    have cVc0 := cV.cell 0
    have cVc1 := cV.cell 1
    simp at cVc0 cVc1
    have hz6 : n0 ≤ W6.heap.size := by have := hC.size; omega
    by_cases c1 : hi < dlo
    · skip
      have HV := Lib.hid (show tellsP N ts ⟨u, v, lo, hi⟩ = 2 by rw [HQ.out]; exact if_pos (.inl c1))
      go_wp2_with fail
      exact bodyPost_ret (v := .tuple #[.int .i64 2, .int .i64 0]) (by simp [results, Try.results39, go_sem]) rfl ⟨by rw [HE.out, HS.out, HV.out], by first | exact hC | (rw [hn0]; exact hC) | (with_reducible rw [hn0]; exact bel_of) | exact bel_of⟩
    by_cases c2 : dhi < lo
    · skip
      have HV := Lib.hid (show tellsP N ts ⟨u, v, lo, hi⟩ = 2 by rw [HQ.out]; exact if_pos (.inr c2))
      go_wp2_with fail
      exact bodyPost_ret (v := .tuple #[.int .i64 2, .int .i64 0]) (by simp [results, Try.results39, go_sem]) rfl ⟨by rw [HE.out, HS.out, HV.out], by first | exact hC | (rw [hn0]; exact hC) | (with_reducible rw [hn0]; exact bel_of) | exact bel_of⟩
    have hq2 := HQ.out.trans (if_neg (show ¬ (hi < dlo ∨ dhi < lo) by omega))
    have hqb : (inB lo hi dlo && inB lo hi dhi) = decide (lo ≤ dlo ∧ dhi ≤ hi) := by
      rw [Bool.eq_iff_iff]; simp [inB]; omega
    have HQ2 := Lib.hid hq2
    clear hq2
    go_wp2_with fail
    refine (within_2 _ _ _ _ _ _ rfl).mono ?_
    rintro e w9 ⟨rfl, rfl⟩
    rw [hqb]
    clear hqb
    by_cases c3 : lo ≤ dlo ∧ dhi ≤ hi
    · rw [decide_eq_true c3]
      have HV := Lib.hid (show tellsP N ts ⟨u, v, lo, hi⟩ = 0 by rw [HQ2.out]; exact if_pos c3)
      clear c3
      go_wp2_with fail
      exact bodyPost_ret (v := .tuple #[.int .i64 0, .int .i64 0]) (by simp [results, Try.results39, go_sem]) rfl ⟨by rw [HE.out, HS.out, HV.out], by first | exact hC | (rw [hn0]; exact hC) | (with_reducible rw [hn0]; exact bel_of) | exact bel_of⟩
    · rw [decide_eq_false c3]
      have HV := Lib.hid (show tellsP N ts ⟨u, v, lo, hi⟩ = 1 by rw [HQ2.out]; exact if_neg c3)
      clear c3
      go_wp2_with fail
      exact bodyPost_ret (v := .tuple #[.int .i64 1, .int .i64 0]) (by simp [results, Try.results39, go_sem]) rfl ⟨by rw [HE.out, HS.out, HV.out], by first | exact hC | (rw [hn0]; exact hC) | (with_reducible rw [hn0]; exact bel_of) | exact bel_of⟩

end Go.Proofs.Ytkljdbgkhghiaaa
