/- The worth of a link, by a bench. -/
import Derived.Test.YtkljdbgkhghiaaaP10
set_option linter.all false
set_option linter.unnecessarySimpa false
set_option linter.unusedSimpArgs false
set_option linter.unusedVariables false
set_option linter.unusedSectionVars false

namespace Go.Proofs.Ytkljdbgkhghiaaa
open Go.RowKit Kp

theorem region_cut {P : Program} {id : Nat} {os : Array Oper} {dr : Bool} {Q : Exit → Act → World → Prop} {a : Act} {w : World} {F : Nat → Nat → Act} {R : Nat → Nat → World → Prop}
    (h : (Code.region id os dr).wp P (fun e a' w' => ∃ x y, e = .normal ∧ a' = F x y ∧ R x y w') a w) (hr : ∀ x y w', R x y w' → Q .normal (F x y) w') : (Code.region id os dr).wp P Q a w :=
  Code.wp_mono (fun e a' w' ⟨x, y, he, ha, hR⟩ => by subst he ha; exact hr x y w' hR) h

set_option maxHeartbeats 8000000 in
set_option maxRecDepth 100000 in
theorem worth_any (E : Nat) (vt : Value) (ts : List Kt) (bel : List Int) (top : Int) (asks : Bool) (gb : Nat) (k : Kl) (w : World) (ho : Okb E ts) (hl : ts.length ≤ 1000) (hB : Bn w gb E vt ts bel top asks) :
    Calls Try.prog 54 #[.pointer (some ⟨gb, 0, none⟩), klV k] w fun e w' => WoR E ts k e ∧ Below w.heap.size w w' := by
  obtain ⟨src, dst, tst⟩ := k
  unfold klV
  have hC : Below w.heap.size w w := Below.refl _ _
  obtain ⟨g2, hg2⟩ : ∃ n, w.heap.size = n := ⟨_, rfl⟩
  have hgb : gb < g2 := by rw [← hg2]; exact hB.lt
  go_enter Try.func54, Try.ntmps54
  go_upto_region 2 with fail
  have hC2 : Below w.heap.size w ((w.alloc (.cells #[.pointer (some ⟨gb, 0, none⟩)] 80)).alloc (.cells #[.int .i64 src, .int .i64 dst, .int .i64 tst] 44)) := by exact bel_of
  have b2 : BK ((w.alloc (.cells #[.pointer (some ⟨gb, 0, none⟩)] 80)).alloc (.cells #[.int .i64 src, .int .i64 dst, .int .i64 tst] 44)) g2 #[.pointer (some ⟨gb, 0, none⟩)] 80 := (BK.new' _ _ _ g2 hg2).alloc _
  have bl : BK ((w.alloc (.cells #[.pointer (some ⟨gb, 0, none⟩)] 80)).alloc (.cells #[.int .i64 src, .int .i64 dst, .int .i64 tst] 44)) (g2 + 1) #[.int .i64 src, .int .i64 dst, .int .i64 tst] 44 := BK.new' _ _ _ (g2 + 1) (by simp [hg2])
  have hBn := hB.below hC2
  generalize (w.alloc (.cells #[.pointer (some ⟨gb, 0, none⟩)] 80)).alloc (.cells #[.int .i64 src, .int .i64 dst, .int .i64 tst] 44) = W1 at *
  replace hC := hC2
  clear hC2 hB
  have hCg : Below g2 w W1 := by rw [← hg2]; exact hC
  have y2 := b2.cell 0
  have l2 := b2.lt
  have x0 := bl.cell 0
  have x1 := bl.cell 1
  have x2 := bl.cell 2
  have lx := bl.lt
  simp at y2 x0 x1 x2
  have hed := fun v => edge_any E vt ts bel top asks gb g2 v W1 hBn y2
  have HED := Lib.hid hed
  clear hed
  obtain ⟨k1, hts⟩ := hBn.tests
  obtain ⟨b, off, cap, A, rfl, hA⟩ := hts.slice
  by_cases ht : tst = -1
  · subst ht
    clear hA
    by_cases hs : src = -1
    · subst hs
      cases hd : edgeB E dst with
      | true =>
        have hw : worthP E ts ⟨-1, dst, -1⟩ = some 1000 := by unfold worthP; dsimp only; rw [if_pos]; exact ⟨rfl, rfl, of_decide_eq_true hd⟩
        have HW := Lib.hid hw
        have hq := HED.out dst
        rw [hd] at hq
        clear hw hd
        go_wp2_with fail
        refine hq.mono ?_
        rintro e w2 ⟨rfl, rfl⟩
        go_wp2_with fail
        refine bodyPost_ret (v := .tuple #[.int .i64 1000, .bool true]) (by simp [results, Try.results54, go_sem]) rfl ⟨⟨1000, true, rfl, HW.out⟩, hC⟩
      | false =>
        have hno : ¬ (0 ≤ dst ∧ dst < E) := of_decide_eq_false hd
        have hw : worthP E ts ⟨-1, dst, -1⟩ = none := by unfold worthP; dsimp only; rw [if_neg (by omega), if_neg (by omega), if_pos (by omega)]
        have HW := Lib.hid hw
        have hq := HED.out dst
        rw [hd] at hq
        clear hw hd hno
        have HQ := Lib.hid hq
        clear hq
        have he : edgeB E (-1) = false := decide_eq_false (by omega)
        have hq2 := HED.out (-1)
        rw [he] at hq2
        have HQ2 := Lib.hid hq2
        clear hq2 he
        by_cases hd1 : dst = -1
        · subst hd1
          go_wp2_with fail
          refine HQ.out.mono ?_
          rintro e w2 ⟨rfl, rfl⟩
          go_wp2_with fail
          refine HQ2.out.mono ?_
          rintro e w2 ⟨rfl, rfl⟩
          go_upto_region 6 with fail
          go_quiet (fail)
          go_wp2_with fail
          refine bodyPost_ret (v := .tuple #[.int .i64 0, .bool false]) (by simp [results, Try.results54, go_sem]) rfl ⟨⟨0, false, rfl, HW.out⟩, by exact bel_of⟩
        · have bd : (dst == -1) = false := beq_eq_false_iff_ne.2 hd1
          clear hd1
          go_wp2_with fail
          refine HQ.out.mono ?_
          rintro e w2 ⟨rfl, rfl⟩
          go_upto_region 6 with fail
          go_quiet (fail)
          go_wp2_with fail
          refine bodyPost_ret (v := .tuple #[.int .i64 0, .bool false]) (by simp [results, Try.results54, go_sem]) rfl ⟨⟨0, false, rfl, HW.out⟩, by exact bel_of⟩
    · have bs : (src == -1) = false := beq_eq_false_iff_ne.2 hs
      by_cases hd1 : dst = -1
      · subst hd1
        cases hd : edgeB E src with
        | true =>
          have hno : 0 ≤ src ∧ src < E := of_decide_eq_true hd
          have hw : worthP E ts ⟨src, -1, -1⟩ = some 0 := by unfold worthP; dsimp only; rw [if_neg (by omega), if_pos (by omega)]
          have HW := Lib.hid hw
          have hq := HED.out src
          rw [hd] at hq
          have HQ := Lib.hid hq
          clear hw hd hno hs hq
          go_wp2_with fail
          refine HQ.out.mono ?_
          rintro e w2 ⟨rfl, rfl⟩
          go_wp2_with fail
          refine bodyPost_ret (v := .tuple #[.int .i64 0, .bool true]) (by simp [results, Try.results54, go_sem]) rfl ⟨⟨0, true, rfl, HW.out⟩, hC⟩
        | false =>
          have hno : ¬ (0 ≤ src ∧ src < E) := of_decide_eq_false hd
          have hw : worthP E ts ⟨src, -1, -1⟩ = none := by unfold worthP; dsimp only; rw [if_neg (by omega), if_neg (by omega), if_pos (by omega)]
          have HW := Lib.hid hw
          have hq := HED.out src
          rw [hd] at hq
          have HQ := Lib.hid hq
          clear hw hd hno hs hq
          go_wp2_with fail
          refine HQ.out.mono ?_
          rintro e w2 ⟨rfl, rfl⟩
          go_upto_region 6 with fail
          go_quiet (fail)
          go_wp2_with fail
          refine bodyPost_ret (v := .tuple #[.int .i64 0, .bool false]) (by simp [results, Try.results54, go_sem]) rfl ⟨⟨0, false, rfl, HW.out⟩, by exact bel_of⟩
      · have bd : (dst == -1) = false := beq_eq_false_iff_ne.2 hd1
        have hw : worthP E ts ⟨src, dst, -1⟩ = none := by unfold worthP; dsimp only; rw [if_neg (by omega), if_neg (by omega), if_pos (by omega)]
        have HW := Lib.hid hw
        clear hw hs hd1
        go_upto_region 6 with fail
        go_quiet (fail)
        go_wp2_with fail
        refine bodyPost_ret (v := .tuple #[.int .i64 0, .bool false]) (by simp [results, Try.results54, go_sem]) rfl ⟨⟨0, false, rfl, HW.out⟩, by exact bel_of⟩
  · have bt : (tst == -1) = false := beq_eq_false_iff_ne.2 ht
    by_cases h1 : tst < 0
    · have hw : worthP E ts ⟨src, dst, tst⟩ = none := by unfold worthP; dsimp only; rw [if_neg (by omega), if_neg (by omega), if_pos (by omega)]
      have HW := Lib.hid hw
      clear hw ht hA
      go_upto_region 6 with fail
      go_quiet (fail)
      go_wp2_with fail
      refine bodyPost_ret (v := .tuple #[.int .i64 0, .bool false]) (by simp [results, Try.results54, go_sem]) rfl ⟨⟨0, false, rfl, HW.out⟩, by exact bel_of⟩
    · by_cases h2 : (ts.length : Int) ≤ tst
      · have hw : worthP E ts ⟨src, dst, tst⟩ = none := by unfold worthP; dsimp only; rw [if_neg (by omega), if_neg (by omega), if_pos (by omega)]
        have HW := Lib.hid hw
        clear hw ht hA
        go_upto_region 6 with fail
        go_quiet (fail)
        go_wp2_with fail
        refine bodyPost_ret (v := .tuple #[.int .i64 0, .bool false]) (by simp [results, Try.results54, go_sem]) rfl ⟨⟨0, false, rfl, HW.out⟩, by exact bel_of⟩
      · obtain ⟨i, rfl⟩ : ∃ i : Nat, tst = i := ⟨tst.toNat, by omega⟩
        have hi : i < ts.length := by omega
        obtain rfl := hA (by omega)
        obtain ⟨hb, d1, d2, d3, d4⟩ := hts.at hi
        have hrg := rng_of ho hi
        have hwp : worthP E ts ⟨src, dst, (i : Int)⟩ = if src = (nthT ts i).two ∧ dst = (nthT ts i).one then some (nthT ts i).hi else if src = (nthT ts i).one ∧ dst = (nthT ts i).two then some (-(nthT ts i).lo) else none := by
          unfold worthP; dsimp only; rw [if_neg (by omega), if_neg (by omega), if_neg (by omega), Int.toNat_natCast]
        have ww : IntKind.i64.wrap (-(nthT ts i).lo) = -(nthT ts i).lo := by rw [IntKind.wrap_i64]; omega
        generalize nthT ts i = t at *
        have HWP := Lib.hid hwp
        have HBN := Lib.hid hBn
        clear hwp hts hA h1 h2 ht hrg HED hBn
        have nz : ¬ (i : Int) < 0 := by omega
        have nl : ¬ (ts.length : Int) ≤ (i : Int) := by omega
        go_upto_region 6 with fail
        go_quiet (fail)
        go_upto_region 8 with fail
        have hC4 : Below w.heap.size w (W1.drewN nq) := belowN hC _
        have bnt : (W1.drewN nq).cell? ⟨gb, 1, none⟩ = _ := HBN.out.tests.1
        have bgl : gb < (W1.drewN nq).heap.size := HBN.out.lt
        have hbk : b < (W1.drewN nq).heap.size := hb
        have bl2 : BK (W1.drewN nq) (g2 + 1) #[.int .i64 src, .int .i64 dst, .int .i64 (i : Int)] 44 := bl
        have b22 : BK (W1.drewN nq) g2 #[.pointer (some ⟨gb, 0, none⟩)] 80 := b2
        have D1 : (W1.drewN nq).cell? ⟨b, off + i * 4, none⟩ = _ := d1
        have D2 : (W1.drewN nq).cell? ⟨b, off + i * 4 + 1, none⟩ = _ := d2
        have D3 : (W1.drewN nq).cell? ⟨b, off + i * 4 + 2, none⟩ = _ := d3
        have D4 : (W1.drewN nq).cell? ⟨b, off + i * 4 + 3, none⟩ = _ := d4
        clear hC hCg bl b2 d1 d2 d3 d4 x0 x1 x2 lx y2 l2 k1 hb HBN
        generalize W1.drewN nq = W4 at *
        have hC := hC4
        clear hC4
        have y2 := b22.cell 0
        have l2 := b22.lt
        have x0 := bl2.cell 0
        have x1 := bl2.cell 1
        have x2 := bl2.cell 2
        have lx := bl2.lt
        simp at y2 x0 x1 x2
        have d0m : Below W4.heap.size W4 W4.drew := by exact bel_of
        refine wp_region_noPanic (plain_any [0, 1, 2, 3, 4, 5, 6, 7, 8] (Below W4.heap.size W4) mixed ?_)
        (refine any_take 0 ?_ (by rfl) (by kernel_rfl) (fun _ _ _ _ _ hx => hx.elim) (.inl ⟨by rfl, ?_⟩) (by with_reducible assumption) ?_; rotate_left; (intro X hX; obtain ⟨r1, r2⟩ := Below.rules hX; clear hX; go_simp; rfl); simp only [List.getElem_toArray, List.getElem_cons_succ, List.getElem_cons_zero, Act.put, List.setIfInBounds_toArray, List.set_cons_succ, List.set_cons_zero])
        (refine any_take 1 ?_ (by rfl) (by kernel_rfl) (fun _ _ _ _ _ hx => hx.elim) (.inl ⟨by rfl, ?_⟩) (by with_reducible assumption) ?_; rotate_left; (intro X hX; obtain ⟨r1, r2⟩ := Below.rules hX; clear hX; go_simp; rfl); simp only [List.getElem_toArray, List.getElem_cons_succ, List.getElem_cons_zero, Act.put, List.setIfInBounds_toArray, List.set_cons_succ, List.set_cons_zero])
        (refine any_take 2 ?_ (by rfl) (by kernel_rfl) (fun _ _ _ _ _ hx => hx.elim) (.inl ⟨by rfl, ?_⟩) (by with_reducible assumption) ?_; rotate_left; (intro X hX; obtain ⟨r1, r2⟩ := Below.rules hX; clear hX; go_simp; rfl); simp only [List.getElem_toArray, List.getElem_cons_succ, List.getElem_cons_zero, Act.put, List.setIfInBounds_toArray, List.set_cons_succ, List.set_cons_zero])
        (refine any_take 3 ?_ (by rfl) (by kernel_rfl) (fun _ _ _ _ _ hx => hx.elim) (.inl ⟨by rfl, ?_⟩) (by with_reducible assumption) ?_; rotate_left; (intro X hX; obtain ⟨r1, r2⟩ := Below.rules hX; clear hX; go_simp; rfl); simp only [List.getElem_toArray, List.getElem_cons_succ, List.getElem_cons_zero, Act.put, List.setIfInBounds_toArray, List.set_cons_succ, List.set_cons_zero])
        (refine any_take 4 ?_ (by rfl) (by kernel_rfl) (fun _ _ _ _ _ hx => hx.elim) (.inl ⟨by rfl, ?_⟩) (by with_reducible assumption) ?_; rotate_left; (intro X hX; obtain ⟨r1, r2⟩ := Below.rules hX; clear hX; go_simp; rfl); simp only [List.getElem_toArray, List.getElem_cons_succ, List.getElem_cons_zero, Act.put, List.setIfInBounds_toArray, List.set_cons_succ, List.set_cons_zero])
        (refine any_take 5 ?_ (by rfl) (by kernel_rfl) (fun _ _ _ _ _ hx => hx.elim) (.inl ⟨by rfl, ?_⟩) (by with_reducible assumption) ?_; rotate_left; (intro X hX; obtain ⟨r1, r2⟩ := Below.rules hX; clear hX; go_simp; rfl); simp only [List.getElem_toArray, List.getElem_cons_succ, List.getElem_cons_zero, Act.put, List.setIfInBounds_toArray, List.set_cons_succ, List.set_cons_zero])
        (refine any_take 6 ?_ (by rfl) (by kernel_rfl) (fun _ _ _ _ _ hx => hx.elim) (.inl ⟨by rfl, ?_⟩) (by with_reducible assumption) ?_; rotate_left; (intro X hX; obtain ⟨r1, r2⟩ := Below.rules hX; clear hX; go_simp; rfl); simp only [List.getElem_toArray, List.getElem_cons_succ, List.getElem_cons_zero, Act.put, List.setIfInBounds_toArray, List.set_cons_succ, List.set_cons_zero])
        (refine any_take 7 ?_ (by rfl) (by kernel_rfl) (fun _ _ _ _ _ hx => hx.elim) (.inl ⟨by rfl, ?_⟩) (by with_reducible assumption) ?_; rotate_left; (intro X hX; obtain ⟨r1, r2⟩ := Below.rules hX; clear hX; go_simp; rfl); simp only [List.getElem_toArray, List.getElem_cons_succ, List.getElem_cons_zero, Act.put, List.setIfInBounds_toArray, List.set_cons_succ, List.set_cons_zero])
        (refine any_take 8 ?_ (by rfl) (by kernel_rfl) (fun _ _ _ _ _ hx => hx.elim) (.inl ⟨by rfl, ?_⟩) (by with_reducible assumption) ?_; rotate_left; (intro X hX; obtain ⟨r1, r2⟩ := Below.rules hX; clear hX; go_simp; rfl); simp only [List.getElem_toArray, List.getElem_cons_succ, List.getElem_cons_zero, Act.put, List.setIfInBounds_toArray, List.set_cons_succ, List.set_cons_zero])
        have dm1 : Below W4.heap.size W4 W4.drew := by exact bel_of
        have hdr : Below W4.heap.size W4 W4.drew := Below.drew (Below.refl _ _)
        replace bl2 := bl2.below hdr bl2.lt
        clear hdr
        generalize W4.drew = um2 at *
        refine any_run1 (i := 9) (by kernel_rfl) (by rfl) (by kernel_rfl) ?_
        intro K hK
        have qm4 := dm1.size
        have em3 : Below W4.heap.size W4 (um2.alloc (.cells #[.int .i64 0, .int .i64 0, .int .i64 0, .int .i64 0] 56)) := Below.alloc dm1 dm1.size _
        have hnx : Below um2.heap.size um2 (um2.alloc (.cells #[.int .i64 0, .int .i64 0, .int .i64 0, .int .i64 0] 56)) := Below.alloc (Below.refl _ _) (Nat.le_refl _) _
        go_wp2_with fail
        have nebl2bT : (g2 + 1) ≠ um2.heap.size := Nat.ne_of_lt bl2.lt
        replace bl2 := bl2.below hnx bl2.lt
        have bT : BK (um2.alloc (.cells #[.int .i64 0, .int .i64 0, .int .i64 0, .int .i64 0] 56)) um2.heap.size #[.int .i64 0, .int .i64 0, .int .i64 0, .int .i64 0] 56 := BK.new _ _ _
        refine hK _ _ (fun _ => em3) ?_
        clear hK K hnx
        generalize (um2.alloc (.cells #[.int .i64 0, .int .i64 0, .int .i64 0, .int .i64 0] 56)) = vm5 at *
        obtain ⟨gbT, hgbT⟩ : ∃ g, um2.heap.size = g := ⟨_, rfl⟩
        have hqbT : W4.heap.size ≤ gbT := by omega
        rw [hgbT] at bT nebl2bT
        try rw [hgbT]
        clear hgbT
        refine any_run1 (i := 10) (by kernel_rfl) (by rfl) (by kernel_rfl) ?_
        intro K hK
        have lbT := bT.lt
        have y0 := bT.cell 0
        have f0 := bT.frozen 0
        have y1 := bT.cell 1
        have f1 := bT.frozen 1
        have y2 := bT.cell 2
        have f2 := bT.frozen 2
        have y3 := bT.cell 3
        have f3 := bT.frozen 3
        simp at y0 y1 y2 y3
        go_wp2_with fail
        have em6 : Below W4.heap.size W4 ((((vm5.setCell ⟨gbT, 0, none⟩ (.int .i64 t.one)).setCell ⟨gbT, 1, none⟩ (.int .i64 t.two)).setCell ⟨gbT, 2, none⟩ (.int .i64 t.lo)).setCell ⟨gbT, 3, none⟩ (.int .i64 t.hi)) := by exact bel_of
        have bl2_ : BK ((((vm5.setCell ⟨gbT, 0, none⟩ (.int .i64 t.one)).setCell ⟨gbT, 1, none⟩ (.int .i64 t.two)).setCell ⟨gbT, 2, none⟩ (.int .i64 t.lo)).setCell ⟨gbT, 3, none⟩ (.int .i64 t.hi)) (g2 + 1) _ _ := (BK.far (BK.far (BK.far (BK.far bl2 (p := ⟨gbT, 0, none⟩) (by first | assumption | exact Ne.symm (by assumption)) _) (p := ⟨gbT, 1, none⟩) (by first | assumption | exact Ne.symm (by assumption)) _) (p := ⟨gbT, 2, none⟩) (by first | assumption | exact Ne.symm (by assumption)) _) (p := ⟨gbT, 3, none⟩) (by first | assumption | exact Ne.symm (by assumption)) _); clear bl2; have bl2 := bl2_; clear bl2_
        have bT_ := ((((bT.set 0 (.int .i64 t.one)).set 1 (.int .i64 t.two)).set 2 (.int .i64 t.lo)).set 3 (.int .i64 t.hi))
        simp at bT_
        clear bT; have bT := bT_; clear bT_
        clear y0 f0 y1 f1 y2 f2 y3 f3
        refine hK _ _ (fun _ => em6) ?_
        clear hK K
        generalize ((((vm5.setCell ⟨gbT, 0, none⟩ (.int .i64 t.one)).setCell ⟨gbT, 1, none⟩ (.int .i64 t.two)).setCell ⟨gbT, 2, none⟩ (.int .i64 t.lo)).setCell ⟨gbT, 3, none⟩ (.int .i64 t.hi)) = vm7 at *
        refine any_done (by kernel_rfl) (NoPanic.normal ?_)
        have hC9 : Below w.heap.size w vm7 := hC.trans (em6.mono hC.size)
        clear hC
        have hC := hC9
        clear hC9
        have hCg : Below g2 w vm7 := by rw [← hg2]; exact hC
        have hgT := bT.lt
        have hgL := bl2.lt
        generalize vm7 = W5 at *
        have lbT := bT.lt
        have bTc0 := bT.cell 0
        have bTc1 := bT.cell 1
        have bTc2 := bT.cell 2
        have bTc3 := bT.cell 3
        simp at bTc0 bTc1 bTc2 bTc3
        have lbl2 := bl2.lt
        have bl2c0 := bl2.cell 0
        have bl2c1 := bl2.cell 1
        have bl2c2 := bl2.cell 2
        simp at bl2c0 bl2c1 bl2c2
        clear bnt bgl D1 D2 D3 D4 x0 x1 x2 lx y2 l2 hbk
        go_upto_region 9 with fail
        apply region_cut (R := fun x y W => Below w.heap.size w W ∧ BK W gbT #[.int .i64 t.one, .int .i64 t.two, .int .i64 t.lo, .int .i64 t.hi] 56 ∧ BK W (g2 + 1) #[.int .i64 src, .int .i64 dst, .int .i64 (i : Int)] 44 ∧ BK W x #[.int .i64 t.two, .int .i64 t.one, .int .i64 (i : Int)] 44 ∧ BK W y #[.int .i64 t.one, .int .i64 t.two, .int .i64 (i : Int)] 44)
        case h =>
         have bTk := bT
         have bl3 := bl2
         have d0n : Below W5.heap.size W5 W5.drew := by exact bel_of
         refine wp_region_noPanic (plain_any [0, 1, 2, 3, 4, 5, 6, 7, 8, 9, 10, 11, 12, 13] (Below W5.heap.size W5) mixed ?_)
         (refine any_take 0 ?_ (by rfl) (by kernel_rfl) (fun _ _ _ _ _ hx => hx.elim) (.inl ⟨by rfl, ?_⟩) (by with_reducible assumption) ?_; rotate_left; (intro X hX; obtain ⟨r1, r2⟩ := Below.rules hX; clear hX; go_simp; rfl); simp only [List.getElem_toArray, List.getElem_cons_succ, List.getElem_cons_zero, Act.put, List.setIfInBounds_toArray, List.set_cons_succ, List.set_cons_zero])
         (refine any_take 1 ?_ (by rfl) (by kernel_rfl) (fun _ _ _ _ _ hx => hx.elim) (.inl ⟨by rfl, ?_⟩) (by with_reducible assumption) ?_; rotate_left; (intro X hX; obtain ⟨r1, r2⟩ := Below.rules hX; clear hX; go_simp; rfl); simp only [List.getElem_toArray, List.getElem_cons_succ, List.getElem_cons_zero, Act.put, List.setIfInBounds_toArray, List.set_cons_succ, List.set_cons_zero])
         (refine any_take 2 ?_ (by rfl) (by kernel_rfl) (fun _ _ _ _ _ hx => hx.elim) (.inl ⟨by rfl, ?_⟩) (by with_reducible assumption) ?_; rotate_left; (intro X hX; obtain ⟨r1, r2⟩ := Below.rules hX; clear hX; go_simp; rfl); simp only [List.getElem_toArray, List.getElem_cons_succ, List.getElem_cons_zero, Act.put, List.setIfInBounds_toArray, List.set_cons_succ, List.set_cons_zero])
         (refine any_take 3 ?_ (by rfl) (by kernel_rfl) (fun _ _ _ _ _ hx => hx.elim) (.inl ⟨by rfl, ?_⟩) (by with_reducible assumption) ?_; rotate_left; (intro X hX; obtain ⟨r1, r2⟩ := Below.rules hX; clear hX; go_simp; rfl); simp only [List.getElem_toArray, List.getElem_cons_succ, List.getElem_cons_zero, Act.put, List.setIfInBounds_toArray, List.set_cons_succ, List.set_cons_zero])
         (refine any_take 4 ?_ (by rfl) (by kernel_rfl) (fun _ _ _ _ _ hx => hx.elim) (.inl ⟨by rfl, ?_⟩) (by with_reducible assumption) ?_; rotate_left; (intro X hX; obtain ⟨r1, r2⟩ := Below.rules hX; clear hX; go_simp; rfl); simp only [List.getElem_toArray, List.getElem_cons_succ, List.getElem_cons_zero, Act.put, List.setIfInBounds_toArray, List.set_cons_succ, List.set_cons_zero])
         (refine any_take 5 ?_ (by rfl) (by kernel_rfl) (fun _ _ _ _ _ hx => hx.elim) (.inl ⟨by rfl, ?_⟩) (by with_reducible assumption) ?_; rotate_left; (intro X hX; obtain ⟨r1, r2⟩ := Below.rules hX; clear hX; go_simp; rfl); simp only [List.getElem_toArray, List.getElem_cons_succ, List.getElem_cons_zero, Act.put, List.setIfInBounds_toArray, List.set_cons_succ, List.set_cons_zero])
         (refine any_take 6 ?_ (by rfl) (by kernel_rfl) (fun _ _ _ _ _ hx => hx.elim) (.inl ⟨by rfl, ?_⟩) (by with_reducible assumption) ?_; rotate_left; (intro X hX; obtain ⟨r1, r2⟩ := Below.rules hX; clear hX; go_simp; rfl); simp only [List.getElem_toArray, List.getElem_cons_succ, List.getElem_cons_zero, Act.put, List.setIfInBounds_toArray, List.set_cons_succ, List.set_cons_zero])
         (refine any_take 7 ?_ (by rfl) (by kernel_rfl) (fun _ _ _ _ _ hx => hx.elim) (.inl ⟨by rfl, ?_⟩) (by with_reducible assumption) ?_; rotate_left; (intro X hX; obtain ⟨r1, r2⟩ := Below.rules hX; clear hX; go_simp; rfl); simp only [List.getElem_toArray, List.getElem_cons_succ, List.getElem_cons_zero, Act.put, List.setIfInBounds_toArray, List.set_cons_succ, List.set_cons_zero])
         (refine any_take 8 ?_ (by rfl) (by kernel_rfl) (fun _ _ _ _ _ hx => hx.elim) (.inl ⟨by rfl, ?_⟩) (by with_reducible assumption) ?_; rotate_left; (intro X hX; obtain ⟨r1, r2⟩ := Below.rules hX; clear hX; go_simp; rfl); simp only [List.getElem_toArray, List.getElem_cons_succ, List.getElem_cons_zero, Act.put, List.setIfInBounds_toArray, List.set_cons_succ, List.set_cons_zero])
         (refine any_take 9 ?_ (by rfl) (by kernel_rfl) (fun _ _ _ _ _ hx => hx.elim) (.inl ⟨by rfl, ?_⟩) (by with_reducible assumption) ?_; rotate_left; (intro X hX; obtain ⟨r1, r2⟩ := Below.rules hX; clear hX; go_simp; rfl); simp only [List.getElem_toArray, List.getElem_cons_succ, List.getElem_cons_zero, Act.put, List.setIfInBounds_toArray, List.set_cons_succ, List.set_cons_zero])
         (refine any_take 10 ?_ (by rfl) (by kernel_rfl) (fun _ _ _ _ _ hx => hx.elim) (.inl ⟨by rfl, ?_⟩) (by with_reducible assumption) ?_; rotate_left; (intro X hX; obtain ⟨r1, r2⟩ := Below.rules hX; clear hX; go_simp; rfl); simp only [List.getElem_toArray, List.getElem_cons_succ, List.getElem_cons_zero, Act.put, List.setIfInBounds_toArray, List.set_cons_succ, List.set_cons_zero])
         (refine any_take 11 ?_ (by rfl) (by kernel_rfl) (fun _ _ _ _ _ hx => hx.elim) (.inl ⟨by rfl, ?_⟩) (by with_reducible assumption) ?_; rotate_left; (intro X hX; obtain ⟨r1, r2⟩ := Below.rules hX; clear hX; go_simp; rfl); simp only [List.getElem_toArray, List.getElem_cons_succ, List.getElem_cons_zero, Act.put, List.setIfInBounds_toArray, List.set_cons_succ, List.set_cons_zero])
         (refine any_take 12 ?_ (by rfl) (by kernel_rfl) (fun _ _ _ _ _ hx => hx.elim) (.inl ⟨by rfl, ?_⟩) (by with_reducible assumption) ?_; rotate_left; (intro X hX; obtain ⟨r1, r2⟩ := Below.rules hX; clear hX; go_simp; rfl); simp only [List.getElem_toArray, List.getElem_cons_succ, List.getElem_cons_zero, Act.put, List.setIfInBounds_toArray, List.set_cons_succ, List.set_cons_zero])
         (refine any_take 13 ?_ (by rfl) (by kernel_rfl) (fun _ _ _ _ _ hx => hx.elim) (.inl ⟨by rfl, ?_⟩) (by with_reducible assumption) ?_; rotate_left; (intro X hX; obtain ⟨r1, r2⟩ := Below.rules hX; clear hX; go_simp; rfl); simp only [List.getElem_toArray, List.getElem_cons_succ, List.getElem_cons_zero, Act.put, List.setIfInBounds_toArray, List.set_cons_succ, List.set_cons_zero])
         have dn1 : Below W5.heap.size W5 W5.drew := by exact bel_of
         have hdr : Below W5.heap.size W5 W5.drew := Below.drew (Below.refl _ _)
         replace bTk := bTk.below hdr bTk.lt
         replace bl3 := bl3.below hdr bl3.lt
         clear hdr
         generalize W5.drew = un2 at *
         refine any_run2 (i := 14) (j := 15) (by kernel_rfl) (by rfl) (by rfl) (by rfl) (by rfl) ?_ ?_
         ·skip
          intro K hK
          have qn4 := dn1.size
          have en3 : Below W5.heap.size W5 (un2.alloc (.cells #[.int .i64 0, .int .i64 0, .int .i64 0] 44)) := Below.alloc dn1 dn1.size _
          have hnx : Below un2.heap.size un2 (un2.alloc (.cells #[.int .i64 0, .int .i64 0, .int .i64 0] 44)) := Below.alloc (Below.refl _ _) (Nat.le_refl _) _
          go_wp2_with fail
          have nebTkbU : gbT ≠ un2.heap.size := Nat.ne_of_lt bTk.lt
          have nebl3bU : (g2 + 1) ≠ un2.heap.size := Nat.ne_of_lt bl3.lt
          replace bTk := bTk.below hnx bTk.lt
          replace bl3 := bl3.below hnx bl3.lt
          have bU : BK (un2.alloc (.cells #[.int .i64 0, .int .i64 0, .int .i64 0] 44)) un2.heap.size #[.int .i64 0, .int .i64 0, .int .i64 0] 44 := BK.new _ _ _
          refine hK _ _ (fun _ => en3) ?_
          clear hK K hnx
          generalize (un2.alloc (.cells #[.int .i64 0, .int .i64 0, .int .i64 0] 44)) = vn5 at *
          obtain ⟨gbU, hgbU⟩ : ∃ g, un2.heap.size = g := ⟨_, rfl⟩
          have hqbU : W5.heap.size ≤ gbU := by omega
          rw [hgbU] at bU nebTkbU nebl3bU
          try rw [hgbU]
          clear hgbU
          refine any_run1 (i := 15) (by kernel_rfl) (by rfl) (by kernel_rfl) ?_
          intro K hK
          have qn7 := en3.size
          have en6 : Below W5.heap.size W5 (vn5.alloc (.cells #[.int .i64 0, .int .i64 0, .int .i64 0] 44)) := Below.alloc en3 en3.size _
          have hnx : Below vn5.heap.size vn5 (vn5.alloc (.cells #[.int .i64 0, .int .i64 0, .int .i64 0] 44)) := Below.alloc (Below.refl _ _) (Nat.le_refl _) _
          go_wp2_with fail
          have nebTkbD : gbT ≠ vn5.heap.size := Nat.ne_of_lt bTk.lt
          have nebl3bD : (g2 + 1) ≠ vn5.heap.size := Nat.ne_of_lt bl3.lt
          have nebUbD : gbU ≠ vn5.heap.size := Nat.ne_of_lt bU.lt
          replace bTk := bTk.below hnx bTk.lt
          replace bl3 := bl3.below hnx bl3.lt
          replace bU := bU.below hnx bU.lt
          have bD : BK (vn5.alloc (.cells #[.int .i64 0, .int .i64 0, .int .i64 0] 44)) vn5.heap.size #[.int .i64 0, .int .i64 0, .int .i64 0] 44 := BK.new _ _ _
          refine hK _ _ (fun _ => en6) ?_
          clear hK K hnx
          generalize (vn5.alloc (.cells #[.int .i64 0, .int .i64 0, .int .i64 0] 44)) = vn8 at *
          obtain ⟨gbD, hgbD⟩ : ∃ g, vn5.heap.size = g := ⟨_, rfl⟩
          have hqbD : W5.heap.size ≤ gbD := by omega
          rw [hgbD] at bD nebTkbD nebl3bD nebUbD
          try rw [hgbD]
          clear hgbD
          refine any_run1 (i := 16) (by kernel_rfl) (by rfl) (by kernel_rfl) ?_
          intro K hK
          have lbU := bU.lt
          have y0 := bU.cell 0
          have f0 := bU.frozen 0
          have y1 := bU.cell 1
          have f1 := bU.frozen 1
          have y2 := bU.cell 2
          have f2 := bU.frozen 2
          simp at y0 y1 y2
          go_wp2_with fail
          have en9 : Below W5.heap.size W5 (((vn8.setCell ⟨gbU, 0, none⟩ (.int .i64 t.two)).setCell ⟨gbU, 1, none⟩ (.int .i64 t.one)).setCell ⟨gbU, 2, none⟩ (.int .i64 (i : Int))) := by exact bel_of
          have bTk_ : BK (((vn8.setCell ⟨gbU, 0, none⟩ (.int .i64 t.two)).setCell ⟨gbU, 1, none⟩ (.int .i64 t.one)).setCell ⟨gbU, 2, none⟩ (.int .i64 (i : Int))) gbT _ _ := (BK.far (BK.far (BK.far bTk (p := ⟨gbU, 0, none⟩) (by first | assumption | exact Ne.symm (by assumption)) _) (p := ⟨gbU, 1, none⟩) (by first | assumption | exact Ne.symm (by assumption)) _) (p := ⟨gbU, 2, none⟩) (by first | assumption | exact Ne.symm (by assumption)) _); clear bTk; have bTk := bTk_; clear bTk_
          have bl3_ : BK (((vn8.setCell ⟨gbU, 0, none⟩ (.int .i64 t.two)).setCell ⟨gbU, 1, none⟩ (.int .i64 t.one)).setCell ⟨gbU, 2, none⟩ (.int .i64 (i : Int))) (g2 + 1) _ _ := (BK.far (BK.far (BK.far bl3 (p := ⟨gbU, 0, none⟩) (by first | assumption | exact Ne.symm (by assumption)) _) (p := ⟨gbU, 1, none⟩) (by first | assumption | exact Ne.symm (by assumption)) _) (p := ⟨gbU, 2, none⟩) (by first | assumption | exact Ne.symm (by assumption)) _); clear bl3; have bl3 := bl3_; clear bl3_
          have bD_ : BK (((vn8.setCell ⟨gbU, 0, none⟩ (.int .i64 t.two)).setCell ⟨gbU, 1, none⟩ (.int .i64 t.one)).setCell ⟨gbU, 2, none⟩ (.int .i64 (i : Int))) gbD _ _ := (BK.far (BK.far (BK.far bD (p := ⟨gbU, 0, none⟩) (by first | assumption | exact Ne.symm (by assumption)) _) (p := ⟨gbU, 1, none⟩) (by first | assumption | exact Ne.symm (by assumption)) _) (p := ⟨gbU, 2, none⟩) (by first | assumption | exact Ne.symm (by assumption)) _); clear bD; have bD := bD_; clear bD_
          have bU_ := (((bU.set 0 (.int .i64 t.two)).set 1 (.int .i64 t.one)).set 2 (.int .i64 (i : Int)))
          simp at bU_
          clear bU; have bU := bU_; clear bU_
          clear y0 f0 y1 f1 y2 f2
          refine hK _ _ (fun _ => en9) ?_
          clear hK K
          generalize (((vn8.setCell ⟨gbU, 0, none⟩ (.int .i64 t.two)).setCell ⟨gbU, 1, none⟩ (.int .i64 t.one)).setCell ⟨gbU, 2, none⟩ (.int .i64 (i : Int))) = vn10 at *
          refine any_run1 (i := 17) (by kernel_rfl) (by rfl) (by kernel_rfl) ?_
          intro K hK
          have lbD := bD.lt
          have y0 := bD.cell 0
          have f0 := bD.frozen 0
          have y1 := bD.cell 1
          have f1 := bD.frozen 1
          have y2 := bD.cell 2
          have f2 := bD.frozen 2
          simp at y0 y1 y2
          go_wp2_with fail
          have en11 : Below W5.heap.size W5 (((vn10.setCell ⟨gbD, 0, none⟩ (.int .i64 t.one)).setCell ⟨gbD, 1, none⟩ (.int .i64 t.two)).setCell ⟨gbD, 2, none⟩ (.int .i64 (i : Int))) := by exact bel_of
          have bTk_ : BK (((vn10.setCell ⟨gbD, 0, none⟩ (.int .i64 t.one)).setCell ⟨gbD, 1, none⟩ (.int .i64 t.two)).setCell ⟨gbD, 2, none⟩ (.int .i64 (i : Int))) gbT _ _ := (BK.far (BK.far (BK.far bTk (p := ⟨gbD, 0, none⟩) (by first | assumption | exact Ne.symm (by assumption)) _) (p := ⟨gbD, 1, none⟩) (by first | assumption | exact Ne.symm (by assumption)) _) (p := ⟨gbD, 2, none⟩) (by first | assumption | exact Ne.symm (by assumption)) _); clear bTk; have bTk := bTk_; clear bTk_
          have bl3_ : BK (((vn10.setCell ⟨gbD, 0, none⟩ (.int .i64 t.one)).setCell ⟨gbD, 1, none⟩ (.int .i64 t.two)).setCell ⟨gbD, 2, none⟩ (.int .i64 (i : Int))) (g2 + 1) _ _ := (BK.far (BK.far (BK.far bl3 (p := ⟨gbD, 0, none⟩) (by first | assumption | exact Ne.symm (by assumption)) _) (p := ⟨gbD, 1, none⟩) (by first | assumption | exact Ne.symm (by assumption)) _) (p := ⟨gbD, 2, none⟩) (by first | assumption | exact Ne.symm (by assumption)) _); clear bl3; have bl3 := bl3_; clear bl3_
          have bU_ : BK (((vn10.setCell ⟨gbD, 0, none⟩ (.int .i64 t.one)).setCell ⟨gbD, 1, none⟩ (.int .i64 t.two)).setCell ⟨gbD, 2, none⟩ (.int .i64 (i : Int))) gbU _ _ := (BK.far (BK.far (BK.far bU (p := ⟨gbD, 0, none⟩) (by first | assumption | exact Ne.symm (by assumption)) _) (p := ⟨gbD, 1, none⟩) (by first | assumption | exact Ne.symm (by assumption)) _) (p := ⟨gbD, 2, none⟩) (by first | assumption | exact Ne.symm (by assumption)) _); clear bU; have bU := bU_; clear bU_
          have bD_ := (((bD.set 0 (.int .i64 t.one)).set 1 (.int .i64 t.two)).set 2 (.int .i64 (i : Int)))
          simp at bD_
          clear bD; have bD := bD_; clear bD_
          clear y0 f0 y1 f1 y2 f2
          refine hK _ _ (fun _ => en11) ?_
          clear hK K
          generalize (((vn10.setCell ⟨gbD, 0, none⟩ (.int .i64 t.one)).setCell ⟨gbD, 1, none⟩ (.int .i64 t.two)).setCell ⟨gbD, 2, none⟩ (.int .i64 (i : Int))) = vn12 at *
          refine any_done (by kernel_rfl) (NoPanic.normal ?_)
          exact ⟨gbU, gbD, rfl, rfl, hC.trans (en11.mono hC.size), bTk, bl3, bU, bD⟩
         ·skip
          intro K hK
          have qn14 := dn1.size
          have en13 : Below W5.heap.size W5 (un2.alloc (.cells #[.int .i64 0, .int .i64 0, .int .i64 0] 44)) := Below.alloc dn1 dn1.size _
          have hnx : Below un2.heap.size un2 (un2.alloc (.cells #[.int .i64 0, .int .i64 0, .int .i64 0] 44)) := Below.alloc (Below.refl _ _) (Nat.le_refl _) _
          go_wp2_with fail
          have nebTkbD : gbT ≠ un2.heap.size := Nat.ne_of_lt bTk.lt
          have nebl3bD : (g2 + 1) ≠ un2.heap.size := Nat.ne_of_lt bl3.lt
          replace bTk := bTk.below hnx bTk.lt
          replace bl3 := bl3.below hnx bl3.lt
          have bD : BK (un2.alloc (.cells #[.int .i64 0, .int .i64 0, .int .i64 0] 44)) un2.heap.size #[.int .i64 0, .int .i64 0, .int .i64 0] 44 := BK.new _ _ _
          refine hK _ _ (fun _ => en13) ?_
          clear hK K hnx
          generalize (un2.alloc (.cells #[.int .i64 0, .int .i64 0, .int .i64 0] 44)) = vn15 at *
          obtain ⟨gbD, hgbD⟩ : ∃ g, un2.heap.size = g := ⟨_, rfl⟩
          have hqbD : W5.heap.size ≤ gbD := by omega
          rw [hgbD] at bD nebTkbD nebl3bD
          try rw [hgbD]
          clear hgbD
          refine any_run1 (i := 14) (by kernel_rfl) (by rfl) (by kernel_rfl) ?_
          intro K hK
          have qn17 := en13.size
          have en16 : Below W5.heap.size W5 (vn15.alloc (.cells #[.int .i64 0, .int .i64 0, .int .i64 0] 44)) := Below.alloc en13 en13.size _
          have hnx : Below vn15.heap.size vn15 (vn15.alloc (.cells #[.int .i64 0, .int .i64 0, .int .i64 0] 44)) := Below.alloc (Below.refl _ _) (Nat.le_refl _) _
          go_wp2_with fail
          have nebTkbU : gbT ≠ vn15.heap.size := Nat.ne_of_lt bTk.lt
          have nebl3bU : (g2 + 1) ≠ vn15.heap.size := Nat.ne_of_lt bl3.lt
          have nebDbU : gbD ≠ vn15.heap.size := Nat.ne_of_lt bD.lt
          replace bTk := bTk.below hnx bTk.lt
          replace bl3 := bl3.below hnx bl3.lt
          replace bD := bD.below hnx bD.lt
          have bU : BK (vn15.alloc (.cells #[.int .i64 0, .int .i64 0, .int .i64 0] 44)) vn15.heap.size #[.int .i64 0, .int .i64 0, .int .i64 0] 44 := BK.new _ _ _
          refine hK _ _ (fun _ => en16) ?_
          clear hK K hnx
          generalize (vn15.alloc (.cells #[.int .i64 0, .int .i64 0, .int .i64 0] 44)) = vn18 at *
          obtain ⟨gbU, hgbU⟩ : ∃ g, vn15.heap.size = g := ⟨_, rfl⟩
          have hqbU : W5.heap.size ≤ gbU := by omega
          rw [hgbU] at bU nebTkbU nebl3bU nebDbU
          try rw [hgbU]
          clear hgbU
          refine any_run1 (i := 16) (by kernel_rfl) (by rfl) (by kernel_rfl) ?_
          intro K hK
          have lbU := bU.lt
          have y0 := bU.cell 0
          have f0 := bU.frozen 0
          have y1 := bU.cell 1
          have f1 := bU.frozen 1
          have y2 := bU.cell 2
          have f2 := bU.frozen 2
          simp at y0 y1 y2
          go_wp2_with fail
          have en19 : Below W5.heap.size W5 (((vn18.setCell ⟨gbU, 0, none⟩ (.int .i64 t.two)).setCell ⟨gbU, 1, none⟩ (.int .i64 t.one)).setCell ⟨gbU, 2, none⟩ (.int .i64 (i : Int))) := by exact bel_of
          have bTk_ : BK (((vn18.setCell ⟨gbU, 0, none⟩ (.int .i64 t.two)).setCell ⟨gbU, 1, none⟩ (.int .i64 t.one)).setCell ⟨gbU, 2, none⟩ (.int .i64 (i : Int))) gbT _ _ := (BK.far (BK.far (BK.far bTk (p := ⟨gbU, 0, none⟩) (by first | assumption | exact Ne.symm (by assumption)) _) (p := ⟨gbU, 1, none⟩) (by first | assumption | exact Ne.symm (by assumption)) _) (p := ⟨gbU, 2, none⟩) (by first | assumption | exact Ne.symm (by assumption)) _); clear bTk; have bTk := bTk_; clear bTk_
          have bl3_ : BK (((vn18.setCell ⟨gbU, 0, none⟩ (.int .i64 t.two)).setCell ⟨gbU, 1, none⟩ (.int .i64 t.one)).setCell ⟨gbU, 2, none⟩ (.int .i64 (i : Int))) (g2 + 1) _ _ := (BK.far (BK.far (BK.far bl3 (p := ⟨gbU, 0, none⟩) (by first | assumption | exact Ne.symm (by assumption)) _) (p := ⟨gbU, 1, none⟩) (by first | assumption | exact Ne.symm (by assumption)) _) (p := ⟨gbU, 2, none⟩) (by first | assumption | exact Ne.symm (by assumption)) _); clear bl3; have bl3 := bl3_; clear bl3_
          have bD_ : BK (((vn18.setCell ⟨gbU, 0, none⟩ (.int .i64 t.two)).setCell ⟨gbU, 1, none⟩ (.int .i64 t.one)).setCell ⟨gbU, 2, none⟩ (.int .i64 (i : Int))) gbD _ _ := (BK.far (BK.far (BK.far bD (p := ⟨gbU, 0, none⟩) (by first | assumption | exact Ne.symm (by assumption)) _) (p := ⟨gbU, 1, none⟩) (by first | assumption | exact Ne.symm (by assumption)) _) (p := ⟨gbU, 2, none⟩) (by first | assumption | exact Ne.symm (by assumption)) _); clear bD; have bD := bD_; clear bD_
          have bU_ := (((bU.set 0 (.int .i64 t.two)).set 1 (.int .i64 t.one)).set 2 (.int .i64 (i : Int)))
          simp at bU_
          clear bU; have bU := bU_; clear bU_
          clear y0 f0 y1 f1 y2 f2
          refine hK _ _ (fun _ => en19) ?_
          clear hK K
          generalize (((vn18.setCell ⟨gbU, 0, none⟩ (.int .i64 t.two)).setCell ⟨gbU, 1, none⟩ (.int .i64 t.one)).setCell ⟨gbU, 2, none⟩ (.int .i64 (i : Int))) = vn20 at *
          refine any_run1 (i := 17) (by kernel_rfl) (by rfl) (by kernel_rfl) ?_
          intro K hK
          have lbD := bD.lt
          have y0 := bD.cell 0
          have f0 := bD.frozen 0
          have y1 := bD.cell 1
          have f1 := bD.frozen 1
          have y2 := bD.cell 2
          have f2 := bD.frozen 2
          simp at y0 y1 y2
          go_wp2_with fail
          have en21 : Below W5.heap.size W5 (((vn20.setCell ⟨gbD, 0, none⟩ (.int .i64 t.one)).setCell ⟨gbD, 1, none⟩ (.int .i64 t.two)).setCell ⟨gbD, 2, none⟩ (.int .i64 (i : Int))) := by exact bel_of
          have bTk_ : BK (((vn20.setCell ⟨gbD, 0, none⟩ (.int .i64 t.one)).setCell ⟨gbD, 1, none⟩ (.int .i64 t.two)).setCell ⟨gbD, 2, none⟩ (.int .i64 (i : Int))) gbT _ _ := (BK.far (BK.far (BK.far bTk (p := ⟨gbD, 0, none⟩) (by first | assumption | exact Ne.symm (by assumption)) _) (p := ⟨gbD, 1, none⟩) (by first | assumption | exact Ne.symm (by assumption)) _) (p := ⟨gbD, 2, none⟩) (by first | assumption | exact Ne.symm (by assumption)) _); clear bTk; have bTk := bTk_; clear bTk_
          have bl3_ : BK (((vn20.setCell ⟨gbD, 0, none⟩ (.int .i64 t.one)).setCell ⟨gbD, 1, none⟩ (.int .i64 t.two)).setCell ⟨gbD, 2, none⟩ (.int .i64 (i : Int))) (g2 + 1) _ _ := (BK.far (BK.far (BK.far bl3 (p := ⟨gbD, 0, none⟩) (by first | assumption | exact Ne.symm (by assumption)) _) (p := ⟨gbD, 1, none⟩) (by first | assumption | exact Ne.symm (by assumption)) _) (p := ⟨gbD, 2, none⟩) (by first | assumption | exact Ne.symm (by assumption)) _); clear bl3; have bl3 := bl3_; clear bl3_
          have bU_ : BK (((vn20.setCell ⟨gbD, 0, none⟩ (.int .i64 t.one)).setCell ⟨gbD, 1, none⟩ (.int .i64 t.two)).setCell ⟨gbD, 2, none⟩ (.int .i64 (i : Int))) gbU _ _ := (BK.far (BK.far (BK.far bU (p := ⟨gbD, 0, none⟩) (by first | assumption | exact Ne.symm (by assumption)) _) (p := ⟨gbD, 1, none⟩) (by first | assumption | exact Ne.symm (by assumption)) _) (p := ⟨gbD, 2, none⟩) (by first | assumption | exact Ne.symm (by assumption)) _); clear bU; have bU := bU_; clear bU_
          have bD_ := (((bD.set 0 (.int .i64 t.one)).set 1 (.int .i64 t.two)).set 2 (.int .i64 (i : Int)))
          simp at bD_
          clear bD; have bD := bD_; clear bD_
          clear y0 f0 y1 f1 y2 f2
          refine hK _ _ (fun _ => en21) ?_
          clear hK K
          generalize (((vn20.setCell ⟨gbD, 0, none⟩ (.int .i64 t.one)).setCell ⟨gbD, 1, none⟩ (.int .i64 t.two)).setCell ⟨gbD, 2, none⟩ (.int .i64 (i : Int))) = vn22 at *
          refine any_done (by kernel_rfl) (NoPanic.normal ?_)
          exact ⟨gbU, gbD, rfl, rfl, hC.trans (en21.mono hC.size), bTk, bl3, bU, bD⟩
        case hr =>
         intro gU gD W6 hR
         obtain ⟨hC6, cT, cL, cU, cD⟩ := hR
         clear hC hCg bT bl2 bTc0 bTc1 bTc2 bTc3 lbT bl2c0 bl2c1 bl2c2 lbl2 hgT hgL
         have hC := hC6
         clear hC6
         have hCg : Below g2 w W6 := by rw [← hg2]; exact hC
         have lcT := cT.lt
         have cTc0 := cT.cell 0
         have cTc1 := cT.cell 1
         have cTc2 := cT.cell 2
         have cTc3 := cT.cell 3
         simp at cTc0 cTc1 cTc2 cTc3
         have lcL := cL.lt
         have cLc0 := cL.cell 0
         have cLc1 := cL.cell 1
         have cLc2 := cL.cell 2
         simp at cLc0 cLc1 cLc2
         have lcU := cU.lt
         have cUc0 := cU.cell 0
         have cUc1 := cU.cell 1
         have cUc2 := cU.cell 2
         simp at cUc0 cUc1 cUc2
         have lcD := cD.lt
         have cDc0 := cD.cell 0
         have cDc1 := cD.cell 1
         have cDc2 := cD.cell 2
         simp at cDc0 cDc1 cDc2
         cases c1 : (src == t.two) <;> cases c2 : (dst == t.one) <;> cases c3 : (src == t.one) <;> cases c4 : (dst == t.two)
         ·skip
          have HW := Lib.hid (show worthP E ts ⟨src, dst, (i : Int)⟩ = none by rw [HWP.out, if_neg (fun hh => by rw [beq_iff_eq.2 hh.1] at c1; cases c1), if_neg (fun hh => by rw [beq_iff_eq.2 hh.1] at c3; cases c3)])
          go_upto_region 12 with fail
          go_quiet (fail)
          go_wp2_with fail
          refine bodyPost_ret (v := .tuple #[.int .i64 (-t.lo), .bool false]) (by simp [results, Try.results54, go_sem]) rfl ⟨⟨-t.lo, false, rfl, HW.out⟩, by exact bel_of⟩
         ·skip
          have HW := Lib.hid (show worthP E ts ⟨src, dst, (i : Int)⟩ = none by rw [HWP.out, if_neg (fun hh => by rw [beq_iff_eq.2 hh.1] at c1; cases c1), if_neg (fun hh => by rw [beq_iff_eq.2 hh.1] at c3; cases c3)])
          go_upto_region 12 with fail
          go_quiet (fail)
          go_wp2_with fail
          refine bodyPost_ret (v := .tuple #[.int .i64 (-t.lo), .bool false]) (by simp [results, Try.results54, go_sem]) rfl ⟨⟨-t.lo, false, rfl, HW.out⟩, by exact bel_of⟩
         ·skip
          have HW := Lib.hid (show worthP E ts ⟨src, dst, (i : Int)⟩ = none by rw [HWP.out, if_neg (fun hh => by rw [beq_iff_eq.2 hh.1] at c1; cases c1), if_neg (fun hh => by rw [beq_iff_eq.2 hh.2] at c4; cases c4)])
          go_upto_region 12 with fail
          go_quiet (fail)
          go_wp2_with fail
          refine bodyPost_ret (v := .tuple #[.int .i64 (-t.lo), .bool false]) (by simp [results, Try.results54, go_sem]) rfl ⟨⟨-t.lo, false, rfl, HW.out⟩, by exact bel_of⟩
         ·skip
          have HW := Lib.hid (show worthP E ts ⟨src, dst, (i : Int)⟩ = some (-t.lo) by rw [HWP.out, if_neg (fun hh => by rw [beq_iff_eq.2 hh.1] at c1; cases c1), if_pos ⟨eq_of_beq c3, eq_of_beq c4⟩])
          go_upto_region 12 with fail
          go_quiet (fail)
          go_wp2_with fail
          refine bodyPost_ret (v := .tuple #[.int .i64 (-t.lo), .bool true]) (by simp [results, Try.results54, go_sem]) rfl ⟨⟨-t.lo, true, rfl, HW.out⟩, by exact bel_of⟩
         ·skip
          have HW := Lib.hid (show worthP E ts ⟨src, dst, (i : Int)⟩ = none by rw [HWP.out, if_neg (fun hh => by rw [beq_iff_eq.2 hh.1] at c1; cases c1), if_neg (fun hh => by rw [beq_iff_eq.2 hh.1] at c3; cases c3)])
          go_upto_region 12 with fail
          go_quiet (fail)
          go_wp2_with fail
          refine bodyPost_ret (v := .tuple #[.int .i64 (-t.lo), .bool false]) (by simp [results, Try.results54, go_sem]) rfl ⟨⟨-t.lo, false, rfl, HW.out⟩, by exact bel_of⟩
         ·skip
          have HW := Lib.hid (show worthP E ts ⟨src, dst, (i : Int)⟩ = none by rw [HWP.out, if_neg (fun hh => by rw [beq_iff_eq.2 hh.1] at c1; cases c1), if_neg (fun hh => by rw [beq_iff_eq.2 hh.1] at c3; cases c3)])
          go_upto_region 12 with fail
          go_quiet (fail)
          go_wp2_with fail
          refine bodyPost_ret (v := .tuple #[.int .i64 (-t.lo), .bool false]) (by simp [results, Try.results54, go_sem]) rfl ⟨⟨-t.lo, false, rfl, HW.out⟩, by exact bel_of⟩
         ·skip
          have HW := Lib.hid (show worthP E ts ⟨src, dst, (i : Int)⟩ = none by rw [HWP.out, if_neg (fun hh => by rw [beq_iff_eq.2 hh.1] at c1; cases c1), if_neg (fun hh => by rw [beq_iff_eq.2 hh.2] at c4; cases c4)])
          go_upto_region 12 with fail
          go_quiet (fail)
          go_wp2_with fail
          refine bodyPost_ret (v := .tuple #[.int .i64 (-t.lo), .bool false]) (by simp [results, Try.results54, go_sem]) rfl ⟨⟨-t.lo, false, rfl, HW.out⟩, by exact bel_of⟩
         ·skip
          have HW := Lib.hid (show worthP E ts ⟨src, dst, (i : Int)⟩ = some (-t.lo) by rw [HWP.out, if_neg (fun hh => by rw [beq_iff_eq.2 hh.1] at c1; cases c1), if_pos ⟨eq_of_beq c3, eq_of_beq c4⟩])
          go_upto_region 12 with fail
          go_quiet (fail)
          go_wp2_with fail
          refine bodyPost_ret (v := .tuple #[.int .i64 (-t.lo), .bool true]) (by simp [results, Try.results54, go_sem]) rfl ⟨⟨-t.lo, true, rfl, HW.out⟩, by exact bel_of⟩
         ·skip
          have HW := Lib.hid (show worthP E ts ⟨src, dst, (i : Int)⟩ = none by rw [HWP.out, if_neg (fun hh => by rw [beq_iff_eq.2 hh.2] at c2; cases c2), if_neg (fun hh => by rw [beq_iff_eq.2 hh.1] at c3; cases c3)])
          go_upto_region 12 with fail
          go_quiet (fail)
          go_wp2_with fail
          refine bodyPost_ret (v := .tuple #[.int .i64 (-t.lo), .bool false]) (by simp [results, Try.results54, go_sem]) rfl ⟨⟨-t.lo, false, rfl, HW.out⟩, by exact bel_of⟩
         ·skip
          have HW := Lib.hid (show worthP E ts ⟨src, dst, (i : Int)⟩ = none by rw [HWP.out, if_neg (fun hh => by rw [beq_iff_eq.2 hh.2] at c2; cases c2), if_neg (fun hh => by rw [beq_iff_eq.2 hh.1] at c3; cases c3)])
          go_upto_region 12 with fail
          go_quiet (fail)
          go_wp2_with fail
          refine bodyPost_ret (v := .tuple #[.int .i64 (-t.lo), .bool false]) (by simp [results, Try.results54, go_sem]) rfl ⟨⟨-t.lo, false, rfl, HW.out⟩, by exact bel_of⟩
         ·skip
          have HW := Lib.hid (show worthP E ts ⟨src, dst, (i : Int)⟩ = none by rw [HWP.out, if_neg (fun hh => by rw [beq_iff_eq.2 hh.2] at c2; cases c2), if_neg (fun hh => by rw [beq_iff_eq.2 hh.2] at c4; cases c4)])
          go_upto_region 12 with fail
          go_quiet (fail)
          go_wp2_with fail
          refine bodyPost_ret (v := .tuple #[.int .i64 (-t.lo), .bool false]) (by simp [results, Try.results54, go_sem]) rfl ⟨⟨-t.lo, false, rfl, HW.out⟩, by exact bel_of⟩
         ·skip
          have HW := Lib.hid (show worthP E ts ⟨src, dst, (i : Int)⟩ = some (-t.lo) by rw [HWP.out, if_neg (fun hh => by rw [beq_iff_eq.2 hh.2] at c2; cases c2), if_pos ⟨eq_of_beq c3, eq_of_beq c4⟩])
          go_upto_region 12 with fail
          go_quiet (fail)
          go_wp2_with fail
          refine bodyPost_ret (v := .tuple #[.int .i64 (-t.lo), .bool true]) (by simp [results, Try.results54, go_sem]) rfl ⟨⟨-t.lo, true, rfl, HW.out⟩, by exact bel_of⟩
         ·skip
          have HW := Lib.hid (show worthP E ts ⟨src, dst, (i : Int)⟩ = some t.hi by rw [HWP.out, if_pos ⟨eq_of_beq c1, eq_of_beq c2⟩])
          go_wp2_with fail
          refine bodyPost_ret (v := .tuple #[.int .i64 (t.hi), .bool true]) (by simp [results, Try.results54, go_sem]) rfl ⟨⟨t.hi, true, rfl, HW.out⟩, by exact bel_of⟩
         ·skip
          have HW := Lib.hid (show worthP E ts ⟨src, dst, (i : Int)⟩ = some t.hi by rw [HWP.out, if_pos ⟨eq_of_beq c1, eq_of_beq c2⟩])
          go_wp2_with fail
          refine bodyPost_ret (v := .tuple #[.int .i64 (t.hi), .bool true]) (by simp [results, Try.results54, go_sem]) rfl ⟨⟨t.hi, true, rfl, HW.out⟩, by exact bel_of⟩
         ·skip
          have HW := Lib.hid (show worthP E ts ⟨src, dst, (i : Int)⟩ = some t.hi by rw [HWP.out, if_pos ⟨eq_of_beq c1, eq_of_beq c2⟩])
          go_wp2_with fail
          refine bodyPost_ret (v := .tuple #[.int .i64 (t.hi), .bool true]) (by simp [results, Try.results54, go_sem]) rfl ⟨⟨t.hi, true, rfl, HW.out⟩, by exact bel_of⟩
         ·skip
          have HW := Lib.hid (show worthP E ts ⟨src, dst, (i : Int)⟩ = some t.hi by rw [HWP.out, if_pos ⟨eq_of_beq c1, eq_of_beq c2⟩])
          go_wp2_with fail
          refine bodyPost_ret (v := .tuple #[.int .i64 (t.hi), .bool true]) (by simp [results, Try.results54, go_sem]) rfl ⟨⟨t.hi, true, rfl, HW.out⟩, by exact bel_of⟩
end Go.Proofs.Ytkljdbgkhghiaaa
