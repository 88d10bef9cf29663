/- A book with a test more. Appends to a slice that is cut at its length, and to one without its first element. What another test tells, by the reference. How sharp each edge is at least, by the reference. -/
import Derived.Test.YtkljdbgkhghiaaaP14
import Derived.ArgAppend
set_option linter.all false
set_option linter.unnecessarySimpa false
set_option linter.unusedSimpArgs false
set_option linter.unusedVariables false
set_option linter.unusedSectionVars false

set_option linter.all false
namespace Go.Proofs.Ytkljdbgkhghiaaa
open Go.RowKit Kp

theorem own_more {W : World} {base base' e sz n : Nat} {v : Value} {xs : List Value} (h : W.ownsRow base e sz v n xs) (hb : base' ≤ base) : W.ownsRow base' e sz v n xs := by
  obtain ⟨hl, h2⟩ := h
  refine ⟨hl, ?_⟩
  rcases h2 with h2 | ⟨g, cap, cur, h3, h4, h5⟩
  · exact .inl h2
  · exact .inr ⟨g, cap, cur, h3, Nat.le_trans hb h4, h5⟩
theorem own_slice {W : World} {base e sz n : Nat} {v : Value} {xs : List Value} (h : W.ownsRow base e sz v n xs) : ∃ A c, v = .slice A n c := by
  rcases h.2 with ⟨rfl, rfl⟩ | ⟨g, cap, cur, rfl, _⟩
  · exact ⟨_, _, rfl⟩
  · exact ⟨_, _, rfl⟩
theorem own_far {W : World} {base e sz n : Nat} {v : Value} {xs : List Value} (h : W.ownsRow base e sz v n xs) {p : Addr} (hp : v.ownBlock ≠ some p.block) (u : Value) : (W.setCell p u).ownsRow base e sz v n xs := by
  obtain ⟨hl, h2⟩ := h
  refine ⟨hl, ?_⟩
  rcases h2 with h2 | ⟨g, cap, cur, hv, hb, hh, r⟩
  · exact .inl h2
  · refine .inr ⟨g, cap, cur, hv, hb, ?_, r⟩
    rw [Below.heap_setCell]
    · exact hh
    · rintro rfl
      exact hp (by rw [hv]; rfl)
set_option maxHeartbeats 8000000 in
set_option maxRecDepth 100000 in
theorem with_any (E : Int) (t : Kt) (ts : List Kt) (v : Value) (w : World) (hl : ts.length ≤ 1000) (h : RT w w.heap.size v ts) :
    Calls Try.prog 68 #[.agg #[.int .i64 E, v], tV t] w fun x w' => ∃ v', x = .returned (.agg #[.int .i64 E, v']) ∧ OwnT w' w.heap.size v' (ts ++ [t]) ∧ Below w.heap.size w w' := by
  obtain ⟨b, off, cap, A, rfl, hAx⟩ := h.slice
  clear hAx
  have hR := h
  clear h
  obtain ⟨n0, hn0⟩ : ∃ n, w.heap.size = n := ⟨_, rfl⟩
  have hC : Below n0 w w := Below.refl _ _
  obtain ⟨one, two, lo, hi⟩ := t
  unfold tV
  go_enter Try.func68, Try.ntmps68
  go_upto_region 1 with fail
  have bx : BK (w.alloc (.cells #[.int .i64 E, .slice A ts.length cap] 24)) (n0) #[.int .i64 E, .slice A ts.length cap] 24 := BK.new' _ _ _ (n0) hn0
  have hsbx : (w.alloc (.cells #[.int .i64 E, .slice A ts.length cap] 24)).heap.size = n0 + 1 := by simp [hn0]
  replace hC : Below n0 w (w.alloc (.cells #[.int .i64 E, .slice A ts.length cap] 24)) := Below.alloc hC (by have := hC.size; omega) _
  replace hR := (RS.below hR (w' := (w.alloc (.cells #[.int .i64 E, .slice A ts.length cap] 24))) (Below.alloc (Below.refl _ _) (Nat.le_refl _) _)).more (B' := (w.alloc (.cells #[.int .i64 E, .slice A ts.length cap] 24)).heap.size) (by simp)
  generalize (w.alloc (.cells #[.int .i64 E, .slice A ts.length cap] 24)) = Wbx at *
  have bt : BK (Wbx.alloc (.cells #[.int .i64 one, .int .i64 two, .int .i64 lo, .int .i64 hi] 56)) (n0 + 1) #[.int .i64 one, .int .i64 two, .int .i64 lo, .int .i64 hi] 56 := BK.new' _ _ _ (n0 + 1) hsbx
  have hsbt : (Wbx.alloc (.cells #[.int .i64 one, .int .i64 two, .int .i64 lo, .int .i64 hi] 56)).heap.size = n0 + 1 + 1 := by simp [hsbx]
  replace hC : Below n0 w (Wbx.alloc (.cells #[.int .i64 one, .int .i64 two, .int .i64 lo, .int .i64 hi] 56)) := Below.alloc hC (by have := hC.size; omega) _
  replace hR := (RS.below hR (w' := (Wbx.alloc (.cells #[.int .i64 one, .int .i64 two, .int .i64 lo, .int .i64 hi] 56))) (Below.alloc (Below.refl _ _) (Nat.le_refl _) _)).more (B' := (Wbx.alloc (.cells #[.int .i64 one, .int .i64 two, .int .i64 lo, .int .i64 hi] 56)).heap.size) (by simp)
  replace bx := bx.alloc (.cells #[.int .i64 one, .int .i64 two, .int .i64 lo, .int .i64 hi] 56)
  generalize (Wbx.alloc (.cells #[.int .i64 one, .int .i64 two, .int .i64 lo, .int .i64 hi] 56)) = Wbt at *
  clear hsbx
  have rs : BK (Wbt.alloc (.cells #[.int .i64 0, .slice none 0 0] 24)) (n0 + 1 + 1) #[.int .i64 0, .slice none 0 0] 24 := BK.new' _ _ _ (n0 + 1 + 1) hsbt
  have hsrs : (Wbt.alloc (.cells #[.int .i64 0, .slice none 0 0] 24)).heap.size = n0 + 1 + 1 + 1 := by simp [hsbt]
  replace hC : Below n0 w (Wbt.alloc (.cells #[.int .i64 0, .slice none 0 0] 24)) := Below.alloc hC (by have := hC.size; omega) _
  replace hR := (RS.below hR (w' := (Wbt.alloc (.cells #[.int .i64 0, .slice none 0 0] 24))) (Below.alloc (Below.refl _ _) (Nat.le_refl _) _)).more (B' := (Wbt.alloc (.cells #[.int .i64 0, .slice none 0 0] 24)).heap.size) (by simp)
  replace bx := bx.alloc (.cells #[.int .i64 0, .slice none 0 0] 24)
  replace bt := bt.alloc (.cells #[.int .i64 0, .slice none 0 0] 24)
  generalize (Wbt.alloc (.cells #[.int .i64 0, .slice none 0 0] 24)) = Wrs at *
  clear hsbt
  generalize hv0 : Value.slice A ts.length cap = vs at *
  clear hv0
  have lbx := bx.lt
  have bxc0 := bx.cell 0
  have bxc1 := bx.cell 1
  simp at bxc0 bxc1
  have lbt := bt.lt
  have btc0 := bt.cell 0
  have btc1 := bt.cell 1
  have btc2 := bt.cell 2
  have btc3 := bt.cell 3
  simp at btc0 btc1 btc2 btc3
  have d0y : Below Wrs.heap.size Wrs Wrs.drew := by exact bel_of
  refine wp_region_noPanic (plain_any [0, 1, 3, 4, 6, 9] (Below Wrs.heap.size Wrs) mixed ?_)
  (refine any_take 0 ?_ (by rfl) (by kernel_rfl) (fun _ _ _ _ _ hx => hx.elim) (.inl ⟨by rfl, ?_⟩) (by with_reducible assumption) ?_; rotate_left; (intro X hX; obtain ⟨r1, r2⟩ := Below.rules hX; clear hX; go_simp; rfl); simp only [List.getElem_toArray, List.getElem_cons_succ, List.getElem_cons_zero, Act.put, List.setIfInBounds_toArray, List.set_cons_succ, List.set_cons_zero])
  (refine any_take 1 ?_ (by rfl) (by kernel_rfl) (fun _ _ _ _ _ hx => hx.elim) (.inl ⟨by rfl, ?_⟩) (by with_reducible assumption) ?_; rotate_left; (intro X hX; obtain ⟨r1, r2⟩ := Below.rules hX; clear hX; go_simp; rfl); simp only [List.getElem_toArray, List.getElem_cons_succ, List.getElem_cons_zero, Act.put, List.setIfInBounds_toArray, List.set_cons_succ, List.set_cons_zero])
  (refine any_take 3 ?_ (by rfl) (by kernel_rfl) (fun _ _ _ _ _ hx => hx.elim) (.inl ⟨by rfl, ?_⟩) (by with_reducible assumption) ?_; rotate_left; (intro X hX; obtain ⟨r1, r2⟩ := Below.rules hX; clear hX; go_simp; rfl); simp only [List.getElem_toArray, List.getElem_cons_succ, List.getElem_cons_zero, Act.put, List.setIfInBounds_toArray, List.set_cons_succ, List.set_cons_zero])
  (refine any_take 4 ?_ (by rfl) (by kernel_rfl) (fun _ _ _ _ _ hx => hx.elim) (.inl ⟨by rfl, ?_⟩) (by with_reducible assumption) ?_; rotate_left; (intro X hX; obtain ⟨r1, r2⟩ := Below.rules hX; clear hX; go_simp; rfl); simp only [List.getElem_toArray, List.getElem_cons_succ, List.getElem_cons_zero, Act.put, List.setIfInBounds_toArray, List.set_cons_succ, List.set_cons_zero])
  (refine any_take 6 ?_ (by rfl) (by kernel_rfl) (fun _ _ _ _ _ hx => hx.elim) (.inl ⟨by rfl, ?_⟩) (by with_reducible assumption) ?_; rotate_left; (intro X hX; obtain ⟨r1, r2⟩ := Below.rules hX; clear hX; go_simp; rfl); simp only [List.getElem_toArray, List.getElem_cons_succ, List.getElem_cons_zero, Act.put, List.setIfInBounds_toArray, List.set_cons_succ, List.set_cons_zero])
  have dy1 : Below Wrs.heap.size Wrs Wrs.drew := by exact bel_of
  have hdr : Below Wrs.heap.size Wrs Wrs.drew := Below.drew (Below.refl _ _)
  replace rs := rs.below hdr rs.lt
  replace hR := (RS.below hR hdr).more hdr.size
  clear hdr
  generalize Wrs.drew = uy2 at *
  refine any_run2 (i := 2) (j := 7) (by kernel_rfl) (by rfl) (by rfl) (by rfl) (by rfl) ?_ ?_
  ·skip
   intro K hK
   have qy4 := dy1.size
   have ey3 : Below Wrs.heap.size Wrs (uy2.alloc (.cells #[] 56)) := Below.alloc dy1 dy1.size _
   have hnx : Below uy2.heap.size uy2 (uy2.alloc (.cells #[] 56)) := Below.alloc (Below.refl _ _) (Nat.le_refl _) _
   go_wp2_with fail
   replace rs := rs.below hnx rs.lt
   replace hR := (RS.below hR hnx).more hnx.size
   have em : BK (uy2.alloc (.cells #[] 56)) uy2.heap.size #[] 56 := BK.new _ _ _
   refine hK _ _ (fun _ => ey3) ?_
   clear hK K hnx
   generalize (uy2.alloc (.cells #[] 56)) = vy5 at *
   obtain ⟨gem, hgem⟩ : ∃ g, uy2.heap.size = g := ⟨_, rfl⟩
   have hqem : Wrs.heap.size ≤ gem := by omega
   rw [hgem] at em
   try rw [hgem]
   clear hgem
   refine any_run2 (i := 5) (j := 7) (by kernel_rfl) (by rfl) (by rfl) (by rfl) (by rfl) ?_ ?_
   ·skip
    intro K hK
    obtain ⟨xy8, vy7, hrun, hown, hbel, hsz, hkeep⟩ := app_all_kt (base := Wrs.heap.size) em hqem hR (by omega) ey3.size
    have HRUN := Lib.hid hrun; clear hrun
    have ey6 : Below Wrs.heap.size Wrs vy7 := hbel _ ey3
    have rs_ := hkeep _ _ _ rs (by simp); clear rs; have rs := rs_; clear rs_
    clear em hR; have oT := hown; clear hown hkeep hbel
    refine wp_append_run (.tmp 7) (.tmp 9) 22 _ rfl HRUN.out ?_
    refine hK _ _ (fun _ => ey6) ?_
    clear hK K HRUN
    simp only [List.getElem_toArray, List.getElem_cons_succ, List.getElem_cons_zero, Act.put, List.setIfInBounds_toArray, List.set_cons_succ, List.set_cons_zero]
    refine any_run1 (i := 7) (by kernel_rfl) (by rfl) (by kernel_rfl) ?_
    intro K hK
    have qy10 := ey6.size
    have ey9 : Below Wrs.heap.size Wrs (vy7.alloc (.cells #[.int .i64 one, .int .i64 two, .int .i64 lo, .int .i64 hi] 56)) := Below.alloc ey6 ey6.size _
    have hnx : Below vy7.heap.size vy7 (vy7.alloc (.cells #[.int .i64 one, .int .i64 two, .int .i64 lo, .int .i64 hi] 56)) := Below.alloc (Below.refl _ _) (Nat.le_refl _) _
    go_wp2_with fail
    replace rs := rs.below hnx rs.lt
    replace oT := OwnT.below oT hnx
    have el : BK (vy7.alloc (.cells #[.int .i64 one, .int .i64 two, .int .i64 lo, .int .i64 hi] 56)) vy7.heap.size #[.int .i64 one, .int .i64 two, .int .i64 lo, .int .i64 hi] 56 := BK.new _ _ _
    refine hK _ _ (fun _ => ey9) ?_
    clear hK K hnx
    generalize (vy7.alloc (.cells #[.int .i64 one, .int .i64 two, .int .i64 lo, .int .i64 hi] 56)) = vy11 at *
    obtain ⟨gel, hgel⟩ : ∃ g, vy7.heap.size = g := ⟨_, rfl⟩
    have hqel : Wrs.heap.size ≤ gel := by omega
    rw [hgel] at el
    try rw [hgel]
    clear hgel
    refine any_run1 (i := 8) (by kernel_rfl) (by rfl) (by kernel_rfl) ?_
    intro K hK
    obtain ⟨xy14, vy13, hrun, hown, hbel, hsz, hkeep⟩ := app_b_kt (x := ⟨one, two, lo, hi⟩) oT el (by omega) ey9.size
    have HRUN := Lib.hid hrun; clear hrun
    have ey12 : Below Wrs.heap.size Wrs vy13 := hbel _ ey9
    have rs_ := hkeep _ _ _ rs (by decide); clear rs; have rs := rs_; clear rs_
    clear oT el; have oT := hown; clear hown hkeep hbel
    refine wp_append_run (.tmp 10) (.tmp 12) 22 _ rfl HRUN.out ?_
    refine hK _ _ (fun _ => ey12) ?_
    clear hK K HRUN
    simp only [List.getElem_toArray, List.getElem_cons_succ, List.getElem_cons_zero, Act.put, List.setIfInBounds_toArray, List.set_cons_succ, List.set_cons_zero]
    obtain ⟨Ar, cr, rfl⟩ := own_slice oT
    generalize (ts ++ [(⟨one, two, lo, hi⟩ : Kt)]).length = nr at *
    (refine any_take 9 ?_ (by rfl) (by kernel_rfl) (fun _ _ _ _ _ hx => hx.elim) (.inl ⟨by rfl, ?_⟩) (by with_reducible assumption) ?_; rotate_left; (intro X hX; obtain ⟨r1, r2⟩ := Below.rules hX; clear hX; go_simp; rfl); simp only [List.getElem_toArray, List.getElem_cons_succ, List.getElem_cons_zero, Act.put, List.setIfInBounds_toArray, List.set_cons_succ, List.set_cons_zero])
    refine any_run1 (i := 10) (by kernel_rfl) (by rfl) (by kernel_rfl) ?_
    intro K hK
    have lrs := rs.lt
    have rsc0 := rs.cell 0
    have rsc1 := rs.cell 1
    simp at rsc0 rsc1
    have rsf0 := rs.frozen 0
    have rsf1 := rs.frozen 1
    go_wp2_with fail
    refine hK _ _ (fun hx => (Bool.false_ne_true (hx.symm.trans (by kernel_rfl))).elim) ?_
    clear hK K lrs rsc0 rsc1 rsf0 rsf1
    refine any_done (by kernel_rfl) (NoPanic.normal ?_)
    have hC9 : Below n0 w vy13 := hC.trans (ey12.mono (by have := hC.size; omega))
    have hC8 : Below n0 w ((vy13.setCell ⟨n0 + 1 + 1, 0, none⟩ (.int .i64 E)).setCell ⟨n0 + 1 + 1, 1, none⟩ (.slice Ar nr cr)) := Below.setCell (Below.setCell hC9 (by show n0 ≤ n0 + 1 + 1; omega) _) (by show n0 ≤ n0 + 1 + 1; omega) _
    have rs2 := (rs.set 0 (.int .i64 E)).set 1 (.slice Ar nr cr)
    simp at rs2
    have z0 := rs2.cell 0
    have z1 := rs2.cell 1
    simp at z0 z1
    have hne : ∀ p : Addr, p.block = n0 + 1 + 1 → (Value.slice Ar nr cr).ownBlock ≠ some p.block := fun p hp hq => by
      obtain ⟨c, hc⟩ := own_block oT hq
      rw [hp] at hc
      have hr := rs
      unfold BK at hr
      rw [hr] at hc
      injection hc with hc
      injection hc with _ hc
      exact absurd hc (by decide)
    have hT : OwnT ((vy13.setCell ⟨n0 + 1 + 1, 0, none⟩ (.int .i64 E)).setCell ⟨n0 + 1 + 1, 1, none⟩ (.slice Ar nr cr)) _ (.slice Ar nr cr) (ts ++ [⟨one, two, lo, hi⟩]) := own_far (own_far oT (p := ⟨n0 + 1 + 1, 0, none⟩) (hne _ rfl) (.int .i64 E)) (p := ⟨n0 + 1 + 1, 1, none⟩) (hne _ rfl) (.slice Ar nr cr)
    go_wp2_with fail
    exact bodyPost_ret (v := .agg #[.int .i64 E, .slice Ar nr cr]) (by simp [results, Try.results68, go_sem, z0, z1]) rfl ⟨.slice Ar nr cr, rfl, own_more hT hC.size, by first | exact hC8 | (rw [hn0]; exact hC8)⟩
   ·skip
    intro K hK
    have qy16 := ey3.size
    have ey15 : Below Wrs.heap.size Wrs (vy5.alloc (.cells #[.int .i64 one, .int .i64 two, .int .i64 lo, .int .i64 hi] 56)) := Below.alloc ey3 ey3.size _
    have hnx : Below vy5.heap.size vy5 (vy5.alloc (.cells #[.int .i64 one, .int .i64 two, .int .i64 lo, .int .i64 hi] 56)) := Below.alloc (Below.refl _ _) (Nat.le_refl _) _
    go_wp2_with fail
    replace rs := rs.below hnx rs.lt
    replace em := em.below hnx em.lt
    replace hR := (RS.below hR hnx).more hnx.size
    have el : BK (vy5.alloc (.cells #[.int .i64 one, .int .i64 two, .int .i64 lo, .int .i64 hi] 56)) vy5.heap.size #[.int .i64 one, .int .i64 two, .int .i64 lo, .int .i64 hi] 56 := BK.new _ _ _
    refine hK _ _ (fun _ => ey15) ?_
    clear hK K hnx
    generalize (vy5.alloc (.cells #[.int .i64 one, .int .i64 two, .int .i64 lo, .int .i64 hi] 56)) = vy17 at *
    obtain ⟨gel, hgel⟩ : ∃ g, vy5.heap.size = g := ⟨_, rfl⟩
    have hqel : Wrs.heap.size ≤ gel := by omega
    rw [hgel] at el
    try rw [hgel]
    clear hgel
    refine any_run1 (i := 5) (by kernel_rfl) (by rfl) (by kernel_rfl) ?_
    intro K hK
    obtain ⟨xy20, vy19, hrun, hown, hbel, hsz, hkeep⟩ := app_all_kt (base := Wrs.heap.size) em hqem hR (by omega) ey15.size
    have HRUN := Lib.hid hrun; clear hrun
    have ey18 : Below Wrs.heap.size Wrs vy19 := hbel _ ey15
    have rs_ := hkeep _ _ _ rs (by simp); clear rs; have rs := rs_; clear rs_
    have el_ := hkeep _ _ _ el (by simp); clear el; have el := el_; clear el_
    clear em hR; have oT := hown; clear hown hkeep hbel
    refine wp_append_run (.tmp 7) (.tmp 9) 22 _ rfl HRUN.out ?_
    refine hK _ _ (fun _ => ey18) ?_
    clear hK K HRUN
    simp only [List.getElem_toArray, List.getElem_cons_succ, List.getElem_cons_zero, Act.put, List.setIfInBounds_toArray, List.set_cons_succ, List.set_cons_zero]
    refine any_run1 (i := 8) (by kernel_rfl) (by rfl) (by kernel_rfl) ?_
    intro K hK
    obtain ⟨xy23, vy22, hrun, hown, hbel, hsz, hkeep⟩ := app_b_kt (x := ⟨one, two, lo, hi⟩) oT el (by omega) ey18.size
    have HRUN := Lib.hid hrun; clear hrun
    have ey21 : Below Wrs.heap.size Wrs vy22 := hbel _ ey18
    have rs_ := hkeep _ _ _ rs (by decide); clear rs; have rs := rs_; clear rs_
    clear oT el; have oT := hown; clear hown hkeep hbel
    refine wp_append_run (.tmp 10) (.tmp 12) 22 _ rfl HRUN.out ?_
    refine hK _ _ (fun _ => ey21) ?_
    clear hK K HRUN
    simp only [List.getElem_toArray, List.getElem_cons_succ, List.getElem_cons_zero, Act.put, List.setIfInBounds_toArray, List.set_cons_succ, List.set_cons_zero]
    obtain ⟨Ar, cr, rfl⟩ := own_slice oT
    generalize (ts ++ [(⟨one, two, lo, hi⟩ : Kt)]).length = nr at *
    (refine any_take 9 ?_ (by rfl) (by kernel_rfl) (fun _ _ _ _ _ hx => hx.elim) (.inl ⟨by rfl, ?_⟩) (by with_reducible assumption) ?_; rotate_left; (intro X hX; obtain ⟨r1, r2⟩ := Below.rules hX; clear hX; go_simp; rfl); simp only [List.getElem_toArray, List.getElem_cons_succ, List.getElem_cons_zero, Act.put, List.setIfInBounds_toArray, List.set_cons_succ, List.set_cons_zero])
    refine any_run1 (i := 10) (by kernel_rfl) (by rfl) (by kernel_rfl) ?_
    intro K hK
    have lrs := rs.lt
    have rsc0 := rs.cell 0
    have rsc1 := rs.cell 1
    simp at rsc0 rsc1
    have rsf0 := rs.frozen 0
    have rsf1 := rs.frozen 1
    go_wp2_with fail
    refine hK _ _ (fun hx => (Bool.false_ne_true (hx.symm.trans (by kernel_rfl))).elim) ?_
    clear hK K lrs rsc0 rsc1 rsf0 rsf1
    refine any_done (by kernel_rfl) (NoPanic.normal ?_)
    have hC9 : Below n0 w vy22 := hC.trans (ey21.mono (by have := hC.size; omega))
    have hC8 : Below n0 w ((vy22.setCell ⟨n0 + 1 + 1, 0, none⟩ (.int .i64 E)).setCell ⟨n0 + 1 + 1, 1, none⟩ (.slice Ar nr cr)) := Below.setCell (Below.setCell hC9 (by show n0 ≤ n0 + 1 + 1; omega) _) (by show n0 ≤ n0 + 1 + 1; omega) _
    have rs2 := (rs.set 0 (.int .i64 E)).set 1 (.slice Ar nr cr)
    simp at rs2
    have z0 := rs2.cell 0
    have z1 := rs2.cell 1
    simp at z0 z1
    have hne : ∀ p : Addr, p.block = n0 + 1 + 1 → (Value.slice Ar nr cr).ownBlock ≠ some p.block := fun p hp hq => by
      obtain ⟨c, hc⟩ := own_block oT hq
      rw [hp] at hc
      have hr := rs
      unfold BK at hr
      rw [hr] at hc
      injection hc with hc
      injection hc with _ hc
      exact absurd hc (by decide)
    have hT : OwnT ((vy22.setCell ⟨n0 + 1 + 1, 0, none⟩ (.int .i64 E)).setCell ⟨n0 + 1 + 1, 1, none⟩ (.slice Ar nr cr)) _ (.slice Ar nr cr) (ts ++ [⟨one, two, lo, hi⟩]) := own_far (own_far oT (p := ⟨n0 + 1 + 1, 0, none⟩) (hne _ rfl) (.int .i64 E)) (p := ⟨n0 + 1 + 1, 1, none⟩) (hne _ rfl) (.slice Ar nr cr)
    go_wp2_with fail
    exact bodyPost_ret (v := .agg #[.int .i64 E, .slice Ar nr cr]) (by simp [results, Try.results68, go_sem, z0, z1]) rfl ⟨.slice Ar nr cr, rfl, own_more hT hC.size, by first | exact hC8 | (rw [hn0]; exact hC8)⟩
  ·skip
   intro K hK
   have qy25 := dy1.size
   have ey24 : Below Wrs.heap.size Wrs (uy2.alloc (.cells #[.int .i64 one, .int .i64 two, .int .i64 lo, .int .i64 hi] 56)) := Below.alloc dy1 dy1.size _
   have hnx : Below uy2.heap.size uy2 (uy2.alloc (.cells #[.int .i64 one, .int .i64 two, .int .i64 lo, .int .i64 hi] 56)) := Below.alloc (Below.refl _ _) (Nat.le_refl _) _
   go_wp2_with fail
   replace rs := rs.below hnx rs.lt
   replace hR := (RS.below hR hnx).more hnx.size
   have el : BK (uy2.alloc (.cells #[.int .i64 one, .int .i64 two, .int .i64 lo, .int .i64 hi] 56)) uy2.heap.size #[.int .i64 one, .int .i64 two, .int .i64 lo, .int .i64 hi] 56 := BK.new _ _ _
   refine hK _ _ (fun _ => ey24) ?_
   clear hK K hnx
   generalize (uy2.alloc (.cells #[.int .i64 one, .int .i64 two, .int .i64 lo, .int .i64 hi] 56)) = vy26 at *
   obtain ⟨gel, hgel⟩ : ∃ g, uy2.heap.size = g := ⟨_, rfl⟩
   have hqel : Wrs.heap.size ≤ gel := by omega
   rw [hgel] at el
   try rw [hgel]
   clear hgel
   refine any_run1 (i := 2) (by kernel_rfl) (by rfl) (by kernel_rfl) ?_
   intro K hK
   have qy28 := ey24.size
   have ey27 : Below Wrs.heap.size Wrs (vy26.alloc (.cells #[] 56)) := Below.alloc ey24 ey24.size _
   have hnx : Below vy26.heap.size vy26 (vy26.alloc (.cells #[] 56)) := Below.alloc (Below.refl _ _) (Nat.le_refl _) _
   go_wp2_with fail
   replace rs := rs.below hnx rs.lt
   replace el := el.below hnx el.lt
   replace hR := (RS.below hR hnx).more hnx.size
   have em : BK (vy26.alloc (.cells #[] 56)) vy26.heap.size #[] 56 := BK.new _ _ _
   refine hK _ _ (fun _ => ey27) ?_
   clear hK K hnx
   generalize (vy26.alloc (.cells #[] 56)) = vy29 at *
   obtain ⟨gem, hgem⟩ : ∃ g, vy26.heap.size = g := ⟨_, rfl⟩
   have hqem : Wrs.heap.size ≤ gem := by omega
   rw [hgem] at em
   try rw [hgem]
   clear hgem
   refine any_run1 (i := 5) (by kernel_rfl) (by rfl) (by kernel_rfl) ?_
   intro K hK
   obtain ⟨xy32, vy31, hrun, hown, hbel, hsz, hkeep⟩ := app_all_kt (base := Wrs.heap.size) em hqem hR (by omega) ey27.size
   have HRUN := Lib.hid hrun; clear hrun
   have ey30 : Below Wrs.heap.size Wrs vy31 := hbel _ ey27
   have rs_ := hkeep _ _ _ rs (by simp); clear rs; have rs := rs_; clear rs_
   have el_ := hkeep _ _ _ el (by simp); clear el; have el := el_; clear el_
   clear em hR; have oT := hown; clear hown hkeep hbel
   refine wp_append_run (.tmp 7) (.tmp 9) 22 _ rfl HRUN.out ?_
   refine hK _ _ (fun _ => ey30) ?_
   clear hK K HRUN
   simp only [List.getElem_toArray, List.getElem_cons_succ, List.getElem_cons_zero, Act.put, List.setIfInBounds_toArray, List.set_cons_succ, List.set_cons_zero]
   refine any_run1 (i := 8) (by kernel_rfl) (by rfl) (by kernel_rfl) ?_
   intro K hK
   obtain ⟨xy35, vy34, hrun, hown, hbel, hsz, hkeep⟩ := app_b_kt (x := ⟨one, two, lo, hi⟩) oT el (by omega) ey30.size
   have HRUN := Lib.hid hrun; clear hrun
   have ey33 : Below Wrs.heap.size Wrs vy34 := hbel _ ey30
   have rs_ := hkeep _ _ _ rs (by decide); clear rs; have rs := rs_; clear rs_
   clear oT el; have oT := hown; clear hown hkeep hbel
   refine wp_append_run (.tmp 10) (.tmp 12) 22 _ rfl HRUN.out ?_
   refine hK _ _ (fun _ => ey33) ?_
   clear hK K HRUN
   simp only [List.getElem_toArray, List.getElem_cons_succ, List.getElem_cons_zero, Act.put, List.setIfInBounds_toArray, List.set_cons_succ, List.set_cons_zero]
   obtain ⟨Ar, cr, rfl⟩ := own_slice oT
   generalize (ts ++ [(⟨one, two, lo, hi⟩ : Kt)]).length = nr at *
   (refine any_take 9 ?_ (by rfl) (by kernel_rfl) (fun _ _ _ _ _ hx => hx.elim) (.inl ⟨by rfl, ?_⟩) (by with_reducible assumption) ?_; rotate_left; (intro X hX; obtain ⟨r1, r2⟩ := Below.rules hX; clear hX; go_simp; rfl); simp only [List.getElem_toArray, List.getElem_cons_succ, List.getElem_cons_zero, Act.put, List.setIfInBounds_toArray, List.set_cons_succ, List.set_cons_zero])
   refine any_run1 (i := 10) (by kernel_rfl) (by rfl) (by kernel_rfl) ?_
   intro K hK
   have lrs := rs.lt
   have rsc0 := rs.cell 0
   have rsc1 := rs.cell 1
   simp at rsc0 rsc1
   have rsf0 := rs.frozen 0
   have rsf1 := rs.frozen 1
   go_wp2_with fail
   refine hK _ _ (fun hx => (Bool.false_ne_true (hx.symm.trans (by kernel_rfl))).elim) ?_
   clear hK K lrs rsc0 rsc1 rsf0 rsf1
   refine any_done (by kernel_rfl) (NoPanic.normal ?_)
   have hC9 : Below n0 w vy34 := hC.trans (ey33.mono (by have := hC.size; omega))
   have hC8 : Below n0 w ((vy34.setCell ⟨n0 + 1 + 1, 0, none⟩ (.int .i64 E)).setCell ⟨n0 + 1 + 1, 1, none⟩ (.slice Ar nr cr)) := Below.setCell (Below.setCell hC9 (by show n0 ≤ n0 + 1 + 1; omega) _) (by show n0 ≤ n0 + 1 + 1; omega) _
   have rs2 := (rs.set 0 (.int .i64 E)).set 1 (.slice Ar nr cr)
   simp at rs2
   have z0 := rs2.cell 0
   have z1 := rs2.cell 1
   simp at z0 z1
   have hne : ∀ p : Addr, p.block = n0 + 1 + 1 → (Value.slice Ar nr cr).ownBlock ≠ some p.block := fun p hp hq => by
     obtain ⟨c, hc⟩ := own_block oT hq
     rw [hp] at hc
     have hr := rs
     unfold BK at hr
     rw [hr] at hc
     injection hc with hc
     injection hc with _ hc
     exact absurd hc (by decide)
   have hT : OwnT ((vy34.setCell ⟨n0 + 1 + 1, 0, none⟩ (.int .i64 E)).setCell ⟨n0 + 1 + 1, 1, none⟩ (.slice Ar nr cr)) _ (.slice Ar nr cr) (ts ++ [⟨one, two, lo, hi⟩]) := own_far (own_far oT (p := ⟨n0 + 1 + 1, 0, none⟩) (hne _ rfl) (.int .i64 E)) (p := ⟨n0 + 1 + 1, 1, none⟩) (hne _ rfl) (.slice Ar nr cr)
   go_wp2_with fail
   exact bodyPost_ret (v := .agg #[.int .i64 E, .slice Ar nr cr]) (by simp [results, Try.results68, go_sem, z0, z1]) rfl ⟨.slice Ar nr cr, rfl, own_more hT hC.size, by first | exact hC8 | (rw [hn0]; exact hC8)⟩

end Go.Proofs.Ytkljdbgkhghiaaa

set_option linter.all false
namespace Go.Proofs.Ytkljdbgkhghiaaa
open Go.RowKit Kp

/-- What is appended to a slice that is cut at its length: a new row. -/
theorem app_full {P : Program} {t e size bytes : Nat} {z : Value} (hinf : (P.info? e).map (fun i => (i.zero, i.size, i.bytes)) = some (some z, size, bytes)) (ht : P.underlying t = some (.slice e)) (hzs : z.cells.size = size) (hsz : 0 < size) (hb1 : bytes ≤ 1000)
    {base n : Nat} {W : World} {xs news : List Value} {v : Value} (hown : W.ownsRow base e size v n xs) {g tn : Nat} (hg : BK W g news.toArray tn) (hl : news.length = size) (h1 : ∀ u ∈ news, u.oneCell' = true) (hn : n ≤ 100000) (hbase : base ≤ W.heap.size) (ty : Nat) :
    ∃ A c, v = .slice A n c ∧ n ≤ c ∧ (A = none → c = 0) ∧ ∃ v' w2, (Builtin.append_ #[t, t] ty #[.slice A n n, .slice (some ⟨g, 0, none⟩) 1 1]).run P W = .ok v' w2 ∧ w2.ownsRow base e size v' (n + 1) (xs ++ news) ∧ (∀ w0, Below base w0 W → Below base w0 w2) ∧ Below W.heap.size W w2 := by
  obtain ⟨i0, hi0, hz0, hz1, hz2⟩ := info_parts hinf
  have hb2 : (n + 1) * bytes ≤ 100001 * 1000 := Nat.mul_le_mul (by omega) hb1
  rcases hown.2 with ⟨rfl, rfl⟩ | ⟨g1, cap, cur, rfl, hbg, hh, hc, hm, hs, htk⟩
  · obtain ⟨g', cap', w2, hrun, hown', hgr, _⟩ := app1 (P := P) t ty e i0 z size bytes ht hi0 hz0 hz1 hz2 hzs hsz hb1 base W (.slice none 0 0) 0 xs hown g news tn hg hl h1 hn hbase
    refine ⟨none, 0, rfl, Nat.le_refl _, fun _ => rfl, _, w2, hrun, hown', fun w0 hbw => Below.grown hbw hgr hbase fun k hk => (by cases hk), Below.grown (Below.refl _ _) hgr (Nat.le_refl _) fun k hk => (by cases hk)⟩
  · refine ⟨some ⟨g1, 0, none⟩, cap, rfl, hc, (by intro h; cases h), ?_⟩
    obtain ⟨v', w2, hrun, hown', hgr⟩ := run_append_arg_grows (P := P) W t ty e i0 z size bytes ht hi0 hz0 hz1 hz2 hzs hsz ⟨g1, 0, none⟩ n n xs hown.1
      (fun j u hj => by
        have hjl : j < xs.length := (List.getElem?_eq_some_iff.1 hj).1
        have e' : (⟨g1, 0, none⟩ : Addr).add j = ⟨g1, j, none⟩ := by unfold Addr.add; split <;> simp_all
        rw [e', cell_of_row W g1 j cur _ (0, 0) hh, ← hj]
        conv => rhs; rw [← htk]
        have := hown.1
        rw [List.getElem?_take_of_lt (by omega)]
        simp) ⟨g, 0, none⟩ 1 1 news (by omega)
      (fun j u hj => by
        have e' : (⟨g, 0, none⟩ : Addr).add j = ⟨g, j, none⟩ := by unfold Addr.add; split <;> simp_all
        rw [e', hg.cell j]; simpa using hj) (by omega) (by unfold maxLen; omega) (by omega)
    exact ⟨v', w2, hrun, own_more hown' hbase, fun w0 hbw => Below.grown hbw hgr hbase fun k hk => (by cases hk), Below.grown (Below.refl _ _) hgr (Nat.le_refl _) fun k hk => (by cases hk)⟩
theorem app_full_i64 {base g tn : Nat} {W : World} {l : List Int} {v : Value} {x : Int} (hown : OwnI 2 W base v l) (hg : BK W g #[.int .i64 x] tn) (hn : l.length ≤ 100000) (hbase : base ≤ W.heap.size) :
    ∃ A c, v = .slice A l.length c ∧ l.length ≤ c ∧ (A = none → c = 0) ∧ ∃ v' w2, (Builtin.append_ #[40, 40] 40 #[.slice A l.length l.length, .slice (some ⟨g, 0, none⟩) 1 1]).run Try.prog W = .ok v' w2 ∧ OwnI 2 w2 base v' (l ++ [x]) ∧ (∀ w0, Below base w0 W → Below base w0 w2) ∧ Below W.heap.size W w2 := by
  obtain ⟨A, c, h1, h2, h3, v', w2, h4, h5, h6⟩ := app_full (news := [.int .i64 x]) i64_info i64_slice rfl (by decide) (by decide) hown hg rfl (by simp [Value.oneCell']) hn hbase 40
  refine ⟨A, c, h1, h2, h3, v', w2, h4, ?_, h6⟩
  unfold OwnI
  rw [← ofI_app, List.length_append]
  exact h5
theorem app_full_kl {base g tn : Nat} {W : World} {l : List Kl} {v : Value} {x : Kl} (hown : OwnL W base v l) (hg : BK W g #[.int .i64 x.src, .int .i64 x.dst, .int .i64 x.tst] tn) (hn : l.length ≤ 100000) (hbase : base ≤ W.heap.size) :
    ∃ A c, v = .slice A l.length c ∧ l.length ≤ c ∧ (A = none → c = 0) ∧ ∃ v' w2, (Builtin.append_ #[25, 25] 25 #[.slice A l.length l.length, .slice (some ⟨g, 0, none⟩) 1 1]).run Try.prog W = .ok v' w2 ∧ OwnL w2 base v' (l ++ [x]) ∧ (∀ w0, Below base w0 W → Below base w0 w2) ∧ Below W.heap.size W w2 := by
  obtain ⟨A, c, h1, h2, h3, v', w2, h4, h5, h6⟩ := app_full (news := encL x) kl_info kl_slice rfl (by decide) (by decide) hown hg rfl (by intro u hu; simp [encL] at hu; rcases hu with rfl | rfl | rfl <;> rfl) hn hbase 25
  refine ⟨A, c, h1, h2, h3, v', w2, h4, ?_, h6⟩
  unfold OwnL
  rw [← ofG_app, List.length_append]
  exact h5

theorem addr_add (b j : Nat) : (⟨b, 0, none⟩ : Addr).add j = ⟨b, j, none⟩ := by unfold Addr.add; split <;> simp_all
theorem setCells_block (b : Nat) : ∀ (vs : List Value) (o : Nat) (w : World) (k : Nat), k ≠ b → (w.setCells b o vs).heap[k]? = w.heap[k]?
  | [], _, _, _, _ => rfl
  | v :: vs, o, w, k, h => by
    unfold World.setCells
    rw [setCells_block b vs _ _ k h, Below.heap_setCell _ _ _ _ h]
theorem setCells_below {n b : Nat} {w0 : World} (hb : n ≤ b) : ∀ (vs : List Value) (o : Nat) (w : World), Below n w0 w → Below n w0 (w.setCells b o vs)
  | [], _, _, h => h
  | v :: vs, o, w, h => by
    unfold World.setCells
    exact setCells_below hb vs _ _ (Below.setCell h (by exact hb) _)
theorem setCells_size (b : Nat) : ∀ (vs : List Value) (o : Nat) (w : World), (w.setCells b o vs).heap.size = w.heap.size
  | [], _, _ => rfl
  | v :: vs, o, w => by
    unfold World.setCells
    rw [setCells_size b vs]
    simp [World.setCell]

set_option maxRecDepth 20000 in
theorem app_tail {base g cap ge tn : Nat} {W : World} {k : Kl} {l : List Kl} (hown : OwnL W base (.slice (some ⟨g, 0, none⟩) (l.length + 1) cap) (k :: l)) (hl0 : 0 < l.length) (hg : BK W ge #[.int .i64 k.src, .int .i64 k.dst, .int .i64 k.tst] tn) (hn : l.length ≤ 1000) (hbase : base ≤ W.heap.size) :
    ∃ v' w2, (Builtin.append_ #[25, 25] 25 #[.slice (some ⟨g, 3, none⟩) l.length (cap - 1), .slice (some ⟨ge, 0, none⟩) 1 1]).run Try.prog W = .ok v' w2 ∧ RL w2 w2.heap.size v' (l ++ [k]) ∧ (∀ w0, Below base w0 W → Below base w0 w2) := by
  obtain ⟨i0, hi0, hz0, hz1, hz2⟩ := info_parts kl_info
  have hbk := hg
  obtain ⟨hlen, h2⟩ := hown
  have hll := ofG_length encL_len l
  have hold : ∀ j u, (ofG encL l)[j]? = some u → W.cell? ⟨g, 3 + j, none⟩ = some u := by
    intro j u hj
    have hjl : j < (ofG encL l).length := (List.getElem?_eq_some_iff.1 hj).1
    rcases h2 with ⟨hv, _⟩ | ⟨g1, cap1, cur, hv, hbg, hh, hc, hm, hs, htk⟩
    · cases hv
    · injection hv with hv1 hv2 hv3
      injection hv1 with hv1; injection hv1 with hv1
      subst hv1
      rw [cell_of_row W g (3 + j) cur _ (0, 0) hh]
      have e1 : (ofG encL (k :: l))[3 + j]? = some u := by
        have : ofG encL (k :: l) = encL k ++ ofG encL l := by simp [ofG]
        rw [this, List.getElem?_append_right (by simp [encL]), ← hj]
        congr 1
        simp [encL]
      rw [← e1, ← htk, List.getElem?_take_of_lt (by simp only [List.length_cons]; omega)]
      simp
  rcases h2 with ⟨hv, _⟩ | ⟨g1, cap1, cur, hv, hbg, hh, hc, hm, hs, htk⟩
  · cases hv
  · injection hv with hv1 hv2 hv3
    injection hv1 with hv1; injection hv1 with hv1
    subst hv1; subst hv3
    have hnews : ∀ j u, (encL k)[j]? = some u → W.cell? ((⟨ge, 0, none⟩ : Addr).add j) = some u := fun j u hj => by
      rw [addr_add, hg.cell j]; simpa [encL] using hj
    have hone : ∀ u ∈ encL k, u.oneCell' = true := by intro u hu; simp [encL] at hu; rcases hu with rfl | rfl | rfl <;> rfl
    have hglt : g < W.heap.size := (Array.getElem?_eq_some_iff.1 hh).1
    simp only [List.length_cons] at hc
    by_cases hr : l.length + 1 ≤ cap - 1
    · have hcell : ∀ j, j < (encL k).length → (W.cell? ⟨g, 3 + l.length * 3 + j, none⟩).isSome = true := by
        intro j hj
        have hj3 : j < 3 := hj
        rw [cell_of_row W g _ cur _ (0, 0) hh, Array.getElem?_eq_getElem (by omega)]
        rfl
      have hrun := run_append_room_cells (P := Try.prog) W 25 25 44 i0 kl_slice hi0 g 3 l.length (cap - 1) ⟨ge, 0, none⟩ 1 1 (encL k) (by rw [hz1]; rfl) hnews hone hr
        (fun j hj => by rw [hz1]; exact hcell j hj) (fun j hj => by simp [World.frozen?, hh])
      rw [hz1] at hrun
      refine ⟨_, _, hrun, ?_, fun w0 hb => setCells_below hbg _ _ _ hb⟩
      refine ⟨_, cap - 1, g, 3, by rw [List.length_append]; rfl, ⟨by rw [ofG_length encL_len], by rw [List.length_append]; exact hr⟩, fun _ => ⟨rfl, by rw [setCells_size]; exact hglt⟩, fun j hj => ?_⟩
      rw [← ofG_app] at hj ⊢
      by_cases hj2 : j < (ofG encL l).length
      · rw [List.getElem?_append_left hj2, World.cell?_setCells_out _ _ _ _ _ (fun _ _ => .inl (by dsimp only; omega))]
        rw [List.getElem?_eq_getElem hj2]
        exact hold j _ (List.getElem?_eq_getElem hj2)
      · obtain ⟨r, rfl⟩ := Nat.exists_eq_add_of_le (Nat.le_of_not_lt hj2)
        have hr3 : r < (encL k).length := by rw [List.length_append] at hj; omega
        have := World.cell?_setCells_in g (encL k) (3 + l.length * 3) W hcell r hr3
        rw [List.getElem?_append_right (by omega), Nat.add_sub_cancel_left, List.getElem?_eq_getElem hr3, ← this]
        congr 2
        omega
    · have hb2 : (l.length + 1) * 24 ≤ 100001 * 1000 := Nat.mul_le_mul (by omega) (by omega)
      obtain ⟨v', w2, hrun, hown', hgr⟩ := run_append_arg_grows (P := Try.prog) W 25 25 44 i0 _ 3 24 kl_slice hi0 hz0 hz1 hz2 rfl (by decide) ⟨g, 3, none⟩ l.length (cap - 1) (ofG encL l) hll
        (fun j u hj => by rw [Addr.add_lit]; exact hold j u hj) ⟨ge, 0, none⟩ 1 1 (encL k) rfl hnews (by omega) (by unfold maxLen; omega) (by omega)
      refine ⟨v', w2, hrun, ?_, fun w0 hb => Below.grown hb hgr hbase fun k hk => (by cases hk)⟩
      rw [ofG_app] at hown'
      have := RS.of_own hown'
      unfold RL
      rw [List.length_append]
      exact this
end Go.Proofs.Ytkljdbgkhghiaaa

set_option linter.all false
namespace Go.Proofs.Ytkljdbgkhghiaaa
open Go.RowKit Kp

theorem testE_ok {N : Nat} {t : Kt} (h : testE N t = 0) : 0 ≤ t.one ∧ t.one < N ∧ 0 ≤ t.two ∧ t.two < N ∧ t.one ≠ t.two ∧ -1000 ≤ t.lo ∧ t.lo ≤ t.hi ∧ t.hi ≤ 1000 := by
  unfold testE at h
  split at h
  · cases h
  · rename_i h1
    split at h
    · cases h
    · rename_i h2
      simp [argBad, rngBad, inB] at h1 h2
      omega
theorem okb_snoc {N : Nat} {ts : List Kt} {t : Kt} (h : Okb N ts) (ht : testE N t = 0) : Okb N (ts ++ [t]) :=
  ⟨h.pos, h.few, fun q hq => by
    rcases List.mem_append.1 hq with hq | hq
    · exact h.tst q hq
    · obtain rfl : q = t := by simpa using hq
      exact testE_ok ht⟩
/-- What another test tells. -/
def tellsP (N : Nat) (ts : List Kt) (t : Kt) : Int :=
  if Agr N (ts ++ [t]) then (if t.lo ≤ -D N ts t.one.toNat t.two.toNat ∧ D N ts t.two.toNat t.one.toNat ≤ t.hi then 0 else 1) else 2
def tellsV (E : Int) (ts : List Kt) (t : Kt) (e : Int) : Value := .tuple #[.int .i64 (if e = 0 then tellsP E.toNat ts t else 0), .int .i64 e]
theorem tellsV_bad {E : Int} {ts : List Kt} {t : Kt} {e : Int} (h : e ≠ 0) : tellsV E ts t e = .tuple #[.int .i64 0, .int .i64 e] := by unfold tellsV; rw [if_neg h]
theorem tellsV_ok {N : Nat} {ts : List Kt} {t : Kt} : tellsV (N : Int) ts t 0 = .tuple #[.int .i64 (tellsP N ts t), .int .i64 0] := by unfold tellsV; rw [if_pos rfl, Int.toNat_natCast]

set_option maxHeartbeats 8000000 in
set_option maxRecDepth 100000 in
theorem tellsR_any (E : Int) (ts : List Kt) (t : Kt) (v : Value) (w : World) (hl : ts.length ≤ 1000) (h : RT w w.heap.size v ts) :
    Calls Try.prog 40 #[.agg #[.int .i64 E, v], tV t] w fun x w' => x = .returned (tellsV E ts t (openE E ts (testE E t))) ∧ Below w.heap.size w w' := by
  obtain ⟨b, off, cap, A, rfl, hAx⟩ := h.slice
  clear hAx
  have hR := h
  clear h
  obtain ⟨n0, hn0⟩ : ∃ n, w.heap.size = n := ⟨_, rfl⟩
  have hC : Below n0 w w := Below.refl _ _
  obtain ⟨one, two, lo, hi⟩ := t
  unfold tV
  go_enter Try.func40, Try.ntmps40
  go_wp2_with fail
  have bx : BK (w.alloc (.cells #[.int .i64 E, .slice A ts.length cap] 24)) (n0) #[.int .i64 E, .slice A ts.length cap] 24 := BK.new' _ _ _ (n0) hn0
  have hsbx : (w.alloc (.cells #[.int .i64 E, .slice A ts.length cap] 24)).heap.size = n0 + 1 := by simp [hn0]
  replace hC : Below n0 w (w.alloc (.cells #[.int .i64 E, .slice A ts.length cap] 24)) := Below.alloc hC (by have := hC.size; omega) _
  replace hR := (RS.below hR (w' := (w.alloc (.cells #[.int .i64 E, .slice A ts.length cap] 24))) (Below.alloc (Below.refl _ _) (Nat.le_refl _) _)).more (B' := (w.alloc (.cells #[.int .i64 E, .slice A ts.length cap] 24)).heap.size) (by simp)
  generalize (w.alloc (.cells #[.int .i64 E, .slice A ts.length cap] 24)) = Wbx at *
  have bt : BK (Wbx.alloc (.cells #[.int .i64 one, .int .i64 two, .int .i64 lo, .int .i64 hi] 56)) (n0 + 1) #[.int .i64 one, .int .i64 two, .int .i64 lo, .int .i64 hi] 56 := BK.new' _ _ _ (n0 + 1) hsbx
  have hsbt : (Wbx.alloc (.cells #[.int .i64 one, .int .i64 two, .int .i64 lo, .int .i64 hi] 56)).heap.size = n0 + 1 + 1 := by simp [hsbx]
  replace hC : Below n0 w (Wbx.alloc (.cells #[.int .i64 one, .int .i64 two, .int .i64 lo, .int .i64 hi] 56)) := Below.alloc hC (by have := hC.size; omega) _
  replace hR := (RS.below hR (w' := (Wbx.alloc (.cells #[.int .i64 one, .int .i64 two, .int .i64 lo, .int .i64 hi] 56))) (Below.alloc (Below.refl _ _) (Nat.le_refl _) _)).more (B' := (Wbx.alloc (.cells #[.int .i64 one, .int .i64 two, .int .i64 lo, .int .i64 hi] 56)).heap.size) (by simp)
  replace bx := bx.alloc (.cells #[.int .i64 one, .int .i64 two, .int .i64 lo, .int .i64 hi] 56)
  generalize (Wbx.alloc (.cells #[.int .i64 one, .int .i64 two, .int .i64 lo, .int .i64 hi] 56)) = Wbt at *
  clear hsbx
  clear hsbt
  refine (refBook_any E ts _ _ hl hR).mono ?_
  rintro e w1 ⟨rfl, hb⟩
  replace hC : Below n0 w w1 := hC.trans (hb.mono (by have := hC.size; omega))
  replace hR := (RS.below hR hb).more hb.size
  replace bx := bx.below hb bx.lt
  replace bt := bt.below hb bt.lt
  clear hb
  have lbx := bx.lt
  have bxc0 := bx.cell 0
  have bxc1 := bx.cell 1
  simp at bxc0 bxc1
  have lbt := bt.lt
  have btc0 := bt.cell 0
  have btc1 := bt.cell 1
  have btc2 := bt.cell 2
  have btc3 := bt.cell 3
  simp at btc0 btc1 btc2 btc3
  obtain ⟨e, he⟩ : ∃ e, bookE E ts = e := ⟨_, rfl⟩
  have HE := Lib.hid he
  rw [he]
  clear he
  by_cases h0 : e = 0
  case neg =>
    have b1 : (e != 0) = true := by simp [h0]
    have HS := Lib.hid (show openE E ts (testE E ⟨one, two, lo, hi⟩) = e by rw [openE_bad (by rw [HE.out]; exact h0), HE.out])
    have HN := Lib.hid h0
    clear h0
    go_wp2_with fail
    clear lbx bxc0 bxc1
    clear lbt btc0 btc1 btc2 btc3
    refine (refBook_any E ts _ _ hl hR).mono ?_
    rintro e w2 ⟨rfl, hb⟩
    replace hC : Below n0 w w2 := hC.trans (hb.mono (by have := hC.size; omega))
    replace hR := (RS.below hR hb).more hb.size
    replace bx := bx.below hb bx.lt
    replace bt := bt.below hb bt.lt
    clear hb
    rw [HE.out]
    go_wp2_with fail
    exact bodyPost_ret (v := .tuple #[.int .i64 0, .int .i64 e]) (by simp [results, Try.results40, go_sem]) rfl ⟨by rw [HS.out, tellsV_bad HN.out], by first | exact hC | (rw [hn0]; exact hC) | (with_reducible rw [hn0]; exact bel_of) | exact bel_of⟩
  subst h0
  obtain ⟨N, rfl, ho, hl40⟩ := bookE_ok HE.out
  have HO := Lib.hid ho
  have hE := ho.few
  clear ho
  go_wp2_with fail
  clear lbx bxc0 bxc1
  clear lbt btc0 btc1 btc2 btc3
  refine (isTest_any N ⟨one, two, lo, hi⟩ _ (by omega)).mono ?_
  rintro e w2 ⟨rfl, hb⟩
  replace hC : Below n0 w w2 := hC.trans (hb.mono (by have := hC.size; omega))
  replace hR := (RS.below hR hb).more hb.size
  replace bx := bx.below hb bx.lt
  replace bt := bt.below hb bt.lt
  clear hb
  have lbx := bx.lt
  have bxc0 := bx.cell 0
  have bxc1 := bx.cell 1
  simp at bxc0 bxc1
  have lbt := bt.lt
  have btc0 := bt.cell 0
  have btc1 := bt.cell 1
  have btc2 := bt.cell 2
  have btc3 := bt.cell 3
  simp at btc0 btc1 btc2 btc3
  obtain ⟨e, he⟩ : ∃ e, testE N ⟨one, two, lo, hi⟩ = e := ⟨_, rfl⟩
  have HT := Lib.hid he
  rw [he]
  clear he
  by_cases h0 : e = 0
  case neg =>
    have b1 : (e != 0) = true := by simp [h0]
    have HS := Lib.hid (show openE N ts (testE N ⟨one, two, lo, hi⟩) = e by rw [openE_ask HE.out (by rw [HT.out]; exact h0), HT.out])
    have HN := Lib.hid h0
    clear h0
    go_wp2_with fail
    clear lbx bxc0 bxc1
    clear lbt btc0 btc1 btc2 btc3
    refine (isTest_any N ⟨one, two, lo, hi⟩ _ (by omega)).mono ?_
    rintro e w3 ⟨rfl, hb⟩
    replace hC : Below n0 w w3 := hC.trans (hb.mono (by have := hC.size; omega))
    replace hR := (RS.below hR hb).more hb.size
    replace bx := bx.below hb bx.lt
    replace bt := bt.below hb bt.lt
    clear hb
    rw [HT.out]
    go_wp2_with fail
    exact bodyPost_ret (v := .tuple #[.int .i64 0, .int .i64 e]) (by simp [results, Try.results40, go_sem]) rfl ⟨by rw [HS.out, tellsV_bad HN.out], by first | exact hC | (rw [hn0]; exact hC) | (with_reducible rw [hn0]; exact bel_of) | exact bel_of⟩
  subst h0
  have HO2 := Lib.hid (okb_snoc HO.out HT.out)
  obtain ⟨t1, t2, t3, t4, t5, t6, t7, t8⟩ := testE_ok HT.out
  dsimp only at t1 t2 t3 t4 t5 t6 t7 t8
  obtain ⟨u, rfl⟩ : ∃ u : Nat, one = u := ⟨one.toNat, by omega⟩
  obtain ⟨v, rfl⟩ : ∃ v : Nat, two = v := ⟨two.toNat, by omega⟩
  have T5 := Lib.hid t5
  clear t1 t3 t5 t6 t7 t8
  go_wp2_with fail
  clear lbx bxc0 bxc1
  clear lbt btc0 btc1 btc2 btc3
  refine (agreeR_any N ts _ _ HO.out hl hR).mono ?_
  rintro e w3 ⟨rfl, hb⟩
  replace hC : Below n0 w w3 := hC.trans (hb.mono (by have := hC.size; omega))
  replace hR := (RS.below hR hb).more hb.size
  replace bx := bx.below hb bx.lt
  replace bt := bt.below hb bt.lt
  clear hb
  by_cases ha : Agr N ts
  case neg =>
    rw [decide_eq_false ha]
    have HS := Lib.hid (openE_clash HE.out HT.out ha)
    clear ha
    go_wp2_with fail
    exact bodyPost_ret (v := .tuple #[.int .i64 0, .int .i64 21]) (by simp [results, Try.results40, go_sem]) rfl ⟨by rw [HS.out, tellsV_bad (by decide)], by first | exact hC | (rw [hn0]; exact hC) | (with_reducible rw [hn0]; exact bel_of) | exact bel_of⟩
  rw [decide_eq_true ha]
  have HS := Lib.hid (openE_agr HE.out HT.out ha)
  have HA := Lib.hid ha
  clear ha
  have lbx := bx.lt
  have bxc0 := bx.cell 0
  have bxc1 := bx.cell 1
  simp at bxc0 bxc1
  have lbt := bt.lt
  have btc0 := bt.cell 0
  have btc1 := bt.cell 1
  have btc2 := bt.cell 2
  have btc3 := bt.cell 3
  simp at btc0 btc1 btc2 btc3
  go_wp2_with fail
  clear lbx bxc0 bxc1
  clear lbt btc0 btc1 btc2 btc3
  refine (with_any N ⟨u, v, lo, hi⟩ ts _ _ hl hR).mono ?_
  rintro e w4 ⟨vx, rfl, hX, hb⟩
  replace hC : Below n0 w w4 := hC.trans (hb.mono (by have := hC.size; omega))
  replace hR := (RS.below hR hb).more hb.size
  replace bx := bx.below hb bx.lt
  replace bt := bt.below hb bt.lt
  clear hb
  replace hX := OwnT.ri hX
  go_wp2_with fail
  refine (agreeR_any N (ts ++ [⟨u, v, lo, hi⟩]) _ _ HO2.out (by simp; omega) hX).mono ?_
  rintro e w5 ⟨rfl, hb⟩
  replace hC : Below n0 w w5 := hC.trans (hb.mono (by have := hC.size; omega))
  replace hR := (RS.below hR hb).more hb.size
  replace bx := bx.below hb bx.lt
  replace bt := bt.below hb bt.lt
  replace hX := (RS.below hX hb).more hb.size
  clear hb
  by_cases ha : Agr N (ts ++ [⟨u, v, lo, hi⟩])
  case neg =>
    rw [decide_eq_false ha]
    have HV := Lib.hid (show tellsP N ts ⟨u, v, lo, hi⟩ = 2 from if_neg ha)
    clear ha
    go_wp2_with fail
    exact bodyPost_ret (v := .tuple #[.int .i64 2, .int .i64 0]) (by simp [results, Try.results40, go_sem]) rfl ⟨by rw [HS.out, tellsV_ok, HV.out], by first | exact hC | (rw [hn0]; exact hC) | (with_reducible rw [hn0]; exact bel_of) | exact bel_of⟩
  rw [decide_eq_true ha]
  have hq : tellsP N ts ⟨u, v, lo, hi⟩ = if lo ≤ -D N ts u v ∧ D N ts v u ≤ hi then 0 else 1 := if_pos ha
  clear ha
  have lbx := bx.lt
  have bxc0 := bx.cell 0
  have bxc1 := bx.cell 1
  simp at bxc0 bxc1
  have lbt := bt.lt
  have btc0 := bt.cell 0
  have btc1 := bt.cell 1
  have btc2 := bt.cell 2
  have btc3 := bt.cell 3
  simp at btc0 btc1 btc2 btc3
  go_wp2_with fail
  clear lbx bxc0 bxc1
  clear lbt btc0 btc1 btc2 btc3
  refine (spanR_any N ts u v _ _ HO.out hl (by omega) (by omega) hR).mono ?_
  rintro e w6 ⟨rfl, hb⟩
  replace hC : Below n0 w w6 := hC.trans (hb.mono (by have := hC.size; omega))
  replace hR := (RS.below hR hb).more hb.size
  replace bx := bx.below hb bx.lt
  replace bt := bt.below hb bt.lt
  replace hX := (RS.below hX hb).more hb.size
  clear hb
  unfold spanA
  generalize -D N ts u v = dlo at *
  generalize D N ts v u = dhi at *
  have HQ := Lib.hid hq
  clear hq
  have lbx := bx.lt
  have bxc0 := bx.cell 0
  have bxc1 := bx.cell 1
  simp at bxc0 bxc1
  have lbt := bt.lt
  have btc0 := bt.cell 0
  have btc1 := bt.cell 1
  have btc2 := bt.cell 2
  have btc3 := bt.cell 3
  simp at btc0 btc1 btc2 btc3
  by_cases c1 : lo ≤ dlo
  · by_cases c2 : dhi ≤ hi
    · have HV := Lib.hid (show tellsP N ts ⟨u, v, lo, hi⟩ = 0 by rw [HQ.out]; exact if_pos ⟨c1, c2⟩)
      go_wp2_with fail
      exact bodyPost_ret (v := .tuple #[.int .i64 0, .int .i64 0]) (by simp [results, Try.results40, go_sem]) rfl ⟨by rw [HS.out, tellsV_ok, HV.out], by first | exact hC | (rw [hn0]; exact hC) | (with_reducible rw [hn0]; exact bel_of) | exact bel_of⟩
    · have HV := Lib.hid (show tellsP N ts ⟨u, v, lo, hi⟩ = 1 by rw [HQ.out]; exact if_neg fun h => c2 h.2)
      go_wp2_with fail
      exact bodyPost_ret (v := .tuple #[.int .i64 1, .int .i64 0]) (by simp [results, Try.results40, go_sem]) rfl ⟨by rw [HS.out, tellsV_ok, HV.out], by first | exact hC | (rw [hn0]; exact hC) | (with_reducible rw [hn0]; exact bel_of) | exact bel_of⟩
  · have HV := Lib.hid (show tellsP N ts ⟨u, v, lo, hi⟩ = 1 by rw [HQ.out]; exact if_neg fun h => c1 h.1)
    go_wp2_with fail
    exact bodyPost_ret (v := .tuple #[.int .i64 1, .int .i64 0]) (by simp [results, Try.results40, go_sem]) rfl ⟨by rw [HS.out, tellsV_ok, HV.out], by first | exact hC | (rw [hn0]; exact hC) | (with_reducible rw [hn0]; exact bel_of) | exact bel_of⟩

end Go.Proofs.Ytkljdbgkhghiaaa

set_option linter.all false
namespace Go.Proofs.Ytkljdbgkhghiaaa
open Go.RowKit Kp

theorem map_take_succ {α : Type} (f : Nat → α) (n i : Nat) (h : i < n) : ((List.range n).map f).take i ++ [f i] = ((List.range n).map f).take (i + 1) := by
  rw [List.take_succ_eq_append_getElem (by simpa using h)]; simp
/-- How sharp each edge is at least. -/
def leastP (N : Nat) (ts : List Kt) : List Int := (List.range N).map fun v => -D N ts v N
def leastL (E : Int) (ts : List Kt) (e : Int) : List Int := if e = 0 then leastP E.toNat ts else []
theorem leastL_bad {E : Int} {ts : List Kt} {e : Int} (h : e ≠ 0) : leastL E ts e = [] := if_neg h
theorem leastL_ok {N : Nat} {ts : List Kt} : leastL (N : Int) ts 0 = leastP N ts := by unfold leastL; rw [if_pos rfl, Int.toNat_natCast]
theorem ri_nil (W : World) (B : Nat) : RI W B (.slice none 0 0) [] := ⟨none, 0, 0, 0, rfl, ⟨by simp [ofI], Nat.le_refl _⟩, fun h => absurd rfl h, fun j hj => by simp [ofI] at hj⟩

set_option maxHeartbeats 8000000 in
set_option maxRecDepth 100000 in
theorem leastR_any (E : Int) (ts : List Kt) (v : Value) (w : World) (hl : ts.length ≤ 1000) (h : RT w w.heap.size v ts) :
    Calls Try.prog 30 #[.agg #[.int .i64 E, v]] w fun x w' => ∃ v', x = .returned (.tuple #[v', .int .i64 (openE E ts 0)]) ∧ RI w' w'.heap.size v' (leastL E ts (openE E ts 0)) ∧ Below w.heap.size w w' := by
  obtain ⟨b, off, cap, A, rfl, hAx⟩ := h.slice
  clear hAx
  have hR := h
  clear h
  obtain ⟨n0, hn0⟩ : ∃ n, w.heap.size = n := ⟨_, rfl⟩
  have hC : Below n0 w w := Below.refl _ _
  go_enter Try.func30, Try.ntmps30
  go_wp2_with fail
  have bx : BK (w.alloc (.cells #[.int .i64 E, .slice A ts.length cap] 24)) (n0) #[.int .i64 E, .slice A ts.length cap] 24 := BK.new' _ _ _ (n0) hn0
  have hsbx : (w.alloc (.cells #[.int .i64 E, .slice A ts.length cap] 24)).heap.size = n0 + 1 := by simp [hn0]
  replace hC : Below n0 w (w.alloc (.cells #[.int .i64 E, .slice A ts.length cap] 24)) := Below.alloc hC (by have := hC.size; omega) _
  replace hR := (RS.below hR (w' := (w.alloc (.cells #[.int .i64 E, .slice A ts.length cap] 24))) (Below.alloc (Below.refl _ _) (Nat.le_refl _) _)).more (B' := (w.alloc (.cells #[.int .i64 E, .slice A ts.length cap] 24)).heap.size) (by simp)
  generalize (w.alloc (.cells #[.int .i64 E, .slice A ts.length cap] 24)) = Wbx at *
  clear hsbx
  refine (needs_any E ts _ _ hl hR).mono ?_
  rintro e w1 ⟨rfl, hb⟩
  replace hC : Below n0 w w1 := hC.trans (hb.mono (by have := hC.size; omega))
  replace hR := (RS.below hR hb).more hb.size
  replace bx := bx.below hb bx.lt
  clear hb
  have lbx := bx.lt
  have bxc0 := bx.cell 0
  have bxc1 := bx.cell 1
  simp at bxc0 bxc1
  obtain ⟨e, he⟩ : ∃ e, openE E ts 0 = e := ⟨_, rfl⟩
  have HE := Lib.hid he
  rw [he]
  clear he
  by_cases h0 : e = 0
  case neg =>
    have b1 : (e != 0) = true := by simp [h0]
    have HN := Lib.hid h0
    clear h0
    go_wp2_with fail
    clear lbx bxc0 bxc1
    refine (needs_any E ts _ _ hl hR).mono ?_
    rintro e w2 ⟨rfl, hb⟩
    replace hC : Below n0 w w2 := hC.trans (hb.mono (by have := hC.size; omega))
    replace hR := (RS.below hR hb).more hb.size
    replace bx := bx.below hb bx.lt
    clear hb
    rw [HE.out]
    go_wp2_with fail
    exact bodyPost_ret (v := .tuple #[.slice none 0 0, .int .i64 e]) (by simp [results, Try.results30, go_sem]) rfl ⟨_, by rw [HE.out], by rw [HE.out, leastL_bad HN.out]; exact ri_nil _ _, by first | exact hC | (rw [hn0]; exact hC) | (with_reducible rw [hn0]; exact bel_of) | exact bel_of⟩
  subst h0
  obtain ⟨N, rfl, ho, hl40, _, hg, hbk⟩ := openE_ok HE.out
  have HO := Lib.hid ho
  have hE := ho.few
  have HA := Lib.hid hg
  clear ho hg hbk
  go_wp2_with fail
  clear lbx bxc0 bxc1
  refine (most_any N ts _ _ HO.out hl hR).mono ?_
  rintro e w2 ⟨g, rfl, hL, hb, hgl⟩
  replace hC : Below n0 w w2 := hC.trans (hb.mono (by have := hC.size; omega))
  replace hR := (RS.below hR hb).more hb.size
  replace bx := bx.below hb bx.lt
  clear hb
  go_wp2_with fail
  clear hgl
  have hlen := fwM_len2 N ts
  have hD : ∀ u, D N ts u N = nthI (fwM (N + 1) (N + 1) (initL N ts)) (u * (N + 1) + N) := fun u => rfl
  have HD := Lib.hid hD
  clear hD
  have hD2 := fun u => rng_D HO.out u N
  have HD2 := Lib.hid hD2
  clear hD2
  generalize fwM (N + 1) (N + 1) (initL N ts) = T at *
  obtain ⟨M, hM⟩ : ∃ M, (N + 1) * (N + 1) = M := ⟨_, rfl⟩
  rw [hM] at hlen ⊢
  have HM := Lib.hid hM
  clear hM
  go_loopw [5, 6] (fun acc iv wr => ∃ i : Nat, i ≤ N ∧ iv = .int .i64 i ∧ OwnI 2 wr w2.heap.size acc ((leastP N ts).take i) ∧ Below w2.heap.size w2 wr) (fun _ iv _ => N - (intOf iv).toNat)
  case atStart => exact ⟨0, Nat.zero_le _, rfl, by simpa using OwnI.nil _ _ _, Below.refl _ _⟩
  case round =>
    obtain ⟨i, hi, rfl, hown, hbr⟩ := hrel
    have hCr : Below n0 w wr := hC.trans (hbr.mono (by have := hC.size; omega))
    have bx' := bx.below hbr bx.lt
    have lbx := bx'.lt
    have bxc0 := bx'.cell 0
    simp at bxc0
    have HOW := Lib.hid hown
    clear hown
    by_cases hlt : i < N
    · have hq0 := idx_lt (n := N + 1) (u := i) (v := N) (by omega) (by omega)
      rw [HM.out] at hq0
      obtain ⟨m, hm⟩ : ∃ q, i * (N + 1) = q := ⟨_, rfl⟩
      obtain ⟨q, hq⟩ : ∃ q, m + N = q := ⟨_, rfl⟩
      rw [hm, hq] at hq0
      have hN2 : M ≤ 289 := by rw [← HM.out]; exact Nat.mul_le_mul (show N + 1 ≤ 17 by omega) (show N + 1 ≤ 17 by omega)
      have hqi : (i : Int) * ((N : Int) + 1) = (m : Int) := by rw [← hm]; push_cast; rfl
      have wm : IntKind.i64.wrap (m : Int) = m := by rw [IntKind.wrap_i64]; omega
      have sq : (m : Int) + (N : Int) = (q : Int) := by omega
      have wq : IntKind.i64.wrap (q : Int) = q := by rw [IntKind.wrap_i64]; omega
      have hL' := hL.below hbr
      have c1 := hL'.at (i := q) (by rw [hlen]; exact hq0)
      have lg := hL'.lt
      have hDk : D N ts i N = nthI T q := by rw [HD.out, hm, hq]
      have hDr := HD2.out i
      rw [hDk] at hDr
      have hTK := map_take_succ (fun v => -D N ts v N) N i hlt
      rw [hDk] at hTK
      generalize nthI T q = x at *
      have wx : IntKind.i64.wrap (-x) = -x := by rw [IntKind.wrap_i64]; unfold Kp.cap at hDr; omega
      obtain ⟨v', w6, hrun, hown', hb', hs', _⟩ := app_i64 HOW.out (-x) (by simp; omega) hbr.size hbr wr.heap.size rfl
      have hown2 : OwnI 2 w6 w2.heap.size v' ((leastP N ts).take (i + 1)) := by unfold leastP at hown' ⊢; rw [← hTK]; exact hown'
      have HO2 := Lib.hid hown2
      have HRUN := Lib.hid hrun
      have HB2 := Lib.hid hb'
      clear hown' hown2 hrun hTK hb' hDk hDr hm hq hN2 hs'
      go_wp2_with (at_builtin; refine wpList_append_run rfl (.tmp 20) (.tmp 33) 40 _ rfl HRUN.out ?_)
      go_roundw
      case rel => exact ⟨i + 1, by omega, by go_num, HO2.out, HB2.out⟩
      case measure => simp [intOf]; omega
    · have hie : i = N := by omega
      have hown := HOW.out
      rw [hie, List.take_of_length_le (by simp [leastP])] at hown
      have HO2 := Lib.hid hown
      clear hown HOW hie hL hbr
      go_wp2_with fail
      exact bodyPost_ret (v := .tuple #[u5, .int .i64 0]) (by simp [results, Try.results30, go_sem]) rfl ⟨_, by rw [HE.out], by rw [HE.out, leastL_ok]; exact HO2.out.ri, by first | exact hCr | (rw [hn0]; exact hCr)⟩
  

end Go.Proofs.Ytkljdbgkhghiaaa
