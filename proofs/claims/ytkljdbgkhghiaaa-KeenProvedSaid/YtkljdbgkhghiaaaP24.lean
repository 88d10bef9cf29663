/- Least of the program. -/
import Derived.Test.YtkljdbgkhghiaaaP23
set_option linter.all false
set_option linter.unnecessarySimpa false
set_option linter.unusedSimpArgs false
set_option linter.unusedVariables false
set_option linter.unusedSectionVars false

set_option linter.all false
namespace Go.Proofs.Ytkljdbgkhghiaaa
open Go.RowKit Kp

set_option maxHeartbeats 8000000 in
set_option maxRecDepth 100000 in
theorem leastP_any (E : Int) (ts : List Kt) (v : Value) (w : World) (hl : ts.length ≤ 1000) (h : RT w w.heap.size v ts) :
    Calls Try.prog 29 #[.agg #[.int .i64 E, v]] w (ListPost E ts leastP w) := by
  obtain ⟨b, off, cap, A, rfl, hAx⟩ := h.slice
  clear hAx
  have hR := h
  clear h
  obtain ⟨n0, hn0⟩ : ∃ n, w.heap.size = n := ⟨_, rfl⟩
  have hC : Below n0 w w := Below.refl _ _
  go_enter Try.func29, Try.ntmps29
  go_wp2_with fail
  have hqbx : n0 ≤ n0 := by have := hC.size; omega
  have bx : BK (w.alloc (.cells #[.int .i64 E, .slice A ts.length cap] 24)) (n0) #[.int .i64 E, .slice A ts.length cap] 24 := BK.new' _ _ _ (n0) hn0
  have hsbx : (w.alloc (.cells #[.int .i64 E, .slice A ts.length cap] 24)).heap.size = n0 + 1 := by simp [hn0]
  replace hC : Below n0 w (w.alloc (.cells #[.int .i64 E, .slice A ts.length cap] 24)) := Below.alloc hC (by have := hC.size; omega) _
  replace hR := (RS.below hR (w' := (w.alloc (.cells #[.int .i64 E, .slice A ts.length cap] 24))) (Below.alloc (Below.refl _ _) (Nat.le_refl _) _)).more (B' := (w.alloc (.cells #[.int .i64 E, .slice A ts.length cap] 24)).heap.size) (by simp)
  generalize (w.alloc (.cells #[.int .i64 E, .slice A ts.length cap] 24)) = Wbx at *
  have hzx : n0 ≤ Wbx.heap.size := by have := hC.size; omega
  clear hsbx
  refine (open_any E 0 ts _ _ hl hR).mono ?_
  rintro e w1 ⟨p, rfl, hop, hb⟩
  replace hC : Below n0 w w1 := hC.trans (hb.mono (by have := hC.size; omega))
  replace hR := (RS.below hR hb).more hb.size
  replace bx := bx.below hb bx.lt
  clear hb
  obtain ⟨e, he⟩ : ∃ e, openE E ts 0 = e := ⟨_, rfl⟩
  have HE := Lib.hid he
  rw [he] at hop ⊢
  clear he
  by_cases h0 : e = 0
  case neg =>
    clear hop
    have b1 : (e != 0) = true := by simp [h0]
    have HN := Lib.hid h0
    clear h0
    go_wp2_with fail
    exact bodyPost_ret (v := .tuple #[.slice none 0 0, .int .i64 e]) (by simp [results, Try.results29, go_sem]) rfl (ListPost.no HE.out HN.out (by first | exact hC | (rw [hn0]; exact hC)))
  subst h0
  obtain ⟨N, rfl, ho, hl40, h2, hg, hbk⟩ := openE_ok HE.out
  obtain ⟨gb, rfl, hBn, hgb, hRg⟩ := hop rfl
  rw [Int.toNat_natCast] at hBn
  have HO := Lib.hid ho
  have HG := Lib.hid hg
  have hE := ho.few
  clear ho h2 hg hbk hop hRg
  have lbx := bx.lt
  have bxc0 := bx.cell 0
  have bxc1 := bx.cell 1
  simp at bxc0 bxc1
  go_wp2_with fail
  clear lbx bxc0 bxc1
  have HBN := Lib.hid hBn
  clear hBn
  go_loopw [6, 18] (fun acc iv wr => ∃ i : Nat, i ≤ N ∧ iv = .int .i64 i ∧ OwnI 2 wr w1.heap.size acc ((leastP N ts).take i) ∧ Below w1.heap.size w1 wr) (fun _ iv _ => N - (intOf iv).toNat)
  case atStart => exact ⟨0, Nat.zero_le _, rfl, by simpa using OwnI.nil _ _ _, Below.refl _ _⟩
  case round =>
    obtain ⟨i, hi, rfl, hown, hbr⟩ := hrel
    have bx' := bx.below hbr bx.lt
    have lbx := bx'.lt
    have bxc0 := bx'.cell 0
    simp at bxc0
    by_cases hlt : i < N
    · obtain ⟨A, c, rfl⟩ := own_slice hown
      have hlj : ((leastP N ts).take i).length = i := by rw [List.length_take]; simp [leastP]; omega
      obtain ⟨hic, hA2⟩ : i ≤ c ∧ (A = none → c = 0) := by
        rcases hown.2 with ⟨hv, h0⟩ | ⟨g, cap, cur, hv, _, _, h3, _⟩
        · injection hv with q1 q2 q3
          rw [hlj] at q2
          exact ⟨by omega, fun _ => q3⟩
        · injection hv with q1 q2 q3
          rw [hlj] at h3
          subst q1; subst q3
          exact ⟨h3, fun h => by cases h⟩
      rw [hlj]
      rw [hlj] at hown
      have HOW := Lib.hid hown
      have HLJ := Lib.hid hlj
      clear hown hlj
      have hic2 : (i : Int) ≤ (c : Int) := by omega
      go_upto_region 8 with fail
      cases A with
      | none =>
        have h0 := hA2 rfl
        subst h0
        obtain rfl : i = 0 := by omega
        refine wp_region_noPanic (plain_any [0, 1, 2, 3, 4, 5, 6, 7, 9, 10] (Below wr.heap.size wr) mixed ?_)
        (refine any_take 0 ?_ (by rfl) (by kernel_rfl) (fun _ _ _ _ _ hx => hx.elim) (.inl ⟨by rfl, ?_⟩) (by exact bel_of) ?_; rotate_left; (intro X hX; obtain ⟨r1, r2⟩ := Below.rules hX; clear hX; go_simp; rfl); simp only [List.getElem_toArray, List.getElem_cons_succ, List.getElem_cons_zero, Act.put, List.setIfInBounds_toArray, List.set_cons_succ, List.set_cons_zero])
        (refine any_take 1 ?_ (by rfl) (by kernel_rfl) (fun _ _ _ _ _ hx => hx.elim) (.inl ⟨by rfl, ?_⟩) (by exact bel_of) ?_; rotate_left; (intro X hX; obtain ⟨r1, r2⟩ := Below.rules hX; clear hX; go_simp; rfl); simp only [List.getElem_toArray, List.getElem_cons_succ, List.getElem_cons_zero, Act.put, List.setIfInBounds_toArray, List.set_cons_succ, List.set_cons_zero])
        (refine any_take 2 ?_ (by rfl) (by kernel_rfl) (fun _ _ _ _ _ hx => hx.elim) (.inl ⟨by rfl, ?_⟩) (by exact bel_of) ?_; rotate_left; (intro X hX; obtain ⟨r1, r2⟩ := Below.rules hX; clear hX; go_simp; rfl); simp only [List.getElem_toArray, List.getElem_cons_succ, List.getElem_cons_zero, Act.put, List.setIfInBounds_toArray, List.set_cons_succ, List.set_cons_zero])
        (refine any_take 3 ?_ (by rfl) (by kernel_rfl) (fun _ _ _ _ _ hx => hx.elim) (.inl ⟨by rfl, ?_⟩) (by exact bel_of) ?_; rotate_left; (intro X hX; obtain ⟨r1, r2⟩ := Below.rules hX; clear hX; go_simp; rfl); simp only [List.getElem_toArray, List.getElem_cons_succ, List.getElem_cons_zero, Act.put, List.setIfInBounds_toArray, List.set_cons_succ, List.set_cons_zero])
        (refine any_take 4 ?_ (by rfl) (by kernel_rfl) (fun _ _ _ _ _ hx => hx.elim) (.inl ⟨by rfl, ?_⟩) (by exact bel_of) ?_; rotate_left; (intro X hX; obtain ⟨r1, r2⟩ := Below.rules hX; clear hX; go_simp; rfl); simp only [List.getElem_toArray, List.getElem_cons_succ, List.getElem_cons_zero, Act.put, List.setIfInBounds_toArray, List.set_cons_succ, List.set_cons_zero])
        (refine any_take 5 ?_ (by rfl) (by kernel_rfl) (fun _ _ _ _ _ hx => hx.elim) (.inl ⟨by rfl, ?_⟩) (by exact bel_of) ?_; rotate_left; (intro X hX; obtain ⟨r1, r2⟩ := Below.rules hX; clear hX; go_simp; rfl); simp only [List.getElem_toArray, List.getElem_cons_succ, List.getElem_cons_zero, Act.put, List.setIfInBounds_toArray, List.set_cons_succ, List.set_cons_zero])
        (refine any_take 6 ?_ (by rfl) (by kernel_rfl) (fun _ _ _ _ _ hx => hx.elim) (.inl ⟨by rfl, ?_⟩) (by exact bel_of) ?_; rotate_left; (intro X hX; obtain ⟨r1, r2⟩ := Below.rules hX; clear hX; go_simp; rfl); simp only [List.getElem_toArray, List.getElem_cons_succ, List.getElem_cons_zero, Act.put, List.setIfInBounds_toArray, List.set_cons_succ, List.set_cons_zero])
        (refine any_take 7 ?_ (by rfl) (by kernel_rfl) (fun _ _ _ _ _ hx => hx.elim) (.inl ⟨by rfl, ?_⟩) (by exact bel_of) ?_; rotate_left; (intro X hX; obtain ⟨r1, r2⟩ := Below.rules hX; clear hX; go_simp; rfl); simp only [List.getElem_toArray, List.getElem_cons_succ, List.getElem_cons_zero, Act.put, List.setIfInBounds_toArray, List.set_cons_succ, List.set_cons_zero])
        (refine any_take 9 ?_ (by rfl) (by kernel_rfl) (fun _ _ _ _ _ hx => hx.elim) (.inl ⟨by rfl, ?_⟩) (by exact bel_of) ?_; rotate_left; (intro X hX; obtain ⟨r1, r2⟩ := Below.rules hX; clear hX; go_simp; rfl); simp only [List.getElem_toArray, List.getElem_cons_succ, List.getElem_cons_zero, Act.put, List.setIfInBounds_toArray, List.set_cons_succ, List.set_cons_zero])
        (refine any_take 10 ?_ (by rfl) (by kernel_rfl) (fun _ _ _ _ _ hx => hx.elim) (.inl ⟨by rfl, ?_⟩) (by exact bel_of) ?_; rotate_left; (intro X hX; obtain ⟨r1, r2⟩ := Below.rules hX; clear hX; go_simp; rfl); simp only [List.getElem_toArray, List.getElem_cons_succ, List.getElem_cons_zero, Act.put, List.setIfInBounds_toArray, List.set_cons_succ, List.set_cons_zero])
        have hd0 : Below wr.heap.size wr wr.drew := Below.drew (Below.refl _ _)
        refine any_run1 (i := 8) (by kernel_rfl) (by rfl) (by kernel_rfl) ?_
        intro K3 hK3
        go_wp2_with fail
        refine (from_any N _ ts _ 0 gb 0 _ HO.out hl40 ⟨Int.le_refl 0, by have := HO.out.pos; omega⟩ (by omega) ((HBN.out.below hbr).below hd0)).mono ?_
        rintro e V1 ⟨gl, gm, nn, rfl, hL1, hM1, hb1, hgl1, _⟩
        have hb01 : Below wr.heap.size wr V1 := hd0.trans hb1
        refine hK3 _ _ (fun _ => hb01) ?_
        clear hK3 K3 hM1
        have cl := hL1.at (i := N) (by omega)
        rw [from_eq HO.out HG.out (by omega) (Nat.le_refl N)] at cl
        have ll := hL1.lt
        have hDr := D_rng HO.out HG.out (u := 0) (v := N) (by omega) (Nat.le_refl N)
        have hTK := map_take_succ (fun v => -D N ts v N) N 0 hlt
        have hTK2 : (leastP N ts).take 0 ++ [-D N ts 0 N] = (leastP N ts).take (0 + 1) := hTK
        clear hTK hL1
        generalize D N ts 0 N = x at *
        have wx : IntKind.i64.wrap (-x) = -x := by rw [IntKind.wrap_i64]; omega
        refine any_run1 (i := 11) (by kernel_rfl) (by rfl) (by kernel_rfl) ?_
        intro K3 hK3
        go_wp2_with fail
        refine hK3 _ _ (fun _ => hb01) ?_
        clear hK3 K3
        refine any_run1 (i := 12) (by kernel_rfl) (by rfl) (by kernel_rfl) ?_
        intro K3 hK3
        go_wp2_with fail
        refine hK3 _ _ (fun _ => hb01) ?_
        clear hK3 K3
        refine any_run1 (i := 13) (by kernel_rfl) (by rfl) (by kernel_rfl) ?_
        intro K3 hK3
        go_wp2_with fail
        refine hK3 _ _ (fun _ => hb01) ?_
        clear hK3 K3
        refine any_run1 (i := 14) (by kernel_rfl) (by rfl) (by kernel_rfl) ?_
        intro K3 hK3
        go_wp2_with fail
        refine hK3 _ _ (fun _ => hb01) ?_
        clear hK3 K3
        refine any_run1 (i := 15) (by kernel_rfl) (by rfl) (by kernel_rfl) ?_
        intro K3 hK3
        go_wp2_with fail
        refine hK3 _ _ (fun _ => hb01) ?_
        clear hK3 K3
        refine any_run1 (i := 16) (by kernel_rfl) (by rfl) (by kernel_rfl) ?_
        intro K3 hK3
        go_wp2_with fail
        obtain ⟨gv, hgv⟩ : ∃ n, V1.heap.size = n := ⟨_, rfl⟩
        have bX : BK (V1.alloc (.cells #[.int .i64 (-x)] 2)) gv #[.int .i64 (-x)] 2 := BK.new' _ _ _ gv hgv
        have hbX : Below V1.heap.size V1 (V1.alloc (.cells #[.int .i64 (-x)] 2)) := Below.alloc (Below.refl _ _) (Nat.le_refl _) _
        have hb0X := hb01.trans (hbX.mono hb01.size)
        refine hK3 _ _ (fun _ => hb0X) ?_
        clear hK3 K3 cl ll
        try rw [hgv]
        clear hgv
        obtain ⟨A2, c2, hu, hc2, hA2x, v', w9, hrun, hown', hbel, hb9⟩ := app_full_i64 ((HOW.out.below hb01).below hbX) bX (by first | (simp; done) | (simp; omega)) (Nat.le_trans hbr.size hb0X.size)
        rw [HLJ.out] at hu hrun
        injection hu with hu1 _ hu3
        subst hu1
        rw [hTK2] at hown'
        have hbw9 := hbel w1 (hbr.trans (hb0X.mono hbr.size))
        have hb9' : Below wr.heap.size wr w9 := hb0X.trans (hb9.mono hb0X.size)
        have HRUN := Lib.hid hrun
        have HO9 := Lib.hid hown'
        have HB9 := Lib.hid hbw9
        clear hrun hown' hbw9 hbel hb9 bX hTK2 hc2 hA2x hu3
        generalize V1.alloc (.cells #[.int .i64 (-x)] 2) = VX at *
        refine any_run1 (i := 17) (by kernel_rfl) (by rfl) (by kernel_rfl) ?_
        intro K3 hK3
        refine wp_append_run (.tmp 26) (.tmp 37) 40 _ rfl HRUN.out ?_
        refine hK3 _ _ (fun _ => hb9') ?_
        clear hK3 K3
        simp only [List.getElem_toArray, List.getElem_cons_succ, List.getElem_cons_zero, Act.put, List.setIfInBounds_toArray, List.set_cons_succ, List.set_cons_zero]
        refine any_run1 (i := 18) (by kernel_rfl) (by rfl) (by kernel_rfl) ?_
        intro K3 hK3
        go_wp2_with fail
        refine hK3 _ _ (fun _ => hb9') ?_
        clear hK3 K3
        refine any_done (by kernel_rfl) (NoPanic.normal ?_)
        clear bxc0 lbx
        go_wp2_with fail
        go_roundw
        case rel => exact ⟨0 + 1, by omega, by go_num, HO9.out, HB9.out⟩
        case measure => simp [intOf]; omega
      | some ad =>
        clear hA2
        refine wp_region_noPanic (plain_any [0, 1, 2, 3, 4, 5, 6, 7, 9, 10] (Below wr.heap.size wr) mixed ?_)
        (refine any_take 0 ?_ (by rfl) (by kernel_rfl) (fun _ _ _ _ _ hx => hx.elim) (.inl ⟨by rfl, ?_⟩) (by exact bel_of) ?_; rotate_left; (intro X hX; obtain ⟨r1, r2⟩ := Below.rules hX; clear hX; go_simp; rfl); simp only [List.getElem_toArray, List.getElem_cons_succ, List.getElem_cons_zero, Act.put, List.setIfInBounds_toArray, List.set_cons_succ, List.set_cons_zero])
        (refine any_take 1 ?_ (by rfl) (by kernel_rfl) (fun _ _ _ _ _ hx => hx.elim) (.inl ⟨by rfl, ?_⟩) (by exact bel_of) ?_; rotate_left; (intro X hX; obtain ⟨r1, r2⟩ := Below.rules hX; clear hX; go_simp; rfl); simp only [List.getElem_toArray, List.getElem_cons_succ, List.getElem_cons_zero, Act.put, List.setIfInBounds_toArray, List.set_cons_succ, List.set_cons_zero])
        (refine any_take 2 ?_ (by rfl) (by kernel_rfl) (fun _ _ _ _ _ hx => hx.elim) (.inl ⟨by rfl, ?_⟩) (by exact bel_of) ?_; rotate_left; (intro X hX; obtain ⟨r1, r2⟩ := Below.rules hX; clear hX; go_simp; rfl); simp only [List.getElem_toArray, List.getElem_cons_succ, List.getElem_cons_zero, Act.put, List.setIfInBounds_toArray, List.set_cons_succ, List.set_cons_zero])
        (refine any_take 3 ?_ (by rfl) (by kernel_rfl) (fun _ _ _ _ _ hx => hx.elim) (.inl ⟨by rfl, ?_⟩) (by exact bel_of) ?_; rotate_left; (intro X hX; obtain ⟨r1, r2⟩ := Below.rules hX; clear hX; go_simp; rfl); simp only [List.getElem_toArray, List.getElem_cons_succ, List.getElem_cons_zero, Act.put, List.setIfInBounds_toArray, List.set_cons_succ, List.set_cons_zero])
        (refine any_take 4 ?_ (by rfl) (by kernel_rfl) (fun _ _ _ _ _ hx => hx.elim) (.inl ⟨by rfl, ?_⟩) (by exact bel_of) ?_; rotate_left; (intro X hX; obtain ⟨r1, r2⟩ := Below.rules hX; clear hX; go_simp; rfl); simp only [List.getElem_toArray, List.getElem_cons_succ, List.getElem_cons_zero, Act.put, List.setIfInBounds_toArray, List.set_cons_succ, List.set_cons_zero])
        (refine any_take 5 ?_ (by rfl) (by kernel_rfl) (fun _ _ _ _ _ hx => hx.elim) (.inl ⟨by rfl, ?_⟩) (by exact bel_of) ?_; rotate_left; (intro X hX; obtain ⟨r1, r2⟩ := Below.rules hX; clear hX; go_simp; rfl); simp only [List.getElem_toArray, List.getElem_cons_succ, List.getElem_cons_zero, Act.put, List.setIfInBounds_toArray, List.set_cons_succ, List.set_cons_zero])
        (refine any_take 6 ?_ (by rfl) (by kernel_rfl) (fun _ _ _ _ _ hx => hx.elim) (.inl ⟨by rfl, ?_⟩) (by exact bel_of) ?_; rotate_left; (intro X hX; obtain ⟨r1, r2⟩ := Below.rules hX; clear hX; go_simp; rfl); simp only [List.getElem_toArray, List.getElem_cons_succ, List.getElem_cons_zero, Act.put, List.setIfInBounds_toArray, List.set_cons_succ, List.set_cons_zero])
        (refine any_take 7 ?_ (by rfl) (by kernel_rfl) (fun _ _ _ _ _ hx => hx.elim) (.inl ⟨by rfl, ?_⟩) (by exact bel_of) ?_; rotate_left; (intro X hX; obtain ⟨r1, r2⟩ := Below.rules hX; clear hX; go_simp; rfl); simp only [List.getElem_toArray, List.getElem_cons_succ, List.getElem_cons_zero, Act.put, List.setIfInBounds_toArray, List.set_cons_succ, List.set_cons_zero])
        (refine any_take 9 ?_ (by rfl) (by kernel_rfl) (fun _ _ _ _ _ hx => hx.elim) (.inl ⟨by rfl, ?_⟩) (by exact bel_of) ?_; rotate_left; (intro X hX; obtain ⟨r1, r2⟩ := Below.rules hX; clear hX; go_simp; rfl); simp only [List.getElem_toArray, List.getElem_cons_succ, List.getElem_cons_zero, Act.put, List.setIfInBounds_toArray, List.set_cons_succ, List.set_cons_zero])
        (refine any_take 10 ?_ (by rfl) (by kernel_rfl) (fun _ _ _ _ _ hx => hx.elim) (.inl ⟨by rfl, ?_⟩) (by exact bel_of) ?_; rotate_left; (intro X hX; obtain ⟨r1, r2⟩ := Below.rules hX; clear hX; go_simp; rfl); simp only [List.getElem_toArray, List.getElem_cons_succ, List.getElem_cons_zero, Act.put, List.setIfInBounds_toArray, List.set_cons_succ, List.set_cons_zero])
        have hd0 : Below wr.heap.size wr wr.drew := Below.drew (Below.refl _ _)
        refine any_run1 (i := 8) (by kernel_rfl) (by rfl) (by kernel_rfl) ?_
        intro K3 hK3
        go_wp2_with fail
        refine (from_any N _ ts _ 0 gb i _ HO.out hl40 ⟨Int.le_refl 0, by have := HO.out.pos; omega⟩ (by omega) ((HBN.out.below hbr).below hd0)).mono ?_
        rintro e V1 ⟨gl, gm, nn, rfl, hL1, hM1, hb1, hgl1, _⟩
        have hb01 : Below wr.heap.size wr V1 := hd0.trans hb1
        refine hK3 _ _ (fun _ => hb01) ?_
        clear hK3 K3 hM1
        have cl := hL1.at (i := N) (by omega)
        rw [from_eq HO.out HG.out (by omega) (Nat.le_refl N)] at cl
        have ll := hL1.lt
        have hDr := D_rng HO.out HG.out (u := i) (v := N) (by omega) (Nat.le_refl N)
        have hTK := map_take_succ (fun v => -D N ts v N) N i hlt
        have hTK2 : (leastP N ts).take i ++ [-D N ts i N] = (leastP N ts).take (i + 1) := hTK
        clear hTK hL1
        generalize D N ts i N = x at *
        have wx : IntKind.i64.wrap (-x) = -x := by rw [IntKind.wrap_i64]; omega
        refine any_run1 (i := 11) (by kernel_rfl) (by rfl) (by kernel_rfl) ?_
        intro K3 hK3
        go_wp2_with fail
        refine hK3 _ _ (fun _ => hb01) ?_
        clear hK3 K3
        refine any_run1 (i := 12) (by kernel_rfl) (by rfl) (by kernel_rfl) ?_
        intro K3 hK3
        go_wp2_with fail
        refine hK3 _ _ (fun _ => hb01) ?_
        clear hK3 K3
        refine any_run1 (i := 13) (by kernel_rfl) (by rfl) (by kernel_rfl) ?_
        intro K3 hK3
        go_wp2_with fail
        refine hK3 _ _ (fun _ => hb01) ?_
        clear hK3 K3
        refine any_run1 (i := 14) (by kernel_rfl) (by rfl) (by kernel_rfl) ?_
        intro K3 hK3
        go_wp2_with fail
        refine hK3 _ _ (fun _ => hb01) ?_
        clear hK3 K3
        refine any_run1 (i := 15) (by kernel_rfl) (by rfl) (by kernel_rfl) ?_
        intro K3 hK3
        go_wp2_with fail
        refine hK3 _ _ (fun _ => hb01) ?_
        clear hK3 K3
        refine any_run1 (i := 16) (by kernel_rfl) (by rfl) (by kernel_rfl) ?_
        intro K3 hK3
        go_wp2_with fail
        obtain ⟨gv, hgv⟩ : ∃ n, V1.heap.size = n := ⟨_, rfl⟩
        have bX : BK (V1.alloc (.cells #[.int .i64 (-x)] 2)) gv #[.int .i64 (-x)] 2 := BK.new' _ _ _ gv hgv
        have hbX : Below V1.heap.size V1 (V1.alloc (.cells #[.int .i64 (-x)] 2)) := Below.alloc (Below.refl _ _) (Nat.le_refl _) _
        have hb0X := hb01.trans (hbX.mono hb01.size)
        refine hK3 _ _ (fun _ => hb0X) ?_
        clear hK3 K3 cl ll
        try rw [hgv]
        clear hgv
        obtain ⟨A2, c2, hu, hc2, hA2x, v', w9, hrun, hown', hbel, hb9⟩ := app_full_i64 ((HOW.out.below hb01).below hbX) bX (by first | (simp; done) | (simp; omega)) (Nat.le_trans hbr.size hb0X.size)
        rw [HLJ.out] at hu hrun
        injection hu with hu1 _ hu3
        subst hu1
        rw [hTK2] at hown'
        have hbw9 := hbel w1 (hbr.trans (hb0X.mono hbr.size))
        have hb9' : Below wr.heap.size wr w9 := hb0X.trans (hb9.mono hb0X.size)
        have HRUN := Lib.hid hrun
        have HO9 := Lib.hid hown'
        have HB9 := Lib.hid hbw9
        clear hrun hown' hbw9 hbel hb9 bX hTK2 hc2 hA2x hu3
        generalize V1.alloc (.cells #[.int .i64 (-x)] 2) = VX at *
        refine any_run1 (i := 17) (by kernel_rfl) (by rfl) (by kernel_rfl) ?_
        intro K3 hK3
        refine wp_append_run (.tmp 26) (.tmp 37) 40 _ rfl HRUN.out ?_
        refine hK3 _ _ (fun _ => hb9') ?_
        clear hK3 K3
        simp only [List.getElem_toArray, List.getElem_cons_succ, List.getElem_cons_zero, Act.put, List.setIfInBounds_toArray, List.set_cons_succ, List.set_cons_zero]
        refine any_run1 (i := 18) (by kernel_rfl) (by rfl) (by kernel_rfl) ?_
        intro K3 hK3
        go_wp2_with fail
        refine hK3 _ _ (fun _ => hb9') ?_
        clear hK3 K3
        refine any_done (by kernel_rfl) (NoPanic.normal ?_)
        clear bxc0 lbx
        go_wp2_with fail
        go_roundw
        case rel => exact ⟨i + 1, by omega, by go_num, HO9.out, HB9.out⟩
        case measure => simp [intOf]; omega
    · have hie : i = N := by omega
      rw [hie, List.take_of_length_le (by simp [leastP])] at hown
      have hCo : Below n0 w wr := hC.trans (hbr.mono (by have := hC.size; omega))
      have HOW := Lib.hid hown
      clear hown hie hbr
      go_wp2_with fail
      exact bodyPost_ret (v := .tuple #[u6, .int .i64 0]) (by simp [results, Try.results29, go_sem]) rfl (ListPost.yes HE.out HOW.out.ri (by first | exact hCo | (rw [hn0]; exact hCo)))

end Go.Proofs.Ytkljdbgkhghiaaa
