/- Widest of the program. -/
import Derived.Test.YtkljdbgkhghiaaaP22
set_option linter.all false
set_option linter.unnecessarySimpa false
set_option linter.unusedSimpArgs false
set_option linter.unusedVariables false
set_option linter.unusedSectionVars false

set_option linter.all false
namespace Go.Proofs.Ytkljdbgkhghiaaa
open Go.RowKit Kp

set_option maxHeartbeats 8000000 in
set_option maxRecDepth 100000 in
theorem widestP_any (E : Int) (ts : List Kt) (v : Value) (w : World) (hl : ts.length ≤ 1000) (h : RT w w.heap.size v ts) :
    Calls Try.prog 41 #[.agg #[.int .i64 E, v]] w fun x w' => x = .returned (widV E ts (openE E ts (oneEdge E))) ∧ Below w.heap.size w w' := by
  obtain ⟨b, off, cap, A, rfl, hAx⟩ := h.slice
  clear hAx
  have hR := h
  clear h
  obtain ⟨n0, hn0⟩ : ∃ n, w.heap.size = n := ⟨_, rfl⟩
  have hC : Below n0 w w := Below.refl _ _
  go_enter Try.func41, Try.ntmps41
  go_upto_region 2 with fail
  have hqbx : n0 ≤ n0 := by have := hC.size; omega
  have bx : BK (w.alloc (.cells #[.int .i64 E, .slice A ts.length cap] 24)) (n0) #[.int .i64 E, .slice A ts.length cap] 24 := BK.new' _ _ _ (n0) hn0
  have hsbx : (w.alloc (.cells #[.int .i64 E, .slice A ts.length cap] 24)).heap.size = n0 + 1 := by simp [hn0]
  replace hC : Below n0 w (w.alloc (.cells #[.int .i64 E, .slice A ts.length cap] 24)) := Below.alloc hC (by have := hC.size; omega) _
  replace hR := (RS.below hR (w' := (w.alloc (.cells #[.int .i64 E, .slice A ts.length cap] 24))) (Below.alloc (Below.refl _ _) (Nat.le_refl _) _)).more (B' := (w.alloc (.cells #[.int .i64 E, .slice A ts.length cap] 24)).heap.size) (by simp)
  generalize (w.alloc (.cells #[.int .i64 E, .slice A ts.length cap] 24)) = Wbx at *
  have hzx : n0 ≤ Wbx.heap.size := by have := hC.size; omega
  have lbx := bx.lt
  have bxc0 := bx.cell 0
  have bxc1 := bx.cell 1
  simp at bxc0 bxc1
  have paths : (E = 1 ∧ oneEdge E = 5) ∨ (E ≠ 1 ∧ oneEdge E = 0) := by
    unfold oneEdge
    by_cases h1 : E = 1
    · exact .inl ⟨h1, if_pos h1⟩
    · exact .inr ⟨h1, if_neg h1⟩
  rcases paths with ⟨h1, ha⟩ | ⟨h1, ha⟩
  · have b1 : (E == 1) = true := by simp [h1]
    have HA := Lib.hid ha
    have H1 := Lib.hid h1
    clear ha h1
    go_wp2_with fail
    clear lbx bxc0 bxc1
    clear hsbx
    refine (openX_any E (oneEdge E) ts _ _ HA.out hl hR).mono ?_
    rintro e w1 ⟨p, rfl, hop, hb⟩
    replace hC : Below n0 w w1 := hC.trans (hb.mono (by have := hC.size; omega))
    replace hR := (RS.below hR hb).more hb.size
    replace bx := bx.below hb bx.lt
    clear hb
    obtain ⟨e, he⟩ : ∃ e, openE E ts (oneEdge E) = e := ⟨_, rfl⟩
    have HE := Lib.hid he
    rw [he] at hop ⊢
    clear he b1
    by_cases h0 : e = 0
    case neg =>
      clear hop
      have b1 : (e != 0) = true := by simp [h0]
      have HN := Lib.hid h0
      clear h0
      go_wp2_with fail
      replace hC := Below.alloc hC (by have := hC.size; omega) (.cells #[.pointer p] 80)
      exact bodyPost_ret (v := .tuple #[.int .i64 0, .int .i64 0, .int .i64 e]) (by simp [results, Try.results41, go_sem]) rfl ⟨by rw [HE.out, widV_bad HN.out], by first | exact hC | (rw [hn0]; exact hC)⟩
    exact absurd ((openE_ok (HE.out.trans h0)).choose_spec.2.2.2.1.symm.trans HA.out) (by decide)
  · have b1 : (E == 1) = false := beq_eq_false_iff_ne.2 h1
    have HA := Lib.hid ha
    have H1 := Lib.hid h1
    clear ha h1
    go_wp2_with fail
    clear lbx bxc0 bxc1
    clear hsbx
    refine (openX_any E (oneEdge E) ts _ _ HA.out hl hR).mono ?_
    rintro e w1 ⟨p, rfl, hop, hb⟩
    replace hC : Below n0 w w1 := hC.trans (hb.mono (by have := hC.size; omega))
    replace hR := (RS.below hR hb).more hb.size
    replace bx := bx.below hb bx.lt
    clear hb
    obtain ⟨e, he⟩ : ∃ e, openE E ts (oneEdge E) = e := ⟨_, rfl⟩
    have HE := Lib.hid he
    rw [he] at hop ⊢
    clear he b1
    by_cases h0 : e = 0
    case neg =>
      clear hop
      have b1 : (e != 0) = true := by simp [h0]
      have HN := Lib.hid h0
      clear h0
      go_wp2_with fail
      replace hC := Below.alloc hC (by have := hC.size; omega) (.cells #[.pointer p] 80)
      exact bodyPost_ret (v := .tuple #[.int .i64 0, .int .i64 0, .int .i64 e]) (by simp [results, Try.results41, go_sem]) rfl ⟨by rw [HE.out, widV_bad HN.out], by first | exact hC | (rw [hn0]; exact hC)⟩
    subst h0
    obtain ⟨N, rfl, ho, hl40, h2, hg, hbk⟩ := openE_ok HE.out
    obtain ⟨gb, rfl, hBn, hgb, hRg⟩ := hop rfl
    rw [Int.toNat_natCast] at hBn
    have HO := Lib.hid ho
    have HG := Lib.hid hg
    have hE := ho.few
    have hN2 : 2 ≤ N := by have := ho.pos; have := H1.out; omega
    clear ho h2 hg hbk hop hRg
    have lbx := bx.lt
    have bxc0 := bx.cell 0
    have bxc1 := bx.cell 1
    simp at bxc0 bxc1
    go_wp2_with fail
    clear lbx bxc0 bxc1
    obtain ⟨m1, hm1⟩ : ∃ n, w1.heap.size = n := ⟨_, rfl⟩
    try rw [hm1]
    have hqbp : n0 ≤ m1 := by have := hC.size; omega
    have bp : BK (w1.alloc (.cells #[.pointer (some ⟨gb, 0, none⟩)] 80)) (m1) #[.pointer (some ⟨gb, 0, none⟩)] 80 := BK.new' _ _ _ (m1) hm1
    have hsbp : (w1.alloc (.cells #[.pointer (some ⟨gb, 0, none⟩)] 80)).heap.size = m1 + 1 := by simp [hm1]
    replace hC : Below n0 w (w1.alloc (.cells #[.pointer (some ⟨gb, 0, none⟩)] 80)) := Below.alloc hC (by have := hC.size; omega) _
    replace hR := (RS.below hR (w' := (w1.alloc (.cells #[.pointer (some ⟨gb, 0, none⟩)] 80))) (Below.alloc (Below.refl _ _) (Nat.le_refl _) _)).more (B' := (w1.alloc (.cells #[.pointer (some ⟨gb, 0, none⟩)] 80)).heap.size) (by simp)
    replace bx := bx.alloc (.cells #[.pointer (some ⟨gb, 0, none⟩)] 80)
    replace hBn := Bn.below hBn (W' := (w1.alloc (.cells #[.pointer (some ⟨gb, 0, none⟩)] 80))) (Below.alloc (Below.refl _ _) (Nat.le_refl _) _)
    generalize (w1.alloc (.cells #[.pointer (some ⟨gb, 0, none⟩)] 80)) = Wbp at *
    clear hm1
    clear hsbp hqbp hqbx
    go_loopw [8, 26] (fun acc iv wr => ∃ i : Nat, i ≤ N ∧ iv = .int .i64 i ∧ OwnP wr Wbp.heap.size acc (prU N i) ∧ Below Wbp.heap.size Wbp wr) (fun _ iv _ => N - (intOf iv).toNat)
    case atStart => exact ⟨0, Nat.zero_le _, rfl, OwnP.nil _ _, Below.refl _ _⟩
    case round =>
      obtain ⟨i, hi, rfl, hown, hbr⟩ := hrel
      rename World => wo
      by_cases hlt : i < N
      · have hst := congrArg (fun l => prU N i ++ l) (prV_low i (i + 1) (Nat.le_refl _))
        rw [List.append_nil] at hst
        rw [← hst] at hown
        have HOW := Lib.hid hown
        clear hown hst
        go_wp2_with fail
        go_loopw [8, 10] (fun acc iv wr => ∃ j : Nat, i + 1 ≤ j ∧ j ≤ N ∧ iv = .int .i64 j ∧ OwnP wr Wbp.heap.size acc (prU N i ++ prV i j) ∧ Below Wbp.heap.size Wbp wr) (fun _ iv _ => N - (intOf iv).toNat)
        case atStart => exact ⟨i + 1, Nat.le_refl _, by omega, by go_num, HOW.out, hbr⟩
        case round =>
          obtain ⟨j, hij, hj, rfl, hown, hbx⟩ := hrel
          have bx2 := bx.below hbx bx.lt
          have lbx := bx2.lt
          have bxc0 := bx2.cell 0
          simp at bxc0
          by_cases hjt : j < N
          · have hlen : (prU N i ++ prV i j).length ≤ 100000 := by
              have := prU_len N i
              have := prV_len i j
              have : i * N ≤ 16 * 16 := Nat.mul_le_mul (by omega) (by omega)
              rw [List.length_append]; omega
            obtain ⟨v', w6, hrun, hown', hb', hs', _⟩ := app_pr hown (i, j) hlen hbx.size hbx wr.heap.size rfl
            rw [List.append_assoc, ← prV_next (by omega)] at hown'
            have HO3 := Lib.hid hown'
            have HRUN := Lib.hid hrun
            have HB3 := Lib.hid hb'
            dsimp only at HRUN
            clear hown' hrun hb' hs' hown hlen
            go_wp2_with (at_builtin; refine wpList_append_run rfl (.tmp 37) (.tmp 41) 106 _ rfl HRUN.out ?_)
            go_roundw
            case rel => exact ⟨j + 1, by omega, by omega, by go_num, HO3.out, HB3.out⟩
            case measure => simp [intOf]; omega
          · obtain rfl : j = N := by omega
            have HOX := Lib.hid hown
            clear hown
            go_wp2_with fail
            go_roundw
            case rel => exact ⟨i + 1, by omega, by go_num, HOX.out, hbx⟩
            case measure => simp [intOf]; omega
      · obtain rfl : i = N := by omega
        have hlen : (prU i i).length ≤ 1000 := by
          have := prU_len i i
          have : i * i ≤ 16 * 16 := Nat.mul_le_mul (by omega) (by omega)
          omega
        have hrp := hown.ri
        have hCo : Below n0 w wo := hC.trans (hbr.mono (by have := hC.size; omega))
        have hc1 : Wbp.cell? ⟨m1, 0, none⟩ = some (.pointer (some ⟨gb, 0, none⟩)) := by rw [bp.cell]; rfl
        have lc1 := bp.lt
        obtain ⟨hbst, hkl⟩ := bst_all (f := wdt i ts) (fun p hp => wdt_pos HO.out HG.out hp) (prU_pos hN2)
        have HGC := Lib.hid (greatest_any (prU i i) (wdt i ts) m1 u8 wo hlen hrp (fun p W hp hW => by
          obtain ⟨q1, q2, q3⟩ := prU_mem i hp
          have hbw := hbr.trans (hW.mono hbr.size)
          exact widest1_any i _ ts _ 0 gb m1 p.1 p.2 W HO.out HG.out hl40 ⟨Int.le_refl 0, by have := HO.out.pos; omega⟩ (by omega) (by omega) (hBn.below hbw) ((hbw.cell (p := ⟨m1, 0, none⟩) lc1).trans hc1) (Nat.lt_of_lt_of_le lc1 hbw.size)))
        have HB := Lib.hid hbst
        obtain ⟨A8, c8, b8, o8, rfl, hA8, hc8⟩ := hrp.cells
        obtain ⟨rfl, hb8⟩ := hA8 (by omega)
        obtain ⟨d1, d2⟩ := hc8 _ hkl
        clear hown hrp hc1 hbst hc8 hA8 hBn hbr bp
        go_wp2_with fail
        refine HGC.out.mono ?_
        rintro e w9 ⟨rfl, hb9⟩
        rw [← hb9.cell (by exact hb8)] at d1 d2
        have l8 : b8 < w9.heap.size := Nat.lt_of_lt_of_le hb8 hb9.size
        have hC9 : Below n0 w w9 := hCo.trans (hb9.mono (by have := hCo.size; omega))
        clear hb9 hb8 HGC
        generalize nthP (prU i i) (gk (wdt i ts) (prU i i) (prU i i).length) = pk at *
        generalize gk (wdt i ts) (prU i i) (prU i i).length = kk at *
        generalize (prU i i).length = nn at *
        go_upto_region 17 with fail
        refine wp_region_noPanic (plain_any [0, 1, 2, 3, 4, 5, 6, 7, 8, 9] (Below w9.heap.size w9) mixed ?_)
        (refine any_take 0 ?_ (by rfl) (by kernel_rfl) (fun _ _ _ _ _ hx => hx.elim) (.inl ⟨by rfl, ?_⟩) (by exact bel_of) ?_; rotate_left; (intro X hX; obtain ⟨r1, r2⟩ := Below.rules hX; clear hX; go_simp; rfl); simp only [List.getElem_toArray, List.getElem_cons_succ, List.getElem_cons_zero, Act.put, List.setIfInBounds_toArray, List.set_cons_succ, List.set_cons_zero])
        (refine any_take 1 ?_ (by rfl) (by kernel_rfl) (fun _ _ _ _ _ hx => hx.elim) (.inl ⟨by rfl, ?_⟩) (by exact bel_of) ?_; rotate_left; (intro X hX; obtain ⟨r1, r2⟩ := Below.rules hX; clear hX; go_simp; rfl); simp only [List.getElem_toArray, List.getElem_cons_succ, List.getElem_cons_zero, Act.put, List.setIfInBounds_toArray, List.set_cons_succ, List.set_cons_zero])
        (refine any_take 2 ?_ (by rfl) (by kernel_rfl) (fun _ _ _ _ _ hx => hx.elim) (.inl ⟨by rfl, ?_⟩) (by exact bel_of) ?_; rotate_left; (intro X hX; obtain ⟨r1, r2⟩ := Below.rules hX; clear hX; go_simp; rfl); simp only [List.getElem_toArray, List.getElem_cons_succ, List.getElem_cons_zero, Act.put, List.setIfInBounds_toArray, List.set_cons_succ, List.set_cons_zero])
        (refine any_take 3 ?_ (by rfl) (by kernel_rfl) (fun _ _ _ _ _ hx => hx.elim) (.inl ⟨by rfl, ?_⟩) (by exact bel_of) ?_; rotate_left; (intro X hX; obtain ⟨r1, r2⟩ := Below.rules hX; clear hX; go_simp; rfl); simp only [List.getElem_toArray, List.getElem_cons_succ, List.getElem_cons_zero, Act.put, List.setIfInBounds_toArray, List.set_cons_succ, List.set_cons_zero])
        (refine any_take 4 ?_ (by rfl) (by kernel_rfl) (fun _ _ _ _ _ hx => hx.elim) (.inl ⟨by rfl, ?_⟩) (by exact bel_of) ?_; rotate_left; (intro X hX; obtain ⟨r1, r2⟩ := Below.rules hX; clear hX; go_simp; rfl); simp only [List.getElem_toArray, List.getElem_cons_succ, List.getElem_cons_zero, Act.put, List.setIfInBounds_toArray, List.set_cons_succ, List.set_cons_zero])
        (refine any_take 5 ?_ (by rfl) (by kernel_rfl) (fun _ _ _ _ _ hx => hx.elim) (.inl ⟨by rfl, ?_⟩) (by exact bel_of) ?_; rotate_left; (intro X hX; obtain ⟨r1, r2⟩ := Below.rules hX; clear hX; go_simp; rfl); simp only [List.getElem_toArray, List.getElem_cons_succ, List.getElem_cons_zero, Act.put, List.setIfInBounds_toArray, List.set_cons_succ, List.set_cons_zero])
        (refine any_take 6 ?_ (by rfl) (by kernel_rfl) (fun _ _ _ _ _ hx => hx.elim) (.inl ⟨by rfl, ?_⟩) (by exact bel_of) ?_; rotate_left; (intro X hX; obtain ⟨r1, r2⟩ := Below.rules hX; clear hX; go_simp; rfl); simp only [List.getElem_toArray, List.getElem_cons_succ, List.getElem_cons_zero, Act.put, List.setIfInBounds_toArray, List.set_cons_succ, List.set_cons_zero])
        (refine any_take 7 ?_ (by rfl) (by kernel_rfl) (fun _ _ _ _ _ hx => hx.elim) (.inl ⟨by rfl, ?_⟩) (by exact bel_of) ?_; rotate_left; (intro X hX; obtain ⟨r1, r2⟩ := Below.rules hX; clear hX; go_simp; rfl); simp only [List.getElem_toArray, List.getElem_cons_succ, List.getElem_cons_zero, Act.put, List.setIfInBounds_toArray, List.set_cons_succ, List.set_cons_zero])
        (refine any_take 8 ?_ (by rfl) (by kernel_rfl) (fun _ _ _ _ _ hx => hx.elim) (.inl ⟨by rfl, ?_⟩) (by exact bel_of) ?_; rotate_left; (intro X hX; obtain ⟨r1, r2⟩ := Below.rules hX; clear hX; go_simp; rfl); simp only [List.getElem_toArray, List.getElem_cons_succ, List.getElem_cons_zero, Act.put, List.setIfInBounds_toArray, List.set_cons_succ, List.set_cons_zero])
        (refine any_take 9 ?_ (by rfl) (by kernel_rfl) (fun _ _ _ _ _ hx => hx.elim) (.inl ⟨by rfl, ?_⟩) (by exact bel_of) ?_; rotate_left; (intro X hX; obtain ⟨r1, r2⟩ := Below.rules hX; clear hX; go_simp; rfl); simp only [List.getElem_toArray, List.getElem_cons_succ, List.getElem_cons_zero, Act.put, List.setIfInBounds_toArray, List.set_cons_succ, List.set_cons_zero])
        have hd0 : Below w9.heap.size w9 w9.drew := Below.drew (Below.refl _ _)
        refine any_run1 (i := 10) (by kernel_rfl) (by rfl) (by kernel_rfl) ?_
        intro K3 hK3
        go_wp2_with fail
        refine hK3 _ _ (fun _ => hd0) ?_
        clear hK3 K3
        refine any_run1 (i := 11) (by kernel_rfl) (by rfl) (by kernel_rfl) ?_
        intro K3 hK3
        go_wp2_with fail
        refine hK3 _ _ (fun _ => hd0) ?_
        clear hK3 K3
        refine any_run1 (i := 12) (by kernel_rfl) (by rfl) (by kernel_rfl) ?_
        intro K3 hK3
        go_wp2_with fail
        refine hK3 _ _ (fun _ => hd0) ?_
        clear hK3 K3
        refine any_done (by kernel_rfl) (NoPanic.normal ?_)
        clear d1 d2
        go_wp2_with fail
        exact bodyPost_ret (v := .tuple #[.int .i64 pk.1, .int .i64 pk.2, .int .i64 0]) (by simp [results, Try.results41, go_sem]) rfl ⟨by rw [HE.out, widV_ok, HB.out], by first | exact hC9.drew | (rw [hn0]; exact hC9.drew)⟩

end Go.Proofs.Ytkljdbgkhghiaaa
