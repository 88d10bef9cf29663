/- The links from the beginning of a look to an edge. -/
import Derived.Test.YtkljdbgkhghiaaaP16
import Derived.WalkMore
import Derived.BigRegion
set_option linter.all false
set_option linter.unnecessarySimpa false
set_option linter.unusedSimpArgs false
set_option linter.unusedVariables false
set_option linter.unusedSectionVars false

set_option linter.all false
namespace Go.Proofs.Ytkljdbgkhghiaaa
open Go.RowKit Kp

theorem own_drew {W : World} {base e sz n : Nat} {v : Value} {xs : List Value} (h : W.ownsRow base e sz v n xs) : W.drew.ownsRow base e sz v n xs := h
set_option maxHeartbeats 8000000 in
set_option maxRecDepth 100000 in
theorem way_any (E x m : Nat) (b : Nat → Option Kw) (most : List Int) (gl gm nn : Nat) (w : World) (hE : E ≤ 16) (hx : x ≤ E) (hm : m ≤ E) (hsrc : ∀ v k, b v = some k → raw E k.1.src)
    (hend : b (back E b m x) = none) (hon : ∀ i, i < m → b (back E b i x) ≠ none) (hL : Lk w gl most (.map (some gm)) E) (hM : MP w gm nn (fun x => (b x).map (fun x : Kw => x.1))) :
    Calls Try.prog 64 #[.pointer (some ⟨gl, 0, none⟩), .int .i64 x] w fun e w' => ∃ v, e = .returned v ∧ RL w' w'.heap.size v ((trail E b m x).reverse.map (fun x : Kw => x.1)) ∧ Below w.heap.size w w' := by
  have hlt0 : ∀ j, back E b j x ≤ E := back_lt (fun v k hk => by have := hsrc v k hk; unfold ksrc pl raw at *; split <;> omega) hx
  have HLT := Lib.hid hlt0
  have HEND := Lib.hid hend
  have HON := Lib.hid hon
  have HSRC := Lib.hid hsrc
  have HL := Lib.hid hL
  have HM := Lib.hid hM
  clear hlt0 hend hon hsrc hL hM
  go_enter Try.func64, Try.ntmps64
  go_wp2_with fail
  go_loopw [5, 6] (fun ov av wr => ∃ j : Nat, j ≤ m ∧ av = .int .i64 (back E b j x : Nat) ∧ OwnL wr w.heap.size ov ((trail E b j x).map (fun x : Kw => x.1)) ∧ Below w.heap.size w wr) (fun ov _ _ => m - slen ov)
  case atStart => exact ⟨0, Nat.zero_le _, rfl, OwnL.nil _ _, Below.refl _ _⟩
  case round =>
    obtain ⟨j, hj, rfl, hown, hbr⟩ := hrel
    have hlk := (HM.out.kept (hbr.block _ HM.out.lt)).look2 (back E b j x) (by have := HLT.out j; omega)
    have hLr := HL.out.below hbr
    have c17 := hLr.map_
    have c18 := hLr.size_
    have lgl := hLr.lt
    have htl := trail_len (E := E) (b := b) (v := x) j (fun i hi => HON.out i (by omega))
    obtain ⟨A, c, rfl⟩ := own_slice hown
    have hnb := HLT.out j
    rw [List.length_map, htl] at hown ⊢
    obtain ⟨l, hl⟩ : ∃ l, (trail E b j x).map (fun x : Kw => x.1) = l := ⟨_, rfl⟩
    have hlj : l.length = j := by rw [← hl, List.length_map, htl]
    rw [hl] at hown
    have HOW := Lib.hid hown
    have HLE := Lib.hid hl
    have HLJ := Lib.hid hlj
    clear hown htl hl hlj
    generalize hbv : b (back E b j x) = bv at *
    cases bv with
    | none =>
      have hjm : j = m := by
        rcases Nat.lt_or_eq_of_le hj with h | h
        · exact absurd hbv (HON.out j h)
        · exact h
      subst hjm
      unfold klV at hlk
      clear hbv hj HON HEND HSRC c18
      go_wp2_with fail
      have hbn : Below w.heap.size w (wr.alloc (.cells #[.int .i64 0, .int .i64 0, .int .i64 0] 44)) := Below.alloc hbr hbr.size _
      have hon := (HOW.out).below (W' := wr.alloc (.cells #[.int .i64 0, .int .i64 0, .int .i64 0] 44)) (Below.alloc (Below.refl _ _) (Nat.le_refl _) _)
      have HON := Lib.hid hon
      clear hon hlk hLr c17 lgl
      generalize wr.alloc (.cells #[.int .i64 0, .int .i64 0, .int .i64 0] 44) = W1 at *
      go_loopw [42] (fun iv wr => ∃ i : Nat, i ≤ j / 2 ∧ iv = .int .i64 i ∧ OwnL wr w.heap.size (.slice A j c) (sw l i) ∧ Below w.heap.size w wr) (fun iv _ => j / 2 - (intOf iv).toNat)
      case atStart => exact ⟨0, Nat.zero_le _, rfl, by rw [sw_0]; exact HON.out, hbn⟩
      case round =>
        rename World => wi
        obtain ⟨i, hi, rfl, hown, hbi⟩ := hrel
        by_cases hlt : i < j / 2
        · have hlt2 : (i : Int) < (j : Int) / 2 := by omega
          have hswl := sw_len l i
          rw [HLJ.out] at hswl
          obtain ⟨q, hq⟩ : ∃ q, j - 1 - i = q := ⟨_, rfl⟩
          have hqj : q < j := by omega
          have hij : i < j := by omega
          cases A with
          | none =>
            exfalso
            rcases (hown).2 with ⟨_, h0⟩ | ⟨g, cap, cur, hv, _⟩
            · omega
            · cases hv
          | some ad =>
            obtain ⟨g, rfl⟩ : ∃ g, ad = ⟨g, 0, none⟩ := by
              rcases (hown).2 with ⟨hv, h0⟩ | ⟨g, cap, cur, hv, _⟩
              · cases hv
              · injection hv with hv _ _; injection hv with hv; exact ⟨g, hv⟩
            obtain ⟨a1, a2, a3⟩ := hown.at (k := i) (by omega)
            obtain ⟨b1, b2, b3⟩ := hown.at (k := q) (by omega)
            obtain ⟨lg, bg⟩ := hown.lt'
            have hn := sw_next (l := l) (i := i) (by rw [HLJ.out]; omega)
            rw [HLJ.out, hq] at hn
            have hs1 := hown.set (p := i) (by omega) (nthL (sw l i) q)
            have f0 := hown.fz (i * 3); have f1 := hown.fz (i * 3 + 1); have f2 := hown.fz (i * 3 + 2)
            have e0 := hown.fz (q * 3); have e1 := hown.fz (q * 3 + 1); have e2 := hown.fz (q * 3 + 2)
            obtain ⟨ka, hka⟩ : ∃ k, nthL (sw l i) i = k := ⟨_, rfl⟩
            obtain ⟨kb, hkb⟩ : ∃ k, nthL (sw l i) q = k := ⟨_, rfl⟩
            rw [hka] at a1 a2 a3
            rw [hkb] at b1 b2 b3 hs1
            have HS1 := Lib.hid hs1
            have HSL := Lib.hid hswl
            rw [hka, hkb] at hn
            have HN := Lib.hid hn
            clear hka hkb hn hs1 hown hswl
            go_upto_region 12 with fail
            have w1 : IntKind.i64.wrap ((j : Int) - 1) = (j : Int) - 1 := by rw [IntKind.wrap_i64]; omega
            have w2 : IntKind.i64.wrap ((j : Int) - 1 - (i : Int)) = (q : Int) := by rw [IntKind.wrap_i64]; omega
            have n00 : ¬ q * 3 = i * 3 := by omega
            have n01 : ¬ q * 3 = i * 3 + 1 := by omega
            have n02 : ¬ q * 3 = i * 3 + 2 := by omega
            have n10 : ¬ q * 3 + 1 = i * 3 := by omega
            have n11 : ¬ q * 3 + 1 = i * 3 + 1 := by omega
            have n12 : ¬ q * 3 + 1 = i * 3 + 2 := by omega
            have n20 : ¬ q * 3 + 2 = i * 3 := by omega
            have n21 : ¬ q * 3 + 2 = i * 3 + 1 := by omega
            have n22 : ¬ q * 3 + 2 = i * 3 + 2 := by omega
            go_region
            have hs2 := HS1.out.set (p := q) (by rw [List.length_set, HSL.out]; exact hqj) ka
            rw [HN.out] at hs2
            have hs3 := own_drew hs2
            have HS2 := Lib.hid hs3
            clear hs3
            have hbW : Below w.heap.size w ((((((wi.setCell ⟨g, i * 3, none⟩ (.int .i64 kb.src)).setCell ⟨g, i * 3 + 1, none⟩ (.int .i64 kb.dst)).setCell ⟨g, i * 3 + 2, none⟩ (.int .i64 kb.tst)).setCell ⟨g, q * 3, none⟩ (.int .i64 ka.src)).setCell ⟨g, q * 3 + 1, none⟩ (.int .i64 ka.dst)).setCell ⟨g, q * 3 + 2, none⟩ (.int .i64 ka.tst)).drew := (Below.setCell (Below.setCell (Below.setCell (Below.setCell (Below.setCell (Below.setCell hbi (by exact bg) _) (by exact bg) _) (by exact bg) _) (by exact bg) _) (by exact bg) _) (by exact bg) _).drew
            generalize ((((((wi.setCell ⟨g, i * 3, none⟩ (.int .i64 kb.src)).setCell ⟨g, i * 3 + 1, none⟩ (.int .i64 kb.dst)).setCell ⟨g, i * 3 + 2, none⟩ (.int .i64 kb.tst)).setCell ⟨g, q * 3, none⟩ (.int .i64 ka.src)).setCell ⟨g, q * 3 + 1, none⟩ (.int .i64 ka.dst)).setCell ⟨g, q * 3 + 2, none⟩ (.int .i64 ka.tst)).drew = V2 at *
            clear hs2 n00 n01 n02 n10 n11 n12 n20 n21 n22 w1 w2 a1 a2 a3 b1 b2 b3 f0 f1 f2 e0 e1 e2
            go_wp2_with fail
            go_roundw
            case rel => exact ⟨i + 1, by omega, by go_num, HS2.out, hbW⟩
            case measure => simp [intOf]; omega
        · have hnl : ¬ (i : Int) < (j : Int) / 2 := by omega
          have hij : i = l.length / 2 := by rw [HLJ.out]; omega
          rw [hij, sw_all, ← HLE.out] at hown
          have HF := Lib.hid hown.ri
          clear hown hij
          go_wp2_with fail
          have hf := HF.out
          exact bodyPost_ret (v := .slice A j c) (by simp [results, Try.results64, go_sem]) rfl ⟨_, rfl, hf, hbi⟩
    | some k =>
      have hjm : j < m := by
        rcases Nat.lt_or_eq_of_le hj with h | h
        · exact h
        · subst h; rw [HEND.out] at hbv; cases hbv
      have hsr := HSRC.out _ _ hbv
      have HTL9 := Lib.hid (trail_len (E := E) (b := b) (v := x) (j + 1) (fun i hi => HON.out i (by omega)))
      have hbk : back E b (j + 1) x = pl E k.1.src := by rw [back, hbv]; rfl
      have htr : (trail E b (j + 1) x).map (fun x : Kw => x.1) = l ++ [k.1] := by rw [trail_succ hbv, List.map_append, HLE.out]; rfl
      obtain ⟨⟨src, dst, tst⟩, kw⟩ := k
      dsimp only at hsr hbk htr
      simp only [Option.map_some, Option.getD_some, Option.isSome_some] at hlk
      unfold klV at hlk
      dsimp only at hlk
      have HBK := Lib.hid hbk
      have HTR := Lib.hid htr
      have HSR := Lib.hid hsr
      clear hbv hbk htr HEND hj hsr
      go_upto_region 5 with fail
      obtain ⟨g7, hg7⟩ : ∃ n, wr.heap.size = n := ⟨_, rfl⟩
      have b7 : BK (wr.alloc (.cells #[.int .i64 src, .int .i64 dst, .int .i64 tst] 44)) g7 #[.int .i64 src, .int .i64 dst, .int .i64 tst] 44 := BK.new' _ _ _ g7 hg7
      have hb7 : Below wr.heap.size wr (wr.alloc (.cells #[.int .i64 src, .int .i64 dst, .int .i64 tst] 44)) := Below.alloc (Below.refl _ _) (Nat.le_refl _) _
      have hs7 : (wr.alloc (.cells #[.int .i64 src, .int .i64 dst, .int .i64 tst] 44)).heap.size = g7 + 1 := by simp [hg7]
      have hL7 := hLr.below hb7
      have hO7 := (HOW.out).below hb7
      have hbr7 := hbr.trans (hb7.mono hbr.size)
      try rw [hg7]
      clear hlk hLr c17 c18 lgl hg7
      generalize wr.alloc (.cells #[.int .i64 src, .int .i64 dst, .int .i64 tst] 44) = W7 at *
      have l7 := b7.lt
      have y0 := b7.cell 0
      have y1 := b7.cell 1
      have y2 := b7.cell 2
      simp at y0 y1 y2
      have b8 : BK ((W7.alloc (.cells #[.int .i64 src, .int .i64 dst, .int .i64 tst] 44)).drew) (g7 + 1) #[.int .i64 src, .int .i64 dst, .int .i64 tst] 44 := (BK.new' _ _ _ (g7 + 1) hs7).drew
      have hb8 : Below W7.heap.size W7 ((W7.alloc (.cells #[.int .i64 src, .int .i64 dst, .int .i64 tst] 44)).drew) := (Below.alloc (Below.refl _ _) (Nat.le_refl _) _).drew
      have hbr8 := hbr7.trans (hb8.mono hbr7.size)
      obtain ⟨A2, c2, hu, hc2, hA2, v', w9, hrun, hown', hbel, hb9⟩ := app_full_kl (x := ⟨src, dst, tst⟩) (hO7.below hb8) b8 (by rw [HLJ.out]; omega) hbr8.size
      rw [HLJ.out] at hu hc2 hrun
      injection hu with hu1 _ hu3
      subst hu1; subst hu3
      have hbw9 := hbel w hbr8
      have hb79 := hb8.trans (hb9.mono hb8.size)
      have b79 := b7.below hb79 b7.lt
      have hL9 := hL7.below hb79
      rw [← HTR.out] at hown'
      have HRUN := Lib.hid hrun
      have HO9 := Lib.hid hown'
      have HB9 := Lib.hid hbw9
      clear hrun hown' hbw9 hbel hO7 hbr8 hL7 hb9 b7
      have hjc : (j : Int) ≤ (c : Int) := by omega
      cases A with
      | none =>
        have h0 := hA2 rfl
        subst h0
        obtain rfl : j = 0 := by omega
        refine wp_region_noPanic (plain_any [0, 1, 2, 3, 4, 5, 6] (Below W7.heap.size W7) mixed ?_)
        (refine any_take 0 ?_ (by rfl) (by kernel_rfl) (fun _ _ _ _ _ hx => hx.elim) (.inl ⟨by rfl, ?_⟩) (by exact bel_of) ?_; rotate_left; (intro X hX; obtain ⟨r1, r2⟩ := Below.rules hX; clear hX; go_simp; rfl); simp only [List.getElem_toArray, List.getElem_cons_succ, List.getElem_cons_zero, Act.put, List.setIfInBounds_toArray, List.set_cons_succ, List.set_cons_zero])
        (refine any_take 1 ?_ (by rfl) (by kernel_rfl) (fun _ _ _ _ _ hx => hx.elim) (.inl ⟨by rfl, ?_⟩) (by exact bel_of) ?_; rotate_left; (intro X hX; obtain ⟨r1, r2⟩ := Below.rules hX; clear hX; go_simp; rfl); simp only [List.getElem_toArray, List.getElem_cons_succ, List.getElem_cons_zero, Act.put, List.setIfInBounds_toArray, List.set_cons_succ, List.set_cons_zero])
        (refine any_take 2 ?_ (by rfl) (by kernel_rfl) (fun _ _ _ _ _ hx => hx.elim) (.inl ⟨by rfl, ?_⟩) (by exact bel_of) ?_; rotate_left; (intro X hX; obtain ⟨r1, r2⟩ := Below.rules hX; clear hX; go_simp; rfl); simp only [List.getElem_toArray, List.getElem_cons_succ, List.getElem_cons_zero, Act.put, List.setIfInBounds_toArray, List.set_cons_succ, List.set_cons_zero])
        (refine any_take 3 ?_ (by rfl) (by kernel_rfl) (fun _ _ _ _ _ hx => hx.elim) (.inl ⟨by rfl, ?_⟩) (by exact bel_of) ?_; rotate_left; (intro X hX; obtain ⟨r1, r2⟩ := Below.rules hX; clear hX; go_simp; rfl); simp only [List.getElem_toArray, List.getElem_cons_succ, List.getElem_cons_zero, Act.put, List.setIfInBounds_toArray, List.set_cons_succ, List.set_cons_zero])
        (refine any_take 4 ?_ (by rfl) (by kernel_rfl) (fun _ _ _ _ _ hx => hx.elim) (.inl ⟨by rfl, ?_⟩) (by exact bel_of) ?_; rotate_left; (intro X hX; obtain ⟨r1, r2⟩ := Below.rules hX; clear hX; go_simp; rfl); simp only [List.getElem_toArray, List.getElem_cons_succ, List.getElem_cons_zero, Act.put, List.setIfInBounds_toArray, List.set_cons_succ, List.set_cons_zero])
        (refine any_take 5 ?_ (by rfl) (by kernel_rfl) (fun _ _ _ _ _ hx => hx.elim) (.inl ⟨by rfl, ?_⟩) (by exact bel_of) ?_; rotate_left; (intro X hX; obtain ⟨r1, r2⟩ := Below.rules hX; clear hX; go_simp; rfl); simp only [List.getElem_toArray, List.getElem_cons_succ, List.getElem_cons_zero, Act.put, List.setIfInBounds_toArray, List.set_cons_succ, List.set_cons_zero])
        (refine any_take 6 ?_ (by rfl) (by kernel_rfl) (fun _ _ _ _ _ hx => hx.elim) (.inl ⟨by rfl, ?_⟩) (by exact bel_of) ?_; rotate_left; (intro X hX; obtain ⟨r1, r2⟩ := Below.rules hX; clear hX; go_simp; rfl); simp only [List.getElem_toArray, List.getElem_cons_succ, List.getElem_cons_zero, Act.put, List.setIfInBounds_toArray, List.set_cons_succ, List.set_cons_zero])
        refine any_run1 (i := 7) (by kernel_rfl) (by rfl) (by kernel_rfl) ?_
        intro K3 hK3
        go_wp2_with fail
        refine hK3 _ _ (fun _ => hb8) ?_
        clear hK3 K3 y0 y1 y2 l7 hs7
        generalize (W7.alloc (.cells #[.int .i64 src, .int .i64 dst, .int .i64 tst] 44)).drew = W8 at *
        refine any_run1 (i := 8) (by kernel_rfl) (by rfl) (by kernel_rfl) ?_
        intro K3 hK3
        refine wp_append_run (.tmp 27) (.tmp 29) 25 _ rfl HRUN.out ?_
        refine hK3 _ _ (fun _ => hb79) ?_
        clear hK3 K3
        simp only [List.getElem_toArray, List.getElem_cons_succ, List.getElem_cons_zero, Act.put, List.setIfInBounds_toArray, List.set_cons_succ, List.set_cons_zero]
        refine any_run1 (i := 9) (by kernel_rfl) (by rfl) (by kernel_rfl) ?_
        intro K3 hK3
        go_wp2_with fail
        refine hK3 _ _ (fun _ => hb79) ?_
        clear hK3 K3
        refine any_done (by kernel_rfl) (NoPanic.normal ?_)
        have y0 := b79.cell 0
        have y1 := b79.cell 1
        have y2 := b79.cell 2
        simp at y0 y1 y2
        have l7 := b79.lt
        have c18 := hL9.size_
        have lgl := hL9.lt
        rcases HSR.out with hm1 | ⟨hp1, hp2⟩
        · subst hm1
          go_wp2_with fail
          go_roundw
          case rel => exact ⟨0 + 1, by omega, by rw [HBK.out]; rfl, HO9.out, HB9.out⟩
          case measure => (have := own_slice HO9.out; obtain ⟨A9, c9, h9⟩ := this; subst h9; have t9 := HTL9.out; simp [slen, t9]; omega)
        · go_wp2_with fail
          go_roundw
          case rel => exact ⟨0 + 1, by omega, by rw [HBK.out, pl_int hp1, Int.toNat_of_nonneg hp1], HO9.out, HB9.out⟩
          case measure => (have := own_slice HO9.out; obtain ⟨A9, c9, h9⟩ := this; subst h9; have t9 := HTL9.out; simp [slen, t9]; omega)
      | some ad =>
        clear hA2
        refine wp_region_noPanic (plain_any [0, 1, 2, 3, 4, 5, 6] (Below W7.heap.size W7) mixed ?_)
        (refine any_take 0 ?_ (by rfl) (by kernel_rfl) (fun _ _ _ _ _ hx => hx.elim) (.inl ⟨by rfl, ?_⟩) (by exact bel_of) ?_; rotate_left; (intro X hX; obtain ⟨r1, r2⟩ := Below.rules hX; clear hX; go_simp; rfl); simp only [List.getElem_toArray, List.getElem_cons_succ, List.getElem_cons_zero, Act.put, List.setIfInBounds_toArray, List.set_cons_succ, List.set_cons_zero])
        (refine any_take 1 ?_ (by rfl) (by kernel_rfl) (fun _ _ _ _ _ hx => hx.elim) (.inl ⟨by rfl, ?_⟩) (by exact bel_of) ?_; rotate_left; (intro X hX; obtain ⟨r1, r2⟩ := Below.rules hX; clear hX; go_simp; rfl); simp only [List.getElem_toArray, List.getElem_cons_succ, List.getElem_cons_zero, Act.put, List.setIfInBounds_toArray, List.set_cons_succ, List.set_cons_zero])
        (refine any_take 2 ?_ (by rfl) (by kernel_rfl) (fun _ _ _ _ _ hx => hx.elim) (.inl ⟨by rfl, ?_⟩) (by exact bel_of) ?_; rotate_left; (intro X hX; obtain ⟨r1, r2⟩ := Below.rules hX; clear hX; go_simp; rfl); simp only [List.getElem_toArray, List.getElem_cons_succ, List.getElem_cons_zero, Act.put, List.setIfInBounds_toArray, List.set_cons_succ, List.set_cons_zero])
        (refine any_take 3 ?_ (by rfl) (by kernel_rfl) (fun _ _ _ _ _ hx => hx.elim) (.inl ⟨by rfl, ?_⟩) (by exact bel_of) ?_; rotate_left; (intro X hX; obtain ⟨r1, r2⟩ := Below.rules hX; clear hX; go_simp; rfl); simp only [List.getElem_toArray, List.getElem_cons_succ, List.getElem_cons_zero, Act.put, List.setIfInBounds_toArray, List.set_cons_succ, List.set_cons_zero])
        (refine any_take 4 ?_ (by rfl) (by kernel_rfl) (fun _ _ _ _ _ hx => hx.elim) (.inl ⟨by rfl, ?_⟩) (by exact bel_of) ?_; rotate_left; (intro X hX; obtain ⟨r1, r2⟩ := Below.rules hX; clear hX; go_simp; rfl); simp only [List.getElem_toArray, List.getElem_cons_succ, List.getElem_cons_zero, Act.put, List.setIfInBounds_toArray, List.set_cons_succ, List.set_cons_zero])
        (refine any_take 5 ?_ (by rfl) (by kernel_rfl) (fun _ _ _ _ _ hx => hx.elim) (.inl ⟨by rfl, ?_⟩) (by exact bel_of) ?_; rotate_left; (intro X hX; obtain ⟨r1, r2⟩ := Below.rules hX; clear hX; go_simp; rfl); simp only [List.getElem_toArray, List.getElem_cons_succ, List.getElem_cons_zero, Act.put, List.setIfInBounds_toArray, List.set_cons_succ, List.set_cons_zero])
        (refine any_take 6 ?_ (by rfl) (by kernel_rfl) (fun _ _ _ _ _ hx => hx.elim) (.inl ⟨by rfl, ?_⟩) (by exact bel_of) ?_; rotate_left; (intro X hX; obtain ⟨r1, r2⟩ := Below.rules hX; clear hX; go_simp; rfl); simp only [List.getElem_toArray, List.getElem_cons_succ, List.getElem_cons_zero, Act.put, List.setIfInBounds_toArray, List.set_cons_succ, List.set_cons_zero])
        refine any_run1 (i := 7) (by kernel_rfl) (by rfl) (by kernel_rfl) ?_
        intro K3 hK3
        go_wp2_with fail
        refine hK3 _ _ (fun _ => hb8) ?_
        clear hK3 K3 y0 y1 y2 l7 hs7
        generalize (W7.alloc (.cells #[.int .i64 src, .int .i64 dst, .int .i64 tst] 44)).drew = W8 at *
        refine any_run1 (i := 8) (by kernel_rfl) (by rfl) (by kernel_rfl) ?_
        intro K3 hK3
        refine wp_append_run (.tmp 27) (.tmp 29) 25 _ rfl HRUN.out ?_
        refine hK3 _ _ (fun _ => hb79) ?_
        clear hK3 K3
        simp only [List.getElem_toArray, List.getElem_cons_succ, List.getElem_cons_zero, Act.put, List.setIfInBounds_toArray, List.set_cons_succ, List.set_cons_zero]
        refine any_run1 (i := 9) (by kernel_rfl) (by rfl) (by kernel_rfl) ?_
        intro K3 hK3
        go_wp2_with fail
        refine hK3 _ _ (fun _ => hb79) ?_
        clear hK3 K3
        refine any_done (by kernel_rfl) (NoPanic.normal ?_)
        have y0 := b79.cell 0
        have y1 := b79.cell 1
        have y2 := b79.cell 2
        simp at y0 y1 y2
        have l7 := b79.lt
        have c18 := hL9.size_
        have lgl := hL9.lt
        rcases HSR.out with hm1 | ⟨hp1, hp2⟩
        · subst hm1
          go_wp2_with fail
          go_roundw
          case rel => exact ⟨j + 1, by omega, by rw [HBK.out]; rfl, HO9.out, HB9.out⟩
          case measure => (have := own_slice HO9.out; obtain ⟨A9, c9, h9⟩ := this; subst h9; have t9 := HTL9.out; simp [slen, t9]; omega)
        · go_wp2_with fail
          go_roundw
          case rel => exact ⟨j + 1, by omega, by rw [HBK.out, pl_int hp1, Int.toNat_of_nonneg hp1], HO9.out, HB9.out⟩
          case measure => (have := own_slice HO9.out; obtain ⟨A9, c9, h9⟩ := this; subst h9; have t9 := HTL9.out; simp [slen, t9]; omega)
end Go.Proofs.Ytkljdbgkhghiaaa
