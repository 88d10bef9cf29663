/- Clash of the reference. Clash says just whether some blows make the blade straight. Whether two stations contradict each other, as the law asks. WarpEither: the walk. Either some blows make a blade straight, and no two tubes contradict each other; or two do, and no blows make it straight; for every blade, numbers and pair. -/
import Derived.Test.YtgbegdjakadbbaaP23
import Derived.Test.YtgbegdjakadbbaaP6
import Derived.Test.YtgbegdjakadbbaaP16
import Derived.Test.YtgbegdjakadbbaaP27
import Derived.Test.YtgbegdjakadbbaaRows
import Derived.Test.YtgbegdjakadbbaaP26
set_option linter.all false
set_option linter.unnecessarySimpa false
set_option linter.unusedSimpArgs false
set_option linter.unusedVariables false
set_option linter.unusedSectionVars false

set_option linter.all false
namespace Go.Proofs.Ytgbegdjakadbbaa
open Go.RowKit Vp

theorem tubR_at {l : List St} {i : Nat} (h : i < l.length + 1) : tubR l ((i : Int) - 1) = nthB (tubes l) i := by
  unfold tubR
  cases i with
  | zero => rw [if_pos (by omega), tubes_zero]
  | succ i => rw [if_neg (by omega), tubes_at (by omega), show (((i + 1 : Nat) : Int) - 1).toNat = i by omega]
theorem clB_max {l : List St} {m : Int} {i k : Nat} {X Y : Rg} (hX : nthB (tubes l) i = X) (hY : nthB (tubes l) k = Y) : clB l m i k = decide (m * ((k : Int) - i) < max (X.lo - Y.hi) (Y.lo - X.hi)) := by
  unfold clB
  rw [hX, hY, Bool.eq_iff_iff]
  simp
  omega
theorem ClQ.uniq {l : List St} {m a b e a' b' e' : Int} (h : ClQ l m a b e) (h' : ClQ l m a' b' e') : a = a' ∧ b = b' ∧ e = e' := by
  unfold ClQ at h h'
  split at h
  · rename_i h0
    rw [if_pos h0] at h'
    rcases h with ⟨i, k, h1, h2, h3, h4, rfl, rfl, rfl⟩ | ⟨h1, rfl, rfl, rfl⟩
    · rcases h' with ⟨i', k', g1, g2, g3, g4, rfl, rfl, rfl⟩ | ⟨g1, rfl, rfl, rfl⟩
      · have hi : i = i' := by
          rcases Nat.lt_trichotomy i i' with h | h | h
          · have := g4 i k h1 h2 (.inl h); rw [h3] at this; cases this
          · exact h
          · have := h4 i' k' g1 g2 (.inl h); rw [g3] at this; cases this
        subst hi
        have hk : k = k' := by
          rcases Nat.lt_trichotomy k k' with h | h | h
          · have := g4 i k h1 h2 (.inr ⟨rfl, h⟩); rw [h3] at this; cases this
          · exact h
          · have := h4 i k' g1 g2 (.inr ⟨rfl, h⟩); rw [g3] at this; cases this
        subst hk
        exact ⟨rfl, rfl, rfl⟩
      · have := g1 i k h1 h2; rw [h3] at this; cases this
    · rcases h' with ⟨i', k', g1, g2, g3, g4, rfl, rfl, rfl⟩ | ⟨g1, rfl, rfl, rfl⟩
      · have := h1 i' k' g1 g2; rw [g3] at this; cases this
      · exact ⟨rfl, rfl, rfl⟩
  · rename_i h0
    rw [if_neg h0] at h'
    exact ⟨h.1.trans h'.1.symm, h.2.1.trans h'.2.1.symm, h.2.2.trans h'.2.2.symm⟩
set_option maxHeartbeats 8000000 in
set_option maxRecDepth 100000 in
theorem clashR_any (l : List St) (v : Value) (m : Int) (w : World) (hl : l.length ≤ 1000) (hT : RT w w.heap.size v l) :
    Calls Try.prog 21 #[bV v m] w fun e w' => ∃ a b er, e = .returned (.tuple #[.int .i64 a, .int .i64 b, .int .i64 er]) ∧ ClQ l m a b er ∧ Below w.heap.size w w' := by
  unfold bV
  obtain ⟨b, off, cap, A, rfl, -, hcap⟩ := hT.slice
  obtain ⟨n0, hn0⟩ : ∃ n, w.heap.size = n := ⟨_, rfl⟩
  have hC : Below n0 w w := Below.refl _ _
  go_enter Try.func21, Try.ntmps21
  go_upto_region 1 with fail
  have hqbx : n0 ≤ n0 := by have := hC.size; omega
  have bx : BK (w.alloc (.cells #[.slice A l.length cap, .int .i64 m] 24)) (n0) #[.slice A l.length cap, .int .i64 m] 24 := BK.new' _ _ _ (n0) hn0
  have hsbx : (w.alloc (.cells #[.slice A l.length cap, .int .i64 m] 24)).heap.size = n0 + 1 := by simp [hn0]
  replace hC : Below n0 w (w.alloc (.cells #[.slice A l.length cap, .int .i64 m] 24)) := Below.alloc hC (by have := hC.size; omega) _
  replace hT := (RS.below hT (w' := (w.alloc (.cells #[.slice A l.length cap, .int .i64 m] 24))) (Below.alloc (Below.refl _ _) (Nat.le_refl _) _)).more (B' := (w.alloc (.cells #[.slice A l.length cap, .int .i64 m] 24)).heap.size) (by simp)
  generalize (w.alloc (.cells #[.slice A l.length cap, .int .i64 m] 24)) = Wbx at *
  have lbx := bx.lt
  have bxc0 := bx.cell 0
  have bxc1 := bx.cell 1
  simp at bxc0 bxc1
  go_wp2_with fail
  clear lbx bxc0 bxc1
  clear hsbx
  refine (checkR_any l _ m _ hl hT).mono ?_
  rintro e w1 ⟨rfl, hb⟩
  replace hC : Below n0 w w1 := hC.trans (hb.mono (by have := hC.size; omega))
  replace hT := (RS.below hT hb).more hb.size
  replace bx := bx.below hb bx.lt
  clear hb
  obtain ⟨e, he⟩ : ∃ e, blaE l m = e := ⟨_, rfl⟩
  rw [he]
  by_cases h0 : e = 0
  case neg =>
    have HE0 := Lib.hid he
    have HN := Lib.hid h0
    have b1 : (e != 0) = true := by simp [h0]
    clear he h0
    have lbx := bx.lt
    have bxc0 := bx.cell 0
    have bxc1 := bx.cell 1
    simp at bxc0 bxc1
    go_wp2_with fail
    clear lbx bxc0 bxc1
    refine (checkR_any l _ m _ hl hT).mono ?_
    rintro e w2 ⟨rfl, hb⟩
    replace hC : Below n0 w w2 := hC.trans (hb.mono (by have := hC.size; omega))
    replace hT := (RS.below hT hb).more hb.size
    replace bx := bx.below hb bx.lt
    clear hb
    rw [HE0.out]
    go_wp2_with fail
    exact bodyPost_ret (v := .tuple #[.int .i64 0, .int .i64 0, .int .i64 e]) (by simp [results, Try.results21, go_sem]) rfl ⟨_, _, _, rfl, ClQ.no HE0.out HN.out, by first | exact hC | (rw [hn0]; exact hC) | (with_reducible rw [hn0]; exact bel_of) | exact bel_of⟩
  subst h0
  have HB := Lib.hid he
  obtain ⟨-, h20, hall, hm0, hm1⟩ := blaE_ok.1 he
  have HO := Lib.hid hall
  clear he hall
  go_wp2_with fail
  obtain ⟨N, hNe⟩ : ∃ N, l.length + 1 = N := ⟨_, rfl⟩
  have hN21 : N ≤ 21 := by omega
  have HNE := Lib.hid hNe
  clear hNe
  go_loopw [5] (fun iv wr => Below w1.heap.size w1 wr ∧ ∃ i : Nat, i ≤ N ∧ iv = .int .i64 ((i : Int) - 1) ∧ (∀ i' k' : Nat, i' < k' → k' < N → i' < i → clB l m i' k' = false)) (fun iv _ => (N - (intOf iv + 1)).toNat)
  case atStart => exact ⟨Below.refl _ _, 0, Nat.zero_le _, by simp, fun i' k' _ _ h => absurd h (by omega)⟩
  case round =>
    obtain ⟨hbr, i, hi, rfl, hno⟩ := hrel
    have HBR := Lib.hid hbr
    have HNO := Lib.hid hno
    clear hno
    replace hC : Below n0 w wr := hC.trans (hbr.mono (by have := hC.size; omega))
    replace hT := (RS.below hT hbr).more hbr.size
    replace bx := bx.below hbr bx.lt
    clear hbr
    by_cases hlt : i < N
    case neg =>
      have hlt' : ¬ ((i : Int) - 1 < (l.length : Int)) := by have := HNE.out; omega
      have HQ := Lib.hid (show ClQ l m 0 0 5 from ClQ.ok HB.out (.inr ⟨fun i' k' h1 h2 => HNO.out i' k' h1 (by have := HNE.out; omega) (by have := HNE.out; omega), rfl, rfl, rfl⟩))
      have lbx := bx.lt
      have bxc0 := bx.cell 0
      have bxc1 := bx.cell 1
      simp at bxc0 bxc1
      go_wp2_with fail
      exact bodyPost_ret (v := .tuple #[.int .i64 0, .int .i64 0, .int .i64 5]) (by simp [results, Try.results21, go_sem]) rfl ⟨_, _, _, rfl, HQ.out, by first | exact hC | (rw [hn0]; exact hC) | (with_reducible rw [hn0]; exact bel_of) | exact bel_of⟩
    have hlt' : (i : Int) - 1 < (l.length : Int) := by have := HNE.out; omega
    have wi1 : IntKind.i64.wrap ((i : Int) - 1 + 1) = (i : Int) := by rw [IntKind.wrap_i64]; omega
    have lbx := bx.lt
    have bxc0 := bx.cell 0
    have bxc1 := bx.cell 1
    simp at bxc0 bxc1
    go_wp2_with fail
    clear lbx bxc0 bxc1
    rename World => wa
    go_loopw [6] (fun kv wr => Below wa.heap.size wa wr ∧ ∃ k : Nat, i < k ∧ k ≤ N ∧ kv = .int .i64 ((k : Int) - 1) ∧ (∀ k' : Nat, i < k' → k' < k → clB l m i k' = false)) (fun kv _ => (N - (intOf kv + 1)).toNat)
    case atStart => exact ⟨Below.refl _ _, i + 1, by omega, by omega, by congr 1; omega, fun k' h1 h2 => absurd h2 (by omega)⟩
    case round =>
      obtain ⟨hbr2, k, hik, hk, rfl, hnk⟩ := hrel
      have HNK := Lib.hid hnk
      have HBA := Lib.hid hbr2
      have HBK := Lib.hid (HBR.out.trans (hbr2.mono HBR.out.size))
      clear hnk
      replace hC : Below n0 w wr := hC.trans (hbr2.mono (by have := hC.size; omega))
      replace hT := (RS.below hT hbr2).more hbr2.size
      replace bx := bx.below hbr2 bx.lt
      clear hbr2
      by_cases hlk : k < N
      case neg =>
        have hlk' : ¬ ((k : Int) - 1 < (l.length : Int)) := by have := HNE.out; omega
        have wi2 : IntKind.i64.wrap ((i : Int) - 1 + 1) = (i : Int) - 1 + 1 := by rw [IntKind.wrap_i64]; omega
        have lbx := bx.lt
        have bxc0 := bx.cell 0
        have bxc1 := bx.cell 1
        simp at bxc0 bxc1
        go_wp2_with fail
        go_roundw
        case rel =>
          exact ⟨HBK.out, i + 1, by omega, by congr 1; omega, fun i' k' h1 h2 h3 => by
            rcases Nat.lt_succ_iff_lt_or_eq.1 h3 with h4 | rfl
            · exact HNO.out i' k' h1 h2 h4
            · exact HNK.out k' h1 (by omega)⟩
        case measure => simp [intOf]; omega
      have hlk' : (k : Int) - 1 < (l.length : Int) := by have := HNE.out; omega
      have hi2 : (i : Int) - 1 < (l.length : Int) := by have := HNE.out; omega
      have wd : IntKind.i64.wrap ((k : Int) - 1 - ((i : Int) - 1)) = (k : Int) - i := by rw [IntKind.wrap_i64]; omega
      have h1 : m * ((k : Int) - i) ≤ 200 * 21 := Int.mul_le_mul hm1 (by omega) (by omega) (by omega)
      have h2 : 0 ≤ m * ((k : Int) - i) := Int.mul_nonneg hm0 (by omega)
      have wm : IntKind.i64.wrap (m * ((k : Int) - (i : Int))) = m * ((k : Int) - (i : Int)) := by rw [IntKind.wrap_i64]; omega
      have wk1 : IntKind.i64.wrap ((k : Int) - 1 + 1) = (k : Int) := by rw [IntKind.wrap_i64]; omega
      have r1 := tubes_rng HO.out (show i ≤ l.length by have := HNE.out; omega)
      have r2 := tubes_rng HO.out (show k ≤ l.length by have := HNE.out; omega)
      obtain ⟨X, hX⟩ : ∃ X, nthB (tubes l) i = X := ⟨_, rfl⟩
      obtain ⟨Y, hY⟩ : ∃ X, nthB (tubes l) k = X := ⟨_, rfl⟩
      have HXE := Lib.hid ((tubR_at (show i < l.length + 1 by have := HNE.out; omega)).trans hX)
      have HYE := Lib.hid ((tubR_at (show k < l.length + 1 by have := HNE.out; omega)).trans hY)
      have hcb := clB_max (m := m) hX hY
      rw [hX] at r1
      rw [hY] at r2
      obtain ⟨M, hM⟩ : ∃ M, max (X.lo - Y.hi) (Y.lo - X.hi) = M := ⟨_, rfl⟩
      have hmx : (if X.lo - Y.hi < Y.lo - X.hi then Y.lo - X.hi else X.lo - Y.hi) = M := by rw [← hM]; omega
      have wx : IntKind.i64.wrap (X.lo - Y.hi) = X.lo - Y.hi := by rw [IntKind.wrap_i64]; omega
      have wy : IntKind.i64.wrap (Y.lo - X.hi) = Y.lo - X.hi := by rw [IntKind.wrap_i64]; omega
      rw [hM] at hcb
      have HCB := Lib.hid hcb
      clear hcb hX hY hM r1 r2 h1 h2
      have lbx := bx.lt
      have bxc0 := bx.cell 0
      have bxc1 := bx.cell 1
      simp at bxc0 bxc1
      go_wp2_with fail
      refine region_keep [30, 31, 32, 33, 34, 35, 7, 8] (fun u V => ∃ gx gy, u 7 = .pointer (some ⟨gx, 0, none⟩) ∧ u 8 = .pointer (some ⟨gy, 0, none⟩) ∧ gx ≠ gy ∧ BK V gx #[.int .i64 X.lo, .int .i64 X.hi] 42 ∧ BK V gy #[.int .i64 Y.lo, .int .i64 Y.hi] 42 ∧ Below wr.heap.size wr V) ?_ ?_
      ·skip
       have d0ya : Below wr.heap.size wr wr.drew := by exact bel_of
       refine wp_region_noPanic (plain_any [0, 1, 3, 4] (Below wr.heap.size wr) mixed ?_)
       refine any_tk 0 ?_
       refine any_tk 1 ?_
       refine any_tk 3 ?_
       refine any_tk 4 ?_
       have dya1 : Below wr.heap.size wr wr.drew := by exact bel_of
       have hdr : Below wr.heap.size wr wr.drew := Below.drew (Below.refl _ _)
       replace hT := (RS.below hT hdr).more hdr.size
       clear hdr
       generalize wr.drew = uya2 at *
       refine any_run3 (i := 2) (j := 6) (k := 7) (by kernel_rfl) (by rfl) (by rfl) (by rfl) (by rfl) (by rfl) (by rfl) ?_ ?_ ?_
       ·skip
        intro K hK
        have qya5 := dya1.size
        go_wp2_with fail
        refine (tube_any l _ m ((i : Int) - 1) _ HO.out h20 hi2 hT).mono ?_
        rintro e vya4 ⟨rfl, hb⟩
        rw [HXE.out]
        unfold rV
        have eya3 : Below wr.heap.size wr vya4 := dya1.trans (hb.mono dya1.size)
        replace hT := (RS.below hT hb).more hb.size
        clear hb
        refine hK _ _ (fun _ => eya3) ?_
        clear hK K
        refine any_run3 (i := 5) (j := 6) (k := 7) (by kernel_rfl) (by rfl) (by rfl) (by rfl) (by rfl) (by rfl) (by rfl) ?_ ?_ ?_
        ·skip
         intro K hK
         have qya8 := eya3.size
         go_wp2_with fail
         refine (tube_any l _ m ((k : Int) - 1) _ HO.out h20 hlk' hT).mono ?_
         rintro e vya7 ⟨rfl, hb⟩
         rw [HYE.out]
         unfold rV
         have eya6 : Below wr.heap.size wr vya7 := eya3.trans (hb.mono eya3.size)
         replace hT := (RS.below hT hb).more hb.size
         clear hb
         refine hK _ _ (fun _ => eya6) ?_
         clear hK K
         refine any_run2 (i := 6) (j := 7) (by kernel_rfl) (by rfl) (by rfl) (by rfl) (by rfl) ?_ ?_
         ·skip
          intro K hK
          have qya10 := eya6.size
          have eya9 : Below wr.heap.size wr (vya7.alloc (.cells #[.int .i64 0, .int .i64 0] 42)) := Below.alloc eya6 eya6.size _
          have hnx : Below vya7.heap.size vya7 (vya7.alloc (.cells #[.int .i64 0, .int .i64 0] 42)) := Below.alloc (Below.refl _ _) (Nat.le_refl _) _
          go_wp2_with fail
          replace hT := (RS.below hT hnx).more hnx.size
          have kx : BK (vya7.alloc (.cells #[.int .i64 0, .int .i64 0] 42)) vya7.heap.size #[.int .i64 0, .int .i64 0] 42 := BK.new _ _ _
          refine hK _ _ (fun _ => eya9) ?_
          clear hK K hnx
          generalize (vya7.alloc (.cells #[.int .i64 0, .int .i64 0] 42)) = vya11 at *
          obtain ⟨gkx, hgkx⟩ : ∃ g, vya7.heap.size = g := ⟨_, rfl⟩
          have hqkx : wr.heap.size ≤ gkx := by omega
          rw [hgkx] at kx
          try rw [hgkx]
          clear hgkx
          refine any_run1 (i := 7) (by kernel_rfl) (by rfl) (by kernel_rfl) ?_
          intro K hK
          have qya13 := eya9.size
          have eya12 : Below wr.heap.size wr (vya11.alloc (.cells #[.int .i64 0, .int .i64 0] 42)) := Below.alloc eya9 eya9.size _
          have hnx : Below vya11.heap.size vya11 (vya11.alloc (.cells #[.int .i64 0, .int .i64 0] 42)) := Below.alloc (Below.refl _ _) (Nat.le_refl _) _
          go_wp2_with fail
          have nekxky : gkx ≠ vya11.heap.size := Nat.ne_of_lt kx.lt
          replace kx := kx.below hnx kx.lt
          replace hT := (RS.below hT hnx).more hnx.size
          have ky : BK (vya11.alloc (.cells #[.int .i64 0, .int .i64 0] 42)) vya11.heap.size #[.int .i64 0, .int .i64 0] 42 := BK.new _ _ _
          refine hK _ _ (fun _ => eya12) ?_
          clear hK K hnx
          generalize (vya11.alloc (.cells #[.int .i64 0, .int .i64 0] 42)) = vya14 at *
          obtain ⟨gky, hgky⟩ : ∃ g, vya11.heap.size = g := ⟨_, rfl⟩
          have hqky : wr.heap.size ≤ gky := by omega
          rw [hgky] at ky nekxky
          try rw [hgky]
          clear hgky
          refine any_run1 (i := 8) (by kernel_rfl) (by rfl) (by kernel_rfl) ?_
          intro K hK
          have lkx := kx.lt
          have y0 := kx.cell 0
          have f0 := kx.frozen 0
          have y1 := kx.cell 1
          have f1 := kx.frozen 1
          simp at y0 y1
          go_wp2_with fail
          have eya15 : Below wr.heap.size wr ((vya14.setCell ⟨gkx, 0, none⟩ (.int .i64 X.lo)).setCell ⟨gkx, 1, none⟩ (.int .i64 X.hi)) := by exact bel_of
          have ky_ : BK ((vya14.setCell ⟨gkx, 0, none⟩ (.int .i64 X.lo)).setCell ⟨gkx, 1, none⟩ (.int .i64 X.hi)) gky _ _ := (BK.far (BK.far ky (p := ⟨gkx, 0, none⟩) (by first | assumption | exact Ne.symm (by assumption)) _) (p := ⟨gkx, 1, none⟩) (by first | assumption | exact Ne.symm (by assumption)) _); clear ky; have ky := ky_; clear ky_
          have kx_ := ((kx.set 0 (.int .i64 X.lo)).set 1 (.int .i64 X.hi))
          simp at kx_
          clear kx; have kx := kx_; clear kx_
          clear y0 f0 y1 f1
          refine hK _ _ (fun _ => eya15) ?_
          clear hK K
          generalize ((vya14.setCell ⟨gkx, 0, none⟩ (.int .i64 X.lo)).setCell ⟨gkx, 1, none⟩ (.int .i64 X.hi)) = vya16 at *
          refine any_run1 (i := 9) (by kernel_rfl) (by rfl) (by kernel_rfl) ?_
          intro K hK
          have lky := ky.lt
          have y0 := ky.cell 0
          have f0 := ky.frozen 0
          have y1 := ky.cell 1
          have f1 := ky.frozen 1
          simp at y0 y1
          go_wp2_with fail
          have eya17 : Below wr.heap.size wr ((vya16.setCell ⟨gky, 0, none⟩ (.int .i64 Y.lo)).setCell ⟨gky, 1, none⟩ (.int .i64 Y.hi)) := by exact bel_of
          have kx_ : BK ((vya16.setCell ⟨gky, 0, none⟩ (.int .i64 Y.lo)).setCell ⟨gky, 1, none⟩ (.int .i64 Y.hi)) gkx _ _ := (BK.far (BK.far kx (p := ⟨gky, 0, none⟩) (by first | assumption | exact Ne.symm (by assumption)) _) (p := ⟨gky, 1, none⟩) (by first | assumption | exact Ne.symm (by assumption)) _); clear kx; have kx := kx_; clear kx_
          have ky_ := ((ky.set 0 (.int .i64 Y.lo)).set 1 (.int .i64 Y.hi))
          simp at ky_
          clear ky; have ky := ky_; clear ky_
          clear y0 f0 y1 f1
          refine hK _ _ (fun _ => eya17) ?_
          clear hK K
          generalize ((vya16.setCell ⟨gky, 0, none⟩ (.int .i64 Y.lo)).setCell ⟨gky, 1, none⟩ (.int .i64 Y.hi)) = vya18 at *
          refine any_done (by kernel_rfl) (NoPanic.normal ?_)
          exact ⟨rfl, by simp [setAll], rfl, _, _, rfl, rfl, by first | assumption | exact Ne.symm (by assumption), kx, ky, eya17⟩
         ·skip
          intro K hK
          have qya20 := eya6.size
          have eya19 : Below wr.heap.size wr (vya7.alloc (.cells #[.int .i64 0, .int .i64 0] 42)) := Below.alloc eya6 eya6.size _
          have hnx : Below vya7.heap.size vya7 (vya7.alloc (.cells #[.int .i64 0, .int .i64 0] 42)) := Below.alloc (Below.refl _ _) (Nat.le_refl _) _
          go_wp2_with fail
          replace hT := (RS.below hT hnx).more hnx.size
          have ky : BK (vya7.alloc (.cells #[.int .i64 0, .int .i64 0] 42)) vya7.heap.size #[.int .i64 0, .int .i64 0] 42 := BK.new _ _ _
          refine hK _ _ (fun _ => eya19) ?_
          clear hK K hnx
          generalize (vya7.alloc (.cells #[.int .i64 0, .int .i64 0] 42)) = vya21 at *
          obtain ⟨gky, hgky⟩ : ∃ g, vya7.heap.size = g := ⟨_, rfl⟩
          have hqky : wr.heap.size ≤ gky := by omega
          rw [hgky] at ky
          try rw [hgky]
          clear hgky
          refine any_run1 (i := 6) (by kernel_rfl) (by rfl) (by kernel_rfl) ?_
          intro K hK
          have qya23 := eya19.size
          have eya22 : Below wr.heap.size wr (vya21.alloc (.cells #[.int .i64 0, .int .i64 0] 42)) := Below.alloc eya19 eya19.size _
          have hnx : Below vya21.heap.size vya21 (vya21.alloc (.cells #[.int .i64 0, .int .i64 0] 42)) := Below.alloc (Below.refl _ _) (Nat.le_refl _) _
          go_wp2_with fail
          have nekykx : gky ≠ vya21.heap.size := Nat.ne_of_lt ky.lt
          replace ky := ky.below hnx ky.lt
          replace hT := (RS.below hT hnx).more hnx.size
          have kx : BK (vya21.alloc (.cells #[.int .i64 0, .int .i64 0] 42)) vya21.heap.size #[.int .i64 0, .int .i64 0] 42 := BK.new _ _ _
          refine hK _ _ (fun _ => eya22) ?_
          clear hK K hnx
          generalize (vya21.alloc (.cells #[.int .i64 0, .int .i64 0] 42)) = vya24 at *
          obtain ⟨gkx, hgkx⟩ : ∃ g, vya21.heap.size = g := ⟨_, rfl⟩
          have hqkx : wr.heap.size ≤ gkx := by omega
          rw [hgkx] at kx nekykx
          try rw [hgkx]
          clear hgkx
          refine any_run1 (i := 8) (by kernel_rfl) (by rfl) (by kernel_rfl) ?_
          intro K hK
          have lkx := kx.lt
          have y0 := kx.cell 0
          have f0 := kx.frozen 0
          have y1 := kx.cell 1
          have f1 := kx.frozen 1
          simp at y0 y1
          go_wp2_with fail
          have eya25 : Below wr.heap.size wr ((vya24.setCell ⟨gkx, 0, none⟩ (.int .i64 X.lo)).setCell ⟨gkx, 1, none⟩ (.int .i64 X.hi)) := by exact bel_of
          have ky_ : BK ((vya24.setCell ⟨gkx, 0, none⟩ (.int .i64 X.lo)).setCell ⟨gkx, 1, none⟩ (.int .i64 X.hi)) gky _ _ := (BK.far (BK.far ky (p := ⟨gkx, 0, none⟩) (by first | assumption | exact Ne.symm (by assumption)) _) (p := ⟨gkx, 1, none⟩) (by first | assumption | exact Ne.symm (by assumption)) _); clear ky; have ky := ky_; clear ky_
          have kx_ := ((kx.set 0 (.int .i64 X.lo)).set 1 (.int .i64 X.hi))
          simp at kx_
          clear kx; have kx := kx_; clear kx_
          clear y0 f0 y1 f1
          refine hK _ _ (fun _ => eya25) ?_
          clear hK K
          generalize ((vya24.setCell ⟨gkx, 0, none⟩ (.int .i64 X.lo)).setCell ⟨gkx, 1, none⟩ (.int .i64 X.hi)) = vya26 at *
          refine any_run1 (i := 9) (by kernel_rfl) (by rfl) (by kernel_rfl) ?_
          intro K hK
          have lky := ky.lt
          have y0 := ky.cell 0
          have f0 := ky.frozen 0
          have y1 := ky.cell 1
          have f1 := ky.frozen 1
          simp at y0 y1
          go_wp2_with fail
          have eya27 : Below wr.heap.size wr ((vya26.setCell ⟨gky, 0, none⟩ (.int .i64 Y.lo)).setCell ⟨gky, 1, none⟩ (.int .i64 Y.hi)) := by exact bel_of
          have kx_ : BK ((vya26.setCell ⟨gky, 0, none⟩ (.int .i64 Y.lo)).setCell ⟨gky, 1, none⟩ (.int .i64 Y.hi)) gkx _ _ := (BK.far (BK.far kx (p := ⟨gky, 0, none⟩) (by first | assumption | exact Ne.symm (by assumption)) _) (p := ⟨gky, 1, none⟩) (by first | assumption | exact Ne.symm (by assumption)) _); clear kx; have kx := kx_; clear kx_
          have ky_ := ((ky.set 0 (.int .i64 Y.lo)).set 1 (.int .i64 Y.hi))
          simp at ky_
          clear ky; have ky := ky_; clear ky_
          clear y0 f0 y1 f1
          refine hK _ _ (fun _ => eya27) ?_
          clear hK K
          generalize ((vya26.setCell ⟨gky, 0, none⟩ (.int .i64 Y.lo)).setCell ⟨gky, 1, none⟩ (.int .i64 Y.hi)) = vya28 at *
          refine any_done (by kernel_rfl) (NoPanic.normal ?_)
          exact ⟨rfl, by simp [setAll], rfl, _, _, rfl, rfl, by first | assumption | exact Ne.symm (by assumption), kx, ky, eya27⟩
        ·skip
         intro K hK
         have qya30 := eya3.size
         have eya29 : Below wr.heap.size wr (vya4.alloc (.cells #[.int .i64 0, .int .i64 0] 42)) := Below.alloc eya3 eya3.size _
         have hnx : Below vya4.heap.size vya4 (vya4.alloc (.cells #[.int .i64 0, .int .i64 0] 42)) := Below.alloc (Below.refl _ _) (Nat.le_refl _) _
         go_wp2_with fail
         replace hT := (RS.below hT hnx).more hnx.size
         have kx : BK (vya4.alloc (.cells #[.int .i64 0, .int .i64 0] 42)) vya4.heap.size #[.int .i64 0, .int .i64 0] 42 := BK.new _ _ _
         refine hK _ _ (fun _ => eya29) ?_
         clear hK K hnx
         generalize (vya4.alloc (.cells #[.int .i64 0, .int .i64 0] 42)) = vya31 at *
         obtain ⟨gkx, hgkx⟩ : ∃ g, vya4.heap.size = g := ⟨_, rfl⟩
         have hqkx : wr.heap.size ≤ gkx := by omega
         rw [hgkx] at kx
         try rw [hgkx]
         clear hgkx
         refine any_run2 (i := 5) (j := 7) (by kernel_rfl) (by rfl) (by rfl) (by rfl) (by rfl) ?_ ?_
         ·skip
          intro K hK
          have qya34 := eya29.size
          go_wp2_with fail
          refine (tube_any l _ m ((k : Int) - 1) _ HO.out h20 hlk' hT).mono ?_
          rintro e vya33 ⟨rfl, hb⟩
          rw [HYE.out]
          unfold rV
          have eya32 : Below wr.heap.size wr vya33 := eya29.trans (hb.mono eya29.size)
          replace kx := kx.below hb kx.lt
          replace hT := (RS.below hT hb).more hb.size
          clear hb
          refine hK _ _ (fun _ => eya32) ?_
          clear hK K
          refine any_run1 (i := 7) (by kernel_rfl) (by rfl) (by kernel_rfl) ?_
          intro K hK
          have qya36 := eya32.size
          have eya35 : Below wr.heap.size wr (vya33.alloc (.cells #[.int .i64 0, .int .i64 0] 42)) := Below.alloc eya32 eya32.size _
          have hnx : Below vya33.heap.size vya33 (vya33.alloc (.cells #[.int .i64 0, .int .i64 0] 42)) := Below.alloc (Below.refl _ _) (Nat.le_refl _) _
          go_wp2_with fail
          have nekxky : gkx ≠ vya33.heap.size := Nat.ne_of_lt kx.lt
          replace kx := kx.below hnx kx.lt
          replace hT := (RS.below hT hnx).more hnx.size
          have ky : BK (vya33.alloc (.cells #[.int .i64 0, .int .i64 0] 42)) vya33.heap.size #[.int .i64 0, .int .i64 0] 42 := BK.new _ _ _
          refine hK _ _ (fun _ => eya35) ?_
          clear hK K hnx
          generalize (vya33.alloc (.cells #[.int .i64 0, .int .i64 0] 42)) = vya37 at *
          obtain ⟨gky, hgky⟩ : ∃ g, vya33.heap.size = g := ⟨_, rfl⟩
          have hqky : wr.heap.size ≤ gky := by omega
          rw [hgky] at ky nekxky
          try rw [hgky]
          clear hgky
          refine any_run1 (i := 8) (by kernel_rfl) (by rfl) (by kernel_rfl) ?_
          intro K hK
          have lkx := kx.lt
          have y0 := kx.cell 0
          have f0 := kx.frozen 0
          have y1 := kx.cell 1
          have f1 := kx.frozen 1
          simp at y0 y1
          go_wp2_with fail
          have eya38 : Below wr.heap.size wr ((vya37.setCell ⟨gkx, 0, none⟩ (.int .i64 X.lo)).setCell ⟨gkx, 1, none⟩ (.int .i64 X.hi)) := by exact bel_of
          have ky_ : BK ((vya37.setCell ⟨gkx, 0, none⟩ (.int .i64 X.lo)).setCell ⟨gkx, 1, none⟩ (.int .i64 X.hi)) gky _ _ := (BK.far (BK.far ky (p := ⟨gkx, 0, none⟩) (by first | assumption | exact Ne.symm (by assumption)) _) (p := ⟨gkx, 1, none⟩) (by first | assumption | exact Ne.symm (by assumption)) _); clear ky; have ky := ky_; clear ky_
          have kx_ := ((kx.set 0 (.int .i64 X.lo)).set 1 (.int .i64 X.hi))
          simp at kx_
          clear kx; have kx := kx_; clear kx_
          clear y0 f0 y1 f1
          refine hK _ _ (fun _ => eya38) ?_
          clear hK K
          generalize ((vya37.setCell ⟨gkx, 0, none⟩ (.int .i64 X.lo)).setCell ⟨gkx, 1, none⟩ (.int .i64 X.hi)) = vya39 at *
          refine any_run1 (i := 9) (by kernel_rfl) (by rfl) (by kernel_rfl) ?_
          intro K hK
          have lky := ky.lt
          have y0 := ky.cell 0
          have f0 := ky.frozen 0
          have y1 := ky.cell 1
          have f1 := ky.frozen 1
          simp at y0 y1
          go_wp2_with fail
          have eya40 : Below wr.heap.size wr ((vya39.setCell ⟨gky, 0, none⟩ (.int .i64 Y.lo)).setCell ⟨gky, 1, none⟩ (.int .i64 Y.hi)) := by exact bel_of
          have kx_ : BK ((vya39.setCell ⟨gky, 0, none⟩ (.int .i64 Y.lo)).setCell ⟨gky, 1, none⟩ (.int .i64 Y.hi)) gkx _ _ := (BK.far (BK.far kx (p := ⟨gky, 0, none⟩) (by first | assumption | exact Ne.symm (by assumption)) _) (p := ⟨gky, 1, none⟩) (by first | assumption | exact Ne.symm (by assumption)) _); clear kx; have kx := kx_; clear kx_
          have ky_ := ((ky.set 0 (.int .i64 Y.lo)).set 1 (.int .i64 Y.hi))
          simp at ky_
          clear ky; have ky := ky_; clear ky_
          clear y0 f0 y1 f1
          refine hK _ _ (fun _ => eya40) ?_
          clear hK K
          generalize ((vya39.setCell ⟨gky, 0, none⟩ (.int .i64 Y.lo)).setCell ⟨gky, 1, none⟩ (.int .i64 Y.hi)) = vya41 at *
          refine any_done (by kernel_rfl) (NoPanic.normal ?_)
          exact ⟨rfl, by simp [setAll], rfl, _, _, rfl, rfl, by first | assumption | exact Ne.symm (by assumption), kx, ky, eya40⟩
         ·skip
          intro K hK
          have qya43 := eya29.size
          have eya42 : Below wr.heap.size wr (vya31.alloc (.cells #[.int .i64 0, .int .i64 0] 42)) := Below.alloc eya29 eya29.size _
          have hnx : Below vya31.heap.size vya31 (vya31.alloc (.cells #[.int .i64 0, .int .i64 0] 42)) := Below.alloc (Below.refl _ _) (Nat.le_refl _) _
          go_wp2_with fail
          have nekxky : gkx ≠ vya31.heap.size := Nat.ne_of_lt kx.lt
          replace kx := kx.below hnx kx.lt
          replace hT := (RS.below hT hnx).more hnx.size
          have ky : BK (vya31.alloc (.cells #[.int .i64 0, .int .i64 0] 42)) vya31.heap.size #[.int .i64 0, .int .i64 0] 42 := BK.new _ _ _
          refine hK _ _ (fun _ => eya42) ?_
          clear hK K hnx
          generalize (vya31.alloc (.cells #[.int .i64 0, .int .i64 0] 42)) = vya44 at *
          obtain ⟨gky, hgky⟩ : ∃ g, vya31.heap.size = g := ⟨_, rfl⟩
          have hqky : wr.heap.size ≤ gky := by omega
          rw [hgky] at ky nekxky
          try rw [hgky]
          clear hgky
          refine any_run1 (i := 5) (by kernel_rfl) (by rfl) (by kernel_rfl) ?_
          intro K hK
          have qya47 := eya42.size
          go_wp2_with fail
          refine (tube_any l _ m ((k : Int) - 1) _ HO.out h20 hlk' hT).mono ?_
          rintro e vya46 ⟨rfl, hb⟩
          rw [HYE.out]
          unfold rV
          have eya45 : Below wr.heap.size wr vya46 := eya42.trans (hb.mono eya42.size)
          replace kx := kx.below hb kx.lt
          replace ky := ky.below hb ky.lt
          replace hT := (RS.below hT hb).more hb.size
          clear hb
          refine hK _ _ (fun _ => eya45) ?_
          clear hK K
          refine any_run1 (i := 8) (by kernel_rfl) (by rfl) (by kernel_rfl) ?_
          intro K hK
          have lkx := kx.lt
          have y0 := kx.cell 0
          have f0 := kx.frozen 0
          have y1 := kx.cell 1
          have f1 := kx.frozen 1
          simp at y0 y1
          go_wp2_with fail
          have eya48 : Below wr.heap.size wr ((vya46.setCell ⟨gkx, 0, none⟩ (.int .i64 X.lo)).setCell ⟨gkx, 1, none⟩ (.int .i64 X.hi)) := by exact bel_of
          have ky_ : BK ((vya46.setCell ⟨gkx, 0, none⟩ (.int .i64 X.lo)).setCell ⟨gkx, 1, none⟩ (.int .i64 X.hi)) gky _ _ := (BK.far (BK.far ky (p := ⟨gkx, 0, none⟩) (by first | assumption | exact Ne.symm (by assumption)) _) (p := ⟨gkx, 1, none⟩) (by first | assumption | exact Ne.symm (by assumption)) _); clear ky; have ky := ky_; clear ky_
          have kx_ := ((kx.set 0 (.int .i64 X.lo)).set 1 (.int .i64 X.hi))
          simp at kx_
          clear kx; have kx := kx_; clear kx_
          clear y0 f0 y1 f1
          refine hK _ _ (fun _ => eya48) ?_
          clear hK K
          generalize ((vya46.setCell ⟨gkx, 0, none⟩ (.int .i64 X.lo)).setCell ⟨gkx, 1, none⟩ (.int .i64 X.hi)) = vya49 at *
          refine any_run1 (i := 9) (by kernel_rfl) (by rfl) (by kernel_rfl) ?_
          intro K hK
          have lky := ky.lt
          have y0 := ky.cell 0
          have f0 := ky.frozen 0
          have y1 := ky.cell 1
          have f1 := ky.frozen 1
          simp at y0 y1
          go_wp2_with fail
          have eya50 : Below wr.heap.size wr ((vya49.setCell ⟨gky, 0, none⟩ (.int .i64 Y.lo)).setCell ⟨gky, 1, none⟩ (.int .i64 Y.hi)) := by exact bel_of
          have kx_ : BK ((vya49.setCell ⟨gky, 0, none⟩ (.int .i64 Y.lo)).setCell ⟨gky, 1, none⟩ (.int .i64 Y.hi)) gkx _ _ := (BK.far (BK.far kx (p := ⟨gky, 0, none⟩) (by first | assumption | exact Ne.symm (by assumption)) _) (p := ⟨gky, 1, none⟩) (by first | assumption | exact Ne.symm (by assumption)) _); clear kx; have kx := kx_; clear kx_
          have ky_ := ((ky.set 0 (.int .i64 Y.lo)).set 1 (.int .i64 Y.hi))
          simp at ky_
          clear ky; have ky := ky_; clear ky_
          clear y0 f0 y1 f1
          refine hK _ _ (fun _ => eya50) ?_
          clear hK K
          generalize ((vya49.setCell ⟨gky, 0, none⟩ (.int .i64 Y.lo)).setCell ⟨gky, 1, none⟩ (.int .i64 Y.hi)) = vya51 at *
          refine any_done (by kernel_rfl) (NoPanic.normal ?_)
          exact ⟨rfl, by simp [setAll], rfl, _, _, rfl, rfl, by first | assumption | exact Ne.symm (by assumption), kx, ky, eya50⟩
        ·skip
         intro K hK
         have qya53 := eya3.size
         have eya52 : Below wr.heap.size wr (vya4.alloc (.cells #[.int .i64 0, .int .i64 0] 42)) := Below.alloc eya3 eya3.size _
         have hnx : Below vya4.heap.size vya4 (vya4.alloc (.cells #[.int .i64 0, .int .i64 0] 42)) := Below.alloc (Below.refl _ _) (Nat.le_refl _) _
         go_wp2_with fail
         replace hT := (RS.below hT hnx).more hnx.size
         have ky : BK (vya4.alloc (.cells #[.int .i64 0, .int .i64 0] 42)) vya4.heap.size #[.int .i64 0, .int .i64 0] 42 := BK.new _ _ _
         refine hK _ _ (fun _ => eya52) ?_
         clear hK K hnx
         generalize (vya4.alloc (.cells #[.int .i64 0, .int .i64 0] 42)) = vya54 at *
         obtain ⟨gky, hgky⟩ : ∃ g, vya4.heap.size = g := ⟨_, rfl⟩
         have hqky : wr.heap.size ≤ gky := by omega
         rw [hgky] at ky
         try rw [hgky]
         clear hgky
         refine any_run2 (i := 5) (j := 6) (by kernel_rfl) (by rfl) (by rfl) (by rfl) (by rfl) ?_ ?_
         ·skip
          intro K hK
          have qya57 := eya52.size
          go_wp2_with fail
          refine (tube_any l _ m ((k : Int) - 1) _ HO.out h20 hlk' hT).mono ?_
          rintro e vya56 ⟨rfl, hb⟩
          rw [HYE.out]
          unfold rV
          have eya55 : Below wr.heap.size wr vya56 := eya52.trans (hb.mono eya52.size)
          replace ky := ky.below hb ky.lt
          replace hT := (RS.below hT hb).more hb.size
          clear hb
          refine hK _ _ (fun _ => eya55) ?_
          clear hK K
          refine any_run1 (i := 6) (by kernel_rfl) (by rfl) (by kernel_rfl) ?_
          intro K hK
          have qya59 := eya55.size
          have eya58 : Below wr.heap.size wr (vya56.alloc (.cells #[.int .i64 0, .int .i64 0] 42)) := Below.alloc eya55 eya55.size _
          have hnx : Below vya56.heap.size vya56 (vya56.alloc (.cells #[.int .i64 0, .int .i64 0] 42)) := Below.alloc (Below.refl _ _) (Nat.le_refl _) _
          go_wp2_with fail
          have nekykx : gky ≠ vya56.heap.size := Nat.ne_of_lt ky.lt
          replace ky := ky.below hnx ky.lt
          replace hT := (RS.below hT hnx).more hnx.size
          have kx : BK (vya56.alloc (.cells #[.int .i64 0, .int .i64 0] 42)) vya56.heap.size #[.int .i64 0, .int .i64 0] 42 := BK.new _ _ _
          refine hK _ _ (fun _ => eya58) ?_
          clear hK K hnx
          generalize (vya56.alloc (.cells #[.int .i64 0, .int .i64 0] 42)) = vya60 at *
          obtain ⟨gkx, hgkx⟩ : ∃ g, vya56.heap.size = g := ⟨_, rfl⟩
          have hqkx : wr.heap.size ≤ gkx := by omega
          rw [hgkx] at kx nekykx
          try rw [hgkx]
          clear hgkx
          refine any_run1 (i := 8) (by kernel_rfl) (by rfl) (by kernel_rfl) ?_
          intro K hK
          have lkx := kx.lt
          have y0 := kx.cell 0
          have f0 := kx.frozen 0
          have y1 := kx.cell 1
          have f1 := kx.frozen 1
          simp at y0 y1
          go_wp2_with fail
          have eya61 : Below wr.heap.size wr ((vya60.setCell ⟨gkx, 0, none⟩ (.int .i64 X.lo)).setCell ⟨gkx, 1, none⟩ (.int .i64 X.hi)) := by exact bel_of
          have ky_ : BK ((vya60.setCell ⟨gkx, 0, none⟩ (.int .i64 X.lo)).setCell ⟨gkx, 1, none⟩ (.int .i64 X.hi)) gky _ _ := (BK.far (BK.far ky (p := ⟨gkx, 0, none⟩) (by first | assumption | exact Ne.symm (by assumption)) _) (p := ⟨gkx, 1, none⟩) (by first | assumption | exact Ne.symm (by assumption)) _); clear ky; have ky := ky_; clear ky_
          have kx_ := ((kx.set 0 (.int .i64 X.lo)).set 1 (.int .i64 X.hi))
          simp at kx_
          clear kx; have kx := kx_; clear kx_
          clear y0 f0 y1 f1
          refine hK _ _ (fun _ => eya61) ?_
          clear hK K
          generalize ((vya60.setCell ⟨gkx, 0, none⟩ (.int .i64 X.lo)).setCell ⟨gkx, 1, none⟩ (.int .i64 X.hi)) = vya62 at *
          refine any_run1 (i := 9) (by kernel_rfl) (by rfl) (by kernel_rfl) ?_
          intro K hK
          have lky := ky.lt
          have y0 := ky.cell 0
          have f0 := ky.frozen 0
          have y1 := ky.cell 1
          have f1 := ky.frozen 1
          simp at y0 y1
          go_wp2_with fail
          have eya63 : Below wr.heap.size wr ((vya62.setCell ⟨gky, 0, none⟩ (.int .i64 Y.lo)).setCell ⟨gky, 1, none⟩ (.int .i64 Y.hi)) := by exact bel_of
          have kx_ : BK ((vya62.setCell ⟨gky, 0, none⟩ (.int .i64 Y.lo)).setCell ⟨gky, 1, none⟩ (.int .i64 Y.hi)) gkx _ _ := (BK.far (BK.far kx (p := ⟨gky, 0, none⟩) (by first | assumption | exact Ne.symm (by assumption)) _) (p := ⟨gky, 1, none⟩) (by first | assumption | exact Ne.symm (by assumption)) _); clear kx; have kx := kx_; clear kx_
          have ky_ := ((ky.set 0 (.int .i64 Y.lo)).set 1 (.int .i64 Y.hi))
          simp at ky_
          clear ky; have ky := ky_; clear ky_
          clear y0 f0 y1 f1
          refine hK _ _ (fun _ => eya63) ?_
          clear hK K
          generalize ((vya62.setCell ⟨gky, 0, none⟩ (.int .i64 Y.lo)).setCell ⟨gky, 1, none⟩ (.int .i64 Y.hi)) = vya64 at *
          refine any_done (by kernel_rfl) (NoPanic.normal ?_)
          exact ⟨rfl, by simp [setAll], rfl, _, _, rfl, rfl, by first | assumption | exact Ne.symm (by assumption), kx, ky, eya63⟩
         ·skip
          intro K hK
          have qya66 := eya52.size
          have eya65 : Below wr.heap.size wr (vya54.alloc (.cells #[.int .i64 0, .int .i64 0] 42)) := Below.alloc eya52 eya52.size _
          have hnx : Below vya54.heap.size vya54 (vya54.alloc (.cells #[.int .i64 0, .int .i64 0] 42)) := Below.alloc (Below.refl _ _) (Nat.le_refl _) _
          go_wp2_with fail
          have nekykx : gky ≠ vya54.heap.size := Nat.ne_of_lt ky.lt
          replace ky := ky.below hnx ky.lt
          replace hT := (RS.below hT hnx).more hnx.size
          have kx : BK (vya54.alloc (.cells #[.int .i64 0, .int .i64 0] 42)) vya54.heap.size #[.int .i64 0, .int .i64 0] 42 := BK.new _ _ _
          refine hK _ _ (fun _ => eya65) ?_
          clear hK K hnx
          generalize (vya54.alloc (.cells #[.int .i64 0, .int .i64 0] 42)) = vya67 at *
          obtain ⟨gkx, hgkx⟩ : ∃ g, vya54.heap.size = g := ⟨_, rfl⟩
          have hqkx : wr.heap.size ≤ gkx := by omega
          rw [hgkx] at kx nekykx
          try rw [hgkx]
          clear hgkx
          refine any_run1 (i := 5) (by kernel_rfl) (by rfl) (by kernel_rfl) ?_
          intro K hK
          have qya70 := eya65.size
          go_wp2_with fail
          refine (tube_any l _ m ((k : Int) - 1) _ HO.out h20 hlk' hT).mono ?_
          rintro e vya69 ⟨rfl, hb⟩
          rw [HYE.out]
          unfold rV
          have eya68 : Below wr.heap.size wr vya69 := eya65.trans (hb.mono eya65.size)
          replace ky := ky.below hb ky.lt
          replace kx := kx.below hb kx.lt
          replace hT := (RS.below hT hb).more hb.size
          clear hb
          refine hK _ _ (fun _ => eya68) ?_
          clear hK K
          refine any_run1 (i := 8) (by kernel_rfl) (by rfl) (by kernel_rfl) ?_
          intro K hK
          have lkx := kx.lt
          have y0 := kx.cell 0
          have f0 := kx.frozen 0
          have y1 := kx.cell 1
          have f1 := kx.frozen 1
          simp at y0 y1
          go_wp2_with fail
          have eya71 : Below wr.heap.size wr ((vya69.setCell ⟨gkx, 0, none⟩ (.int .i64 X.lo)).setCell ⟨gkx, 1, none⟩ (.int .i64 X.hi)) := by exact bel_of
          have ky_ : BK ((vya69.setCell ⟨gkx, 0, none⟩ (.int .i64 X.lo)).setCell ⟨gkx, 1, none⟩ (.int .i64 X.hi)) gky _ _ := (BK.far (BK.far ky (p := ⟨gkx, 0, none⟩) (by first | assumption | exact Ne.symm (by assumption)) _) (p := ⟨gkx, 1, none⟩) (by first | assumption | exact Ne.symm (by assumption)) _); clear ky; have ky := ky_; clear ky_
          have kx_ := ((kx.set 0 (.int .i64 X.lo)).set 1 (.int .i64 X.hi))
          simp at kx_
          clear kx; have kx := kx_; clear kx_
          clear y0 f0 y1 f1
          refine hK _ _ (fun _ => eya71) ?_
          clear hK K
          generalize ((vya69.setCell ⟨gkx, 0, none⟩ (.int .i64 X.lo)).setCell ⟨gkx, 1, none⟩ (.int .i64 X.hi)) = vya72 at *
          refine any_run1 (i := 9) (by kernel_rfl) (by rfl) (by kernel_rfl) ?_
          intro K hK
          have lky := ky.lt
          have y0 := ky.cell 0
          have f0 := ky.frozen 0
          have y1 := ky.cell 1
          have f1 := ky.frozen 1
          simp at y0 y1
          go_wp2_with fail
          have eya73 : Below wr.heap.size wr ((vya72.setCell ⟨gky, 0, none⟩ (.int .i64 Y.lo)).setCell ⟨gky, 1, none⟩ (.int .i64 Y.hi)) := by exact bel_of
          have kx_ : BK ((vya72.setCell ⟨gky, 0, none⟩ (.int .i64 Y.lo)).setCell ⟨gky, 1, none⟩ (.int .i64 Y.hi)) gkx _ _ := (BK.far (BK.far kx (p := ⟨gky, 0, none⟩) (by first | assumption | exact Ne.symm (by assumption)) _) (p := ⟨gky, 1, none⟩) (by first | assumption | exact Ne.symm (by assumption)) _); clear kx; have kx := kx_; clear kx_
          have ky_ := ((ky.set 0 (.int .i64 Y.lo)).set 1 (.int .i64 Y.hi))
          simp at ky_
          clear ky; have ky := ky_; clear ky_
          clear y0 f0 y1 f1
          refine hK _ _ (fun _ => eya73) ?_
          clear hK K
          generalize ((vya72.setCell ⟨gky, 0, none⟩ (.int .i64 Y.lo)).setCell ⟨gky, 1, none⟩ (.int .i64 Y.hi)) = vya74 at *
          refine any_done (by kernel_rfl) (NoPanic.normal ?_)
          exact ⟨rfl, by simp [setAll], rfl, _, _, rfl, rfl, by first | assumption | exact Ne.symm (by assumption), kx, ky, eya73⟩
       ·skip
        intro K hK
        have qya76 := dya1.size
        have eya75 : Below wr.heap.size wr (uya2.alloc (.cells #[.int .i64 0, .int .i64 0] 42)) := Below.alloc dya1 dya1.size _
        have hnx : Below uya2.heap.size uya2 (uya2.alloc (.cells #[.int .i64 0, .int .i64 0] 42)) := Below.alloc (Below.refl _ _) (Nat.le_refl _) _
        go_wp2_with fail
        replace hT := (RS.below hT hnx).more hnx.size
        have kx : BK (uya2.alloc (.cells #[.int .i64 0, .int .i64 0] 42)) uya2.heap.size #[.int .i64 0, .int .i64 0] 42 := BK.new _ _ _
        refine hK _ _ (fun _ => eya75) ?_
        clear hK K hnx
        generalize (uya2.alloc (.cells #[.int .i64 0, .int .i64 0] 42)) = vya77 at *
        obtain ⟨gkx, hgkx⟩ : ∃ g, uya2.heap.size = g := ⟨_, rfl⟩
        have hqkx : wr.heap.size ≤ gkx := by omega
        rw [hgkx] at kx
        try rw [hgkx]
        clear hgkx
        refine any_run2 (i := 2) (j := 7) (by kernel_rfl) (by rfl) (by rfl) (by rfl) (by rfl) ?_ ?_
        ·skip
         intro K hK
         have qya80 := eya75.size
         go_wp2_with fail
         refine (tube_any l _ m ((i : Int) - 1) _ HO.out h20 hi2 hT).mono ?_
         rintro e vya79 ⟨rfl, hb⟩
         rw [HXE.out]
         unfold rV
         have eya78 : Below wr.heap.size wr vya79 := eya75.trans (hb.mono eya75.size)
         replace kx := kx.below hb kx.lt
         replace hT := (RS.below hT hb).more hb.size
         clear hb
         refine hK _ _ (fun _ => eya78) ?_
         clear hK K
         refine any_run2 (i := 5) (j := 7) (by kernel_rfl) (by rfl) (by rfl) (by rfl) (by rfl) ?_ ?_
         ·skip
          intro K hK
          have qya83 := eya78.size
          go_wp2_with fail
          refine (tube_any l _ m ((k : Int) - 1) _ HO.out h20 hlk' hT).mono ?_
          rintro e vya82 ⟨rfl, hb⟩
          rw [HYE.out]
          unfold rV
          have eya81 : Below wr.heap.size wr vya82 := eya78.trans (hb.mono eya78.size)
          replace kx := kx.below hb kx.lt
          replace hT := (RS.below hT hb).more hb.size
          clear hb
          refine hK _ _ (fun _ => eya81) ?_
          clear hK K
          refine any_run1 (i := 7) (by kernel_rfl) (by rfl) (by kernel_rfl) ?_
          intro K hK
          have qya85 := eya81.size
          have eya84 : Below wr.heap.size wr (vya82.alloc (.cells #[.int .i64 0, .int .i64 0] 42)) := Below.alloc eya81 eya81.size _
          have hnx : Below vya82.heap.size vya82 (vya82.alloc (.cells #[.int .i64 0, .int .i64 0] 42)) := Below.alloc (Below.refl _ _) (Nat.le_refl _) _
          go_wp2_with fail
          have nekxky : gkx ≠ vya82.heap.size := Nat.ne_of_lt kx.lt
          replace kx := kx.below hnx kx.lt
          replace hT := (RS.below hT hnx).more hnx.size
          have ky : BK (vya82.alloc (.cells #[.int .i64 0, .int .i64 0] 42)) vya82.heap.size #[.int .i64 0, .int .i64 0] 42 := BK.new _ _ _
          refine hK _ _ (fun _ => eya84) ?_
          clear hK K hnx
          generalize (vya82.alloc (.cells #[.int .i64 0, .int .i64 0] 42)) = vya86 at *
          obtain ⟨gky, hgky⟩ : ∃ g, vya82.heap.size = g := ⟨_, rfl⟩
          have hqky : wr.heap.size ≤ gky := by omega
          rw [hgky] at ky nekxky
          try rw [hgky]
          clear hgky
          refine any_run1 (i := 8) (by kernel_rfl) (by rfl) (by kernel_rfl) ?_
          intro K hK
          have lkx := kx.lt
          have y0 := kx.cell 0
          have f0 := kx.frozen 0
          have y1 := kx.cell 1
          have f1 := kx.frozen 1
          simp at y0 y1
          go_wp2_with fail
          have eya87 : Below wr.heap.size wr ((vya86.setCell ⟨gkx, 0, none⟩ (.int .i64 X.lo)).setCell ⟨gkx, 1, none⟩ (.int .i64 X.hi)) := by exact bel_of
          have ky_ : BK ((vya86.setCell ⟨gkx, 0, none⟩ (.int .i64 X.lo)).setCell ⟨gkx, 1, none⟩ (.int .i64 X.hi)) gky _ _ := (BK.far (BK.far ky (p := ⟨gkx, 0, none⟩) (by first | assumption | exact Ne.symm (by assumption)) _) (p := ⟨gkx, 1, none⟩) (by first | assumption | exact Ne.symm (by assumption)) _); clear ky; have ky := ky_; clear ky_
          have kx_ := ((kx.set 0 (.int .i64 X.lo)).set 1 (.int .i64 X.hi))
          simp at kx_
          clear kx; have kx := kx_; clear kx_
          clear y0 f0 y1 f1
          refine hK _ _ (fun _ => eya87) ?_
          clear hK K
          generalize ((vya86.setCell ⟨gkx, 0, none⟩ (.int .i64 X.lo)).setCell ⟨gkx, 1, none⟩ (.int .i64 X.hi)) = vya88 at *
          refine any_run1 (i := 9) (by kernel_rfl) (by rfl) (by kernel_rfl) ?_
          intro K hK
          have lky := ky.lt
          have y0 := ky.cell 0
          have f0 := ky.frozen 0
          have y1 := ky.cell 1
          have f1 := ky.frozen 1
          simp at y0 y1
          go_wp2_with fail
          have eya89 : Below wr.heap.size wr ((vya88.setCell ⟨gky, 0, none⟩ (.int .i64 Y.lo)).setCell ⟨gky, 1, none⟩ (.int .i64 Y.hi)) := by exact bel_of
          have kx_ : BK ((vya88.setCell ⟨gky, 0, none⟩ (.int .i64 Y.lo)).setCell ⟨gky, 1, none⟩ (.int .i64 Y.hi)) gkx _ _ := (BK.far (BK.far kx (p := ⟨gky, 0, none⟩) (by first | assumption | exact Ne.symm (by assumption)) _) (p := ⟨gky, 1, none⟩) (by first | assumption | exact Ne.symm (by assumption)) _); clear kx; have kx := kx_; clear kx_
          have ky_ := ((ky.set 0 (.int .i64 Y.lo)).set 1 (.int .i64 Y.hi))
          simp at ky_
          clear ky; have ky := ky_; clear ky_
          clear y0 f0 y1 f1
          refine hK _ _ (fun _ => eya89) ?_
          clear hK K
          generalize ((vya88.setCell ⟨gky, 0, none⟩ (.int .i64 Y.lo)).setCell ⟨gky, 1, none⟩ (.int .i64 Y.hi)) = vya90 at *
          refine any_done (by kernel_rfl) (NoPanic.normal ?_)
          exact ⟨rfl, by simp [setAll], rfl, _, _, rfl, rfl, by first | assumption | exact Ne.symm (by assumption), kx, ky, eya89⟩
         ·skip
          intro K hK
          have qya92 := eya78.size
          have eya91 : Below wr.heap.size wr (vya79.alloc (.cells #[.int .i64 0, .int .i64 0] 42)) := Below.alloc eya78 eya78.size _
          have hnx : Below vya79.heap.size vya79 (vya79.alloc (.cells #[.int .i64 0, .int .i64 0] 42)) := Below.alloc (Below.refl _ _) (Nat.le_refl _) _
          go_wp2_with fail
          have nekxky : gkx ≠ vya79.heap.size := Nat.ne_of_lt kx.lt
          replace kx := kx.below hnx kx.lt
          replace hT := (RS.below hT hnx).more hnx.size
          have ky : BK (vya79.alloc (.cells #[.int .i64 0, .int .i64 0] 42)) vya79.heap.size #[.int .i64 0, .int .i64 0] 42 := BK.new _ _ _
          refine hK _ _ (fun _ => eya91) ?_
          clear hK K hnx
          generalize (vya79.alloc (.cells #[.int .i64 0, .int .i64 0] 42)) = vya93 at *
          obtain ⟨gky, hgky⟩ : ∃ g, vya79.heap.size = g := ⟨_, rfl⟩
          have hqky : wr.heap.size ≤ gky := by omega
          rw [hgky] at ky nekxky
          try rw [hgky]
          clear hgky
          refine any_run1 (i := 5) (by kernel_rfl) (by rfl) (by kernel_rfl) ?_
          intro K hK
          have qya96 := eya91.size
          go_wp2_with fail
          refine (tube_any l _ m ((k : Int) - 1) _ HO.out h20 hlk' hT).mono ?_
          rintro e vya95 ⟨rfl, hb⟩
          rw [HYE.out]
          unfold rV
          have eya94 : Below wr.heap.size wr vya95 := eya91.trans (hb.mono eya91.size)
          replace kx := kx.below hb kx.lt
          replace ky := ky.below hb ky.lt
          replace hT := (RS.below hT hb).more hb.size
          clear hb
          refine hK _ _ (fun _ => eya94) ?_
          clear hK K
          refine any_run1 (i := 8) (by kernel_rfl) (by rfl) (by kernel_rfl) ?_
          intro K hK
          have lkx := kx.lt
          have y0 := kx.cell 0
          have f0 := kx.frozen 0
          have y1 := kx.cell 1
          have f1 := kx.frozen 1
          simp at y0 y1
          go_wp2_with fail
          have eya97 : Below wr.heap.size wr ((vya95.setCell ⟨gkx, 0, none⟩ (.int .i64 X.lo)).setCell ⟨gkx, 1, none⟩ (.int .i64 X.hi)) := by exact bel_of
          have ky_ : BK ((vya95.setCell ⟨gkx, 0, none⟩ (.int .i64 X.lo)).setCell ⟨gkx, 1, none⟩ (.int .i64 X.hi)) gky _ _ := (BK.far (BK.far ky (p := ⟨gkx, 0, none⟩) (by first | assumption | exact Ne.symm (by assumption)) _) (p := ⟨gkx, 1, none⟩) (by first | assumption | exact Ne.symm (by assumption)) _); clear ky; have ky := ky_; clear ky_
          have kx_ := ((kx.set 0 (.int .i64 X.lo)).set 1 (.int .i64 X.hi))
          simp at kx_
          clear kx; have kx := kx_; clear kx_
          clear y0 f0 y1 f1
          refine hK _ _ (fun _ => eya97) ?_
          clear hK K
          generalize ((vya95.setCell ⟨gkx, 0, none⟩ (.int .i64 X.lo)).setCell ⟨gkx, 1, none⟩ (.int .i64 X.hi)) = vya98 at *
          refine any_run1 (i := 9) (by kernel_rfl) (by rfl) (by kernel_rfl) ?_
          intro K hK
          have lky := ky.lt
          have y0 := ky.cell 0
          have f0 := ky.frozen 0
          have y1 := ky.cell 1
          have f1 := ky.frozen 1
          simp at y0 y1
          go_wp2_with fail
          have eya99 : Below wr.heap.size wr ((vya98.setCell ⟨gky, 0, none⟩ (.int .i64 Y.lo)).setCell ⟨gky, 1, none⟩ (.int .i64 Y.hi)) := by exact bel_of
          have kx_ : BK ((vya98.setCell ⟨gky, 0, none⟩ (.int .i64 Y.lo)).setCell ⟨gky, 1, none⟩ (.int .i64 Y.hi)) gkx _ _ := (BK.far (BK.far kx (p := ⟨gky, 0, none⟩) (by first | assumption | exact Ne.symm (by assumption)) _) (p := ⟨gky, 1, none⟩) (by first | assumption | exact Ne.symm (by assumption)) _); clear kx; have kx := kx_; clear kx_
          have ky_ := ((ky.set 0 (.int .i64 Y.lo)).set 1 (.int .i64 Y.hi))
          simp at ky_
          clear ky; have ky := ky_; clear ky_
          clear y0 f0 y1 f1
          refine hK _ _ (fun _ => eya99) ?_
          clear hK K
          generalize ((vya98.setCell ⟨gky, 0, none⟩ (.int .i64 Y.lo)).setCell ⟨gky, 1, none⟩ (.int .i64 Y.hi)) = vya100 at *
          refine any_done (by kernel_rfl) (NoPanic.normal ?_)
          exact ⟨rfl, by simp [setAll], rfl, _, _, rfl, rfl, by first | assumption | exact Ne.symm (by assumption), kx, ky, eya99⟩
        ·skip
         intro K hK
         have qya102 := eya75.size
         have eya101 : Below wr.heap.size wr (vya77.alloc (.cells #[.int .i64 0, .int .i64 0] 42)) := Below.alloc eya75 eya75.size _
         have hnx : Below vya77.heap.size vya77 (vya77.alloc (.cells #[.int .i64 0, .int .i64 0] 42)) := Below.alloc (Below.refl _ _) (Nat.le_refl _) _
         go_wp2_with fail
         have nekxky : gkx ≠ vya77.heap.size := Nat.ne_of_lt kx.lt
         replace kx := kx.below hnx kx.lt
         replace hT := (RS.below hT hnx).more hnx.size
         have ky : BK (vya77.alloc (.cells #[.int .i64 0, .int .i64 0] 42)) vya77.heap.size #[.int .i64 0, .int .i64 0] 42 := BK.new _ _ _
         refine hK _ _ (fun _ => eya101) ?_
         clear hK K hnx
         generalize (vya77.alloc (.cells #[.int .i64 0, .int .i64 0] 42)) = vya103 at *
         obtain ⟨gky, hgky⟩ : ∃ g, vya77.heap.size = g := ⟨_, rfl⟩
         have hqky : wr.heap.size ≤ gky := by omega
         rw [hgky] at ky nekxky
         try rw [hgky]
         clear hgky
         refine any_run1 (i := 2) (by kernel_rfl) (by rfl) (by kernel_rfl) ?_
         intro K hK
         have qya106 := eya101.size
         go_wp2_with fail
         refine (tube_any l _ m ((i : Int) - 1) _ HO.out h20 hi2 hT).mono ?_
         rintro e vya105 ⟨rfl, hb⟩
         rw [HXE.out]
         unfold rV
         have eya104 : Below wr.heap.size wr vya105 := eya101.trans (hb.mono eya101.size)
         replace kx := kx.below hb kx.lt
         replace ky := ky.below hb ky.lt
         replace hT := (RS.below hT hb).more hb.size
         clear hb
         refine hK _ _ (fun _ => eya104) ?_
         clear hK K
         refine any_run1 (i := 5) (by kernel_rfl) (by rfl) (by kernel_rfl) ?_
         intro K hK
         have qya109 := eya104.size
         go_wp2_with fail
         refine (tube_any l _ m ((k : Int) - 1) _ HO.out h20 hlk' hT).mono ?_
         rintro e vya108 ⟨rfl, hb⟩
         rw [HYE.out]
         unfold rV
         have eya107 : Below wr.heap.size wr vya108 := eya104.trans (hb.mono eya104.size)
         replace kx := kx.below hb kx.lt
         replace ky := ky.below hb ky.lt
         replace hT := (RS.below hT hb).more hb.size
         clear hb
         refine hK _ _ (fun _ => eya107) ?_
         clear hK K
         refine any_run1 (i := 8) (by kernel_rfl) (by rfl) (by kernel_rfl) ?_
         intro K hK
         have lkx := kx.lt
         have y0 := kx.cell 0
         have f0 := kx.frozen 0
         have y1 := kx.cell 1
         have f1 := kx.frozen 1
         simp at y0 y1
         go_wp2_with fail
         have eya110 : Below wr.heap.size wr ((vya108.setCell ⟨gkx, 0, none⟩ (.int .i64 X.lo)).setCell ⟨gkx, 1, none⟩ (.int .i64 X.hi)) := by exact bel_of
         have ky_ : BK ((vya108.setCell ⟨gkx, 0, none⟩ (.int .i64 X.lo)).setCell ⟨gkx, 1, none⟩ (.int .i64 X.hi)) gky _ _ := (BK.far (BK.far ky (p := ⟨gkx, 0, none⟩) (by first | assumption | exact Ne.symm (by assumption)) _) (p := ⟨gkx, 1, none⟩) (by first | assumption | exact Ne.symm (by assumption)) _); clear ky; have ky := ky_; clear ky_
         have kx_ := ((kx.set 0 (.int .i64 X.lo)).set 1 (.int .i64 X.hi))
         simp at kx_
         clear kx; have kx := kx_; clear kx_
         clear y0 f0 y1 f1
         refine hK _ _ (fun _ => eya110) ?_
         clear hK K
         generalize ((vya108.setCell ⟨gkx, 0, none⟩ (.int .i64 X.lo)).setCell ⟨gkx, 1, none⟩ (.int .i64 X.hi)) = vya111 at *
         refine any_run1 (i := 9) (by kernel_rfl) (by rfl) (by kernel_rfl) ?_
         intro K hK
         have lky := ky.lt
         have y0 := ky.cell 0
         have f0 := ky.frozen 0
         have y1 := ky.cell 1
         have f1 := ky.frozen 1
         simp at y0 y1
         go_wp2_with fail
         have eya112 : Below wr.heap.size wr ((vya111.setCell ⟨gky, 0, none⟩ (.int .i64 Y.lo)).setCell ⟨gky, 1, none⟩ (.int .i64 Y.hi)) := by exact bel_of
         have kx_ : BK ((vya111.setCell ⟨gky, 0, none⟩ (.int .i64 Y.lo)).setCell ⟨gky, 1, none⟩ (.int .i64 Y.hi)) gkx _ _ := (BK.far (BK.far kx (p := ⟨gky, 0, none⟩) (by first | assumption | exact Ne.symm (by assumption)) _) (p := ⟨gky, 1, none⟩) (by first | assumption | exact Ne.symm (by assumption)) _); clear kx; have kx := kx_; clear kx_
         have ky_ := ((ky.set 0 (.int .i64 Y.lo)).set 1 (.int .i64 Y.hi))
         simp at ky_
         clear ky; have ky := ky_; clear ky_
         clear y0 f0 y1 f1
         refine hK _ _ (fun _ => eya112) ?_
         clear hK K
         generalize ((vya111.setCell ⟨gky, 0, none⟩ (.int .i64 Y.lo)).setCell ⟨gky, 1, none⟩ (.int .i64 Y.hi)) = vya113 at *
         refine any_done (by kernel_rfl) (NoPanic.normal ?_)
         exact ⟨rfl, by simp [setAll], rfl, _, _, rfl, rfl, by first | assumption | exact Ne.symm (by assumption), kx, ky, eya112⟩
       ·skip
        intro K hK
        have qya115 := dya1.size
        have eya114 : Below wr.heap.size wr (uya2.alloc (.cells #[.int .i64 0, .int .i64 0] 42)) := Below.alloc dya1 dya1.size _
        have hnx : Below uya2.heap.size uya2 (uya2.alloc (.cells #[.int .i64 0, .int .i64 0] 42)) := Below.alloc (Below.refl _ _) (Nat.le_refl _) _
        go_wp2_with fail
        replace hT := (RS.below hT hnx).more hnx.size
        have ky : BK (uya2.alloc (.cells #[.int .i64 0, .int .i64 0] 42)) uya2.heap.size #[.int .i64 0, .int .i64 0] 42 := BK.new _ _ _
        refine hK _ _ (fun _ => eya114) ?_
        clear hK K hnx
        generalize (uya2.alloc (.cells #[.int .i64 0, .int .i64 0] 42)) = vya116 at *
        obtain ⟨gky, hgky⟩ : ∃ g, uya2.heap.size = g := ⟨_, rfl⟩
        have hqky : wr.heap.size ≤ gky := by omega
        rw [hgky] at ky
        try rw [hgky]
        clear hgky
        refine any_run2 (i := 2) (j := 6) (by kernel_rfl) (by rfl) (by rfl) (by rfl) (by rfl) ?_ ?_
        ·skip
         intro K hK
         have qya119 := eya114.size
         go_wp2_with fail
         refine (tube_any l _ m ((i : Int) - 1) _ HO.out h20 hi2 hT).mono ?_
         rintro e vya118 ⟨rfl, hb⟩
         rw [HXE.out]
         unfold rV
         have eya117 : Below wr.heap.size wr vya118 := eya114.trans (hb.mono eya114.size)
         replace ky := ky.below hb ky.lt
         replace hT := (RS.below hT hb).more hb.size
         clear hb
         refine hK _ _ (fun _ => eya117) ?_
         clear hK K
         refine any_run2 (i := 5) (j := 6) (by kernel_rfl) (by rfl) (by rfl) (by rfl) (by rfl) ?_ ?_
         ·skip
          intro K hK
          have qya122 := eya117.size
          go_wp2_with fail
          refine (tube_any l _ m ((k : Int) - 1) _ HO.out h20 hlk' hT).mono ?_
          rintro e vya121 ⟨rfl, hb⟩
          rw [HYE.out]
          unfold rV
          have eya120 : Below wr.heap.size wr vya121 := eya117.trans (hb.mono eya117.size)
          replace ky := ky.below hb ky.lt
          replace hT := (RS.below hT hb).more hb.size
          clear hb
          refine hK _ _ (fun _ => eya120) ?_
          clear hK K
          refine any_run1 (i := 6) (by kernel_rfl) (by rfl) (by kernel_rfl) ?_
          intro K hK
          have qya124 := eya120.size
          have eya123 : Below wr.heap.size wr (vya121.alloc (.cells #[.int .i64 0, .int .i64 0] 42)) := Below.alloc eya120 eya120.size _
          have hnx : Below vya121.heap.size vya121 (vya121.alloc (.cells #[.int .i64 0, .int .i64 0] 42)) := Below.alloc (Below.refl _ _) (Nat.le_refl _) _
          go_wp2_with fail
          have nekykx : gky ≠ vya121.heap.size := Nat.ne_of_lt ky.lt
          replace ky := ky.below hnx ky.lt
          replace hT := (RS.below hT hnx).more hnx.size
          have kx : BK (vya121.alloc (.cells #[.int .i64 0, .int .i64 0] 42)) vya121.heap.size #[.int .i64 0, .int .i64 0] 42 := BK.new _ _ _
          refine hK _ _ (fun _ => eya123) ?_
          clear hK K hnx
          generalize (vya121.alloc (.cells #[.int .i64 0, .int .i64 0] 42)) = vya125 at *
          obtain ⟨gkx, hgkx⟩ : ∃ g, vya121.heap.size = g := ⟨_, rfl⟩
          have hqkx : wr.heap.size ≤ gkx := by omega
          rw [hgkx] at kx nekykx
          try rw [hgkx]
          clear hgkx
          refine any_run1 (i := 8) (by kernel_rfl) (by rfl) (by kernel_rfl) ?_
          intro K hK
          have lkx := kx.lt
          have y0 := kx.cell 0
          have f0 := kx.frozen 0
          have y1 := kx.cell 1
          have f1 := kx.frozen 1
          simp at y0 y1
          go_wp2_with fail
          have eya126 : Below wr.heap.size wr ((vya125.setCell ⟨gkx, 0, none⟩ (.int .i64 X.lo)).setCell ⟨gkx, 1, none⟩ (.int .i64 X.hi)) := by exact bel_of
          have ky_ : BK ((vya125.setCell ⟨gkx, 0, none⟩ (.int .i64 X.lo)).setCell ⟨gkx, 1, none⟩ (.int .i64 X.hi)) gky _ _ := (BK.far (BK.far ky (p := ⟨gkx, 0, none⟩) (by first | assumption | exact Ne.symm (by assumption)) _) (p := ⟨gkx, 1, none⟩) (by first | assumption | exact Ne.symm (by assumption)) _); clear ky; have ky := ky_; clear ky_
          have kx_ := ((kx.set 0 (.int .i64 X.lo)).set 1 (.int .i64 X.hi))
          simp at kx_
          clear kx; have kx := kx_; clear kx_
          clear y0 f0 y1 f1
          refine hK _ _ (fun _ => eya126) ?_
          clear hK K
          generalize ((vya125.setCell ⟨gkx, 0, none⟩ (.int .i64 X.lo)).setCell ⟨gkx, 1, none⟩ (.int .i64 X.hi)) = vya127 at *
          refine any_run1 (i := 9) (by kernel_rfl) (by rfl) (by kernel_rfl) ?_
          intro K hK
          have lky := ky.lt
          have y0 := ky.cell 0
          have f0 := ky.frozen 0
          have y1 := ky.cell 1
          have f1 := ky.frozen 1
          simp at y0 y1
          go_wp2_with fail
          have eya128 : Below wr.heap.size wr ((vya127.setCell ⟨gky, 0, none⟩ (.int .i64 Y.lo)).setCell ⟨gky, 1, none⟩ (.int .i64 Y.hi)) := by exact bel_of
          have kx_ : BK ((vya127.setCell ⟨gky, 0, none⟩ (.int .i64 Y.lo)).setCell ⟨gky, 1, none⟩ (.int .i64 Y.hi)) gkx _ _ := (BK.far (BK.far kx (p := ⟨gky, 0, none⟩) (by first | assumption | exact Ne.symm (by assumption)) _) (p := ⟨gky, 1, none⟩) (by first | assumption | exact Ne.symm (by assumption)) _); clear kx; have kx := kx_; clear kx_
          have ky_ := ((ky.set 0 (.int .i64 Y.lo)).set 1 (.int .i64 Y.hi))
          simp at ky_
          clear ky; have ky := ky_; clear ky_
          clear y0 f0 y1 f1
          refine hK _ _ (fun _ => eya128) ?_
          clear hK K
          generalize ((vya127.setCell ⟨gky, 0, none⟩ (.int .i64 Y.lo)).setCell ⟨gky, 1, none⟩ (.int .i64 Y.hi)) = vya129 at *
          refine any_done (by kernel_rfl) (NoPanic.normal ?_)
          exact ⟨rfl, by simp [setAll], rfl, _, _, rfl, rfl, by first | assumption | exact Ne.symm (by assumption), kx, ky, eya128⟩
         ·skip
          intro K hK
          have qya131 := eya117.size
          have eya130 : Below wr.heap.size wr (vya118.alloc (.cells #[.int .i64 0, .int .i64 0] 42)) := Below.alloc eya117 eya117.size _
          have hnx : Below vya118.heap.size vya118 (vya118.alloc (.cells #[.int .i64 0, .int .i64 0] 42)) := Below.alloc (Below.refl _ _) (Nat.le_refl _) _
          go_wp2_with fail
          have nekykx : gky ≠ vya118.heap.size := Nat.ne_of_lt ky.lt
          replace ky := ky.below hnx ky.lt
          replace hT := (RS.below hT hnx).more hnx.size
          have kx : BK (vya118.alloc (.cells #[.int .i64 0, .int .i64 0] 42)) vya118.heap.size #[.int .i64 0, .int .i64 0] 42 := BK.new _ _ _
          refine hK _ _ (fun _ => eya130) ?_
          clear hK K hnx
          generalize (vya118.alloc (.cells #[.int .i64 0, .int .i64 0] 42)) = vya132 at *
          obtain ⟨gkx, hgkx⟩ : ∃ g, vya118.heap.size = g := ⟨_, rfl⟩
          have hqkx : wr.heap.size ≤ gkx := by omega
          rw [hgkx] at kx nekykx
          try rw [hgkx]
          clear hgkx
          refine any_run1 (i := 5) (by kernel_rfl) (by rfl) (by kernel_rfl) ?_
          intro K hK
          have qya135 := eya130.size
          go_wp2_with fail
          refine (tube_any l _ m ((k : Int) - 1) _ HO.out h20 hlk' hT).mono ?_
          rintro e vya134 ⟨rfl, hb⟩
          rw [HYE.out]
          unfold rV
          have eya133 : Below wr.heap.size wr vya134 := eya130.trans (hb.mono eya130.size)
          replace ky := ky.below hb ky.lt
          replace kx := kx.below hb kx.lt
          replace hT := (RS.below hT hb).more hb.size
          clear hb
          refine hK _ _ (fun _ => eya133) ?_
          clear hK K
          refine any_run1 (i := 8) (by kernel_rfl) (by rfl) (by kernel_rfl) ?_
          intro K hK
          have lkx := kx.lt
          have y0 := kx.cell 0
          have f0 := kx.frozen 0
          have y1 := kx.cell 1
          have f1 := kx.frozen 1
          simp at y0 y1
          go_wp2_with fail
          have eya136 : Below wr.heap.size wr ((vya134.setCell ⟨gkx, 0, none⟩ (.int .i64 X.lo)).setCell ⟨gkx, 1, none⟩ (.int .i64 X.hi)) := by exact bel_of
          have ky_ : BK ((vya134.setCell ⟨gkx, 0, none⟩ (.int .i64 X.lo)).setCell ⟨gkx, 1, none⟩ (.int .i64 X.hi)) gky _ _ := (BK.far (BK.far ky (p := ⟨gkx, 0, none⟩) (by first | assumption | exact Ne.symm (by assumption)) _) (p := ⟨gkx, 1, none⟩) (by first | assumption | exact Ne.symm (by assumption)) _); clear ky; have ky := ky_; clear ky_
          have kx_ := ((kx.set 0 (.int .i64 X.lo)).set 1 (.int .i64 X.hi))
          simp at kx_
          clear kx; have kx := kx_; clear kx_
          clear y0 f0 y1 f1
          refine hK _ _ (fun _ => eya136) ?_
          clear hK K
          generalize ((vya134.setCell ⟨gkx, 0, none⟩ (.int .i64 X.lo)).setCell ⟨gkx, 1, none⟩ (.int .i64 X.hi)) = vya137 at *
          refine any_run1 (i := 9) (by kernel_rfl) (by rfl) (by kernel_rfl) ?_
          intro K hK
          have lky := ky.lt
          have y0 := ky.cell 0
          have f0 := ky.frozen 0
          have y1 := ky.cell 1
          have f1 := ky.frozen 1
          simp at y0 y1
          go_wp2_with fail
          have eya138 : Below wr.heap.size wr ((vya137.setCell ⟨gky, 0, none⟩ (.int .i64 Y.lo)).setCell ⟨gky, 1, none⟩ (.int .i64 Y.hi)) := by exact bel_of
          have kx_ : BK ((vya137.setCell ⟨gky, 0, none⟩ (.int .i64 Y.lo)).setCell ⟨gky, 1, none⟩ (.int .i64 Y.hi)) gkx _ _ := (BK.far (BK.far kx (p := ⟨gky, 0, none⟩) (by first | assumption | exact Ne.symm (by assumption)) _) (p := ⟨gky, 1, none⟩) (by first | assumption | exact Ne.symm (by assumption)) _); clear kx; have kx := kx_; clear kx_
          have ky_ := ((ky.set 0 (.int .i64 Y.lo)).set 1 (.int .i64 Y.hi))
          simp at ky_
          clear ky; have ky := ky_; clear ky_
          clear y0 f0 y1 f1
          refine hK _ _ (fun _ => eya138) ?_
          clear hK K
          generalize ((vya137.setCell ⟨gky, 0, none⟩ (.int .i64 Y.lo)).setCell ⟨gky, 1, none⟩ (.int .i64 Y.hi)) = vya139 at *
          refine any_done (by kernel_rfl) (NoPanic.normal ?_)
          exact ⟨rfl, by simp [setAll], rfl, _, _, rfl, rfl, by first | assumption | exact Ne.symm (by assumption), kx, ky, eya138⟩
        ·skip
         intro K hK
         have qya141 := eya114.size
         have eya140 : Below wr.heap.size wr (vya116.alloc (.cells #[.int .i64 0, .int .i64 0] 42)) := Below.alloc eya114 eya114.size _
         have hnx : Below vya116.heap.size vya116 (vya116.alloc (.cells #[.int .i64 0, .int .i64 0] 42)) := Below.alloc (Below.refl _ _) (Nat.le_refl _) _
         go_wp2_with fail
         have nekykx : gky ≠ vya116.heap.size := Nat.ne_of_lt ky.lt
         replace ky := ky.below hnx ky.lt
         replace hT := (RS.below hT hnx).more hnx.size
         have kx : BK (vya116.alloc (.cells #[.int .i64 0, .int .i64 0] 42)) vya116.heap.size #[.int .i64 0, .int .i64 0] 42 := BK.new _ _ _
         refine hK _ _ (fun _ => eya140) ?_
         clear hK K hnx
         generalize (vya116.alloc (.cells #[.int .i64 0, .int .i64 0] 42)) = vya142 at *
         obtain ⟨gkx, hgkx⟩ : ∃ g, vya116.heap.size = g := ⟨_, rfl⟩
         have hqkx : wr.heap.size ≤ gkx := by omega
         rw [hgkx] at kx nekykx
         try rw [hgkx]
         clear hgkx
         refine any_run1 (i := 2) (by kernel_rfl) (by rfl) (by kernel_rfl) ?_
         intro K hK
         have qya145 := eya140.size
         go_wp2_with fail
         refine (tube_any l _ m ((i : Int) - 1) _ HO.out h20 hi2 hT).mono ?_
         rintro e vya144 ⟨rfl, hb⟩
         rw [HXE.out]
         unfold rV
         have eya143 : Below wr.heap.size wr vya144 := eya140.trans (hb.mono eya140.size)
         replace ky := ky.below hb ky.lt
         replace kx := kx.below hb kx.lt
         replace hT := (RS.below hT hb).more hb.size
         clear hb
         refine hK _ _ (fun _ => eya143) ?_
         clear hK K
         refine any_run1 (i := 5) (by kernel_rfl) (by rfl) (by kernel_rfl) ?_
         intro K hK
         have qya148 := eya143.size
         go_wp2_with fail
         refine (tube_any l _ m ((k : Int) - 1) _ HO.out h20 hlk' hT).mono ?_
         rintro e vya147 ⟨rfl, hb⟩
         rw [HYE.out]
         unfold rV
         have eya146 : Below wr.heap.size wr vya147 := eya143.trans (hb.mono eya143.size)
         replace ky := ky.below hb ky.lt
         replace kx := kx.below hb kx.lt
         replace hT := (RS.below hT hb).more hb.size
         clear hb
         refine hK _ _ (fun _ => eya146) ?_
         clear hK K
         refine any_run1 (i := 8) (by kernel_rfl) (by rfl) (by kernel_rfl) ?_
         intro K hK
         have lkx := kx.lt
         have y0 := kx.cell 0
         have f0 := kx.frozen 0
         have y1 := kx.cell 1
         have f1 := kx.frozen 1
         simp at y0 y1
         go_wp2_with fail
         have eya149 : Below wr.heap.size wr ((vya147.setCell ⟨gkx, 0, none⟩ (.int .i64 X.lo)).setCell ⟨gkx, 1, none⟩ (.int .i64 X.hi)) := by exact bel_of
         have ky_ : BK ((vya147.setCell ⟨gkx, 0, none⟩ (.int .i64 X.lo)).setCell ⟨gkx, 1, none⟩ (.int .i64 X.hi)) gky _ _ := (BK.far (BK.far ky (p := ⟨gkx, 0, none⟩) (by first | assumption | exact Ne.symm (by assumption)) _) (p := ⟨gkx, 1, none⟩) (by first | assumption | exact Ne.symm (by assumption)) _); clear ky; have ky := ky_; clear ky_
         have kx_ := ((kx.set 0 (.int .i64 X.lo)).set 1 (.int .i64 X.hi))
         simp at kx_
         clear kx; have kx := kx_; clear kx_
         clear y0 f0 y1 f1
         refine hK _ _ (fun _ => eya149) ?_
         clear hK K
         generalize ((vya147.setCell ⟨gkx, 0, none⟩ (.int .i64 X.lo)).setCell ⟨gkx, 1, none⟩ (.int .i64 X.hi)) = vya150 at *
         refine any_run1 (i := 9) (by kernel_rfl) (by rfl) (by kernel_rfl) ?_
         intro K hK
         have lky := ky.lt
         have y0 := ky.cell 0
         have f0 := ky.frozen 0
         have y1 := ky.cell 1
         have f1 := ky.frozen 1
         simp at y0 y1
         go_wp2_with fail
         have eya151 : Below wr.heap.size wr ((vya150.setCell ⟨gky, 0, none⟩ (.int .i64 Y.lo)).setCell ⟨gky, 1, none⟩ (.int .i64 Y.hi)) := by exact bel_of
         have kx_ : BK ((vya150.setCell ⟨gky, 0, none⟩ (.int .i64 Y.lo)).setCell ⟨gky, 1, none⟩ (.int .i64 Y.hi)) gkx _ _ := (BK.far (BK.far kx (p := ⟨gky, 0, none⟩) (by first | assumption | exact Ne.symm (by assumption)) _) (p := ⟨gky, 1, none⟩) (by first | assumption | exact Ne.symm (by assumption)) _); clear kx; have kx := kx_; clear kx_
         have ky_ := ((ky.set 0 (.int .i64 Y.lo)).set 1 (.int .i64 Y.hi))
         simp at ky_
         clear ky; have ky := ky_; clear ky_
         clear y0 f0 y1 f1
         refine hK _ _ (fun _ => eya151) ?_
         clear hK K
         generalize ((vya150.setCell ⟨gky, 0, none⟩ (.int .i64 Y.lo)).setCell ⟨gky, 1, none⟩ (.int .i64 Y.hi)) = vya152 at *
         refine any_done (by kernel_rfl) (NoPanic.normal ?_)
         exact ⟨rfl, by simp [setAll], rfl, _, _, rfl, rfl, by first | assumption | exact Ne.symm (by assumption), kx, ky, eya151⟩
      clear lbx bxc0 bxc1
      rintro u V ⟨gx, gy, hu7, hu8, hxy, kx, ky, hbz⟩
      simp only [setAll, List.foldl, List.setIfInBounds_toArray, List.set_cons_succ, List.set_cons_zero, hu7, hu8]
      clear hu7 hu8
      have HBW := Lib.hid (HBA.out.trans (hbz.mono HBA.out.size))
      have HBV := Lib.hid (HBK.out.trans (hbz.mono HBK.out.size))
      replace hC : Below n0 w V := hC.trans (hbz.mono (by have := hC.size; omega))
      replace hT := (RS.below hT hbz).more hbz.size
      replace bx := bx.below hbz bx.lt
      clear hbz
      have lbx := bx.lt
      have bxc0 := bx.cell 0
      have bxc1 := bx.cell 1
      simp at bxc0 bxc1
      have lkx := kx.lt
      have kxc0 := kx.cell 0
      have kxc1 := kx.cell 1
      simp at kxc0 kxc1
      have lky := ky.lt
      have kyc0 := ky.cell 0
      have kyc1 := ky.cell 1
      simp at kyc0 kyc1
      have hF2 : (k : Int) - 1 - ((i : Int) - 1) = (k : Int) - i := by omega
      obtain ⟨F, hF⟩ : ∃ F, m * ((k : Int) - (i : Int)) = F := ⟨_, rfl⟩
      have HFF := Lib.hid hF
      have hcb2 := HCB.out
      rw [hF] at hcb2
      by_cases hq : F < M
      case pos =>
        have hq2 : clB l m i k = true := by rw [hcb2]; exact decide_eq_true hq
        have HQ := Lib.hid (show ClQ l m ((i : Int) - 1) ((k : Int) - 1) 0 from ClQ.ok HB.out (.inl ⟨i, k, hik, by have := HNE.out; omega, hq2, fun i' k' h1 h2 h3 => by
          rcases h3 with h3 | ⟨rfl, h3⟩
          · exact HNO.out i' k' h1 (by have := HNE.out; omega) h3
          · exact HNK.out k' h1 h3, rfl, rfl, rfl⟩))
        rw [← hF] at hq
        have dq : decide (m * ((k : Int) - (i : Int)) < M) = true := decide_eq_true hq
        clear hcb2 hq2 hF HFF
        go_wp2_with fail
        exact bodyPost_ret (v := .tuple #[.int .i64 ((i : Int) - 1), .int .i64 ((k : Int) - 1), .int .i64 0]) (by simp [results, Try.results21, go_sem]) rfl ⟨_, _, _, rfl, HQ.out, by first | exact hC | (rw [hn0]; exact hC) | (with_reducible rw [hn0]; exact bel_of) | exact bel_of⟩
      have hq2 : clB l m i k = false := by rw [hcb2]; exact decide_eq_false hq
      have HQ := Lib.hid hq2
      rw [← hF] at hq
      have dq : decide (m * ((k : Int) - (i : Int)) < M) = false := decide_eq_false hq
      clear hcb2 hq2 hF HFF
      go_wp2_with fail
      go_roundw
      case rel =>
        refine ⟨HBW.out, k + 1, by omega, by omega, by congr 1; omega, fun k' h1 h2 => ?_⟩
        rcases Nat.lt_succ_iff_lt_or_eq.1 h2 with h3 | rfl
        · exact HNK.out k' h1 h3
        · exact HQ.out
      case measure => simp [intOf]; omega
end Go.Proofs.Ytgbegdjakadbbaa

set_option linter.all false
namespace Go.Proofs.Ytgbegdjakadbbaa
open Go.RowKit Vp

theorem clB_no {l : List St} {m : Int} {i k : Nat} : clB l m i k = false ↔ (nthB (tubes l) i).lo - (nthB (tubes l) k).hi ≤ m * ((k : Int) - i) ∧ (nthB (tubes l) k).lo - (nthB (tubes l) i).hi ≤ m * ((k : Int) - i) := by
  unfold clB
  rw [Bool.or_eq_false_iff, decide_eq_false_iff_not, decide_eq_false_iff_not]
  omega
theorem all_cl {l : List St} {m : Int} (hB : OkB l m) : tgo m l 0 < never ↔ ∀ i k : Nat, i < k → k ≤ l.length → clB l m i k = false := by
  rw [hB.tgo_lt hB.few hB.all, either hB.lo (fun s hs => (tub_rng (hB.all s hs)).2.1)]
  constructor
  · rintro ⟨h1, h2⟩ i k hik hk
    rw [clB_no]
    cases k with
    | zero => omega
    | succ k =>
      rw [tubes_at (by omega)]
      cases i with
      | zero =>
        rw [tubes_zero, show (((k + 1 : Nat) : Int) - ((0 : Nat) : Int)) = (k : Int) + 1 by omega]
        obtain ⟨q1, q2⟩ := h1 k (by omega)
        change (tub (nthS l k)).lo ≤ _ at q1
        change -(tub (nthS l k)).hi ≤ _ at q2
        dsimp only
        omega
      | succ i =>
        rw [tubes_at (by omega), show (((k + 1 : Nat) : Int) - ((i + 1 : Nat) : Int)) = (k : Int) - i by omega]
        have := h2 i k (by omega) (by omega)
        exact ⟨this.2, this.1⟩
  · intro h
    refine ⟨fun k hk => ?_, fun i k hik hk => ?_⟩
    · have := clB_no.1 (h 0 (k + 1) (by omega) (by omega))
      rw [tubes_at hk, tubes_zero, show (((k + 1 : Nat) : Int) - ((0 : Nat) : Int)) = (k : Int) + 1 by omega] at this
      dsimp only at this
      change (tub (nthS l k)).lo ≤ _ ∧ -(tub (nthS l k)).hi ≤ _
      omega
    · have := clB_no.1 (h (i + 1) (k + 1) (by omega) (by omega))
      rw [tubes_at hk, tubes_at (by omega), show (((k + 1 : Nat) : Int) - ((i + 1 : Nat) : Int)) = (k : Int) - i by omega] at this
      exact ⟨this.2, this.1⟩
theorem cl_none {l : List St} {m a b e : Int} (hB : OkB l m) (h : tgo m l 0 < never) (hc : ClQ l m a b e) : e = 5 := by
  unfold ClQ at hc
  rw [if_pos (blaE_ok.2 hB)] at hc
  rcases hc with ⟨i, k, h1, h2, h3, -⟩ | ⟨-, -, -, h5⟩
  · rw [(all_cl hB).1 h i k h1 h2] at h3; cases h3
  · exact h5
theorem cl_some {l : List St} {m a b e : Int} (hB : OkB l m) (h : ¬ tgo m l 0 < never) (hc : ClQ l m a b e) : e = 0 ∧ ∃ i k : Nat, a = (i : Int) - 1 ∧ b = (k : Int) - 1 ∧ i < k ∧ k < l.length + 1 ∧ clB l m i k = true := by
  unfold ClQ at hc
  rw [if_pos (blaE_ok.2 hB)] at hc
  rcases hc with ⟨i, k, h1, h2, h3, -, h4, h5, h6⟩ | ⟨h1, -⟩
  · exact ⟨h6, i, k, h4, h5, h1, by omega, h3⟩
  · exact absurd ((all_cl hB).2 h1) h
end Go.Proofs.Ytgbegdjakadbbaa

set_option linter.all false
namespace Go.Proofs.Ytgbegdjakadbbaa
open Go.RowKit Vp

set_option maxHeartbeats 8000000 in
set_option maxRecDepth 100000 in
theorem clash_any (l : List St) (v : Value) (m : Int) (i k : Nat) (w : World) (hB : OkB l m) (hik : i < k) (hk : k < l.length + 1) (hT : RT w w.heap.size v l) :
    Calls Try.prog 39 #[bV v m, .int .i64 ((i : Int) - 1), .int .i64 ((k : Int) - 1)] w fun e w' => e = .returned (.bool (clB l m i k)) ∧ Below w.heap.size w w' := by
  unfold bV
  obtain ⟨b, off, cap, A, rfl, -, hcap⟩ := hT.slice
  obtain ⟨n0, hn0⟩ : ∃ n, w.heap.size = n := ⟨_, rfl⟩
  have hC : Below n0 w w := Below.refl _ _
  go_enter Try.func39, Try.ntmps39
  go_upto_region 1 with fail
  have hqbx : n0 ≤ n0 := by have := hC.size; omega
  have bx : BK (w.alloc (.cells #[.slice A l.length cap, .int .i64 m] 24)) (n0) #[.slice A l.length cap, .int .i64 m] 24 := BK.new' _ _ _ (n0) hn0
  have hsbx : (w.alloc (.cells #[.slice A l.length cap, .int .i64 m] 24)).heap.size = n0 + 1 := by simp [hn0]
  replace hC : Below n0 w (w.alloc (.cells #[.slice A l.length cap, .int .i64 m] 24)) := Below.alloc hC (by have := hC.size; omega) _
  replace hT := (RS.below hT (w' := (w.alloc (.cells #[.slice A l.length cap, .int .i64 m] 24))) (Below.alloc (Below.refl _ _) (Nat.le_refl _) _)).more (B' := (w.alloc (.cells #[.slice A l.length cap, .int .i64 m] 24)).heap.size) (by simp)
  generalize (w.alloc (.cells #[.slice A l.length cap, .int .i64 m] 24)) = Wbx at *
  have hm0 := hB.lo
  have hm1 := hB.hi
  have h20 := hB.few
  have HO := Lib.hid hB.all
  have hi2 : (i : Int) - 1 < (l.length : Int) := by omega
  have hlk' : (k : Int) - 1 < (l.length : Int) := by omega
  have wd : IntKind.i64.wrap ((k : Int) - 1 - ((i : Int) - 1)) = (k : Int) - i := by rw [IntKind.wrap_i64]; omega
  have h1 : m * ((k : Int) - i) ≤ 200 * 21 := Int.mul_le_mul hm1 (by omega) (by omega) (by omega)
  have h2 : 0 ≤ m * ((k : Int) - i) := Int.mul_nonneg hm0 (by omega)
  have wm : IntKind.i64.wrap (m * ((k : Int) - (i : Int))) = m * ((k : Int) - (i : Int)) := by rw [IntKind.wrap_i64]; omega
  have r1 := tubes_rng HO.out (show i ≤ l.length by omega)
  have r2 := tubes_rng HO.out (show k ≤ l.length by omega)
  obtain ⟨X, hX⟩ : ∃ X, nthB (tubes l) i = X := ⟨_, rfl⟩
  obtain ⟨Y, hY⟩ : ∃ X, nthB (tubes l) k = X := ⟨_, rfl⟩
  have HXE := Lib.hid ((tubR_at (show i < l.length + 1 by omega)).trans hX)
  have HYE := Lib.hid ((tubR_at (show k < l.length + 1 by omega)).trans hY)
  have hcb := clB_max (m := m) hX hY
  rw [hX] at r1
  rw [hY] at r2
  obtain ⟨M, hM⟩ : ∃ M, max (X.lo - Y.hi) (Y.lo - X.hi) = M := ⟨_, rfl⟩
  have hmx : (if X.lo - Y.hi < Y.lo - X.hi then Y.lo - X.hi else X.lo - Y.hi) = M := by rw [← hM]; omega
  have wx : IntKind.i64.wrap (X.lo - Y.hi) = X.lo - Y.hi := by rw [IntKind.wrap_i64]; omega
  have wy : IntKind.i64.wrap (Y.lo - X.hi) = Y.lo - X.hi := by rw [IntKind.wrap_i64]; omega
  rw [hM] at hcb
  have HCB := Lib.hid hcb
  clear hcb hX hY hM r1 r2 h1 h2 hB
  have lbx := bx.lt
  have bxc0 := bx.cell 0
  have bxc1 := bx.cell 1
  simp at bxc0 bxc1
  clear hsbx
  refine region_keep [9, 10, 11, 12, 13, 14, 7, 8] (fun u V => ∃ gx gy, u 7 = .pointer (some ⟨gx, 0, none⟩) ∧ u 8 = .pointer (some ⟨gy, 0, none⟩) ∧ gx ≠ gy ∧ BK V gx #[.int .i64 X.lo, .int .i64 X.hi] 42 ∧ BK V gy #[.int .i64 Y.lo, .int .i64 Y.hi] 42 ∧ Below Wbx.heap.size Wbx V) ?_ ?_
  ·skip
   have d0ya : Below Wbx.heap.size Wbx Wbx.drew := by exact bel_of
   refine wp_region_noPanic (plain_any [0, 1, 3, 4] (Below Wbx.heap.size Wbx) mixed ?_)
   refine any_tk 0 ?_
   refine any_tk 1 ?_
   refine any_tk 3 ?_
   refine any_tk 4 ?_
   have dya1 : Below Wbx.heap.size Wbx Wbx.drew := by exact bel_of
   have hdr : Below Wbx.heap.size Wbx Wbx.drew := Below.drew (Below.refl _ _)
   replace hT := (RS.below hT hdr).more hdr.size
   clear hdr
   generalize Wbx.drew = uya2 at *
   refine any_run3 (i := 2) (j := 6) (k := 7) (by kernel_rfl) (by rfl) (by rfl) (by rfl) (by rfl) (by rfl) (by rfl) ?_ ?_ ?_
   ·skip
    intro K hK
    have qya5 := dya1.size
    go_wp2_with fail
    refine (tube_any l _ m ((i : Int) - 1) _ HO.out h20 hi2 hT).mono ?_
    rintro e vya4 ⟨rfl, hb⟩
    rw [HXE.out]
    unfold rV
    have eya3 : Below Wbx.heap.size Wbx vya4 := dya1.trans (hb.mono dya1.size)
    replace hT := (RS.below hT hb).more hb.size
    clear hb
    refine hK _ _ (fun _ => eya3) ?_
    clear hK K
    refine any_run3 (i := 5) (j := 6) (k := 7) (by kernel_rfl) (by rfl) (by rfl) (by rfl) (by rfl) (by rfl) (by rfl) ?_ ?_ ?_
    ·skip
     intro K hK
     have qya8 := eya3.size
     go_wp2_with fail
     refine (tube_any l _ m ((k : Int) - 1) _ HO.out h20 hlk' hT).mono ?_
     rintro e vya7 ⟨rfl, hb⟩
     rw [HYE.out]
     unfold rV
     have eya6 : Below Wbx.heap.size Wbx vya7 := eya3.trans (hb.mono eya3.size)
     replace hT := (RS.below hT hb).more hb.size
     clear hb
     refine hK _ _ (fun _ => eya6) ?_
     clear hK K
     refine any_run2 (i := 6) (j := 7) (by kernel_rfl) (by rfl) (by rfl) (by rfl) (by rfl) ?_ ?_
     ·skip
      intro K hK
      have qya10 := eya6.size
      have eya9 : Below Wbx.heap.size Wbx (vya7.alloc (.cells #[.int .i64 0, .int .i64 0] 42)) := Below.alloc eya6 eya6.size _
      have hnx : Below vya7.heap.size vya7 (vya7.alloc (.cells #[.int .i64 0, .int .i64 0] 42)) := Below.alloc (Below.refl _ _) (Nat.le_refl _) _
      go_wp2_with fail
      replace hT := (RS.below hT hnx).more hnx.size
      have kx : BK (vya7.alloc (.cells #[.int .i64 0, .int .i64 0] 42)) vya7.heap.size #[.int .i64 0, .int .i64 0] 42 := BK.new _ _ _
      refine hK _ _ (fun _ => eya9) ?_
      clear hK K hnx
      generalize (vya7.alloc (.cells #[.int .i64 0, .int .i64 0] 42)) = vya11 at *
      obtain ⟨gkx, hgkx⟩ : ∃ g, vya7.heap.size = g := ⟨_, rfl⟩
      have hqkx : Wbx.heap.size ≤ gkx := by omega
      rw [hgkx] at kx
      try rw [hgkx]
      clear hgkx
      refine any_run1 (i := 7) (by kernel_rfl) (by rfl) (by kernel_rfl) ?_
      intro K hK
      have qya13 := eya9.size
      have eya12 : Below Wbx.heap.size Wbx (vya11.alloc (.cells #[.int .i64 0, .int .i64 0] 42)) := Below.alloc eya9 eya9.size _
      have hnx : Below vya11.heap.size vya11 (vya11.alloc (.cells #[.int .i64 0, .int .i64 0] 42)) := Below.alloc (Below.refl _ _) (Nat.le_refl _) _
      go_wp2_with fail
      have nekxky : gkx ≠ vya11.heap.size := Nat.ne_of_lt kx.lt
      replace kx := kx.below hnx kx.lt
      replace hT := (RS.below hT hnx).more hnx.size
      have ky : BK (vya11.alloc (.cells #[.int .i64 0, .int .i64 0] 42)) vya11.heap.size #[.int .i64 0, .int .i64 0] 42 := BK.new _ _ _
      refine hK _ _ (fun _ => eya12) ?_
      clear hK K hnx
      generalize (vya11.alloc (.cells #[.int .i64 0, .int .i64 0] 42)) = vya14 at *
      obtain ⟨gky, hgky⟩ : ∃ g, vya11.heap.size = g := ⟨_, rfl⟩
      have hqky : Wbx.heap.size ≤ gky := by omega
      rw [hgky] at ky nekxky
      try rw [hgky]
      clear hgky
      refine any_run1 (i := 8) (by kernel_rfl) (by rfl) (by kernel_rfl) ?_
      intro K hK
      have lkx := kx.lt
      have y0 := kx.cell 0
      have f0 := kx.frozen 0
      have y1 := kx.cell 1
      have f1 := kx.frozen 1
      simp at y0 y1
      go_wp2_with fail
      have eya15 : Below Wbx.heap.size Wbx ((vya14.setCell ⟨gkx, 0, none⟩ (.int .i64 X.lo)).setCell ⟨gkx, 1, none⟩ (.int .i64 X.hi)) := by exact bel_of
      have ky_ : BK ((vya14.setCell ⟨gkx, 0, none⟩ (.int .i64 X.lo)).setCell ⟨gkx, 1, none⟩ (.int .i64 X.hi)) gky _ _ := (BK.far (BK.far ky (p := ⟨gkx, 0, none⟩) (by first | assumption | exact Ne.symm (by assumption)) _) (p := ⟨gkx, 1, none⟩) (by first | assumption | exact Ne.symm (by assumption)) _); clear ky; have ky := ky_; clear ky_
      have kx_ := ((kx.set 0 (.int .i64 X.lo)).set 1 (.int .i64 X.hi))
      simp at kx_
      clear kx; have kx := kx_; clear kx_
      clear y0 f0 y1 f1
      refine hK _ _ (fun _ => eya15) ?_
      clear hK K
      generalize ((vya14.setCell ⟨gkx, 0, none⟩ (.int .i64 X.lo)).setCell ⟨gkx, 1, none⟩ (.int .i64 X.hi)) = vya16 at *
      refine any_run1 (i := 9) (by kernel_rfl) (by rfl) (by kernel_rfl) ?_
      intro K hK
      have lky := ky.lt
      have y0 := ky.cell 0
      have f0 := ky.frozen 0
      have y1 := ky.cell 1
      have f1 := ky.frozen 1
      simp at y0 y1
      go_wp2_with fail
      have eya17 : Below Wbx.heap.size Wbx ((vya16.setCell ⟨gky, 0, none⟩ (.int .i64 Y.lo)).setCell ⟨gky, 1, none⟩ (.int .i64 Y.hi)) := by exact bel_of
      have kx_ : BK ((vya16.setCell ⟨gky, 0, none⟩ (.int .i64 Y.lo)).setCell ⟨gky, 1, none⟩ (.int .i64 Y.hi)) gkx _ _ := (BK.far (BK.far kx (p := ⟨gky, 0, none⟩) (by first | assumption | exact Ne.symm (by assumption)) _) (p := ⟨gky, 1, none⟩) (by first | assumption | exact Ne.symm (by assumption)) _); clear kx; have kx := kx_; clear kx_
      have ky_ := ((ky.set 0 (.int .i64 Y.lo)).set 1 (.int .i64 Y.hi))
      simp at ky_
      clear ky; have ky := ky_; clear ky_
      clear y0 f0 y1 f1
      refine hK _ _ (fun _ => eya17) ?_
      clear hK K
      generalize ((vya16.setCell ⟨gky, 0, none⟩ (.int .i64 Y.lo)).setCell ⟨gky, 1, none⟩ (.int .i64 Y.hi)) = vya18 at *
      refine any_done (by kernel_rfl) (NoPanic.normal ?_)
      exact ⟨rfl, by simp [setAll], rfl, _, _, rfl, rfl, by first | assumption | exact Ne.symm (by assumption), kx, ky, eya17⟩
     ·skip
      intro K hK
      have qya20 := eya6.size
      have eya19 : Below Wbx.heap.size Wbx (vya7.alloc (.cells #[.int .i64 0, .int .i64 0] 42)) := Below.alloc eya6 eya6.size _
      have hnx : Below vya7.heap.size vya7 (vya7.alloc (.cells #[.int .i64 0, .int .i64 0] 42)) := Below.alloc (Below.refl _ _) (Nat.le_refl _) _
      go_wp2_with fail
      replace hT := (RS.below hT hnx).more hnx.size
      have ky : BK (vya7.alloc (.cells #[.int .i64 0, .int .i64 0] 42)) vya7.heap.size #[.int .i64 0, .int .i64 0] 42 := BK.new _ _ _
      refine hK _ _ (fun _ => eya19) ?_
      clear hK K hnx
      generalize (vya7.alloc (.cells #[.int .i64 0, .int .i64 0] 42)) = vya21 at *
      obtain ⟨gky, hgky⟩ : ∃ g, vya7.heap.size = g := ⟨_, rfl⟩
      have hqky : Wbx.heap.size ≤ gky := by omega
      rw [hgky] at ky
      try rw [hgky]
      clear hgky
      refine any_run1 (i := 6) (by kernel_rfl) (by rfl) (by kernel_rfl) ?_
      intro K hK
      have qya23 := eya19.size
      have eya22 : Below Wbx.heap.size Wbx (vya21.alloc (.cells #[.int .i64 0, .int .i64 0] 42)) := Below.alloc eya19 eya19.size _
      have hnx : Below vya21.heap.size vya21 (vya21.alloc (.cells #[.int .i64 0, .int .i64 0] 42)) := Below.alloc (Below.refl _ _) (Nat.le_refl _) _
      go_wp2_with fail
      have nekykx : gky ≠ vya21.heap.size := Nat.ne_of_lt ky.lt
      replace ky := ky.below hnx ky.lt
      replace hT := (RS.below hT hnx).more hnx.size
      have kx : BK (vya21.alloc (.cells #[.int .i64 0, .int .i64 0] 42)) vya21.heap.size #[.int .i64 0, .int .i64 0] 42 := BK.new _ _ _
      refine hK _ _ (fun _ => eya22) ?_
      clear hK K hnx
      generalize (vya21.alloc (.cells #[.int .i64 0, .int .i64 0] 42)) = vya24 at *
      obtain ⟨gkx, hgkx⟩ : ∃ g, vya21.heap.size = g := ⟨_, rfl⟩
      have hqkx : Wbx.heap.size ≤ gkx := by omega
      rw [hgkx] at kx nekykx
      try rw [hgkx]
      clear hgkx
      refine any_run1 (i := 8) (by kernel_rfl) (by rfl) (by kernel_rfl) ?_
      intro K hK
      have lkx := kx.lt
      have y0 := kx.cell 0
      have f0 := kx.frozen 0
      have y1 := kx.cell 1
      have f1 := kx.frozen 1
      simp at y0 y1
      go_wp2_with fail
      have eya25 : Below Wbx.heap.size Wbx ((vya24.setCell ⟨gkx, 0, none⟩ (.int .i64 X.lo)).setCell ⟨gkx, 1, none⟩ (.int .i64 X.hi)) := by exact bel_of
      have ky_ : BK ((vya24.setCell ⟨gkx, 0, none⟩ (.int .i64 X.lo)).setCell ⟨gkx, 1, none⟩ (.int .i64 X.hi)) gky _ _ := (BK.far (BK.far ky (p := ⟨gkx, 0, none⟩) (by first | assumption | exact Ne.symm (by assumption)) _) (p := ⟨gkx, 1, none⟩) (by first | assumption | exact Ne.symm (by assumption)) _); clear ky; have ky := ky_; clear ky_
      have kx_ := ((kx.set 0 (.int .i64 X.lo)).set 1 (.int .i64 X.hi))
      simp at kx_
      clear kx; have kx := kx_; clear kx_
      clear y0 f0 y1 f1
      refine hK _ _ (fun _ => eya25) ?_
      clear hK K
      generalize ((vya24.setCell ⟨gkx, 0, none⟩ (.int .i64 X.lo)).setCell ⟨gkx, 1, none⟩ (.int .i64 X.hi)) = vya26 at *
      refine any_run1 (i := 9) (by kernel_rfl) (by rfl) (by kernel_rfl) ?_
      intro K hK
      have lky := ky.lt
      have y0 := ky.cell 0
      have f0 := ky.frozen 0
      have y1 := ky.cell 1
      have f1 := ky.frozen 1
      simp at y0 y1
      go_wp2_with fail
      have eya27 : Below Wbx.heap.size Wbx ((vya26.setCell ⟨gky, 0, none⟩ (.int .i64 Y.lo)).setCell ⟨gky, 1, none⟩ (.int .i64 Y.hi)) := by exact bel_of
      have kx_ : BK ((vya26.setCell ⟨gky, 0, none⟩ (.int .i64 Y.lo)).setCell ⟨gky, 1, none⟩ (.int .i64 Y.hi)) gkx _ _ := (BK.far (BK.far kx (p := ⟨gky, 0, none⟩) (by first | assumption | exact Ne.symm (by assumption)) _) (p := ⟨gky, 1, none⟩) (by first | assumption | exact Ne.symm (by assumption)) _); clear kx; have kx := kx_; clear kx_
      have ky_ := ((ky.set 0 (.int .i64 Y.lo)).set 1 (.int .i64 Y.hi))
      simp at ky_
      clear ky; have ky := ky_; clear ky_
      clear y0 f0 y1 f1
      refine hK _ _ (fun _ => eya27) ?_
      clear hK K
      generalize ((vya26.setCell ⟨gky, 0, none⟩ (.int .i64 Y.lo)).setCell ⟨gky, 1, none⟩ (.int .i64 Y.hi)) = vya28 at *
      refine any_done (by kernel_rfl) (NoPanic.normal ?_)
      exact ⟨rfl, by simp [setAll], rfl, _, _, rfl, rfl, by first | assumption | exact Ne.symm (by assumption), kx, ky, eya27⟩
    ·skip
     intro K hK
     have qya30 := eya3.size
     have eya29 : Below Wbx.heap.size Wbx (vya4.alloc (.cells #[.int .i64 0, .int .i64 0] 42)) := Below.alloc eya3 eya3.size _
     have hnx : Below vya4.heap.size vya4 (vya4.alloc (.cells #[.int .i64 0, .int .i64 0] 42)) := Below.alloc (Below.refl _ _) (Nat.le_refl _) _
     go_wp2_with fail
     replace hT := (RS.below hT hnx).more hnx.size
     have kx : BK (vya4.alloc (.cells #[.int .i64 0, .int .i64 0] 42)) vya4.heap.size #[.int .i64 0, .int .i64 0] 42 := BK.new _ _ _
     refine hK _ _ (fun _ => eya29) ?_
     clear hK K hnx
     generalize (vya4.alloc (.cells #[.int .i64 0, .int .i64 0] 42)) = vya31 at *
     obtain ⟨gkx, hgkx⟩ : ∃ g, vya4.heap.size = g := ⟨_, rfl⟩
     have hqkx : Wbx.heap.size ≤ gkx := by omega
     rw [hgkx] at kx
     try rw [hgkx]
     clear hgkx
     refine any_run2 (i := 5) (j := 7) (by kernel_rfl) (by rfl) (by rfl) (by rfl) (by rfl) ?_ ?_
     ·skip
      intro K hK
      have qya34 := eya29.size
      go_wp2_with fail
      refine (tube_any l _ m ((k : Int) - 1) _ HO.out h20 hlk' hT).mono ?_
      rintro e vya33 ⟨rfl, hb⟩
      rw [HYE.out]
      unfold rV
      have eya32 : Below Wbx.heap.size Wbx vya33 := eya29.trans (hb.mono eya29.size)
      replace kx := kx.below hb kx.lt
      replace hT := (RS.below hT hb).more hb.size
      clear hb
      refine hK _ _ (fun _ => eya32) ?_
      clear hK K
      refine any_run1 (i := 7) (by kernel_rfl) (by rfl) (by kernel_rfl) ?_
      intro K hK
      have qya36 := eya32.size
      have eya35 : Below Wbx.heap.size Wbx (vya33.alloc (.cells #[.int .i64 0, .int .i64 0] 42)) := Below.alloc eya32 eya32.size _
      have hnx : Below vya33.heap.size vya33 (vya33.alloc (.cells #[.int .i64 0, .int .i64 0] 42)) := Below.alloc (Below.refl _ _) (Nat.le_refl _) _
      go_wp2_with fail
      have nekxky : gkx ≠ vya33.heap.size := Nat.ne_of_lt kx.lt
      replace kx := kx.below hnx kx.lt
      replace hT := (RS.below hT hnx).more hnx.size
      have ky : BK (vya33.alloc (.cells #[.int .i64 0, .int .i64 0] 42)) vya33.heap.size #[.int .i64 0, .int .i64 0] 42 := BK.new _ _ _
      refine hK _ _ (fun _ => eya35) ?_
      clear hK K hnx
      generalize (vya33.alloc (.cells #[.int .i64 0, .int .i64 0] 42)) = vya37 at *
      obtain ⟨gky, hgky⟩ : ∃ g, vya33.heap.size = g := ⟨_, rfl⟩
      have hqky : Wbx.heap.size ≤ gky := by omega
      rw [hgky] at ky nekxky
      try rw [hgky]
      clear hgky
      refine any_run1 (i := 8) (by kernel_rfl) (by rfl) (by kernel_rfl) ?_
      intro K hK
      have lkx := kx.lt
      have y0 := kx.cell 0
      have f0 := kx.frozen 0
      have y1 := kx.cell 1
      have f1 := kx.frozen 1
      simp at y0 y1
      go_wp2_with fail
      have eya38 : Below Wbx.heap.size Wbx ((vya37.setCell ⟨gkx, 0, none⟩ (.int .i64 X.lo)).setCell ⟨gkx, 1, none⟩ (.int .i64 X.hi)) := by exact bel_of
      have ky_ : BK ((vya37.setCell ⟨gkx, 0, none⟩ (.int .i64 X.lo)).setCell ⟨gkx, 1, none⟩ (.int .i64 X.hi)) gky _ _ := (BK.far (BK.far ky (p := ⟨gkx, 0, none⟩) (by first | assumption | exact Ne.symm (by assumption)) _) (p := ⟨gkx, 1, none⟩) (by first | assumption | exact Ne.symm (by assumption)) _); clear ky; have ky := ky_; clear ky_
      have kx_ := ((kx.set 0 (.int .i64 X.lo)).set 1 (.int .i64 X.hi))
      simp at kx_
      clear kx; have kx := kx_; clear kx_
      clear y0 f0 y1 f1
      refine hK _ _ (fun _ => eya38) ?_
      clear hK K
      generalize ((vya37.setCell ⟨gkx, 0, none⟩ (.int .i64 X.lo)).setCell ⟨gkx, 1, none⟩ (.int .i64 X.hi)) = vya39 at *
      refine any_run1 (i := 9) (by kernel_rfl) (by rfl) (by kernel_rfl) ?_
      intro K hK
      have lky := ky.lt
      have y0 := ky.cell 0
      have f0 := ky.frozen 0
      have y1 := ky.cell 1
      have f1 := ky.frozen 1
      simp at y0 y1
      go_wp2_with fail
      have eya40 : Below Wbx.heap.size Wbx ((vya39.setCell ⟨gky, 0, none⟩ (.int .i64 Y.lo)).setCell ⟨gky, 1, none⟩ (.int .i64 Y.hi)) := by exact bel_of
      have kx_ : BK ((vya39.setCell ⟨gky, 0, none⟩ (.int .i64 Y.lo)).setCell ⟨gky, 1, none⟩ (.int .i64 Y.hi)) gkx _ _ := (BK.far (BK.far kx (p := ⟨gky, 0, none⟩) (by first | assumption | exact Ne.symm (by assumption)) _) (p := ⟨gky, 1, none⟩) (by first | assumption | exact Ne.symm (by assumption)) _); clear kx; have kx := kx_; clear kx_
      have ky_ := ((ky.set 0 (.int .i64 Y.lo)).set 1 (.int .i64 Y.hi))
      simp at ky_
      clear ky; have ky := ky_; clear ky_
      clear y0 f0 y1 f1
      refine hK _ _ (fun _ => eya40) ?_
      clear hK K
      generalize ((vya39.setCell ⟨gky, 0, none⟩ (.int .i64 Y.lo)).setCell ⟨gky, 1, none⟩ (.int .i64 Y.hi)) = vya41 at *
      refine any_done (by kernel_rfl) (NoPanic.normal ?_)
      exact ⟨rfl, by simp [setAll], rfl, _, _, rfl, rfl, by first | assumption | exact Ne.symm (by assumption), kx, ky, eya40⟩
     ·skip
      intro K hK
      have qya43 := eya29.size
      have eya42 : Below Wbx.heap.size Wbx (vya31.alloc (.cells #[.int .i64 0, .int .i64 0] 42)) := Below.alloc eya29 eya29.size _
      have hnx : Below vya31.heap.size vya31 (vya31.alloc (.cells #[.int .i64 0, .int .i64 0] 42)) := Below.alloc (Below.refl _ _) (Nat.le_refl _) _
      go_wp2_with fail
      have nekxky : gkx ≠ vya31.heap.size := Nat.ne_of_lt kx.lt
      replace kx := kx.below hnx kx.lt
      replace hT := (RS.below hT hnx).more hnx.size
      have ky : BK (vya31.alloc (.cells #[.int .i64 0, .int .i64 0] 42)) vya31.heap.size #[.int .i64 0, .int .i64 0] 42 := BK.new _ _ _
      refine hK _ _ (fun _ => eya42) ?_
      clear hK K hnx
      generalize (vya31.alloc (.cells #[.int .i64 0, .int .i64 0] 42)) = vya44 at *
      obtain ⟨gky, hgky⟩ : ∃ g, vya31.heap.size = g := ⟨_, rfl⟩
      have hqky : Wbx.heap.size ≤ gky := by omega
      rw [hgky] at ky nekxky
      try rw [hgky]
      clear hgky
      refine any_run1 (i := 5) (by kernel_rfl) (by rfl) (by kernel_rfl) ?_
      intro K hK
      have qya47 := eya42.size
      go_wp2_with fail
      refine (tube_any l _ m ((k : Int) - 1) _ HO.out h20 hlk' hT).mono ?_
      rintro e vya46 ⟨rfl, hb⟩
      rw [HYE.out]
      unfold rV
      have eya45 : Below Wbx.heap.size Wbx vya46 := eya42.trans (hb.mono eya42.size)
      replace kx := kx.below hb kx.lt
      replace ky := ky.below hb ky.lt
      replace hT := (RS.below hT hb).more hb.size
      clear hb
      refine hK _ _ (fun _ => eya45) ?_
      clear hK K
      refine any_run1 (i := 8) (by kernel_rfl) (by rfl) (by kernel_rfl) ?_
      intro K hK
      have lkx := kx.lt
      have y0 := kx.cell 0
      have f0 := kx.frozen 0
      have y1 := kx.cell 1
      have f1 := kx.frozen 1
      simp at y0 y1
      go_wp2_with fail
      have eya48 : Below Wbx.heap.size Wbx ((vya46.setCell ⟨gkx, 0, none⟩ (.int .i64 X.lo)).setCell ⟨gkx, 1, none⟩ (.int .i64 X.hi)) := by exact bel_of
      have ky_ : BK ((vya46.setCell ⟨gkx, 0, none⟩ (.int .i64 X.lo)).setCell ⟨gkx, 1, none⟩ (.int .i64 X.hi)) gky _ _ := (BK.far (BK.far ky (p := ⟨gkx, 0, none⟩) (by first | assumption | exact Ne.symm (by assumption)) _) (p := ⟨gkx, 1, none⟩) (by first | assumption | exact Ne.symm (by assumption)) _); clear ky; have ky := ky_; clear ky_
      have kx_ := ((kx.set 0 (.int .i64 X.lo)).set 1 (.int .i64 X.hi))
      simp at kx_
      clear kx; have kx := kx_; clear kx_
      clear y0 f0 y1 f1
      refine hK _ _ (fun _ => eya48) ?_
      clear hK K
      generalize ((vya46.setCell ⟨gkx, 0, none⟩ (.int .i64 X.lo)).setCell ⟨gkx, 1, none⟩ (.int .i64 X.hi)) = vya49 at *
      refine any_run1 (i := 9) (by kernel_rfl) (by rfl) (by kernel_rfl) ?_
      intro K hK
      have lky := ky.lt
      have y0 := ky.cell 0
      have f0 := ky.frozen 0
      have y1 := ky.cell 1
      have f1 := ky.frozen 1
      simp at y0 y1
      go_wp2_with fail
      have eya50 : Below Wbx.heap.size Wbx ((vya49.setCell ⟨gky, 0, none⟩ (.int .i64 Y.lo)).setCell ⟨gky, 1, none⟩ (.int .i64 Y.hi)) := by exact bel_of
      have kx_ : BK ((vya49.setCell ⟨gky, 0, none⟩ (.int .i64 Y.lo)).setCell ⟨gky, 1, none⟩ (.int .i64 Y.hi)) gkx _ _ := (BK.far (BK.far kx (p := ⟨gky, 0, none⟩) (by first | assumption | exact Ne.symm (by assumption)) _) (p := ⟨gky, 1, none⟩) (by first | assumption | exact Ne.symm (by assumption)) _); clear kx; have kx := kx_; clear kx_
      have ky_ := ((ky.set 0 (.int .i64 Y.lo)).set 1 (.int .i64 Y.hi))
      simp at ky_
      clear ky; have ky := ky_; clear ky_
      clear y0 f0 y1 f1
      refine hK _ _ (fun _ => eya50) ?_
      clear hK K
      generalize ((vya49.setCell ⟨gky, 0, none⟩ (.int .i64 Y.lo)).setCell ⟨gky, 1, none⟩ (.int .i64 Y.hi)) = vya51 at *
      refine any_done (by kernel_rfl) (NoPanic.normal ?_)
      exact ⟨rfl, by simp [setAll], rfl, _, _, rfl, rfl, by first | assumption | exact Ne.symm (by assumption), kx, ky, eya50⟩
    ·skip
     intro K hK
     have qya53 := eya3.size
     have eya52 : Below Wbx.heap.size Wbx (vya4.alloc (.cells #[.int .i64 0, .int .i64 0] 42)) := Below.alloc eya3 eya3.size _
     have hnx : Below vya4.heap.size vya4 (vya4.alloc (.cells #[.int .i64 0, .int .i64 0] 42)) := Below.alloc (Below.refl _ _) (Nat.le_refl _) _
     go_wp2_with fail
     replace hT := (RS.below hT hnx).more hnx.size
     have ky : BK (vya4.alloc (.cells #[.int .i64 0, .int .i64 0] 42)) vya4.heap.size #[.int .i64 0, .int .i64 0] 42 := BK.new _ _ _
     refine hK _ _ (fun _ => eya52) ?_
     clear hK K hnx
     generalize (vya4.alloc (.cells #[.int .i64 0, .int .i64 0] 42)) = vya54 at *
     obtain ⟨gky, hgky⟩ : ∃ g, vya4.heap.size = g := ⟨_, rfl⟩
     have hqky : Wbx.heap.size ≤ gky := by omega
     rw [hgky] at ky
     try rw [hgky]
     clear hgky
     refine any_run2 (i := 5) (j := 6) (by kernel_rfl) (by rfl) (by rfl) (by rfl) (by rfl) ?_ ?_
     ·skip
      intro K hK
      have qya57 := eya52.size
      go_wp2_with fail
      refine (tube_any l _ m ((k : Int) - 1) _ HO.out h20 hlk' hT).mono ?_
      rintro e vya56 ⟨rfl, hb⟩
      rw [HYE.out]
      unfold rV
      have eya55 : Below Wbx.heap.size Wbx vya56 := eya52.trans (hb.mono eya52.size)
      replace ky := ky.below hb ky.lt
      replace hT := (RS.below hT hb).more hb.size
      clear hb
      refine hK _ _ (fun _ => eya55) ?_
      clear hK K
      refine any_run1 (i := 6) (by kernel_rfl) (by rfl) (by kernel_rfl) ?_
      intro K hK
      have qya59 := eya55.size
      have eya58 : Below Wbx.heap.size Wbx (vya56.alloc (.cells #[.int .i64 0, .int .i64 0] 42)) := Below.alloc eya55 eya55.size _
      have hnx : Below vya56.heap.size vya56 (vya56.alloc (.cells #[.int .i64 0, .int .i64 0] 42)) := Below.alloc (Below.refl _ _) (Nat.le_refl _) _
      go_wp2_with fail
      have nekykx : gky ≠ vya56.heap.size := Nat.ne_of_lt ky.lt
      replace ky := ky.below hnx ky.lt
      replace hT := (RS.below hT hnx).more hnx.size
      have kx : BK (vya56.alloc (.cells #[.int .i64 0, .int .i64 0] 42)) vya56.heap.size #[.int .i64 0, .int .i64 0] 42 := BK.new _ _ _
      refine hK _ _ (fun _ => eya58) ?_
      clear hK K hnx
      generalize (vya56.alloc (.cells #[.int .i64 0, .int .i64 0] 42)) = vya60 at *
      obtain ⟨gkx, hgkx⟩ : ∃ g, vya56.heap.size = g := ⟨_, rfl⟩
      have hqkx : Wbx.heap.size ≤ gkx := by omega
      rw [hgkx] at kx nekykx
      try rw [hgkx]
      clear hgkx
      refine any_run1 (i := 8) (by kernel_rfl) (by rfl) (by kernel_rfl) ?_
      intro K hK
      have lkx := kx.lt
      have y0 := kx.cell 0
      have f0 := kx.frozen 0
      have y1 := kx.cell 1
      have f1 := kx.frozen 1
      simp at y0 y1
      go_wp2_with fail
      have eya61 : Below Wbx.heap.size Wbx ((vya60.setCell ⟨gkx, 0, none⟩ (.int .i64 X.lo)).setCell ⟨gkx, 1, none⟩ (.int .i64 X.hi)) := by exact bel_of
      have ky_ : BK ((vya60.setCell ⟨gkx, 0, none⟩ (.int .i64 X.lo)).setCell ⟨gkx, 1, none⟩ (.int .i64 X.hi)) gky _ _ := (BK.far (BK.far ky (p := ⟨gkx, 0, none⟩) (by first | assumption | exact Ne.symm (by assumption)) _) (p := ⟨gkx, 1, none⟩) (by first | assumption | exact Ne.symm (by assumption)) _); clear ky; have ky := ky_; clear ky_
      have kx_ := ((kx.set 0 (.int .i64 X.lo)).set 1 (.int .i64 X.hi))
      simp at kx_
      clear kx; have kx := kx_; clear kx_
      clear y0 f0 y1 f1
      refine hK _ _ (fun _ => eya61) ?_
      clear hK K
      generalize ((vya60.setCell ⟨gkx, 0, none⟩ (.int .i64 X.lo)).setCell ⟨gkx, 1, none⟩ (.int .i64 X.hi)) = vya62 at *
      refine any_run1 (i := 9) (by kernel_rfl) (by rfl) (by kernel_rfl) ?_
      intro K hK
      have lky := ky.lt
      have y0 := ky.cell 0
      have f0 := ky.frozen 0
      have y1 := ky.cell 1
      have f1 := ky.frozen 1
      simp at y0 y1
      go_wp2_with fail
      have eya63 : Below Wbx.heap.size Wbx ((vya62.setCell ⟨gky, 0, none⟩ (.int .i64 Y.lo)).setCell ⟨gky, 1, none⟩ (.int .i64 Y.hi)) := by exact bel_of
      have kx_ : BK ((vya62.setCell ⟨gky, 0, none⟩ (.int .i64 Y.lo)).setCell ⟨gky, 1, none⟩ (.int .i64 Y.hi)) gkx _ _ := (BK.far (BK.far kx (p := ⟨gky, 0, none⟩) (by first | assumption | exact Ne.symm (by assumption)) _) (p := ⟨gky, 1, none⟩) (by first | assumption | exact Ne.symm (by assumption)) _); clear kx; have kx := kx_; clear kx_
      have ky_ := ((ky.set 0 (.int .i64 Y.lo)).set 1 (.int .i64 Y.hi))
      simp at ky_
      clear ky; have ky := ky_; clear ky_
      clear y0 f0 y1 f1
      refine hK _ _ (fun _ => eya63) ?_
      clear hK K
      generalize ((vya62.setCell ⟨gky, 0, none⟩ (.int .i64 Y.lo)).setCell ⟨gky, 1, none⟩ (.int .i64 Y.hi)) = vya64 at *
      refine any_done (by kernel_rfl) (NoPanic.normal ?_)
      exact ⟨rfl, by simp [setAll], rfl, _, _, rfl, rfl, by first | assumption | exact Ne.symm (by assumption), kx, ky, eya63⟩
     ·skip
      intro K hK
      have qya66 := eya52.size
      have eya65 : Below Wbx.heap.size Wbx (vya54.alloc (.cells #[.int .i64 0, .int .i64 0] 42)) := Below.alloc eya52 eya52.size _
      have hnx : Below vya54.heap.size vya54 (vya54.alloc (.cells #[.int .i64 0, .int .i64 0] 42)) := Below.alloc (Below.refl _ _) (Nat.le_refl _) _
      go_wp2_with fail
      have nekykx : gky ≠ vya54.heap.size := Nat.ne_of_lt ky.lt
      replace ky := ky.below hnx ky.lt
      replace hT := (RS.below hT hnx).more hnx.size
      have kx : BK (vya54.alloc (.cells #[.int .i64 0, .int .i64 0] 42)) vya54.heap.size #[.int .i64 0, .int .i64 0] 42 := BK.new _ _ _
      refine hK _ _ (fun _ => eya65) ?_
      clear hK K hnx
      generalize (vya54.alloc (.cells #[.int .i64 0, .int .i64 0] 42)) = vya67 at *
      obtain ⟨gkx, hgkx⟩ : ∃ g, vya54.heap.size = g := ⟨_, rfl⟩
      have hqkx : Wbx.heap.size ≤ gkx := by omega
      rw [hgkx] at kx nekykx
      try rw [hgkx]
      clear hgkx
      refine any_run1 (i := 5) (by kernel_rfl) (by rfl) (by kernel_rfl) ?_
      intro K hK
      have qya70 := eya65.size
      go_wp2_with fail
      refine (tube_any l _ m ((k : Int) - 1) _ HO.out h20 hlk' hT).mono ?_
      rintro e vya69 ⟨rfl, hb⟩
      rw [HYE.out]
      unfold rV
      have eya68 : Below Wbx.heap.size Wbx vya69 := eya65.trans (hb.mono eya65.size)
      replace ky := ky.below hb ky.lt
      replace kx := kx.below hb kx.lt
      replace hT := (RS.below hT hb).more hb.size
      clear hb
      refine hK _ _ (fun _ => eya68) ?_
      clear hK K
      refine any_run1 (i := 8) (by kernel_rfl) (by rfl) (by kernel_rfl) ?_
      intro K hK
      have lkx := kx.lt
      have y0 := kx.cell 0
      have f0 := kx.frozen 0
      have y1 := kx.cell 1
      have f1 := kx.frozen 1
      simp at y0 y1
      go_wp2_with fail
      have eya71 : Below Wbx.heap.size Wbx ((vya69.setCell ⟨gkx, 0, none⟩ (.int .i64 X.lo)).setCell ⟨gkx, 1, none⟩ (.int .i64 X.hi)) := by exact bel_of
      have ky_ : BK ((vya69.setCell ⟨gkx, 0, none⟩ (.int .i64 X.lo)).setCell ⟨gkx, 1, none⟩ (.int .i64 X.hi)) gky _ _ := (BK.far (BK.far ky (p := ⟨gkx, 0, none⟩) (by first | assumption | exact Ne.symm (by assumption)) _) (p := ⟨gkx, 1, none⟩) (by first | assumption | exact Ne.symm (by assumption)) _); clear ky; have ky := ky_; clear ky_
      have kx_ := ((kx.set 0 (.int .i64 X.lo)).set 1 (.int .i64 X.hi))
      simp at kx_
      clear kx; have kx := kx_; clear kx_
      clear y0 f0 y1 f1
      refine hK _ _ (fun _ => eya71) ?_
      clear hK K
      generalize ((vya69.setCell ⟨gkx, 0, none⟩ (.int .i64 X.lo)).setCell ⟨gkx, 1, none⟩ (.int .i64 X.hi)) = vya72 at *
      refine any_run1 (i := 9) (by kernel_rfl) (by rfl) (by kernel_rfl) ?_
      intro K hK
      have lky := ky.lt
      have y0 := ky.cell 0
      have f0 := ky.frozen 0
      have y1 := ky.cell 1
      have f1 := ky.frozen 1
      simp at y0 y1
      go_wp2_with fail
      have eya73 : Below Wbx.heap.size Wbx ((vya72.setCell ⟨gky, 0, none⟩ (.int .i64 Y.lo)).setCell ⟨gky, 1, none⟩ (.int .i64 Y.hi)) := by exact bel_of
      have kx_ : BK ((vya72.setCell ⟨gky, 0, none⟩ (.int .i64 Y.lo)).setCell ⟨gky, 1, none⟩ (.int .i64 Y.hi)) gkx _ _ := (BK.far (BK.far kx (p := ⟨gky, 0, none⟩) (by first | assumption | exact Ne.symm (by assumption)) _) (p := ⟨gky, 1, none⟩) (by first | assumption | exact Ne.symm (by assumption)) _); clear kx; have kx := kx_; clear kx_
      have ky_ := ((ky.set 0 (.int .i64 Y.lo)).set 1 (.int .i64 Y.hi))
      simp at ky_
      clear ky; have ky := ky_; clear ky_
      clear y0 f0 y1 f1
      refine hK _ _ (fun _ => eya73) ?_
      clear hK K
      generalize ((vya72.setCell ⟨gky, 0, none⟩ (.int .i64 Y.lo)).setCell ⟨gky, 1, none⟩ (.int .i64 Y.hi)) = vya74 at *
      refine any_done (by kernel_rfl) (NoPanic.normal ?_)
      exact ⟨rfl, by simp [setAll], rfl, _, _, rfl, rfl, by first | assumption | exact Ne.symm (by assumption), kx, ky, eya73⟩
   ·skip
    intro K hK
    have qya76 := dya1.size
    have eya75 : Below Wbx.heap.size Wbx (uya2.alloc (.cells #[.int .i64 0, .int .i64 0] 42)) := Below.alloc dya1 dya1.size _
    have hnx : Below uya2.heap.size uya2 (uya2.alloc (.cells #[.int .i64 0, .int .i64 0] 42)) := Below.alloc (Below.refl _ _) (Nat.le_refl _) _
    go_wp2_with fail
    replace hT := (RS.below hT hnx).more hnx.size
    have kx : BK (uya2.alloc (.cells #[.int .i64 0, .int .i64 0] 42)) uya2.heap.size #[.int .i64 0, .int .i64 0] 42 := BK.new _ _ _
    refine hK _ _ (fun _ => eya75) ?_
    clear hK K hnx
    generalize (uya2.alloc (.cells #[.int .i64 0, .int .i64 0] 42)) = vya77 at *
    obtain ⟨gkx, hgkx⟩ : ∃ g, uya2.heap.size = g := ⟨_, rfl⟩
    have hqkx : Wbx.heap.size ≤ gkx := by omega
    rw [hgkx] at kx
    try rw [hgkx]
    clear hgkx
    refine any_run2 (i := 2) (j := 7) (by kernel_rfl) (by rfl) (by rfl) (by rfl) (by rfl) ?_ ?_
    ·skip
     intro K hK
     have qya80 := eya75.size
     go_wp2_with fail
     refine (tube_any l _ m ((i : Int) - 1) _ HO.out h20 hi2 hT).mono ?_
     rintro e vya79 ⟨rfl, hb⟩
     rw [HXE.out]
     unfold rV
     have eya78 : Below Wbx.heap.size Wbx vya79 := eya75.trans (hb.mono eya75.size)
     replace kx := kx.below hb kx.lt
     replace hT := (RS.below hT hb).more hb.size
     clear hb
     refine hK _ _ (fun _ => eya78) ?_
     clear hK K
     refine any_run2 (i := 5) (j := 7) (by kernel_rfl) (by rfl) (by rfl) (by rfl) (by rfl) ?_ ?_
     ·skip
      intro K hK
      have qya83 := eya78.size
      go_wp2_with fail
      refine (tube_any l _ m ((k : Int) - 1) _ HO.out h20 hlk' hT).mono ?_
      rintro e vya82 ⟨rfl, hb⟩
      rw [HYE.out]
      unfold rV
      have eya81 : Below Wbx.heap.size Wbx vya82 := eya78.trans (hb.mono eya78.size)
      replace kx := kx.below hb kx.lt
      replace hT := (RS.below hT hb).more hb.size
      clear hb
      refine hK _ _ (fun _ => eya81) ?_
      clear hK K
      refine any_run1 (i := 7) (by kernel_rfl) (by rfl) (by kernel_rfl) ?_
      intro K hK
      have qya85 := eya81.size
      have eya84 : Below Wbx.heap.size Wbx (vya82.alloc (.cells #[.int .i64 0, .int .i64 0] 42)) := Below.alloc eya81 eya81.size _
      have hnx : Below vya82.heap.size vya82 (vya82.alloc (.cells #[.int .i64 0, .int .i64 0] 42)) := Below.alloc (Below.refl _ _) (Nat.le_refl _) _
      go_wp2_with fail
      have nekxky : gkx ≠ vya82.heap.size := Nat.ne_of_lt kx.lt
      replace kx := kx.below hnx kx.lt
      replace hT := (RS.below hT hnx).more hnx.size
      have ky : BK (vya82.alloc (.cells #[.int .i64 0, .int .i64 0] 42)) vya82.heap.size #[.int .i64 0, .int .i64 0] 42 := BK.new _ _ _
      refine hK _ _ (fun _ => eya84) ?_
      clear hK K hnx
      generalize (vya82.alloc (.cells #[.int .i64 0, .int .i64 0] 42)) = vya86 at *
      obtain ⟨gky, hgky⟩ : ∃ g, vya82.heap.size = g := ⟨_, rfl⟩
      have hqky : Wbx.heap.size ≤ gky := by omega
      rw [hgky] at ky nekxky
      try rw [hgky]
      clear hgky
      refine any_run1 (i := 8) (by kernel_rfl) (by rfl) (by kernel_rfl) ?_
      intro K hK
      have lkx := kx.lt
      have y0 := kx.cell 0
      have f0 := kx.frozen 0
      have y1 := kx.cell 1
      have f1 := kx.frozen 1
      simp at y0 y1
      go_wp2_with fail
      have eya87 : Below Wbx.heap.size Wbx ((vya86.setCell ⟨gkx, 0, none⟩ (.int .i64 X.lo)).setCell ⟨gkx, 1, none⟩ (.int .i64 X.hi)) := by exact bel_of
      have ky_ : BK ((vya86.setCell ⟨gkx, 0, none⟩ (.int .i64 X.lo)).setCell ⟨gkx, 1, none⟩ (.int .i64 X.hi)) gky _ _ := (BK.far (BK.far ky (p := ⟨gkx, 0, none⟩) (by first | assumption | exact Ne.symm (by assumption)) _) (p := ⟨gkx, 1, none⟩) (by first | assumption | exact Ne.symm (by assumption)) _); clear ky; have ky := ky_; clear ky_
      have kx_ := ((kx.set 0 (.int .i64 X.lo)).set 1 (.int .i64 X.hi))
      simp at kx_
      clear kx; have kx := kx_; clear kx_
      clear y0 f0 y1 f1
      refine hK _ _ (fun _ => eya87) ?_
      clear hK K
      generalize ((vya86.setCell ⟨gkx, 0, none⟩ (.int .i64 X.lo)).setCell ⟨gkx, 1, none⟩ (.int .i64 X.hi)) = vya88 at *
      refine any_run1 (i := 9) (by kernel_rfl) (by rfl) (by kernel_rfl) ?_
      intro K hK
      have lky := ky.lt
      have y0 := ky.cell 0
      have f0 := ky.frozen 0
      have y1 := ky.cell 1
      have f1 := ky.frozen 1
      simp at y0 y1
      go_wp2_with fail
      have eya89 : Below Wbx.heap.size Wbx ((vya88.setCell ⟨gky, 0, none⟩ (.int .i64 Y.lo)).setCell ⟨gky, 1, none⟩ (.int .i64 Y.hi)) := by exact bel_of
      have kx_ : BK ((vya88.setCell ⟨gky, 0, none⟩ (.int .i64 Y.lo)).setCell ⟨gky, 1, none⟩ (.int .i64 Y.hi)) gkx _ _ := (BK.far (BK.far kx (p := ⟨gky, 0, none⟩) (by first | assumption | exact Ne.symm (by assumption)) _) (p := ⟨gky, 1, none⟩) (by first | assumption | exact Ne.symm (by assumption)) _); clear kx; have kx := kx_; clear kx_
      have ky_ := ((ky.set 0 (.int .i64 Y.lo)).set 1 (.int .i64 Y.hi))
      simp at ky_
      clear ky; have ky := ky_; clear ky_
      clear y0 f0 y1 f1
      refine hK _ _ (fun _ => eya89) ?_
      clear hK K
      generalize ((vya88.setCell ⟨gky, 0, none⟩ (.int .i64 Y.lo)).setCell ⟨gky, 1, none⟩ (.int .i64 Y.hi)) = vya90 at *
      refine any_done (by kernel_rfl) (NoPanic.normal ?_)
      exact ⟨rfl, by simp [setAll], rfl, _, _, rfl, rfl, by first | assumption | exact Ne.symm (by assumption), kx, ky, eya89⟩
     ·skip
      intro K hK
      have qya92 := eya78.size
      have eya91 : Below Wbx.heap.size Wbx (vya79.alloc (.cells #[.int .i64 0, .int .i64 0] 42)) := Below.alloc eya78 eya78.size _
      have hnx : Below vya79.heap.size vya79 (vya79.alloc (.cells #[.int .i64 0, .int .i64 0] 42)) := Below.alloc (Below.refl _ _) (Nat.le_refl _) _
      go_wp2_with fail
      have nekxky : gkx ≠ vya79.heap.size := Nat.ne_of_lt kx.lt
      replace kx := kx.below hnx kx.lt
      replace hT := (RS.below hT hnx).more hnx.size
      have ky : BK (vya79.alloc (.cells #[.int .i64 0, .int .i64 0] 42)) vya79.heap.size #[.int .i64 0, .int .i64 0] 42 := BK.new _ _ _
      refine hK _ _ (fun _ => eya91) ?_
      clear hK K hnx
      generalize (vya79.alloc (.cells #[.int .i64 0, .int .i64 0] 42)) = vya93 at *
      obtain ⟨gky, hgky⟩ : ∃ g, vya79.heap.size = g := ⟨_, rfl⟩
      have hqky : Wbx.heap.size ≤ gky := by omega
      rw [hgky] at ky nekxky
      try rw [hgky]
      clear hgky
      refine any_run1 (i := 5) (by kernel_rfl) (by rfl) (by kernel_rfl) ?_
      intro K hK
      have qya96 := eya91.size
      go_wp2_with fail
      refine (tube_any l _ m ((k : Int) - 1) _ HO.out h20 hlk' hT).mono ?_
      rintro e vya95 ⟨rfl, hb⟩
      rw [HYE.out]
      unfold rV
      have eya94 : Below Wbx.heap.size Wbx vya95 := eya91.trans (hb.mono eya91.size)
      replace kx := kx.below hb kx.lt
      replace ky := ky.below hb ky.lt
      replace hT := (RS.below hT hb).more hb.size
      clear hb
      refine hK _ _ (fun _ => eya94) ?_
      clear hK K
      refine any_run1 (i := 8) (by kernel_rfl) (by rfl) (by kernel_rfl) ?_
      intro K hK
      have lkx := kx.lt
      have y0 := kx.cell 0
      have f0 := kx.frozen 0
      have y1 := kx.cell 1
      have f1 := kx.frozen 1
      simp at y0 y1
      go_wp2_with fail
      have eya97 : Below Wbx.heap.size Wbx ((vya95.setCell ⟨gkx, 0, none⟩ (.int .i64 X.lo)).setCell ⟨gkx, 1, none⟩ (.int .i64 X.hi)) := by exact bel_of
      have ky_ : BK ((vya95.setCell ⟨gkx, 0, none⟩ (.int .i64 X.lo)).setCell ⟨gkx, 1, none⟩ (.int .i64 X.hi)) gky _ _ := (BK.far (BK.far ky (p := ⟨gkx, 0, none⟩) (by first | assumption | exact Ne.symm (by assumption)) _) (p := ⟨gkx, 1, none⟩) (by first | assumption | exact Ne.symm (by assumption)) _); clear ky; have ky := ky_; clear ky_
      have kx_ := ((kx.set 0 (.int .i64 X.lo)).set 1 (.int .i64 X.hi))
      simp at kx_
      clear kx; have kx := kx_; clear kx_
      clear y0 f0 y1 f1
      refine hK _ _ (fun _ => eya97) ?_
      clear hK K
      generalize ((vya95.setCell ⟨gkx, 0, none⟩ (.int .i64 X.lo)).setCell ⟨gkx, 1, none⟩ (.int .i64 X.hi)) = vya98 at *
      refine any_run1 (i := 9) (by kernel_rfl) (by rfl) (by kernel_rfl) ?_
      intro K hK
      have lky := ky.lt
      have y0 := ky.cell 0
      have f0 := ky.frozen 0
      have y1 := ky.cell 1
      have f1 := ky.frozen 1
      simp at y0 y1
      go_wp2_with fail
      have eya99 : Below Wbx.heap.size Wbx ((vya98.setCell ⟨gky, 0, none⟩ (.int .i64 Y.lo)).setCell ⟨gky, 1, none⟩ (.int .i64 Y.hi)) := by exact bel_of
      have kx_ : BK ((vya98.setCell ⟨gky, 0, none⟩ (.int .i64 Y.lo)).setCell ⟨gky, 1, none⟩ (.int .i64 Y.hi)) gkx _ _ := (BK.far (BK.far kx (p := ⟨gky, 0, none⟩) (by first | assumption | exact Ne.symm (by assumption)) _) (p := ⟨gky, 1, none⟩) (by first | assumption | exact Ne.symm (by assumption)) _); clear kx; have kx := kx_; clear kx_
      have ky_ := ((ky.set 0 (.int .i64 Y.lo)).set 1 (.int .i64 Y.hi))
      simp at ky_
      clear ky; have ky := ky_; clear ky_
      clear y0 f0 y1 f1
      refine hK _ _ (fun _ => eya99) ?_
      clear hK K
      generalize ((vya98.setCell ⟨gky, 0, none⟩ (.int .i64 Y.lo)).setCell ⟨gky, 1, none⟩ (.int .i64 Y.hi)) = vya100 at *
      refine any_done (by kernel_rfl) (NoPanic.normal ?_)
      exact ⟨rfl, by simp [setAll], rfl, _, _, rfl, rfl, by first | assumption | exact Ne.symm (by assumption), kx, ky, eya99⟩
    ·skip
     intro K hK
     have qya102 := eya75.size
     have eya101 : Below Wbx.heap.size Wbx (vya77.alloc (.cells #[.int .i64 0, .int .i64 0] 42)) := Below.alloc eya75 eya75.size _
     have hnx : Below vya77.heap.size vya77 (vya77.alloc (.cells #[.int .i64 0, .int .i64 0] 42)) := Below.alloc (Below.refl _ _) (Nat.le_refl _) _
     go_wp2_with fail
     have nekxky : gkx ≠ vya77.heap.size := Nat.ne_of_lt kx.lt
     replace kx := kx.below hnx kx.lt
     replace hT := (RS.below hT hnx).more hnx.size
     have ky : BK (vya77.alloc (.cells #[.int .i64 0, .int .i64 0] 42)) vya77.heap.size #[.int .i64 0, .int .i64 0] 42 := BK.new _ _ _
     refine hK _ _ (fun _ => eya101) ?_
     clear hK K hnx
     generalize (vya77.alloc (.cells #[.int .i64 0, .int .i64 0] 42)) = vya103 at *
     obtain ⟨gky, hgky⟩ : ∃ g, vya77.heap.size = g := ⟨_, rfl⟩
     have hqky : Wbx.heap.size ≤ gky := by omega
     rw [hgky] at ky nekxky
     try rw [hgky]
     clear hgky
     refine any_run1 (i := 2) (by kernel_rfl) (by rfl) (by kernel_rfl) ?_
     intro K hK
     have qya106 := eya101.size
     go_wp2_with fail
     refine (tube_any l _ m ((i : Int) - 1) _ HO.out h20 hi2 hT).mono ?_
     rintro e vya105 ⟨rfl, hb⟩
     rw [HXE.out]
     unfold rV
     have eya104 : Below Wbx.heap.size Wbx vya105 := eya101.trans (hb.mono eya101.size)
     replace kx := kx.below hb kx.lt
     replace ky := ky.below hb ky.lt
     replace hT := (RS.below hT hb).more hb.size
     clear hb
     refine hK _ _ (fun _ => eya104) ?_
     clear hK K
     refine any_run1 (i := 5) (by kernel_rfl) (by rfl) (by kernel_rfl) ?_
     intro K hK
     have qya109 := eya104.size
     go_wp2_with fail
     refine (tube_any l _ m ((k : Int) - 1) _ HO.out h20 hlk' hT).mono ?_
     rintro e vya108 ⟨rfl, hb⟩
     rw [HYE.out]
     unfold rV
     have eya107 : Below Wbx.heap.size Wbx vya108 := eya104.trans (hb.mono eya104.size)
     replace kx := kx.below hb kx.lt
     replace ky := ky.below hb ky.lt
     replace hT := (RS.below hT hb).more hb.size
     clear hb
     refine hK _ _ (fun _ => eya107) ?_
     clear hK K
     refine any_run1 (i := 8) (by kernel_rfl) (by rfl) (by kernel_rfl) ?_
     intro K hK
     have lkx := kx.lt
     have y0 := kx.cell 0
     have f0 := kx.frozen 0
     have y1 := kx.cell 1
     have f1 := kx.frozen 1
     simp at y0 y1
     go_wp2_with fail
     have eya110 : Below Wbx.heap.size Wbx ((vya108.setCell ⟨gkx, 0, none⟩ (.int .i64 X.lo)).setCell ⟨gkx, 1, none⟩ (.int .i64 X.hi)) := by exact bel_of
     have ky_ : BK ((vya108.setCell ⟨gkx, 0, none⟩ (.int .i64 X.lo)).setCell ⟨gkx, 1, none⟩ (.int .i64 X.hi)) gky _ _ := (BK.far (BK.far ky (p := ⟨gkx, 0, none⟩) (by first | assumption | exact Ne.symm (by assumption)) _) (p := ⟨gkx, 1, none⟩) (by first | assumption | exact Ne.symm (by assumption)) _); clear ky; have ky := ky_; clear ky_
     have kx_ := ((kx.set 0 (.int .i64 X.lo)).set 1 (.int .i64 X.hi))
     simp at kx_
     clear kx; have kx := kx_; clear kx_
     clear y0 f0 y1 f1
     refine hK _ _ (fun _ => eya110) ?_
     clear hK K
     generalize ((vya108.setCell ⟨gkx, 0, none⟩ (.int .i64 X.lo)).setCell ⟨gkx, 1, none⟩ (.int .i64 X.hi)) = vya111 at *
     refine any_run1 (i := 9) (by kernel_rfl) (by rfl) (by kernel_rfl) ?_
     intro K hK
     have lky := ky.lt
     have y0 := ky.cell 0
     have f0 := ky.frozen 0
     have y1 := ky.cell 1
     have f1 := ky.frozen 1
     simp at y0 y1
     go_wp2_with fail
     have eya112 : Below Wbx.heap.size Wbx ((vya111.setCell ⟨gky, 0, none⟩ (.int .i64 Y.lo)).setCell ⟨gky, 1, none⟩ (.int .i64 Y.hi)) := by exact bel_of
     have kx_ : BK ((vya111.setCell ⟨gky, 0, none⟩ (.int .i64 Y.lo)).setCell ⟨gky, 1, none⟩ (.int .i64 Y.hi)) gkx _ _ := (BK.far (BK.far kx (p := ⟨gky, 0, none⟩) (by first | assumption | exact Ne.symm (by assumption)) _) (p := ⟨gky, 1, none⟩) (by first | assumption | exact Ne.symm (by assumption)) _); clear kx; have kx := kx_; clear kx_
     have ky_ := ((ky.set 0 (.int .i64 Y.lo)).set 1 (.int .i64 Y.hi))
     simp at ky_
     clear ky; have ky := ky_; clear ky_
     clear y0 f0 y1 f1
     refine hK _ _ (fun _ => eya112) ?_
     clear hK K
     generalize ((vya111.setCell ⟨gky, 0, none⟩ (.int .i64 Y.lo)).setCell ⟨gky, 1, none⟩ (.int .i64 Y.hi)) = vya113 at *
     refine any_done (by kernel_rfl) (NoPanic.normal ?_)
     exact ⟨rfl, by simp [setAll], rfl, _, _, rfl, rfl, by first | assumption | exact Ne.symm (by assumption), kx, ky, eya112⟩
   ·skip
    intro K hK
    have qya115 := dya1.size
    have eya114 : Below Wbx.heap.size Wbx (uya2.alloc (.cells #[.int .i64 0, .int .i64 0] 42)) := Below.alloc dya1 dya1.size _
    have hnx : Below uya2.heap.size uya2 (uya2.alloc (.cells #[.int .i64 0, .int .i64 0] 42)) := Below.alloc (Below.refl _ _) (Nat.le_refl _) _
    go_wp2_with fail
    replace hT := (RS.below hT hnx).more hnx.size
    have ky : BK (uya2.alloc (.cells #[.int .i64 0, .int .i64 0] 42)) uya2.heap.size #[.int .i64 0, .int .i64 0] 42 := BK.new _ _ _
    refine hK _ _ (fun _ => eya114) ?_
    clear hK K hnx
    generalize (uya2.alloc (.cells #[.int .i64 0, .int .i64 0] 42)) = vya116 at *
    obtain ⟨gky, hgky⟩ : ∃ g, uya2.heap.size = g := ⟨_, rfl⟩
    have hqky : Wbx.heap.size ≤ gky := by omega
    rw [hgky] at ky
    try rw [hgky]
    clear hgky
    refine any_run2 (i := 2) (j := 6) (by kernel_rfl) (by rfl) (by rfl) (by rfl) (by rfl) ?_ ?_
    ·skip
     intro K hK
     have qya119 := eya114.size
     go_wp2_with fail
     refine (tube_any l _ m ((i : Int) - 1) _ HO.out h20 hi2 hT).mono ?_
     rintro e vya118 ⟨rfl, hb⟩
     rw [HXE.out]
     unfold rV
     have eya117 : Below Wbx.heap.size Wbx vya118 := eya114.trans (hb.mono eya114.size)
     replace ky := ky.below hb ky.lt
     replace hT := (RS.below hT hb).more hb.size
     clear hb
     refine hK _ _ (fun _ => eya117) ?_
     clear hK K
     refine any_run2 (i := 5) (j := 6) (by kernel_rfl) (by rfl) (by rfl) (by rfl) (by rfl) ?_ ?_
     ·skip
      intro K hK
      have qya122 := eya117.size
      go_wp2_with fail
      refine (tube_any l _ m ((k : Int) - 1) _ HO.out h20 hlk' hT).mono ?_
      rintro e vya121 ⟨rfl, hb⟩
      rw [HYE.out]
      unfold rV
      have eya120 : Below Wbx.heap.size Wbx vya121 := eya117.trans (hb.mono eya117.size)
      replace ky := ky.below hb ky.lt
      replace hT := (RS.below hT hb).more hb.size
      clear hb
      refine hK _ _ (fun _ => eya120) ?_
      clear hK K
      refine any_run1 (i := 6) (by kernel_rfl) (by rfl) (by kernel_rfl) ?_
      intro K hK
      have qya124 := eya120.size
      have eya123 : Below Wbx.heap.size Wbx (vya121.alloc (.cells #[.int .i64 0, .int .i64 0] 42)) := Below.alloc eya120 eya120.size _
      have hnx : Below vya121.heap.size vya121 (vya121.alloc (.cells #[.int .i64 0, .int .i64 0] 42)) := Below.alloc (Below.refl _ _) (Nat.le_refl _) _
      go_wp2_with fail
      have nekykx : gky ≠ vya121.heap.size := Nat.ne_of_lt ky.lt
      replace ky := ky.below hnx ky.lt
      replace hT := (RS.below hT hnx).more hnx.size
      have kx : BK (vya121.alloc (.cells #[.int .i64 0, .int .i64 0] 42)) vya121.heap.size #[.int .i64 0, .int .i64 0] 42 := BK.new _ _ _
      refine hK _ _ (fun _ => eya123) ?_
      clear hK K hnx
      generalize (vya121.alloc (.cells #[.int .i64 0, .int .i64 0] 42)) = vya125 at *
      obtain ⟨gkx, hgkx⟩ : ∃ g, vya121.heap.size = g := ⟨_, rfl⟩
      have hqkx : Wbx.heap.size ≤ gkx := by omega
      rw [hgkx] at kx nekykx
      try rw [hgkx]
      clear hgkx
      refine any_run1 (i := 8) (by kernel_rfl) (by rfl) (by kernel_rfl) ?_
      intro K hK
      have lkx := kx.lt
      have y0 := kx.cell 0
      have f0 := kx.frozen 0
      have y1 := kx.cell 1
      have f1 := kx.frozen 1
      simp at y0 y1
      go_wp2_with fail
      have eya126 : Below Wbx.heap.size Wbx ((vya125.setCell ⟨gkx, 0, none⟩ (.int .i64 X.lo)).setCell ⟨gkx, 1, none⟩ (.int .i64 X.hi)) := by exact bel_of
      have ky_ : BK ((vya125.setCell ⟨gkx, 0, none⟩ (.int .i64 X.lo)).setCell ⟨gkx, 1, none⟩ (.int .i64 X.hi)) gky _ _ := (BK.far (BK.far ky (p := ⟨gkx, 0, none⟩) (by first | assumption | exact Ne.symm (by assumption)) _) (p := ⟨gkx, 1, none⟩) (by first | assumption | exact Ne.symm (by assumption)) _); clear ky; have ky := ky_; clear ky_
      have kx_ := ((kx.set 0 (.int .i64 X.lo)).set 1 (.int .i64 X.hi))
      simp at kx_
      clear kx; have kx := kx_; clear kx_
      clear y0 f0 y1 f1
      refine hK _ _ (fun _ => eya126) ?_
      clear hK K
      generalize ((vya125.setCell ⟨gkx, 0, none⟩ (.int .i64 X.lo)).setCell ⟨gkx, 1, none⟩ (.int .i64 X.hi)) = vya127 at *
      refine any_run1 (i := 9) (by kernel_rfl) (by rfl) (by kernel_rfl) ?_
      intro K hK
      have lky := ky.lt
      have y0 := ky.cell 0
      have f0 := ky.frozen 0
      have y1 := ky.cell 1
      have f1 := ky.frozen 1
      simp at y0 y1
      go_wp2_with fail
      have eya128 : Below Wbx.heap.size Wbx ((vya127.setCell ⟨gky, 0, none⟩ (.int .i64 Y.lo)).setCell ⟨gky, 1, none⟩ (.int .i64 Y.hi)) := by exact bel_of
      have kx_ : BK ((vya127.setCell ⟨gky, 0, none⟩ (.int .i64 Y.lo)).setCell ⟨gky, 1, none⟩ (.int .i64 Y.hi)) gkx _ _ := (BK.far (BK.far kx (p := ⟨gky, 0, none⟩) (by first | assumption | exact Ne.symm (by assumption)) _) (p := ⟨gky, 1, none⟩) (by first | assumption | exact Ne.symm (by assumption)) _); clear kx; have kx := kx_; clear kx_
      have ky_ := ((ky.set 0 (.int .i64 Y.lo)).set 1 (.int .i64 Y.hi))
      simp at ky_
      clear ky; have ky := ky_; clear ky_
      clear y0 f0 y1 f1
      refine hK _ _ (fun _ => eya128) ?_
      clear hK K
      generalize ((vya127.setCell ⟨gky, 0, none⟩ (.int .i64 Y.lo)).setCell ⟨gky, 1, none⟩ (.int .i64 Y.hi)) = vya129 at *
      refine any_done (by kernel_rfl) (NoPanic.normal ?_)
      exact ⟨rfl, by simp [setAll], rfl, _, _, rfl, rfl, by first | assumption | exact Ne.symm (by assumption), kx, ky, eya128⟩
     ·skip
      intro K hK
      have qya131 := eya117.size
      have eya130 : Below Wbx.heap.size Wbx (vya118.alloc (.cells #[.int .i64 0, .int .i64 0] 42)) := Below.alloc eya117 eya117.size _
      have hnx : Below vya118.heap.size vya118 (vya118.alloc (.cells #[.int .i64 0, .int .i64 0] 42)) := Below.alloc (Below.refl _ _) (Nat.le_refl _) _
      go_wp2_with fail
      have nekykx : gky ≠ vya118.heap.size := Nat.ne_of_lt ky.lt
      replace ky := ky.below hnx ky.lt
      replace hT := (RS.below hT hnx).more hnx.size
      have kx : BK (vya118.alloc (.cells #[.int .i64 0, .int .i64 0] 42)) vya118.heap.size #[.int .i64 0, .int .i64 0] 42 := BK.new _ _ _
      refine hK _ _ (fun _ => eya130) ?_
      clear hK K hnx
      generalize (vya118.alloc (.cells #[.int .i64 0, .int .i64 0] 42)) = vya132 at *
      obtain ⟨gkx, hgkx⟩ : ∃ g, vya118.heap.size = g := ⟨_, rfl⟩
      have hqkx : Wbx.heap.size ≤ gkx := by omega
      rw [hgkx] at kx nekykx
      try rw [hgkx]
      clear hgkx
      refine any_run1 (i := 5) (by kernel_rfl) (by rfl) (by kernel_rfl) ?_
      intro K hK
      have qya135 := eya130.size
      go_wp2_with fail
      refine (tube_any l _ m ((k : Int) - 1) _ HO.out h20 hlk' hT).mono ?_
      rintro e vya134 ⟨rfl, hb⟩
      rw [HYE.out]
      unfold rV
      have eya133 : Below Wbx.heap.size Wbx vya134 := eya130.trans (hb.mono eya130.size)
      replace ky := ky.below hb ky.lt
      replace kx := kx.below hb kx.lt
      replace hT := (RS.below hT hb).more hb.size
      clear hb
      refine hK _ _ (fun _ => eya133) ?_
      clear hK K
      refine any_run1 (i := 8) (by kernel_rfl) (by rfl) (by kernel_rfl) ?_
      intro K hK
      have lkx := kx.lt
      have y0 := kx.cell 0
      have f0 := kx.frozen 0
      have y1 := kx.cell 1
      have f1 := kx.frozen 1
      simp at y0 y1
      go_wp2_with fail
      have eya136 : Below Wbx.heap.size Wbx ((vya134.setCell ⟨gkx, 0, none⟩ (.int .i64 X.lo)).setCell ⟨gkx, 1, none⟩ (.int .i64 X.hi)) := by exact bel_of
      have ky_ : BK ((vya134.setCell ⟨gkx, 0, none⟩ (.int .i64 X.lo)).setCell ⟨gkx, 1, none⟩ (.int .i64 X.hi)) gky _ _ := (BK.far (BK.far ky (p := ⟨gkx, 0, none⟩) (by first | assumption | exact Ne.symm (by assumption)) _) (p := ⟨gkx, 1, none⟩) (by first | assumption | exact Ne.symm (by assumption)) _); clear ky; have ky := ky_; clear ky_
      have kx_ := ((kx.set 0 (.int .i64 X.lo)).set 1 (.int .i64 X.hi))
      simp at kx_
      clear kx; have kx := kx_; clear kx_
      clear y0 f0 y1 f1
      refine hK _ _ (fun _ => eya136) ?_
      clear hK K
      generalize ((vya134.setCell ⟨gkx, 0, none⟩ (.int .i64 X.lo)).setCell ⟨gkx, 1, none⟩ (.int .i64 X.hi)) = vya137 at *
      refine any_run1 (i := 9) (by kernel_rfl) (by rfl) (by kernel_rfl) ?_
      intro K hK
      have lky := ky.lt
      have y0 := ky.cell 0
      have f0 := ky.frozen 0
      have y1 := ky.cell 1
      have f1 := ky.frozen 1
      simp at y0 y1
      go_wp2_with fail
      have eya138 : Below Wbx.heap.size Wbx ((vya137.setCell ⟨gky, 0, none⟩ (.int .i64 Y.lo)).setCell ⟨gky, 1, none⟩ (.int .i64 Y.hi)) := by exact bel_of
      have kx_ : BK ((vya137.setCell ⟨gky, 0, none⟩ (.int .i64 Y.lo)).setCell ⟨gky, 1, none⟩ (.int .i64 Y.hi)) gkx _ _ := (BK.far (BK.far kx (p := ⟨gky, 0, none⟩) (by first | assumption | exact Ne.symm (by assumption)) _) (p := ⟨gky, 1, none⟩) (by first | assumption | exact Ne.symm (by assumption)) _); clear kx; have kx := kx_; clear kx_
      have ky_ := ((ky.set 0 (.int .i64 Y.lo)).set 1 (.int .i64 Y.hi))
      simp at ky_
      clear ky; have ky := ky_; clear ky_
      clear y0 f0 y1 f1
      refine hK _ _ (fun _ => eya138) ?_
      clear hK K
      generalize ((vya137.setCell ⟨gky, 0, none⟩ (.int .i64 Y.lo)).setCell ⟨gky, 1, none⟩ (.int .i64 Y.hi)) = vya139 at *
      refine any_done (by kernel_rfl) (NoPanic.normal ?_)
      exact ⟨rfl, by simp [setAll], rfl, _, _, rfl, rfl, by first | assumption | exact Ne.symm (by assumption), kx, ky, eya138⟩
    ·skip
     intro K hK
     have qya141 := eya114.size
     have eya140 : Below Wbx.heap.size Wbx (vya116.alloc (.cells #[.int .i64 0, .int .i64 0] 42)) := Below.alloc eya114 eya114.size _
     have hnx : Below vya116.heap.size vya116 (vya116.alloc (.cells #[.int .i64 0, .int .i64 0] 42)) := Below.alloc (Below.refl _ _) (Nat.le_refl _) _
     go_wp2_with fail
     have nekykx : gky ≠ vya116.heap.size := Nat.ne_of_lt ky.lt
     replace ky := ky.below hnx ky.lt
     replace hT := (RS.below hT hnx).more hnx.size
     have kx : BK (vya116.alloc (.cells #[.int .i64 0, .int .i64 0] 42)) vya116.heap.size #[.int .i64 0, .int .i64 0] 42 := BK.new _ _ _
     refine hK _ _ (fun _ => eya140) ?_
     clear hK K hnx
     generalize (vya116.alloc (.cells #[.int .i64 0, .int .i64 0] 42)) = vya142 at *
     obtain ⟨gkx, hgkx⟩ : ∃ g, vya116.heap.size = g := ⟨_, rfl⟩
     have hqkx : Wbx.heap.size ≤ gkx := by omega
     rw [hgkx] at kx nekykx
     try rw [hgkx]
     clear hgkx
     refine any_run1 (i := 2) (by kernel_rfl) (by rfl) (by kernel_rfl) ?_
     intro K hK
     have qya145 := eya140.size
     go_wp2_with fail
     refine (tube_any l _ m ((i : Int) - 1) _ HO.out h20 hi2 hT).mono ?_
     rintro e vya144 ⟨rfl, hb⟩
     rw [HXE.out]
     unfold rV
     have eya143 : Below Wbx.heap.size Wbx vya144 := eya140.trans (hb.mono eya140.size)
     replace ky := ky.below hb ky.lt
     replace kx := kx.below hb kx.lt
     replace hT := (RS.below hT hb).more hb.size
     clear hb
     refine hK _ _ (fun _ => eya143) ?_
     clear hK K
     refine any_run1 (i := 5) (by kernel_rfl) (by rfl) (by kernel_rfl) ?_
     intro K hK
     have qya148 := eya143.size
     go_wp2_with fail
     refine (tube_any l _ m ((k : Int) - 1) _ HO.out h20 hlk' hT).mono ?_
     rintro e vya147 ⟨rfl, hb⟩
     rw [HYE.out]
     unfold rV
     have eya146 : Below Wbx.heap.size Wbx vya147 := eya143.trans (hb.mono eya143.size)
     replace ky := ky.below hb ky.lt
     replace kx := kx.below hb kx.lt
     replace hT := (RS.below hT hb).more hb.size
     clear hb
     refine hK _ _ (fun _ => eya146) ?_
     clear hK K
     refine any_run1 (i := 8) (by kernel_rfl) (by rfl) (by kernel_rfl) ?_
     intro K hK
     have lkx := kx.lt
     have y0 := kx.cell 0
     have f0 := kx.frozen 0
     have y1 := kx.cell 1
     have f1 := kx.frozen 1
     simp at y0 y1
     go_wp2_with fail
     have eya149 : Below Wbx.heap.size Wbx ((vya147.setCell ⟨gkx, 0, none⟩ (.int .i64 X.lo)).setCell ⟨gkx, 1, none⟩ (.int .i64 X.hi)) := by exact bel_of
     have ky_ : BK ((vya147.setCell ⟨gkx, 0, none⟩ (.int .i64 X.lo)).setCell ⟨gkx, 1, none⟩ (.int .i64 X.hi)) gky _ _ := (BK.far (BK.far ky (p := ⟨gkx, 0, none⟩) (by first | assumption | exact Ne.symm (by assumption)) _) (p := ⟨gkx, 1, none⟩) (by first | assumption | exact Ne.symm (by assumption)) _); clear ky; have ky := ky_; clear ky_
     have kx_ := ((kx.set 0 (.int .i64 X.lo)).set 1 (.int .i64 X.hi))
     simp at kx_
     clear kx; have kx := kx_; clear kx_
     clear y0 f0 y1 f1
     refine hK _ _ (fun _ => eya149) ?_
     clear hK K
     generalize ((vya147.setCell ⟨gkx, 0, none⟩ (.int .i64 X.lo)).setCell ⟨gkx, 1, none⟩ (.int .i64 X.hi)) = vya150 at *
     refine any_run1 (i := 9) (by kernel_rfl) (by rfl) (by kernel_rfl) ?_
     intro K hK
     have lky := ky.lt
     have y0 := ky.cell 0
     have f0 := ky.frozen 0
     have y1 := ky.cell 1
     have f1 := ky.frozen 1
     simp at y0 y1
     go_wp2_with fail
     have eya151 : Below Wbx.heap.size Wbx ((vya150.setCell ⟨gky, 0, none⟩ (.int .i64 Y.lo)).setCell ⟨gky, 1, none⟩ (.int .i64 Y.hi)) := by exact bel_of
     have kx_ : BK ((vya150.setCell ⟨gky, 0, none⟩ (.int .i64 Y.lo)).setCell ⟨gky, 1, none⟩ (.int .i64 Y.hi)) gkx _ _ := (BK.far (BK.far kx (p := ⟨gky, 0, none⟩) (by first | assumption | exact Ne.symm (by assumption)) _) (p := ⟨gky, 1, none⟩) (by first | assumption | exact Ne.symm (by assumption)) _); clear kx; have kx := kx_; clear kx_
     have ky_ := ((ky.set 0 (.int .i64 Y.lo)).set 1 (.int .i64 Y.hi))
     simp at ky_
     clear ky; have ky := ky_; clear ky_
     clear y0 f0 y1 f1
     refine hK _ _ (fun _ => eya151) ?_
     clear hK K
     generalize ((vya150.setCell ⟨gky, 0, none⟩ (.int .i64 Y.lo)).setCell ⟨gky, 1, none⟩ (.int .i64 Y.hi)) = vya152 at *
     refine any_done (by kernel_rfl) (NoPanic.normal ?_)
     exact ⟨rfl, by simp [setAll], rfl, _, _, rfl, rfl, by first | assumption | exact Ne.symm (by assumption), kx, ky, eya151⟩
  clear lbx bxc0 bxc1
  rintro u V ⟨gx, gy, hu7, hu8, hxy, kx, ky, hbz⟩
  simp only [setAll, List.foldl, List.setIfInBounds_toArray, List.set_cons_succ, List.set_cons_zero, hu7, hu8]
  clear hu7 hu8
  replace hC : Below n0 w V := hC.trans (hbz.mono (by have := hC.size; omega))
  replace hT := (RS.below hT hbz).more hbz.size
  replace bx := bx.below hbz bx.lt
  clear hbz
  have lbx := bx.lt
  have bxc0 := bx.cell 0
  have bxc1 := bx.cell 1
  simp at bxc0 bxc1
  have lkx := kx.lt
  have kxc0 := kx.cell 0
  have kxc1 := kx.cell 1
  simp at kxc0 kxc1
  have lky := ky.lt
  have kyc0 := ky.cell 0
  have kyc1 := ky.cell 1
  simp at kyc0 kyc1
  have HC := Lib.hid hC
  clear hC
  go_wp2_with fail
  refine bodyPost_ret (v := .bool (decide (m * ((k : Int) - (i : Int)) < M))) (by simp [results, Try.results39, go_sem]) rfl ?_
  rw [HCB.out, hn0]
  exact ⟨rfl, HC.out⟩
end Go.Proofs.Ytgbegdjakadbbaa

set_option linter.all false
namespace Go.Proofs.Ytgbegdjakadbbaa
open Go.RowKit Vp

set_option maxHeartbeats 16000000 in
set_option maxRecDepth 100000 in
theorem warpEither_any (l : List St) (vs : Value) (m : Int) (us : List Nat) (vu : Value) (a1 a2 : Nat) (w : World) (hT : RT w w.heap.size vs l) (hlM : l.length ≤ maxLen) (hmI : okI m) (hU : RU .u8 w w.heap.size vu us) (hu : ∀ x ∈ us, x ≤ 255) (huM : us.length ≤ maxLen) (ha : a1 ≤ 255 ∧ a2 ≤ 255) :
    Calls Try.prog 8 #[bV vs m, vu, .agg #[.int .u8 a1, .int .u8 a2]] w fun x w' => x = .returned (.bool true) ∧ Below w.heap.size w w' := by
  unfold bV
  obtain ⟨b, off, cap, A, rfl, -, hcap⟩ := hT.slice
  obtain ⟨Au, cu, rfl⟩ := ru_slice hU
  obtain ⟨n0, hn0⟩ : ∃ n, w.heap.size = n := ⟨_, rfl⟩
  have hC : Below n0 w w := Below.refl _ _
  go_enter Try.func8, Try.ntmps8
  go_upto_region 1 with fail
  have hqbx : n0 ≤ n0 := by have := hC.size; omega
  have bx : BK (w.alloc (.cells #[.slice A l.length cap, .int .i64 m] 24)) (n0) #[.slice A l.length cap, .int .i64 m] 24 := BK.new' _ _ _ (n0) hn0
  have hsbx : (w.alloc (.cells #[.slice A l.length cap, .int .i64 m] 24)).heap.size = n0 + 1 := by simp [hn0]
  replace hC : Below n0 w (w.alloc (.cells #[.slice A l.length cap, .int .i64 m] 24)) := Below.alloc hC (by have := hC.size; omega) _
  replace hT := (RS.below hT (w' := (w.alloc (.cells #[.slice A l.length cap, .int .i64 m] 24))) (Below.alloc (Below.refl _ _) (Nat.le_refl _) _)).more (B' := (w.alloc (.cells #[.slice A l.length cap, .int .i64 m] 24)).heap.size) (by simp)
  replace hU := (RU.below hU (w' := (w.alloc (.cells #[.slice A l.length cap, .int .i64 m] 24))) (Below.alloc (Below.refl _ _) (Nat.le_refl _) _)).more (B' := (w.alloc (.cells #[.slice A l.length cap, .int .i64 m] 24)).heap.size) (by simp)
  generalize (w.alloc (.cells #[.slice A l.length cap, .int .i64 m] 24)) = Wbx at *
  have hqpr : n0 ≤ n0 + 1 := by have := hC.size; omega
  have pr : BK (Wbx.alloc (.cells #[.int .u8 a1, .int .u8 a2] 52)) (n0 + 1) #[.int .u8 a1, .int .u8 a2] 52 := BK.new' _ _ _ (n0 + 1) hsbx
  have hspr : (Wbx.alloc (.cells #[.int .u8 a1, .int .u8 a2] 52)).heap.size = n0 + 1 + 1 := by simp [hsbx]
  replace hC : Below n0 w (Wbx.alloc (.cells #[.int .u8 a1, .int .u8 a2] 52)) := Below.alloc hC (by have := hC.size; omega) _
  replace hT := (RS.below hT (w' := (Wbx.alloc (.cells #[.int .u8 a1, .int .u8 a2] 52))) (Below.alloc (Below.refl _ _) (Nat.le_refl _) _)).more (B' := (Wbx.alloc (.cells #[.int .u8 a1, .int .u8 a2] 52)).heap.size) (by simp)
  replace hU := (RU.below hU (w' := (Wbx.alloc (.cells #[.int .u8 a1, .int .u8 a2] 52))) (Below.alloc (Below.refl _ _) (Nat.le_refl _) _)).more (B' := (Wbx.alloc (.cells #[.int .u8 a1, .int .u8 a2] 52)).heap.size) (by simp)
  replace bx := bx.alloc (.cells #[.int .u8 a1, .int .u8 a2] 52)
  generalize (Wbx.alloc (.cells #[.int .u8 a1, .int .u8 a2] 52)) = Wpr at *
  clear hsbx
  clear hspr
  have HUB := Lib.hid hu
  have HA8 := Lib.hid ha
  clear hu ha
  have lbx := bx.lt
  have bxc0 := bx.cell 0
  have bxc1 := bx.cell 1
  simp at bxc0 bxc1
  go_wp2_with fail
  clear lbx bxc0 bxc1
  refine (fine_any l _ m _ hlM hT).mono ?_
  rintro e w1 ⟨rfl, hb⟩
  replace hC : Below n0 w w1 := hC.trans (hb.mono (by have := hC.size; omega))
  replace hT := (RS.below hT hb).more hb.size
  replace hU := (RU.below hU hb).more hb.size
  replace bx := bx.below hb bx.lt
  replace pr := pr.below hb pr.lt
  clear hb
  obtain ⟨q, hq⟩ : ∃ q, fineB l m = q := ⟨_, rfl⟩
  rw [hq]
  cases q
  case false =>
    clear hq
    go_wp2_with fail
    refine (works_any _).mono ?_
    rintro e w2 ⟨rfl, hb⟩
    replace hC : Below n0 w w2 := hC.trans (hb.mono (by have := hC.size; omega))
    replace hT := (RS.below hT hb).more hb.size
    replace hU := (RU.below hU hb).more hb.size
    replace bx := bx.below hb bx.lt
    replace pr := pr.below hb pr.lt
    clear hb
    go_wp2_with fail
    exact bodyPost_ret (v := .bool true) (by simp [results, Try.results8, go_sem]) rfl ⟨rfl, by first | exact hC | (rw [hn0]; exact hC) | (with_reducible rw [hn0]; exact bel_of) | exact bel_of⟩
  have HBE := Lib.hid (fineB_bla hq)
  have HOK := Lib.hid (fineB_ok hq)
  have hm0 := HOK.out.lo
  have hm1 := HOK.out.hi
  have h20 := HOK.out.few
  have hlk : l.length ≤ 1000 := by omega
  clear hq
  simp only [Bool.not_true]
  by_cases zhul : 40 < us.length
  case pos =>
    have zz : ((us.length : Nat) : Int) > 40 := by omega
    have zd : decide (40 < us.length) = true := decide_eq_true zhul
    clear zhul
    have lbx := bx.lt
    have bxc0 := bx.cell 0
    have bxc1 := bx.cell 1
    simp at bxc0 bxc1
    go_wp2_with fail
    clear lbx bxc0 bxc1
    refine (works_any _).mono ?_
    rintro e w2 ⟨rfl, hb⟩
    replace hC : Below n0 w w2 := hC.trans (hb.mono (by have := hC.size; omega))
    replace hT := (RS.below hT hb).more hb.size
    replace hU := (RU.below hU hb).more hb.size
    replace bx := bx.below hb bx.lt
    replace pr := pr.below hb pr.lt
    clear hb
    go_wp2_with fail
    exact bodyPost_ret (v := .bool true) (by simp [results, Try.results8, go_sem]) rfl ⟨rfl, by first | exact hC | (rw [hn0]; exact hC) | (with_reducible rw [hn0]; exact bel_of) | exact bel_of⟩
  have hul : us.length ≤ 40 := by omega
  have zzhul : ¬ ((us.length : Nat) : Int) > 40 := by omega
  have zdhul : decide (40 < us.length) = false := decide_eq_false zhul
  clear zhul
  have lbx := bx.lt
  have bxc0 := bx.cell 0
  have bxc1 := bx.cell 1
  simp at bxc0 bxc1
  go_wp2_with fail
  clear lbx bxc0 bxc1
  refine (Best_any l _ m _ hlk hT).mono ?_
  rintro e w2 ⟨u_xb, rfl, hown, hb⟩
  replace hC : Below n0 w w2 := hC.trans (hb.mono (by have := hC.size; omega))
  replace hT := (RS.below hT hb).more hb.size
  replace hU := (RU.below hU hb).more hb.size
  replace bx := bx.below hb bx.lt
  replace pr := pr.below hb pr.lt
  clear hb
  have hxb := OwnI.ri hown
  clear hown
  have lbx := bx.lt
  have bxc0 := bx.cell 0
  have bxc1 := bx.cell 1
  simp at bxc0 bxc1
  go_wp2_with fail
  clear lbx bxc0 bxc1
  clear zzhul zdhul
  refine (Clash_any l _ m _ hlk hT).mono ?_
  rintro e w3 ⟨ka, kb, ke, rfl, hq1, hb⟩
  replace hC : Below n0 w w3 := hC.trans (hb.mono (by have := hC.size; omega))
  replace hT := (RS.below hT hb).more hb.size
  replace hU := (RU.below hU hb).more hb.size
  replace bx := bx.below hb bx.lt
  replace pr := pr.below hb pr.lt
  replace hxb := (RS.below hxb hb).more hb.size
  clear hb
  have HQ1 := Lib.hid hq1
  clear hq1
  by_cases hft : tgo m l 0 < never
  case neg =>
    have hno := bst_no HBE.out hft
    rw [hno.1]
    have HNF := Lib.hid hft
    obtain ⟨hke, i, k, hka, hkb, hik, hkl, hcb⟩ := cl_some HOK.out hft HQ1.out
    have HCB := Lib.hid hcb
    subst hke hka hkb
    clear hno hft HQ1 hxb hcb
    have lbx := bx.lt
    have bxc0 := bx.cell 0
    have bxc1 := bx.cell 1
    simp at bxc0 bxc1
    go_wp2_with fail
    refine wp_region_noPanic (plain_any [0, 1, 2, 5, 6, 7, 8, 9] (Below w3.heap.size w3) mixed ?_)
    refine any_tk 0 ?_
    have d0z : Below w3.heap.size w3 w3.drew := by exact bel_of
    refine any_tk 1 ?_
    refine any_tk 2 ?_
    have qz1 := d0z.size
    refine any_run1 (i := 3) (by kernel_rfl) (by rfl) (by kernel_rfl) ?_
    intro K hK
    go_wp2_with fail
    refine (blowsL_any l _ m us _ _ HOK.out.all ⟨hm0, hm1⟩ h20 hul HUB.out ((RS.below hT d0z).more d0z.size) ((RS.below hU d0z).more d0z.size)).mono ?_
    rintro e vz1 ⟨u_w, rfl, hown, hb⟩
    have hw := OwnI.ri hown
    clear hown
    obtain ⟨W0, hW0⟩ : ∃ W, blwL m l us l.length = W := ⟨_, rfl⟩
    have HWL := Lib.hid (show W0.length ≤ 1000 by rw [← hW0, blwL_length]; omega)
    rw [hW0] at hw
    clear hW0
    obtain ⟨Aw, cw, rfl⟩ := ri_slice hw
    have ez1 : Below w3.heap.size w3 vz1 := d0z.trans (hb.mono d0z.size)
    clear hb
    refine hK _ _ (fun _ => ez1) ?_
    clear hK K
    have qz2 := ez1.size
    refine any_run1 (i := 4) (by kernel_rfl) (by rfl) (by kernel_rfl) ?_
    intro K hK
    go_wp2_with fail
    refine (checkBlows_any l _ m W0 _ _ hlk HWL.out ((RS.below hT ez1).more ez1.size) hw hmI).mono ?_
    rintro e vz2 ⟨rfl, hb⟩
    obtain ⟨e2, he2⟩ : ∃ e, chkE l m W0 = e := ⟨_, rfl⟩
    obtain ⟨v2, hv2⟩ : ∃ e, chkV l m W0 = e := ⟨_, rfl⟩
    rw [he2, hv2]
    have HE2 := Lib.hid he2
    clear he2 hv2 hw
    have ez2 : Below w3.heap.size w3 vz2 := ez1.trans (hb.mono ez1.size)
    clear hb
    refine hK _ _ (fun _ => ez2) ?_
    clear hK K
    refine any_tk 5 ?_
    refine any_tk 6 ?_
    refine any_tk 7 ?_
    refine any_tk 8 ?_
    refine any_tk 9 ?_
    refine any_done (by kernel_rfl) (NoPanic.normal ?_)
    have hb := ez2
    replace hC : Below n0 w vz2 := hC.trans (hb.mono (by have := hC.size; omega))
    replace hT := (RS.below hT hb).more hb.size
    replace hU := (RU.below hU hb).more hb.size
    replace bx := bx.below hb bx.lt
    replace pr := pr.below hb pr.lt
    clear hb
    clear lbx bxc0 bxc1
    have q1 : (i : Int) - 1 ≥ -1 := by omega
    have q2 : (i : Int) - 1 < (k : Int) - 1 := by omega
    have q3 : (k : Int) - 1 < (l.length : Int) := by omega
    have lbx := bx.lt
    have bxc0 := bx.cell 0
    have bxc1 := bx.cell 1
    simp at bxc0 bxc1
    go_wp2_with fail
    clear lbx bxc0 bxc1
    refine (clash_any l _ m i k _ HOK.out hik hkl hT).mono ?_
    rintro e w4 ⟨rfl, hb⟩
    replace hC : Below n0 w w4 := hC.trans (hb.mono (by have := hC.size; omega))
    replace hT := (RS.below hT hb).more hb.size
    replace hU := (RU.below hU hb).more hb.size
    replace bx := bx.below hb bx.lt
    replace pr := pr.below hb pr.lt
    clear hb
    rw [HCB.out]
    have q4 : (e2 != 0) = true := bne_iff_ne.2 (fun h => absurd (chk_ge HOK.out (HE2.out.trans h)).1 (by have := HNF.out; omega))
    clear q1 q2 q3
    go_wp2_with fail
    refine (works_any _).mono ?_
    rintro e w5 ⟨rfl, hb⟩
    replace hC : Below n0 w w5 := hC.trans (hb.mono (by have := hC.size; omega))
    replace hT := (RS.below hT hb).more hb.size
    replace hU := (RU.below hU hb).more hb.size
    replace bx := bx.below hb bx.lt
    replace pr := pr.below hb pr.lt
    clear hb
    go_wp2_with fail
    exact bodyPost_ret (v := .bool true) (by simp [results, Try.results8, go_sem]) rfl ⟨rfl, by first | exact hC | (rw [hn0]; exact hC) | (with_reducible rw [hn0]; exact bel_of) | exact bel_of⟩
  have hbs := bst_chk HBE.out hft
  rw [bst_yes HBE.out hft]
  have hke := cl_none HOK.out hft HQ1.out
  have hcl := (all_cl HOK.out).1 hft
  have HCL := Lib.hid hcl
  have HBS := Lib.hid hbs.2.2.1
  have HBL := Lib.hid (show (bstX l m).length ≤ 1000 by have := Fe.length hbs.2.1; omega)
  subst hke
  clear hbs hcl hft HQ1
  have lbx := bx.lt
  have bxc0 := bx.cell 0
  have bxc1 := bx.cell 1
  simp at bxc0 bxc1
  go_wp2_with fail
  clear lbx bxc0 bxc1
  refine (checkBlowsR_any l _ m (bstX l m) _ _ hlk HBL.out hT hxb hmI).mono ?_
  rintro e w4 ⟨rfl, hb⟩
  replace hC : Below n0 w w4 := hC.trans (hb.mono (by have := hC.size; omega))
  replace hT := (RS.below hT hb).more hb.size
  replace hU := (RU.below hU hb).more hb.size
  replace bx := bx.below hb bx.lt
  replace pr := pr.below hb pr.lt
  replace hxb := (RS.below hxb hb).more hb.size
  clear hb
  rw [HBS.out]
  obtain ⟨v2, hv2⟩ : ∃ e, chkV l m (bstX l m) = e := ⟨_, rfl⟩
  rw [hv2]
  clear hv2
  have hn1 := HOK.out.one
  have ha1 := HA8.out.1
  have ha2 := HA8.out.2
  obtain ⟨i, hi⟩ : ∃ i : Nat, a1 % (l.length + 1) = i := ⟨_, rfl⟩
  obtain ⟨j, hj⟩ : ∃ i : Nat, a2 % l.length = i := ⟨_, rfl⟩
  have hi2 : i < l.length + 1 := by rw [← hi]; exact Nat.mod_lt _ (by omega)
  have hj2 : j < l.length := by rw [← hj]; exact Nat.mod_lt _ (by omega)
  have wc1 : IntKind.i64.wrap (a1 : Int) = a1 := by rw [IntKind.wrap_i64]; omega
  have wc2 : IntKind.i64.wrap (a2 : Int) = a2 := by rw [IntKind.wrap_i64]; omega
  have wn : IntKind.i64.wrap ((l.length : Int) + 1) = (l.length : Int) + 1 := by rw [IntKind.wrap_i64]; omega
  have nz1 : ((l.length : Int) + 1) ≠ 0 := by omega
  have nz2 : l ≠ [] := by intro q; rw [q] at hn1; simp at hn1
  have t1 : (a1 : Int).tmod ((l.length : Int) + 1) = (i : Int) := by rw [Int.tmod_eq_emod_of_nonneg (by omega), show ((l.length : Int) + 1) = ((l.length + 1 : Nat) : Int) by omega, ← Int.natCast_emod, hi]
  have t2 : (a2 : Int).tmod (l.length : Int) = (j : Int) := by rw [Int.tmod_eq_emod_of_nonneg (by omega), ← Int.natCast_emod, hj]
  have wi : IntKind.i64.wrap (i : Int) = i := by rw [IntKind.wrap_i64]; omega
  have wj : IntKind.i64.wrap (j : Int) = j := by rw [IntKind.wrap_i64]; omega
  have wi1 : IntKind.i64.wrap ((i : Int) - 1) = (i : Int) - 1 := by rw [IntKind.wrap_i64]; omega
  clear hi hj hn1 ha1 ha2
  have lbx := bx.lt
  have bxc0 := bx.cell 0
  have bxc1 := bx.cell 1
  simp at bxc0 bxc1
  have lpr := pr.lt
  have prc0 := pr.cell 0
  have prc1 := pr.cell 1
  simp at prc0 prc1
  go_wp2_with fail
  refine wp_region_noPanic (plain_any [0, 1, 2, 3, 4, 5, 6, 7, 8, 9, 10, 11, 12, 13] (Below w4.heap.size w4) mixed ?_)
  refine any_tk 0 ?_
  have d0z : Below w4.heap.size w4 w4.drew := by exact bel_of
  refine any_tk 1 ?_
  refine any_tk 2 ?_
  refine any_tk 3 ?_
  refine any_tk 4 ?_
  refine any_tk 5 ?_
  refine any_tk 6 ?_
  refine any_tk 7 ?_
  refine any_tk 8 ?_
  refine any_tk 9 ?_
  refine any_tk 10 ?_
  refine any_tk 11 ?_
  refine any_tk 12 ?_
  refine any_tk 13 ?_
  refine any_done (by kernel_rfl) (NoPanic.normal ?_)
  have hb := d0z
  replace hC : Below n0 w w4.drew := hC.trans (hb.mono (by have := hC.size; omega))
  replace hT := (RS.below hT hb).more hb.size
  replace hU := (RU.below hU hb).more hb.size
  replace bx := bx.below hb bx.lt
  replace pr := pr.below hb pr.lt
  replace hxb := (RS.below hxb hb).more hb.size
  clear hb
  clear lbx bxc0 bxc1
  clear lpr prc0 prc1
  clear wc1 wc2 wn nz1 nz2 t1 t2 wi wj wi1
  by_cases hij : i < j + 1
  case neg =>
    have q1 : (i : Int) - 1 ≥ (j : Int) := by omega
    have lbx := bx.lt
    have bxc0 := bx.cell 0
    have bxc1 := bx.cell 1
    simp at bxc0 bxc1
    go_wp2_with fail
    refine (works_any _).mono ?_
    rintro e w5 ⟨rfl, hb⟩
    replace hC : Below n0 w w5 := hC.trans (hb.mono (by have := hC.size; omega))
    replace hT := (RS.below hT hb).more hb.size
    replace hU := (RU.below hU hb).more hb.size
    replace bx := bx.below hb bx.lt
    replace pr := pr.below hb pr.lt
    replace hxb := (RS.below hxb hb).more hb.size
    clear hb
    go_wp2_with fail
    exact bodyPost_ret (v := .bool true) (by simp [results, Try.results8, go_sem]) rfl ⟨rfl, by first | exact hC | (rw [hn0]; exact hC) | (with_reducible rw [hn0]; exact bel_of) | exact bel_of⟩
  have q1 : ¬ ((i : Int) - 1 ≥ (j : Int)) := by omega
  have lbx := bx.lt
  have bxc0 := bx.cell 0
  have bxc1 := bx.cell 1
  simp at bxc0 bxc1
  go_wp2_with fail
  clear lbx bxc0 bxc1
  have hcw := clash_any l _ m i (j + 1) w4.drew HOK.out hij (by omega) hT
  rw [HCL.out i (j + 1) hij (by omega), show (((j + 1 : Nat) : Int) - 1) = (j : Int) by omega] at hcw
  refine (hcw).mono ?_
  rintro e w5 ⟨rfl, hb⟩
  replace hC : Below n0 w w5 := hC.trans (hb.mono (by have := hC.size; omega))
  replace hT := (RS.below hT hb).more hb.size
  replace hU := (RU.below hU hb).more hb.size
  replace bx := bx.below hb bx.lt
  replace pr := pr.below hb pr.lt
  replace hxb := (RS.below hxb hb).more hb.size
  clear hb
  clear q1
  go_wp2_with fail
  refine (works_any _).mono ?_
  rintro e w6 ⟨rfl, hb⟩
  replace hC : Below n0 w w6 := hC.trans (hb.mono (by have := hC.size; omega))
  replace hT := (RS.below hT hb).more hb.size
  replace hU := (RU.below hU hb).more hb.size
  replace bx := bx.below hb bx.lt
  replace pr := pr.below hb pr.lt
  replace hxb := (RS.below hxb hb).more hb.size
  clear hb
  go_wp2_with fail
  exact bodyPost_ret (v := .bool true) (by simp [results, Try.results8, go_sem]) rfl ⟨rfl, by first | exact hC | (rw [hn0]; exact hC) | (with_reducible rw [hn0]; exact bel_of) | exact bel_of⟩
end Go.Proofs.Ytgbegdjakadbbaa

namespace Go.Proofs.Ytgbegdjakadbbaa.warpEither
open Go.ChangeShapes Go.WideShapes Go.ChangeAt Go.RowKit Go.Deep

set_option maxRecDepth 100000 in
theorem lifted (os : Os) (started : os.Started) (H : Type) (enc : TypeId × Value → H) :
    ReturnsInHanded {} Try.checked os 8 .any (Rows.warpEitherSpec.pre6 enc Try.prog Try.f8 Rows.warpEitherRow.domain false) (Rows.warpEitherSpec.post enc Try.prog Try.f8 false true false false) := by
  refine returnsInHanded_of_change (C := Try.checked) own started (by kernel_rfl) Try.func8
    (ChangeSpec.witness6 (enc := enc) (C := Try.checked) false ⟨#[], #[.agg #[.slice none 0 0, .int .i64 0], .slice none 0 0, .agg #[.int .u8 0, .int .u8 0]], []⟩ 8 (by kernel_rfl) (by kernel_rfl) (by kernel_rfl) (by kernel_rfl)) ?_
  intro W base args ds gs before hval0 hW hcnd _
  have hval : ∀ (j : Nat) t v, Try.f8.params[j]? = some t → args[j]? = some v → Value.okWide Try.prog W .any base t v := hval0
  have hW2 : DataW.Whole enc Try.prog Try.f8.params.toList Rows.warpEitherSpec.vars false W args.toList ds gs before := hW
  obtain ⟨p, q, hA0, hV, rfl, hfz, hnd⟩ := hW
  have hA : DataW.TrodAll enc Try.prog W 0 (fun _ => true) true Try.f8.params.toList args.toList ds p := hA0
  rw [Try.params8] at hA hval
  obtain ⟨v0, vs0, d0, ds0, p0, q0, hargs, rfl, rfl, h0, r0⟩ := trodAll_cons hA
  obtain ⟨v1, vs1, d1, ds1, p1, q1, rfl, rfl, rfl, h1, r1⟩ := trodAll_cons r0
  obtain ⟨v2, vs2, d2, ds2, p2, q2, rfl, rfl, rfl, h2, r2⟩ := trodAll_cons r1
  obtain ⟨rfl, rfl, rfl⟩ := trodAll_nil r2
  obtain rfl : args = #[v0, v1, v2] := by cases args; simp_all
  obtain ⟨rfl, rfl⟩ := trodVars_none hV
  obtain ⟨vs0_, l0, m0, rfl, g0, k0, j0⟩ := open_blade (hval 0 24 v0 rfl rfl) h0
  obtain ⟨l1, g1, k1, j1⟩ := open_u8s (hval 1 48 v1 rfl rfl) h1
  obtain ⟨x2, y2, rfl, g2⟩ := open_a8 (hval 2 52 v2 rfl rfl) h2
  refine (warpEither_any (l := l0) (m := m0) (vs := vs0_) (hT := g0) (hlM := k0) (hmI := j0) (us := l1) (vu := v1) (hU := g1) (hu := k1) (huM := j1) (a1 := x2) (a2 := y2) (ha := g2) (w := W)).mono fun e W' ⟨he, hg⟩ => ?_
  subst he
  exact ⟨_, rfl, law_done hW2 rfl rfl rfl (by rw [Try.params8]; decide +kernel) hg⟩

theorem over : Rows.warpEitherRow.holds Try.pinned (OpenSpec.ofChange Rows.warpEitherSpec) :=
  OpenClaim.holds_of_wide 8 Try.f8 rfl rfl rfl rfl rfl rfl rfl ⟨rfl, rfl, rfl, rfl, rfl⟩ rfl rfl rfl rfl rfl (by kernel_rfl) Try.func8 (by kernel_rfl)
    (of_decide_eq_true (by kernel_rfl)) (by unfold Func.isWrapper; first | (rw [if_pos (by decide +kernel)]; kernel_rfl) | (rw [if_neg (by decide +kernel)]; exact ⟨rfl, rfl⟩))
    (fun os started H enc _ => lifted os started H enc)

theorem proved : Rows.WarpEitherSaid :=
  over
end Go.Proofs.Ytgbegdjakadbbaa.warpEither
namespace Go.Proofs.Ytgbegdjakadbbaa
theorem warpEither_proved : Rows.WarpEitherSaid := warpEither.proved
#print axioms warpEither_proved
end Go.Proofs.Ytgbegdjakadbbaa
