/- Clash of the reference. WarpBlades: the walk. Which blades are valid, how they are turned after blows, what blows cost, and which stations contradict each other, are what the definitions say, or the error; for every blade and blows. -/
import Derived.Test.YtgbegdjakadbbaaP23
import Derived.Test.YtgbegdjakadbbaaP6
import Derived.Test.YtgbegdjakadbbaaP16
import Derived.Test.YtgbegdjakadbbaaP27
import Derived.Test.YtgbegdjakadbbaaRows
import Derived.Test.YtgbegdjakadbbaaP26
set_option linter.all false
set_option linter.unnecessarySimpa false
set_option linter.unusedSimpArgs false
set_option linter.unusedVariables false
set_option linter.unusedSectionVars false

set_option linter.all false
namespace Go.Proofs.Ytgbegdjakadbbaa
open Go.RowKit Vp

theorem tubR_at {l : List St} {i : Nat} (h : i < l.length + 1) : tubR l ((i : Int) - 1) = nthB (tubes l) i := by
  unfold tubR
  cases i with
  | zero => rw [if_pos (by omega), tubes_zero]
  | succ i => rw [if_neg (by omega), tubes_at (by omega), show (((i + 1 : Nat) : Int) - 1).toNat = i by omega]
theorem clB_max {l : List St} {m : Int} {i k : Nat} {X Y : Rg} (hX : nthB (tubes l) i = X) (hY : nthB (tubes l) k = Y) : clB l m i k = decide (m * ((k : Int) - i) < max (X.lo - Y.hi) (Y.lo - X.hi)) := by
  unfold clB
  rw [hX, hY, Bool.eq_iff_iff]
  simp
  omega
theorem ClQ.uniq {l : List St} {m a b e a' b' e' : Int} (h : ClQ l m a b e) (h' : ClQ l m a' b' e') : a = a' ∧ b = b' ∧ e = e' := by
  unfold ClQ at h h'
  split at h
  · rename_i h0
    rw [if_pos h0] at h'
    rcases h with ⟨i, k, h1, h2, h3, h4, rfl, rfl, rfl⟩ | ⟨h1, rfl, rfl, rfl⟩
    · rcases h' with ⟨i', k', g1, g2, g3, g4, rfl, rfl, rfl⟩ | ⟨g1, rfl, rfl, rfl⟩
      · have hi : i = i' := by
          rcases Nat.lt_trichotomy i i' with h | h | h
          · have := g4 i k h1 h2 (.inl h); rw [h3] at this; cases this
          · exact h
          · have := h4 i' k' g1 g2 (.inl h); rw [g3] at this; cases this
        subst hi
        have hk : k = k' := by
          rcases Nat.lt_trichotomy k k' with h | h | h
          · have := g4 i k h1 h2 (.inr ⟨rfl, h⟩); rw [h3] at this; cases this
          · exact h
          · have := h4 i k' g1 g2 (.inr ⟨rfl, h⟩); rw [g3] at this; cases this
        subst hk
        exact ⟨rfl, rfl, rfl⟩
      · have := g1 i k h1 h2; rw [h3] at this; cases this
    · rcases h' with ⟨i', k', g1, g2, g3, g4, rfl, rfl, rfl⟩ | ⟨g1, rfl, rfl, rfl⟩
      · have := h1 i' k' g1 g2; rw [g3] at this; cases this
      · exact ⟨rfl, rfl, rfl⟩
  · rename_i h0
    rw [if_neg h0] at h'
    exact ⟨h.1.trans h'.1.symm, h.2.1.trans h'.2.1.symm, h.2.2.trans h'.2.2.symm⟩
set_option maxHeartbeats 8000000 in
set_option maxRecDepth 100000 in
theorem clashR_any (l : List St) (v : Value) (m : Int) (w : World) (hl : l.length ≤ 1000) (hT : RT w w.heap.size v l) :
    Calls Try.prog 21 #[bV v m] w fun e w' => ∃ a b er, e = .returned (.tuple #[.int .i64 a, .int .i64 b, .int .i64 er]) ∧ ClQ l m a b er ∧ Below w.heap.size w w' := by
  unfold bV
  obtain ⟨b, off, cap, A, rfl, -, hcap⟩ := hT.slice
  obtain ⟨n0, hn0⟩ : ∃ n, w.heap.size = n := ⟨_, rfl⟩
  have hC : Below n0 w w := Below.refl _ _
  go_enter Try.func21, Try.ntmps21
  go_upto_region 1 with fail
  have hqbx : n0 ≤ n0 := by have := hC.size; omega
  have bx : BK (w.alloc (.cells #[.slice A l.length cap, .int .i64 m] 24)) (n0) #[.slice A l.length cap, .int .i64 m] 24 := BK.new' _ _ _ (n0) hn0
  have hsbx : (w.alloc (.cells #[.slice A l.length cap, .int .i64 m] 24)).heap.size = n0 + 1 := by simp [hn0]
  replace hC : Below n0 w (w.alloc (.cells #[.slice A l.length cap, .int .i64 m] 24)) := Below.alloc hC (by have := hC.size; omega) _
  replace hT := (RS.below hT (w' := (w.alloc (.cells #[.slice A l.length cap, .int .i64 m] 24))) (Below.alloc (Below.refl _ _) (Nat.le_refl _) _)).more (B' := (w.alloc (.cells #[.slice A l.length cap, .int .i64 m] 24)).heap.size) (by simp)
  generalize (w.alloc (.cells #[.slice A l.length cap, .int .i64 m] 24)) = Wbx at *
  have lbx := bx.lt
  have bxc0 := bx.cell 0
  have bxc1 := bx.cell 1
  simp at bxc0 bxc1
  go_wp2_with fail
  clear lbx bxc0 bxc1
  clear hsbx
  refine (checkR_any l _ m _ hl hT).mono ?_
  rintro e w1 ⟨rfl, hb⟩
  replace hC : Below n0 w w1 := hC.trans (hb.mono (by have := hC.size; omega))
  replace hT := (RS.below hT hb).more hb.size
  replace bx := bx.below hb bx.lt
  clear hb
  obtain ⟨e, he⟩ : ∃ e, blaE l m = e := ⟨_, rfl⟩
  rw [he]
  by_cases h0 : e = 0
  case neg =>
    have HE0 := Lib.hid he
    have HN := Lib.hid h0
    have b1 : (e != 0) = true := by simp [h0]
    clear he h0
    have lbx := bx.lt
    have bxc0 := bx.cell 0
    have bxc1 := bx.cell 1
    simp at bxc0 bxc1
    go_wp2_with fail
    clear lbx bxc0 bxc1
    refine (checkR_any l _ m _ hl hT).mono ?_
    rintro e w2 ⟨rfl, hb⟩
    replace hC : Below n0 w w2 := hC.trans (hb.mono (by have := hC.size; omega))
    replace hT := (RS.below hT hb).more hb.size
    replace bx := bx.below hb bx.lt
    clear hb
    rw [HE0.out]
    go_wp2_with fail
    exact bodyPost_ret (v := .tuple #[.int .i64 0, .int .i64 0, .int .i64 e]) (by simp [results, Try.results21, go_sem]) rfl ⟨_, _, _, rfl, ClQ.no HE0.out HN.out, by first | exact hC | (rw [hn0]; exact hC) | (with_reducible rw [hn0]; exact bel_of) | exact bel_of⟩
  subst h0
  have HB := Lib.hid he
  obtain ⟨-, h20, hall, hm0, hm1⟩ := blaE_ok.1 he
  have HO := Lib.hid hall
  clear he hall
  go_wp2_with fail
  obtain ⟨N, hNe⟩ : ∃ N, l.length + 1 = N := ⟨_, rfl⟩
  have hN21 : N ≤ 21 := by omega
  have HNE := Lib.hid hNe
  clear hNe
  go_loopw [5] (fun iv wr => Below w1.heap.size w1 wr ∧ ∃ i : Nat, i ≤ N ∧ iv = .int .i64 ((i : Int) - 1) ∧ (∀ i' k' : Nat, i' < k' → k' < N → i' < i → clB l m i' k' = false)) (fun iv _ => (N - (intOf iv + 1)).toNat)
  case atStart => exact ⟨Below.refl _ _, 0, Nat.zero_le _, by simp, fun i' k' _ _ h => absurd h (by omega)⟩
  case round =>
    obtain ⟨hbr, i, hi, rfl, hno⟩ := hrel
    have HBR := Lib.hid hbr
    have HNO := Lib.hid hno
    clear hno
    replace hC : Below n0 w wr := hC.trans (hbr.mono (by have := hC.size; omega))
    replace hT := (RS.below hT hbr).more hbr.size
    replace bx := bx.below hbr bx.lt
    clear hbr
    by_cases hlt : i < N
    case neg =>
      have hlt' : ¬ ((i : Int) - 1 < (l.length : Int)) := by have := HNE.out; omega
      have HQ := Lib.hid (show ClQ l m 0 0 5 from ClQ.ok HB.out (.inr ⟨fun i' k' h1 h2 => HNO.out i' k' h1 (by have := HNE.out; omega) (by have := HNE.out; omega), rfl, rfl, rfl⟩))
      have lbx := bx.lt
      have bxc0 := bx.cell 0
      have bxc1 := bx.cell 1
      simp at bxc0 bxc1
      go_wp2_with fail
      exact bodyPost_ret (v := .tuple #[.int .i64 0, .int .i64 0, .int .i64 5]) (by simp [results, Try.results21, go_sem]) rfl ⟨_, _, _, rfl, HQ.out, by first | exact hC | (rw [hn0]; exact hC) | (with_reducible rw [hn0]; exact bel_of) | exact bel_of⟩
    have hlt' : (i : Int) - 1 < (l.length : Int) := by have := HNE.out; omega
    have wi1 : IntKind.i64.wrap ((i : Int) - 1 + 1) = (i : Int) := by rw [IntKind.wrap_i64]; omega
    have lbx := bx.lt
    have bxc0 := bx.cell 0
    have bxc1 := bx.cell 1
    simp at bxc0 bxc1
    go_wp2_with fail
    clear lbx bxc0 bxc1
    rename World => wa
    go_loopw [6] (fun kv wr => Below wa.heap.size wa wr ∧ ∃ k : Nat, i < k ∧ k ≤ N ∧ kv = .int .i64 ((k : Int) - 1) ∧ (∀ k' : Nat, i < k' → k' < k → clB l m i k' = false)) (fun kv _ => (N - (intOf kv + 1)).toNat)
    case atStart => exact ⟨Below.refl _ _, i + 1, by omega, by omega, by congr 1; omega, fun k' h1 h2 => absurd h2 (by omega)⟩
    case round =>
      obtain ⟨hbr2, k, hik, hk, rfl, hnk⟩ := hrel
      have HNK := Lib.hid hnk
      have HBA := Lib.hid hbr2
      have HBK := Lib.hid (HBR.out.trans (hbr2.mono HBR.out.size))
      clear hnk
      replace hC : Below n0 w wr := hC.trans (hbr2.mono (by have := hC.size; omega))
      replace hT := (RS.below hT hbr2).more hbr2.size
      replace bx := bx.below hbr2 bx.lt
      clear hbr2
      by_cases hlk : k < N
      case neg =>
        have hlk' : ¬ ((k : Int) - 1 < (l.length : Int)) := by have := HNE.out; omega
        have wi2 : IntKind.i64.wrap ((i : Int) - 1 + 1) = (i : Int) - 1 + 1 := by rw [IntKind.wrap_i64]; omega
        have lbx := bx.lt
        have bxc0 := bx.cell 0
        have bxc1 := bx.cell 1
        simp at bxc0 bxc1
        go_wp2_with fail
        go_roundw
        case rel =>
          exact ⟨HBK.out, i + 1, by omega, by congr 1; omega, fun i' k' h1 h2 h3 => by
            rcases Nat.lt_succ_iff_lt_or_eq.1 h3 with h4 | rfl
            · exact HNO.out i' k' h1 h2 h4
            · exact HNK.out k' h1 (by omega)⟩
        case measure => simp [intOf]; omega
      have hlk' : (k : Int) - 1 < (l.length : Int) := by have := HNE.out; omega
      have hi2 : (i : Int) - 1 < (l.length : Int) := by have := HNE.out; omega
      have wd : IntKind.i64.wrap ((k : Int) - 1 - ((i : Int) - 1)) = (k : Int) - i := by rw [IntKind.wrap_i64]; omega
      have h1 : m * ((k : Int) - i) ≤ 200 * 21 := Int.mul_le_mul hm1 (by omega) (by omega) (by omega)
      have h2 : 0 ≤ m * ((k : Int) - i) := Int.mul_nonneg hm0 (by omega)
      have wm : IntKind.i64.wrap (m * ((k : Int) - (i : Int))) = m * ((k : Int) - (i : Int)) := by rw [IntKind.wrap_i64]; omega
      have wk1 : IntKind.i64.wrap ((k : Int) - 1 + 1) = (k : Int) := by rw [IntKind.wrap_i64]; omega
      have r1 := tubes_rng HO.out (show i ≤ l.length by have := HNE.out; omega)
      have r2 := tubes_rng HO.out (show k ≤ l.length by have := HNE.out; omega)
      obtain ⟨X, hX⟩ : ∃ X, nthB (tubes l) i = X := ⟨_, rfl⟩
      obtain ⟨Y, hY⟩ : ∃ X, nthB (tubes l) k = X := ⟨_, rfl⟩
      have HXE := Lib.hid ((tubR_at (show i < l.length + 1 by have := HNE.out; omega)).trans hX)
      have HYE := Lib.hid ((tubR_at (show k < l.length + 1 by have := HNE.out; omega)).trans hY)
      have hcb := clB_max (m := m) hX hY
      rw [hX] at r1
      rw [hY] at r2
      obtain ⟨M, hM⟩ : ∃ M, max (X.lo - Y.hi) (Y.lo - X.hi) = M := ⟨_, rfl⟩
      have hmx : (if X.lo - Y.hi < Y.lo - X.hi then Y.lo - X.hi else X.lo - Y.hi) = M := by rw [← hM]; omega
      have wx : IntKind.i64.wrap (X.lo - Y.hi) = X.lo - Y.hi := by rw [IntKind.wrap_i64]; omega
      have wy : IntKind.i64.wrap (Y.lo - X.hi) = Y.lo - X.hi := by rw [IntKind.wrap_i64]; omega
      rw [hM] at hcb
      have HCB := Lib.hid hcb
      clear hcb hX hY hM r1 r2 h1 h2
      have lbx := bx.lt
      have bxc0 := bx.cell 0
      have bxc1 := bx.cell 1
      simp at bxc0 bxc1
      go_wp2_with fail
      refine region_keep [30, 31, 32, 33, 34, 35, 7, 8] (fun u V => ∃ gx gy, u 7 = .pointer (some ⟨gx, 0, none⟩) ∧ u 8 = .pointer (some ⟨gy, 0, none⟩) ∧ gx ≠ gy ∧ BK V gx #[.int .i64 X.lo, .int .i64 X.hi] 42 ∧ BK V gy #[.int .i64 Y.lo, .int .i64 Y.hi] 42 ∧ Below wr.heap.size wr V) ?_ ?_
      ·skip
       have d0ya : Below wr.heap.size wr wr.drew := by exact bel_of
       refine wp_region_noPanic (plain_any [0, 1, 3, 4] (Below wr.heap.size wr) mixed ?_)
       refine any_tk 0 ?_
       refine any_tk 1 ?_
       refine any_tk 3 ?_
       refine any_tk 4 ?_
       have dya1 : Below wr.heap.size wr wr.drew := by exact bel_of
       have hdr : Below wr.heap.size wr wr.drew := Below.drew (Below.refl _ _)
       replace hT := (RS.below hT hdr).more hdr.size
       clear hdr
       generalize wr.drew = uya2 at *
       refine any_run3 (i := 2) (j := 6) (k := 7) (by kernel_rfl) (by rfl) (by rfl) (by rfl) (by rfl) (by rfl) (by rfl) ?_ ?_ ?_
       ·skip
        intro K hK
        have qya5 := dya1.size
        go_wp2_with fail
        refine (tube_any l _ m ((i : Int) - 1) _ HO.out h20 hi2 hT).mono ?_
        rintro e vya4 ⟨rfl, hb⟩
        rw [HXE.out]
        unfold rV
        have eya3 : Below wr.heap.size wr vya4 := dya1.trans (hb.mono dya1.size)
        replace hT := (RS.below hT hb).more hb.size
        clear hb
        refine hK _ _ (fun _ => eya3) ?_
        clear hK K
        refine any_run3 (i := 5) (j := 6) (k := 7) (by kernel_rfl) (by rfl) (by rfl) (by rfl) (by rfl) (by rfl) (by rfl) ?_ ?_ ?_
        ·skip
         intro K hK
         have qya8 := eya3.size
         go_wp2_with fail
         refine (tube_any l _ m ((k : Int) - 1) _ HO.out h20 hlk' hT).mono ?_
         rintro e vya7 ⟨rfl, hb⟩
         rw [HYE.out]
         unfold rV
         have eya6 : Below wr.heap.size wr vya7 := eya3.trans (hb.mono eya3.size)
         replace hT := (RS.below hT hb).more hb.size
         clear hb
         refine hK _ _ (fun _ => eya6) ?_
         clear hK K
         refine any_run2 (i := 6) (j := 7) (by kernel_rfl) (by rfl) (by rfl) (by rfl) (by rfl) ?_ ?_
         ·skip
          intro K hK
          have qya10 := eya6.size
          have eya9 : Below wr.heap.size wr (vya7.alloc (.cells #[.int .i64 0, .int .i64 0] 42)) := Below.alloc eya6 eya6.size _
          have hnx : Below vya7.heap.size vya7 (vya7.alloc (.cells #[.int .i64 0, .int .i64 0] 42)) := Below.alloc (Below.refl _ _) (Nat.le_refl _) _
          go_wp2_with fail
          replace hT := (RS.below hT hnx).more hnx.size
          have kx : BK (vya7.alloc (.cells #[.int .i64 0, .int .i64 0] 42)) vya7.heap.size #[.int .i64 0, .int .i64 0] 42 := BK.new _ _ _
          refine hK _ _ (fun _ => eya9) ?_
          clear hK K hnx
          generalize (vya7.alloc (.cells #[.int .i64 0, .int .i64 0] 42)) = vya11 at *
          obtain ⟨gkx, hgkx⟩ : ∃ g, vya7.heap.size = g := ⟨_, rfl⟩
          have hqkx : wr.heap.size ≤ gkx := by omega
          rw [hgkx] at kx
          try rw [hgkx]
          clear hgkx
          refine any_run1 (i := 7) (by kernel_rfl) (by rfl) (by kernel_rfl) ?_
          intro K hK
          have qya13 := eya9.size
          have eya12 : Below wr.heap.size wr (vya11.alloc (.cells #[.int .i64 0, .int .i64 0] 42)) := Below.alloc eya9 eya9.size _
          have hnx : Below vya11.heap.size vya11 (vya11.alloc (.cells #[.int .i64 0, .int .i64 0] 42)) := Below.alloc (Below.refl _ _) (Nat.le_refl _) _
          go_wp2_with fail
          have nekxky : gkx ≠ vya11.heap.size := Nat.ne_of_lt kx.lt
          replace kx := kx.below hnx kx.lt
          replace hT := (RS.below hT hnx).more hnx.size
          have ky : BK (vya11.alloc (.cells #[.int .i64 0, .int .i64 0] 42)) vya11.heap.size #[.int .i64 0, .int .i64 0] 42 := BK.new _ _ _
          refine hK _ _ (fun _ => eya12) ?_
          clear hK K hnx
          generalize (vya11.alloc (.cells #[.int .i64 0, .int .i64 0] 42)) = vya14 at *
          obtain ⟨gky, hgky⟩ : ∃ g, vya11.heap.size = g := ⟨_, rfl⟩
          have hqky : wr.heap.size ≤ gky := by omega
          rw [hgky] at ky nekxky
          try rw [hgky]
          clear hgky
          refine any_run1 (i := 8) (by kernel_rfl) (by rfl) (by kernel_rfl) ?_
          intro K hK
          have lkx := kx.lt
          have y0 := kx.cell 0
          have f0 := kx.frozen 0
          have y1 := kx.cell 1
          have f1 := kx.frozen 1
          simp at y0 y1
          go_wp2_with fail
          have eya15 : Below wr.heap.size wr ((vya14.setCell ⟨gkx, 0, none⟩ (.int .i64 X.lo)).setCell ⟨gkx, 1, none⟩ (.int .i64 X.hi)) := by exact bel_of
          have ky_ : BK ((vya14.setCell ⟨gkx, 0, none⟩ (.int .i64 X.lo)).setCell ⟨gkx, 1, none⟩ (.int .i64 X.hi)) gky _ _ := (BK.far (BK.far ky (p := ⟨gkx, 0, none⟩) (by first | assumption | exact Ne.symm (by assumption)) _) (p := ⟨gkx, 1, none⟩) (by first | assumption | exact Ne.symm (by assumption)) _); clear ky; have ky := ky_; clear ky_
          have kx_ := ((kx.set 0 (.int .i64 X.lo)).set 1 (.int .i64 X.hi))
          simp at kx_
          clear kx; have kx := kx_; clear kx_
          clear y0 f0 y1 f1
          refine hK _ _ (fun _ => eya15) ?_
          clear hK K
          generalize ((vya14.setCell ⟨gkx, 0, none⟩ (.int .i64 X.lo)).setCell ⟨gkx, 1, none⟩ (.int .i64 X.hi)) = vya16 at *
          refine any_run1 (i := 9) (by kernel_rfl) (by rfl) (by kernel_rfl) ?_
          intro K hK
          have lky := ky.lt
          have y0 := ky.cell 0
          have f0 := ky.frozen 0
          have y1 := ky.cell 1
          have f1 := ky.frozen 1
          simp at y0 y1
          go_wp2_with fail
          have eya17 : Below wr.heap.size wr ((vya16.setCell ⟨gky, 0, none⟩ (.int .i64 Y.lo)).setCell ⟨gky, 1, none⟩ (.int .i64 Y.hi)) := by exact bel_of
          have kx_ : BK ((vya16.setCell ⟨gky, 0, none⟩ (.int .i64 Y.lo)).setCell ⟨gky, 1, none⟩ (.int .i64 Y.hi)) gkx _ _ := (BK.far (BK.far kx (p := ⟨gky, 0, none⟩) (by first | assumption | exact Ne.symm (by assumption)) _) (p := ⟨gky, 1, none⟩) (by first | assumption | exact Ne.symm (by assumption)) _); clear kx; have kx := kx_; clear kx_
          have ky_ := ((ky.set 0 (.int .i64 Y.lo)).set 1 (.int .i64 Y.hi))
          simp at ky_
          clear ky; have ky := ky_; clear ky_
          clear y0 f0 y1 f1
          refine hK _ _ (fun _ => eya17) ?_
          clear hK K
          generalize ((vya16.setCell ⟨gky, 0, none⟩ (.int .i64 Y.lo)).setCell ⟨gky, 1, none⟩ (.int .i64 Y.hi)) = vya18 at *
          refine any_done (by kernel_rfl) (NoPanic.normal ?_)
          exact ⟨rfl, by simp [setAll], rfl, _, _, rfl, rfl, by first | assumption | exact Ne.symm (by assumption), kx, ky, eya17⟩
         ·skip
          intro K hK
          have qya20 := eya6.size
          have eya19 : Below wr.heap.size wr (vya7.alloc (.cells #[.int .i64 0, .int .i64 0] 42)) := Below.alloc eya6 eya6.size _
          have hnx : Below vya7.heap.size vya7 (vya7.alloc (.cells #[.int .i64 0, .int .i64 0] 42)) := Below.alloc (Below.refl _ _) (Nat.le_refl _) _
          go_wp2_with fail
          replace hT := (RS.below hT hnx).more hnx.size
          have ky : BK (vya7.alloc (.cells #[.int .i64 0, .int .i64 0] 42)) vya7.heap.size #[.int .i64 0, .int .i64 0] 42 := BK.new _ _ _
          refine hK _ _ (fun _ => eya19) ?_
          clear hK K hnx
          generalize (vya7.alloc (.cells #[.int .i64 0, .int .i64 0] 42)) = vya21 at *
          obtain ⟨gky, hgky⟩ : ∃ g, vya7.heap.size = g := ⟨_, rfl⟩
          have hqky : wr.heap.size ≤ gky := by omega
          rw [hgky] at ky
          try rw [hgky]
          clear hgky
          refine any_run1 (i := 6) (by kernel_rfl) (by rfl) (by kernel_rfl) ?_
          intro K hK
          have qya23 := eya19.size
          have eya22 : Below wr.heap.size wr (vya21.alloc (.cells #[.int .i64 0, .int .i64 0] 42)) := Below.alloc eya19 eya19.size _
          have hnx : Below vya21.heap.size vya21 (vya21.alloc (.cells #[.int .i64 0, .int .i64 0] 42)) := Below.alloc (Below.refl _ _) (Nat.le_refl _) _
          go_wp2_with fail
          have nekykx : gky ≠ vya21.heap.size := Nat.ne_of_lt ky.lt
          replace ky := ky.below hnx ky.lt
          replace hT := (RS.below hT hnx).more hnx.size
          have kx : BK (vya21.alloc (.cells #[.int .i64 0, .int .i64 0] 42)) vya21.heap.size #[.int .i64 0, .int .i64 0] 42 := BK.new _ _ _
          refine hK _ _ (fun _ => eya22) ?_
          clear hK K hnx
          generalize (vya21.alloc (.cells #[.int .i64 0, .int .i64 0] 42)) = vya24 at *
          obtain ⟨gkx, hgkx⟩ : ∃ g, vya21.heap.size = g := ⟨_, rfl⟩
          have hqkx : wr.heap.size ≤ gkx := by omega
          rw [hgkx] at kx nekykx
          try rw [hgkx]
          clear hgkx
          refine any_run1 (i := 8) (by kernel_rfl) (by rfl) (by kernel_rfl) ?_
          intro K hK
          have lkx := kx.lt
          have y0 := kx.cell 0
          have f0 := kx.frozen 0
          have y1 := kx.cell 1
          have f1 := kx.frozen 1
          simp at y0 y1
          go_wp2_with fail
          have eya25 : Below wr.heap.size wr ((vya24.setCell ⟨gkx, 0, none⟩ (.int .i64 X.lo)).setCell ⟨gkx, 1, none⟩ (.int .i64 X.hi)) := by exact bel_of
          have ky_ : BK ((vya24.setCell ⟨gkx, 0, none⟩ (.int .i64 X.lo)).setCell ⟨gkx, 1, none⟩ (.int .i64 X.hi)) gky _ _ := (BK.far (BK.far ky (p := ⟨gkx, 0, none⟩) (by first | assumption | exact Ne.symm (by assumption)) _) (p := ⟨gkx, 1, none⟩) (by first | assumption | exact Ne.symm (by assumption)) _); clear ky; have ky := ky_; clear ky_
          have kx_ := ((kx.set 0 (.int .i64 X.lo)).set 1 (.int .i64 X.hi))
          simp at kx_
          clear kx; have kx := kx_; clear kx_
          clear y0 f0 y1 f1
          refine hK _ _ (fun _ => eya25) ?_
          clear hK K
          generalize ((vya24.setCell ⟨gkx, 0, none⟩ (.int .i64 X.lo)).setCell ⟨gkx, 1, none⟩ (.int .i64 X.hi)) = vya26 at *
          refine any_run1 (i := 9) (by kernel_rfl) (by rfl) (by kernel_rfl) ?_
          intro K hK
          have lky := ky.lt
          have y0 := ky.cell 0
          have f0 := ky.frozen 0
          have y1 := ky.cell 1
          have f1 := ky.frozen 1
          simp at y0 y1
          go_wp2_with fail
          have eya27 : Below wr.heap.size wr ((vya26.setCell ⟨gky, 0, none⟩ (.int .i64 Y.lo)).setCell ⟨gky, 1, none⟩ (.int .i64 Y.hi)) := by exact bel_of
          have kx_ : BK ((vya26.setCell ⟨gky, 0, none⟩ (.int .i64 Y.lo)).setCell ⟨gky, 1, none⟩ (.int .i64 Y.hi)) gkx _ _ := (BK.far (BK.far kx (p := ⟨gky, 0, none⟩) (by first | assumption | exact Ne.symm (by assumption)) _) (p := ⟨gky, 1, none⟩) (by first | assumption | exact Ne.symm (by assumption)) _); clear kx; have kx := kx_; clear kx_
          have ky_ := ((ky.set 0 (.int .i64 Y.lo)).set 1 (.int .i64 Y.hi))
          simp at ky_
          clear ky; have ky := ky_; clear ky_
          clear y0 f0 y1 f1
          refine hK _ _ (fun _ => eya27) ?_
          clear hK K
          generalize ((vya26.setCell ⟨gky, 0, none⟩ (.int .i64 Y.lo)).setCell ⟨gky, 1, none⟩ (.int .i64 Y.hi)) = vya28 at *
          refine any_done (by kernel_rfl) (NoPanic.normal ?_)
          exact ⟨rfl, by simp [setAll], rfl, _, _, rfl, rfl, by first | assumption | exact Ne.symm (by assumption), kx, ky, eya27⟩
        ·skip
         intro K hK
         have qya30 := eya3.size
         have eya29 : Below wr.heap.size wr (vya4.alloc (.cells #[.int .i64 0, .int .i64 0] 42)) := Below.alloc eya3 eya3.size _
         have hnx : Below vya4.heap.size vya4 (vya4.alloc (.cells #[.int .i64 0, .int .i64 0] 42)) := Below.alloc (Below.refl _ _) (Nat.le_refl _) _
         go_wp2_with fail
         replace hT := (RS.below hT hnx).more hnx.size
         have kx : BK (vya4.alloc (.cells #[.int .i64 0, .int .i64 0] 42)) vya4.heap.size #[.int .i64 0, .int .i64 0] 42 := BK.new _ _ _
         refine hK _ _ (fun _ => eya29) ?_
         clear hK K hnx
         generalize (vya4.alloc (.cells #[.int .i64 0, .int .i64 0] 42)) = vya31 at *
         obtain ⟨gkx, hgkx⟩ : ∃ g, vya4.heap.size = g := ⟨_, rfl⟩
         have hqkx : wr.heap.size ≤ gkx := by omega
         rw [hgkx] at kx
         try rw [hgkx]
         clear hgkx
         refine any_run2 (i := 5) (j := 7) (by kernel_rfl) (by rfl) (by rfl) (by rfl) (by rfl) ?_ ?_
         ·skip
          intro K hK
          have qya34 := eya29.size
          go_wp2_with fail
          refine (tube_any l _ m ((k : Int) - 1) _ HO.out h20 hlk' hT).mono ?_
          rintro e vya33 ⟨rfl, hb⟩
          rw [HYE.out]
          unfold rV
          have eya32 : Below wr.heap.size wr vya33 := eya29.trans (hb.mono eya29.size)
          replace kx := kx.below hb kx.lt
          replace hT := (RS.below hT hb).more hb.size
          clear hb
          refine hK _ _ (fun _ => eya32) ?_
          clear hK K
          refine any_run1 (i := 7) (by kernel_rfl) (by rfl) (by kernel_rfl) ?_
          intro K hK
          have qya36 := eya32.size
          have eya35 : Below wr.heap.size wr (vya33.alloc (.cells #[.int .i64 0, .int .i64 0] 42)) := Below.alloc eya32 eya32.size _
          have hnx : Below vya33.heap.size vya33 (vya33.alloc (.cells #[.int .i64 0, .int .i64 0] 42)) := Below.alloc (Below.refl _ _) (Nat.le_refl _) _
          go_wp2_with fail
          have nekxky : gkx ≠ vya33.heap.size := Nat.ne_of_lt kx.lt
          replace kx := kx.below hnx kx.lt
          replace hT := (RS.below hT hnx).more hnx.size
          have ky : BK (vya33.alloc (.cells #[.int .i64 0, .int .i64 0] 42)) vya33.heap.size #[.int .i64 0, .int .i64 0] 42 := BK.new _ _ _
          refine hK _ _ (fun _ => eya35) ?_
          clear hK K hnx
          generalize (vya33.alloc (.cells #[.int .i64 0, .int .i64 0] 42)) = vya37 at *
          obtain ⟨gky, hgky⟩ : ∃ g, vya33.heap.size = g := ⟨_, rfl⟩
          have hqky : wr.heap.size ≤ gky := by omega
          rw [hgky] at ky nekxky
          try rw [hgky]
          clear hgky
          refine any_run1 (i := 8) (by kernel_rfl) (by rfl) (by kernel_rfl) ?_
          intro K hK
          have lkx := kx.lt
          have y0 := kx.cell 0
          have f0 := kx.frozen 0
          have y1 := kx.cell 1
          have f1 := kx.frozen 1
          simp at y0 y1
          go_wp2_with fail
          have eya38 : Below wr.heap.size wr ((vya37.setCell ⟨gkx, 0, none⟩ (.int .i64 X.lo)).setCell ⟨gkx, 1, none⟩ (.int .i64 X.hi)) := by exact bel_of
          have ky_ : BK ((vya37.setCell ⟨gkx, 0, none⟩ (.int .i64 X.lo)).setCell ⟨gkx, 1, none⟩ (.int .i64 X.hi)) gky _ _ := (BK.far (BK.far ky (p := ⟨gkx, 0, none⟩) (by first | assumption | exact Ne.symm (by assumption)) _) (p := ⟨gkx, 1, none⟩) (by first | assumption | exact Ne.symm (by assumption)) _); clear ky; have ky := ky_; clear ky_
          have kx_ := ((kx.set 0 (.int .i64 X.lo)).set 1 (.int .i64 X.hi))
          simp at kx_
          clear kx; have kx := kx_; clear kx_
          clear y0 f0 y1 f1
          refine hK _ _ (fun _ => eya38) ?_
          clear hK K
          generalize ((vya37.setCell ⟨gkx, 0, none⟩ (.int .i64 X.lo)).setCell ⟨gkx, 1, none⟩ (.int .i64 X.hi)) = vya39 at *
          refine any_run1 (i := 9) (by kernel_rfl) (by rfl) (by kernel_rfl) ?_
          intro K hK
          have lky := ky.lt
          have y0 := ky.cell 0
          have f0 := ky.frozen 0
          have y1 := ky.cell 1
          have f1 := ky.frozen 1
          simp at y0 y1
          go_wp2_with fail
          have eya40 : Below wr.heap.size wr ((vya39.setCell ⟨gky, 0, none⟩ (.int .i64 Y.lo)).setCell ⟨gky, 1, none⟩ (.int .i64 Y.hi)) := by exact bel_of
          have kx_ : BK ((vya39.setCell ⟨gky, 0, none⟩ (.int .i64 Y.lo)).setCell ⟨gky, 1, none⟩ (.int .i64 Y.hi)) gkx _ _ := (BK.far (BK.far kx (p := ⟨gky, 0, none⟩) (by first | assumption | exact Ne.symm (by assumption)) _) (p := ⟨gky, 1, none⟩) (by first | assumption | exact Ne.symm (by assumption)) _); clear kx; have kx := kx_; clear kx_
          have ky_ := ((ky.set 0 (.int .i64 Y.lo)).set 1 (.int .i64 Y.hi))
          simp at ky_
          clear ky; have ky := ky_; clear ky_
          clear y0 f0 y1 f1
          refine hK _ _ (fun _ => eya40) ?_
          clear hK K
          generalize ((vya39.setCell ⟨gky, 0, none⟩ (.int .i64 Y.lo)).setCell ⟨gky, 1, none⟩ (.int .i64 Y.hi)) = vya41 at *
          refine any_done (by kernel_rfl) (NoPanic.normal ?_)
          exact ⟨rfl, by simp [setAll], rfl, _, _, rfl, rfl, by first | assumption | exact Ne.symm (by assumption), kx, ky, eya40⟩
         ·skip
          intro K hK
          have qya43 := eya29.size
          have eya42 : Below wr.heap.size wr (vya31.alloc (.cells #[.int .i64 0, .int .i64 0] 42)) := Below.alloc eya29 eya29.size _
          have hnx : Below vya31.heap.size vya31 (vya31.alloc (.cells #[.int .i64 0, .int .i64 0] 42)) := Below.alloc (Below.refl _ _) (Nat.le_refl _) _
          go_wp2_with fail
          have nekxky : gkx ≠ vya31.heap.size := Nat.ne_of_lt kx.lt
          replace kx := kx.below hnx kx.lt
          replace hT := (RS.below hT hnx).more hnx.size
          have ky : BK (vya31.alloc (.cells #[.int .i64 0, .int .i64 0] 42)) vya31.heap.size #[.int .i64 0, .int .i64 0] 42 := BK.new _ _ _
          refine hK _ _ (fun _ => eya42) ?_
          clear hK K hnx
          generalize (vya31.alloc (.cells #[.int .i64 0, .int .i64 0] 42)) = vya44 at *
          obtain ⟨gky, hgky⟩ : ∃ g, vya31.heap.size = g := ⟨_, rfl⟩
          have hqky : wr.heap.size ≤ gky := by omega
          rw [hgky] at ky nekxky
          try rw [hgky]
          clear hgky
          refine any_run1 (i := 5) (by kernel_rfl) (by rfl) (by kernel_rfl) ?_
          intro K hK
          have qya47 := eya42.size
          go_wp2_with fail
          refine (tube_any l _ m ((k : Int) - 1) _ HO.out h20 hlk' hT).mono ?_
          rintro e vya46 ⟨rfl, hb⟩
          rw [HYE.out]
          unfold rV
          have eya45 : Below wr.heap.size wr vya46 := eya42.trans (hb.mono eya42.size)
          replace kx := kx.below hb kx.lt
          replace ky := ky.below hb ky.lt
          replace hT := (RS.below hT hb).more hb.size
          clear hb
          refine hK _ _ (fun _ => eya45) ?_
          clear hK K
          refine any_run1 (i := 8) (by kernel_rfl) (by rfl) (by kernel_rfl) ?_
          intro K hK
          have lkx := kx.lt
          have y0 := kx.cell 0
          have f0 := kx.frozen 0
          have y1 := kx.cell 1
          have f1 := kx.frozen 1
          simp at y0 y1
          go_wp2_with fail
          have eya48 : Below wr.heap.size wr ((vya46.setCell ⟨gkx, 0, none⟩ (.int .i64 X.lo)).setCell ⟨gkx, 1, none⟩ (.int .i64 X.hi)) := by exact bel_of
          have ky_ : BK ((vya46.setCell ⟨gkx, 0, none⟩ (.int .i64 X.lo)).setCell ⟨gkx, 1, none⟩ (.int .i64 X.hi)) gky _ _ := (BK.far (BK.far ky (p := ⟨gkx, 0, none⟩) (by first | assumption | exact Ne.symm (by assumption)) _) (p := ⟨gkx, 1, none⟩) (by first | assumption | exact Ne.symm (by assumption)) _); clear ky; have ky := ky_; clear ky_
          have kx_ := ((kx.set 0 (.int .i64 X.lo)).set 1 (.int .i64 X.hi))
          simp at kx_
          clear kx; have kx := kx_; clear kx_
          clear y0 f0 y1 f1
          refine hK _ _ (fun _ => eya48) ?_
          clear hK K
          generalize ((vya46.setCell ⟨gkx, 0, none⟩ (.int .i64 X.lo)).setCell ⟨gkx, 1, none⟩ (.int .i64 X.hi)) = vya49 at *
          refine any_run1 (i := 9) (by kernel_rfl) (by rfl) (by kernel_rfl) ?_
          intro K hK
          have lky := ky.lt
          have y0 := ky.cell 0
          have f0 := ky.frozen 0
          have y1 := ky.cell 1
          have f1 := ky.frozen 1
          simp at y0 y1
          go_wp2_with fail
          have eya50 : Below wr.heap.size wr ((vya49.setCell ⟨gky, 0, none⟩ (.int .i64 Y.lo)).setCell ⟨gky, 1, none⟩ (.int .i64 Y.hi)) := by exact bel_of
          have kx_ : BK ((vya49.setCell ⟨gky, 0, none⟩ (.int .i64 Y.lo)).setCell ⟨gky, 1, none⟩ (.int .i64 Y.hi)) gkx _ _ := (BK.far (BK.far kx (p := ⟨gky, 0, none⟩) (by first | assumption | exact Ne.symm (by assumption)) _) (p := ⟨gky, 1, none⟩) (by first | assumption | exact Ne.symm (by assumption)) _); clear kx; have kx := kx_; clear kx_
          have ky_ := ((ky.set 0 (.int .i64 Y.lo)).set 1 (.int .i64 Y.hi))
          simp at ky_
          clear ky; have ky := ky_; clear ky_
          clear y0 f0 y1 f1
          refine hK _ _ (fun _ => eya50) ?_
          clear hK K
          generalize ((vya49.setCell ⟨gky, 0, none⟩ (.int .i64 Y.lo)).setCell ⟨gky, 1, none⟩ (.int .i64 Y.hi)) = vya51 at *
          refine any_done (by kernel_rfl) (NoPanic.normal ?_)
          exact ⟨rfl, by simp [setAll], rfl, _, _, rfl, rfl, by first | assumption | exact Ne.symm (by assumption), kx, ky, eya50⟩
        ·skip
         intro K hK
         have qya53 := eya3.size
         have eya52 : Below wr.heap.size wr (vya4.alloc (.cells #[.int .i64 0, .int .i64 0] 42)) := Below.alloc eya3 eya3.size _
         have hnx : Below vya4.heap.size vya4 (vya4.alloc (.cells #[.int .i64 0, .int .i64 0] 42)) := Below.alloc (Below.refl _ _) (Nat.le_refl _) _
         go_wp2_with fail
         replace hT := (RS.below hT hnx).more hnx.size
         have ky : BK (vya4.alloc (.cells #[.int .i64 0, .int .i64 0] 42)) vya4.heap.size #[.int .i64 0, .int .i64 0] 42 := BK.new _ _ _
         refine hK _ _ (fun _ => eya52) ?_
         clear hK K hnx
         generalize (vya4.alloc (.cells #[.int .i64 0, .int .i64 0] 42)) = vya54 at *
         obtain ⟨gky, hgky⟩ : ∃ g, vya4.heap.size = g := ⟨_, rfl⟩
         have hqky : wr.heap.size ≤ gky := by omega
         rw [hgky] at ky
         try rw [hgky]
         clear hgky
         refine any_run2 (i := 5) (j := 6) (by kernel_rfl) (by rfl) (by rfl) (by rfl) (by rfl) ?_ ?_
         ·skip
          intro K hK
          have qya57 := eya52.size
          go_wp2_with fail
          refine (tube_any l _ m ((k : Int) - 1) _ HO.out h20 hlk' hT).mono ?_
          rintro e vya56 ⟨rfl, hb⟩
          rw [HYE.out]
          unfold rV
          have eya55 : Below wr.heap.size wr vya56 := eya52.trans (hb.mono eya52.size)
          replace ky := ky.below hb ky.lt
          replace hT := (RS.below hT hb).more hb.size
          clear hb
          refine hK _ _ (fun _ => eya55) ?_
          clear hK K
          refine any_run1 (i := 6) (by kernel_rfl) (by rfl) (by kernel_rfl) ?_
          intro K hK
          have qya59 := eya55.size
          have eya58 : Below wr.heap.size wr (vya56.alloc (.cells #[.int .i64 0, .int .i64 0] 42)) := Below.alloc eya55 eya55.size _
          have hnx : Below vya56.heap.size vya56 (vya56.alloc (.cells #[.int .i64 0, .int .i64 0] 42)) := Below.alloc (Below.refl _ _) (Nat.le_refl _) _
          go_wp2_with fail
          have nekykx : gky ≠ vya56.heap.size := Nat.ne_of_lt ky.lt
          replace ky := ky.below hnx ky.lt
          replace hT := (RS.below hT hnx).more hnx.size
          have kx : BK (vya56.alloc (.cells #[.int .i64 0, .int .i64 0] 42)) vya56.heap.size #[.int .i64 0, .int .i64 0] 42 := BK.new _ _ _
          refine hK _ _ (fun _ => eya58) ?_
          clear hK K hnx
          generalize (vya56.alloc (.cells #[.int .i64 0, .int .i64 0] 42)) = vya60 at *
          obtain ⟨gkx, hgkx⟩ : ∃ g, vya56.heap.size = g := ⟨_, rfl⟩
          have hqkx : wr.heap.size ≤ gkx := by omega
          rw [hgkx] at kx nekykx
          try rw [hgkx]
          clear hgkx
          refine any_run1 (i := 8) (by kernel_rfl) (by rfl) (by kernel_rfl) ?_
          intro K hK
          have lkx := kx.lt
          have y0 := kx.cell 0
          have f0 := kx.frozen 0
          have y1 := kx.cell 1
          have f1 := kx.frozen 1
          simp at y0 y1
          go_wp2_with fail
          have eya61 : Below wr.heap.size wr ((vya60.setCell ⟨gkx, 0, none⟩ (.int .i64 X.lo)).setCell ⟨gkx, 1, none⟩ (.int .i64 X.hi)) := by exact bel_of
          have ky_ : BK ((vya60.setCell ⟨gkx, 0, none⟩ (.int .i64 X.lo)).setCell ⟨gkx, 1, none⟩ (.int .i64 X.hi)) gky _ _ := (BK.far (BK.far ky (p := ⟨gkx, 0, none⟩) (by first | assumption | exact Ne.symm (by assumption)) _) (p := ⟨gkx, 1, none⟩) (by first | assumption | exact Ne.symm (by assumption)) _); clear ky; have ky := ky_; clear ky_
          have kx_ := ((kx.set 0 (.int .i64 X.lo)).set 1 (.int .i64 X.hi))
          simp at kx_
          clear kx; have kx := kx_; clear kx_
          clear y0 f0 y1 f1
          refine hK _ _ (fun _ => eya61) ?_
          clear hK K
          generalize ((vya60.setCell ⟨gkx, 0, none⟩ (.int .i64 X.lo)).setCell ⟨gkx, 1, none⟩ (.int .i64 X.hi)) = vya62 at *
          refine any_run1 (i := 9) (by kernel_rfl) (by rfl) (by kernel_rfl) ?_
          intro K hK
          have lky := ky.lt
          have y0 := ky.cell 0
          have f0 := ky.frozen 0
          have y1 := ky.cell 1
          have f1 := ky.frozen 1
          simp at y0 y1
          go_wp2_with fail
          have eya63 : Below wr.heap.size wr ((vya62.setCell ⟨gky, 0, none⟩ (.int .i64 Y.lo)).setCell ⟨gky, 1, none⟩ (.int .i64 Y.hi)) := by exact bel_of
          have kx_ : BK ((vya62.setCell ⟨gky, 0, none⟩ (.int .i64 Y.lo)).setCell ⟨gky, 1, none⟩ (.int .i64 Y.hi)) gkx _ _ := (BK.far (BK.far kx (p := ⟨gky, 0, none⟩) (by first | assumption | exact Ne.symm (by assumption)) _) (p := ⟨gky, 1, none⟩) (by first | assumption | exact Ne.symm (by assumption)) _); clear kx; have kx := kx_; clear kx_
          have ky_ := ((ky.set 0 (.int .i64 Y.lo)).set 1 (.int .i64 Y.hi))
          simp at ky_
          clear ky; have ky := ky_; clear ky_
          clear y0 f0 y1 f1
          refine hK _ _ (fun _ => eya63) ?_
          clear hK K
          generalize ((vya62.setCell ⟨gky, 0, none⟩ (.int .i64 Y.lo)).setCell ⟨gky, 1, none⟩ (.int .i64 Y.hi)) = vya64 at *
          refine any_done (by kernel_rfl) (NoPanic.normal ?_)
          exact ⟨rfl, by simp [setAll], rfl, _, _, rfl, rfl, by first | assumption | exact Ne.symm (by assumption), kx, ky, eya63⟩
         ·skip
          intro K hK
          have qya66 := eya52.size
          have eya65 : Below wr.heap.size wr (vya54.alloc (.cells #[.int .i64 0, .int .i64 0] 42)) := Below.alloc eya52 eya52.size _
          have hnx : Below vya54.heap.size vya54 (vya54.alloc (.cells #[.int .i64 0, .int .i64 0] 42)) := Below.alloc (Below.refl _ _) (Nat.le_refl _) _
          go_wp2_with fail
          have nekykx : gky ≠ vya54.heap.size := Nat.ne_of_lt ky.lt
          replace ky := ky.below hnx ky.lt
          replace hT := (RS.below hT hnx).more hnx.size
          have kx : BK (vya54.alloc (.cells #[.int .i64 0, .int .i64 0] 42)) vya54.heap.size #[.int .i64 0, .int .i64 0] 42 := BK.new _ _ _
          refine hK _ _ (fun _ => eya65) ?_
          clear hK K hnx
          generalize (vya54.alloc (.cells #[.int .i64 0, .int .i64 0] 42)) = vya67 at *
          obtain ⟨gkx, hgkx⟩ : ∃ g, vya54.heap.size = g := ⟨_, rfl⟩
          have hqkx : wr.heap.size ≤ gkx := by omega
          rw [hgkx] at kx nekykx
          try rw [hgkx]
          clear hgkx
          refine any_run1 (i := 5) (by kernel_rfl) (by rfl) (by kernel_rfl) ?_
          intro K hK
          have qya70 := eya65.size
          go_wp2_with fail
          refine (tube_any l _ m ((k : Int) - 1) _ HO.out h20 hlk' hT).mono ?_
          rintro e vya69 ⟨rfl, hb⟩
          rw [HYE.out]
          unfold rV
          have eya68 : Below wr.heap.size wr vya69 := eya65.trans (hb.mono eya65.size)
          replace ky := ky.below hb ky.lt
          replace kx := kx.below hb kx.lt
          replace hT := (RS.below hT hb).more hb.size
          clear hb
          refine hK _ _ (fun _ => eya68) ?_
          clear hK K
          refine any_run1 (i := 8) (by kernel_rfl) (by rfl) (by kernel_rfl) ?_
          intro K hK
          have lkx := kx.lt
          have y0 := kx.cell 0
          have f0 := kx.frozen 0
          have y1 := kx.cell 1
          have f1 := kx.frozen 1
          simp at y0 y1
          go_wp2_with fail
          have eya71 : Below wr.heap.size wr ((vya69.setCell ⟨gkx, 0, none⟩ (.int .i64 X.lo)).setCell ⟨gkx, 1, none⟩ (.int .i64 X.hi)) := by exact bel_of
          have ky_ : BK ((vya69.setCell ⟨gkx, 0, none⟩ (.int .i64 X.lo)).setCell ⟨gkx, 1, none⟩ (.int .i64 X.hi)) gky _ _ := (BK.far (BK.far ky (p := ⟨gkx, 0, none⟩) (by first | assumption | exact Ne.symm (by assumption)) _) (p := ⟨gkx, 1, none⟩) (by first | assumption | exact Ne.symm (by assumption)) _); clear ky; have ky := ky_; clear ky_
          have kx_ := ((kx.set 0 (.int .i64 X.lo)).set 1 (.int .i64 X.hi))
          simp at kx_
          clear kx; have kx := kx_; clear kx_
          clear y0 f0 y1 f1
          refine hK _ _ (fun _ => eya71) ?_
          clear hK K
          generalize ((vya69.setCell ⟨gkx, 0, none⟩ (.int .i64 X.lo)).setCell ⟨gkx, 1, none⟩ (.int .i64 X.hi)) = vya72 at *
          refine any_run1 (i := 9) (by kernel_rfl) (by rfl) (by kernel_rfl) ?_
          intro K hK
          have lky := ky.lt
          have y0 := ky.cell 0
          have f0 := ky.frozen 0
          have y1 := ky.cell 1
          have f1 := ky.frozen 1
          simp at y0 y1
          go_wp2_with fail
          have eya73 : Below wr.heap.size wr ((vya72.setCell ⟨gky, 0, none⟩ (.int .i64 Y.lo)).setCell ⟨gky, 1, none⟩ (.int .i64 Y.hi)) := by exact bel_of
          have kx_ : BK ((vya72.setCell ⟨gky, 0, none⟩ (.int .i64 Y.lo)).setCell ⟨gky, 1, none⟩ (.int .i64 Y.hi)) gkx _ _ := (BK.far (BK.far kx (p := ⟨gky, 0, none⟩) (by first | assumption | exact Ne.symm (by assumption)) _) (p := ⟨gky, 1, none⟩) (by first | assumption | exact Ne.symm (by assumption)) _); clear kx; have kx := kx_; clear kx_
          have ky_ := ((ky.set 0 (.int .i64 Y.lo)).set 1 (.int .i64 Y.hi))
          simp at ky_
          clear ky; have ky := ky_; clear ky_
          clear y0 f0 y1 f1
          refine hK _ _ (fun _ => eya73) ?_
          clear hK K
          generalize ((vya72.setCell ⟨gky, 0, none⟩ (.int .i64 Y.lo)).setCell ⟨gky, 1, none⟩ (.int .i64 Y.hi)) = vya74 at *
          refine any_done (by kernel_rfl) (NoPanic.normal ?_)
          exact ⟨rfl, by simp [setAll], rfl, _, _, rfl, rfl, by first | assumption | exact Ne.symm (by assumption), kx, ky, eya73⟩
       ·skip
        intro K hK
        have qya76 := dya1.size
        have eya75 : Below wr.heap.size wr (uya2.alloc (.cells #[.int .i64 0, .int .i64 0] 42)) := Below.alloc dya1 dya1.size _
        have hnx : Below uya2.heap.size uya2 (uya2.alloc (.cells #[.int .i64 0, .int .i64 0] 42)) := Below.alloc (Below.refl _ _) (Nat.le_refl _) _
        go_wp2_with fail
        replace hT := (RS.below hT hnx).more hnx.size
        have kx : BK (uya2.alloc (.cells #[.int .i64 0, .int .i64 0] 42)) uya2.heap.size #[.int .i64 0, .int .i64 0] 42 := BK.new _ _ _
        refine hK _ _ (fun _ => eya75) ?_
        clear hK K hnx
        generalize (uya2.alloc (.cells #[.int .i64 0, .int .i64 0] 42)) = vya77 at *
        obtain ⟨gkx, hgkx⟩ : ∃ g, uya2.heap.size = g := ⟨_, rfl⟩
        have hqkx : wr.heap.size ≤ gkx := by omega
        rw [hgkx] at kx
        try rw [hgkx]
        clear hgkx
        refine any_run2 (i := 2) (j := 7) (by kernel_rfl) (by rfl) (by rfl) (by rfl) (by rfl) ?_ ?_
        ·skip
         intro K hK
         have qya80 := eya75.size
         go_wp2_with fail
         refine (tube_any l _ m ((i : Int) - 1) _ HO.out h20 hi2 hT).mono ?_
         rintro e vya79 ⟨rfl, hb⟩
         rw [HXE.out]
         unfold rV
         have eya78 : Below wr.heap.size wr vya79 := eya75.trans (hb.mono eya75.size)
         replace kx := kx.below hb kx.lt
         replace hT := (RS.below hT hb).more hb.size
         clear hb
         refine hK _ _ (fun _ => eya78) ?_
         clear hK K
         refine any_run2 (i := 5) (j := 7) (by kernel_rfl) (by rfl) (by rfl) (by rfl) (by rfl) ?_ ?_
         ·skip
          intro K hK
          have qya83 := eya78.size
          go_wp2_with fail
          refine (tube_any l _ m ((k : Int) - 1) _ HO.out h20 hlk' hT).mono ?_
          rintro e vya82 ⟨rfl, hb⟩
          rw [HYE.out]
          unfold rV
          have eya81 : Below wr.heap.size wr vya82 := eya78.trans (hb.mono eya78.size)
          replace kx := kx.below hb kx.lt
          replace hT := (RS.below hT hb).more hb.size
          clear hb
          refine hK _ _ (fun _ => eya81) ?_
          clear hK K
          refine any_run1 (i := 7) (by kernel_rfl) (by rfl) (by kernel_rfl) ?_
          intro K hK
          have qya85 := eya81.size
          have eya84 : Below wr.heap.size wr (vya82.alloc (.cells #[.int .i64 0, .int .i64 0] 42)) := Below.alloc eya81 eya81.size _
          have hnx : Below vya82.heap.size vya82 (vya82.alloc (.cells #[.int .i64 0, .int .i64 0] 42)) := Below.alloc (Below.refl _ _) (Nat.le_refl _) _
          go_wp2_with fail
          have nekxky : gkx ≠ vya82.heap.size := Nat.ne_of_lt kx.lt
          replace kx := kx.below hnx kx.lt
          replace hT := (RS.below hT hnx).more hnx.size
          have ky : BK (vya82.alloc (.cells #[.int .i64 0, .int .i64 0] 42)) vya82.heap.size #[.int .i64 0, .int .i64 0] 42 := BK.new _ _ _
          refine hK _ _ (fun _ => eya84) ?_
          clear hK K hnx
          generalize (vya82.alloc (.cells #[.int .i64 0, .int .i64 0] 42)) = vya86 at *
          obtain ⟨gky, hgky⟩ : ∃ g, vya82.heap.size = g := ⟨_, rfl⟩
          have hqky : wr.heap.size ≤ gky := by omega
          rw [hgky] at ky nekxky
          try rw [hgky]
          clear hgky
          refine any_run1 (i := 8) (by kernel_rfl) (by rfl) (by kernel_rfl) ?_
          intro K hK
          have lkx := kx.lt
          have y0 := kx.cell 0
          have f0 := kx.frozen 0
          have y1 := kx.cell 1
          have f1 := kx.frozen 1
          simp at y0 y1
          go_wp2_with fail
          have eya87 : Below wr.heap.size wr ((vya86.setCell ⟨gkx, 0, none⟩ (.int .i64 X.lo)).setCell ⟨gkx, 1, none⟩ (.int .i64 X.hi)) := by exact bel_of
          have ky_ : BK ((vya86.setCell ⟨gkx, 0, none⟩ (.int .i64 X.lo)).setCell ⟨gkx, 1, none⟩ (.int .i64 X.hi)) gky _ _ := (BK.far (BK.far ky (p := ⟨gkx, 0, none⟩) (by first | assumption | exact Ne.symm (by assumption)) _) (p := ⟨gkx, 1, none⟩) (by first | assumption | exact Ne.symm (by assumption)) _); clear ky; have ky := ky_; clear ky_
          have kx_ := ((kx.set 0 (.int .i64 X.lo)).set 1 (.int .i64 X.hi))
          simp at kx_
          clear kx; have kx := kx_; clear kx_
          clear y0 f0 y1 f1
          refine hK _ _ (fun _ => eya87) ?_
          clear hK K
          generalize ((vya86.setCell ⟨gkx, 0, none⟩ (.int .i64 X.lo)).setCell ⟨gkx, 1, none⟩ (.int .i64 X.hi)) = vya88 at *
          refine any_run1 (i := 9) (by kernel_rfl) (by rfl) (by kernel_rfl) ?_
          intro K hK
          have lky := ky.lt
          have y0 := ky.cell 0
          have f0 := ky.frozen 0
          have y1 := ky.cell 1
          have f1 := ky.frozen 1
          simp at y0 y1
          go_wp2_with fail
          have eya89 : Below wr.heap.size wr ((vya88.setCell ⟨gky, 0, none⟩ (.int .i64 Y.lo)).setCell ⟨gky, 1, none⟩ (.int .i64 Y.hi)) := by exact bel_of
          have kx_ : BK ((vya88.setCell ⟨gky, 0, none⟩ (.int .i64 Y.lo)).setCell ⟨gky, 1, none⟩ (.int .i64 Y.hi)) gkx _ _ := (BK.far (BK.far kx (p := ⟨gky, 0, none⟩) (by first | assumption | exact Ne.symm (by assumption)) _) (p := ⟨gky, 1, none⟩) (by first | assumption | exact Ne.symm (by assumption)) _); clear kx; have kx := kx_; clear kx_
          have ky_ := ((ky.set 0 (.int .i64 Y.lo)).set 1 (.int .i64 Y.hi))
          simp at ky_
          clear ky; have ky := ky_; clear ky_
          clear y0 f0 y1 f1
          refine hK _ _ (fun _ => eya89) ?_
          clear hK K
          generalize ((vya88.setCell ⟨gky, 0, none⟩ (.int .i64 Y.lo)).setCell ⟨gky, 1, none⟩ (.int .i64 Y.hi)) = vya90 at *
          refine any_done (by kernel_rfl) (NoPanic.normal ?_)
          exact ⟨rfl, by simp [setAll], rfl, _, _, rfl, rfl, by first | assumption | exact Ne.symm (by assumption), kx, ky, eya89⟩
         ·skip
          intro K hK
          have qya92 := eya78.size
          have eya91 : Below wr.heap.size wr (vya79.alloc (.cells #[.int .i64 0, .int .i64 0] 42)) := Below.alloc eya78 eya78.size _
          have hnx : Below vya79.heap.size vya79 (vya79.alloc (.cells #[.int .i64 0, .int .i64 0] 42)) := Below.alloc (Below.refl _ _) (Nat.le_refl _) _
          go_wp2_with fail
          have nekxky : gkx ≠ vya79.heap.size := Nat.ne_of_lt kx.lt
          replace kx := kx.below hnx kx.lt
          replace hT := (RS.below hT hnx).more hnx.size
          have ky : BK (vya79.alloc (.cells #[.int .i64 0, .int .i64 0] 42)) vya79.heap.size #[.int .i64 0, .int .i64 0] 42 := BK.new _ _ _
          refine hK _ _ (fun _ => eya91) ?_
          clear hK K hnx
          generalize (vya79.alloc (.cells #[.int .i64 0, .int .i64 0] 42)) = vya93 at *
          obtain ⟨gky, hgky⟩ : ∃ g, vya79.heap.size = g := ⟨_, rfl⟩
          have hqky : wr.heap.size ≤ gky := by omega
          rw [hgky] at ky nekxky
          try rw [hgky]
          clear hgky
          refine any_run1 (i := 5) (by kernel_rfl) (by rfl) (by kernel_rfl) ?_
          intro K hK
          have qya96 := eya91.size
          go_wp2_with fail
          refine (tube_any l _ m ((k : Int) - 1) _ HO.out h20 hlk' hT).mono ?_
          rintro e vya95 ⟨rfl, hb⟩
          rw [HYE.out]
          unfold rV
          have eya94 : Below wr.heap.size wr vya95 := eya91.trans (hb.mono eya91.size)
          replace kx := kx.below hb kx.lt
          replace ky := ky.below hb ky.lt
          replace hT := (RS.below hT hb).more hb.size
          clear hb
          refine hK _ _ (fun _ => eya94) ?_
          clear hK K
          refine any_run1 (i := 8) (by kernel_rfl) (by rfl) (by kernel_rfl) ?_
          intro K hK
          have lkx := kx.lt
          have y0 := kx.cell 0
          have f0 := kx.frozen 0
          have y1 := kx.cell 1
          have f1 := kx.frozen 1
          simp at y0 y1
          go_wp2_with fail
          have eya97 : Below wr.heap.size wr ((vya95.setCell ⟨gkx, 0, none⟩ (.int .i64 X.lo)).setCell ⟨gkx, 1, none⟩ (.int .i64 X.hi)) := by exact bel_of
          have ky_ : BK ((vya95.setCell ⟨gkx, 0, none⟩ (.int .i64 X.lo)).setCell ⟨gkx, 1, none⟩ (.int .i64 X.hi)) gky _ _ := (BK.far (BK.far ky (p := ⟨gkx, 0, none⟩) (by first | assumption | exact Ne.symm (by assumption)) _) (p := ⟨gkx, 1, none⟩) (by first | assumption | exact Ne.symm (by assumption)) _); clear ky; have ky := ky_; clear ky_
          have kx_ := ((kx.set 0 (.int .i64 X.lo)).set 1 (.int .i64 X.hi))
          simp at kx_
          clear kx; have kx := kx_; clear kx_
          clear y0 f0 y1 f1
          refine hK _ _ (fun _ => eya97) ?_
          clear hK K
          generalize ((vya95.setCell ⟨gkx, 0, none⟩ (.int .i64 X.lo)).setCell ⟨gkx, 1, none⟩ (.int .i64 X.hi)) = vya98 at *
          refine any_run1 (i := 9) (by kernel_rfl) (by rfl) (by kernel_rfl) ?_
          intro K hK
          have lky := ky.lt
          have y0 := ky.cell 0
          have f0 := ky.frozen 0
          have y1 := ky.cell 1
          have f1 := ky.frozen 1
          simp at y0 y1
          go_wp2_with fail
          have eya99 : Below wr.heap.size wr ((vya98.setCell ⟨gky, 0, none⟩ (.int .i64 Y.lo)).setCell ⟨gky, 1, none⟩ (.int .i64 Y.hi)) := by exact bel_of
          have kx_ : BK ((vya98.setCell ⟨gky, 0, none⟩ (.int .i64 Y.lo)).setCell ⟨gky, 1, none⟩ (.int .i64 Y.hi)) gkx _ _ := (BK.far (BK.far kx (p := ⟨gky, 0, none⟩) (by first | assumption | exact Ne.symm (by assumption)) _) (p := ⟨gky, 1, none⟩) (by first | assumption | exact Ne.symm (by assumption)) _); clear kx; have kx := kx_; clear kx_
          have ky_ := ((ky.set 0 (.int .i64 Y.lo)).set 1 (.int .i64 Y.hi))
          simp at ky_
          clear ky; have ky := ky_; clear ky_
          clear y0 f0 y1 f1
          refine hK _ _ (fun _ => eya99) ?_
          clear hK K
          generalize ((vya98.setCell ⟨gky, 0, none⟩ (.int .i64 Y.lo)).setCell ⟨gky, 1, none⟩ (.int .i64 Y.hi)) = vya100 at *
          refine any_done (by kernel_rfl) (NoPanic.normal ?_)
          exact ⟨rfl, by simp [setAll], rfl, _, _, rfl, rfl, by first | assumption | exact Ne.symm (by assumption), kx, ky, eya99⟩
        ·skip
         intro K hK
         have qya102 := eya75.size
         have eya101 : Below wr.heap.size wr (vya77.alloc (.cells #[.int .i64 0, .int .i64 0] 42)) := Below.alloc eya75 eya75.size _
         have hnx : Below vya77.heap.size vya77 (vya77.alloc (.cells #[.int .i64 0, .int .i64 0] 42)) := Below.alloc (Below.refl _ _) (Nat.le_refl _) _
         go_wp2_with fail
         have nekxky : gkx ≠ vya77.heap.size := Nat.ne_of_lt kx.lt
         replace kx := kx.below hnx kx.lt
         replace hT := (RS.below hT hnx).more hnx.size
         have ky : BK (vya77.alloc (.cells #[.int .i64 0, .int .i64 0] 42)) vya77.heap.size #[.int .i64 0, .int .i64 0] 42 := BK.new _ _ _
         refine hK _ _ (fun _ => eya101) ?_
         clear hK K hnx
         generalize (vya77.alloc (.cells #[.int .i64 0, .int .i64 0] 42)) = vya103 at *
         obtain ⟨gky, hgky⟩ : ∃ g, vya77.heap.size = g := ⟨_, rfl⟩
         have hqky : wr.heap.size ≤ gky := by omega
         rw [hgky] at ky nekxky
         try rw [hgky]
         clear hgky
         refine any_run1 (i := 2) (by kernel_rfl) (by rfl) (by kernel_rfl) ?_
         intro K hK
         have qya106 := eya101.size
         go_wp2_with fail
         refine (tube_any l _ m ((i : Int) - 1) _ HO.out h20 hi2 hT).mono ?_
         rintro e vya105 ⟨rfl, hb⟩
         rw [HXE.out]
         unfold rV
         have eya104 : Below wr.heap.size wr vya105 := eya101.trans (hb.mono eya101.size)
         replace kx := kx.below hb kx.lt
         replace ky := ky.below hb ky.lt
         replace hT := (RS.below hT hb).more hb.size
         clear hb
         refine hK _ _ (fun _ => eya104) ?_
         clear hK K
         refine any_run1 (i := 5) (by kernel_rfl) (by rfl) (by kernel_rfl) ?_
         intro K hK
         have qya109 := eya104.size
         go_wp2_with fail
         refine (tube_any l _ m ((k : Int) - 1) _ HO.out h20 hlk' hT).mono ?_
         rintro e vya108 ⟨rfl, hb⟩
         rw [HYE.out]
         unfold rV
         have eya107 : Below wr.heap.size wr vya108 := eya104.trans (hb.mono eya104.size)
         replace kx := kx.below hb kx.lt
         replace ky := ky.below hb ky.lt
         replace hT := (RS.below hT hb).more hb.size
         clear hb
         refine hK _ _ (fun _ => eya107) ?_
         clear hK K
         refine any_run1 (i := 8) (by kernel_rfl) (by rfl) (by kernel_rfl) ?_
         intro K hK
         have lkx := kx.lt
         have y0 := kx.cell 0
         have f0 := kx.frozen 0
         have y1 := kx.cell 1
         have f1 := kx.frozen 1
         simp at y0 y1
         go_wp2_with fail
         have eya110 : Below wr.heap.size wr ((vya108.setCell ⟨gkx, 0, none⟩ (.int .i64 X.lo)).setCell ⟨gkx, 1, none⟩ (.int .i64 X.hi)) := by exact bel_of
         have ky_ : BK ((vya108.setCell ⟨gkx, 0, none⟩ (.int .i64 X.lo)).setCell ⟨gkx, 1, none⟩ (.int .i64 X.hi)) gky _ _ := (BK.far (BK.far ky (p := ⟨gkx, 0, none⟩) (by first | assumption | exact Ne.symm (by assumption)) _) (p := ⟨gkx, 1, none⟩) (by first | assumption | exact Ne.symm (by assumption)) _); clear ky; have ky := ky_; clear ky_
         have kx_ := ((kx.set 0 (.int .i64 X.lo)).set 1 (.int .i64 X.hi))
         simp at kx_
         clear kx; have kx := kx_; clear kx_
         clear y0 f0 y1 f1
         refine hK _ _ (fun _ => eya110) ?_
         clear hK K
         generalize ((vya108.setCell ⟨gkx, 0, none⟩ (.int .i64 X.lo)).setCell ⟨gkx, 1, none⟩ (.int .i64 X.hi)) = vya111 at *
         refine any_run1 (i := 9) (by kernel_rfl) (by rfl) (by kernel_rfl) ?_
         intro K hK
         have lky := ky.lt
         have y0 := ky.cell 0
         have f0 := ky.frozen 0
         have y1 := ky.cell 1
         have f1 := ky.frozen 1
         simp at y0 y1
         go_wp2_with fail
         have eya112 : Below wr.heap.size wr ((vya111.setCell ⟨gky, 0, none⟩ (.int .i64 Y.lo)).setCell ⟨gky, 1, none⟩ (.int .i64 Y.hi)) := by exact bel_of
         have kx_ : BK ((vya111.setCell ⟨gky, 0, none⟩ (.int .i64 Y.lo)).setCell ⟨gky, 1, none⟩ (.int .i64 Y.hi)) gkx _ _ := (BK.far (BK.far kx (p := ⟨gky, 0, none⟩) (by first | assumption | exact Ne.symm (by assumption)) _) (p := ⟨gky, 1, none⟩) (by first | assumption | exact Ne.symm (by assumption)) _); clear kx; have kx := kx_; clear kx_
         have ky_ := ((ky.set 0 (.int .i64 Y.lo)).set 1 (.int .i64 Y.hi))
         simp at ky_
         clear ky; have ky := ky_; clear ky_
         clear y0 f0 y1 f1
         refine hK _ _ (fun _ => eya112) ?_
         clear hK K
         generalize ((vya111.setCell ⟨gky, 0, none⟩ (.int .i64 Y.lo)).setCell ⟨gky, 1, none⟩ (.int .i64 Y.hi)) = vya113 at *
         refine any_done (by kernel_rfl) (NoPanic.normal ?_)
         exact ⟨rfl, by simp [setAll], rfl, _, _, rfl, rfl, by first | assumption | exact Ne.symm (by assumption), kx, ky, eya112⟩
       ·skip
        intro K hK
        have qya115 := dya1.size
        have eya114 : Below wr.heap.size wr (uya2.alloc (.cells #[.int .i64 0, .int .i64 0] 42)) := Below.alloc dya1 dya1.size _
        have hnx : Below uya2.heap.size uya2 (uya2.alloc (.cells #[.int .i64 0, .int .i64 0] 42)) := Below.alloc (Below.refl _ _) (Nat.le_refl _) _
        go_wp2_with fail
        replace hT := (RS.below hT hnx).more hnx.size
        have ky : BK (uya2.alloc (.cells #[.int .i64 0, .int .i64 0] 42)) uya2.heap.size #[.int .i64 0, .int .i64 0] 42 := BK.new _ _ _
        refine hK _ _ (fun _ => eya114) ?_
        clear hK K hnx
        generalize (uya2.alloc (.cells #[.int .i64 0, .int .i64 0] 42)) = vya116 at *
        obtain ⟨gky, hgky⟩ : ∃ g, uya2.heap.size = g := ⟨_, rfl⟩
        have hqky : wr.heap.size ≤ gky := by omega
        rw [hgky] at ky
        try rw [hgky]
        clear hgky
        refine any_run2 (i := 2) (j := 6) (by kernel_rfl) (by rfl) (by rfl) (by rfl) (by rfl) ?_ ?_
        ·skip
         intro K hK
         have qya119 := eya114.size
         go_wp2_with fail
         refine (tube_any l _ m ((i : Int) - 1) _ HO.out h20 hi2 hT).mono ?_
         rintro e vya118 ⟨rfl, hb⟩
         rw [HXE.out]
         unfold rV
         have eya117 : Below wr.heap.size wr vya118 := eya114.trans (hb.mono eya114.size)
         replace ky := ky.below hb ky.lt
         replace hT := (RS.below hT hb).more hb.size
         clear hb
         refine hK _ _ (fun _ => eya117) ?_
         clear hK K
         refine any_run2 (i := 5) (j := 6) (by kernel_rfl) (by rfl) (by rfl) (by rfl) (by rfl) ?_ ?_
         ·skip
          intro K hK
          have qya122 := eya117.size
          go_wp2_with fail
          refine (tube_any l _ m ((k : Int) - 1) _ HO.out h20 hlk' hT).mono ?_
          rintro e vya121 ⟨rfl, hb⟩
          rw [HYE.out]
          unfold rV
          have eya120 : Below wr.heap.size wr vya121 := eya117.trans (hb.mono eya117.size)
          replace ky := ky.below hb ky.lt
          replace hT := (RS.below hT hb).more hb.size
          clear hb
          refine hK _ _ (fun _ => eya120) ?_
          clear hK K
          refine any_run1 (i := 6) (by kernel_rfl) (by rfl) (by kernel_rfl) ?_
          intro K hK
          have qya124 := eya120.size
          have eya123 : Below wr.heap.size wr (vya121.alloc (.cells #[.int .i64 0, .int .i64 0] 42)) := Below.alloc eya120 eya120.size _
          have hnx : Below vya121.heap.size vya121 (vya121.alloc (.cells #[.int .i64 0, .int .i64 0] 42)) := Below.alloc (Below.refl _ _) (Nat.le_refl _) _
          go_wp2_with fail
          have nekykx : gky ≠ vya121.heap.size := Nat.ne_of_lt ky.lt
          replace ky := ky.below hnx ky.lt
          replace hT := (RS.below hT hnx).more hnx.size
          have kx : BK (vya121.alloc (.cells #[.int .i64 0, .int .i64 0] 42)) vya121.heap.size #[.int .i64 0, .int .i64 0] 42 := BK.new _ _ _
          refine hK _ _ (fun _ => eya123) ?_
          clear hK K hnx
          generalize (vya121.alloc (.cells #[.int .i64 0, .int .i64 0] 42)) = vya125 at *
          obtain ⟨gkx, hgkx⟩ : ∃ g, vya121.heap.size = g := ⟨_, rfl⟩
          have hqkx : wr.heap.size ≤ gkx := by omega
          rw [hgkx] at kx nekykx
          try rw [hgkx]
          clear hgkx
          refine any_run1 (i := 8) (by kernel_rfl) (by rfl) (by kernel_rfl) ?_
          intro K hK
          have lkx := kx.lt
          have y0 := kx.cell 0
          have f0 := kx.frozen 0
          have y1 := kx.cell 1
          have f1 := kx.frozen 1
          simp at y0 y1
          go_wp2_with fail
          have eya126 : Below wr.heap.size wr ((vya125.setCell ⟨gkx, 0, none⟩ (.int .i64 X.lo)).setCell ⟨gkx, 1, none⟩ (.int .i64 X.hi)) := by exact bel_of
          have ky_ : BK ((vya125.setCell ⟨gkx, 0, none⟩ (.int .i64 X.lo)).setCell ⟨gkx, 1, none⟩ (.int .i64 X.hi)) gky _ _ := (BK.far (BK.far ky (p := ⟨gkx, 0, none⟩) (by first | assumption | exact Ne.symm (by assumption)) _) (p := ⟨gkx, 1, none⟩) (by first | assumption | exact Ne.symm (by assumption)) _); clear ky; have ky := ky_; clear ky_
          have kx_ := ((kx.set 0 (.int .i64 X.lo)).set 1 (.int .i64 X.hi))
          simp at kx_
          clear kx; have kx := kx_; clear kx_
          clear y0 f0 y1 f1
          refine hK _ _ (fun _ => eya126) ?_
          clear hK K
          generalize ((vya125.setCell ⟨gkx, 0, none⟩ (.int .i64 X.lo)).setCell ⟨gkx, 1, none⟩ (.int .i64 X.hi)) = vya127 at *
          refine any_run1 (i := 9) (by kernel_rfl) (by rfl) (by kernel_rfl) ?_
          intro K hK
          have lky := ky.lt
          have y0 := ky.cell 0
          have f0 := ky.frozen 0
          have y1 := ky.cell 1
          have f1 := ky.frozen 1
          simp at y0 y1
          go_wp2_with fail
          have eya128 : Below wr.heap.size wr ((vya127.setCell ⟨gky, 0, none⟩ (.int .i64 Y.lo)).setCell ⟨gky, 1, none⟩ (.int .i64 Y.hi)) := by exact bel_of
          have kx_ : BK ((vya127.setCell ⟨gky, 0, none⟩ (.int .i64 Y.lo)).setCell ⟨gky, 1, none⟩ (.int .i64 Y.hi)) gkx _ _ := (BK.far (BK.far kx (p := ⟨gky, 0, none⟩) (by first | assumption | exact Ne.symm (by assumption)) _) (p := ⟨gky, 1, none⟩) (by first | assumption | exact Ne.symm (by assumption)) _); clear kx; have kx := kx_; clear kx_
          have ky_ := ((ky.set 0 (.int .i64 Y.lo)).set 1 (.int .i64 Y.hi))
          simp at ky_
          clear ky; have ky := ky_; clear ky_
          clear y0 f0 y1 f1
          refine hK _ _ (fun _ => eya128) ?_
          clear hK K
          generalize ((vya127.setCell ⟨gky, 0, none⟩ (.int .i64 Y.lo)).setCell ⟨gky, 1, none⟩ (.int .i64 Y.hi)) = vya129 at *
          refine any_done (by kernel_rfl) (NoPanic.normal ?_)
          exact ⟨rfl, by simp [setAll], rfl, _, _, rfl, rfl, by first | assumption | exact Ne.symm (by assumption), kx, ky, eya128⟩
         ·skip
          intro K hK
          have qya131 := eya117.size
          have eya130 : Below wr.heap.size wr (vya118.alloc (.cells #[.int .i64 0, .int .i64 0] 42)) := Below.alloc eya117 eya117.size _
          have hnx : Below vya118.heap.size vya118 (vya118.alloc (.cells #[.int .i64 0, .int .i64 0] 42)) := Below.alloc (Below.refl _ _) (Nat.le_refl _) _
          go_wp2_with fail
          have nekykx : gky ≠ vya118.heap.size := Nat.ne_of_lt ky.lt
          replace ky := ky.below hnx ky.lt
          replace hT := (RS.below hT hnx).more hnx.size
          have kx : BK (vya118.alloc (.cells #[.int .i64 0, .int .i64 0] 42)) vya118.heap.size #[.int .i64 0, .int .i64 0] 42 := BK.new _ _ _
          refine hK _ _ (fun _ => eya130) ?_
          clear hK K hnx
          generalize (vya118.alloc (.cells #[.int .i64 0, .int .i64 0] 42)) = vya132 at *
          obtain ⟨gkx, hgkx⟩ : ∃ g, vya118.heap.size = g := ⟨_, rfl⟩
          have hqkx : wr.heap.size ≤ gkx := by omega
          rw [hgkx] at kx nekykx
          try rw [hgkx]
          clear hgkx
          refine any_run1 (i := 5) (by kernel_rfl) (by rfl) (by kernel_rfl) ?_
          intro K hK
          have qya135 := eya130.size
          go_wp2_with fail
          refine (tube_any l _ m ((k : Int) - 1) _ HO.out h20 hlk' hT).mono ?_
          rintro e vya134 ⟨rfl, hb⟩
          rw [HYE.out]
          unfold rV
          have eya133 : Below wr.heap.size wr vya134 := eya130.trans (hb.mono eya130.size)
          replace ky := ky.below hb ky.lt
          replace kx := kx.below hb kx.lt
          replace hT := (RS.below hT hb).more hb.size
          clear hb
          refine hK _ _ (fun _ => eya133) ?_
          clear hK K
          refine any_run1 (i := 8) (by kernel_rfl) (by rfl) (by kernel_rfl) ?_
          intro K hK
          have lkx := kx.lt
          have y0 := kx.cell 0
          have f0 := kx.frozen 0
          have y1 := kx.cell 1
          have f1 := kx.frozen 1
          simp at y0 y1
          go_wp2_with fail
          have eya136 : Below wr.heap.size wr ((vya134.setCell ⟨gkx, 0, none⟩ (.int .i64 X.lo)).setCell ⟨gkx, 1, none⟩ (.int .i64 X.hi)) := by exact bel_of
          have ky_ : BK ((vya134.setCell ⟨gkx, 0, none⟩ (.int .i64 X.lo)).setCell ⟨gkx, 1, none⟩ (.int .i64 X.hi)) gky _ _ := (BK.far (BK.far ky (p := ⟨gkx, 0, none⟩) (by first | assumption | exact Ne.symm (by assumption)) _) (p := ⟨gkx, 1, none⟩) (by first | assumption | exact Ne.symm (by assumption)) _); clear ky; have ky := ky_; clear ky_
          have kx_ := ((kx.set 0 (.int .i64 X.lo)).set 1 (.int .i64 X.hi))
          simp at kx_
          clear kx; have kx := kx_; clear kx_
          clear y0 f0 y1 f1
          refine hK _ _ (fun _ => eya136) ?_
          clear hK K
          generalize ((vya134.setCell ⟨gkx, 0, none⟩ (.int .i64 X.lo)).setCell ⟨gkx, 1, none⟩ (.int .i64 X.hi)) = vya137 at *
          refine any_run1 (i := 9) (by kernel_rfl) (by rfl) (by kernel_rfl) ?_
          intro K hK
          have lky := ky.lt
          have y0 := ky.cell 0
          have f0 := ky.frozen 0
          have y1 := ky.cell 1
          have f1 := ky.frozen 1
          simp at y0 y1
          go_wp2_with fail
          have eya138 : Below wr.heap.size wr ((vya137.setCell ⟨gky, 0, none⟩ (.int .i64 Y.lo)).setCell ⟨gky, 1, none⟩ (.int .i64 Y.hi)) := by exact bel_of
          have kx_ : BK ((vya137.setCell ⟨gky, 0, none⟩ (.int .i64 Y.lo)).setCell ⟨gky, 1, none⟩ (.int .i64 Y.hi)) gkx _ _ := (BK.far (BK.far kx (p := ⟨gky, 0, none⟩) (by first | assumption | exact Ne.symm (by assumption)) _) (p := ⟨gky, 1, none⟩) (by first | assumption | exact Ne.symm (by assumption)) _); clear kx; have kx := kx_; clear kx_
          have ky_ := ((ky.set 0 (.int .i64 Y.lo)).set 1 (.int .i64 Y.hi))
          simp at ky_
          clear ky; have ky := ky_; clear ky_
          clear y0 f0 y1 f1
          refine hK _ _ (fun _ => eya138) ?_
          clear hK K
          generalize ((vya137.setCell ⟨gky, 0, none⟩ (.int .i64 Y.lo)).setCell ⟨gky, 1, none⟩ (.int .i64 Y.hi)) = vya139 at *
          refine any_done (by kernel_rfl) (NoPanic.normal ?_)
          exact ⟨rfl, by simp [setAll], rfl, _, _, rfl, rfl, by first | assumption | exact Ne.symm (by assumption), kx, ky, eya138⟩
        ·skip
         intro K hK
         have qya141 := eya114.size
         have eya140 : Below wr.heap.size wr (vya116.alloc (.cells #[.int .i64 0, .int .i64 0] 42)) := Below.alloc eya114 eya114.size _
         have hnx : Below vya116.heap.size vya116 (vya116.alloc (.cells #[.int .i64 0, .int .i64 0] 42)) := Below.alloc (Below.refl _ _) (Nat.le_refl _) _
         go_wp2_with fail
         have nekykx : gky ≠ vya116.heap.size := Nat.ne_of_lt ky.lt
         replace ky := ky.below hnx ky.lt
         replace hT := (RS.below hT hnx).more hnx.size
         have kx : BK (vya116.alloc (.cells #[.int .i64 0, .int .i64 0] 42)) vya116.heap.size #[.int .i64 0, .int .i64 0] 42 := BK.new _ _ _
         refine hK _ _ (fun _ => eya140) ?_
         clear hK K hnx
         generalize (vya116.alloc (.cells #[.int .i64 0, .int .i64 0] 42)) = vya142 at *
         obtain ⟨gkx, hgkx⟩ : ∃ g, vya116.heap.size = g := ⟨_, rfl⟩
         have hqkx : wr.heap.size ≤ gkx := by omega
         rw [hgkx] at kx nekykx
         try rw [hgkx]
         clear hgkx
         refine any_run1 (i := 2) (by kernel_rfl) (by rfl) (by kernel_rfl) ?_
         intro K hK
         have qya145 := eya140.size
         go_wp2_with fail
         refine (tube_any l _ m ((i : Int) - 1) _ HO.out h20 hi2 hT).mono ?_
         rintro e vya144 ⟨rfl, hb⟩
         rw [HXE.out]
         unfold rV
         have eya143 : Below wr.heap.size wr vya144 := eya140.trans (hb.mono eya140.size)
         replace ky := ky.below hb ky.lt
         replace kx := kx.below hb kx.lt
         replace hT := (RS.below hT hb).more hb.size
         clear hb
         refine hK _ _ (fun _ => eya143) ?_
         clear hK K
         refine any_run1 (i := 5) (by kernel_rfl) (by rfl) (by kernel_rfl) ?_
         intro K hK
         have qya148 := eya143.size
         go_wp2_with fail
         refine (tube_any l _ m ((k : Int) - 1) _ HO.out h20 hlk' hT).mono ?_
         rintro e vya147 ⟨rfl, hb⟩
         rw [HYE.out]
         unfold rV
         have eya146 : Below wr.heap.size wr vya147 := eya143.trans (hb.mono eya143.size)
         replace ky := ky.below hb ky.lt
         replace kx := kx.below hb kx.lt
         replace hT := (RS.below hT hb).more hb.size
         clear hb
         refine hK _ _ (fun _ => eya146) ?_
         clear hK K
         refine any_run1 (i := 8) (by kernel_rfl) (by rfl) (by kernel_rfl) ?_
         intro K hK
         have lkx := kx.lt
         have y0 := kx.cell 0
         have f0 := kx.frozen 0
         have y1 := kx.cell 1
         have f1 := kx.frozen 1
         simp at y0 y1
         go_wp2_with fail
         have eya149 : Below wr.heap.size wr ((vya147.setCell ⟨gkx, 0, none⟩ (.int .i64 X.lo)).setCell ⟨gkx, 1, none⟩ (.int .i64 X.hi)) := by exact bel_of
         have ky_ : BK ((vya147.setCell ⟨gkx, 0, none⟩ (.int .i64 X.lo)).setCell ⟨gkx, 1, none⟩ (.int .i64 X.hi)) gky _ _ := (BK.far (BK.far ky (p := ⟨gkx, 0, none⟩) (by first | assumption | exact Ne.symm (by assumption)) _) (p := ⟨gkx, 1, none⟩) (by first | assumption | exact Ne.symm (by assumption)) _); clear ky; have ky := ky_; clear ky_
         have kx_ := ((kx.set 0 (.int .i64 X.lo)).set 1 (.int .i64 X.hi))
         simp at kx_
         clear kx; have kx := kx_; clear kx_
         clear y0 f0 y1 f1
         refine hK _ _ (fun _ => eya149) ?_
         clear hK K
         generalize ((vya147.setCell ⟨gkx, 0, none⟩ (.int .i64 X.lo)).setCell ⟨gkx, 1, none⟩ (.int .i64 X.hi)) = vya150 at *
         refine any_run1 (i := 9) (by kernel_rfl) (by rfl) (by kernel_rfl) ?_
         intro K hK
         have lky := ky.lt
         have y0 := ky.cell 0
         have f0 := ky.frozen 0
         have y1 := ky.cell 1
         have f1 := ky.frozen 1
         simp at y0 y1
         go_wp2_with fail
         have eya151 : Below wr.heap.size wr ((vya150.setCell ⟨gky, 0, none⟩ (.int .i64 Y.lo)).setCell ⟨gky, 1, none⟩ (.int .i64 Y.hi)) := by exact bel_of
         have kx_ : BK ((vya150.setCell ⟨gky, 0, none⟩ (.int .i64 Y.lo)).setCell ⟨gky, 1, none⟩ (.int .i64 Y.hi)) gkx _ _ := (BK.far (BK.far kx (p := ⟨gky, 0, none⟩) (by first | assumption | exact Ne.symm (by assumption)) _) (p := ⟨gky, 1, none⟩) (by first | assumption | exact Ne.symm (by assumption)) _); clear kx; have kx := kx_; clear kx_
         have ky_ := ((ky.set 0 (.int .i64 Y.lo)).set 1 (.int .i64 Y.hi))
         simp at ky_
         clear ky; have ky := ky_; clear ky_
         clear y0 f0 y1 f1
         refine hK _ _ (fun _ => eya151) ?_
         clear hK K
         generalize ((vya150.setCell ⟨gky, 0, none⟩ (.int .i64 Y.lo)).setCell ⟨gky, 1, none⟩ (.int .i64 Y.hi)) = vya152 at *
         refine any_done (by kernel_rfl) (NoPanic.normal ?_)
         exact ⟨rfl, by simp [setAll], rfl, _, _, rfl, rfl, by first | assumption | exact Ne.symm (by assumption), kx, ky, eya151⟩
      clear lbx bxc0 bxc1
      rintro u V ⟨gx, gy, hu7, hu8, hxy, kx, ky, hbz⟩
      simp only [setAll, List.foldl, List.setIfInBounds_toArray, List.set_cons_succ, List.set_cons_zero, hu7, hu8]
      clear hu7 hu8
      have HBW := Lib.hid (HBA.out.trans (hbz.mono HBA.out.size))
      have HBV := Lib.hid (HBK.out.trans (hbz.mono HBK.out.size))
      replace hC : Below n0 w V := hC.trans (hbz.mono (by have := hC.size; omega))
      replace hT := (RS.below hT hbz).more hbz.size
      replace bx := bx.below hbz bx.lt
      clear hbz
      have lbx := bx.lt
      have bxc0 := bx.cell 0
      have bxc1 := bx.cell 1
      simp at bxc0 bxc1
      have lkx := kx.lt
      have kxc0 := kx.cell 0
      have kxc1 := kx.cell 1
      simp at kxc0 kxc1
      have lky := ky.lt
      have kyc0 := ky.cell 0
      have kyc1 := ky.cell 1
      simp at kyc0 kyc1
      have hF2 : (k : Int) - 1 - ((i : Int) - 1) = (k : Int) - i := by omega
      obtain ⟨F, hF⟩ : ∃ F, m * ((k : Int) - (i : Int)) = F := ⟨_, rfl⟩
      have HFF := Lib.hid hF
      have hcb2 := HCB.out
      rw [hF] at hcb2
      by_cases hq : F < M
      case pos =>
        have hq2 : clB l m i k = true := by rw [hcb2]; exact decide_eq_true hq
        have HQ := Lib.hid (show ClQ l m ((i : Int) - 1) ((k : Int) - 1) 0 from ClQ.ok HB.out (.inl ⟨i, k, hik, by have := HNE.out; omega, hq2, fun i' k' h1 h2 h3 => by
          rcases h3 with h3 | ⟨rfl, h3⟩
          · exact HNO.out i' k' h1 (by have := HNE.out; omega) h3
          · exact HNK.out k' h1 h3, rfl, rfl, rfl⟩))
        rw [← hF] at hq
        have dq : decide (m * ((k : Int) - (i : Int)) < M) = true := decide_eq_true hq
        clear hcb2 hq2 hF HFF
        go_wp2_with fail
        exact bodyPost_ret (v := .tuple #[.int .i64 ((i : Int) - 1), .int .i64 ((k : Int) - 1), .int .i64 0]) (by simp [results, Try.results21, go_sem]) rfl ⟨_, _, _, rfl, HQ.out, by first | exact hC | (rw [hn0]; exact hC) | (with_reducible rw [hn0]; exact bel_of) | exact bel_of⟩
      have hq2 : clB l m i k = false := by rw [hcb2]; exact decide_eq_false hq
      have HQ := Lib.hid hq2
      rw [← hF] at hq
      have dq : decide (m * ((k : Int) - (i : Int)) < M) = false := decide_eq_false hq
      clear hcb2 hq2 hF HFF
      go_wp2_with fail
      go_roundw
      case rel =>
        refine ⟨HBW.out, k + 1, by omega, by omega, by congr 1; omega, fun k' h1 h2 => ?_⟩
        rcases Nat.lt_succ_iff_lt_or_eq.1 h2 with h3 | rfl
        · exact HNK.out k' h1 h3
        · exact HQ.out
      case measure => simp [intOf]; omega
end Go.Proofs.Ytgbegdjakadbbaa

set_option linter.all false
namespace Go.Proofs.Ytgbegdjakadbbaa
open Go.RowKit Vp

theorem aftL_len (l : List St) (m : Int) (xs : List Int) : (aftL l m xs).length ≤ l.length := by
  unfold aftL
  split <;> simp [turL_length]
set_option maxHeartbeats 16000000 in
set_option maxRecDepth 100000 in
theorem warpBlades_any (l : List St) (vs : Value) (m : Int) (xs : List Int) (vx : Value) (w : World) (hT : RT w w.heap.size vs l) (hlM : l.length ≤ maxLen) (hmI : okI m) (hX : RI w w.heap.size vx xs) (hxM : xs.length ≤ maxLen) :
    Calls Try.prog 3 #[bV vs m, vx] w fun x w' => x = .returned (.bool true) ∧ Below w.heap.size w w' := by
  unfold bV
  obtain ⟨b, off, cap, A, rfl, -, hcap⟩ := hT.slice
  obtain ⟨bx0, ox0, cx, Ax, rfl, -, hxcap⟩ := hX.slice
  obtain ⟨n0, hn0⟩ : ∃ n, w.heap.size = n := ⟨_, rfl⟩
  have hC : Below n0 w w := Below.refl _ _
  go_enter Try.func3, Try.ntmps3
  go_upto_region 1 with fail
  have hqbx : n0 ≤ n0 := by have := hC.size; omega
  have bx : BK (w.alloc (.cells #[.slice A l.length cap, .int .i64 m] 24)) (n0) #[.slice A l.length cap, .int .i64 m] 24 := BK.new' _ _ _ (n0) hn0
  have hsbx : (w.alloc (.cells #[.slice A l.length cap, .int .i64 m] 24)).heap.size = n0 + 1 := by simp [hn0]
  replace hC : Below n0 w (w.alloc (.cells #[.slice A l.length cap, .int .i64 m] 24)) := Below.alloc hC (by have := hC.size; omega) _
  replace hT := (RS.below hT (w' := (w.alloc (.cells #[.slice A l.length cap, .int .i64 m] 24))) (Below.alloc (Below.refl _ _) (Nat.le_refl _) _)).more (B' := (w.alloc (.cells #[.slice A l.length cap, .int .i64 m] 24)).heap.size) (by simp)
  replace hX := (RS.below hX (w' := (w.alloc (.cells #[.slice A l.length cap, .int .i64 m] 24))) (Below.alloc (Below.refl _ _) (Nat.le_refl _) _)).more (B' := (w.alloc (.cells #[.slice A l.length cap, .int .i64 m] 24)).heap.size) (by simp)
  generalize (w.alloc (.cells #[.slice A l.length cap, .int .i64 m] 24)) = Wbx at *
  clear hsbx
  have lbx := bx.lt
  have bxc0 := bx.cell 0
  have bxc1 := bx.cell 1
  simp at bxc0 bxc1
  go_wp2_with fail
  clear lbx bxc0 bxc1
  refine (great_any l _ m _ hlM hT).mono ?_
  rintro e w1 ⟨rfl, hb⟩
  replace hC : Below n0 w w1 := hC.trans (hb.mono (by have := hC.size; omega))
  replace hT := (RS.below hT hb).more hb.size
  replace hX := (RS.below hX hb).more hb.size
  replace bx := bx.below hb bx.lt
  clear hb
  by_cases hgr : 30 < l.length
  case pos =>
    rw [decide_eq_true hgr]
    clear hgr
    go_wp2_with fail
    refine (works_any _).mono ?_
    rintro e w2 ⟨rfl, hb⟩
    replace hC : Below n0 w w2 := hC.trans (hb.mono (by have := hC.size; omega))
    replace hT := (RS.below hT hb).more hb.size
    replace hX := (RS.below hX hb).more hb.size
    replace bx := bx.below hb bx.lt
    clear hb
    go_wp2_with fail
    exact bodyPost_ret (v := .bool true) (by simp [results, Try.results3, go_sem]) rfl ⟨rfl, by first | exact hC | (rw [hn0]; exact hC) | (with_reducible rw [hn0]; exact bel_of) | exact bel_of⟩
  rw [decide_eq_false hgr]
  have hlk : l.length ≤ 1000 := by omega
  clear hgr
  by_cases zhxl : 40 < xs.length
  case pos =>
    have zz : ((xs.length : Nat) : Int) > 40 := by omega
    have zd : decide (40 < xs.length) = true := decide_eq_true zhxl
    clear zhxl
    have lbx := bx.lt
    have bxc0 := bx.cell 0
    have bxc1 := bx.cell 1
    simp at bxc0 bxc1
    go_wp2_with fail
    clear lbx bxc0 bxc1
    refine (works_any _).mono ?_
    rintro e w2 ⟨rfl, hb⟩
    replace hC : Below n0 w w2 := hC.trans (hb.mono (by have := hC.size; omega))
    replace hT := (RS.below hT hb).more hb.size
    replace hX := (RS.below hX hb).more hb.size
    replace bx := bx.below hb bx.lt
    clear hb
    go_wp2_with fail
    exact bodyPost_ret (v := .bool true) (by simp [results, Try.results3, go_sem]) rfl ⟨rfl, by first | exact hC | (rw [hn0]; exact hC) | (with_reducible rw [hn0]; exact bel_of) | exact bel_of⟩
  have hxl : xs.length ≤ 40 := by omega
  have zzhxl : ¬ ((xs.length : Nat) : Int) > 40 := by omega
  have zdhxl : decide (40 < xs.length) = false := decide_eq_false zhxl
  clear zhxl
  have lbx := bx.lt
  have bxc0 := bx.cell 0
  have bxc1 := bx.cell 1
  simp at bxc0 bxc1
  go_wp2_with fail
  clear lbx bxc0 bxc1
  clear zzhxl zdhxl
  have hxk : xs.length ≤ 1000 := by omega
  refine (after_any l _ m xs _ _ hlk hxk hT hX hmI).mono ?_
  rintro e w2 ⟨v1, rfl, hown, hb⟩
  replace hC : Below n0 w w2 := hC.trans (hb.mono (by have := hC.size; omega))
  replace hT := (RS.below hT hb).more hb.size
  replace hX := (RS.below hX hb).more hb.size
  replace bx := bx.below hb bx.lt
  clear hb
  have h1 := OwnI.ri hown
  clear hown
  have hln : (aftL l m xs).length ≤ 1000 := Nat.le_trans (aftL_len l m xs) hlk
  have HLN := Lib.hid hln
  clear hln
  obtain ⟨ae, hae⟩ : ∃ e, aftE l m xs = e := ⟨_, rfl⟩
  rw [hae]
  have HAE := Lib.hid hae
  clear hae
  obtain ⟨AL, hAL⟩ : ∃ a, aftL l m xs = a := ⟨_, rfl⟩
  rw [hAL] at h1 HLN
  have HAL := Lib.hid hAL
  clear hAL
  have lbx := bx.lt
  have bxc0 := bx.cell 0
  have bxc1 := bx.cell 1
  simp at bxc0 bxc1
  go_wp2_with fail
  clear lbx bxc0 bxc1
  refine (afterR_any l _ m xs _ _ hlk hxk hT hX hmI).mono ?_
  rintro e w3 ⟨v2, rfl, hown, hb⟩
  replace hC : Below n0 w w3 := hC.trans (hb.mono (by have := hC.size; omega))
  replace hT := (RS.below hT hb).more hb.size
  replace hX := (RS.below hX hb).more hb.size
  replace bx := bx.below hb bx.lt
  replace h1 := (RS.below h1 hb).more hb.size
  clear hb
  have h2 := OwnI.ri hown
  clear hown
  rw [HAE.out]
  rw [HAL.out] at h2
  have lbx := bx.lt
  have bxc0 := bx.cell 0
  have bxc1 := bx.cell 1
  simp at bxc0 bxc1
  go_wp2_with fail
  clear lbx bxc0 bxc1
  refine (checkBlows_any l _ m xs _ _ hlk hxk hT hX hmI).mono ?_
  rintro e w4 ⟨rfl, hb⟩
  replace hC : Below n0 w w4 := hC.trans (hb.mono (by have := hC.size; omega))
  replace hT := (RS.below hT hb).more hb.size
  replace hX := (RS.below hX hb).more hb.size
  replace bx := bx.below hb bx.lt
  replace h1 := (RS.below h1 hb).more hb.size
  replace h2 := (RS.below h2 hb).more hb.size
  clear hb
  obtain ⟨ce, hce⟩ : ∃ e, chkE l m xs = e := ⟨_, rfl⟩
  obtain ⟨cv, hcv⟩ : ∃ e, chkV l m xs = e := ⟨_, rfl⟩
  rw [hce, hcv]
  have HCE := Lib.hid (And.intro hce hcv)
  clear hce hcv
  have lbx := bx.lt
  have bxc0 := bx.cell 0
  have bxc1 := bx.cell 1
  simp at bxc0 bxc1
  go_wp2_with fail
  clear lbx bxc0 bxc1
  refine (checkBlowsR_any l _ m xs _ _ hlk hxk hT hX hmI).mono ?_
  rintro e w5 ⟨rfl, hb⟩
  replace hC : Below n0 w w5 := hC.trans (hb.mono (by have := hC.size; omega))
  replace hT := (RS.below hT hb).more hb.size
  replace hX := (RS.below hX hb).more hb.size
  replace bx := bx.below hb bx.lt
  replace h1 := (RS.below h1 hb).more hb.size
  replace h2 := (RS.below h2 hb).more hb.size
  clear hb
  rw [HCE.out.1, HCE.out.2]
  have lbx := bx.lt
  have bxc0 := bx.cell 0
  have bxc1 := bx.cell 1
  simp at bxc0 bxc1
  go_wp2_with fail
  clear lbx bxc0 bxc1
  refine (Clash_any l _ m _ hlk hT).mono ?_
  rintro e w6 ⟨ka, kb, ke, rfl, hq1, hb⟩
  replace hC : Below n0 w w6 := hC.trans (hb.mono (by have := hC.size; omega))
  replace hT := (RS.below hT hb).more hb.size
  replace hX := (RS.below hX hb).more hb.size
  replace bx := bx.below hb bx.lt
  replace h1 := (RS.below h1 hb).more hb.size
  replace h2 := (RS.below h2 hb).more hb.size
  clear hb
  have HQ1 := Lib.hid hq1
  clear hq1
  have lbx := bx.lt
  have bxc0 := bx.cell 0
  have bxc1 := bx.cell 1
  simp at bxc0 bxc1
  go_wp2_with fail
  clear lbx bxc0 bxc1
  refine (clashR_any l _ m _ hlk hT).mono ?_
  rintro e w7 ⟨ka2, kb2, ke2, rfl, hq2, hb⟩
  replace hC : Below n0 w w7 := hC.trans (hb.mono (by have := hC.size; omega))
  replace hT := (RS.below hT hb).more hb.size
  replace hX := (RS.below hX hb).more hb.size
  replace bx := bx.below hb bx.lt
  replace h1 := (RS.below h1 hb).more hb.size
  replace h2 := (RS.below h2 hb).more hb.size
  clear hb
  obtain ⟨rfl, rfl, rfl⟩ := HQ1.out.uniq hq2
  clear hq2 HQ1
  have c1 : (ae == ae) = true := beq_self_eq_true ae
  have c2 : (cv == cv) = true := beq_self_eq_true cv
  have c3 : (ce == ce) = true := beq_self_eq_true ce
  have c4 : (ka == ka) = true := beq_self_eq_true ka
  have c5 : (kb == kb) = true := beq_self_eq_true kb
  have c6 : (ke == ke) = true := beq_self_eq_true ke
  obtain ⟨be, hbe⟩ : ∃ e, blaE l m = e := ⟨_, rfl⟩
  have HBE := Lib.hid hbe
  clear hbe
  have c7 : (be == be) = true := beq_self_eq_true be
  have lbx := bx.lt
  have bxc0 := bx.cell 0
  have bxc1 := bx.cell 1
  simp at bxc0 bxc1
  go_wp2_with fail
  refine wp_region_noPanic (plain_any [0, 2, 4, 5, 6, 7, 9, 10, 11, 12, 13, 14, 15, 16, 17, 18, 19, 20, 21, 22, 23, 24, 25, 26, 27, 28, 29, 30, 31, 32, 33, 34, 35, 36, 37, 38, 39, 40, 42, 43] (Below w7.heap.size w7) mixed ?_)
  refine any_tk 0 ?_
  have d0z : Below w7.heap.size w7 w7.drew := by exact bel_of
  refine any_tk 2 ?_
  have qz1 := d0z.size
  refine any_run1 (i := 1) (by kernel_rfl) (by rfl) (by kernel_rfl) ?_
  intro K hK
  go_wp2_with fail
  refine (check_any l _ m _ hlk ((RS.below hT d0z).more d0z.size)).mono ?_
  rintro e vz1 ⟨rfl, hb⟩
  rw [HBE.out]
  have ez1 : Below w7.heap.size w7 vz1 := d0z.trans (hb.mono d0z.size)
  clear hb
  refine hK _ _ (fun _ => ez1) ?_
  clear hK K
  have qz2 := ez1.size
  refine any_run1 (i := 3) (by kernel_rfl) (by rfl) (by kernel_rfl) ?_
  intro K hK
  go_wp2_with fail
  refine (checkR_any l _ m _ hlk ((RS.below hT ez1).more ez1.size)).mono ?_
  rintro e vz2 ⟨rfl, hb⟩
  rw [HBE.out]
  have ez2 : Below w7.heap.size w7 vz2 := ez1.trans (hb.mono ez1.size)
  clear hb
  refine hK _ _ (fun _ => ez2) ?_
  clear hK K
  refine any_tk 4 ?_
  refine any_tk 5 ?_
  refine any_tk 6 ?_
  refine any_tk 7 ?_
  have qz3 := ez2.size
  refine any_run1 (i := 8) (by kernel_rfl) (by rfl) (by kernel_rfl) ?_
  intro K hK
  go_wp2_with fail
  refine (longs_any AL AL _ _ _ HLN.out HLN.out ((RS.below h1 ez2).more ez2.size) ((RS.below h2 ez2).more ez2.size)).mono ?_
  rintro e vz3 ⟨rfl, hb⟩
  rw [decide_eq_true rfl]
  have ez3 : Below w7.heap.size w7 vz3 := ez2.trans (hb.mono ez2.size)
  clear hb
  refine hK _ _ (fun _ => ez3) ?_
  clear hK K
  refine any_tk 9 ?_
  refine any_tk 10 ?_
  refine any_tk 11 ?_
  refine any_tk 12 ?_
  refine any_tk 13 ?_
  refine any_tk 14 ?_
  refine any_tk 15 ?_
  refine any_tk 16 ?_
  refine any_tk 17 ?_
  refine any_tk 18 ?_
  refine any_tk 19 ?_
  refine any_tk 20 ?_
  refine any_tk 21 ?_
  refine any_tk 22 ?_
  refine any_tk 23 ?_
  refine any_tk 24 ?_
  refine any_tk 25 ?_
  refine any_tk 26 ?_
  refine any_tk 27 ?_
  refine any_tk 28 ?_
  refine any_tk 29 ?_
  refine any_tk 30 ?_
  refine any_tk 31 ?_
  refine any_tk 32 ?_
  refine any_tk 33 ?_
  refine any_tk 34 ?_
  refine any_tk 35 ?_
  refine any_tk 36 ?_
  refine any_tk 37 ?_
  refine any_tk 38 ?_
  refine any_tk 39 ?_
  refine any_tk 40 ?_
  have qz4 := ez3.size
  refine any_run1 (i := 41) (by kernel_rfl) (by rfl) (by kernel_rfl) ?_
  intro K hK
  go_wp2_with fail
  refine (works_any _).mono ?_
  rintro e vz4 ⟨rfl, hb⟩
  have ez4 : Below w7.heap.size w7 vz4 := ez3.trans (hb.mono ez3.size)
  clear hb
  refine hK _ _ (fun _ => ez4) ?_
  clear hK K
  refine any_tk 42 ?_
  refine any_tk 43 ?_
  refine any_done (by kernel_rfl) (NoPanic.normal ?_)
  have hb := ez4
  replace hC : Below n0 w vz4 := hC.trans (hb.mono (by have := hC.size; omega))
  replace hT := (RS.below hT hb).more hb.size
  replace hX := (RS.below hX hb).more hb.size
  replace bx := bx.below hb bx.lt
  replace h1 := (RS.below h1 hb).more hb.size
  replace h2 := (RS.below h2 hb).more hb.size
  clear hb
  go_wp2_with fail
  go_ret
  exact ⟨rfl, by first | exact hC | (rw [hn0]; exact hC) | (with_reducible rw [hn0]; exact bel_of) | exact bel_of⟩
end Go.Proofs.Ytgbegdjakadbbaa

namespace Go.Proofs.Ytgbegdjakadbbaa.warpBlades
open Go.ChangeShapes Go.WideShapes Go.ChangeAt Go.RowKit Go.Deep

set_option maxRecDepth 100000 in
theorem lifted (os : Os) (started : os.Started) (H : Type) (enc : TypeId × Value → H) :
    ReturnsInHanded {} Try.checked os 3 .any (Rows.warpBladesSpec.pre6 enc Try.prog Try.f3 Rows.warpBladesRow.domain false) (Rows.warpBladesSpec.post enc Try.prog Try.f3 false true false false) := by
  refine returnsInHanded_of_change (C := Try.checked) own started (by kernel_rfl) Try.func3
    (ChangeSpec.witness6 (enc := enc) (C := Try.checked) false ⟨#[], #[.agg #[.slice none 0 0, .int .i64 0], .slice none 0 0], []⟩ 8 (by kernel_rfl) (by kernel_rfl) (by kernel_rfl) (by kernel_rfl)) ?_
  intro W base args ds gs before hval0 hW hcnd _
  have hval : ∀ (j : Nat) t v, Try.f3.params[j]? = some t → args[j]? = some v → Value.okWide Try.prog W .any base t v := hval0
  have hW2 : DataW.Whole enc Try.prog Try.f3.params.toList Rows.warpBladesSpec.vars false W args.toList ds gs before := hW
  obtain ⟨p, q, hA0, hV, rfl, hfz, hnd⟩ := hW
  have hA : DataW.TrodAll enc Try.prog W 0 (fun _ => true) true Try.f3.params.toList args.toList ds p := hA0
  rw [Try.params3] at hA hval
  obtain ⟨v0, vs0, d0, ds0, p0, q0, hargs, rfl, rfl, h0, r0⟩ := trodAll_cons hA
  obtain ⟨v1, vs1, d1, ds1, p1, q1, rfl, rfl, rfl, h1, r1⟩ := trodAll_cons r0
  obtain ⟨rfl, rfl, rfl⟩ := trodAll_nil r1
  obtain rfl : args = #[v0, v1] := by cases args; simp_all
  obtain ⟨rfl, rfl⟩ := trodVars_none hV
  obtain ⟨vs0_, l0, m0, rfl, g0, k0, j0⟩ := open_blade (hval 0 24 v0 rfl rfl) h0
  obtain ⟨l1, g1, k1⟩ := open_i64s (hval 1 25 v1 rfl rfl) h1
  refine (warpBlades_any (l := l0) (m := m0) (vs := vs0_) (hT := g0) (hlM := k0) (hmI := j0) (xs := l1) (vx := v1) (hX := g1) (hxM := k1) (w := W)).mono fun e W' ⟨he, hg⟩ => ?_
  subst he
  exact ⟨_, rfl, law_done hW2 rfl rfl rfl (by rw [Try.params3]; decide +kernel) hg⟩

theorem over : Rows.warpBladesRow.holds Try.pinned (OpenSpec.ofChange Rows.warpBladesSpec) :=
  OpenClaim.holds_of_wide 3 Try.f3 rfl rfl rfl rfl rfl rfl rfl ⟨rfl, rfl, rfl, rfl, rfl⟩ rfl rfl rfl rfl rfl (by kernel_rfl) Try.func3 (by kernel_rfl)
    (of_decide_eq_true (by kernel_rfl)) (by unfold Func.isWrapper; first | (rw [if_pos (by decide +kernel)]; kernel_rfl) | (rw [if_neg (by decide +kernel)]; exact ⟨rfl, rfl⟩))
    (fun os started H enc _ => lifted os started H enc)

theorem proved : Rows.WarpBladesSaid :=
  over
end Go.Proofs.Ytgbegdjakadbbaa.warpBlades
namespace Go.Proofs.Ytgbegdjakadbbaa
theorem warpBlades_proved : Rows.WarpBladesSaid := warpBlades.proved
#print axioms warpBlades_proved
end Go.Proofs.Ytgbegdjakadbbaa
