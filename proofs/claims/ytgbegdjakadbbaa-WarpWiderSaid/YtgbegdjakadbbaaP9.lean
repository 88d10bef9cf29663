/- The program's table of what blows from a station on cost at least. -/
import Derived.Test.YtgbegdjakadbbaaP8
set_option linter.all false
set_option linter.unnecessarySimpa false
set_option linter.unusedSimpArgs false
set_option linter.unusedVariables false
set_option linter.unusedSectionVars false

set_option linter.all false
attribute [local go_sem] Go.Oper.semAt_some
namespace Go.Proofs.Ytgbegdjakadbbaa
open Go.RowKit Vp

def mkT53 (u : Nat → Value) : Array Value := #[u 0, u 1, u 2, u 3, u 4, u 5, u 6, u 7, u 8, u 9, u 10, u 11, u 12, u 13, u 14, u 15, u 16, u 17, u 18, u 19, u 20, u 21, u 22, u 23, u 24, u 25, u 26, u 27, u 28, u 29, u 30, u 31, u 32, u 33, u 34, u 35, u 36, u 37, u 38, u 39, u 40, u 41, u 42, u 43, u 44, u 45, u 46, u 47, u 48, u 49, u 50, u 51, u 52]
set_option maxHeartbeats 8000000 in
set_option maxRecDepth 100000 in
theorem togo_any (g : Nat) (l : List St) (m : Int) (k0 : Nat) (w : World) (hBn : Bn w w.heap.size g l m) (ho : ∀ s ∈ l, okSB s = true) (hm : 0 ≤ m ∧ m ≤ 200) (hn20 : l.length ≤ 20) (hk0 : k0 ≤ l.length) :
    Calls Try.prog 56 #[.pointer (some ⟨g, 0, none⟩), .int .i64 (k0 : Int)] w fun e w' => e = .returned (rowV (tgR m (l.drop k0))) ∧ Below w.heap.size w w' := by
  obtain ⟨n, hn⟩ : ∃ n, w.heap.size = n := ⟨_, rfl⟩
  have hz := row_zeroA
  obtain ⟨Z0, hZ0⟩ : ∃ L, (rowL noR).toArray = L := ⟨_, rfl⟩
  have HZ0 := Lib.hid hZ0
  rw [hZ0] at hz
  have HZ := Lib.hid hz
  rw [hn] at hBn ⊢
  have HBN := Lib.hid hBn
  have HO := Lib.hid ho
  clear hZ0 hBn ho
  refine calls_of_wp_marks Try.func56 rfl ?_
  simp only [Try.ntmps56, List.size_toArray, List.length_cons, List.length_nil, Nat.reduceAdd, Nat.reduceSub, Array.replicate_succ, Array.replicate_zero, List.push_toArray, List.append_toArray, List.nil_append, List.cons_append]
  go_upto_region 2 with fail
  have hR4 : Rw (((w.alloc (.cells #[.pointer (some ⟨g, 0, none⟩)] 71)).alloc (.cells Z0 83)).alloc (.cells Z0 83)) (n + 1) noR := by rw [← HZ0.out]; exact (Rw.new _ _ _ (by simp [hn])).alloc _
  have hR5 : Rw (((w.alloc (.cells #[.pointer (some ⟨g, 0, none⟩)] 71)).alloc (.cells Z0 83)).alloc (.cells Z0 83)) (n + 2) noR := by rw [← HZ0.out]; exact Rw.new _ _ _ (by simp [hn])
  have hb2 : BK (((w.alloc (.cells #[.pointer (some ⟨g, 0, none⟩)] 71)).alloc (.cells Z0 83)).alloc (.cells Z0 83)) n #[.pointer (some ⟨g, 0, none⟩)] 71 := ((BK.new' _ _ _ n hn).alloc _).alloc _
  have hC : Below n w (((w.alloc (.cells #[.pointer (some ⟨g, 0, none⟩)] 71)).alloc (.cells Z0 83)).alloc (.cells Z0 83)) := by exact bel_of
  have hs1 : (((w.alloc (.cells #[.pointer (some ⟨g, 0, none⟩)] 71)).alloc (.cells Z0 83)).alloc (.cells Z0 83)).heap.size = n + 3 := by simp [hn]
  have HS1 := Lib.hid hs1
  clear hz hs1
  generalize ((w.alloc (.cells #[.pointer (some ⟨g, 0, none⟩)] 71)).alloc (.cells Z0 83)).alloc (.cells Z0 83) = W1 at *
  have hcl := hR5.run_clear
  have hR5' : Rw (W1.setCells (n + 2) 0 (rowL noR)) (n + 2) noR := hR5.put noR
  have hR4' : Rw (W1.setCells (n + 2) 0 (rowL noR)) (n + 1) noR := hR4.heap (setCells_block _ _ _ _ _ (by omega))
  have hb2' : BK (W1.setCells (n + 2) 0 (rowL noR)) n #[.pointer (some ⟨g, 0, none⟩)] 71 := (setCells_block _ _ _ _ _ (by omega)).trans hb2
  have hC' : Below n w (W1.setCells (n + 2) 0 (rowL noR)) := setCells_below (by omega) _ _ _ hC
  have hs2 : (W1.setCells (n + 2) 0 (rowL noR)).heap.size = n + 3 := by rw [setCells_size]; exact HS1.out
  have HCL := Lib.hid hcl
  clear hcl hR4 hR5 hb2 hC
  generalize W1.setCells (n + 2) 0 (rowL noR) = W2 at *
  obtain ⟨vs, vt, hB0, hgn, hT, hR⟩ := HBN.out.below hC'
  obtain ⟨b, off, cap, A, rfl, -, hcap⟩ := hT.slice
  have lg : g < W2.heap.size := by omega
  have cg0 := hB0.cell 0
  simp at cg0
  have c2 := hb2'.cell 0
  simp at c2
  have l2 := hb2'.lt
  clear hT hR hB0
  have HS2 := Lib.hid hs2
  clear hs2
  have wl : IntKind.i64.wrap ((l.length : Int) - 1) = (l.length : Int) - 1 := by rw [IntKind.wrap_i64]; omega
  go_wp2_with (refine wpList_clear_run rfl (.tmp 10) 25 _ rfl (HCL.out _ _) ?_)
  have hb6 : BK (W2.alloc (.cells #[.int .i64 ((l.length : Int) - 1)] 3)) (n + 3) #[.int .i64 ((l.length : Int) - 1)] 3 := BK.new' _ _ _ _ HS2.out
  have hstart : TgSt w n g (tgR m (l.drop l.length)) (n + 3) ((l.length : Int) - 1) (W2.alloc (.cells #[.int .i64 ((l.length : Int) - 1)] 3)) :=
    ⟨hb2'.alloc _, hR4'.alloc _, by rw [List.drop_length]; exact hR5'.alloc _, hb6, Below.alloc hC' (by have := HS2.out; omega) _, by omega⟩
  have HST := Lib.hid hstart
  rw [HS2.out]
  clear hb6 hstart hR5' hR4' hb2' hC' HCL cg0 c2 l2 lg wl hcap
  generalize W2.alloc (.cells #[.int .i64 ((l.length : Int) - 1)] 3) = W3 at *
  refine wp_loop_u mkT53 (fun nn u ds X => ∃ Ds j q, ds = Ds.map mk ∧ nn + k0 = j ∧ j ≤ l.length ∧ (u 1 = .int .i64 (k0 : Int) ∧ u 2 = .pointer (some ⟨n, 0, none⟩) ∧ u 4 = .pointer (some ⟨n + 1, 0, none⟩) ∧ u 5 = .pointer (some ⟨n + 2, 0, none⟩) ∧ u 6 = .pointer (some ⟨q, 0, none⟩)) ∧ Marks Ds X ∧ (∀ D ∈ Ds, n + 2 < D) ∧ TgSt w n g (tgR m (l.drop j)) q ((j : Int) - 1) X) (l.length - k0) rfl ?_ ?_
  · exact ⟨[], l.length, n + 3, rfl, by omega, Nat.le_refl _, ⟨rfl, rfl, rfl, rfl, rfl⟩, ⟨List.nodup_nil, fun D hD => by simp at hD⟩, fun D hD => by simp at hD, HST.out⟩
  rintro nn u ds X ⟨Ds, j, q, rfl, hnj, hjl, ⟨u1, u2, u4, u5, u6⟩, hMk, hDs, hst⟩ K hK
  clear HST
  simp only [mkT53, u1, u2, u4, u5, u6]
  clear u1 u2 u4 u5 u6
  have y6 := hst.b6.cell 0
  have l6 := hst.b6.lt
  simp at y6
  cases nn with
  | zero =>
    obtain rfl : k0 = j := by omega
    have d1 : decide ((k0 : Int) ≤ (k0 : Int) - 1) = false := decide_eq_false (by omega)
    have hra := hst.r5.range
    have hsz := row_sizeL (tgR m (l.drop k0))
    have hpu := hst.r4.run_put (tgR m (l.drop k0))
    have hmk2 := hMk.putRow hst.r4 (rowL (tgR m (l.drop k0))) 0
    have hrr := ((hst.r4.put (tgR m (l.drop k0))).putAll hmk2).run_get
    have hCf : Below n w (putAll Ds (X.setCells (n + 1) 0 (rowL (tgR m (l.drop k0))))) := putAll_below Ds _ (setCells_below (by omega) _ _ _ hst.below) fun D hD => by have := hDs D hD; omega
    have hmx : rowV (tgR m (l.drop k0)) = .agg (rowL (tgR m (l.drop k0))).toArray := rfl
    obtain ⟨L, hL⟩ : ∃ L, rowL (tgR m (l.drop k0)) = L := ⟨_, rfl⟩
    rw [hL] at hra hsz hpu hmk2 hrr hCf hmx
    have HRA := Lib.hid hra
    have HSZ := Lib.hid hsz
    have HPU := Lib.hid hpu
    have HRR := Lib.hid hrr
    have HCF := Lib.hid hCf
    have HMX := Lib.hid hmx
    have HMK := Lib.hid hmk2
    clear hra hsz hpu hrr hCf hmx hmk2 hL hst hMk hDs
    go_wp2_with (first | refine wpList_load_mid rfl 83 (.tmp 5) rfl (n + 2) 0 rfl L _ HRA.out row_under rfl HSZ.out ?_ | refine wpList_store_run rfl 83 (.tmp 4) (.tmp 52) rfl HPU.out ?_)
    refine leave_row Ds _ HMK.out (v := .agg L.toArray) (results_row rfl rfl HRR.out) ⟨by rw [HMX.out], HCF.out⟩
  | succ nn =>
    obtain ⟨k, rfl⟩ : ∃ k, j = k + 1 := ⟨nn + k0, by omega⟩
    have hkl : k < l.length := by omega
    have hkl' : (k : Int) < (l.length : Int) := by omega
    have hkc : (((k + 1 : Nat) : Int) - 1) = (k : Int) := by omega
    rw [hkc] at y6 hst
    have d1 : decide ((k0 : Int) ≤ (k : Int)) = true := decide_eq_true (by omega)
    have hdr : l.drop k = nthS l k :: l.drop (k + 1) := by rw [nthS_eq hkl]; exact List.drop_eq_getElem_cons hkl
    have hos := okS_at HO.out hkl
    have hosb := HO.out _ (nthS_mem hkl)
    have htr := tub_rng hosb
    have HDR := Lib.hid hdr
    have HK := Lib.hid hK
    have HST := Lib.hid hst
    have HMk := Lib.hid hMk
    have HDs := Lib.hid hDs
    have hqX := hst.b6.lt
    have hnq := hst.lt
    clear hdr hK hst hMk hDs hkc
    go_wp2_with fail
    refine (nothing_any _).mono ?_
    rintro e w1 ⟨rfl, hb⟩
    have hst1 := HST.out.next hb hn
    have hmk1 := HMk.out.below hb
    have hDX := HMk.out.lt
    obtain ⟨q7, hq7⟩ : ∃ q7, w1.heap.size = q7 := ⟨_, rfl⟩
    have hsX := hb.size
    have hz := HZ.out
    have hsr := run_put_new w1 neverR _ rfl
    have hr7 : Rw (w1.alloc (.cells (rowL neverR).toArray 83)) q7 neverR := Rw.new _ _ _ hq7
    have hb1 : Below w1.heap.size w1 (w1.alloc (.cells (rowL neverR).toArray 83)) := Below.alloc (Below.refl _ _) (Nat.le_refl _) _
    have hst2 := hst1.next hb1 hn
    have hmk2 := hmk1.below hb1
    have hs8 : (w1.alloc (.cells (rowL neverR).toArray 83)).heap.size = q7 + 1 := by simp [hq7]
    have hq67 : q < q7 := by omega
    have hDq : ∀ D ∈ Ds, D < q7 := fun D hD => by have := hDX D hD; omega
    rw [HZ0.out] at hsr
    unfold rowV
    obtain ⟨L, hL⟩ : ∃ L, rowL neverR = L := ⟨_, rfl⟩
    rw [hL] at hsr hr7 hst2 hmk2 hs8 ⊢
    have HSR := Lib.hid hsr
    have HR7 := Lib.hid hr7
    have HST2 := Lib.hid hst2
    have HMK2 := Lib.hid hmk2
    have HS8 := Lib.hid hs8
    have HDQ := Lib.hid hDq
    have HQ7 := Lib.hid hq7
    have HQ67 := Lib.hid hq67
    clear hsr hr7 hst2 hmk2 hs8 hst1 hmk1 hb hb1 hL hsX y6 l6 hDX HST HMk hDq
    clear hq7
    go_wp2_with (refine wpList_store_run rfl 83 (.tmp 7) (.tmp 23) rfl HSR.out ?_)
    rw [HQ7.out]
    clear hz hq67
    refine (count_any _ _ _).mono ?_
    rintro e w2 ⟨rfl, hcm, hsz, hb⟩
    rw [HS8.out] at hcm hsz ⊢
    have hst3 := HST2.out.next hb hn
    have hmk3 := HMK2.out.below hb
    have hr73 : Rw w2 q7 (upto (tgR m (nthS l k :: l.drop (k + 1))) 0) := by
      rw [upto_zero]
      exact HR7.out.below hb HR7.out.lt
    have hI0 : TgI w n g (tgR m (l.drop (k + 1))) q k q7 (q7 + 1) (upto (tgR m (nthS l k :: l.drop (k + 1))) 0) Ds (q7 + 3) w2 := ⟨hst3, hr73, hcm, hmk3, by omega⟩
    have HI0 := Lib.hid hI0
    have HSZ2 := Lib.hid (show w2.heap.size = q7 + 3 by omega)
    clear hcm hsz hb hst3 hmk3 hr73 hI0 HST2 HMK2 HR7 HS8 HSR HQ7
    have hb6 := HI0.out.st.b6
    have hq67 := HQ67.out
    unfold cntV
    go_wp2_with fail
    refine wp_range_a (gf := 87) (lb := #[.pointer (some ⟨q7 + 1, 0, none⟩), .pointer (some ⟨q7 + 1 + 1, 0, none⟩)]) rfl egCount (count_iter (fun _ => False) (q7 + 1) (q7 + 1 + 1) (-200) 200 (by omega) (by omega)) (fun _ => rfl)
      (fun i Y => TgI w n g (tgR m (l.drop (k + 1))) q k q7 (q7 + 1) (upto (tgR m (nthS l k :: l.drop (k + 1))) i) Ds (q7 + 3) Y)
      (fun _ _ _ => False)
      (fun tm i a' Y => TgI w n g (tgR m (l.drop (k + 1))) q k q7 (q7 + 1) (upto (tgR m (nthS l k :: l.drop (k + 1))) i) Ds (q7 + 3) Y ∧ ∃ bx, q7 + 3 ≤ bx ∧ BK Y bx #[.int .i64 (-200 + (i : Int))] 2 ∧ a' = { tmps := (tm.setIfInBounds 25 (.int .i64 (-200 + (i : Int)))).setIfInBounds 8 (.pointer (some ⟨bx, 0, none⟩)), defers := [] })
      ?rounds ?mem ?start ?done ?stop
    case stop => rintro D c i Y hD hi hf; exact hf.elim
    case mem => rintro i Y hI; exact hI.cm
    case start => exact HI0.out
    case done =>
      rintro D Y hD hI hDY
      rw [HSZ2.out] at hD
      have h401 : cnt (-200) 200 = 401 := rfl
      rw [h401] at hI
      clear h401
      have hst := hI.st
      have hr7 := hI.r7.congr (upto_all _)
      have hmk := hI.mks.cons hDY HDQ.out (by omega)
      have hDD : ∀ D' ∈ D :: Ds, n + 2 < D' := fun D' h => by
        rcases List.mem_cons.1 h with rfl | h
        · omega
        · exact HDs.out D' h
      have hsY := hI.size
      rw [← HDR.out] at hr7
      have hra := hr7.range
      have hsz := row_sizeL (tgR m (l.drop k))
      have hpu := hst.r5.run_put (tgR m (l.drop k))
      have hmk2 := hmk.putRow hst.r5 (rowL (tgR m (l.drop k))) 0
      have b2' : BK (Y.setCells (n + 2) 0 (rowL (tgR m (l.drop k)))) n #[.pointer (some ⟨g, 0, none⟩)] 71 := (setCells_block _ _ _ _ _ (by omega)).trans hst.b2
      have b6' : BK (Y.setCells (n + 2) 0 (rowL (tgR m (l.drop k)))) q #[.int .i64 (k : Int)] 3 := (setCells_block _ _ _ _ _ (by omega)).trans hst.b6
      have r4' : Rw (Y.setCells (n + 2) 0 (rowL (tgR m (l.drop k)))) (n + 1) noR := hst.r4.heap (setCells_block _ _ _ _ _ (by omega))
      have r5' : Rw (Y.setCells (n + 2) 0 (rowL (tgR m (l.drop k)))) (n + 2) (tgR m (l.drop k)) := hst.r5.put _
      have hC' : Below n w (Y.setCells (n + 2) 0 (rowL (tgR m (l.drop k)))) := setCells_below (by omega) _ _ _ hst.below
      have hs' : (Y.setCells (n + 2) 0 (rowL (tgR m (l.drop k)))).heap.size = Y.heap.size := setCells_size _ _ _ _
      obtain ⟨L2, hL2⟩ : ∃ L, rowL (tgR m (l.drop k)) = L := ⟨_, rfl⟩
      rw [hL2] at hra hsz hpu hmk2 b2' b6' r4' r5' hC' hs'
      obtain ⟨q2, hq2⟩ : ∃ q2, (Y.setCells (n + 2) 0 L2).heap.size = q2 := ⟨_, rfl⟩
      have HRA := Lib.hid hra
      have HSZ := Lib.hid hsz
      have HPU := Lib.hid hpu
      have HMK := Lib.hid hmk2
      have HDD := Lib.hid hDD
      have hq2n : n + 2 < q2 := by omega
      clear hra hsz hpu hmk2 hDD hst hr7 hmk hI hL2 hs' hsY
      generalize Y.setCells (n + 2) 0 L2 = Y1 at *
      have b6n : BK (Y1.alloc (.cells #[.int .i64 ((k : Int) - 1)] 3)) q2 #[.int .i64 ((k : Int) - 1)] 3 := BK.new' _ _ _ _ hq2
      have hb1 : Below Y1.heap.size Y1 (Y1.alloc (.cells #[.int .i64 ((k : Int) - 1)] 3)) := Below.alloc (Below.refl _ _) (Nat.le_refl _) _
      have hstn : TgSt w n g (tgR m (l.drop k)) q2 ((k : Int) - 1) (Y1.alloc (.cells #[.int .i64 ((k : Int) - 1)] 3)) :=
        ⟨b2'.alloc _, r4'.alloc _, r5'.alloc _, b6n, hC'.trans (hb1.mono (by omega)), hq2n⟩
      have HSN := Lib.hid hstn
      have HM2 := Lib.hid (HMK.out.below hb1)
      have l6 := b6'.lt
      have c6 := b6'.cell 0
      simp at c6
      have wk : IntKind.i64.wrap ((k : Int) - 1) = (k : Int) - 1 := by rw [IntKind.wrap_i64]; omega
      have HQ2 := Lib.hid hq2
      clear b2' b6' r4' r5' hC' hq2 b6n hb1 hstn HMK
      go_wp2_with (first | refine wpList_load_mid rfl 83 (.tmp 7) rfl q7 0 rfl L2 _ HRA.out row_under rfl HSZ.out ?_ | refine wpList_store_run rfl 83 (.tmp 5) (.tmp 50) rfl HPU.out ?_)
      try rw [HQ2.out]
      refine HK.out nn _ _ (by omega) rfl ⟨D :: Ds, k, q2, rfl, by omega, by omega, ⟨rfl, rfl, rfl, rfl, rfl⟩, HM2.out, HDD.out, HSN.out⟩
    case rounds =>
      rw [HSZ2.out]
      refine ⟨?_, fun c i A A' h _ => h, ?_, fun i X h => h.size, ?_, ?_⟩
      · rintro i Y Z hI ha
        exact hI.adm ha (by omega) hn (fun D hD => by have := HDQ.out D hD; omega)
      · rintro i a Y Z ⟨hI, bx, e1, e2, e3⟩ ha
        exact ⟨hI.adm ha (by omega) hn (fun D hD => by have := HDQ.out D hD; omega), bx, e1, ha.cells e2, e3⟩
      · rintro lq i Y hi hI K2 hK2
        have hb1 : Below Y.heap.size Y (Y.alloc (.cells #[.int .i64 (-200 + (i : Int))] 2)) := by exact bel_of
        have hsz := hI.size
        have hK3 := hK2 _ (Y.alloc (.cells #[.int .i64 (-200 + (i : Int))] 2)) ((Kept.refl _ _ _).below hb1) ⟨hI.next hb1 hn, Y.heap.size, hsz, BK.new _ _ _, rfl⟩
        simp only [List.setIfInBounds_toArray, List.set_cons_succ, List.set_cons_zero] at hK3
        have HK3 := Lib.hid hK3
        clear hK3 hK2 hI
        gi_wp2_with fail
        exact HK3.out
      · rintro lq i a' Y hi hlq ⟨r, hr⟩ ⟨hI, bx, hbx, hbk, rfl⟩
        simp only [List.setIfInBounds_toArray, List.set_cons_succ, List.set_cons_zero]
        have hi4 : i < 401 := hi
        have hf : -200 + (i : Int) = (i : Int) - 200 := by omega
        rw [hf] at hbk ⊢
        obtain ⟨f, hfe⟩ : ∃ f, (i : Int) - 200 = f := ⟨_, rfl⟩
        rw [hfe] at hbk ⊢
        have hst := hI.st
        have y2 := hst.b2.cell 0
        have l2 := hst.b2.lt
        have y6 := hst.b6.cell 0
        have l6 := hst.b6.lt
        have yx := hbk.cell 0
        have lx := hbk.lt
        simp at y2 y6 yx
        have hBY := HBN.out.below hst.below
        have hsY := hI.size
        have HI := Lib.hid hI
        have HBK := Lib.hid hbk
        have HBY := Lib.hid hBY
        clear hst hI hbk hBY hf
        gi_wp2_with fail
        refine ⟨trivial, CallsIn.inRound lq (callsIn_wide.2 ((bends_any n g l m k f _ HBY.out (by omega) HO.out hm hkl hn20 (by omega)).mono ?_))⟩
        rintro e V ⟨rfl, hcm2, hb⟩
        obtain ⟨y, hy⟩ : ∃ y, Y.heap.size = y := ⟨_, rfl⟩
        have hl0 : V.heap[lq]? = some (.loop r) := (hb.block lq (Array.getElem?_eq_some_iff.1 hr).1).trans hr
        have hIV := HI.out.next hb hn
        have hbkV := HBK.out.below hb lx
        have hkV : Kept (fun _ => False) (q7 + 3) Y V := (Kept.refl _ _ _).below hb
        have hsV := hb.size
        rw [hy] at hcm2 ⊢
        have HIV := Lib.hid hIV
        have HBV := Lib.hid hbkV
        have HKV := Lib.hid hkV
        have HCM := Lib.hid hcm2
        have HL0 := Lib.hid hl0
        have hqy : q7 + 3 ≤ y := by omega
        have hyV : y ≤ V.heap.size := by omega
        have HY := Lib.hid hy
        clear y2 l2 y6 l6 yx lx hb hIV hbkV hkV hcm2 hl0 hsV hy HI HBK HBY
        unfold cntV
        gi_wp2_with fail
        have hos2 := okSB_iff.1 hosb
        refine wp_range_in_a HL0.out (gf := 87) (lb := #[.pointer (some ⟨y + 1, 0, none⟩), .pointer (some ⟨y + 2, 0, none⟩)]) rfl egCount (count_iter (fun _ => False) (y + 1) (y + 2) (bLo (nthS l k) m f) (bHi (nthS l k) m f) (by unfold bLo; omega) (by unfold bHi; omega)) (fun _ => rfl)
          (fun j Z => TgI w n g (tgR m (l.drop (k + 1))) q k q7 (q7 + 1) (inRw m (nthS l k) (l.drop (k + 1)) i j) Ds (q7 + 3) Z ∧ BK Z bx #[.int .i64 f] 2 ∧ CntMem (y + 1) (y + 2) (bLo (nthS l k) m f) (bHi (nthS l k) m f) Z ∧ Kept (fun _ => False) (q7 + 3) Y Z ∧ V.heap.size ≤ Z.heap.size)
          (fun _ _ _ => False)
          (fun tm j a' Z => (TgI w n g (tgR m (l.drop (k + 1))) q k q7 (q7 + 1) (inRw m (nthS l k) (l.drop (k + 1)) i j) Ds (q7 + 3) Z ∧ BK Z bx #[.int .i64 f] 2 ∧ CntMem (y + 1) (y + 2) (bLo (nthS l k) m f) (bHi (nthS l k) m f) Z ∧ Kept (fun _ => False) (q7 + 3) Y Z ∧ V.heap.size ≤ Z.heap.size) ∧ a' = { tmps := (tm.setIfInBounds 30 (.int .i64 (bLo (nthS l k) m f + (j : Int)))).setIfInBounds 9 (.int .i64 (bLo (nthS l k) m f + (j : Int))), defers := [] })
          ?rounds ?mem ?start ?done ?stop
        case stop => rintro c j Z hj hf; exact hf.elim
        case mem => rintro j Z ⟨_, _, h, _⟩; exact h
        case start => exact ⟨by rw [inRw_zero]; exact HIV.out, HBV.out, HCM.out, HKV.out, Nat.le_refl _⟩
        case done =>
          rintro Z ⟨h1, h2, h3, h4, h5⟩
          rw [← hfe, inRw_all] at h1
          have H1 := Lib.hid h1
          have H4 := Lib.hid h4
          clear h1 h2 h3 h4 h5
          gi_wp2_with fail
          exact ⟨H4.out, H1.out⟩
        case rounds =>
          refine ⟨?_, fun c j A A' h _ => h, ?_, fun j X h => h.2.2.2.2, ?_, ?_⟩
          · rintro j Z Z2 ⟨h1, h2, h3, h4, h5⟩ ha
            exact ⟨h1.adm ha (by omega) hn (fun D hD => by have := HDQ.out D hD; omega), ha.cells h2, h3.adm ha, h4.adm ha (by rw [HY.out]; exact hyV), Nat.le_trans h5 ha.size⟩
          · rintro j a Z Z2 ⟨⟨h1, h2, h3, h4, h5⟩, e1⟩ ha
            exact ⟨⟨h1.adm ha (by omega) hn (fun D hD => by have := HDQ.out D hD; omega), ha.cells h2, h3.adm ha, h4.adm ha (by rw [HY.out]; exact hyV), Nat.le_trans h5 ha.size⟩, e1⟩
          · rintro lq2 j Z hj hI2 K2 hK2
            have hK3 := hK2 _ Z (Kept.refl _ _ _) ⟨hI2, rfl⟩
            simp only [List.setIfInBounds_toArray, List.set_cons_succ, List.set_cons_zero] at hK3
            have HK3 := Lib.hid hK3
            clear hK3 hK2 hI2
            gi_wp2_with fail
            exact HK3.out
          · rintro lq2 j a' Z hj hlq2 ⟨r2, hr2⟩ ⟨⟨h1, h2, h3, h4, h5⟩, rfl⟩
            simp only [List.setIfInBounds_toArray, List.set_cons_succ, List.set_cons_zero]
            have hlo : -200 ≤ bLo (nthS l k) m f ∧ bLo (nthS l k) m f + (j : Int) ≤ 200 ∧ -m ≤ bLo (nthS l k) m f + (j : Int) - f ∧ bLo (nthS l k) m f + (j : Int) - f ≤ m := by
              have : j < (bHi (nthS l k) m f + 1 - bLo (nthS l k) m f).toNat := hj
              unfold bHi at this
              unfold bLo at this ⊢
              omega
            obtain ⟨x, hx⟩ : ∃ x : Nat, bLo (nthS l k) m f + (j : Int) + 200 = x := ⟨(bLo (nthS l k) m f + (j : Int) + 200).toNat, by omega⟩
            have hxg : (x : Int) - 200 = bLo (nthS l k) m f + (j : Int) := by omega
            have hx4 : x < 401 := by omega
            have hst := h1.st
            have y2 := hst.b2.cell 0
            have l2 := hst.b2.lt
            have y6 := hst.b6.cell 0
            have l6 := hst.b6.lt
            have yx := h2.cell 0
            have lx := h2.lt
            simp at y2 y6 yx
            have y5 := hst.r5.cell hx4
            have l5 := hst.r5.lt
            have y7 := h1.r7.cell hi4
            have f7 := h1.r7.frozen i
            have l7 := h1.r7.lt
            rw [inRw_at, hfe] at y7
            have hF : tgF m (nthS l k) (l.drop (k + 1)) f (bLo (nthS l k) m f + (j : Int)) = tgR m (l.drop (k + 1)) x + cst (nthS l k) (bLo (nthS l k) m f + (j : Int) - f) := by unfold tgF tgR; rw [hxg]
            have hmn := mins_step hF
            have hn1 := mins_never (tgF m (nthS l k) (l.drop (k + 1)) f) (bLo (nthS l k) m f) j
            have hr1 := tgo_never m (l.drop (k + 1)) ((x : Int) - 200)
            have hr0 := tgo_nonneg (m := m) (l := l.drop (k + 1)) (fun s hs => HO.out s (List.mem_of_mem_drop hs)) ((x : Int) - 200)
            have hc0 := cst_nonneg hosb (bLo (nthS l k) m f + (j : Int) - f)
            have hc1 := cst_le hosb hlo.2.2.1 hlo.2.2.2
            have hset := h1.r7.set hi4 (mins (tgF m (nthS l k) (l.drop (k + 1)) f) (bLo (nthS l k) m f) (j + 1))
            have hstp := inRw_step m (nthS l k) (l.drop (k + 1)) i j
            rw [hfe] at hstp
            rw [hstp] at hset
            have hBZ := HBN.out.below hst.below
            have hsZ := h1.size
            have HST := Lib.hid hst
            have HSET := Lib.hid hset
            have HBZ := Lib.hid hBZ
            have HX := Lib.hid hx
            have HB2 := Lib.hid h2
            have H3 := Lib.hid h3
            have H4 := Lib.hid h4
            have HMK := Lib.hid h1.mks
            have HCM1 := Lib.hid h1.cm
            have HR7 := Lib.hid h1.r7
            obtain ⟨b, hb⟩ : ∃ b, tgR m (l.drop (k + 1)) x = b := ⟨_, rfl⟩
            have hb' : tgo m (l.drop (k + 1)) ((x : Int) - 200) = b := hb
            rw [hb] at y5 hmn
            rw [hb'] at hr1 hr0
            obtain ⟨a, ha⟩ : ∃ a, mins (tgF m (nthS l k) (l.drop (k + 1)) f) (bLo (nthS l k) m f) j = a := ⟨_, rfl⟩
            obtain ⟨a2, ha2⟩ : ∃ a, mins (tgF m (nthS l k) (l.drop (k + 1)) f) (bLo (nthS l k) m f) (j + 1) = a := ⟨_, rfl⟩
            obtain ⟨gg, hgg⟩ : ∃ a, bLo (nthS l k) m f + (j : Int) = a := ⟨_, rfl⟩
            rw [hgg] at hx hmn hc0 hc1 hlo ⊢
            rw [ha, ha2] at hmn
            rw [ha] at y7
            rw [ha2] at HSET
            obtain ⟨c, hce⟩ : ∃ c, cst (nthS l k) (gg - f) = c := ⟨_, rfl⟩
            rw [hce] at hmn hc0 hc1
            have HCE := Lib.hid hce
            have wf : IntKind.i64.wrap (f + 200) = (i : Int) := by rw [IntKind.wrap_i64]; omega
            have wg : IntKind.i64.wrap (gg + 200) = (x : Int) := by rw [IntKind.wrap_i64]; omega
            have wd : IntKind.i64.wrap (gg - f) = gg - f := by rw [IntKind.wrap_i64]; omega
            have hnv : never = 1099511627776 := rfl
            have wb : IntKind.i64.wrap (b + c) = b + c := by rw [IntKind.wrap_i64]; omega
            have hi5 : (i : Int) < 401 := by omega
            have hx5 : (x : Int) < 401 := by omega
            clear hst h1 h2 h3 h4 hset hstp hBZ hF hn1 hb hb' ha ha2 hce hr0 hr1 hc0 hc1 hnv hxg hx
            have hd1 : Below Z.heap.size Z Z.drew := Below.drew (Below.refl _ _)
            gi_wp2_with fail
            refine round_any [0, 1, 2, 3, 4, 5, 6, 7, 8, 9, 10, 11, 12, 13, 14, 16, 17, 18] (Below Z.heap.size Z) mixed (by kernel_rfl) ?_ ?_
            · rintro ⟨_, _, hx⟩; exact hx
            refine any_tk (hQ := fun _ _ _ _ _ hx => hx) 0 ?_
            refine any_tk (hQ := fun _ _ _ _ _ hx => hx) 1 ?_
            refine any_tk (hQ := fun _ _ _ _ _ hx => hx) 2 ?_
            refine any_tk (hQ := fun _ _ _ _ _ hx => hx) 3 ?_
            refine any_tk (hQ := fun _ _ _ _ _ hx => hx) 4 ?_
            refine any_tk (hQ := fun _ _ _ _ _ hx => hx) 5 ?_
            refine any_tk (hQ := fun _ _ _ _ _ hx => hx) 6 ?_
            refine any_tk (hQ := fun _ _ _ _ _ hx => hx) 7 ?_
            refine any_tk (hQ := fun _ _ _ _ _ hx => hx) 8 ?_
            refine any_tk (hQ := fun _ _ _ _ _ hx => hx) 9 ?_
            refine any_tk (hQ := fun _ _ _ _ _ hx => hx) 10 ?_
            refine any_tk (hQ := fun _ _ _ _ _ hx => hx) 11 ?_
            refine any_tk (hQ := fun _ _ _ _ _ hx => hx) 12 ?_
            refine any_tk (hQ := fun _ _ _ _ _ hx => hx) 13 ?_
            refine any_tk (hQ := fun _ _ _ _ _ hx => hx) 14 ?_
            refine any_run1 (i := 15) (by kernel_rfl) (by rfl) (by kernel_rfl) ?_
            intro K3 hK3
            go_wp2_with fail
            refine (cost_any n g l m k (gg - f) _ (HBZ.out.below (by exact Below.drew (Below.refl _ _))) HO.out hkl hn20 (by omega)).mono ?_
            rintro e w5 ⟨rfl, rfl⟩
            rw [HCE.out]
            refine hK3 _ _ (fun _ => hd1) ?_
            clear hK3 K3
            refine any_tk (hQ := fun _ _ _ _ _ hx => hx) 16 ?_
            refine any_tk (hQ := fun _ _ _ _ _ hx => hx) 17 ?_
            refine any_tk (hQ := fun _ _ _ _ _ hx => hx) 18 ?_
            refine any_run1 (i := 19) (by kernel_rfl) (by rfl) (by kernel_rfl) ?_
            intro K3 hK3
            go_wp2_with fail
            refine hK3 _ _ (fun hx => (Bool.false_ne_true (hx.symm.trans (by kernel_rfl))).elim) ?_
            clear hK3 K3
            refine any_done (by kernel_rfl) ?_
            have hqq : q ≠ q7 := by omega
            have st1 := HST.out.far (p := q7) (j := i) (u := .int .i64 a2) (by omega) hqq
            have hI1 : TgI w n g (tgR m (l.drop (k + 1))) q k q7 (q7 + 1) (inRw m (nthS l k) (l.drop (k + 1)) i (j + 1)) Ds (q7 + 3) (Z.setCell ⟨q7, i, none⟩ (.int .i64 a2)) :=
              ⟨st1, HSET.out, HCM1.out.far (by omega) (by omega), HMK.out.setRow HR7.out _ _, by simpa [World.setCell] using hsZ⟩
            have hbx1 := HB2.out.far (p := ⟨q7, i, none⟩) (by show bx ≠ q7; omega) (.int .i64 a2)
            have hcm1 := H3.out.far (q := q7) (i := i) (u := .int .i64 a2) (by omega) (by omega)
            have hkp1 := H4.out.setCell (p := ⟨q7, i, none⟩) (.inl (by show q7 < q7 + 3; omega)) (.int .i64 a2)
            have hkp2 := (Kept.refl (fun _ => False) V.heap.size Z).setCell (p := ⟨q7, i, none⟩) (.inl (by show q7 < V.heap.size; omega)) (.int .i64 a2)
            have hsz1 : V.heap.size ≤ (Z.setCell ⟨q7, i, none⟩ (.int .i64 a2)).heap.size := by simpa [World.setCell] using h5
            have hbd : Below (Z.setCell ⟨q7, i, none⟩ (.int .i64 a2)).heap.size (Z.setCell ⟨q7, i, none⟩ (.int .i64 a2)) (Z.setCell ⟨q7, i, none⟩ (.int .i64 a2)).drew := Below.drew (Below.refl _ _)
            have HF := Lib.hid (show Kept (fun _ => False) V.heap.size Z (Z.setCell ⟨q7, i, none⟩ (.int .i64 a2)).drew ∧ TgI w n g (tgR m (l.drop (k + 1))) q k q7 (q7 + 1) (inRw m (nthS l k) (l.drop (k + 1)) i (j + 1)) Ds (q7 + 3) ((Z.setCell ⟨q7, i, none⟩ (.int .i64 a2)).drew) ∧ BK ((Z.setCell ⟨q7, i, none⟩ (.int .i64 a2)).drew) bx #[.int .i64 f] 2 ∧ CntMem (y + 1) (y + 2) (bLo (nthS l k) m f) (bHi (nthS l k) m f) (Z.setCell ⟨q7, i, none⟩ (.int .i64 a2)).drew ∧ Kept (fun _ => False) (q7 + 3) Y (Z.setCell ⟨q7, i, none⟩ (.int .i64 a2)).drew ∧ V.heap.size ≤ ((Z.setCell ⟨q7, i, none⟩ (.int .i64 a2)).drew).heap.size from ⟨hkp2.below hbd, hI1.next hbd hn, hbx1.below hbd hbx1.lt, hcm1.below hbd, hkp1.below hbd, Nat.le_trans hsz1 hbd.size⟩)
            clear st1 hI1 hbx1 hcm1 hkp1 hkp2 hsz1 hbd
            gi_wp2_with fail
            exact HF.out
end Go.Proofs.Ytgbegdjakadbbaa
