/- The program's table of what blows before a station cost at least. -/
import Derived.Test.YtgbegdjakadbbaaP10
set_option linter.all false
set_option linter.unnecessarySimpa false
set_option linter.unusedSimpArgs false
set_option linter.unusedVariables false
set_option linter.unusedSectionVars false

set_option linter.all false
attribute [local go_sem] Go.Oper.semAt_some
namespace Go.Proofs.Ytgbegdjakadbbaa
open Go.RowKit Vp

def mkT55 (u : Nat → Value) : Array Value := #[u 0, u 1, u 2, u 3, u 4, u 5, u 6, u 7, u 8, u 9, u 10, u 11, u 12, u 13, u 14, u 15, u 16, u 17, u 18, u 19, u 20, u 21, u 22, u 23, u 24, u 25, u 26, u 27, u 28, u 29, u 30, u 31, u 32, u 33, u 34, u 35, u 36, u 37, u 38, u 39, u 40, u 41, u 42, u 43, u 44, u 45, u 46, u 47, u 48, u 49, u 50, u 51, u 52, u 53, u 54]
set_option maxHeartbeats 8000000 in
set_option maxRecDepth 100000 in
theorem come_any (g : Nat) (l : List St) (m : Int) (k0 : Nat) (w : World) (hBn : Bn w w.heap.size g l m) (ho : ∀ s ∈ l, okSB s = true) (hm : 0 ≤ m ∧ m ≤ 200) (hn20 : l.length ≤ 20) (hk0 : k0 ≤ l.length) :
    Calls Try.prog 55 #[.pointer (some ⟨g, 0, none⟩), .int .i64 (k0 : Int)] w fun e w' => e = .returned (rowV (cmR m (l.take k0).reverse)) ∧ Below w.heap.size w w' := by
  obtain ⟨n, hn⟩ : ∃ n, w.heap.size = n := ⟨_, rfl⟩
  have hz := row_zeroA
  obtain ⟨Z0, hZ0⟩ : ∃ L, (rowL noR).toArray = L := ⟨_, rfl⟩
  have HZ0 := Lib.hid hZ0
  rw [hZ0] at hz
  have HZ := Lib.hid hz
  rw [hn] at hBn ⊢
  have HBN := Lib.hid hBn
  have HO := Lib.hid ho
  clear hZ0 hBn ho
  refine calls_of_wp_marks Try.func55 rfl ?_
  simp only [Try.ntmps55, List.size_toArray, List.length_cons, List.length_nil, Nat.reduceAdd, Nat.reduceSub, Array.replicate_succ, Array.replicate_zero, List.push_toArray, List.append_toArray, List.nil_append, List.cons_append]
  go_upto_region 1 with fail
  have hR4 : Rw ((w.alloc (.cells #[.pointer (some ⟨g, 0, none⟩)] 71)).alloc (.cells Z0 83)) (n + 1) noR := by rw [← HZ0.out]; exact Rw.new _ _ _ (by simp [hn])
  have hb2 : BK ((w.alloc (.cells #[.pointer (some ⟨g, 0, none⟩)] 71)).alloc (.cells Z0 83)) n #[.pointer (some ⟨g, 0, none⟩)] 71 := (BK.new' _ _ _ n hn).alloc _
  have hC : Below n w ((w.alloc (.cells #[.pointer (some ⟨g, 0, none⟩)] 71)).alloc (.cells Z0 83)) := by exact bel_of
  have hs1 : ((w.alloc (.cells #[.pointer (some ⟨g, 0, none⟩)] 71)).alloc (.cells Z0 83)).heap.size = n + 2 := by simp [hn]
  have HS1 := Lib.hid hs1
  clear hz hs1
  generalize (w.alloc (.cells #[.pointer (some ⟨g, 0, none⟩)] 71)).alloc (.cells Z0 83) = W1 at *
  go_wp2_with fail
  refine (nothing_any _).mono ?_
  rintro e w1 ⟨rfl, hb⟩
  have hR41 := hR4.below hb hR4.lt
  have hb21 := hb2.below hb hb2.lt
  have hsb := hb.size
  have hC1 := hC.trans (hb.mono (by rw [HS1.out]; omega))
  -- the block of the row
  obtain ⟨q5, hq5⟩ : ∃ q, w1.heap.size = q := ⟨_, rfl⟩
  have hz := HZ.out
  have hsr := run_put_new w1 neverR _ rfl
  have hr5 : Rw (w1.alloc (.cells (rowL neverR).toArray 83)) q5 neverR := Rw.new _ _ _ hq5
  have hb1 : Below w1.heap.size w1 (w1.alloc (.cells (rowL neverR).toArray 83)) := Below.alloc (Below.refl _ _) (Nat.le_refl _) _
  have hnq : n + 1 < q5 := by have := HS1.out; omega
  have hst0 : CmSt w n g q5 neverR (w1.alloc (.cells (rowL neverR).toArray 83)) := ⟨hb21.below hb1 hb21.lt, hR41.below hb1 hR41.lt, hr5, hC1.trans (hb1.mono (by omega)), hnq⟩
  rw [HZ0.out] at hsr
  unfold rowV
  obtain ⟨L, hL⟩ : ∃ L, rowL neverR = L := ⟨_, rfl⟩
  rw [hL] at hsr hr5 hst0 ⊢
  have HSR := Lib.hid hsr
  have HST0 := Lib.hid hst0
  have HQ5 := Lib.hid hq5
  have HL := Lib.hid hL
  clear hsr hr5 hst0 hb hb1 hR4 hb2 hC hR41 hb21 hC1 hsb hq5 hL
  go_upto_region 2 with (refine wpList_store_run rfl 83 (.tmp 5) (.tmp 10) rfl HSR.out ?_)
  rw [HQ5.out]
  generalize w1.alloc (.cells L.toArray 83) = W2 at *
  have hst0 := HST0.out
  have l5 := hst0.r5.lt
  have c5 := hst0.r5.cell (x := 200) (by omega)
  have f5 := hst0.r5.frozen 200
  have hset := hst0.r5.set (x := 200) (by omega) 0
  rw [cm_start m l] at hset
  have hst1 : CmSt w n g q5 (cmR m (l.take 0).reverse) (W2.setCell ⟨q5, 200, none⟩ (.int .i64 0)) :=
    ⟨hst0.b2.far (by show n ≠ q5; omega) _, hst0.r4.far (by show n + 1 ≠ q5; omega) _, hset, Below.setCell hst0.below (by show n ≤ q5; omega) _, hnq⟩
  have HST1 := Lib.hid hst1
  clear hst0 hset hst1 HST0 HSR hz
  go_wp2_with fail
  clear l5 c5 f5
  generalize W2.setCell ⟨q5, 200, none⟩ (.int .i64 0) = W3 at *
  refine wp_loop_u mkT55 (fun nn u ds X => ∃ Ds i, ds = Ds.map mk ∧ nn + i = k0 ∧ (u 1 = .int .i64 (k0 : Int) ∧ u 2 = .pointer (some ⟨n, 0, none⟩) ∧ u 4 = .pointer (some ⟨n + 1, 0, none⟩) ∧ u 5 = .pointer (some ⟨q5, 0, none⟩) ∧ u 12 = .int .i64 (k0 : Int) ∧ u 13 = .int .i64 (i : Int)) ∧ Marks Ds X ∧ (∀ D ∈ Ds, q5 < D) ∧ CmSt w n g q5 (cmR m (l.take i).reverse) X) k0 rfl ?_ ?_
  · exact ⟨[], 0, rfl, by omega, ⟨rfl, rfl, rfl, rfl, rfl, rfl⟩, ⟨List.nodup_nil, fun D hD => by simp at hD⟩, fun D hD => by simp at hD, HST1.out⟩
  rintro nn u ds X ⟨Ds, i, rfl, hni, ⟨u1, u2, u4, u5, u12, u13⟩, hMk, hDs, hst⟩ K hK
  clear HST1
  simp only [mkT55, u1, u2, u4, u5, u12, u13]
  clear u1 u2 u4 u5 u12 u13
  -- how the table is returned
  have fin : ∀ (Y : World) (Ds : List Nat) (f : Row), Marks Ds Y → (∀ D ∈ Ds, q5 < D) → CmSt w n g q5 f Y → rowL f = rowL (cmR m (l.take k0).reverse) →
      (Y.rangeAt q5 0 (rowL f)) ∧ (Try.prog.info? 83).map (·.size) = some (rowL f).length ∧ (Instr.storeAt 83 (.pointer (some ⟨n + 1, 0, none⟩)) (.agg (rowL f).toArray)).run Try.prog Y = .ok () (Y.setCells (n + 1) 0 (rowL f)) ∧ Marks Ds (Y.setCells (n + 1) 0 (rowL f)) ∧
      (loadVar 83 ⟨n + 1, 0, none⟩).run Try.prog (putAll Ds (Y.setCells (n + 1) 0 (rowL f))) = .ok (.agg (rowL f).toArray) (putAll Ds (Y.setCells (n + 1) 0 (rowL f))) ∧ Below n w (putAll Ds (Y.setCells (n + 1) 0 (rowL f))) ∧ rowV (cmR m (l.take k0).reverse) = .agg (rowL f).toArray := fun Y Ds f hM hD hS he => by
    refine ⟨hS.r5.range, row_sizeL f, hS.r4.run_put f, hM.putRow hS.r4 _ 0, ((hS.r4.put f).putAll (hM.putRow hS.r4 _ 0)).run_get, putAll_below Ds _ (setCells_below (by omega) _ _ _ hS.below) fun D h => by have := hD D h; omega, ?_⟩
    unfold rowV
    rw [he]
  cases nn with
  | zero =>
    obtain rfl : k0 = i := by omega
    obtain ⟨hra, hsz, hpu, hmk2, hrr, hCf, hmx⟩ := fin X Ds _ hMk hDs hst rfl
    have d1 : decide ((k0 : Int) < (k0 : Int)) = false := decide_eq_false (by omega)
    obtain ⟨L2, hL⟩ : ∃ L, rowL (cmR m (l.take k0).reverse) = L := ⟨_, rfl⟩
    rw [hL] at hra hsz hpu hmk2 hrr hCf hmx
    have HRA := Lib.hid hra
    have HSZ := Lib.hid hsz
    have HPU := Lib.hid hpu
    have HRR := Lib.hid hrr
    have HCF := Lib.hid hCf
    have HMX := Lib.hid hmx
    have HMK := Lib.hid hmk2
    clear hra hsz hpu hrr hCf hmx hmk2 hL hst hMk hDs fin
    go_wp2_with (first | refine wpList_load_mid rfl 83 (.tmp 5) rfl q5 0 rfl L2 _ HRA.out row_under rfl HSZ.out ?_ | refine wpList_store_run rfl 83 (.tmp 4) (.tmp 54) rfl HPU.out ?_)
    refine leave_row Ds _ HMK.out (v := .agg L2.toArray) (results_row rfl rfl HRR.out) ⟨by rw [HMX.out], HCF.out⟩
  | succ nn =>
    have hik : i < k0 := by omega
    have hil : i < l.length := by omega
    have hil' : (i : Int) < (l.length : Int) := by omega
    have d1 : decide ((i : Int) < (k0 : Int)) = true := decide_eq_true (by omega)
    have hos := okS_at HO.out hil
    have hosb := HO.out _ (nthS_mem hil)
    have htr := tub_rng hosb
    have HDR := Lib.hid (take_rev hil)
    have HK := Lib.hid hK
    have HST := Lib.hid hst
    have HMk := Lib.hid hMk
    have HDs := Lib.hid hDs
    have HFIN := Lib.hid fin
    clear hK hst hMk hDs fin
    go_upto_region 6 with fail
    obtain ⟨q, hq⟩ : ∃ q, X.heap.size = q := ⟨_, rfl⟩
    have hb1 : Below X.heap.size X (X.alloc (.cells #[.int .i64 (i : Int)] 3)) := Below.alloc (Below.refl _ _) (Nat.le_refl _) _
    have b6 : BK (X.alloc (.cells #[.int .i64 (i : Int)] 3)) q #[.int .i64 (i : Int)] 3 := BK.new' _ _ _ _ hq
    have hst2 := HST.out.next hb1 hn
    have hmk2 := HMk.out.below hb1
    have hDX := HMk.out.lt
    have hq5q : q5 < q := by have := HST.out.r5.lt; omega
    have hDq : ∀ D ∈ Ds, D < q := fun D hD => by have := hDX D hD; omega
    rw [hq]
    clear hDX hq hb1
    have HDQ := Lib.hid hDq
    have HST2 := Lib.hid hst2
    have HMK2 := Lib.hid hmk2
    have HB6 := Lib.hid b6
    clear hDq HST HMk hst2 hmk2 b6
    generalize X.alloc (.cells #[.int .i64 (i : Int)] 3) = X1 at *
    have hra := HST2.out.r5.range
    have l5 := HST2.out.r5.lt
    have heq := fun W => eqRow (cmR m (l.take i).reverse) neverR W
    unfold rowV at heq
    have hsz := row_sizeL (cmR m (l.take i).reverse)
    have hdead := fun (h : eqR (cmR m (l.take i).reverse) neverR = true) => cmR_dead (l := l) (m := m) (Nat.le_of_lt hik) h
    obtain ⟨Lf, hLf⟩ : ∃ L, rowL (cmR m (l.take i).reverse) = L := ⟨_, rfl⟩
    obtain ⟨dd, hdd⟩ : ∃ e, eqR (cmR m (l.take i).reverse) neverR = e := ⟨_, rfl⟩
    have HL2 := Lib.hid HL.out
    rw [hdd] at heq hdead
    rw [hLf, HL2.out] at heq
    rw [hLf] at hra hsz
    have HRA := Lib.hid hra
    have HSZ := Lib.hid hsz
    have HDEAD := Lib.hid hdead
    have HLF := Lib.hid hLf
    clear hra hsz hdead hLf hdd
    have hd0 : Below X1.heap.size X1 X1.drew := Below.drew (Below.refl _ _)
    refine wp_region_noPanic (plain_any [0, 2] (Below X1.heap.size X1) mixed ?_)
    refine any_take 0 (.agg Lf.toArray) (by rfl) (by kernel_rfl) (fun _ _ _ _ _ hx => hx.elim) (yieldsIf_load_mid rfl 83 (.tmp 5) rfl q5 0 rfl Lf _ (fun W hW => fun j v hv => by rw [hW.cell (by exact l5)]; exact HRA.out j v hv) row_under rfl HSZ.out) hd0 ?_
    simp only [List.getElem_toArray, List.getElem_cons_succ, List.getElem_cons_zero, Act.put, List.setIfInBounds_toArray, List.set_cons_succ, List.set_cons_zero]
    refine any_run1 (i := 1) (by kernel_rfl) (by rfl) (by kernel_rfl) ?_
    intro K3 hK3
    go_wp2_with fail
    refine (nothing_any _).mono ?_
    rintro e V ⟨rfl, hb⟩
    have hb1 : Below X1.heap.size X1 V := hd0.trans hb
    refine hK3 _ _ (fun _ => hb1) ?_
    clear hK3 K3 hb
    unfold rowV
    rw [HL2.out]
    refine any_tk 2 ?_
    refine any_done (by kernel_rfl) (NoPanic.normal ?_)
    have HSTV := Lib.hid (HST2.out.next hb1 hn)
    have HMKV := Lib.hid (HMK2.out.below hb1)
    have HB6V := Lib.hid (HB6.out.below hb1 HB6.out.lt)
    have hsV := hb1.size
    have hqX := HB6.out.lt
    have HDQV := Lib.hid (show q < V.heap.size by omega)
    clear HST2 HMK2 HB6 HRA HSZ heq hd0 hb1 l5 hsV hqX
    cases dd with
    | true =>
      have hl := HDEAD.out rfl
      obtain ⟨hra, hsz, hpu, hmk2, hrr, hCf, hmx⟩ := HFIN.out V Ds _ HMKV.out HDs.out HSTV.out hl
      rw [HLF.out] at hra hsz hpu hmk2 hrr hCf hmx
      have HRA := Lib.hid hra
      have HSZ := Lib.hid hsz
      have HPU := Lib.hid hpu
      have HRR := Lib.hid hrr
      have HCF := Lib.hid hCf
      have HMX := Lib.hid hmx
      have HMK := Lib.hid hmk2
      clear hl hra hsz hpu hrr hCf hmx hmk2
      go_wp2_with (first | refine wpList_load_mid rfl 83 (.tmp 5) rfl q5 0 rfl Lf _ HRA.out row_under rfl HSZ.out ?_ | refine wpList_store_run rfl 83 (.tmp 4) (.tmp 19) rfl HPU.out ?_)
      refine leave_row Ds _ HMK.out (v := .agg Lf.toArray) (results_row rfl rfl HRR.out) ⟨by rw [HMX.out], HCF.out⟩
    | false =>
    clear HFIN HDEAD HLF
    go_wp2_with fail
    refine (nothing_any _).mono ?_
    rintro e w1 ⟨rfl, hb⟩
    have hst1 := HSTV.out.next hb hn
    have hmk1 := HMKV.out.below hb
    have hb61 := HB6V.out.below hb HB6V.out.lt
    obtain ⟨q7, hq7⟩ : ∃ q7, w1.heap.size = q7 := ⟨_, rfl⟩
    have hsX := hb.size
    have hz := HZ.out
    have hsr := run_put_new w1 neverR _ rfl
    have hr7 : Rw (w1.alloc (.cells (rowL neverR).toArray 83)) q7 neverR := Rw.new _ _ _ hq7
    have hb1 : Below w1.heap.size w1 (w1.alloc (.cells (rowL neverR).toArray 83)) := Below.alloc (Below.refl _ _) (Nat.le_refl _) _
    have hst2 := hst1.next hb1 hn
    have hmk2 := hmk1.below hb1
    have hb62 := hb61.below hb1 hb61.lt
    have hs8 : (w1.alloc (.cells (rowL neverR).toArray 83)).heap.size = q7 + 1 := by simp [hq7]
    have hq67 : q < q7 := by have := HDQV.out; omega
    have hDq : ∀ D ∈ Ds, D < q7 := fun D hD => by have := HDQ.out D hD; omega
    rw [HZ0.out] at hsr
    unfold rowV
    rw [HL2.out] at hsr hr7 hst2 hmk2 hb62 hs8 ⊢
    have HSR := Lib.hid hsr
    have HR7 := Lib.hid hr7
    have HST2 := Lib.hid hst2
    have HMK2 := Lib.hid hmk2
    have HB62 := Lib.hid hb62
    have HS8 := Lib.hid hs8
    have HDQ7 := Lib.hid hDq
    have HQ7 := Lib.hid hq7
    have HQ67 := Lib.hid hq67
    clear hsr hr7 hst2 hmk2 hb62 hs8 hst1 hmk1 hb61 hb hb1 hsX HSTV HMKV HB6V hDq hq7 hq67
    go_wp2_with (refine wpList_store_run rfl 83 (.tmp 7) (.tmp 20) rfl HSR.out ?_)
    rw [HQ7.out]
    clear hz
    refine (count_any _ _ _).mono ?_
    rintro e w2 ⟨rfl, hcm, hsz, hb⟩
    rw [HS8.out] at hcm hsz ⊢
    have hst3 := HST2.out.next hb hn
    have hmk3 := HMK2.out.below hb
    have hb63 := HB62.out.below hb HB62.out.lt
    have hr73 : Rw w2 q7 (cmU m (nthS l i) (l.take i).reverse 0) := by
      rw [cmU_zero]
      exact HR7.out.below hb HR7.out.lt
    have hI0 : CmI w n g q5 (cmR m (l.take i).reverse) q i q7 (q7 + 1) (cmU m (nthS l i) (l.take i).reverse 0) Ds (q7 + 3) w2 := ⟨hst3, hb63, hr73, hcm, hmk3, by omega⟩
    have HI0 := Lib.hid hI0
    have HSZ2 := Lib.hid (show w2.heap.size = q7 + 3 by omega)
    clear hcm hsz hb hst3 hmk3 hb63 hr73 hI0 HST2 HMK2 HR7 HS8 HSR HQ7 HB62
    have hq67 := HQ67.out
    unfold cntV
    go_wp2_with fail
    refine wp_range_a (gf := 87) (lb := #[.pointer (some ⟨q7 + 1, 0, none⟩), .pointer (some ⟨q7 + 1 + 1, 0, none⟩)]) rfl egCount (count_iter (fun _ => False) (q7 + 1) (q7 + 1 + 1) (-200) 200 (by omega) (by omega)) (fun _ => rfl)
      (fun fi Y => CmI w n g q5 (cmR m (l.take i).reverse) q i q7 (q7 + 1) (cmU m (nthS l i) (l.take i).reverse fi) Ds (q7 + 3) Y)
      (fun _ _ _ => False)
      (fun tm fi a' Y => CmI w n g q5 (cmR m (l.take i).reverse) q i q7 (q7 + 1) (cmU m (nthS l i) (l.take i).reverse fi) Ds (q7 + 3) Y ∧ ∃ bx, q7 + 3 ≤ bx ∧ BK Y bx #[.int .i64 (-200 + (fi : Int))] 2 ∧ a' = { tmps := (tm.setIfInBounds 22 (.int .i64 (-200 + (fi : Int)))).setIfInBounds 8 (.pointer (some ⟨bx, 0, none⟩)), defers := [] })
      ?rounds ?mem ?start ?done ?stop
    case stop => rintro D c fi Y hD hi hf; exact hf.elim
    case mem => rintro fi Y hI; exact hI.cm
    case start => exact HI0.out
    case done =>
      rintro D Y hD hI hDY
      rw [HSZ2.out] at hD
      have h401 : cnt (-200) 200 = 401 := rfl
      rw [h401] at hI
      clear h401
      have hst := hI.st
      have hr7 := hI.r7
      rw [cmU_all, ← HDR.out] at hr7
      have hmk := hI.mks.cons hDY HDQ7.out (by omega)
      have hDD : ∀ D' ∈ D :: Ds, q5 < D' := fun D' h => by
        rcases List.mem_cons.1 h with rfl | h
        · omega
        · exact HDs.out D' h
      have hsY := hI.size
      have hra := hr7.range
      have hsz := row_sizeL (cmR m (l.take (i + 1)).reverse)
      have hpu := hst.r5.run_put (cmR m (l.take (i + 1)).reverse)
      have hmk2 := hmk.putRow hst.r5 (rowL (cmR m (l.take (i + 1)).reverse)) 0
      have hlt := hst.lt
      have hstn : CmSt w n g q5 (cmR m (l.take (i + 1)).reverse) (Y.setCells q5 0 (rowL (cmR m (l.take (i + 1)).reverse))) :=
        ⟨(setCells_block _ _ _ _ _ (by omega)).trans hst.b2, hst.r4.heap (setCells_block _ _ _ _ _ (by omega)), hst.r5.put _, setCells_below (by omega) _ _ _ hst.below, hlt⟩
      obtain ⟨L2, hL2⟩ : ∃ L, rowL (cmR m (l.take (i + 1)).reverse) = L := ⟨_, rfl⟩
      rw [hL2] at hra hsz hpu hmk2 hstn
      have HRA := Lib.hid hra
      have HSZ := Lib.hid hsz
      have HPU := Lib.hid hpu
      have HMK := Lib.hid hmk2
      have HDD := Lib.hid hDD
      have HSN := Lib.hid hstn
      have wk : IntKind.i64.wrap ((i : Int) + 1) = (i : Int) + 1 := by rw [IntKind.wrap_i64]; omega
      clear hra hsz hpu hmk2 hDD hst hr7 hmk hI hL2 hsY hstn hlt
      go_wp2_with (first | refine wpList_load_mid rfl 83 (.tmp 7) rfl q7 0 rfl L2 _ HRA.out row_under rfl HSZ.out ?_ | refine wpList_store_run rfl 83 (.tmp 5) (.tmp 52) rfl HPU.out ?_)
      refine HK.out nn _ _ (by omega) rfl ⟨D :: Ds, i + 1, rfl, by omega, ⟨rfl, rfl, rfl, rfl, rfl, by first | rfl | (congr 1)⟩, HMK.out, HDD.out, HSN.out⟩
    case rounds =>
      rw [HSZ2.out]
      refine ⟨?_, fun c fi A A' h _ => h, ?_, fun fi X h => h.size, ?_, ?_⟩
      · rintro fi Y Z hI ha
        exact hI.adm ha (by have := hI.st.lt; omega) hn (fun D hD => by have := HDQ7.out D hD; omega)
      · rintro fi a Y Z ⟨hI, bx, e1, e2, e3⟩ ha
        exact ⟨hI.adm ha (by have := hI.st.lt; omega) hn (fun D hD => by have := HDQ7.out D hD; omega), bx, e1, ha.cells e2, e3⟩
      · rintro lq fi Y hi hI K2 hK2
        have hb1 : Below Y.heap.size Y (Y.alloc (.cells #[.int .i64 (-200 + (fi : Int))] 2)) := by exact bel_of
        have hsz := hI.size
        have hK3 := hK2 _ (Y.alloc (.cells #[.int .i64 (-200 + (fi : Int))] 2)) ((Kept.refl _ _ _).below hb1) ⟨hI.next hb1 hn, Y.heap.size, hsz, BK.new _ _ _, rfl⟩
        simp only [List.setIfInBounds_toArray, List.set_cons_succ, List.set_cons_zero] at hK3
        have HK3 := Lib.hid hK3
        clear hK3 hK2 hI
        gi_wp2_with fail
        exact HK3.out
      · rintro lq fi a' Y hi hlq ⟨r, hr⟩ ⟨hI, bx, hbx, hbk, rfl⟩
        simp only [List.setIfInBounds_toArray, List.set_cons_succ, List.set_cons_zero]
        have hi4 : fi < 401 := hi
        obtain ⟨f, hfe⟩ : ∃ f, -200 + (fi : Int) = f := ⟨_, rfl⟩
        have hcb : cmR m (l.take i).reverse fi = com m (l.take i).reverse f := by unfold cmR; rw [← hfe]; congr 1 <;> omega
        rw [hfe] at hbk ⊢
        have hst := hI.st
        have y2 := hst.b2.cell 0
        have l2 := hst.b2.lt
        have y6 := hI.b6.cell 0
        have l6 := hI.b6.lt
        have yx := hbk.cell 0
        have lx := hbk.lt
        have y5 := hst.r5.cell hi4
        have l5 := hst.r5.lt
        simp at y2 y6 yx
        have hBY := HBN.out.below hst.below
        have hsY := hI.size
        have hlt := hst.lt
        have HI := Lib.hid hI
        have HBK := Lib.hid hbk
        have HBY := Lib.hid hBY
        have hi5 : (fi : Int) < 401 := by omega
        have wf : IntKind.i64.wrap (f + 200) = (fi : Int) := by rw [IntKind.wrap_i64]; omega
        rw [hcb] at y5
        have hb0 := com_nonneg (m := m) (l := (l.take i).reverse) (fun s hs => HO.out s (List.mem_of_mem_take (List.mem_reverse.1 hs))) f
        have hskip := fun (h : ¬ com m (l.take i).reverse f < never) => cmU_skip (m := m) (s := nthS l i) (pre := (l.take i).reverse) (n := fi) (by rw [hfe]; exact h)
        have hmin := fun (x : Nat) (h2 : com m (l.take i).reverse f < never) h3 => cmU_min (m := m) (s := nthS l i) (pre := (l.take i).reverse) (n := fi) (x := x) (c := cst (nthS l i) ((x : Int) - 200 - (-200 + (fi : Int)))) rfl (by rw [hfe]; exact h2) h3 rfl
        rw [hfe] at hmin
        have HSKIP := Lib.hid hskip
        have HMIN := Lib.hid hmin
        have hnv : never = 1099511627776 := rfl
        obtain ⟨b, hbe⟩ : ∃ b, com m (l.take i).reverse f = b := ⟨_, rfl⟩
        rw [hbe] at y5 hb0 HSKIP HMIN
        have HBE := Lib.hid hbe
        clear hst hI hbk hBY hskip hmin hcb hbe
        by_cases hbn : b < never
        case neg =>
          have d2 : decide ((1099511627776 : Int) ≤ b) = true := decide_eq_true (by omega)
          have he := HSKIP.out hbn
          have hI2 : CmI w n g q5 (cmR m (l.take i).reverse) q i q7 (q7 + 1) (cmU m (nthS l i) (l.take i).reverse (fi + 1)) Ds (q7 + 3) Y := by rw [he]; exact HI.out
          have HI2 := Lib.hid hI2
          clear hI2 he
          gi_wp2_with fail
          exact ⟨Kept.refl _ _ _, HI2.out⟩
        have d2 : decide ((1099511627776 : Int) ≤ b) = false := decide_eq_false (by omega)
        have HBNV := Lib.hid hbn
        clear HSKIP
        gi_wp2_with fail
        refine ⟨trivial, CallsIn.inRound lq (callsIn_wide.2 ((bends_any n g l m i f _ HBY.out (by omega) HO.out hm hil hn20 (by omega)).mono ?_))⟩
        rintro e V ⟨rfl, hcm2, hb⟩
        obtain ⟨y, hy⟩ : ∃ y, Y.heap.size = y := ⟨_, rfl⟩
        have hl0 : V.heap[lq]? = some (.loop r) := (hb.block lq (Array.getElem?_eq_some_iff.1 hr).1).trans hr
        have hIV := HI.out.next hb hn
        have hbkV := HBK.out.below hb lx
        have hkV : Kept (fun _ => False) (q7 + 3) Y V := (Kept.refl _ _ _).below hb
        have hsV := hb.size
        rw [hy] at hcm2 ⊢
        have HIV := Lib.hid hIV
        have HBV := Lib.hid hbkV
        have HKV := Lib.hid hkV
        have HCM := Lib.hid hcm2
        have HL0 := Lib.hid hl0
        have hqy : q7 + 3 ≤ y := by omega
        have hyV : y ≤ V.heap.size := by omega
        have HY := Lib.hid hy
        clear y2 l2 y6 l6 yx lx y5 l5 hb hIV hbkV hkV hcm2 hl0 hsV hy HI HBK HBY d2 wf hbn
        unfold cntV
        gi_wp2_with fail
        have hos2 := okSB_iff.1 hosb
        refine wp_range_in_a HL0.out (gf := 87) (lb := #[.pointer (some ⟨y + 1, 0, none⟩), .pointer (some ⟨y + 2, 0, none⟩)]) rfl egCount (count_iter (fun _ => False) (y + 1) (y + 2) (bLo (nthS l i) m f) (bHi (nthS l i) m f) (by unfold bLo; omega) (by unfold bHi; omega)) (fun _ => rfl)
          (fun j Z => CmI w n g q5 (cmR m (l.take i).reverse) q i q7 (q7 + 1) (cmJ m (nthS l i) (l.take i).reverse fi (j)) Ds (q7 + 3) Z ∧ BK Z bx #[.int .i64 f] 2 ∧ CntMem (y + 1) (y + 2) (bLo (nthS l i) m f) (bHi (nthS l i) m f) Z ∧ Kept (fun _ => False) (q7 + 3) Y Z ∧ V.heap.size ≤ (Z).heap.size)
          (fun _ _ _ => False)
          (fun tm j a' Z => (CmI w n g q5 (cmR m (l.take i).reverse) q i q7 (q7 + 1) (cmJ m (nthS l i) (l.take i).reverse fi (j)) Ds (q7 + 3) Z ∧ BK Z bx #[.int .i64 f] 2 ∧ CntMem (y + 1) (y + 2) (bLo (nthS l i) m f) (bHi (nthS l i) m f) Z ∧ Kept (fun _ => False) (q7 + 3) Y Z ∧ V.heap.size ≤ (Z).heap.size) ∧ a' = { tmps := (tm.setIfInBounds 32 (.int .i64 (bLo (nthS l i) m f + (j : Int)))).setIfInBounds 9 (.int .i64 (bLo (nthS l i) m f + (j : Int))), defers := [] })
          ?rounds ?mem ?start ?done ?stop
        case stop => rintro c j Z hj hf; exact hf.elim
        case mem => rintro j Z ⟨_, _, h, _⟩; exact h
        case start => exact ⟨by rw [cmJ_zero]; exact HIV.out, HBV.out, HCM.out, HKV.out, Nat.le_refl _⟩
        case done =>
          rintro Z ⟨h1, h2, h3, h4, h5⟩
          rw [← hfe, cmJ_all] at h1
          have H1 := Lib.hid h1
          have H4 := Lib.hid h4
          clear h1 h2 h3 h4 h5
          gi_wp2_with fail
          exact ⟨H4.out, H1.out⟩
        case rounds =>
          refine ⟨?_, fun c j A A' h _ => h, ?_, fun j X h => h.2.2.2.2, ?_, ?_⟩
          · rintro j Z Z2 ⟨h1, h2, h3, h4, h5⟩ ha
            exact ⟨h1.adm ha (by omega) hn (fun D hD => by have := HDQ7.out D hD; omega), ha.cells h2, h3.adm ha, h4.adm ha (by rw [HY.out]; exact hyV), Nat.le_trans h5 ha.size⟩
          · rintro j a Z Z2 ⟨⟨h1, h2, h3, h4, h5⟩, e1⟩ ha
            exact ⟨⟨h1.adm ha (by omega) hn (fun D hD => by have := HDQ7.out D hD; omega), ha.cells h2, h3.adm ha, h4.adm ha (by rw [HY.out]; exact hyV), Nat.le_trans h5 ha.size⟩, e1⟩
          · rintro lq2 j Z hj hI2 K2 hK2
            have hK3 := hK2 _ Z (Kept.refl _ _ _) ⟨hI2, rfl⟩
            simp only [List.setIfInBounds_toArray, List.set_cons_succ, List.set_cons_zero] at hK3
            have HK3 := Lib.hid hK3
            clear hK3 hK2 hI2
            gi_wp2_with fail
            exact HK3.out
          rintro lq2 j a' Z hj hlq2 ⟨r2, hr2⟩ ⟨⟨h1, h2, h3, h4, h5⟩, rfl⟩
          simp only [List.setIfInBounds_toArray, List.set_cons_succ, List.set_cons_zero]
          have hlo : -200 ≤ bLo (nthS l i) m f ∧ bLo (nthS l i) m f + (j : Int) ≤ 200 ∧ -m ≤ bLo (nthS l i) m f + (j : Int) - f ∧ bLo (nthS l i) m f + (j : Int) - f ≤ m ∧ bLo (nthS l i) m f + (j : Int) ≤ bHi (nthS l i) m f := by
            have : j < (bHi (nthS l i) m f + 1 - bLo (nthS l i) m f).toNat := hj
            unfold bHi at this ⊢
            unfold bLo at this ⊢
            omega
          obtain ⟨x, hx⟩ : ∃ x : Nat, bLo (nthS l i) m f + (j : Int) + 200 = x := ⟨(bLo (nthS l i) m f + (j : Int) + 200).toNat, by omega⟩
          have hxg : (x : Int) - 200 = bLo (nthS l i) m f + (j : Int) := by omega
          have hx4 : x < 401 := by omega
          have hst := h1.st
          have y2 := hst.b2.cell 0
          have l2 := hst.b2.lt
          have y6 := h1.b6.cell 0
          have l6 := h1.b6.lt
          have yx := h2.cell 0
          have lx := h2.lt
          simp at y2 y6 yx
          have y5 := hst.r5.cell hi4
          have l5 := hst.r5.lt
          rw [show cmR m (l.take i).reverse fi = com m (l.take i).reverse f by unfold cmR; rw [← hfe]; congr 1 <;> omega] at y5
          have y7 := h1.r7.cell hx4
          have f7 := h1.r7.frozen x
          have l7 := h1.r7.lt
          rw [cmJ_at (by rw [hfe]; exact hxg)] at y7
          have hbB : com m (l.take i).reverse f = b := HBE.out
          have hmn := HMIN.out x HBNV.out (may_b.2 (by rw [hxg]; omega))
          rw [hbB] at y5
          have hc0 := cst_nonneg hosb (bLo (nthS l i) m f + (j : Int) - f)
          have hc1 := cst_le hosb hlo.2.2.1 hlo.2.2.2.1
          have hset := h1.r7.set hx4 (cmU m (nthS l i) (l.take i).reverse (fi + 1) x)
          rw [cmJ_step (by rw [hfe]; exact hxg)] at hset
          rw [hxg] at hmn
          have hBZ := HBN.out.below hst.below
          have hsZ := h1.size
          have HST := Lib.hid hst
          have HSET := Lib.hid hset
          have HBZ := Lib.hid hBZ
          have HB2 := Lib.hid h2
          have H3 := Lib.hid h3
          have H4 := Lib.hid h4
          have HMK := Lib.hid h1.mks
          have HCM1 := Lib.hid h1.cm
          have HR7 := Lib.hid h1.r7
          have HB61 := Lib.hid h1.b6
          obtain ⟨a, ha⟩ : ∃ a, cmU m (nthS l i) (l.take i).reverse fi x = a := ⟨_, rfl⟩
          obtain ⟨a2, ha2⟩ : ∃ a, cmU m (nthS l i) (l.take i).reverse (fi + 1) x = a := ⟨_, rfl⟩
          obtain ⟨gg, hgg⟩ : ∃ a, bLo (nthS l i) m f + (j : Int) = a := ⟨_, rfl⟩
          rw [hgg] at hx hmn hc0 hc1 hlo ⊢
          rw [ha, ha2] at hmn
          rw [ha] at y7
          rw [ha2] at HSET
          obtain ⟨c, hce⟩ : ∃ c, cst (nthS l i) (gg - f) = c := ⟨_, rfl⟩
          rw [hce] at hmn hc0 hc1
          have HCE := Lib.hid hce
          have hbn := HBNV.out
          have wf : IntKind.i64.wrap (f + 200) = (fi : Int) := by rw [IntKind.wrap_i64]; omega
          have wg : IntKind.i64.wrap (gg + 200) = (x : Int) := by rw [IntKind.wrap_i64]; omega
          have wd : IntKind.i64.wrap (gg - f) = gg - f := by rw [IntKind.wrap_i64]; omega
          have wb : IntKind.i64.wrap (b + c) = b + c := by rw [IntKind.wrap_i64]; omega
          have hx5 : (x : Int) < 401 := by omega
          clear hst h1 h2 h3 h4 hset hBZ ha ha2 hce hc0 hc1 hxg hx hbn hbB
          have hd1 : Below Z.heap.size Z Z.drew := Below.drew (Below.refl _ _)
          gi_wp2_with fail
          refine round_any [0, 1, 2, 3, 4, 5, 6, 7, 8, 9, 10, 11, 12, 13, 14, 16, 17, 18] (Below Z.heap.size Z) mixed (by kernel_rfl) ?_ ?_
          · rintro ⟨_, _, hx⟩; exact hx
          refine any_tk (hQ := fun _ _ _ _ _ hx => hx) 0 ?_
          refine any_tk (hQ := fun _ _ _ _ _ hx => hx) 1 ?_
          refine any_tk (hQ := fun _ _ _ _ _ hx => hx) 2 ?_
          refine any_tk (hQ := fun _ _ _ _ _ hx => hx) 3 ?_
          refine any_tk (hQ := fun _ _ _ _ _ hx => hx) 4 ?_
          refine any_tk (hQ := fun _ _ _ _ _ hx => hx) 5 ?_
          refine any_tk (hQ := fun _ _ _ _ _ hx => hx) 6 ?_
          refine any_tk (hQ := fun _ _ _ _ _ hx => hx) 7 ?_
          refine any_tk (hQ := fun _ _ _ _ _ hx => hx) 8 ?_
          refine any_tk (hQ := fun _ _ _ _ _ hx => hx) 9 ?_
          refine any_tk (hQ := fun _ _ _ _ _ hx => hx) 10 ?_
          refine any_tk (hQ := fun _ _ _ _ _ hx => hx) 11 ?_
          refine any_tk (hQ := fun _ _ _ _ _ hx => hx) 12 ?_
          refine any_tk (hQ := fun _ _ _ _ _ hx => hx) 13 ?_
          refine any_tk (hQ := fun _ _ _ _ _ hx => hx) 14 ?_
          refine any_run1 (i := 15) (by kernel_rfl) (by rfl) (by kernel_rfl) ?_
          intro K3 hK3
          go_wp2_with fail
          refine (cost_any n g l m i (gg - f) _ (HBZ.out.below (by exact Below.drew (Below.refl _ _))) HO.out hil hn20 (by omega)).mono ?_
          rintro e w5 ⟨rfl, rfl⟩
          rw [HCE.out]
          refine hK3 _ _ (fun _ => hd1) ?_
          clear hK3 K3
          refine any_tk (hQ := fun _ _ _ _ _ hx => hx) 16 ?_
          refine any_tk (hQ := fun _ _ _ _ _ hx => hx) 17 ?_
          refine any_tk (hQ := fun _ _ _ _ _ hx => hx) 18 ?_
          refine any_run1 (i := 19) (by kernel_rfl) (by rfl) (by kernel_rfl) ?_
          intro K3 hK3
          go_wp2_with fail
          refine hK3 _ _ (fun hx => (Bool.false_ne_true (hx.symm.trans (by kernel_rfl))).elim) ?_
          clear hK3 K3
          refine any_done (by kernel_rfl) ?_
          have st1 := HST.out.far (r := q7) (j := x) (u := .int .i64 a2) (by omega)
          have hI1 : CmI w n g q5 (cmR m (l.take i).reverse) q i q7 (q7 + 1) (cmJ m (nthS l i) (l.take i).reverse fi (j + 1)) Ds (q7 + 3) (Z.setCell ⟨q7, x, none⟩ (.int .i64 a2)) :=
            ⟨st1, HB61.out.far (p := ⟨q7, x, none⟩) (by show q ≠ q7; omega) _, HSET.out, HCM1.out.far (by omega) (by omega), HMK.out.setRow HR7.out _ _, by simpa [World.setCell] using hsZ⟩
          have hbx1 := HB2.out.far (p := ⟨q7, x, none⟩) (by show bx ≠ q7; omega) (.int .i64 a2)
          have hcm1 := H3.out.far (q := q7) (i := x) (u := .int .i64 a2) (by omega) (by omega)
          have hkp1 := H4.out.setCell (p := ⟨q7, x, none⟩) (.inl (by show q7 < q7 + 3; omega)) (.int .i64 a2)
          have hkp2 := (Kept.refl (fun _ => False) V.heap.size Z).setCell (p := ⟨q7, x, none⟩) (.inl (by show q7 < V.heap.size; omega)) (.int .i64 a2)
          have hsz1 : V.heap.size ≤ (Z.setCell ⟨q7, x, none⟩ (.int .i64 a2)).heap.size := by simpa [World.setCell] using h5
          have hbd : Below (Z.setCell ⟨q7, x, none⟩ (.int .i64 a2)).heap.size (Z.setCell ⟨q7, x, none⟩ (.int .i64 a2)) (Z.setCell ⟨q7, x, none⟩ (.int .i64 a2)).drew := Below.drew (Below.refl _ _)
          have HF := Lib.hid (show Kept (fun _ => False) V.heap.size Z ((Z.setCell ⟨q7, x, none⟩ (.int .i64 a2)).drew) ∧ CmI w n g q5 (cmR m (l.take i).reverse) q i q7 (q7 + 1) (cmJ m (nthS l i) (l.take i).reverse fi (j + 1)) Ds (q7 + 3) ((Z.setCell ⟨q7, x, none⟩ (.int .i64 a2)).drew) ∧ BK ((Z.setCell ⟨q7, x, none⟩ (.int .i64 a2)).drew) bx #[.int .i64 f] 2 ∧ CntMem (y + 1) (y + 2) (bLo (nthS l i) m f) (bHi (nthS l i) m f) ((Z.setCell ⟨q7, x, none⟩ (.int .i64 a2)).drew) ∧ Kept (fun _ => False) (q7 + 3) Y ((Z.setCell ⟨q7, x, none⟩ (.int .i64 a2)).drew) ∧ V.heap.size ≤ (((Z.setCell ⟨q7, x, none⟩ (.int .i64 a2)).drew)).heap.size from ⟨hkp2.below hbd, hI1.next hbd hn, hbx1.below hbd hbx1.lt, hcm1.below hbd, hkp1.below hbd, Nat.le_trans hsz1 hbd.size⟩)
          clear st1 hI1 hbx1 hcm1 hkp1 hkp2 hsz1 hbd
          gi_wp2_with fail
          exact HF.out
end Go.Proofs.Ytgbegdjakadbbaa
