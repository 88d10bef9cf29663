/- What blows cost at least, by the number at a station: the closure is made. -/
import Derived.Test.YtgbegdjakadbbaaP16
import Derived.Laws.EntriesVeiled
set_option linter.all false
set_option linter.unnecessarySimpa false
set_option linter.unusedSimpArgs false
set_option linter.unusedVariables false
set_option linter.unusedSectionVars false

set_option linter.all false
attribute [local go_sem] Go.Oper.semAt_some
namespace Go.Proofs.Ytgbegdjakadbbaa
open Go.RowKit Vp

set_option maxHeartbeats 16000000 in
set_option maxRecDepth 100000 in
theorem with_any (g : Nat) (l : List St) (m : Int) (k : Nat) (w : World) (hBn : Bn w w.heap.size g l m) (ho : ∀ s ∈ l, okSB s = true) (hm : 0 ≤ m ∧ m ≤ 200) (hn20 : l.length ≤ 20) (hk : k < l.length) :
    Calls Try.prog 62 #[.pointer (some ⟨g, 0, none⟩), .int .i64 (k : Int)] w fun e w' => ∃ pt pa pb pc ps, e = .returned (withV pt pa pb pc ps) ∧ WithM pt pa pb pc ps g w.heap.size l m k w' ∧ WithL pt pa pb pc ps w.heap.size w'.heap.size ∧ Below w.heap.size w w' := by
  obtain ⟨n, hn⟩ : ∃ n, w.heap.size = n := ⟨_, rfl⟩
  have hz := row_zeroA
  obtain ⟨Z0, hZ0⟩ : ∃ L, (rowL noR).toArray = L := ⟨_, rfl⟩
  have HZ0 := Lib.hid hZ0
  rw [hZ0] at hz
  clear hZ0
  obtain ⟨Ra, hRa⟩ : ∃ R, cmR m (l.take k).reverse = R := ⟨_, rfl⟩
  obtain ⟨Rb, hRb⟩ : ∃ R, tgR m (l.drop (k + 1)) = R := ⟨_, rfl⟩
  have hca := fun (W : World) (hb : Bn W W.heap.size g l m) => come_any g l m k W hb ho hm hn20 (by omega)
  have hta := fun (W : World) (hb : Bn W W.heap.size g l m) => togo_any g l m (k + 1) W hb ho hm hn20 (by omega)
  rw [hRa] at hca
  rw [hRb] at hta
  unfold rowV at hca hta
  obtain ⟨LA, hLA⟩ : ∃ L, rowL Ra = L := ⟨_, rfl⟩
  obtain ⟨LB, hLB⟩ : ∃ L, rowL Rb = L := ⟨_, rfl⟩
  rw [hLA] at hca
  rw [hLB] at hta
  have hkc : (((k + 1 : Nat) : Nat) : Int) = (k : Int) + 1 := by omega
  simp only [hkc] at hta
  have HCA := Lib.hid hca
  have HTA := Lib.hid hta
  have HLA := Lib.hid hLA
  have HLB := Lib.hid hLB
  have HR := Lib.hid (And.intro hRa hRb)
  have htr := tub_rng (ho _ (nthS_mem hk))
  have hta2 := tubes_at hk
  obtain ⟨t, hte⟩ : ∃ t, tub (nthS l k) = t := ⟨_, rfl⟩
  have HTE := Lib.hid hte
  rw [hte] at hta2
  have HT2 := Lib.hid hta2
  have HBN := Lib.hid hBn
  clear hca hta hLA hLB hRa hRb hkc hte hta2 htr ho
  have wk : IntKind.i64.wrap ((k : Int) + 1) = (k : Int) + 1 := by rw [IntKind.wrap_i64]; omega
  rw [hn]
  go_enter Try.func62, Try.ntmps62
  go_upto_region 1 with fail
  have hb1 : Below n w (w.alloc (.cells #[.int .i64 (k : Int)] 3)) := by exact bel_of
  have bs := BK.new' w #[.int .i64 (k : Int)] 3 n hn
  have hB1 := (hBn.below (W' := (w.alloc (.cells #[.int .i64 (k : Int)] 3))) (Below.alloc (Below.refl _ _) (Nat.le_refl _) _)).more (B' := (w.alloc (.cells #[.int .i64 (k : Int)] 3)).heap.size) (by simp)
  have hs1 : (w.alloc (.cells #[.int .i64 (k : Int)] 3)).heap.size = n + 1 := by simp [hn]
  clear hBn
  have hBn := hB1
  clear hB1
  have HB1 := Lib.hid (And.intro hb1 hs1)
  clear hb1 hs1
  generalize w.alloc (.cells #[.int .i64 (k : Int)] 3) = w1 at *
  have cs := bs.cell 0
  have ls := bs.lt
  simp at cs
  refine region_keep [9, 10, 11, 12, 13, 14, 15, 5, 6] (fun u V => ∃ pa pb, u 5 = .pointer (some ⟨pa, 0, none⟩) ∧ u 6 = .pointer (some ⟨pb, 0, none⟩) ∧ w1.heap.size ≤ pa ∧ w1.heap.size ≤ pb ∧ Rw V pa Ra ∧ Rw V pb Rb ∧ Below w1.heap.size w1 V) ?_ ?_
  ·skip
   -- region 1 begins
   have d0ya : Below w1.heap.size w1 w1.drew := by exact bel_of
   refine wp_region_noPanic (plain_any [0, 1, 3, 4, 5] (Below w1.heap.size w1) mixed ?_)
   refine any_tk 0 ?_
   refine any_tk 1 ?_
   refine any_tk 3 ?_
   refine any_tk 4 ?_
   refine any_tk 5 ?_
   have dya1 : Below w1.heap.size w1 w1.drew := by exact bel_of
   have hdr : Below w1.heap.size w1 w1.drew := Below.drew (Below.refl _ _)
   replace hBn := (hBn.below hdr).more hdr.size
   clear hdr
   generalize w1.drew = uya2 at *
   refine any_run3 (i := 2) (j := 7) (k := 8) (by kernel_rfl) (by rfl) (by rfl) (by rfl) (by rfl) (by rfl) (by rfl) ?_ ?_ ?_
   ·skip
    intro K hK
    have qya5 := dya1.size
    go_wp2_with fail
    refine (HCA.out _ hBn).mono ?_
    rintro e vya4 ⟨rfl, hb⟩
    have eya3 : Below w1.heap.size w1 vya4 := dya1.trans (hb.mono dya1.size)
    replace hBn := (hBn.below hb).more hb.size
    clear hb
    refine hK _ _ (fun _ => eya3) ?_
    clear hK K
    refine any_run3 (i := 6) (j := 7) (k := 8) (by kernel_rfl) (by rfl) (by rfl) (by rfl) (by rfl) (by rfl) (by rfl) ?_ ?_ ?_
    ·skip
     intro K hK
     have qya8 := eya3.size
     go_wp2_with fail
     refine (HTA.out _ hBn).mono ?_
     rintro e vya7 ⟨rfl, hb⟩
     have eya6 : Below w1.heap.size w1 vya7 := eya3.trans (hb.mono eya3.size)
     replace hBn := (hBn.below hb).more hb.size
     clear hb
     refine hK _ _ (fun _ => eya6) ?_
     clear hK K
     refine any_run2 (i := 7) (j := 8) (by kernel_rfl) (by rfl) (by rfl) (by rfl) (by rfl) ?_ ?_
     ·skip
      intro K hK
      have qya10 := eya6.size
      have eya9 : Below w1.heap.size w1 (vya7.alloc (.cells Z0 83)) := Below.alloc eya6 eya6.size _
      have hnx : Below vya7.heap.size vya7 (vya7.alloc (.cells Z0 83)) := Below.alloc (Below.refl _ _) (Nat.le_refl _) _
      go_wp2_with fail
      replace hBn := (hBn.below hnx).more hnx.size
      have ra : Rw (vya7.alloc (.cells Z0 83)) vya7.heap.size noR := by rw [← HZ0.out]; exact Rw.new _ _ _ rfl
      refine hK _ _ (fun _ => eya9) ?_
      clear hK K hnx
      generalize (vya7.alloc (.cells Z0 83)) = vya11 at *
      obtain ⟨gra, hgra⟩ : ∃ g, vya7.heap.size = g := ⟨_, rfl⟩
      have hqra : w1.heap.size ≤ gra := by omega
      rw [hgra] at ra
      try rw [hgra]
      clear hgra
      refine any_run1 (i := 8) (by kernel_rfl) (by rfl) (by kernel_rfl) ?_
      intro K hK
      have qya13 := eya9.size
      have eya12 : Below w1.heap.size w1 (vya11.alloc (.cells Z0 83)) := Below.alloc eya9 eya9.size _
      have hnx : Below vya11.heap.size vya11 (vya11.alloc (.cells Z0 83)) := Below.alloc (Below.refl _ _) (Nat.le_refl _) _
      go_wp2_with fail
      have nerarb : gra ≠ vya11.heap.size := Nat.ne_of_lt ra.lt
      replace ra := ra.below hnx ra.lt
      replace hBn := (hBn.below hnx).more hnx.size
      have rb : Rw (vya11.alloc (.cells Z0 83)) vya11.heap.size noR := by rw [← HZ0.out]; exact Rw.new _ _ _ rfl
      refine hK _ _ (fun _ => eya12) ?_
      clear hK K hnx
      generalize (vya11.alloc (.cells Z0 83)) = vya14 at *
      obtain ⟨grb, hgrb⟩ : ∃ g, vya11.heap.size = g := ⟨_, rfl⟩
      have hqrb : w1.heap.size ≤ grb := by omega
      rw [hgrb] at rb nerarb
      try rw [hgrb]
      clear hgrb
      refine any_run1 (i := 9) (by kernel_rfl) (by rfl) (by kernel_rfl) ?_
      intro K hK
      have hpu := ra.run_put Ra
      rw [HLA.out] at hpu
      have HPU := Lib.hid hpu
      clear hpu
      have eya15 : Below w1.heap.size w1 (vya14.setCells gra 0 LA) := setCells_below (by omega) _ _ _ eya12
      have rb_ := rb.heap (W' := (vya14.setCells gra 0 LA)) (setCells_block _ _ _ _ _ (by first | assumption | exact Ne.symm (by assumption)))
      clear rb
      have rb := rb_
      clear rb_
      have ra_ := ra.put Ra
      rw [HLA.out] at ra_
      clear ra
      have ra := ra_
      clear ra_
      refine wp_store_run 83 (.tmp 5) (.tmp 11) rfl HPU.out ?_
      refine hK _ _ (fun _ => eya15) ?_
      clear hK K HPU hBn
      simp only [List.getElem_toArray, List.getElem_cons_succ, List.getElem_cons_zero, Act.put, List.setIfInBounds_toArray, List.set_cons_succ, List.set_cons_zero]
      generalize (vya14.setCells gra 0 LA) = vya16 at *
      refine any_run1 (i := 10) (by kernel_rfl) (by rfl) (by kernel_rfl) ?_
      intro K hK
      have hpu := rb.run_put Rb
      rw [HLB.out] at hpu
      have HPU := Lib.hid hpu
      clear hpu
      have eya17 : Below w1.heap.size w1 (vya16.setCells grb 0 LB) := setCells_below (by omega) _ _ _ eya15
      have ra_ := ra.heap (W' := (vya16.setCells grb 0 LB)) (setCells_block _ _ _ _ _ (by first | assumption | exact Ne.symm (by assumption)))
      clear ra
      have ra := ra_
      clear ra_
      have rb_ := rb.put Rb
      rw [HLB.out] at rb_
      clear rb
      have rb := rb_
      clear rb_
      refine wp_store_run 83 (.tmp 6) (.tmp 15) rfl HPU.out ?_
      refine hK _ _ (fun _ => eya17) ?_
      clear hK K HPU
      simp only [List.getElem_toArray, List.getElem_cons_succ, List.getElem_cons_zero, Act.put, List.setIfInBounds_toArray, List.set_cons_succ, List.set_cons_zero]
      generalize (vya16.setCells grb 0 LB) = vya18 at *
      refine any_done (by kernel_rfl) (NoPanic.normal ?_)
      exact ⟨rfl, by simp [setAll], rfl, _, _, rfl, rfl, by assumption, by assumption, ra, rb, eya17⟩
     ·skip
      intro K hK
      have qya20 := eya6.size
      have eya19 : Below w1.heap.size w1 (vya7.alloc (.cells Z0 83)) := Below.alloc eya6 eya6.size _
      have hnx : Below vya7.heap.size vya7 (vya7.alloc (.cells Z0 83)) := Below.alloc (Below.refl _ _) (Nat.le_refl _) _
      go_wp2_with fail
      replace hBn := (hBn.below hnx).more hnx.size
      have rb : Rw (vya7.alloc (.cells Z0 83)) vya7.heap.size noR := by rw [← HZ0.out]; exact Rw.new _ _ _ rfl
      refine hK _ _ (fun _ => eya19) ?_
      clear hK K hnx
      generalize (vya7.alloc (.cells Z0 83)) = vya21 at *
      obtain ⟨grb, hgrb⟩ : ∃ g, vya7.heap.size = g := ⟨_, rfl⟩
      have hqrb : w1.heap.size ≤ grb := by omega
      rw [hgrb] at rb
      try rw [hgrb]
      clear hgrb
      refine any_run1 (i := 7) (by kernel_rfl) (by rfl) (by kernel_rfl) ?_
      intro K hK
      have qya23 := eya19.size
      have eya22 : Below w1.heap.size w1 (vya21.alloc (.cells Z0 83)) := Below.alloc eya19 eya19.size _
      have hnx : Below vya21.heap.size vya21 (vya21.alloc (.cells Z0 83)) := Below.alloc (Below.refl _ _) (Nat.le_refl _) _
      go_wp2_with fail
      have nerbra : grb ≠ vya21.heap.size := Nat.ne_of_lt rb.lt
      replace rb := rb.below hnx rb.lt
      replace hBn := (hBn.below hnx).more hnx.size
      have ra : Rw (vya21.alloc (.cells Z0 83)) vya21.heap.size noR := by rw [← HZ0.out]; exact Rw.new _ _ _ rfl
      refine hK _ _ (fun _ => eya22) ?_
      clear hK K hnx
      generalize (vya21.alloc (.cells Z0 83)) = vya24 at *
      obtain ⟨gra, hgra⟩ : ∃ g, vya21.heap.size = g := ⟨_, rfl⟩
      have hqra : w1.heap.size ≤ gra := by omega
      rw [hgra] at ra nerbra
      try rw [hgra]
      clear hgra
      refine any_run1 (i := 9) (by kernel_rfl) (by rfl) (by kernel_rfl) ?_
      intro K hK
      have hpu := ra.run_put Ra
      rw [HLA.out] at hpu
      have HPU := Lib.hid hpu
      clear hpu
      have eya25 : Below w1.heap.size w1 (vya24.setCells gra 0 LA) := setCells_below (by omega) _ _ _ eya22
      have rb_ := rb.heap (W' := (vya24.setCells gra 0 LA)) (setCells_block _ _ _ _ _ (by first | assumption | exact Ne.symm (by assumption)))
      clear rb
      have rb := rb_
      clear rb_
      have ra_ := ra.put Ra
      rw [HLA.out] at ra_
      clear ra
      have ra := ra_
      clear ra_
      refine wp_store_run 83 (.tmp 5) (.tmp 11) rfl HPU.out ?_
      refine hK _ _ (fun _ => eya25) ?_
      clear hK K HPU hBn
      simp only [List.getElem_toArray, List.getElem_cons_succ, List.getElem_cons_zero, Act.put, List.setIfInBounds_toArray, List.set_cons_succ, List.set_cons_zero]
      generalize (vya24.setCells gra 0 LA) = vya26 at *
      refine any_run1 (i := 10) (by kernel_rfl) (by rfl) (by kernel_rfl) ?_
      intro K hK
      have hpu := rb.run_put Rb
      rw [HLB.out] at hpu
      have HPU := Lib.hid hpu
      clear hpu
      have eya27 : Below w1.heap.size w1 (vya26.setCells grb 0 LB) := setCells_below (by omega) _ _ _ eya25
      have ra_ := ra.heap (W' := (vya26.setCells grb 0 LB)) (setCells_block _ _ _ _ _ (by first | assumption | exact Ne.symm (by assumption)))
      clear ra
      have ra := ra_
      clear ra_
      have rb_ := rb.put Rb
      rw [HLB.out] at rb_
      clear rb
      have rb := rb_
      clear rb_
      refine wp_store_run 83 (.tmp 6) (.tmp 15) rfl HPU.out ?_
      refine hK _ _ (fun _ => eya27) ?_
      clear hK K HPU
      simp only [List.getElem_toArray, List.getElem_cons_succ, List.getElem_cons_zero, Act.put, List.setIfInBounds_toArray, List.set_cons_succ, List.set_cons_zero]
      generalize (vya26.setCells grb 0 LB) = vya28 at *
      refine any_done (by kernel_rfl) (NoPanic.normal ?_)
      exact ⟨rfl, by simp [setAll], rfl, _, _, rfl, rfl, by assumption, by assumption, ra, rb, eya27⟩
    ·skip
     intro K hK
     have qya30 := eya3.size
     have eya29 : Below w1.heap.size w1 (vya4.alloc (.cells Z0 83)) := Below.alloc eya3 eya3.size _
     have hnx : Below vya4.heap.size vya4 (vya4.alloc (.cells Z0 83)) := Below.alloc (Below.refl _ _) (Nat.le_refl _) _
     go_wp2_with fail
     replace hBn := (hBn.below hnx).more hnx.size
     have ra : Rw (vya4.alloc (.cells Z0 83)) vya4.heap.size noR := by rw [← HZ0.out]; exact Rw.new _ _ _ rfl
     refine hK _ _ (fun _ => eya29) ?_
     clear hK K hnx
     generalize (vya4.alloc (.cells Z0 83)) = vya31 at *
     obtain ⟨gra, hgra⟩ : ∃ g, vya4.heap.size = g := ⟨_, rfl⟩
     have hqra : w1.heap.size ≤ gra := by omega
     rw [hgra] at ra
     try rw [hgra]
     clear hgra
     refine any_run2 (i := 6) (j := 8) (by kernel_rfl) (by rfl) (by rfl) (by rfl) (by rfl) ?_ ?_
     ·skip
      intro K hK
      have qya34 := eya29.size
      go_wp2_with fail
      refine (HTA.out _ hBn).mono ?_
      rintro e vya33 ⟨rfl, hb⟩
      have eya32 : Below w1.heap.size w1 vya33 := eya29.trans (hb.mono eya29.size)
      replace ra := ra.below hb ra.lt
      replace hBn := (hBn.below hb).more hb.size
      clear hb
      refine hK _ _ (fun _ => eya32) ?_
      clear hK K
      refine any_run1 (i := 8) (by kernel_rfl) (by rfl) (by kernel_rfl) ?_
      intro K hK
      have qya36 := eya32.size
      have eya35 : Below w1.heap.size w1 (vya33.alloc (.cells Z0 83)) := Below.alloc eya32 eya32.size _
      have hnx : Below vya33.heap.size vya33 (vya33.alloc (.cells Z0 83)) := Below.alloc (Below.refl _ _) (Nat.le_refl _) _
      go_wp2_with fail
      have nerarb : gra ≠ vya33.heap.size := Nat.ne_of_lt ra.lt
      replace ra := ra.below hnx ra.lt
      replace hBn := (hBn.below hnx).more hnx.size
      have rb : Rw (vya33.alloc (.cells Z0 83)) vya33.heap.size noR := by rw [← HZ0.out]; exact Rw.new _ _ _ rfl
      refine hK _ _ (fun _ => eya35) ?_
      clear hK K hnx
      generalize (vya33.alloc (.cells Z0 83)) = vya37 at *
      obtain ⟨grb, hgrb⟩ : ∃ g, vya33.heap.size = g := ⟨_, rfl⟩
      have hqrb : w1.heap.size ≤ grb := by omega
      rw [hgrb] at rb nerarb
      try rw [hgrb]
      clear hgrb
      refine any_run1 (i := 9) (by kernel_rfl) (by rfl) (by kernel_rfl) ?_
      intro K hK
      have hpu := ra.run_put Ra
      rw [HLA.out] at hpu
      have HPU := Lib.hid hpu
      clear hpu
      have eya38 : Below w1.heap.size w1 (vya37.setCells gra 0 LA) := setCells_below (by omega) _ _ _ eya35
      have rb_ := rb.heap (W' := (vya37.setCells gra 0 LA)) (setCells_block _ _ _ _ _ (by first | assumption | exact Ne.symm (by assumption)))
      clear rb
      have rb := rb_
      clear rb_
      have ra_ := ra.put Ra
      rw [HLA.out] at ra_
      clear ra
      have ra := ra_
      clear ra_
      refine wp_store_run 83 (.tmp 5) (.tmp 11) rfl HPU.out ?_
      refine hK _ _ (fun _ => eya38) ?_
      clear hK K HPU hBn
      simp only [List.getElem_toArray, List.getElem_cons_succ, List.getElem_cons_zero, Act.put, List.setIfInBounds_toArray, List.set_cons_succ, List.set_cons_zero]
      generalize (vya37.setCells gra 0 LA) = vya39 at *
      refine any_run1 (i := 10) (by kernel_rfl) (by rfl) (by kernel_rfl) ?_
      intro K hK
      have hpu := rb.run_put Rb
      rw [HLB.out] at hpu
      have HPU := Lib.hid hpu
      clear hpu
      have eya40 : Below w1.heap.size w1 (vya39.setCells grb 0 LB) := setCells_below (by omega) _ _ _ eya38
      have ra_ := ra.heap (W' := (vya39.setCells grb 0 LB)) (setCells_block _ _ _ _ _ (by first | assumption | exact Ne.symm (by assumption)))
      clear ra
      have ra := ra_
      clear ra_
      have rb_ := rb.put Rb
      rw [HLB.out] at rb_
      clear rb
      have rb := rb_
      clear rb_
      refine wp_store_run 83 (.tmp 6) (.tmp 15) rfl HPU.out ?_
      refine hK _ _ (fun _ => eya40) ?_
      clear hK K HPU
      simp only [List.getElem_toArray, List.getElem_cons_succ, List.getElem_cons_zero, Act.put, List.setIfInBounds_toArray, List.set_cons_succ, List.set_cons_zero]
      generalize (vya39.setCells grb 0 LB) = vya41 at *
      refine any_done (by kernel_rfl) (NoPanic.normal ?_)
      exact ⟨rfl, by simp [setAll], rfl, _, _, rfl, rfl, by assumption, by assumption, ra, rb, eya40⟩
     ·skip
      intro K hK
      have qya43 := eya29.size
      have eya42 : Below w1.heap.size w1 (vya31.alloc (.cells Z0 83)) := Below.alloc eya29 eya29.size _
      have hnx : Below vya31.heap.size vya31 (vya31.alloc (.cells Z0 83)) := Below.alloc (Below.refl _ _) (Nat.le_refl _) _
      go_wp2_with fail
      have nerarb : gra ≠ vya31.heap.size := Nat.ne_of_lt ra.lt
      replace ra := ra.below hnx ra.lt
      replace hBn := (hBn.below hnx).more hnx.size
      have rb : Rw (vya31.alloc (.cells Z0 83)) vya31.heap.size noR := by rw [← HZ0.out]; exact Rw.new _ _ _ rfl
      refine hK _ _ (fun _ => eya42) ?_
      clear hK K hnx
      generalize (vya31.alloc (.cells Z0 83)) = vya44 at *
      obtain ⟨grb, hgrb⟩ : ∃ g, vya31.heap.size = g := ⟨_, rfl⟩
      have hqrb : w1.heap.size ≤ grb := by omega
      rw [hgrb] at rb nerarb
      try rw [hgrb]
      clear hgrb
      refine any_run1 (i := 6) (by kernel_rfl) (by rfl) (by kernel_rfl) ?_
      intro K hK
      have qya47 := eya42.size
      go_wp2_with fail
      refine (HTA.out _ hBn).mono ?_
      rintro e vya46 ⟨rfl, hb⟩
      have eya45 : Below w1.heap.size w1 vya46 := eya42.trans (hb.mono eya42.size)
      replace ra := ra.below hb ra.lt
      replace rb := rb.below hb rb.lt
      replace hBn := (hBn.below hb).more hb.size
      clear hb
      refine hK _ _ (fun _ => eya45) ?_
      clear hK K
      refine any_run1 (i := 9) (by kernel_rfl) (by rfl) (by kernel_rfl) ?_
      intro K hK
      have hpu := ra.run_put Ra
      rw [HLA.out] at hpu
      have HPU := Lib.hid hpu
      clear hpu
      have eya48 : Below w1.heap.size w1 (vya46.setCells gra 0 LA) := setCells_below (by omega) _ _ _ eya45
      have rb_ := rb.heap (W' := (vya46.setCells gra 0 LA)) (setCells_block _ _ _ _ _ (by first | assumption | exact Ne.symm (by assumption)))
      clear rb
      have rb := rb_
      clear rb_
      have ra_ := ra.put Ra
      rw [HLA.out] at ra_
      clear ra
      have ra := ra_
      clear ra_
      refine wp_store_run 83 (.tmp 5) (.tmp 11) rfl HPU.out ?_
      refine hK _ _ (fun _ => eya48) ?_
      clear hK K HPU hBn
      simp only [List.getElem_toArray, List.getElem_cons_succ, List.getElem_cons_zero, Act.put, List.setIfInBounds_toArray, List.set_cons_succ, List.set_cons_zero]
      generalize (vya46.setCells gra 0 LA) = vya49 at *
      refine any_run1 (i := 10) (by kernel_rfl) (by rfl) (by kernel_rfl) ?_
      intro K hK
      have hpu := rb.run_put Rb
      rw [HLB.out] at hpu
      have HPU := Lib.hid hpu
      clear hpu
      have eya50 : Below w1.heap.size w1 (vya49.setCells grb 0 LB) := setCells_below (by omega) _ _ _ eya48
      have ra_ := ra.heap (W' := (vya49.setCells grb 0 LB)) (setCells_block _ _ _ _ _ (by first | assumption | exact Ne.symm (by assumption)))
      clear ra
      have ra := ra_
      clear ra_
      have rb_ := rb.put Rb
      rw [HLB.out] at rb_
      clear rb
      have rb := rb_
      clear rb_
      refine wp_store_run 83 (.tmp 6) (.tmp 15) rfl HPU.out ?_
      refine hK _ _ (fun _ => eya50) ?_
      clear hK K HPU
      simp only [List.getElem_toArray, List.getElem_cons_succ, List.getElem_cons_zero, Act.put, List.setIfInBounds_toArray, List.set_cons_succ, List.set_cons_zero]
      generalize (vya49.setCells grb 0 LB) = vya51 at *
      refine any_done (by kernel_rfl) (NoPanic.normal ?_)
      exact ⟨rfl, by simp [setAll], rfl, _, _, rfl, rfl, by assumption, by assumption, ra, rb, eya50⟩
    ·skip
     intro K hK
     have qya53 := eya3.size
     have eya52 : Below w1.heap.size w1 (vya4.alloc (.cells Z0 83)) := Below.alloc eya3 eya3.size _
     have hnx : Below vya4.heap.size vya4 (vya4.alloc (.cells Z0 83)) := Below.alloc (Below.refl _ _) (Nat.le_refl _) _
     go_wp2_with fail
     replace hBn := (hBn.below hnx).more hnx.size
     have rb : Rw (vya4.alloc (.cells Z0 83)) vya4.heap.size noR := by rw [← HZ0.out]; exact Rw.new _ _ _ rfl
     refine hK _ _ (fun _ => eya52) ?_
     clear hK K hnx
     generalize (vya4.alloc (.cells Z0 83)) = vya54 at *
     obtain ⟨grb, hgrb⟩ : ∃ g, vya4.heap.size = g := ⟨_, rfl⟩
     have hqrb : w1.heap.size ≤ grb := by omega
     rw [hgrb] at rb
     try rw [hgrb]
     clear hgrb
     refine any_run2 (i := 6) (j := 7) (by kernel_rfl) (by rfl) (by rfl) (by rfl) (by rfl) ?_ ?_
     ·skip
      intro K hK
      have qya57 := eya52.size
      go_wp2_with fail
      refine (HTA.out _ hBn).mono ?_
      rintro e vya56 ⟨rfl, hb⟩
      have eya55 : Below w1.heap.size w1 vya56 := eya52.trans (hb.mono eya52.size)
      replace rb := rb.below hb rb.lt
      replace hBn := (hBn.below hb).more hb.size
      clear hb
      refine hK _ _ (fun _ => eya55) ?_
      clear hK K
      refine any_run1 (i := 7) (by kernel_rfl) (by rfl) (by kernel_rfl) ?_
      intro K hK
      have qya59 := eya55.size
      have eya58 : Below w1.heap.size w1 (vya56.alloc (.cells Z0 83)) := Below.alloc eya55 eya55.size _
      have hnx : Below vya56.heap.size vya56 (vya56.alloc (.cells Z0 83)) := Below.alloc (Below.refl _ _) (Nat.le_refl _) _
      go_wp2_with fail
      have nerbra : grb ≠ vya56.heap.size := Nat.ne_of_lt rb.lt
      replace rb := rb.below hnx rb.lt
      replace hBn := (hBn.below hnx).more hnx.size
      have ra : Rw (vya56.alloc (.cells Z0 83)) vya56.heap.size noR := by rw [← HZ0.out]; exact Rw.new _ _ _ rfl
      refine hK _ _ (fun _ => eya58) ?_
      clear hK K hnx
      generalize (vya56.alloc (.cells Z0 83)) = vya60 at *
      obtain ⟨gra, hgra⟩ : ∃ g, vya56.heap.size = g := ⟨_, rfl⟩
      have hqra : w1.heap.size ≤ gra := by omega
      rw [hgra] at ra nerbra
      try rw [hgra]
      clear hgra
      refine any_run1 (i := 9) (by kernel_rfl) (by rfl) (by kernel_rfl) ?_
      intro K hK
      have hpu := ra.run_put Ra
      rw [HLA.out] at hpu
      have HPU := Lib.hid hpu
      clear hpu
      have eya61 : Below w1.heap.size w1 (vya60.setCells gra 0 LA) := setCells_below (by omega) _ _ _ eya58
      have rb_ := rb.heap (W' := (vya60.setCells gra 0 LA)) (setCells_block _ _ _ _ _ (by first | assumption | exact Ne.symm (by assumption)))
      clear rb
      have rb := rb_
      clear rb_
      have ra_ := ra.put Ra
      rw [HLA.out] at ra_
      clear ra
      have ra := ra_
      clear ra_
      refine wp_store_run 83 (.tmp 5) (.tmp 11) rfl HPU.out ?_
      refine hK _ _ (fun _ => eya61) ?_
      clear hK K HPU hBn
      simp only [List.getElem_toArray, List.getElem_cons_succ, List.getElem_cons_zero, Act.put, List.setIfInBounds_toArray, List.set_cons_succ, List.set_cons_zero]
      generalize (vya60.setCells gra 0 LA) = vya62 at *
      refine any_run1 (i := 10) (by kernel_rfl) (by rfl) (by kernel_rfl) ?_
      intro K hK
      have hpu := rb.run_put Rb
      rw [HLB.out] at hpu
      have HPU := Lib.hid hpu
      clear hpu
      have eya63 : Below w1.heap.size w1 (vya62.setCells grb 0 LB) := setCells_below (by omega) _ _ _ eya61
      have ra_ := ra.heap (W' := (vya62.setCells grb 0 LB)) (setCells_block _ _ _ _ _ (by first | assumption | exact Ne.symm (by assumption)))
      clear ra
      have ra := ra_
      clear ra_
      have rb_ := rb.put Rb
      rw [HLB.out] at rb_
      clear rb
      have rb := rb_
      clear rb_
      refine wp_store_run 83 (.tmp 6) (.tmp 15) rfl HPU.out ?_
      refine hK _ _ (fun _ => eya63) ?_
      clear hK K HPU
      simp only [List.getElem_toArray, List.getElem_cons_succ, List.getElem_cons_zero, Act.put, List.setIfInBounds_toArray, List.set_cons_succ, List.set_cons_zero]
      generalize (vya62.setCells grb 0 LB) = vya64 at *
      refine any_done (by kernel_rfl) (NoPanic.normal ?_)
      exact ⟨rfl, by simp [setAll], rfl, _, _, rfl, rfl, by assumption, by assumption, ra, rb, eya63⟩
     ·skip
      intro K hK
      have qya66 := eya52.size
      have eya65 : Below w1.heap.size w1 (vya54.alloc (.cells Z0 83)) := Below.alloc eya52 eya52.size _
      have hnx : Below vya54.heap.size vya54 (vya54.alloc (.cells Z0 83)) := Below.alloc (Below.refl _ _) (Nat.le_refl _) _
      go_wp2_with fail
      have nerbra : grb ≠ vya54.heap.size := Nat.ne_of_lt rb.lt
      replace rb := rb.below hnx rb.lt
      replace hBn := (hBn.below hnx).more hnx.size
      have ra : Rw (vya54.alloc (.cells Z0 83)) vya54.heap.size noR := by rw [← HZ0.out]; exact Rw.new _ _ _ rfl
      refine hK _ _ (fun _ => eya65) ?_
      clear hK K hnx
      generalize (vya54.alloc (.cells Z0 83)) = vya67 at *
      obtain ⟨gra, hgra⟩ : ∃ g, vya54.heap.size = g := ⟨_, rfl⟩
      have hqra : w1.heap.size ≤ gra := by omega
      rw [hgra] at ra nerbra
      try rw [hgra]
      clear hgra
      refine any_run1 (i := 6) (by kernel_rfl) (by rfl) (by kernel_rfl) ?_
      intro K hK
      have qya70 := eya65.size
      go_wp2_with fail
      refine (HTA.out _ hBn).mono ?_
      rintro e vya69 ⟨rfl, hb⟩
      have eya68 : Below w1.heap.size w1 vya69 := eya65.trans (hb.mono eya65.size)
      replace rb := rb.below hb rb.lt
      replace ra := ra.below hb ra.lt
      replace hBn := (hBn.below hb).more hb.size
      clear hb
      refine hK _ _ (fun _ => eya68) ?_
      clear hK K
      refine any_run1 (i := 9) (by kernel_rfl) (by rfl) (by kernel_rfl) ?_
      intro K hK
      have hpu := ra.run_put Ra
      rw [HLA.out] at hpu
      have HPU := Lib.hid hpu
      clear hpu
      have eya71 : Below w1.heap.size w1 (vya69.setCells gra 0 LA) := setCells_below (by omega) _ _ _ eya68
      have rb_ := rb.heap (W' := (vya69.setCells gra 0 LA)) (setCells_block _ _ _ _ _ (by first | assumption | exact Ne.symm (by assumption)))
      clear rb
      have rb := rb_
      clear rb_
      have ra_ := ra.put Ra
      rw [HLA.out] at ra_
      clear ra
      have ra := ra_
      clear ra_
      refine wp_store_run 83 (.tmp 5) (.tmp 11) rfl HPU.out ?_
      refine hK _ _ (fun _ => eya71) ?_
      clear hK K HPU hBn
      simp only [List.getElem_toArray, List.getElem_cons_succ, List.getElem_cons_zero, Act.put, List.setIfInBounds_toArray, List.set_cons_succ, List.set_cons_zero]
      generalize (vya69.setCells gra 0 LA) = vya72 at *
      refine any_run1 (i := 10) (by kernel_rfl) (by rfl) (by kernel_rfl) ?_
      intro K hK
      have hpu := rb.run_put Rb
      rw [HLB.out] at hpu
      have HPU := Lib.hid hpu
      clear hpu
      have eya73 : Below w1.heap.size w1 (vya72.setCells grb 0 LB) := setCells_below (by omega) _ _ _ eya71
      have ra_ := ra.heap (W' := (vya72.setCells grb 0 LB)) (setCells_block _ _ _ _ _ (by first | assumption | exact Ne.symm (by assumption)))
      clear ra
      have ra := ra_
      clear ra_
      have rb_ := rb.put Rb
      rw [HLB.out] at rb_
      clear rb
      have rb := rb_
      clear rb_
      refine wp_store_run 83 (.tmp 6) (.tmp 15) rfl HPU.out ?_
      refine hK _ _ (fun _ => eya73) ?_
      clear hK K HPU
      simp only [List.getElem_toArray, List.getElem_cons_succ, List.getElem_cons_zero, Act.put, List.setIfInBounds_toArray, List.set_cons_succ, List.set_cons_zero]
      generalize (vya72.setCells grb 0 LB) = vya74 at *
      refine any_done (by kernel_rfl) (NoPanic.normal ?_)
      exact ⟨rfl, by simp [setAll], rfl, _, _, rfl, rfl, by assumption, by assumption, ra, rb, eya73⟩
   ·skip
    intro K hK
    have qya76 := dya1.size
    have eya75 : Below w1.heap.size w1 (uya2.alloc (.cells Z0 83)) := Below.alloc dya1 dya1.size _
    have hnx : Below uya2.heap.size uya2 (uya2.alloc (.cells Z0 83)) := Below.alloc (Below.refl _ _) (Nat.le_refl _) _
    go_wp2_with fail
    replace hBn := (hBn.below hnx).more hnx.size
    have ra : Rw (uya2.alloc (.cells Z0 83)) uya2.heap.size noR := by rw [← HZ0.out]; exact Rw.new _ _ _ rfl
    refine hK _ _ (fun _ => eya75) ?_
    clear hK K hnx
    generalize (uya2.alloc (.cells Z0 83)) = vya77 at *
    obtain ⟨gra, hgra⟩ : ∃ g, uya2.heap.size = g := ⟨_, rfl⟩
    have hqra : w1.heap.size ≤ gra := by omega
    rw [hgra] at ra
    try rw [hgra]
    clear hgra
    refine any_run2 (i := 2) (j := 8) (by kernel_rfl) (by rfl) (by rfl) (by rfl) (by rfl) ?_ ?_
    ·skip
     intro K hK
     have qya80 := eya75.size
     go_wp2_with fail
     refine (HCA.out _ hBn).mono ?_
     rintro e vya79 ⟨rfl, hb⟩
     have eya78 : Below w1.heap.size w1 vya79 := eya75.trans (hb.mono eya75.size)
     replace ra := ra.below hb ra.lt
     replace hBn := (hBn.below hb).more hb.size
     clear hb
     refine hK _ _ (fun _ => eya78) ?_
     clear hK K
     refine any_run2 (i := 6) (j := 8) (by kernel_rfl) (by rfl) (by rfl) (by rfl) (by rfl) ?_ ?_
     ·skip
      intro K hK
      have qya83 := eya78.size
      go_wp2_with fail
      refine (HTA.out _ hBn).mono ?_
      rintro e vya82 ⟨rfl, hb⟩
      have eya81 : Below w1.heap.size w1 vya82 := eya78.trans (hb.mono eya78.size)
      replace ra := ra.below hb ra.lt
      replace hBn := (hBn.below hb).more hb.size
      clear hb
      refine hK _ _ (fun _ => eya81) ?_
      clear hK K
      refine any_run1 (i := 8) (by kernel_rfl) (by rfl) (by kernel_rfl) ?_
      intro K hK
      have qya85 := eya81.size
      have eya84 : Below w1.heap.size w1 (vya82.alloc (.cells Z0 83)) := Below.alloc eya81 eya81.size _
      have hnx : Below vya82.heap.size vya82 (vya82.alloc (.cells Z0 83)) := Below.alloc (Below.refl _ _) (Nat.le_refl _) _
      go_wp2_with fail
      have nerarb : gra ≠ vya82.heap.size := Nat.ne_of_lt ra.lt
      replace ra := ra.below hnx ra.lt
      replace hBn := (hBn.below hnx).more hnx.size
      have rb : Rw (vya82.alloc (.cells Z0 83)) vya82.heap.size noR := by rw [← HZ0.out]; exact Rw.new _ _ _ rfl
      refine hK _ _ (fun _ => eya84) ?_
      clear hK K hnx
      generalize (vya82.alloc (.cells Z0 83)) = vya86 at *
      obtain ⟨grb, hgrb⟩ : ∃ g, vya82.heap.size = g := ⟨_, rfl⟩
      have hqrb : w1.heap.size ≤ grb := by omega
      rw [hgrb] at rb nerarb
      try rw [hgrb]
      clear hgrb
      refine any_run1 (i := 9) (by kernel_rfl) (by rfl) (by kernel_rfl) ?_
      intro K hK
      have hpu := ra.run_put Ra
      rw [HLA.out] at hpu
      have HPU := Lib.hid hpu
      clear hpu
      have eya87 : Below w1.heap.size w1 (vya86.setCells gra 0 LA) := setCells_below (by omega) _ _ _ eya84
      have rb_ := rb.heap (W' := (vya86.setCells gra 0 LA)) (setCells_block _ _ _ _ _ (by first | assumption | exact Ne.symm (by assumption)))
      clear rb
      have rb := rb_
      clear rb_
      have ra_ := ra.put Ra
      rw [HLA.out] at ra_
      clear ra
      have ra := ra_
      clear ra_
      refine wp_store_run 83 (.tmp 5) (.tmp 11) rfl HPU.out ?_
      refine hK _ _ (fun _ => eya87) ?_
      clear hK K HPU hBn
      simp only [List.getElem_toArray, List.getElem_cons_succ, List.getElem_cons_zero, Act.put, List.setIfInBounds_toArray, List.set_cons_succ, List.set_cons_zero]
      generalize (vya86.setCells gra 0 LA) = vya88 at *
      refine any_run1 (i := 10) (by kernel_rfl) (by rfl) (by kernel_rfl) ?_
      intro K hK
      have hpu := rb.run_put Rb
      rw [HLB.out] at hpu
      have HPU := Lib.hid hpu
      clear hpu
      have eya89 : Below w1.heap.size w1 (vya88.setCells grb 0 LB) := setCells_below (by omega) _ _ _ eya87
      have ra_ := ra.heap (W' := (vya88.setCells grb 0 LB)) (setCells_block _ _ _ _ _ (by first | assumption | exact Ne.symm (by assumption)))
      clear ra
      have ra := ra_
      clear ra_
      have rb_ := rb.put Rb
      rw [HLB.out] at rb_
      clear rb
      have rb := rb_
      clear rb_
      refine wp_store_run 83 (.tmp 6) (.tmp 15) rfl HPU.out ?_
      refine hK _ _ (fun _ => eya89) ?_
      clear hK K HPU
      simp only [List.getElem_toArray, List.getElem_cons_succ, List.getElem_cons_zero, Act.put, List.setIfInBounds_toArray, List.set_cons_succ, List.set_cons_zero]
      generalize (vya88.setCells grb 0 LB) = vya90 at *
      refine any_done (by kernel_rfl) (NoPanic.normal ?_)
      exact ⟨rfl, by simp [setAll], rfl, _, _, rfl, rfl, by assumption, by assumption, ra, rb, eya89⟩
     ·skip
      intro K hK
      have qya92 := eya78.size
      have eya91 : Below w1.heap.size w1 (vya79.alloc (.cells Z0 83)) := Below.alloc eya78 eya78.size _
      have hnx : Below vya79.heap.size vya79 (vya79.alloc (.cells Z0 83)) := Below.alloc (Below.refl _ _) (Nat.le_refl _) _
      go_wp2_with fail
      have nerarb : gra ≠ vya79.heap.size := Nat.ne_of_lt ra.lt
      replace ra := ra.below hnx ra.lt
      replace hBn := (hBn.below hnx).more hnx.size
      have rb : Rw (vya79.alloc (.cells Z0 83)) vya79.heap.size noR := by rw [← HZ0.out]; exact Rw.new _ _ _ rfl
      refine hK _ _ (fun _ => eya91) ?_
      clear hK K hnx
      generalize (vya79.alloc (.cells Z0 83)) = vya93 at *
      obtain ⟨grb, hgrb⟩ : ∃ g, vya79.heap.size = g := ⟨_, rfl⟩
      have hqrb : w1.heap.size ≤ grb := by omega
      rw [hgrb] at rb nerarb
      try rw [hgrb]
      clear hgrb
      refine any_run1 (i := 6) (by kernel_rfl) (by rfl) (by kernel_rfl) ?_
      intro K hK
      have qya96 := eya91.size
      go_wp2_with fail
      refine (HTA.out _ hBn).mono ?_
      rintro e vya95 ⟨rfl, hb⟩
      have eya94 : Below w1.heap.size w1 vya95 := eya91.trans (hb.mono eya91.size)
      replace ra := ra.below hb ra.lt
      replace rb := rb.below hb rb.lt
      replace hBn := (hBn.below hb).more hb.size
      clear hb
      refine hK _ _ (fun _ => eya94) ?_
      clear hK K
      refine any_run1 (i := 9) (by kernel_rfl) (by rfl) (by kernel_rfl) ?_
      intro K hK
      have hpu := ra.run_put Ra
      rw [HLA.out] at hpu
      have HPU := Lib.hid hpu
      clear hpu
      have eya97 : Below w1.heap.size w1 (vya95.setCells gra 0 LA) := setCells_below (by omega) _ _ _ eya94
      have rb_ := rb.heap (W' := (vya95.setCells gra 0 LA)) (setCells_block _ _ _ _ _ (by first | assumption | exact Ne.symm (by assumption)))
      clear rb
      have rb := rb_
      clear rb_
      have ra_ := ra.put Ra
      rw [HLA.out] at ra_
      clear ra
      have ra := ra_
      clear ra_
      refine wp_store_run 83 (.tmp 5) (.tmp 11) rfl HPU.out ?_
      refine hK _ _ (fun _ => eya97) ?_
      clear hK K HPU hBn
      simp only [List.getElem_toArray, List.getElem_cons_succ, List.getElem_cons_zero, Act.put, List.setIfInBounds_toArray, List.set_cons_succ, List.set_cons_zero]
      generalize (vya95.setCells gra 0 LA) = vya98 at *
      refine any_run1 (i := 10) (by kernel_rfl) (by rfl) (by kernel_rfl) ?_
      intro K hK
      have hpu := rb.run_put Rb
      rw [HLB.out] at hpu
      have HPU := Lib.hid hpu
      clear hpu
      have eya99 : Below w1.heap.size w1 (vya98.setCells grb 0 LB) := setCells_below (by omega) _ _ _ eya97
      have ra_ := ra.heap (W' := (vya98.setCells grb 0 LB)) (setCells_block _ _ _ _ _ (by first | assumption | exact Ne.symm (by assumption)))
      clear ra
      have ra := ra_
      clear ra_
      have rb_ := rb.put Rb
      rw [HLB.out] at rb_
      clear rb
      have rb := rb_
      clear rb_
      refine wp_store_run 83 (.tmp 6) (.tmp 15) rfl HPU.out ?_
      refine hK _ _ (fun _ => eya99) ?_
      clear hK K HPU
      simp only [List.getElem_toArray, List.getElem_cons_succ, List.getElem_cons_zero, Act.put, List.setIfInBounds_toArray, List.set_cons_succ, List.set_cons_zero]
      generalize (vya98.setCells grb 0 LB) = vya100 at *
      refine any_done (by kernel_rfl) (NoPanic.normal ?_)
      exact ⟨rfl, by simp [setAll], rfl, _, _, rfl, rfl, by assumption, by assumption, ra, rb, eya99⟩
    ·skip
     intro K hK
     have qya102 := eya75.size
     have eya101 : Below w1.heap.size w1 (vya77.alloc (.cells Z0 83)) := Below.alloc eya75 eya75.size _
     have hnx : Below vya77.heap.size vya77 (vya77.alloc (.cells Z0 83)) := Below.alloc (Below.refl _ _) (Nat.le_refl _) _
     go_wp2_with fail
     have nerarb : gra ≠ vya77.heap.size := Nat.ne_of_lt ra.lt
     replace ra := ra.below hnx ra.lt
     replace hBn := (hBn.below hnx).more hnx.size
     have rb : Rw (vya77.alloc (.cells Z0 83)) vya77.heap.size noR := by rw [← HZ0.out]; exact Rw.new _ _ _ rfl
     refine hK _ _ (fun _ => eya101) ?_
     clear hK K hnx
     generalize (vya77.alloc (.cells Z0 83)) = vya103 at *
     obtain ⟨grb, hgrb⟩ : ∃ g, vya77.heap.size = g := ⟨_, rfl⟩
     have hqrb : w1.heap.size ≤ grb := by omega
     rw [hgrb] at rb nerarb
     try rw [hgrb]
     clear hgrb
     refine any_run1 (i := 2) (by kernel_rfl) (by rfl) (by kernel_rfl) ?_
     intro K hK
     have qya106 := eya101.size
     go_wp2_with fail
     refine (HCA.out _ hBn).mono ?_
     rintro e vya105 ⟨rfl, hb⟩
     have eya104 : Below w1.heap.size w1 vya105 := eya101.trans (hb.mono eya101.size)
     replace ra := ra.below hb ra.lt
     replace rb := rb.below hb rb.lt
     replace hBn := (hBn.below hb).more hb.size
     clear hb
     refine hK _ _ (fun _ => eya104) ?_
     clear hK K
     refine any_run1 (i := 6) (by kernel_rfl) (by rfl) (by kernel_rfl) ?_
     intro K hK
     have qya109 := eya104.size
     go_wp2_with fail
     refine (HTA.out _ hBn).mono ?_
     rintro e vya108 ⟨rfl, hb⟩
     have eya107 : Below w1.heap.size w1 vya108 := eya104.trans (hb.mono eya104.size)
     replace ra := ra.below hb ra.lt
     replace rb := rb.below hb rb.lt
     replace hBn := (hBn.below hb).more hb.size
     clear hb
     refine hK _ _ (fun _ => eya107) ?_
     clear hK K
     refine any_run1 (i := 9) (by kernel_rfl) (by rfl) (by kernel_rfl) ?_
     intro K hK
     have hpu := ra.run_put Ra
     rw [HLA.out] at hpu
     have HPU := Lib.hid hpu
     clear hpu
     have eya110 : Below w1.heap.size w1 (vya108.setCells gra 0 LA) := setCells_below (by omega) _ _ _ eya107
     have rb_ := rb.heap (W' := (vya108.setCells gra 0 LA)) (setCells_block _ _ _ _ _ (by first | assumption | exact Ne.symm (by assumption)))
     clear rb
     have rb := rb_
     clear rb_
     have ra_ := ra.put Ra
     rw [HLA.out] at ra_
     clear ra
     have ra := ra_
     clear ra_
     refine wp_store_run 83 (.tmp 5) (.tmp 11) rfl HPU.out ?_
     refine hK _ _ (fun _ => eya110) ?_
     clear hK K HPU hBn
     simp only [List.getElem_toArray, List.getElem_cons_succ, List.getElem_cons_zero, Act.put, List.setIfInBounds_toArray, List.set_cons_succ, List.set_cons_zero]
     generalize (vya108.setCells gra 0 LA) = vya111 at *
     refine any_run1 (i := 10) (by kernel_rfl) (by rfl) (by kernel_rfl) ?_
     intro K hK
     have hpu := rb.run_put Rb
     rw [HLB.out] at hpu
     have HPU := Lib.hid hpu
     clear hpu
     have eya112 : Below w1.heap.size w1 (vya111.setCells grb 0 LB) := setCells_below (by omega) _ _ _ eya110
     have ra_ := ra.heap (W' := (vya111.setCells grb 0 LB)) (setCells_block _ _ _ _ _ (by first | assumption | exact Ne.symm (by assumption)))
     clear ra
     have ra := ra_
     clear ra_
     have rb_ := rb.put Rb
     rw [HLB.out] at rb_
     clear rb
     have rb := rb_
     clear rb_
     refine wp_store_run 83 (.tmp 6) (.tmp 15) rfl HPU.out ?_
     refine hK _ _ (fun _ => eya112) ?_
     clear hK K HPU
     simp only [List.getElem_toArray, List.getElem_cons_succ, List.getElem_cons_zero, Act.put, List.setIfInBounds_toArray, List.set_cons_succ, List.set_cons_zero]
     generalize (vya111.setCells grb 0 LB) = vya113 at *
     refine any_done (by kernel_rfl) (NoPanic.normal ?_)
     exact ⟨rfl, by simp [setAll], rfl, _, _, rfl, rfl, by assumption, by assumption, ra, rb, eya112⟩
   ·skip
    intro K hK
    have qya115 := dya1.size
    have eya114 : Below w1.heap.size w1 (uya2.alloc (.cells Z0 83)) := Below.alloc dya1 dya1.size _
    have hnx : Below uya2.heap.size uya2 (uya2.alloc (.cells Z0 83)) := Below.alloc (Below.refl _ _) (Nat.le_refl _) _
    go_wp2_with fail
    replace hBn := (hBn.below hnx).more hnx.size
    have rb : Rw (uya2.alloc (.cells Z0 83)) uya2.heap.size noR := by rw [← HZ0.out]; exact Rw.new _ _ _ rfl
    refine hK _ _ (fun _ => eya114) ?_
    clear hK K hnx
    generalize (uya2.alloc (.cells Z0 83)) = vya116 at *
    obtain ⟨grb, hgrb⟩ : ∃ g, uya2.heap.size = g := ⟨_, rfl⟩
    have hqrb : w1.heap.size ≤ grb := by omega
    rw [hgrb] at rb
    try rw [hgrb]
    clear hgrb
    refine any_run2 (i := 2) (j := 7) (by kernel_rfl) (by rfl) (by rfl) (by rfl) (by rfl) ?_ ?_
    ·skip
     intro K hK
     have qya119 := eya114.size
     go_wp2_with fail
     refine (HCA.out _ hBn).mono ?_
     rintro e vya118 ⟨rfl, hb⟩
     have eya117 : Below w1.heap.size w1 vya118 := eya114.trans (hb.mono eya114.size)
     replace rb := rb.below hb rb.lt
     replace hBn := (hBn.below hb).more hb.size
     clear hb
     refine hK _ _ (fun _ => eya117) ?_
     clear hK K
     refine any_run2 (i := 6) (j := 7) (by kernel_rfl) (by rfl) (by rfl) (by rfl) (by rfl) ?_ ?_
     ·skip
      intro K hK
      have qya122 := eya117.size
      go_wp2_with fail
      refine (HTA.out _ hBn).mono ?_
      rintro e vya121 ⟨rfl, hb⟩
      have eya120 : Below w1.heap.size w1 vya121 := eya117.trans (hb.mono eya117.size)
      replace rb := rb.below hb rb.lt
      replace hBn := (hBn.below hb).more hb.size
      clear hb
      refine hK _ _ (fun _ => eya120) ?_
      clear hK K
      refine any_run1 (i := 7) (by kernel_rfl) (by rfl) (by kernel_rfl) ?_
      intro K hK
      have qya124 := eya120.size
      have eya123 : Below w1.heap.size w1 (vya121.alloc (.cells Z0 83)) := Below.alloc eya120 eya120.size _
      have hnx : Below vya121.heap.size vya121 (vya121.alloc (.cells Z0 83)) := Below.alloc (Below.refl _ _) (Nat.le_refl _) _
      go_wp2_with fail
      have nerbra : grb ≠ vya121.heap.size := Nat.ne_of_lt rb.lt
      replace rb := rb.below hnx rb.lt
      replace hBn := (hBn.below hnx).more hnx.size
      have ra : Rw (vya121.alloc (.cells Z0 83)) vya121.heap.size noR := by rw [← HZ0.out]; exact Rw.new _ _ _ rfl
      refine hK _ _ (fun _ => eya123) ?_
      clear hK K hnx
      generalize (vya121.alloc (.cells Z0 83)) = vya125 at *
      obtain ⟨gra, hgra⟩ : ∃ g, vya121.heap.size = g := ⟨_, rfl⟩
      have hqra : w1.heap.size ≤ gra := by omega
      rw [hgra] at ra nerbra
      try rw [hgra]
      clear hgra
      refine any_run1 (i := 9) (by kernel_rfl) (by rfl) (by kernel_rfl) ?_
      intro K hK
      have hpu := ra.run_put Ra
      rw [HLA.out] at hpu
      have HPU := Lib.hid hpu
      clear hpu
      have eya126 : Below w1.heap.size w1 (vya125.setCells gra 0 LA) := setCells_below (by omega) _ _ _ eya123
      have rb_ := rb.heap (W' := (vya125.setCells gra 0 LA)) (setCells_block _ _ _ _ _ (by first | assumption | exact Ne.symm (by assumption)))
      clear rb
      have rb := rb_
      clear rb_
      have ra_ := ra.put Ra
      rw [HLA.out] at ra_
      clear ra
      have ra := ra_
      clear ra_
      refine wp_store_run 83 (.tmp 5) (.tmp 11) rfl HPU.out ?_
      refine hK _ _ (fun _ => eya126) ?_
      clear hK K HPU hBn
      simp only [List.getElem_toArray, List.getElem_cons_succ, List.getElem_cons_zero, Act.put, List.setIfInBounds_toArray, List.set_cons_succ, List.set_cons_zero]
      generalize (vya125.setCells gra 0 LA) = vya127 at *
      refine any_run1 (i := 10) (by kernel_rfl) (by rfl) (by kernel_rfl) ?_
      intro K hK
      have hpu := rb.run_put Rb
      rw [HLB.out] at hpu
      have HPU := Lib.hid hpu
      clear hpu
      have eya128 : Below w1.heap.size w1 (vya127.setCells grb 0 LB) := setCells_below (by omega) _ _ _ eya126
      have ra_ := ra.heap (W' := (vya127.setCells grb 0 LB)) (setCells_block _ _ _ _ _ (by first | assumption | exact Ne.symm (by assumption)))
      clear ra
      have ra := ra_
      clear ra_
      have rb_ := rb.put Rb
      rw [HLB.out] at rb_
      clear rb
      have rb := rb_
      clear rb_
      refine wp_store_run 83 (.tmp 6) (.tmp 15) rfl HPU.out ?_
      refine hK _ _ (fun _ => eya128) ?_
      clear hK K HPU
      simp only [List.getElem_toArray, List.getElem_cons_succ, List.getElem_cons_zero, Act.put, List.setIfInBounds_toArray, List.set_cons_succ, List.set_cons_zero]
      generalize (vya127.setCells grb 0 LB) = vya129 at *
      refine any_done (by kernel_rfl) (NoPanic.normal ?_)
      exact ⟨rfl, by simp [setAll], rfl, _, _, rfl, rfl, by assumption, by assumption, ra, rb, eya128⟩
     ·skip
      intro K hK
      have qya131 := eya117.size
      have eya130 : Below w1.heap.size w1 (vya118.alloc (.cells Z0 83)) := Below.alloc eya117 eya117.size _
      have hnx : Below vya118.heap.size vya118 (vya118.alloc (.cells Z0 83)) := Below.alloc (Below.refl _ _) (Nat.le_refl _) _
      go_wp2_with fail
      have nerbra : grb ≠ vya118.heap.size := Nat.ne_of_lt rb.lt
      replace rb := rb.below hnx rb.lt
      replace hBn := (hBn.below hnx).more hnx.size
      have ra : Rw (vya118.alloc (.cells Z0 83)) vya118.heap.size noR := by rw [← HZ0.out]; exact Rw.new _ _ _ rfl
      refine hK _ _ (fun _ => eya130) ?_
      clear hK K hnx
      generalize (vya118.alloc (.cells Z0 83)) = vya132 at *
      obtain ⟨gra, hgra⟩ : ∃ g, vya118.heap.size = g := ⟨_, rfl⟩
      have hqra : w1.heap.size ≤ gra := by omega
      rw [hgra] at ra nerbra
      try rw [hgra]
      clear hgra
      refine any_run1 (i := 6) (by kernel_rfl) (by rfl) (by kernel_rfl) ?_
      intro K hK
      have qya135 := eya130.size
      go_wp2_with fail
      refine (HTA.out _ hBn).mono ?_
      rintro e vya134 ⟨rfl, hb⟩
      have eya133 : Below w1.heap.size w1 vya134 := eya130.trans (hb.mono eya130.size)
      replace rb := rb.below hb rb.lt
      replace ra := ra.below hb ra.lt
      replace hBn := (hBn.below hb).more hb.size
      clear hb
      refine hK _ _ (fun _ => eya133) ?_
      clear hK K
      refine any_run1 (i := 9) (by kernel_rfl) (by rfl) (by kernel_rfl) ?_
      intro K hK
      have hpu := ra.run_put Ra
      rw [HLA.out] at hpu
      have HPU := Lib.hid hpu
      clear hpu
      have eya136 : Below w1.heap.size w1 (vya134.setCells gra 0 LA) := setCells_below (by omega) _ _ _ eya133
      have rb_ := rb.heap (W' := (vya134.setCells gra 0 LA)) (setCells_block _ _ _ _ _ (by first | assumption | exact Ne.symm (by assumption)))
      clear rb
      have rb := rb_
      clear rb_
      have ra_ := ra.put Ra
      rw [HLA.out] at ra_
      clear ra
      have ra := ra_
      clear ra_
      refine wp_store_run 83 (.tmp 5) (.tmp 11) rfl HPU.out ?_
      refine hK _ _ (fun _ => eya136) ?_
      clear hK K HPU hBn
      simp only [List.getElem_toArray, List.getElem_cons_succ, List.getElem_cons_zero, Act.put, List.setIfInBounds_toArray, List.set_cons_succ, List.set_cons_zero]
      generalize (vya134.setCells gra 0 LA) = vya137 at *
      refine any_run1 (i := 10) (by kernel_rfl) (by rfl) (by kernel_rfl) ?_
      intro K hK
      have hpu := rb.run_put Rb
      rw [HLB.out] at hpu
      have HPU := Lib.hid hpu
      clear hpu
      have eya138 : Below w1.heap.size w1 (vya137.setCells grb 0 LB) := setCells_below (by omega) _ _ _ eya136
      have ra_ := ra.heap (W' := (vya137.setCells grb 0 LB)) (setCells_block _ _ _ _ _ (by first | assumption | exact Ne.symm (by assumption)))
      clear ra
      have ra := ra_
      clear ra_
      have rb_ := rb.put Rb
      rw [HLB.out] at rb_
      clear rb
      have rb := rb_
      clear rb_
      refine wp_store_run 83 (.tmp 6) (.tmp 15) rfl HPU.out ?_
      refine hK _ _ (fun _ => eya138) ?_
      clear hK K HPU
      simp only [List.getElem_toArray, List.getElem_cons_succ, List.getElem_cons_zero, Act.put, List.setIfInBounds_toArray, List.set_cons_succ, List.set_cons_zero]
      generalize (vya137.setCells grb 0 LB) = vya139 at *
      refine any_done (by kernel_rfl) (NoPanic.normal ?_)
      exact ⟨rfl, by simp [setAll], rfl, _, _, rfl, rfl, by assumption, by assumption, ra, rb, eya138⟩
    ·skip
     intro K hK
     have qya141 := eya114.size
     have eya140 : Below w1.heap.size w1 (vya116.alloc (.cells Z0 83)) := Below.alloc eya114 eya114.size _
     have hnx : Below vya116.heap.size vya116 (vya116.alloc (.cells Z0 83)) := Below.alloc (Below.refl _ _) (Nat.le_refl _) _
     go_wp2_with fail
     have nerbra : grb ≠ vya116.heap.size := Nat.ne_of_lt rb.lt
     replace rb := rb.below hnx rb.lt
     replace hBn := (hBn.below hnx).more hnx.size
     have ra : Rw (vya116.alloc (.cells Z0 83)) vya116.heap.size noR := by rw [← HZ0.out]; exact Rw.new _ _ _ rfl
     refine hK _ _ (fun _ => eya140) ?_
     clear hK K hnx
     generalize (vya116.alloc (.cells Z0 83)) = vya142 at *
     obtain ⟨gra, hgra⟩ : ∃ g, vya116.heap.size = g := ⟨_, rfl⟩
     have hqra : w1.heap.size ≤ gra := by omega
     rw [hgra] at ra nerbra
     try rw [hgra]
     clear hgra
     refine any_run1 (i := 2) (by kernel_rfl) (by rfl) (by kernel_rfl) ?_
     intro K hK
     have qya145 := eya140.size
     go_wp2_with fail
     refine (HCA.out _ hBn).mono ?_
     rintro e vya144 ⟨rfl, hb⟩
     have eya143 : Below w1.heap.size w1 vya144 := eya140.trans (hb.mono eya140.size)
     replace rb := rb.below hb rb.lt
     replace ra := ra.below hb ra.lt
     replace hBn := (hBn.below hb).more hb.size
     clear hb
     refine hK _ _ (fun _ => eya143) ?_
     clear hK K
     refine any_run1 (i := 6) (by kernel_rfl) (by rfl) (by kernel_rfl) ?_
     intro K hK
     have qya148 := eya143.size
     go_wp2_with fail
     refine (HTA.out _ hBn).mono ?_
     rintro e vya147 ⟨rfl, hb⟩
     have eya146 : Below w1.heap.size w1 vya147 := eya143.trans (hb.mono eya143.size)
     replace rb := rb.below hb rb.lt
     replace ra := ra.below hb ra.lt
     replace hBn := (hBn.below hb).more hb.size
     clear hb
     refine hK _ _ (fun _ => eya146) ?_
     clear hK K
     refine any_run1 (i := 9) (by kernel_rfl) (by rfl) (by kernel_rfl) ?_
     intro K hK
     have hpu := ra.run_put Ra
     rw [HLA.out] at hpu
     have HPU := Lib.hid hpu
     clear hpu
     have eya149 : Below w1.heap.size w1 (vya147.setCells gra 0 LA) := setCells_below (by omega) _ _ _ eya146
     have rb_ := rb.heap (W' := (vya147.setCells gra 0 LA)) (setCells_block _ _ _ _ _ (by first | assumption | exact Ne.symm (by assumption)))
     clear rb
     have rb := rb_
     clear rb_
     have ra_ := ra.put Ra
     rw [HLA.out] at ra_
     clear ra
     have ra := ra_
     clear ra_
     refine wp_store_run 83 (.tmp 5) (.tmp 11) rfl HPU.out ?_
     refine hK _ _ (fun _ => eya149) ?_
     clear hK K HPU hBn
     simp only [List.getElem_toArray, List.getElem_cons_succ, List.getElem_cons_zero, Act.put, List.setIfInBounds_toArray, List.set_cons_succ, List.set_cons_zero]
     generalize (vya147.setCells gra 0 LA) = vya150 at *
     refine any_run1 (i := 10) (by kernel_rfl) (by rfl) (by kernel_rfl) ?_
     intro K hK
     have hpu := rb.run_put Rb
     rw [HLB.out] at hpu
     have HPU := Lib.hid hpu
     clear hpu
     have eya151 : Below w1.heap.size w1 (vya150.setCells grb 0 LB) := setCells_below (by omega) _ _ _ eya149
     have ra_ := ra.heap (W' := (vya150.setCells grb 0 LB)) (setCells_block _ _ _ _ _ (by first | assumption | exact Ne.symm (by assumption)))
     clear ra
     have ra := ra_
     clear ra_
     have rb_ := rb.put Rb
     rw [HLB.out] at rb_
     clear rb
     have rb := rb_
     clear rb_
     refine wp_store_run 83 (.tmp 6) (.tmp 15) rfl HPU.out ?_
     refine hK _ _ (fun _ => eya151) ?_
     clear hK K HPU
     simp only [List.getElem_toArray, List.getElem_cons_succ, List.getElem_cons_zero, Act.put, List.setIfInBounds_toArray, List.set_cons_succ, List.set_cons_zero]
     generalize (vya150.setCells grb 0 LB) = vya152 at *
     refine any_done (by kernel_rfl) (NoPanic.normal ?_)
     exact ⟨rfl, by simp [setAll], rfl, _, _, rfl, rfl, by assumption, by assumption, ra, rb, eya151⟩
   -- region 1 ends
  rintro u V ⟨pa, pb, hu5, hu6, hq1, hq2, ra, rb, hbz⟩
  simp only [setAll, List.foldl, List.setIfInBounds_toArray, List.set_cons_succ, List.set_cons_zero, hu5, hu6]
  clear hu5 hu6
  have bs2 := bs.below hbz bs.lt
  have hB2 := hBn.below hbz
  obtain ⟨vs, vt, hB0, hgn, hTb, hRb⟩ := hB2
  obtain ⟨At, ct, bt, ot, rfl, hA, hc⟩ := RR.cells hRb
  have htl := tubes_len l
  obtain ⟨rfl, hbt⟩ := hA (by omega)
  obtain ⟨x0, x1⟩ := hc (k + 1) (by omega)
  rw [HT2.out] at x0 x1
  rw [htl] at hB0
  have g2 := hB0.cell 2
  have lg := hB0.lt
  simp at g2
  have hsz := hbz.size
  have hbt2 : bt < V.heap.size := by omega
  have hk2 : (((l.length + 1 : Nat)) : Int) = (l.length : Int) + 1 := by omega
  have hk1 : (k : Int) + 1 < (l.length : Int) + 1 := by omega
  have HRO := Lib.hid (And.intro ra (And.intro rb (And.intro bs2 (And.intro hbz (And.intro hq1 hq2)))))
  clear cs ls
  have cs := bs2.cell 0
  have ls := bs2.lt
  simp at cs
  clear hB0 hTb hRb hA hc htl hgn hbt hbz bs bs2 hBn ra rb hq1 hq2 hsz
  go_wp2_with fail
  refine region_keep [16, 17, 18, 19, 20, 21, 22, 23, 24, 25, 7, 8] (fun u V' => ∃ pc pt, u 7 = .pointer (some ⟨pc, 0, none⟩) ∧ u 8 = .pointer (some ⟨pt, 0, none⟩) ∧ V.heap.size ≤ pc ∧ V.heap.size ≤ pt ∧ BK V' pc #[.func (.func 76) #[.pointer (some ⟨g, 0, none⟩)] #[]] 107 ∧ BK V' pt #[.int .i64 t.lo, .int .i64 t.hi] 42 ∧ Below V.heap.size V V') ?_ ?_
  ·skip
   -- region 2 begins
   have d0yb : Below V.heap.size V V.drew := by exact bel_of
   refine wp_region_noPanic (plain_any [0, 1, 2, 3, 4, 5, 6, 7, 8, 9] (Below V.heap.size V) mixed ?_)
   refine any_tk 0 ?_
   refine any_tk 1 ?_
   refine any_tk 2 ?_
   refine any_tk 3 ?_
   refine any_tk 4 ?_
   refine any_tk 5 ?_
   refine any_tk 6 ?_
   refine any_tk 7 ?_
   refine any_tk 8 ?_
   refine any_tk 9 ?_
   have dyb1 : Below V.heap.size V V.drew := by exact bel_of
   have hdr : Below V.heap.size V V.drew := Below.drew (Below.refl _ _)
   clear hdr
   generalize V.drew = uyb2 at *
   refine any_run2 (i := 10) (j := 11) (by kernel_rfl) (by rfl) (by rfl) (by rfl) (by rfl) ?_ ?_
   ·skip
    intro K hK
    have qyb4 := dyb1.size
    have eyb3 : Below V.heap.size V (uyb2.alloc (.cells #[.nilFunc] 107)) := Below.alloc dyb1 dyb1.size _
    have hnx : Below uyb2.heap.size uyb2 (uyb2.alloc (.cells #[.nilFunc] 107)) := Below.alloc (Below.refl _ _) (Nat.le_refl _) _
    go_wp2_with fail
    have kc : BK (uyb2.alloc (.cells #[.nilFunc] 107)) uyb2.heap.size #[.nilFunc] 107 := BK.new _ _ _
    refine hK _ _ (fun _ => eyb3) ?_
    clear hK K hnx
    generalize (uyb2.alloc (.cells #[.nilFunc] 107)) = vyb5 at *
    obtain ⟨gkc, hgkc⟩ : ∃ g, uyb2.heap.size = g := ⟨_, rfl⟩
    have hqkc : V.heap.size ≤ gkc := by omega
    rw [hgkc] at kc
    try rw [hgkc]
    clear hgkc
    refine any_run1 (i := 11) (by kernel_rfl) (by rfl) (by kernel_rfl) ?_
    intro K hK
    have qyb7 := eyb3.size
    have eyb6 : Below V.heap.size V (vyb5.alloc (.cells #[.int .i64 0, .int .i64 0] 42)) := Below.alloc eyb3 eyb3.size _
    have hnx : Below vyb5.heap.size vyb5 (vyb5.alloc (.cells #[.int .i64 0, .int .i64 0] 42)) := Below.alloc (Below.refl _ _) (Nat.le_refl _) _
    go_wp2_with fail
    have nekckt : gkc ≠ vyb5.heap.size := Nat.ne_of_lt kc.lt
    replace kc := kc.below hnx kc.lt
    have kt : BK (vyb5.alloc (.cells #[.int .i64 0, .int .i64 0] 42)) vyb5.heap.size #[.int .i64 0, .int .i64 0] 42 := BK.new _ _ _
    refine hK _ _ (fun _ => eyb6) ?_
    clear hK K hnx
    generalize (vyb5.alloc (.cells #[.int .i64 0, .int .i64 0] 42)) = vyb8 at *
    obtain ⟨gkt, hgkt⟩ : ∃ g, vyb5.heap.size = g := ⟨_, rfl⟩
    have hqkt : V.heap.size ≤ gkt := by omega
    rw [hgkt] at kt nekckt
    try rw [hgkt]
    clear hgkt
    refine any_run1 (i := 12) (by kernel_rfl) (by rfl) (by kernel_rfl) ?_
    intro K hK
    have lkc := kc.lt
    have y0 := kc.cell 0
    have f0 := kc.frozen 0
    simp at y0
    go_wp2_with fail
    have eyb9 : Below V.heap.size V (vyb8.setCell ⟨gkc, 0, none⟩ (.func (.func 76) #[.pointer (some ⟨g, 0, none⟩)] #[])) := by exact bel_of
    have kt_ : BK (vyb8.setCell ⟨gkc, 0, none⟩ (.func (.func 76) #[.pointer (some ⟨g, 0, none⟩)] #[])) gkt _ _ := (BK.far kt (p := ⟨gkc, 0, none⟩) (by first | assumption | exact Ne.symm (by assumption)) _); clear kt; have kt := kt_; clear kt_
    have kc_ := (kc.set 0 (.func (.func 76) #[.pointer (some ⟨g, 0, none⟩)] #[]))
    simp at kc_
    clear kc; have kc := kc_; clear kc_
    clear y0 f0
    refine hK _ _ (fun _ => eyb9) ?_
    clear hK K
    generalize (vyb8.setCell ⟨gkc, 0, none⟩ (.func (.func 76) #[.pointer (some ⟨g, 0, none⟩)] #[])) = vyb10 at *
    refine any_run1 (i := 13) (by kernel_rfl) (by rfl) (by kernel_rfl) ?_
    intro K hK
    have lkt := kt.lt
    have y0 := kt.cell 0
    have f0 := kt.frozen 0
    have y1 := kt.cell 1
    have f1 := kt.frozen 1
    simp at y0 y1
    go_wp2_with fail
    have eyb11 : Below V.heap.size V ((vyb10.setCell ⟨gkt, 0, none⟩ (.int .i64 t.lo)).setCell ⟨gkt, 1, none⟩ (.int .i64 t.hi)) := by exact bel_of
    have kc_ : BK ((vyb10.setCell ⟨gkt, 0, none⟩ (.int .i64 t.lo)).setCell ⟨gkt, 1, none⟩ (.int .i64 t.hi)) gkc _ _ := (BK.far (BK.far kc (p := ⟨gkt, 0, none⟩) (by first | assumption | exact Ne.symm (by assumption)) _) (p := ⟨gkt, 1, none⟩) (by first | assumption | exact Ne.symm (by assumption)) _); clear kc; have kc := kc_; clear kc_
    have kt_ := ((kt.set 0 (.int .i64 t.lo)).set 1 (.int .i64 t.hi))
    simp at kt_
    clear kt; have kt := kt_; clear kt_
    clear y0 f0 y1 f1
    refine hK _ _ (fun _ => eyb11) ?_
    clear hK K
    generalize ((vyb10.setCell ⟨gkt, 0, none⟩ (.int .i64 t.lo)).setCell ⟨gkt, 1, none⟩ (.int .i64 t.hi)) = vyb12 at *
    refine any_done (by kernel_rfl) (NoPanic.normal ?_)
    exact ⟨rfl, by simp [setAll], rfl, _, _, rfl, rfl, by assumption, by assumption, kc, kt, eyb11⟩
   ·skip
    intro K hK
    have qyb14 := dyb1.size
    have eyb13 : Below V.heap.size V (uyb2.alloc (.cells #[.int .i64 0, .int .i64 0] 42)) := Below.alloc dyb1 dyb1.size _
    have hnx : Below uyb2.heap.size uyb2 (uyb2.alloc (.cells #[.int .i64 0, .int .i64 0] 42)) := Below.alloc (Below.refl _ _) (Nat.le_refl _) _
    go_wp2_with fail
    have kt : BK (uyb2.alloc (.cells #[.int .i64 0, .int .i64 0] 42)) uyb2.heap.size #[.int .i64 0, .int .i64 0] 42 := BK.new _ _ _
    refine hK _ _ (fun _ => eyb13) ?_
    clear hK K hnx
    generalize (uyb2.alloc (.cells #[.int .i64 0, .int .i64 0] 42)) = vyb15 at *
    obtain ⟨gkt, hgkt⟩ : ∃ g, uyb2.heap.size = g := ⟨_, rfl⟩
    have hqkt : V.heap.size ≤ gkt := by omega
    rw [hgkt] at kt
    try rw [hgkt]
    clear hgkt
    refine any_run1 (i := 10) (by kernel_rfl) (by rfl) (by kernel_rfl) ?_
    intro K hK
    have qyb17 := eyb13.size
    have eyb16 : Below V.heap.size V (vyb15.alloc (.cells #[.nilFunc] 107)) := Below.alloc eyb13 eyb13.size _
    have hnx : Below vyb15.heap.size vyb15 (vyb15.alloc (.cells #[.nilFunc] 107)) := Below.alloc (Below.refl _ _) (Nat.le_refl _) _
    go_wp2_with fail
    have nektkc : gkt ≠ vyb15.heap.size := Nat.ne_of_lt kt.lt
    replace kt := kt.below hnx kt.lt
    have kc : BK (vyb15.alloc (.cells #[.nilFunc] 107)) vyb15.heap.size #[.nilFunc] 107 := BK.new _ _ _
    refine hK _ _ (fun _ => eyb16) ?_
    clear hK K hnx
    generalize (vyb15.alloc (.cells #[.nilFunc] 107)) = vyb18 at *
    obtain ⟨gkc, hgkc⟩ : ∃ g, vyb15.heap.size = g := ⟨_, rfl⟩
    have hqkc : V.heap.size ≤ gkc := by omega
    rw [hgkc] at kc nektkc
    try rw [hgkc]
    clear hgkc
    refine any_run1 (i := 12) (by kernel_rfl) (by rfl) (by kernel_rfl) ?_
    intro K hK
    have lkc := kc.lt
    have y0 := kc.cell 0
    have f0 := kc.frozen 0
    simp at y0
    go_wp2_with fail
    have eyb19 : Below V.heap.size V (vyb18.setCell ⟨gkc, 0, none⟩ (.func (.func 76) #[.pointer (some ⟨g, 0, none⟩)] #[])) := by exact bel_of
    have kt_ : BK (vyb18.setCell ⟨gkc, 0, none⟩ (.func (.func 76) #[.pointer (some ⟨g, 0, none⟩)] #[])) gkt _ _ := (BK.far kt (p := ⟨gkc, 0, none⟩) (by first | assumption | exact Ne.symm (by assumption)) _); clear kt; have kt := kt_; clear kt_
    have kc_ := (kc.set 0 (.func (.func 76) #[.pointer (some ⟨g, 0, none⟩)] #[]))
    simp at kc_
    clear kc; have kc := kc_; clear kc_
    clear y0 f0
    refine hK _ _ (fun _ => eyb19) ?_
    clear hK K
    generalize (vyb18.setCell ⟨gkc, 0, none⟩ (.func (.func 76) #[.pointer (some ⟨g, 0, none⟩)] #[])) = vyb20 at *
    refine any_run1 (i := 13) (by kernel_rfl) (by rfl) (by kernel_rfl) ?_
    intro K hK
    have lkt := kt.lt
    have y0 := kt.cell 0
    have f0 := kt.frozen 0
    have y1 := kt.cell 1
    have f1 := kt.frozen 1
    simp at y0 y1
    go_wp2_with fail
    have eyb21 : Below V.heap.size V ((vyb20.setCell ⟨gkt, 0, none⟩ (.int .i64 t.lo)).setCell ⟨gkt, 1, none⟩ (.int .i64 t.hi)) := by exact bel_of
    have kc_ : BK ((vyb20.setCell ⟨gkt, 0, none⟩ (.int .i64 t.lo)).setCell ⟨gkt, 1, none⟩ (.int .i64 t.hi)) gkc _ _ := (BK.far (BK.far kc (p := ⟨gkt, 0, none⟩) (by first | assumption | exact Ne.symm (by assumption)) _) (p := ⟨gkt, 1, none⟩) (by first | assumption | exact Ne.symm (by assumption)) _); clear kc; have kc := kc_; clear kc_
    have kt_ := ((kt.set 0 (.int .i64 t.lo)).set 1 (.int .i64 t.hi))
    simp at kt_
    clear kt; have kt := kt_; clear kt_
    clear y0 f0 y1 f1
    refine hK _ _ (fun _ => eyb21) ?_
    clear hK K
    generalize ((vyb20.setCell ⟨gkt, 0, none⟩ (.int .i64 t.lo)).setCell ⟨gkt, 1, none⟩ (.int .i64 t.hi)) = vyb22 at *
    refine any_done (by kernel_rfl) (NoPanic.normal ?_)
    exact ⟨rfl, by simp [setAll], rfl, _, _, rfl, rfl, by assumption, by assumption, kc, kt, eyb21⟩
   -- region 2 ends
  rintro u2 V2 ⟨pc, pt, hu7, hu8, hq3, hq4, bc, btt, hby⟩
  simp only [setAll, List.foldl, List.setIfInBounds_toArray, List.set_cons_succ, List.set_cons_zero, hu7, hu8]
  clear hu7 hu8 x0 x1 g2 lg hbt2 hk2 hk1 cs ls
  obtain ⟨ra, rb, bs2, hbz, hq1, hq2⟩ := HRO.out
  have hb1 := HB1.out.1
  have hs1 := HB1.out.2
  have hzs := hbz.size
  have HF := Lib.hid (show WithM pt pa pb pc n g n l m k V2 ∧ WithL pt pa pb pc n n V2.heap.size ∧ Below n w V2 from by
    have hbv : Below n w V := hb1.trans (hbz.mono (by omega))
    have hb2 : Below n w V2 := hbv.trans (hby.mono (by omega))
    refine ⟨⟨by rw [HTE.out]; exact btt, ?_, ?_, bc, bs2.below hby bs2.lt, (by rw [← hn]; exact HBN.out.below (by rw [hn]; exact hb2))⟩, ⟨btt.lt, Nat.lt_of_lt_of_le ra.lt hby.size, Nat.lt_of_lt_of_le rb.lt hby.size, bc.lt, Nat.lt_of_lt_of_le bs2.lt hby.size, by have := hb2.size; omega⟩, hb2⟩
    · rw [HR.out.1]; exact ra.below hby ra.lt
    · rw [HR.out.2]; exact rb.below hby rb.lt)
  clear ra rb bs2 hbz hq1 hq2 bc btt hby hb1 hs1 hzs HRO
  go_wp2_with fail
  refine bodyPost_ret (v := withV pt pa pb pc n) (by simp [results, Try.results62, go_sem, withV]) rfl ?_
  exact ⟨pt, pa, pb, pc, n, rfl, HF.out.1, HF.out.2.1, HF.out.2.2⟩
end Go.Proofs.Ytgbegdjakadbbaa
