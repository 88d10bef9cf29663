/- The tree of a works. -/
import Derived.Test.YtkibdciomheekaaP16
set_option linter.all false
set_option linter.unnecessarySimpa false
set_option linter.unusedSimpArgs false
set_option linter.unusedVariables false
set_option linter.unusedSectionVars false

set_option linter.all false
attribute [local go_sem] Go.Oper.semAt_some
namespace Go.Proofs.Ytkibdciomheekaa
open Go.RowKit Hp

set_option maxHeartbeats 8000000 in
set_option maxRecDepth 100000 in
theorem newTree_any (bars : List Rg) (ss : List Stp) (m : Rg) (vb vs : Value) (w : World) (hV : OkV bars ss) (hm : OkR m) (hB : RR w w.heap.size vb bars) (hS : RP w w.heap.size vs ss) :
    Calls Try.prog 87 #[.agg #[vb, vs], rV m] w fun e w' => ∃ g, e = .returned (.pointer (some ⟨g, 0, none⟩)) ∧ TreeM w' g vb vs m bars ss ∧ Below w.heap.size w w' := by
  have HV := Lib.hid hV
  have HM := Lib.hid hm
  clear hV hm
  obtain ⟨Ab, cb, rfl⟩ := hB.slice
  obtain ⟨As, cs, rfl⟩ := hS.slice
  obtain ⟨mlo, mhi⟩ := m
  unfold rV
  obtain ⟨n0, hn0⟩ : ∃ n, w.heap.size = n := ⟨_, rfl⟩
  have hw0 : n0 ≤ w.heap.size := by omega
  have hC : Below n0 w w := Below.refl _ _
  rw [hn0] at hB hS ⊢
  have HB := Lib.hid hB
  have HS := Lib.hid hS
  clear hB hS
  refine calls_of_wp_marks Try.func87 rfl ?_
  simp only [Try.ntmps87, List.size_toArray, List.length_cons, List.length_nil, Nat.reduceAdd, Nat.reduceSub, Array.replicate_succ, Array.replicate_zero, List.push_toArray, List.append_toArray, List.nil_append, List.cons_append]
  go_upto_region 1 with fail
  have wx : BK (w.alloc (.cells #[.slice Ab bars.length cb, .slice As ss.length cs] 25)) n0 #[.slice Ab bars.length cb, .slice As ss.length cs] 25 := BK.new' _ _ _ n0 hn0
  have hs1 : (w.alloc (.cells #[.slice Ab bars.length cb, .slice As ss.length cs] 25)).heap.size = n0 + 1 := by simp [hn0]
  replace hC : Below n0 w (w.alloc (.cells #[.slice Ab bars.length cb, .slice As ss.length cs] 25)) := Below.alloc hC (by omega) _
  generalize (w.alloc (.cells #[.slice Ab bars.length cb, .slice As ss.length cs] 25)) = W1 at *
  have mx : BK (W1.alloc (.cells #[.int .i64 mlo, .int .i64 mhi] 33)) (n0 + 1) #[.int .i64 mlo, .int .i64 mhi] 33 := BK.new' _ _ _ _ hs1
  replace wx := wx.alloc (.cells #[.int .i64 mlo, .int .i64 mhi] 33)
  obtain ⟨gt, hgt0⟩ : ∃ g, g = n0 + 2 := ⟨_, rfl⟩
  have hgt : n0 + 2 ≤ gt := by omega
  have hs2 : (W1.alloc (.cells #[.int .i64 mlo, .int .i64 mhi] 33)).heap.size = gt := by simp [hs1]; omega
  replace hC : Below n0 w (W1.alloc (.cells #[.int .i64 mlo, .int .i64 mhi] 33)) := Below.alloc hC (by omega) _
  generalize (W1.alloc (.cells #[.int .i64 mlo, .int .i64 mhi] 33)) = W2 at *
  clear hs1 hgt0
  have l1 := wx.lt
  have l2 := mx.lt
  have c0 := wx.cell 0
  have c1 := wx.cell 1
  have e0 := mx.cell 0
  have e1 := mx.cell 1
  simp at c0 c1 e0 e1
  have hz := row_zeroA
  go_upto_region 3 with fail
  have hst : NtSt w n0 gt (.slice Ab bars.length cb) (.slice As ss.length cs) ⟨mlo, mhi⟩ (.slice none 0 0) (.slice none 0 0) [] noR (((W2.alloc (.cells #[.slice Ab bars.length cb, .slice As ss.length cs, .int .i64 mlo, .int .i64 mhi, .slice none 0 0, .slice none 0 0] 140)).alloc (.cells #[.pointer (some ⟨gt, 0, none⟩)] 106)).alloc (.cells (rowL noR).toArray 136)) :=
    ⟨Below.alloc (Below.alloc (Below.alloc hC (by omega) _) (by simp; omega) _) (by simp; omega) _, ((wx.alloc _).alloc _).alloc _, ((mx.alloc _).alloc _).alloc _, ((BK.new' _ _ _ _ hs2).alloc _).alloc _, (BK.new' _ _ _ _ (by simp [hs2])).alloc _, Gd.new _ _ _ _ (by simp [hs2]), OwnF.nil _ _⟩
  clear l1 l2 c0 c1 e0 e1 hs2 wx mx hC
  generalize (((W2.alloc (.cells #[.slice Ab bars.length cb, .slice As ss.length cs, .int .i64 mlo, .int .i64 mhi, .slice none 0 0, .slice none 0 0] 140)).alloc (.cells #[.pointer (some ⟨gt, 0, none⟩)] 106)).alloc (.cells (rowL noR).toArray 136)) = W3 at *
  have wx := hst.wx
  have l1 := wx.lt
  have c0 := wx.cell 0
  have c1 := wx.cell 1
  simp at c0 c1
  have HST := Lib.hid hst
  clear hst wx W1 W2
  go_wp2_with fail
  clear l1 c0 c1
  have hbl : bars.length ≤ 6 := HV.out.bfew
  go_loopw [29] (fun i wr => ∃ k : Nat, k ≤ bars.length ∧ i = .int .i64 k ∧ NtSt w n0 gt (.slice Ab bars.length cb) (.slice As ss.length cs) ⟨mlo, mhi⟩ (.slice none 0 0) (.slice none 0 0) [] ((bars.take k).foldl flR noR) wr) (fun i _ => bars.length - (intOf i).toNat)
  case atStart => exact ⟨0, Nat.zero_le _, rfl, HST.out⟩
  case round =>
    clear HST
    obtain ⟨k, hk, rfl, hst⟩ := hrel
    by_cases hlt : k < bars.length
    case neg =>
      obtain rfl : k = bars.length := by omega
      rw [List.take_length] at hst
      have HST := Lib.hid hst
      clear hst
      go_wp2_with fail
      --FRONT
      have hst := HST.out
      have hG := hst.nx.range (i := 0) (by omega)
      rw [Nat.zero_mul] at hG
      have t2 := hst.tx.cell 4
      have p0 := hst.px.cell 0
      simp only [List.getElem?_toArray, List.getElem?_cons_zero, List.getElem?_cons_succ] at t2 p0
      have lt := hst.tx.lt
      have ln := hst.nx.lt
      obtain ⟨f, hf⟩ : ∃ f, bars.foldl flR noR = f := ⟨_, rfl⟩
      have hd1 : Below (gt + 1 + 1 + 1) wr wr.drew := Below.drew (Below.refl _ _)
      refine wp_region_noPanic (plain_any [0, 1, 2, 3, 4, 5] (Below (gt + 1 + 1 + 1) wr) mixed ?_)
      have HX : ∀ X, Below (gt + 1 + 1 + 1) wr X → X.cell? ⟨gt + 1, 0, none⟩ = some (.pointer (some ⟨gt, 0, none⟩)) ∧ X.cell? ⟨gt, 4, none⟩ = some (.slice none 0 0) := fun X hX => ⟨(hX.cell (p := ⟨gt + 1, 0, none⟩) (by show gt + 1 < _; omega)).trans p0, (hX.cell (p := ⟨gt, 4, none⟩) (by show gt < _; omega)).trans t2⟩
      rw [hf] at hG
      have hsz : (Try.prog.info? 136).map (·.size) = some (rowL f).length := by rw [row_size, rowL_len]
      have HSZ := Lib.hid hsz
      clear hsz
      (refine any_take 0 ?_ (by rfl) (by kernel_rfl) (fun _ _ _ _ _ hx => hx.elim) (.inl ⟨by rfl, ?_⟩) hd1 ?_; rotate_left; (intro X hX; obtain ⟨r1, r2⟩ := HX X hX; clear hX; go_simp; rfl); simp only [List.getElem_toArray, List.getElem_cons_succ, List.getElem_cons_zero, Act.put, List.setIfInBounds_toArray, List.set_cons_succ, List.set_cons_zero])
      (refine any_take 1 ?_ (by rfl) (by kernel_rfl) (fun _ _ _ _ _ hx => hx.elim) (.inl ⟨by rfl, ?_⟩) hd1 ?_; rotate_left; (intro X hX; obtain ⟨r1, r2⟩ := HX X hX; clear hX; go_simp; rfl); simp only [List.getElem_toArray, List.getElem_cons_succ, List.getElem_cons_zero, Act.put, List.setIfInBounds_toArray, List.set_cons_succ, List.set_cons_zero])
      (refine any_take 2 ?_ (by rfl) (by kernel_rfl) (fun _ _ _ _ _ hx => hx.elim) (.inl ⟨by rfl, ?_⟩) hd1 ?_; rotate_left; (intro X hX; obtain ⟨r1, r2⟩ := HX X hX; clear hX; go_simp; rfl); simp only [List.getElem_toArray, List.getElem_cons_succ, List.getElem_cons_zero, Act.put, List.setIfInBounds_toArray, List.set_cons_succ, List.set_cons_zero])
      (refine any_take 3 ?_ (by rfl) (by kernel_rfl) (fun _ _ _ _ _ hx => hx.elim) (.inl ⟨by rfl, ?_⟩) hd1 ?_; rotate_left; (intro X hX; obtain ⟨r1, r2⟩ := HX X hX; clear hX; go_simp; rfl); simp only [List.getElem_toArray, List.getElem_cons_succ, List.getElem_cons_zero, Act.put, List.setIfInBounds_toArray, List.set_cons_succ, List.set_cons_zero])
      (refine any_take 4 ?_ (by rfl) (by kernel_rfl) (fun _ _ _ _ _ hx => hx.elim) (.inl ⟨by rfl, ?_⟩) hd1 ?_; rotate_left; (intro X hX; obtain ⟨r1, r2⟩ := HX X hX; clear hX; go_simp; rfl); simp only [List.getElem_toArray, List.getElem_cons_succ, List.getElem_cons_zero, Act.put, List.setIfInBounds_toArray, List.set_cons_succ, List.set_cons_zero])
      refine any_take 5 (.agg (rowL f).toArray) (by rfl) (by kernel_rfl) (fun _ _ _ _ _ hx => hx.elim) (yieldsIf_load_mid rfl 136 (.tmp 6) rfl (gt + 1 + 1) 0 rfl (rowL f) _ (fun W hW => fun j v hv => by have := hG j v hv; rw [hW.cell (by show gt + 1 + 1 < _; omega)]; exact this) row_under rfl HSZ.out) hd1 ?_
      simp only [List.getElem_toArray, List.getElem_cons_succ, List.getElem_cons_zero, Act.put, List.setIfInBounds_toArray, List.set_cons_succ, List.set_cons_zero]
      refine any_run1 (i := 6) (by kernel_rfl) (by rfl) (by kernel_rfl) ?_
      intro K hK
      refine wp_build_run 138 1 (.tmp 41) _ rfl (run_build_row f _) ?_
      obtain ⟨g7, hg7⟩ : ∃ g, wr.drew.heap.size = g := ⟨_, rfl⟩
      have hg7' : wr.heap.size = g7 := hg7
      have b7 : BK (wr.drew.alloc (.cells (rowL f).toArray 136)) g7 (rowL f).toArray 136 := BK.new' _ _ _ _ hg7
      have hd2 : Below (gt + 1 + 1 + 1) wr (wr.drew.alloc (.cells (rowL f).toArray 136)) := Below.alloc hd1 (by omega) _
      have hst1 := hst.next (Y := wr.drew.alloc (.cells (rowL f).toArray 136)) (Below.alloc (Below.drew (Below.refl _ _)) (Nat.le_refl _) _) hw0
      refine hK _ _ (fun _ => hd2) ?_
      clear hK K
      simp only [List.getElem_toArray, List.getElem_cons_succ, List.getElem_cons_zero, Act.put, List.setIfInBounds_toArray, List.set_cons_succ, List.set_cons_zero]
      rw [hg7]
      clear hg7 hg7'
      generalize wr.drew.alloc (.cells (rowL f).toArray 136) = W7 at *
      refine any_run1 (i := 7) (by kernel_rfl) (by rfl) (by kernel_rfl) ?_
      intro K hK
      obtain ⟨ga, ca, W8, hrun, hown, hgr, hkb⟩ := app_row hst1.fx b7 (by simp) (by have := hst1.nx.lt; omega)
      have hd3 := hkb _ _ (Nat.le_refl _) hd2
      have hc3 := hkb _ _ (by omega : n0 ≤ _) hst1.below
      refine wp_append_run (.tmp 40) (.tmp 42) 138 _ rfl hrun ?_
      refine hK _ _ (fun _ => hd3) ?_
      clear hK K
      simp only [List.getElem_toArray, List.getElem_cons_succ, List.getElem_cons_zero, Act.put, List.setIfInBounds_toArray, List.set_cons_succ, List.set_cons_zero]
      have q8 : ∀ k, k < gt + 1 + 1 + 1 → W8.heap[k]? = wr.heap[k]? := fun k hk => hd3.block k hk
      have tx8 : BK W8 gt _ _ := (q8 gt (by omega)).trans hst.tx
      have l8 := tx8.lt
      have t8 := tx8.cell 4
      have f8 := tx8.frozen 4
      simp at t8
      refine any_run1 (i := 8) (by kernel_rfl) (by rfl) (by kernel_rfl) ?_
      intro K hK
      go_wp2_with fail
      refine hK _ _ (fun _ => hd3) ?_
      clear hK K
      refine any_run1 (i := 9) (by kernel_rfl) (by rfl) (by kernel_rfl) ?_
      intro K hK
      go_wp2_with fail
      refine hK _ _ (fun _ => hd3) ?_
      clear hK K
      refine any_run1 (i := 10) (by kernel_rfl) (by rfl) (by kernel_rfl) ?_
      intro K hK
      go_wp2_with fail
      refine hK _ _ (fun hx => (Bool.false_ne_true (hx.symm.trans (by kernel_rfl))).elim) ?_
      clear hK K
      refine any_done (by kernel_rfl) (NoPanic.normal ?_)
      have hst2 := hst.push hd3 hc3 hown hw0 hgt
      rw [hf] at hst2
      have hst3 : NtSt w n0 gt (.slice Ab bars.length cb) (.slice As ss.length cs) ⟨mlo, mhi⟩ (.slice (some ⟨ga, 0, none⟩) (0 + 1) ca) (.slice none 0 0) (frR bars ss 0) (frontF bars (ss.take 0)) (W8.setCell ⟨gt, 4, none⟩ (.slice (some ⟨ga, 0, none⟩) (0 + 1) ca)) := by
        have e1 : frR bars ss 0 = [f] := by rw [← hf]; rfl
        have e2 : frontF bars (ss.take 0) = f := hf
        rw [e1, e2]
        exact hst2
      have hst2 := hst3
      clear hst hst1 hst3 hG t2 p0 lt ln hd1 HX HSZ b7 hd2 hrun hown hgr hkb hd3 hc3 q8 tx8 l8 f8 t8 hf HST
      generalize W8.setCell ⟨gt, 4, none⟩ (.slice (some ⟨ga, 0, none⟩) (0 + 1) ca) = W9 at *
      clear W8 W7
      have wx := hst2.wx
      have l1 := wx.lt
      have c0 := wx.cell 0
      have c1 := wx.cell 1
      simp at c0 c1
      have HST := Lib.hid hst2
      clear hst2 wx
      go_wp2_with fail
      clear l1 c0 c1
      have hsf : ss.length ≤ 6 := HV.out.sfew
      refine wp_loop_u mkT145 (fun n u ds X => ∃ Ds i vf, ds = Ds.map mk ∧ n + i = ss.length ∧ (u 2 = .pointer (some ⟨n0, 0, none⟩) ∧ u 3 = .pointer (some ⟨n0 + 1, 0, none⟩) ∧ u 5 = .pointer (some ⟨gt + 1, 0, none⟩) ∧ u 6 = .pointer (some ⟨gt + 1 + 1, 0, none⟩) ∧ u 47 = .slice As ss.length cs ∧ u 48 = .int .i64 (ss.length : Int) ∧ u 49 = .int .i64 (i : Int)) ∧ Marks Ds X ∧ (∀ D ∈ Ds, gt + 1 + 1 < D) ∧
        NtSt w n0 gt (.slice Ab bars.length cb) (.slice As ss.length cs) ⟨mlo, mhi⟩ vf (.slice none 0 0) (frR bars ss i) (frontF bars (ss.take i)) X) ss.length rfl ?_ ?_
      · exact ⟨[], 0, _, rfl, rfl, ⟨rfl, rfl, rfl, rfl, rfl, rfl, rfl⟩, ⟨List.nodup_nil, fun D hD => by simp at hD⟩, fun D hD => by simp at hD, HST.out⟩
      clear HST
      rintro n u ds X ⟨Ds, i, vf, rfl, hni, ⟨u2, u3, u5, u6, u47, u48, u49⟩, hMk, hDs, hst⟩ K hK
      simp only [mkT145, u2, u3, u5, u6, u47, u48, u49]
      clear u2 u3 u5 u6 u47 u48 u49
      cases n with
      | zero =>
        obtain rfl : i = ss.length := by omega
        --REAR
        have HK := Lib.hid hK
        have HMK := Lib.hid hMk
        have HDS := Lib.hid hDs
        clear hK hMk hDs hst2
        obtain ⟨F, hF⟩ : ∃ F, frontF bars (ss.take ss.length) = F := ⟨_, rfl⟩
        rw [hF] at hst
        clear hF
        have hsl : ss.length + 1 ≤ 100 := by omega
        have wl : IntKind.i64.wrap ((ss.length : Int) + 1) = (ss.length : Int) + 1 := by rw [IntKind.wrap_i64]; omega
        go_upto_region 25 with fail
        have w1' := hst.wx.cell 1
        have p0 := hst.px.cell 0
        simp only [List.getElem?_toArray, List.getElem?_cons_zero, List.getElem?_cons_succ] at w1' p0
        have lt := hst.tx.lt
        have ln := hst.nx.lt
        have lx := hst.wx.lt
        have hd1 : Below X.heap.size X X.drew := Below.drew (Below.refl _ _)
        refine wp_region_noPanic (plain_any [0, 1, 2, 3, 4] (Below X.heap.size X) mixed ?_)
        have HX : ∀ X2, Below X.heap.size X X2 → X2.cell? ⟨gt + 1, 0, none⟩ = some (.pointer (some ⟨gt, 0, none⟩)) ∧ X2.cell? ⟨n0, 1, none⟩ = some (.slice As ss.length cs) := fun X2 hX => ⟨(hX.cell (p := ⟨gt + 1, 0, none⟩) (by show gt + 1 < _; omega)).trans p0, (hX.cell (p := ⟨n0, 1, none⟩) lx).trans w1'⟩
        (refine any_take 0 ?_ (by rfl) (by kernel_rfl) (fun _ _ _ _ _ hx => hx.elim) (.inl ⟨by rfl, ?_⟩) hd1 ?_; rotate_left; (intro X hX; obtain ⟨r1, r2⟩ := HX X hX; clear hX; go_simp; rfl); simp only [List.getElem_toArray, List.getElem_cons_succ, List.getElem_cons_zero, Act.put, List.setIfInBounds_toArray, List.set_cons_succ, List.set_cons_zero])
        (refine any_take 1 ?_ (by rfl) (by kernel_rfl) (fun _ _ _ _ _ hx => hx.elim) (.inl ⟨by rfl, ?_⟩) hd1 ?_; rotate_left; (intro X hX; obtain ⟨r1, r2⟩ := HX X hX; clear hX; go_simp; rfl); simp only [List.getElem_toArray, List.getElem_cons_succ, List.getElem_cons_zero, Act.put, List.setIfInBounds_toArray, List.set_cons_succ, List.set_cons_zero])
        (refine any_take 2 ?_ (by rfl) (by kernel_rfl) (fun _ _ _ _ _ hx => hx.elim) (.inl ⟨by rfl, ?_⟩) hd1 ?_; rotate_left; (intro X hX; obtain ⟨r1, r2⟩ := HX X hX; clear hX; go_simp; rfl); simp only [List.getElem_toArray, List.getElem_cons_succ, List.getElem_cons_zero, Act.put, List.setIfInBounds_toArray, List.set_cons_succ, List.set_cons_zero])
        (refine any_take 3 ?_ (by rfl) (by kernel_rfl) (fun _ _ _ _ _ hx => hx.elim) (.inl ⟨by rfl, ?_⟩) hd1 ?_; rotate_left; (intro X hX; obtain ⟨r1, r2⟩ := HX X hX; clear hX; go_simp; rfl); simp only [List.getElem_toArray, List.getElem_cons_succ, List.getElem_cons_zero, Act.put, List.setIfInBounds_toArray, List.set_cons_succ, List.set_cons_zero])
        (refine any_take 4 ?_ (by rfl) (by kernel_rfl) (fun _ _ _ _ _ hx => hx.elim) (.inl ⟨by rfl, ?_⟩) hd1 ?_; rotate_left; (intro X hX; obtain ⟨r1, r2⟩ := HX X hX; clear hX; go_simp; rfl); simp only [List.getElem_toArray, List.getElem_cons_succ, List.getElem_cons_zero, Act.put, List.setIfInBounds_toArray, List.set_cons_succ, List.set_cons_zero])
        refine any_run1 (i := 5) (by kernel_rfl) (by rfl) (by kernel_rfl) ?_
        intro K5 hK5
        obtain ⟨cr, hrun, hgd⟩ := make_rows (ss.length + 1) hsl X.drew
        have hrun' : (Instr.makeSlice 138 (.int .i64 ((ss.length : Int) + 1)) (.int .i64 ((ss.length : Int) + 1))).run Try.prog X.drew = _ := hrun
        refine wp_make_run 138 (.tmp 85) (.tmp 85) _ rfl hrun' ?_
        obtain ⟨gr, hgr⟩ : ∃ g, X.drew.heap.size = g := ⟨_, rfl⟩
        have hgr' : X.heap.size = gr := hgr
        have hge : gt + 1 + 1 + 1 ≤ gr := by omega
        have hb2 : Below X.heap.size X (X.drew.alloc (.cells cr 136)) := Below.alloc hd1 (Nat.le_refl _) _
        have hst1 := hst.next hb2 hw0
        have hmk1 := HMK.out.next hb2
        have hne : vf.ownBlock ≠ some gr := fun he => by have := (hst.fx.lt _ he).2; omega
        rw [hgr] at hgd
        refine hK5 _ _ (fun _ => hb2) ?_
        clear hK5 K5
        simp only [List.getElem_toArray, List.getElem_cons_succ, List.getElem_cons_zero, Act.put, List.setIfInBounds_toArray, List.set_cons_succ, List.set_cons_zero]
        rw [hgr]
        clear hgr hgr' hrun hrun'
        generalize X.drew.alloc (.cells cr 136) = X1 at *
        have tx8 := hst1.tx
        have l8 := tx8.lt
        have t8 := tx8.cell 5
        have f8 := tx8.frozen 5
        simp at t8
        refine any_run1 (i := 6) (by kernel_rfl) (by rfl) (by kernel_rfl) ?_
        intro K5 hK5
        go_wp2_with fail
        refine hK5 _ _ (fun _ => hb2) ?_
        clear hK5 K5
        refine any_run1 (i := 7) (by kernel_rfl) (by rfl) (by kernel_rfl) ?_
        intro K5 hK5
        go_wp2_with fail
        refine hK5 _ _ (fun _ => hb2) ?_
        clear hK5 K5
        refine any_run1 (i := 8) (by kernel_rfl) (by rfl) (by kernel_rfl) ?_
        intro K5 hK5
        go_wp2_with fail
        refine hK5 _ _ (fun hx => (Bool.false_ne_true (hx.symm.trans (by kernel_rfl))).elim) ?_
        clear hK5 K5
        refine any_done (by kernel_rfl) (NoPanic.normal ?_)
        have hst2 := hst1.rear (.slice (some ⟨gr, 0, none⟩) (ss.length + 1) (ss.length + 1)) hw0 hgt
        have hmk2 := hmk1.set (gt := gt) 5 (.slice (some ⟨gr, 0, none⟩) (ss.length + 1) (ss.length + 1))
        have hg2 := hgd.far (p := ⟨gt, 5, none⟩) (by show gr ≠ gt; omega) (.slice (some ⟨gr, 0, none⟩) (ss.length + 1) (ss.length + 1))
        have hnr : NrSt w n0 gt (.slice Ab bars.length cb) (.slice As ss.length cs) ⟨mlo, mhi⟩ vf gr (ss.length + 1) (frR bars ss ss.length) F (fun _ => noR) (X1.setCell ⟨gt, 5, none⟩ (.slice (some ⟨gr, 0, none⟩) (ss.length + 1) (ss.length + 1))) := ⟨hst2, hg2, hne, hge⟩
        clear hst hst1 hst2 hg2 hgd hmk1 tx8 l8 t8 f8 hb2 HX hd1 lt ln lx w1' p0 hne hge HMK
        generalize X1.setCell ⟨gt, 5, none⟩ (.slice (some ⟨gr, 0, none⟩) (ss.length + 1) (ss.length + 1)) = X2 at *
        have hth := hnr.st.nx.there (i := 0) (by omega)
        rw [Nat.zero_mul] at hth
        have hclr : ∀ ty, (Builtin.clear_ #[151] ty #[.slice (some ⟨gt + 1 + 1, 0, none⟩) 1001 1001]).run Try.prog X2 = .ok (.tuple #[]) (X2.setCells (gt + 1 + 1) 0 (rowL noR)) := fun ty => by
          rw [rowL_no]
          exact Lib.run_clear_slice X2 151 134 ty (.int .i8 0) i8_slice i8_zero rfl rfl (gt + 1 + 1) 0 1001 1001 (by decide) (fun j hj => (hth j hj).1) (fun j hj => (hth j hj).2)
        have HCL := Lib.hid hclr
        have HNR := Lib.hid hnr
        clear hth hclr hnr
        go_upto_region 27 with (refine wpList_clear_run rfl (.tmp 89) 151 _ rfl (HCL.out _) ?_)
        have hnr : NrSt w n0 gt (.slice Ab bars.length cb) (.slice As ss.length cs) ⟨mlo, mhi⟩ vf gr (ss.length + 1) (frR bars ss ss.length) noR (fun _ => noR) (X2.setCells (gt + 1 + 1) 0 (rowL noR)) := by
          have hgr := grown_sets (rowL noR) 0 X2 (⟨rfl, rfl, rfl, Nat.le_refl _, fun _ _ _ => rfl⟩ : X2.grownBy X2 (some (gt + 1 + 1)))
          have := HNR.out.st.nx.put (i := 0) (by omega) noR
          rw [Nat.zero_mul] at this
          exact ⟨HNR.out.st.row hgr this.one hw0 hgt, HNR.out.gx.grown hgr (fun e => by injection e with e; have := HNR.out.ge; omega), HNR.out.ne, HNR.out.ge⟩
        have hmk3 := hmk2.grown (grown_sets (rowL noR) 0 X2 (⟨rfl, rfl, rfl, Nat.le_refl _, fun _ _ _ => rfl⟩ : X2.grownBy X2 (some (gt + 1 + 1)))) HNR.out.st.nx
        clear HNR HCL hmk2
        generalize X2.setCells (gt + 1 + 1) 0 (rowL noR) = X3 at *
        have mx := hnr.st.mx
        have lm := mx.lt
        have m0 := mx.cell 0
        have m1 := mx.cell 1
        simp at m0 m1
        simp only [Act.put]
        have hmr := HM.out
        unfold OkR at hmr
        dsimp only at hmr
        go_wp2_with fail
        clear mx lm m0 m1
        refine (fill_any (gt + 1 + 1) 1 0 0 136 _ ⟨mlo, mhi⟩ _ hnr.st.nx (by omega) rfl hmr.2.1 hmr.2.2 (by show mlo ≤ 1001; omega)).mono ?_
        rintro e w1 ⟨rfl, hG, hgrw⟩
        have hnr2 : NrSt w n0 gt (.slice Ab bars.length cb) (.slice As ss.length cs) ⟨mlo, mhi⟩ vf gr (ss.length + 1) (frR bars ss ss.length) (flR noR ⟨mlo, mhi⟩) (fun _ => noR) w1 :=
          ⟨hnr.st.row hgrw hG.one hw0 hgt, hnr.gx.grown hgrw (fun e => by injection e with e; have := hnr.ge; omega), hnr.ne, hnr.ge⟩
        have hmk4 := hmk3.grown hgrw hnr.st.nx
        clear hnr hmk3 hG hgrw hmr
        obtain ⟨M, hM⟩ : ∃ M, flR noR ⟨mlo, mhi⟩ = M := ⟨_, rfl⟩
        rw [hM] at hnr2
        have HMM := Lib.hid hM
        clear hM
        go_upto_region 28 with fail
        have hG := hnr2.st.nx.range (i := 0) (by omega)
        rw [Nat.zero_mul] at hG
        have w1' := hnr2.st.wx.cell 1
        have p0 := hnr2.st.px.cell 0
        have t5 := hnr2.st.tx.cell 5
        simp only [List.getElem?_toArray, List.getElem?_cons_zero, List.getElem?_cons_succ] at w1' p0 t5
        have lt := hnr2.st.tx.lt
        have ln := hnr2.st.nx.lt
        have lx := hnr2.st.wx.lt
        have hd1 : Below w1.heap.size w1 w1.drew := Below.drew (Below.refl _ _)
        refine wp_region_noPanic (plain_any [0, 1, 2, 3, 4, 5, 6, 7] (Below w1.heap.size w1) mixed ?_)
        have HX : ∀ X2, Below w1.heap.size w1 X2 → X2.cell? ⟨gt + 1, 0, none⟩ = some (.pointer (some ⟨gt, 0, none⟩)) ∧ (X2.cell? ⟨n0, 1, none⟩ = some (.slice As ss.length cs) ∧ X2.cell? ⟨gt, 5, none⟩ = some (.slice (some ⟨gr, 0, none⟩) (ss.length + 1) (ss.length + 1))) := fun X2 hX => ⟨(hX.cell (p := ⟨gt + 1, 0, none⟩) (by show gt + 1 < _; omega)).trans p0, (hX.cell (p := ⟨n0, 1, none⟩) lx).trans w1', (hX.cell (p := ⟨gt, 5, none⟩) lt).trans t5⟩
        have HSZ := Lib.hid (show (Try.prog.info? 136).map (·.size) = some (rowL M).length by rw [row_size, rowL_len])
        (refine any_take 0 ?_ (by rfl) (by kernel_rfl) (fun _ _ _ _ _ hx => hx.elim) (.inl ⟨by rfl, ?_⟩) hd1 ?_; rotate_left; (intro X hX; obtain ⟨r1, r2⟩ := HX X hX; clear hX; go_simp; rfl); simp only [List.getElem_toArray, List.getElem_cons_succ, List.getElem_cons_zero, Act.put, List.setIfInBounds_toArray, List.set_cons_succ, List.set_cons_zero])
        (refine any_take 1 ?_ (by rfl) (by kernel_rfl) (fun _ _ _ _ _ hx => hx.elim) (.inl ⟨by rfl, ?_⟩) hd1 ?_; rotate_left; (intro X hX; obtain ⟨r1, r2⟩ := HX X hX; clear hX; go_simp; rfl); simp only [List.getElem_toArray, List.getElem_cons_succ, List.getElem_cons_zero, Act.put, List.setIfInBounds_toArray, List.set_cons_succ, List.set_cons_zero])
        (refine any_take 2 ?_ (by rfl) (by kernel_rfl) (fun _ _ _ _ _ hx => hx.elim) (.inl ⟨by rfl, ?_⟩) hd1 ?_; rotate_left; (intro X hX; obtain ⟨r1, r2⟩ := HX X hX; clear hX; go_simp; rfl); simp only [List.getElem_toArray, List.getElem_cons_succ, List.getElem_cons_zero, Act.put, List.setIfInBounds_toArray, List.set_cons_succ, List.set_cons_zero])
        (refine any_take 3 ?_ (by rfl) (by kernel_rfl) (fun _ _ _ _ _ hx => hx.elim) (.inl ⟨by rfl, ?_⟩) hd1 ?_; rotate_left; (intro X hX; obtain ⟨r1, r2⟩ := HX X hX; clear hX; go_simp; rfl); simp only [List.getElem_toArray, List.getElem_cons_succ, List.getElem_cons_zero, Act.put, List.setIfInBounds_toArray, List.set_cons_succ, List.set_cons_zero])
        (refine any_take 4 ?_ (by rfl) (by kernel_rfl) (fun _ _ _ _ _ hx => hx.elim) (.inl ⟨by rfl, ?_⟩) hd1 ?_; rotate_left; (intro X hX; obtain ⟨r1, r2⟩ := HX X hX; clear hX; go_simp; rfl); simp only [List.getElem_toArray, List.getElem_cons_succ, List.getElem_cons_zero, Act.put, List.setIfInBounds_toArray, List.set_cons_succ, List.set_cons_zero])
        (refine any_take 5 ?_ (by rfl) (by kernel_rfl) (fun _ _ _ _ _ hx => hx.elim) (.inl ⟨by rfl, ?_⟩) hd1 ?_; rotate_left; (intro X hX; obtain ⟨r1, r2⟩ := HX X hX; clear hX; go_simp; rfl); simp only [List.getElem_toArray, List.getElem_cons_succ, List.getElem_cons_zero, Act.put, List.setIfInBounds_toArray, List.set_cons_succ, List.set_cons_zero])
        (refine any_take 6 ?_ (by rfl) (by kernel_rfl) (fun _ _ _ _ _ hx => hx.elim) (.inl ⟨by rfl, ?_⟩) hd1 ?_; rotate_left; (intro X hX; obtain ⟨r1, r2⟩ := HX X hX; clear hX; go_simp; rfl); simp only [List.getElem_toArray, List.getElem_cons_succ, List.getElem_cons_zero, Act.put, List.setIfInBounds_toArray, List.set_cons_succ, List.set_cons_zero])
        refine any_take 7 (.agg (rowL M).toArray) (by rfl) (by kernel_rfl) (fun _ _ _ _ _ hx => hx.elim) (yieldsIf_load_mid rfl 136 (.tmp 6) rfl (gt + 1 + 1) 0 rfl (rowL M) _ (fun W hW => fun j v hv => by have := hG j v hv; rw [hW.cell (by show gt + 1 + 1 < _; omega)]; exact this) row_under rfl HSZ.out) hd1 ?_
        simp only [List.getElem_toArray, List.getElem_cons_succ, List.getElem_cons_zero, Act.put, List.setIfInBounds_toArray, List.set_cons_succ, List.set_cons_zero]
        have hin1 : (ss.length : Int) < ((ss.length + 1 : Nat) : Int) := by omega
        have hin2 : (ss.length : Int) < (ss.length : Int) + 1 := by omega
        have hnd := hnr2.next (Y := w1.drew) (Below.drew (Below.refl _ _)) hw0
        have HNR := Lib.hid hnd
        have HMK := Lib.hid (hmk4.next (Y := w1.drew) (Below.drew (Below.refl _ _)))
        clear hnd hnr2 hmk4
        refine any_run1 (i := 8) (by kernel_rfl) (by rfl) (by kernel_rfl) ?_
        intro K5 hK5
        go_wp2_with fail
        refine hK5 _ _ (fun _ => hd1) ?_
        clear hK5 K5
        refine any_run1 (i := 9) (by kernel_rfl) (by rfl) (by kernel_rfl) ?_
        intro K5 hK5
        have hth := HNR.out.gx.there (i := ss.length) (by omega)
        have HTH := Lib.hid (show w1.drew.there gr (ss.length * 1001) (rowL M).toArray.size by rw [List.size_toArray, rowL_len]; exact hth)
        have HSY := Lib.hid (show (Try.prog.info? 136).map (·.size) = some (rowL M).toArray.size by rw [row_size, List.size_toArray, rowL_len])
        clear hth
        refine wp_store_mid 136 (.tmp 100) (.tmp 99) rfl gr (ss.length * 1001) (rowL M).toArray (by first | rfl | simp) rfl HTH.out HSY.out (rowL_one M) ?_
        refine hK5 _ _ (fun hx => (Bool.false_ne_true (hx.symm.trans (by kernel_rfl))).elim) ?_
        clear hK5 K5 HTH HSY HSZ
        refine any_done (by kernel_rfl) (NoPanic.normal ?_)
        have hgrw := grown_sets (rowL M) (ss.length * 1001) w1.drew (⟨rfl, rfl, rfl, Nat.le_refl _, fun _ _ _ => rfl⟩ : w1.drew.grownBy w1.drew (some gr))
        have hpu := HNR.out.gx.put (i := ss.length) (by omega) M
        have hnr : NrSt w n0 gt (.slice Ab bars.length cb) (.slice As ss.length cs) ⟨mlo, mhi⟩ vf gr (ss.length + 1) (frR bars ss ss.length) M (rrR ⟨mlo, mhi⟩ ss ss.length) (w1.drew.setCells gr (ss.length * 1001) (rowL M).toArray.toList) := by
          refine HNR.out.put hgrw (hpu.congr fun i x hi hx => ?_) hw0 hgt
          unfold upd rrR
          by_cases hq : i = ss.length
          · subst hq
            rw [if_pos rfl, if_pos (Nat.le_refl _), List.drop_length, ← HMM.out]
            rfl
          · rw [if_neg hq, if_neg (by omega)]
        have hmk := HMK.out.grown hgrw HNR.out.gx
        clear HNR HMK hgrw hpu hG w1' p0 t5 lt ln lx hd1 HX hin1 hin2
        generalize w1.drew.setCells gr (ss.length * 1001) (rowL M).toArray.toList = X4 at *
        simp only [Act.put]
        have c1 := hnr.st.wx.cell 1
        have l1 := hnr.st.wx.lt
        simp at c1
        have ws : IntKind.i64.wrap ((ss.length : Int) - 1) = (ss.length : Int) - 1 := by rw [IntKind.wrap_i64]; omega
        obtain ⟨c, hc⟩ : ∃ c, X4.heap.size = c := ⟨_, rfl⟩
        have hb1 : Below X4.heap.size X4 (X4.alloc (.cells #[.int .i64 ((ss.length : Int) - 1)] 3)) := by exact bel_of
        have b16 : BK (X4.alloc (.cells #[.int .i64 ((ss.length : Int) - 1)] 3)) c #[.int .i64 ((ss.length : Int) - 1)] 3 := BK.new' _ _ _ _ hc
        have HNR := Lib.hid (hnr.next hb1 hw0)
        have HMK := Lib.hid (hmk.next hb1)
        have HBC := Lib.hid b16
        clear hnr hmk hb1 b16
        go_wp2_with fail
        clear l1 c1 ws
        refine wp_loop_u mkT145 (fun n u ds Y => ∃ Ds c, ds = Ds.map mk ∧ n ≤ ss.length ∧ (u 2 = .pointer (some ⟨n0, 0, none⟩) ∧ u 5 = .pointer (some ⟨gt + 1, 0, none⟩) ∧ u 16 = .pointer (some ⟨c, 0, none⟩)) ∧ Marks Ds Y ∧ (∀ D ∈ Ds, gt + 1 + 1 < D) ∧ BK Y c #[.int .i64 ((n : Int) - 1)] 3 ∧
          NrSt w n0 gt (.slice Ab bars.length cb) (.slice As ss.length cs) ⟨mlo, mhi⟩ vf gr (ss.length + 1) (frR bars ss ss.length) M (rrR ⟨mlo, mhi⟩ ss n) Y) ss.length rfl ?_ ?_
        · exact ⟨Ds, c, rfl, Nat.le_refl _, ⟨rfl, rfl, rfl⟩, HMK.out, HDS.out, HBC.out, HNR.out⟩
        clear HMK HDS HBC HNR
        rintro i u4 ds Y ⟨Ds, c, rfl, hin, ⟨u2, u5, u16⟩, hMk, hDs, hbc, hnr⟩ K4 hK4
        simp only [mkT145, u2, u5, u16]
        clear u2 u5 u16
        have lc := hbc.lt
        have cc := hbc.cell 0
        simp at cc
        cases i with
        | zero =>
          have px := hnr.st.px
          have lp := px.lt
          have cp := px.cell 0
          simp at cp
          have HNR := Lib.hid hnr
          have HMK := Lib.hid hMk
          have HDS := Lib.hid hDs
          clear hnr hMk hDs hK4
          go_wp2_with fail
          refine leave_all Ds Y HMK.out (v := .pointer (some ⟨gt, 0, none⟩)) (fun W' => by simp [results, Try.results87, go_sem]) ?_
          exact ⟨gt, rfl, HNR.out.tree HMK.out HDS.out hw0 hgt HB.out HS.out⟩
        | succ i =>
          have hi : i < ss.length := hin
          have hi' : (i : Int) < (ss.length : Int) := by omega
          have hii : ((i + 1 : Nat) : Int) - 1 = (i : Int) := by omega
          rw [hii] at hbc cc
          clear hii
          have HK4 := Lib.hid hK4
          clear hK4
          obtain ⟨A', cap', b4, off4, hve, hA, hc⟩ := RP.cells HS.out
          obtain ⟨rfl, hbb4⟩ := hA (by omega)
          injection hve with q1 q2 q3
          subst q1 q3
          obtain ⟨us, d1w, hu⟩ := hc i hi
          have d1 := (hnr.st.below.cell (p := ⟨b4, off4 + i, none⟩) hbb4).trans d1w
          clear d1w
          obtain ⟨s, hs⟩ : ∃ s, nthS ss i = s := ⟨_, rfl⟩
          have hos := HV.out.sok _ (nthS_mem hi)
          have hws := HV.out.wpos _ (nthS_mem hi)
          have hrx : rearF ⟨mlo, mhi⟩ (ss.drop i) = prevF (rearF ⟨mlo, mhi⟩ (ss.drop (i + 1))) (nthS ss i) := by
            rw [nthS_eq hi, ← List.getElem_cons_drop hi]; rfl
          rw [hs] at hu hos hws hrx
          have HOS := Lib.hid hos
          obtain ⟨Aw, cw, rfl⟩ := hu.slice
          clear hA hc q2 hs hos
          have HUU := Lib.hid (show RW w n0 (.slice Aw s.length cw) s from hu)
          clear hu
          obtain ⟨Fb, hFb⟩ : ∃ F, rearF ⟨mlo, mhi⟩ (ss.drop (i + 1)) = F := ⟨_, rfl⟩
          rw [hFb] at hrx
          have HFB := Lib.hid hFb
          have HRX := Lib.hid hrx
          clear hFb hrx
          have wi : IntKind.i64.wrap ((i : Int) + 1) = (i : Int) + 1 := by rw [IntKind.wrap_i64]; omega
          have wi2 : ((i : Int) + 1).toNat = i + 1 := by omega
          have hin1 : (i : Int) + 1 < ((ss.length + 1 : Nat) : Int) := by omega
          have hin2 : (i : Int) + 1 < (ss.length : Int) + 1 := by omega
          have hin3 : (i : Int) < ((ss.length + 1 : Nat) : Int) := by omega
          have hin4 : (i : Int) < (ss.length : Int) + 1 := by omega
          have b5 : 0 ≤ (i : Int) := by omega
          go_upto_region 32 with fail
          have p0 := hnr.st.px.cell 0
          have t5 := hnr.st.tx.cell 5
          simp only [List.getElem?_toArray, List.getElem?_cons_zero, List.getElem?_cons_succ] at p0 t5
          have lt := hnr.st.tx.lt
          have lp := hnr.st.px.lt
          have lx := hnr.st.wx.lt
          have hd1 : Below Y.heap.size Y Y.drew := Below.drew (Below.refl _ _)
          refine wp_region_noPanic (plain_any [0, 1, 2, 3, 4, 5, 6] (Below Y.heap.size Y) mixed ?_)
          have HX : ∀ X2, Below Y.heap.size Y X2 → X2.cell? ⟨gt + 1, 0, none⟩ = some (.pointer (some ⟨gt, 0, none⟩)) ∧ (X2.cell? ⟨c, 0, none⟩ = some (.int .i64 (i : Int)) ∧ X2.cell? ⟨gt, 5, none⟩ = some (.slice (some ⟨gr, 0, none⟩) (ss.length + 1) (ss.length + 1))) := fun X2 hX => ⟨(hX.cell (p := ⟨gt + 1, 0, none⟩) lp).trans p0, (hX.cell (p := ⟨c, 0, none⟩) lc).trans cc, (hX.cell (p := ⟨gt, 5, none⟩) lt).trans t5⟩
          (refine any_take 0 ?_ (by rfl) (by kernel_rfl) (fun _ _ _ _ _ hx => hx.elim) (.inl ⟨by rfl, ?_⟩) hd1 ?_; rotate_left; (intro X hX; obtain ⟨r1, r2⟩ := HX X hX; clear hX; go_simp; rfl); simp only [List.getElem_toArray, List.getElem_cons_succ, List.getElem_cons_zero, Act.put, List.setIfInBounds_toArray, List.set_cons_succ, List.set_cons_zero])
          (refine any_take 1 ?_ (by rfl) (by kernel_rfl) (fun _ _ _ _ _ hx => hx.elim) (.inl ⟨by rfl, ?_⟩) hd1 ?_; rotate_left; (intro X hX; obtain ⟨r1, r2⟩ := HX X hX; clear hX; go_simp; rfl); simp only [List.getElem_toArray, List.getElem_cons_succ, List.getElem_cons_zero, Act.put, List.setIfInBounds_toArray, List.set_cons_succ, List.set_cons_zero])
          (refine any_take 2 ?_ (by rfl) (by kernel_rfl) (fun _ _ _ _ _ hx => hx.elim) (.inl ⟨by rfl, ?_⟩) hd1 ?_; rotate_left; (intro X hX; obtain ⟨r1, r2⟩ := HX X hX; clear hX; go_simp; rfl); simp only [List.getElem_toArray, List.getElem_cons_succ, List.getElem_cons_zero, Act.put, List.setIfInBounds_toArray, List.set_cons_succ, List.set_cons_zero])
          (refine any_take 3 ?_ (by rfl) (by kernel_rfl) (fun _ _ _ _ _ hx => hx.elim) (.inl ⟨by rfl, ?_⟩) hd1 ?_; rotate_left; (intro X hX; obtain ⟨r1, r2⟩ := HX X hX; clear hX; go_simp; rfl); simp only [List.getElem_toArray, List.getElem_cons_succ, List.getElem_cons_zero, Act.put, List.setIfInBounds_toArray, List.set_cons_succ, List.set_cons_zero])
          (refine any_take 4 ?_ (by rfl) (by kernel_rfl) (fun _ _ _ _ _ hx => hx.elim) (.inl ⟨by rfl, ?_⟩) hd1 ?_; rotate_left; (intro X hX; obtain ⟨r1, r2⟩ := HX X hX; clear hX; go_simp; rfl); simp only [List.getElem_toArray, List.getElem_cons_succ, List.getElem_cons_zero, Act.put, List.setIfInBounds_toArray, List.set_cons_succ, List.set_cons_zero])
          (refine any_take 5 ?_ (by rfl) (by kernel_rfl) (fun _ _ _ _ _ hx => hx.elim) (.inl ⟨by rfl, ?_⟩) hd1 ?_; rotate_left; (intro X hX; obtain ⟨r1, r2⟩ := HX X hX; clear hX; go_simp; rfl); simp only [List.getElem_toArray, List.getElem_cons_succ, List.getElem_cons_zero, Act.put, List.setIfInBounds_toArray, List.set_cons_succ, List.set_cons_zero])
          (refine any_take 6 ?_ (by rfl) (by kernel_rfl) (fun _ _ _ _ _ hx => hx.elim) (.inl ⟨by rfl, ?_⟩) hd1 ?_; rotate_left; (intro X hX; obtain ⟨r1, r2⟩ := HX X hX; clear hX; go_simp; rfl); simp only [List.getElem_toArray, List.getElem_cons_succ, List.getElem_cons_zero, Act.put, List.setIfInBounds_toArray, List.set_cons_succ, List.set_cons_zero])
          have hb1 : Below Y.heap.size Y (Y.alloc (.cells #[.pointer none] 152)).drew := Below.drew (Below.alloc (Below.refl _ _) (Nat.le_refl _) _)
          have hb2 : Below Y.heap.size Y (Y.alloc (.cells #[.pointer (some ⟨gr, (i + 1) * 1001, none⟩)] 152)).drew := Below.drew (Below.alloc (Below.refl _ _) (Nat.le_refl _) _)
          obtain ⟨p, hp⟩ : ∃ p, Y.heap.size = p := ⟨_, rfl⟩
          have b17 : BK (Y.alloc (.cells #[.pointer (some ⟨gr, (i + 1) * 1001, none⟩)] 152)).drew p #[.pointer (some ⟨gr, (i + 1) * 1001, none⟩)] 152 := BK.drew (BK.new' _ _ _ _ hp)
          refine any_run1 (i := 7) (by kernel_rfl) (by rfl) (by kernel_rfl) ?_
          intro K5 hK5
          go_wp2_with fail
          refine hK5 _ _ (fun _ => hb1) ?_
          clear hK5 K5
          refine any_run1 (i := 8) (by kernel_rfl) (by rfl) (by kernel_rfl) ?_
          intro K5 hK5
          go_wp2_with fail
          refine hK5 _ _ (fun hx => (Bool.false_ne_true (hx.symm.trans (by kernel_rfl))).elim) ?_
          clear hK5 K5
          refine any_done (by kernel_rfl) (NoPanic.normal ?_)
          have hnr2 := hnr.next hb2 hw0
          have hmk2 := hMk.next hb2
          have hbc2 := hbc.below hb2 lc
          have d1' := (hb2.cell (p := ⟨b4, off4 + i, none⟩) (by have := hnr.st.below.size; show b4 < _; omega)).trans d1
          clear hnr hMk hbc hb1 hb2 HX hd1 p0 t5 lt lp lx lc cc d1 hp
          generalize (Y.alloc (.cells #[.pointer (some ⟨gr, (i + 1) * 1001, none⟩)] 152)).drew = Y1 at *
          have cc := hbc2.cell 0
          have lc := hbc2.lt
          have wx := hnr2.st.wx
          have l1 := wx.lt
          have c1 := wx.cell 1
          simp at cc c1
          have HNR := Lib.hid hnr2
          have HMK := Lib.hid hmk2
          have HDS := Lib.hid hDs
          have HBC := Lib.hid hbc2
          have HB7 := Lib.hid b17
          have hlb4 : b4 < Y1.heap.size := by have := hnr2.st.below.size; omega
          clear wx hnr2 hmk2 hDs hbc2 b17
          go_wp2_with fail
          clear l1 c1 lc cc d1' hlb4
          refine wp_loop_u mkT145 (fun n3 u ds Z => ∃ Ds k, ds = Ds.map mk ∧ n3 + k = s.length ∧ (u 2 = .pointer (some ⟨n0, 0, none⟩) ∧ u 5 = .pointer (some ⟨gt + 1, 0, none⟩) ∧ u 16 = .pointer (some ⟨c, 0, none⟩) ∧ u 17 = .pointer (some ⟨p, 0, none⟩) ∧ u 121 = .slice Aw s.length cw ∧ u 122 = .int .i64 (s.length : Int) ∧ u 123 = .int .i64 (k : Int)) ∧ Marks Ds Z ∧ (∀ D ∈ Ds, gt + 1 + 1 < D) ∧ BK Z c #[.int .i64 (i : Int)] 3 ∧ BK Z p #[.pointer (some ⟨gr, (i + 1) * 1001, none⟩)] 152 ∧
            NrSt w n0 gt (.slice Ab bars.length cb) (.slice (some ⟨b4, off4, none⟩) ss.length cs) ⟨mlo, mhi⟩ vf gr (ss.length + 1) (frR bars ss ss.length) M (upd (rrR ⟨mlo, mhi⟩ ss (i + 1)) i ((s.take k).foldl (fun g w => wayB Fb w w.length g) noR)) Z) s.length rfl ?_ ?_
          · refine ⟨Ds, 0, rfl, rfl, ⟨rfl, rfl, rfl, rfl, rfl, rfl, rfl⟩, HMK.out, HDS.out, HBC.out, HB7.out, ?_⟩
            have e : upd (rrR ⟨mlo, mhi⟩ ss (i + 1)) i ((s.take 0).foldl (fun g w => wayB Fb w w.length g) noR) = rrR ⟨mlo, mhi⟩ ss (i + 1) := by
              have := upd_self (rrR ⟨mlo, mhi⟩ ss (i + 1)) i
              rw [rrR_no] at this
              exact this
            rw [e]
            exact HNR.out
          clear HMK HNR HDS HBC HB7
          rintro n3 u5 ds Z ⟨Ds, k, rfl, hnk, ⟨u2, u5_, u16, u17, u121, u122, u123⟩, hMk, hDs, hbc, hb7, hnr⟩ K3 hK3
          simp only [mkT145, u2, u5_, u16, u17, u121, u122, u123]
          clear u2 u5_ u16 u17 u121 u122 u123
          have HBC := Lib.hid hbc
          have HB7 := Lib.hid hb7
          have HMK := Lib.hid hMk
          have HDS := Lib.hid hDs
          clear hMk hDs
          cases n3 with
          | zero =>
            obtain rfl : k = s.length := by omega
            have e2 : upd (rrR ⟨mlo, mhi⟩ ss (i + 1)) i ((s.take s.length).foldl (fun g w => wayB Fb w w.length g) noR) = rrR ⟨mlo, mhi⟩ ss i := by
              have h3 := rrR_step ⟨mlo, mhi⟩ ss i
              rw [HRX.out] at h3
              rw [List.take_length]
              exact h3
            rw [e2] at hnr
            have HNR := Lib.hid hnr
            have lc := hbc.lt
            have cc := hbc.cell 0
            simp at cc
            clear hnr hK3 hbc hb7 HB7 HBC e2
            have ws : IntKind.i64.wrap ((i : Int) - 1) = (i : Int) - 1 := by rw [IntKind.wrap_i64]; omega
            obtain ⟨c2, hc2⟩ : ∃ c, Z.heap.size = c := ⟨_, rfl⟩
            go_wp2_with fail
            have hb1 : Below Z.heap.size Z (Z.alloc (.cells #[.int .i64 ((i : Int) - 1)] 3)) := by exact bel_of
            exact HK4.out i _ _ (by omega) rfl ⟨Ds, c2, rfl, by omega, ⟨rfl, rfl, rfl⟩, HMK.out.next hb1, HDS.out, BK.new' _ _ _ _ hc2, HNR.out.next hb1 hw0⟩
          | succ n3 =>
            have hk : k < s.length := by omega
            have hk' : (k : Int) < (s.length : Int) := by omega
            have HK3 := Lib.hid hK3
            clear hK3
            obtain ⟨A', cap', b5', off5, hve, hA, hc⟩ := RW.cells HUU.out
            obtain ⟨rfl, hbb5⟩ := hA (by omega)
            injection hve with q1 q2 q3
            subst q1 q3
            obtain ⟨uw, d2w, hv⟩ := hc k hk
            have d2 := (hnr.st.below.cell (p := ⟨b5', off5 + k, none⟩) hbb5).trans d2w
            have hoy := HOS.out _ (nthW_mem hk)
            obtain ⟨y, hy⟩ : ∃ y, nthW s k = y := ⟨_, rfl⟩
            have htk : (s.take (k + 1)).foldl (fun g w => wayB Fb w w.length g) noR = wayB Fb y y.length ((s.take k).foldl (fun g w => wayB Fb w w.length g) noR) := by
              rw [List.take_succ_eq_append_getElem hk, List.foldl_append, ← hy, nthW_eq hk, List.foldl_cons, List.foldl_nil]
            rw [hy] at hv hoy
            obtain ⟨Ay, cy, rfl⟩ := hv.slice
            have HTK := Lib.hid htk
            have HOY := Lib.hid hoy
            have HVY := Lib.hid (show RK w n0 (.slice Ay y.length cy) y from hv)
            clear hA hc q2 hy htk hv hoy d2w
            obtain ⟨G, hG⟩ : ∃ G, (s.take k).foldl (fun g w => wayB Fb w w.length g) noR = G := ⟨_, rfl⟩
            rw [hG] at hnr HTK
            clear hG
            have hbb6 : b5' < Z.heap.size := by have := hnr.st.below.size; omega
            have HNR := Lib.hid hnr
            obtain ⟨q, hq⟩ : ∃ q, Z.heap.size = q := ⟨_, rfl⟩
            clear hnr hbc hb7
            go_upto_region 36 with fail
            have hb1 : Below Z.heap.size Z (Z.alloc (.cells #[.slice Ay y.length cy] 28)) := by exact bel_of
            have b19 : BK (Z.alloc (.cells #[.slice Ay y.length cy] 28)) q #[.slice Ay y.length cy] 28 := BK.new' _ _ _ _ hq
            have hnr1 := HNR.out.next hb1 hw0
            have hmk1 := HMK.out.next hb1
            have hbc1 := HBC.out.below hb1 HBC.out.lt
            have hb71 := HB7.out.below hb1 HB7.out.lt
            have hs1 : (Z.alloc (.cells #[.slice Ay y.length cy] 28)).heap.size = q + 1 := by simp [hq]
            have hgq : gr < q := by have := HNR.out.gx.lt; omega
            clear hb1 HNR HMK hbb6 d2 hq HBC HB7
            generalize (Z.alloc (.cells #[.slice Ay y.length cy] 28)) = Z1 at *
            have l19 := b19.lt
            have c19 := b19.cell 0
            simp at c19
            have HS1 := Lib.hid hs1
            clear hs1
            go_wp2_with fail
            clear l19 c19
            refine (spans_any (.slice Ay y.length cy) _).mono ?_
            rintro e w2 ⟨rfl, b20, hb⟩
            have hnr := hnr1.next hb hw0
            have hmk := hmk1.next hb
            have hbc := hbc1.below hb hbc1.lt
            have hb7 := hb71.below hb hb71.lt
            have hs2 := hb.size
            have l20 := b20.lt
            rw [HS1.out] at b20 hs2 l20 ⊢
            clear hnr1 hmk1 hb b19 HS1 hbc1 hb71
            have HMK := Lib.hid hmk
            have HNR := Lib.hid hnr
            have HBC := Lib.hid hbc
            have HB7 := Lib.hid hb7
            have hDp : ∀ D ∈ Ds, D < w2.heap.size := fun D hD => (Array.getElem?_eq_some_iff.1 (hmk.2 D hD)).1
            obtain ⟨B, hB2⟩ : ∃ B, w2.heap.size = B := ⟨_, rfl⟩
            rw [hB2] at hDp l20
            have HDP := Lib.hid hDp
            have H20 := Lib.hid b20
            clear hmk hnr hDp b20 hs2 hbc hb7
            go_wp2_with fail
            refine wp_range_a (gf := 95) (lb := #[.pointer (some ⟨q + 1, 0, none⟩)]) rfl egSpans (spans_iter (fun _ => False) (q + 1) (.slice Ay y.length cy) y HOY.out) (fun _ => rfl)
              (fun j V => NrSt w n0 gt (.slice Ab bars.length cb) (.slice (some ⟨b4, off4, none⟩) ss.length cs) ⟨mlo, mhi⟩ vf gr (ss.length + 1) (frR bars ss ss.length) M (upd (rrR ⟨mlo, mhi⟩ ss (i + 1)) i (wayB Fb y j G)) V ∧ BK V (q + 1) #[.slice Ay y.length cy] 28 ∧ Marks Ds V ∧ B ≤ V.heap.size ∧ BK V c #[.int .i64 (i : Int)] 3 ∧ BK V p #[.pointer (some ⟨gr, (i + 1) * 1001, none⟩)] 152)
              (fun _ _ _ => False)
              (fun tm j a' V => (NrSt w n0 gt (.slice Ab bars.length cb) (.slice (some ⟨b4, off4, none⟩) ss.length cs) ⟨mlo, mhi⟩ vf gr (ss.length + 1) (frR bars ss ss.length) M (upd (rrR ⟨mlo, mhi⟩ ss (i + 1)) i (wayB Fb y j G)) V ∧ BK V (q + 1) #[.slice Ay y.length cy] 28 ∧ Marks Ds V ∧ B ≤ V.heap.size ∧ BK V c #[.int .i64 (i : Int)] 3 ∧ BK V p #[.pointer (some ⟨gr, (i + 1) * 1001, none⟩)] 152) ∧ ∃ b1 b2, B ≤ b1 ∧ B ≤ b2 ∧ BK V b1 #[.int .i64 (kFrom y j).lo, .int .i64 (kFrom y j).hi] 33 ∧ BK V b2 #[.int .i64 (kTo y j).lo, .int .i64 (kTo y j).hi] 33 ∧
                a' = { tmps := (((tm.setIfInBounds 129 (rV (kFrom y j))).setIfInBounds 130 (rV (kTo y j))).setIfInBounds 20 (.pointer (some ⟨b1, 0, none⟩))).setIfInBounds 21 (.pointer (some ⟨b2, 0, none⟩)), defers := [] })
              ?rounds ?mem ?start ?done ?stop
            case stop => rintro D c' j V hD hj hf; exact hf.elim
            case mem =>
              rintro j V ⟨hI, hb, _⟩
              exact ⟨hb, (RS.below HVY.out hI.st.below).more (by have := hI.st.below.size; omega)⟩
            case start => exact ⟨HNR.out, H20.out, HMK.out, by rw [hB2]; exact Nat.le_refl _, HBC.out, HB7.out⟩
            case done =>
              rintro D V hD ⟨hI, _, hM, hz, hbc, hb7⟩ hDV
              have hDn : D ∉ Ds := fun hm => by have := HDP.out D hm; omega
              have hM2 : Marks (D :: Ds) V := ⟨List.nodup_cons.2 ⟨hDn, hM.1⟩, fun D' h' => by
                rcases List.mem_cons.1 h' with rfl | h'
                · exact hDV
                · exact hM.2 D' h'⟩
              have hgq2 := HNR.out.ge
              have hD3 : ∀ D' ∈ D :: Ds, gt + 1 + 1 < D' := fun D' h' => by
                rcases List.mem_cons.1 h' with rfl | h'
                · omega
                · exact HDS.out D' h'
              rw [← HTK.out] at hI
              have HI := Lib.hid hI
              have HM2 := Lib.hid hM2
              have HD3 := Lib.hid hD3
              have HC2 := Lib.hid hbc
              have H72 := Lib.hid hb7
              clear hI hM hz hDV hDn hM2 hD3 hbc hb7
              go_wp2_with fail
              refine HK3.out n3 _ _ (by omega) rfl ⟨D :: Ds, k + 1, rfl, by omega, ⟨rfl, rfl, rfl, rfl, rfl, rfl, ?_⟩, HM2.out, HD3.out, HC2.out, H72.out, HI.out⟩
              simp
            case rounds =>
              rw [hB2]
              have hn0B : n0 ≤ B := by have := HNR.out.st.below.size; omega
              refine ⟨?_, fun c i A A' h _ => h, ?_, fun i V h => h.2.2.2.1, ?_, ?_⟩
              · rintro j V V' ⟨q1, q2, q3, q4, q5, q6⟩ ha
                exact ⟨q1.adm ha hw0 hn0B, ha.cells q2, q3.adm ha HDP.out, Nat.le_trans q4 ha.size, ha.cells q5, ha.cells q6⟩
              · rintro j a V V' ⟨⟨q1, q2, q3, q4, q5, q6⟩, b1, b2, h1, h2, h3, h4, h5⟩ ha
                exact ⟨⟨q1.adm ha hw0 hn0B, ha.cells q2, q3.adm ha HDP.out, Nat.le_trans q4 ha.size, ha.cells q5, ha.cells q6⟩, b1, b2, h1, h2, ha.cells h3, ha.cells h4, h5⟩
              · rintro lq j V hj ⟨q1, q2, q3, q4, q5, q6⟩ K2 hK2
                have hb1 : Below V.heap.size V ((V.alloc (.cells #[.int .i64 (kFrom y j).lo, .int .i64 (kFrom y j).hi] 33)).alloc (.cells #[.int .i64 (kTo y j).lo, .int .i64 (kTo y j).hi] 33)) := by exact bel_of
                have hK3' := hK2 _ ((V.alloc (.cells #[.int .i64 (kFrom y j).lo, .int .i64 (kFrom y j).hi] 33)).alloc (.cells #[.int .i64 (kTo y j).lo, .int .i64 (kTo y j).hi] 33)) ((Kept.refl _ _ _).below hb1)
                  ⟨⟨q1.next hb1 hw0, q2.below hb1 q2.lt, q3.next hb1, Nat.le_trans q4 hb1.size, q5.below hb1 q5.lt, q6.below hb1 q6.lt⟩, V.heap.size, V.heap.size + 1, q4, by omega, (BK.new _ _ _).alloc _, BK.new' _ _ _ _ (by simp), rfl⟩
                simp only [List.setIfInBounds_toArray, List.set_cons_succ, List.set_cons_zero] at hK3'
                have HK4' := Lib.hid hK3'
                clear hK3' hK2 q1 q2 q3 hb1 q5 q6
                unfold rV
                gi_wp2_with fail
                exact HK4'.out
              · rintro lq j a' V hj hlq ⟨r, hr⟩ ⟨⟨q1, q2, q3, q4, q5, q6⟩, b1, b2, h1, h2, h3, h4, rfl⟩
                simp only [List.setIfInBounds_toArray, List.set_cons_succ, List.set_cons_zero]
                have hfr := kFrom_rng HOY.out hj
                have hto := kTo_rng HOY.out hj
                have HWF := Lib.hid (wayB_succ Fb y j G)
                obtain ⟨⟨f1, f2⟩, hkf⟩ : ∃ r, kFrom y j = r := ⟨_, rfl⟩
                obtain ⟨⟨t1, t2⟩, hkt⟩ : ∃ r, kTo y j = r := ⟨_, rfl⟩
                rw [hkf] at h3 hfr
                rw [hkt] at h4 hto
                dsimp only at h3 h4 hfr hto
                have lb1 := h3.lt
                have x0 := h3.cell 0
                have x1 := h3.cell 1
                have lb2 := h4.lt
                have y0 := h4.cell 0
                have y1 := h4.cell 1
                have lp7 := q6.lt
                have c7 := q6.cell 0
                simp at x0 x1 y0 y1 c7
                have HKF := Lib.hid hkf
                have HKT := Lib.hid hkt
                clear h3 h4 hkf hkt hr
                gi_wp2_with fail
                refine ⟨trivial, CallsIn.inRound lq (callsIn_wide.2 ((meets_any gr (ss.length + 1) (i + 1) ((i + 1) * 1001) 136 _ ⟨t1, t2⟩ _ q1.gx (by omega) rfl hto.1 hto.2.1 hto.2.2).mono ?_))⟩
                rintro e W2 ⟨rfl, hb⟩
                have hF1 : upd (rrR ⟨mlo, mhi⟩ ss (i + 1)) i (wayB Fb y j G) (i + 1) = Fb := by
                  rw [upd_other _ _ (by omega), rrR_at, HFB.out]
                rw [hF1]
                clear hF1
                have r1 := q1.next hb hw0
                have r2 := q2.below hb q2.lt
                have r3 := q3.next hb
                have r4 : B ≤ W2.heap.size := Nat.le_trans q4 hb.size
                have r5 := q5.below hb q5.lt
                have r6 := q6.below hb q6.lt
                have hkp : Kept (fun _ => False) B V W2 := (Kept.refl _ _ _).below hb
                replace x0 := (hb.cell (p := ⟨b1, 0, none⟩) lb1).trans x0
                replace x1 := (hb.cell (p := ⟨b1, 1, none⟩) lb1).trans x1
                replace lb1 : b1 < W2.heap.size := Nat.lt_of_lt_of_le lb1 hb.size
                clear q1 q2 q3 q4 hb y0 y1 lb2 q5 q6 lp7 c7
                cases hmt : mtR Fb ⟨t1, t2⟩ with
                | false =>
                  have HMT := Lib.hid hmt
                  clear hmt
                  gi_wp2_with fail
                  refine ⟨hkp, ?_, r2, r3, r4, r5, r6⟩
                  rw [HWF.out]
                  unfold kinkB
                  rw [HKT.out, HMT.out, if_neg Bool.false_ne_true]
                  exact r1
                | true =>
                  have HMT := Lib.hid hmt
                  clear hmt
                  have p0 := r1.st.px.cell 0
                  have t5 := r1.st.tx.cell 5
                  have ci := r5.cell 0
                  simp only [List.getElem?_toArray, List.getElem?_cons_zero, List.getElem?_cons_succ] at p0 t5 ci
                  have lt := r1.st.tx.lt
                  have lp := r1.st.px.lt
                  have lci := r5.lt
                  have hd1 : Below W2.heap.size W2 W2.drew := Below.drew (Below.refl _ _)
                  have HX : ∀ X2, Below W2.heap.size W2 X2 → (X2.cell? ⟨gt + 1, 0, none⟩ = some (.pointer (some ⟨gt, 0, none⟩)) ∧ X2.cell? ⟨c, 0, none⟩ = some (.int .i64 (i : Int))) ∧ (X2.cell? ⟨gt, 5, none⟩ = some (.slice (some ⟨gr, 0, none⟩) (ss.length + 1) (ss.length + 1)) ∧ (X2.cell? ⟨b1, 0, none⟩ = some (.int .i64 f1) ∧ X2.cell? ⟨b1, 1, none⟩ = some (.int .i64 f2))) := fun X2 hX => ⟨⟨(hX.cell (p := ⟨gt + 1, 0, none⟩) lp).trans p0, (hX.cell (p := ⟨c, 0, none⟩) lci).trans ci⟩, (hX.cell (p := ⟨gt, 5, none⟩) lt).trans t5, (hX.cell (p := ⟨b1, 0, none⟩) lb1).trans x0, (hX.cell (p := ⟨b1, 1, none⟩) lb1).trans x1⟩
                  have R1 := Lib.hid r1
                  have R2 := Lib.hid r2
                  have R3 := Lib.hid r3
                  have R5 := Lib.hid r5
                  have R6 := Lib.hid r6
                  have HKP := Lib.hid hkp
                  clear r1 r2 r3 r5 r6 hkp p0 t5 ci lt lp lci x0 x1 lb1
                  gi_wp2_with fail
                  refine round_any [0, 1, 2, 3, 4, 5, 6] (Below W2.heap.size W2) mixed (by kernel_rfl) ?_ ?_
                  · rintro ⟨_, _, hx⟩; exact hx
                  (refine any_take 0 ?_ (by rfl) (by kernel_rfl) (fun _ _ _ _ _ hx => hx) (.inl ⟨by rfl, ?_⟩) hd1 ?_; rotate_left; (intro X hX; obtain ⟨r1, r2⟩ := HX X hX; clear hX; go_simp; rfl); simp only [List.getElem_toArray, List.getElem_cons_succ, List.getElem_cons_zero, Act.put, List.setIfInBounds_toArray, List.set_cons_succ, List.set_cons_zero])
                  (refine any_take 1 ?_ (by rfl) (by kernel_rfl) (fun _ _ _ _ _ hx => hx) (.inl ⟨by rfl, ?_⟩) hd1 ?_; rotate_left; (intro X hX; obtain ⟨r1, r2⟩ := HX X hX; clear hX; go_simp; rfl); simp only [List.getElem_toArray, List.getElem_cons_succ, List.getElem_cons_zero, Act.put, List.setIfInBounds_toArray, List.set_cons_succ, List.set_cons_zero])
                  (refine any_take 2 ?_ (by rfl) (by kernel_rfl) (fun _ _ _ _ _ hx => hx) (.inl ⟨by rfl, ?_⟩) hd1 ?_; rotate_left; (intro X hX; obtain ⟨r1, r2⟩ := HX X hX; clear hX; go_simp; rfl); simp only [List.getElem_toArray, List.getElem_cons_succ, List.getElem_cons_zero, Act.put, List.setIfInBounds_toArray, List.set_cons_succ, List.set_cons_zero])
                  (refine any_take 3 ?_ (by rfl) (by kernel_rfl) (fun _ _ _ _ _ hx => hx) (.inl ⟨by rfl, ?_⟩) hd1 ?_; rotate_left; (intro X hX; obtain ⟨r1, r2⟩ := HX X hX; clear hX; go_simp; rfl); simp only [List.getElem_toArray, List.getElem_cons_succ, List.getElem_cons_zero, Act.put, List.setIfInBounds_toArray, List.set_cons_succ, List.set_cons_zero])
                  (refine any_take 4 ?_ (by rfl) (by kernel_rfl) (fun _ _ _ _ _ hx => hx) (.inl ⟨by rfl, ?_⟩) hd1 ?_; rotate_left; (intro X hX; obtain ⟨r1, r2⟩ := HX X hX; clear hX; go_simp; rfl); simp only [List.getElem_toArray, List.getElem_cons_succ, List.getElem_cons_zero, Act.put, List.setIfInBounds_toArray, List.set_cons_succ, List.set_cons_zero])
                  (refine any_take 5 ?_ (by rfl) (by kernel_rfl) (fun _ _ _ _ _ hx => hx) (.inl ⟨by rfl, ?_⟩) hd1 ?_; rotate_left; (intro X hX; obtain ⟨r1, r2⟩ := HX X hX; clear hX; go_simp; rfl); simp only [List.getElem_toArray, List.getElem_cons_succ, List.getElem_cons_zero, Act.put, List.setIfInBounds_toArray, List.set_cons_succ, List.set_cons_zero])
                  (refine any_take 6 ?_ (by rfl) (by kernel_rfl) (fun _ _ _ _ _ hx => hx) (.inl ⟨by rfl, ?_⟩) hd1 ?_; rotate_left; (intro X hX; obtain ⟨r1, r2⟩ := HX X hX; clear hX; go_simp; rfl); simp only [List.getElem_toArray, List.getElem_cons_succ, List.getElem_cons_zero, Act.put, List.setIfInBounds_toArray, List.set_cons_succ, List.set_cons_zero])
                  refine any_run1 (i := 7) (by kernel_rfl) (by rfl) (by kernel_rfl) ?_
                  intro K5 hK5
                  go_wp2_with fail
                  have r1 := R1.out.next hd1 hw0
                  refine (fill_any gr (ss.length + 1) i (i * 1001) 136 _ ⟨f1, f2⟩ _ r1.gx (by omega) rfl hfr.1 hfr.2.1 hfr.2.2).mono ?_
                  rintro e W4 ⟨rfl, hG4, hgr4⟩
                  rw [upd_same, upd_upd] at hG4
                  have s1 := r1.put hgr4 hG4 hw0 hgt
                  have s2 := (R2.out.below hd1 R2.out.lt).grown hgr4 (by intro he; injection he with he; omega)
                  have s3 := (R3.out.next hd1).grown hgr4 r1.gx
                  have s4 : B ≤ W4.heap.size := Nat.le_trans r4 (Nat.le_trans hd1.size hgr4.size)
                  have s5 := (R5.out.below hd1 R5.out.lt).grown hgr4 (by intro he; injection he with he; exact r1.gx.ne_bk (R5.out.below hd1 R5.out.lt) (by decide) he)
                  have s6 := (R6.out.below hd1 R6.out.lt).grown hgr4 (by intro he; injection he with he; exact r1.gx.ne_bk (R6.out.below hd1 R6.out.lt) (by decide) he)
                  have hkq : Kept (fun _ => False) B V W4 := (HKP.out.below hd1).grown hgr4 (fun r e => .inl (by injection e with e; omega))
                  refine hK5 _ _ (fun hx => (Bool.false_ne_true (hx.symm.trans (by kernel_rfl))).elim) ?_
                  clear hK5 K5 R1 R2 R3 R5 R6 HKP r1 r4 hG4 hgr4
                  refine any_done (by kernel_rfl) ?_
                  gi_wp2_with fail
                  refine ⟨hkq, ?_, s2, s3, s4, s5, s6⟩
                  rw [HWF.out]
                  unfold kinkB
                  rw [HKF.out, HKT.out, HMT.out, if_pos rfl]
                  exact s1
        --REAREND
      | succ n =>
        have hi : i < ss.length := by omega
        have hi' : (i : Int) < (ss.length : Int) := by omega
        have HK := Lib.hid hK
        clear hK hst2
        obtain ⟨A', cap', b4, off4, hve, hA, hc⟩ := RP.cells HS.out
        obtain ⟨rfl, hbb4⟩ := hA (by omega)
        injection hve with q1 q2 q3
        subst q1 q3
        obtain ⟨us, d1w, hu⟩ := hc i hi
        have d1 := (hst.below.cell (p := ⟨b4, off4 + i, none⟩) hbb4).trans d1w
        clear d1w
        obtain ⟨s, hs⟩ : ∃ s, nthS ss i = s := ⟨_, rfl⟩
        have hos := HV.out.sok _ (nthS_mem hi)
        have hws := HV.out.wpos _ (nthS_mem hi)
        have hnx : frontF bars (ss.take (i + 1)) = nextF (frontF bars (ss.take i)) (nthS ss i) := by
          rw [List.take_succ_eq_append_getElem hi, frontF_snoc, nthS_eq hi]
        rw [hs] at hu hos hws hnx
        have HNX := Lib.hid hnx
        have HOS := Lib.hid hos
        obtain ⟨Aw, cw, rfl⟩ := hu.slice
        clear hA hc q2 hs hos hnx
        have HU0 : RW w n0 _ s := hu
        have hXs := hst.below.size
        have hbb5 : b4 < X.heap.size := by omega
        obtain ⟨F, hF⟩ : ∃ F, frontF bars (ss.take i) = F := ⟨_, rfl⟩
        rw [hF] at hst HNX
        have HST := Lib.hid hst
        have HF := Lib.hid hF
        have HUU := Lib.hid HU0
        clear hst hF HU0 hu
        obtain ⟨h, hh⟩ : ∃ h, X.heap.size = h := ⟨_, rfl⟩
        have hh3 : gt + 1 + 1 + 1 ≤ h := by have := HST.out.nx.lt; omega
        rw [hh] at hbb5 hXs
        have hbb6 : b4 < X.heap.size := by omega
        go_upto_region 13 with fail
        have hb1 : Below X.heap.size X ((X.alloc (.cells #[.slice Aw s.length cw] 88)).alloc (.cells (rowL noR).toArray 136)) := by exact bel_of
        have b10 : BK ((X.alloc (.cells #[.slice Aw s.length cw] 88)).alloc (.cells (rowL noR).toArray 136)) h #[.slice Aw s.length cw] 88 := (BK.new' _ _ _ _ hh).alloc _
        have hin : NtIn w n0 gt (.slice Ab bars.length cb) (.slice (some ⟨b4, off4, none⟩) ss.length cs) ⟨mlo, mhi⟩ vf (.slice none 0 0) (frR bars ss i) F (h + 1) noR ((X.alloc (.cells #[.slice Aw s.length cw] 88)).alloc (.cells (rowL noR).toArray 136)) :=
          ⟨HST.out.next hb1 hw0, Gd.new _ _ _ _ (by simp [hh]), fun he => by have := (HST.out.fx.lt _ he).2; omega, by omega⟩
        have hMk1 := hMk.next hb1
        clear HST hMk hb1 d1 hh hbb5 hbb6 hXs
        generalize ((X.alloc (.cells #[.slice Aw s.length cw] 88)).alloc (.cells (rowL noR).toArray 136)) = X1 at *
        have l10 := b10.lt
        have c10 := b10.cell 0
        simp at c10
        have HIN := Lib.hid hin
        have HMK := Lib.hid hMk1
        have HDS := Lib.hid hDs
        clear hin hMk1 hDs
        go_wp2_with fail
        clear l10 c10 b10
        refine wp_loop_u mkT145 (fun n3 u ds Y => ∃ Ds k, ds = Ds.map mk ∧ n3 + k = s.length ∧ (u 2 = .pointer (some ⟨n0, 0, none⟩) ∧ u 3 = .pointer (some ⟨n0 + 1, 0, none⟩) ∧ u 5 = .pointer (some ⟨gt + 1, 0, none⟩) ∧ u 6 = .pointer (some ⟨gt + 1 + 1, 0, none⟩) ∧ u 11 = .pointer (some ⟨h + 1, 0, none⟩) ∧ u 47 = .slice (some ⟨b4, off4, none⟩) ss.length cs ∧ u 48 = .int .i64 (ss.length : Int) ∧ u 49 = .int .i64 (i : Int) ∧ u 54 = .slice Aw s.length cw ∧ u 55 = .int .i64 (s.length : Int) ∧ u 56 = .int .i64 (k : Int)) ∧ Marks Ds Y ∧ (∀ D ∈ Ds, gt + 1 + 1 < D) ∧
          NtIn w n0 gt (.slice Ab bars.length cb) (.slice (some ⟨b4, off4, none⟩) ss.length cs) ⟨mlo, mhi⟩ vf (.slice none 0 0) (frR bars ss i) F (h + 1) ((s.take k).foldl (fun g w => wayF F w w.length g) noR) Y) s.length rfl ?_ ?_
        · exact ⟨Ds, 0, rfl, rfl, ⟨rfl, rfl, rfl, rfl, rfl, rfl, rfl, rfl, rfl, rfl, rfl⟩, HMK.out, HDS.out, HIN.out⟩
        clear HMK HIN HDS
        rintro n3 u3 ds Y ⟨Ds, k, rfl, hnk, ⟨u2, u3_, u5, u6, u11, u47, u48, u49, u54, u55, u56⟩, hMk, hDs, hin⟩ K3 hK3
        simp only [mkT145, u2, u3_, u5, u6, u11, u47, u48, u49, u54, u55, u56]
        clear u2 u3_ u5 u6 u11 u47 u48 u49 u54 u55 u56
        cases n3 with
        | zero =>
          obtain rfl : k = s.length := by omega
          rw [List.take_length] at hin
          have HMK := Lib.hid hMk
          have HDS := Lib.hid hDs
          clear hMk hDs hK3
          have hnx := HNX.out
          unfold nextF at hnx
          obtain ⟨Nf, hNf⟩ : ∃ N, s.foldl (fun g w => wayF F w w.length g) noR = N := ⟨_, rfl⟩
          rw [hNf] at hin hnx
          have hra := hin.gx.range (i := 0) (by omega)
          have hth := hin.st.nx.there (i := 0) (by omega)
          rw [Nat.zero_mul] at hra hth
          have HRA := Lib.hid hra
          have HTH := Lib.hid (show Y.there (gt + 1 + 1) 0 (rowL Nf).toArray.size by rw [List.size_toArray, rowL_len]; exact hth)
          have HSZ := Lib.hid (show (Try.prog.info? 136).map (·.size) = some (rowL Nf).length by rw [row_size, rowL_len])
          have HSY := Lib.hid (show (Try.prog.info? 136).map (·.size) = some (rowL Nf).toArray.size by rw [row_size, List.size_toArray, rowL_len])
          have HIN := Lib.hid hin
          have HNF := Lib.hid hnx
          clear hin hra hth hNf hnx
          go_upto_region 23 with (first | refine wpList_load_mid rfl 136 (.tmp 11) rfl (h + 1) 0 rfl (rowL Nf) _ HRA.out row_under rfl HSZ.out ?_ | refine wpList_store_mid rfl 136 (.tmp 6) (.tmp 69) rfl (gt + 1 + 1) 0 (rowL Nf).toArray rfl rfl HTH.out HSY.out (rowL_one Nf) ?_)
          have hst : NtSt w n0 gt (.slice Ab bars.length cb) (.slice (some ⟨b4, off4, none⟩) ss.length cs) ⟨mlo, mhi⟩ vf (.slice none 0 0) (frR bars ss i) Nf (Y.setCells (gt + 1 + 1) 0 (rowL Nf).toArray.toList) := by
            refine HIN.out.st.row (grown_sets _ _ _ ⟨rfl, rfl, rfl, Nat.le_refl _, fun _ _ _ => rfl⟩) ?_ hw0 hgt
            have := HIN.out.st.nx.put (i := 0) (by omega) Nf
            rw [Nat.zero_mul] at this
            exact this.one
          have hmk : Marks Ds (Y.setCells (gt + 1 + 1) 0 (rowL Nf).toArray.toList) :=
            HMK.out.grown (grown_sets _ _ _ ⟨rfl, rfl, rfl, Nat.le_refl _, fun _ _ _ => rfl⟩) HIN.out.st.nx
          clear HIN HMK HRA HTH HSZ HSY
          generalize Y.setCells (gt + 1 + 1) 0 (rowL Nf).toArray.toList = Y2 at *
          have hi7 : i ≤ 6 := by omega
          have hG := hst.nx.range (i := 0) (by omega)
          rw [Nat.zero_mul] at hG
          have t2 := hst.tx.cell 4
          have p0 := hst.px.cell 0
          simp only [List.getElem?_toArray, List.getElem?_cons_zero, List.getElem?_cons_succ] at t2 p0
          have lt := hst.tx.lt
          have ln := hst.nx.lt
          have hd1 : Below (gt + 1 + 1 + 1) Y2 Y2.drew := Below.drew (Below.refl _ _)
          refine wp_region_noPanic (plain_any [0, 1, 2, 3, 4, 5] (Below (gt + 1 + 1 + 1) Y2) mixed ?_)
          have HX : ∀ X2, Below (gt + 1 + 1 + 1) Y2 X2 → X2.cell? ⟨gt + 1, 0, none⟩ = some (.pointer (some ⟨gt, 0, none⟩)) ∧ X2.cell? ⟨gt, 4, none⟩ = some vf := fun X2 hX => ⟨(hX.cell (p := ⟨gt + 1, 0, none⟩) (by show gt + 1 < _; omega)).trans p0, (hX.cell (p := ⟨gt, 4, none⟩) (by show gt < _; omega)).trans t2⟩
          have hsz : (Try.prog.info? 136).map (·.size) = some (rowL Nf).length := by rw [row_size, rowL_len]
          have HSZ := Lib.hid hsz
          clear hsz
          (refine any_take 0 ?_ (by rfl) (by kernel_rfl) (fun _ _ _ _ _ hx => hx.elim) (.inl ⟨by rfl, ?_⟩) hd1 ?_; rotate_left; (intro X hX; obtain ⟨r1, r2⟩ := HX X hX; clear hX; go_simp; rfl); simp only [List.getElem_toArray, List.getElem_cons_succ, List.getElem_cons_zero, Act.put, List.setIfInBounds_toArray, List.set_cons_succ, List.set_cons_zero])
          (refine any_take 1 ?_ (by rfl) (by kernel_rfl) (fun _ _ _ _ _ hx => hx.elim) (.inl ⟨by rfl, ?_⟩) hd1 ?_; rotate_left; (intro X hX; obtain ⟨r1, r2⟩ := HX X hX; clear hX; go_simp; rfl); simp only [List.getElem_toArray, List.getElem_cons_succ, List.getElem_cons_zero, Act.put, List.setIfInBounds_toArray, List.set_cons_succ, List.set_cons_zero])
          (refine any_take 2 ?_ (by rfl) (by kernel_rfl) (fun _ _ _ _ _ hx => hx.elim) (.inl ⟨by rfl, ?_⟩) hd1 ?_; rotate_left; (intro X hX; obtain ⟨r1, r2⟩ := HX X hX; clear hX; go_simp; rfl); simp only [List.getElem_toArray, List.getElem_cons_succ, List.getElem_cons_zero, Act.put, List.setIfInBounds_toArray, List.set_cons_succ, List.set_cons_zero])
          (refine any_take 3 ?_ (by rfl) (by kernel_rfl) (fun _ _ _ _ _ hx => hx.elim) (.inl ⟨by rfl, ?_⟩) hd1 ?_; rotate_left; (intro X hX; obtain ⟨r1, r2⟩ := HX X hX; clear hX; go_simp; rfl); simp only [List.getElem_toArray, List.getElem_cons_succ, List.getElem_cons_zero, Act.put, List.setIfInBounds_toArray, List.set_cons_succ, List.set_cons_zero])
          (refine any_take 4 ?_ (by rfl) (by kernel_rfl) (fun _ _ _ _ _ hx => hx.elim) (.inl ⟨by rfl, ?_⟩) hd1 ?_; rotate_left; (intro X hX; obtain ⟨r1, r2⟩ := HX X hX; clear hX; go_simp; rfl); simp only [List.getElem_toArray, List.getElem_cons_succ, List.getElem_cons_zero, Act.put, List.setIfInBounds_toArray, List.set_cons_succ, List.set_cons_zero])
          refine any_take 5 (.agg (rowL Nf).toArray) (by rfl) (by kernel_rfl) (fun _ _ _ _ _ hx => hx.elim) (yieldsIf_load_mid rfl 136 (.tmp 6) rfl (gt + 1 + 1) 0 rfl (rowL Nf) _ (fun W hW => fun j v hv => by have := hG j v hv; rw [hW.cell (by show gt + 1 + 1 < _; omega)]; exact this) row_under rfl HSZ.out) hd1 ?_
          simp only [List.getElem_toArray, List.getElem_cons_succ, List.getElem_cons_zero, Act.put, List.setIfInBounds_toArray, List.set_cons_succ, List.set_cons_zero]
          refine any_run1 (i := 6) (by kernel_rfl) (by rfl) (by kernel_rfl) ?_
          intro K hK
          refine wp_build_run 138 1 (.tmp 75) _ rfl (run_build_row Nf _) ?_
          obtain ⟨g7, hg7⟩ : ∃ g, Y2.drew.heap.size = g := ⟨_, rfl⟩
          have hg7' : Y2.heap.size = g7 := hg7
          have b7 : BK (Y2.drew.alloc (.cells (rowL Nf).toArray 136)) g7 (rowL Nf).toArray 136 := BK.new' _ _ _ _ hg7
          have hd2 : Below (gt + 1 + 1 + 1) Y2 (Y2.drew.alloc (.cells (rowL Nf).toArray 136)) := Below.alloc hd1 (by omega) _
          have hst1 := hst.next (Y := Y2.drew.alloc (.cells (rowL Nf).toArray 136)) (Below.alloc (Below.drew (Below.refl _ _)) (Nat.le_refl _) _) hw0
          have hmk1 := hmk.next (Y := Y2.drew.alloc (.cells (rowL Nf).toArray 136)) (Below.alloc (Below.drew (Below.refl _ _)) (Nat.le_refl _) _)
          refine hK _ _ (fun _ => hd2) ?_
          clear hK K
          simp only [List.getElem_toArray, List.getElem_cons_succ, List.getElem_cons_zero, Act.put, List.setIfInBounds_toArray, List.set_cons_succ, List.set_cons_zero]
          rw [hg7]
          clear hg7 hg7'
          generalize Y2.drew.alloc (.cells (rowL Nf).toArray 136) = W7 at *
          refine any_run1 (i := 7) (by kernel_rfl) (by rfl) (by kernel_rfl) ?_
          intro K hK
          obtain ⟨ga, ca, W8, hrun, hown, hgr, hkb⟩ := app_row hst1.fx b7 (by have := frR_len bars ss i; omega) (by have := hst1.nx.lt; omega)
          have hd3 := hkb _ _ (Nat.le_refl _) hd2
          have hc3 := hkb _ _ (by omega : n0 ≤ _) hst1.below
          have hmk2 := hmk1.own hgr hst1.fx
          refine wp_append_run (.tmp 74) (.tmp 76) 138 _ rfl hrun ?_
          refine hK _ _ (fun _ => hd3) ?_
          clear hK K
          simp only [List.getElem_toArray, List.getElem_cons_succ, List.getElem_cons_zero, Act.put, List.setIfInBounds_toArray, List.set_cons_succ, List.set_cons_zero]
          have q8 : ∀ k, k < gt + 1 + 1 + 1 → W8.heap[k]? = Y2.heap[k]? := fun k hk => hd3.block k hk
          have tx8 : BK W8 gt _ _ := (q8 gt (by omega)).trans hst.tx
          have l8 := tx8.lt
          have t8 := tx8.cell 4
          have f8 := tx8.frozen 4
          simp at t8
          refine any_run1 (i := 8) (by kernel_rfl) (by rfl) (by kernel_rfl) ?_
          intro K hK
          go_wp2_with fail
          refine hK _ _ (fun _ => hd3) ?_
          clear hK K
          refine any_run1 (i := 9) (by kernel_rfl) (by rfl) (by kernel_rfl) ?_
          intro K hK
          go_wp2_with fail
          refine hK _ _ (fun _ => hd3) ?_
          clear hK K
          refine any_run1 (i := 10) (by kernel_rfl) (by rfl) (by kernel_rfl) ?_
          intro K hK
          go_wp2_with fail
          refine hK _ _ (fun hx => (Bool.false_ne_true (hx.symm.trans (by kernel_rfl))).elim) ?_
          clear hK K
          refine any_done (by kernel_rfl) (NoPanic.normal ?_)
          have hst2 := hst.push hd3 hc3 hown hw0 hgt
          have hmk3 := hmk2.set (gt := gt) 4 (.slice (some ⟨ga, 0, none⟩) ((frR bars ss i).length + 1) ca)
          rw [show (frR bars ss i).length = (i + 1) from frR_len _ _ _] at hst2 hmk3
          clear hst hst1 hG t2 p0 lt ln hd1 HX HSZ b7 hd2 hrun hown hgr hkb hd3 hc3 q8 tx8 l8 f8 t8 hmk hmk1 hmk2
          try rw [show (frR bars ss i).length = (i + 1) from frR_len _ _ _]
          generalize W8.setCell ⟨gt, 4, none⟩ (.slice (some ⟨ga, 0, none⟩) ((i + 1) + 1) ca) = W9 at *
          clear W8 W7
          have hfr : frR bars ss i ++ [Nf] = frR bars ss (i + 1) := by rw [frR_succ, HNF.out]
          rw [hfr] at hst2
          rw [← HNF.out] at hst2
          have HST := Lib.hid hst2
          have HMK := Lib.hid hmk3
          clear hst2 hmk3 hfr
          go_wp2_with fail
          refine HK.out n _ _ (by omega) rfl ⟨Ds, i + 1, _, rfl, by omega, ⟨rfl, rfl, rfl, rfl, rfl, rfl, ?_⟩, HMK.out, HDS.out, HST.out⟩
          simp
        | succ n3 =>
          have hk : k < s.length := by omega
          have hk' : (k : Int) < (s.length : Int) := by omega
          have HK3 := Lib.hid hK3
          have HMK := Lib.hid hMk
          have HDS := Lib.hid hDs
          clear hK3 hMk hDs
          obtain ⟨A', cap', b5, off5, hve, hA, hc⟩ := RW.cells HUU.out
          obtain ⟨rfl, hbb5⟩ := hA (by omega)
          injection hve with q1 q2 q3
          subst q1 q3
          obtain ⟨uw, d2w, hv⟩ := hc k hk
          have d2 := (hin.st.below.cell (p := ⟨b5, off5 + k, none⟩) hbb5).trans d2w
          have hoy := HOS.out _ (nthW_mem hk)
          obtain ⟨y, hy⟩ : ∃ y, nthW s k = y := ⟨_, rfl⟩
          have htk : (s.take (k + 1)).foldl (fun g w => wayF F w w.length g) noR = wayF F y y.length ((s.take k).foldl (fun g w => wayF F w w.length g) noR) := by
            rw [List.take_succ_eq_append_getElem hk, List.foldl_append, ← hy, nthW_eq hk, List.foldl_cons, List.foldl_nil]
          rw [hy] at hv hoy
          obtain ⟨Ay, cy, rfl⟩ := hv.slice
          have HTK := Lib.hid htk
          have HOY := Lib.hid hoy
          have HVY := Lib.hid (show RK w n0 (.slice Ay y.length cy) y from hv)
          clear hA hc q2 hy htk hv hoy d2w
          obtain ⟨G, hG⟩ : ∃ G, (s.take k).foldl (fun g w => wayF F w w.length g) noR = G := ⟨_, rfl⟩
          rw [hG] at hin HTK
          clear hG
          have hbb6 : b5 < Y.heap.size := by have := hin.st.below.size; omega
          have HIN := Lib.hid hin
          obtain ⟨p, hp⟩ : ∃ p, Y.heap.size = p := ⟨_, rfl⟩
          clear hin
          go_upto_region 16 with fail
          have hb1 : Below Y.heap.size Y (Y.alloc (.cells #[.slice Ay y.length cy] 28)) := by exact bel_of
          have b13 : BK (Y.alloc (.cells #[.slice Ay y.length cy] 28)) p #[.slice Ay y.length cy] 28 := BK.new' _ _ _ _ hp
          have hin1 := HIN.out.next hb1 hw0
          have hmk1 := HMK.out.next hb1
          have hs1 : (Y.alloc (.cells #[.slice Ay y.length cy] 28)).heap.size = p + 1 := by simp [hp]
          have hhp : h + 1 < p := by have := HIN.out.gx.lt; omega
          clear hb1 HIN HMK hbb6 d2 hp
          generalize (Y.alloc (.cells #[.slice Ay y.length cy] 28)) = Y1 at *
          have l13 := b13.lt
          have c13 := b13.cell 0
          simp at c13
          have HS1 := Lib.hid hs1
          clear hs1
          go_wp2_with fail
          clear l13 c13
          refine (spans_any (.slice Ay y.length cy) _).mono ?_
          rintro e w1 ⟨rfl, b14, hb⟩
          have hin := hin1.next hb hw0
          have hmk := hmk1.next hb
          have hs2 := hb.size
          have l14 := b14.lt
          rw [HS1.out] at b14 hs2 l14 ⊢
          clear hin1 hmk1 hb b13 HS1
          have HMK := Lib.hid hmk
          have HIN := Lib.hid hin
          have hDp : ∀ D ∈ Ds, D < w1.heap.size := fun D hD => (Array.getElem?_eq_some_iff.1 (hmk.2 D hD)).1
          obtain ⟨B, hB2⟩ : ∃ B, w1.heap.size = B := ⟨_, rfl⟩
          rw [hB2] at hDp l14
          have HDP := Lib.hid hDp
          have H14 := Lib.hid b14
          clear hmk hin hDp b14 hs2
          go_wp2_with fail
          refine wp_range_a (gf := 95) (lb := #[.pointer (some ⟨p + 1, 0, none⟩)]) rfl egSpans (spans_iter (fun _ => False) (p + 1) (.slice Ay y.length cy) y HOY.out) (fun _ => rfl)
            (fun j Z => NtIn w n0 gt (.slice Ab bars.length cb) (.slice (some ⟨b4, off4, none⟩) ss.length cs) ⟨mlo, mhi⟩ vf (.slice none 0 0) (frR bars ss i) F (h + 1) (wayF F y j G) Z ∧ BK Z (p + 1) #[.slice Ay y.length cy] 28 ∧ Marks Ds Z ∧ B ≤ Z.heap.size)
            (fun _ _ _ => False)
            (fun tm j a' Z => (NtIn w n0 gt (.slice Ab bars.length cb) (.slice (some ⟨b4, off4, none⟩) ss.length cs) ⟨mlo, mhi⟩ vf (.slice none 0 0) (frR bars ss i) F (h + 1) (wayF F y j G) Z ∧ BK Z (p + 1) #[.slice Ay y.length cy] 28 ∧ Marks Ds Z ∧ B ≤ Z.heap.size) ∧ ∃ b1 b2, B ≤ b1 ∧ B ≤ b2 ∧ BK Z b1 #[.int .i64 (kFrom y j).lo, .int .i64 (kFrom y j).hi] 33 ∧ BK Z b2 #[.int .i64 (kTo y j).lo, .int .i64 (kTo y j).hi] 33 ∧
              a' = { tmps := (((tm.setIfInBounds 62 (rV (kFrom y j))).setIfInBounds 63 (rV (kTo y j))).setIfInBounds 14 (.pointer (some ⟨b1, 0, none⟩))).setIfInBounds 15 (.pointer (some ⟨b2, 0, none⟩)), defers := [] })
            ?rounds ?mem ?start ?done ?stop
          case stop => rintro D c j Z hD hj hf; exact hf.elim
          case mem =>
            rintro j Z ⟨hI, hb, _⟩
            exact ⟨hb, (RS.below HVY.out hI.st.below).more (by have := hI.st.below.size; omega)⟩
          case start => exact ⟨HIN.out, H14.out, HMK.out, by rw [hB2]; exact Nat.le_refl _⟩
          case done =>
            rintro D Z hD ⟨hI, _, hM, hz⟩ hDZ
            have hDn : D ∉ Ds := fun hm => by have := HDP.out D hm; omega
            have hM2 : Marks (D :: Ds) Z := ⟨List.nodup_cons.2 ⟨hDn, hM.1⟩, fun D' h' => by
              rcases List.mem_cons.1 h' with rfl | h'
              · exact hDZ
              · exact hM.2 D' h'⟩
            have hD3 : ∀ D' ∈ D :: Ds, gt + 1 + 1 < D' := fun D' h' => by
              rcases List.mem_cons.1 h' with rfl | h'
              · omega
              · exact HDS.out D' h'
            rw [← HTK.out] at hI
            have HI := Lib.hid hI
            have HM2 := Lib.hid hM2
            have HD3 := Lib.hid hD3
            clear hI hM hz hDZ hDn hM2 hD3
            go_wp2_with fail
            refine HK3.out n3 _ _ (by omega) rfl ⟨D :: Ds, k + 1, rfl, by omega, ⟨rfl, rfl, rfl, rfl, rfl, rfl, rfl, rfl, rfl, rfl, ?_⟩, HM2.out, HD3.out, HI.out⟩
            simp
          case rounds =>
            rw [hB2]
            have hn0B : n0 ≤ B := by have := HIN.out.st.below.size; omega
            refine ⟨?_, fun c i A A' h _ => h, ?_, fun i Z h => h.2.2.2, ?_, ?_⟩
            · rintro j Z Z' ⟨q1, q2, q3, q4⟩ ha
              exact ⟨q1.adm ha hw0 hn0B, ha.cells q2, q3.adm ha HDP.out, Nat.le_trans q4 ha.size⟩
            · rintro j a Z Z' ⟨⟨q1, q2, q3, q4⟩, b1, b2, h1, h2, h3, h4, h5⟩ ha
              exact ⟨⟨q1.adm ha hw0 hn0B, ha.cells q2, q3.adm ha HDP.out, Nat.le_trans q4 ha.size⟩, b1, b2, h1, h2, ha.cells h3, ha.cells h4, h5⟩
            · rintro lq j Z hj ⟨q1, q2, q3, q4⟩ K2 hK2
              have hb1 : Below Z.heap.size Z ((Z.alloc (.cells #[.int .i64 (kFrom y j).lo, .int .i64 (kFrom y j).hi] 33)).alloc (.cells #[.int .i64 (kTo y j).lo, .int .i64 (kTo y j).hi] 33)) := by exact bel_of
              have hK3' := hK2 _ ((Z.alloc (.cells #[.int .i64 (kFrom y j).lo, .int .i64 (kFrom y j).hi] 33)).alloc (.cells #[.int .i64 (kTo y j).lo, .int .i64 (kTo y j).hi] 33)) ((Kept.refl _ _ _).below hb1)
                ⟨⟨q1.next hb1 hw0, q2.below hb1 q2.lt, q3.next hb1, Nat.le_trans q4 hb1.size⟩, Z.heap.size, Z.heap.size + 1, q4, by omega, (BK.new _ _ _).alloc _, BK.new' _ _ _ _ (by simp), rfl⟩
              simp only [List.setIfInBounds_toArray, List.set_cons_succ, List.set_cons_zero] at hK3'
              have HK4 := Lib.hid hK3'
              clear hK3' hK2 q1 q2 q3 hb1
              unfold rV
              gi_wp2_with fail
              exact HK4.out
            · rintro lq j a' Z hj hlq ⟨r, hr⟩ ⟨⟨q1, q2, q3, q4⟩, b1, b2, h1, h2, h3, h4, rfl⟩
              simp only [List.setIfInBounds_toArray, List.set_cons_succ, List.set_cons_zero]
              have hfr := kFrom_rng HOY.out hj
              have hto := kTo_rng HOY.out hj
              have hwf := wayF_succ F y j G
              have HWF := Lib.hid hwf
              clear hwf
              obtain ⟨⟨f1, f2⟩, hkf⟩ : ∃ r, kFrom y j = r := ⟨_, rfl⟩
              obtain ⟨⟨t1, t2⟩, hkt⟩ : ∃ r, kTo y j = r := ⟨_, rfl⟩
              rw [hkf] at h3 hfr
              rw [hkt] at h4 hto
              dsimp only at h3 h4 hfr hto
              have lb1 := h3.lt
              have x0 := h3.cell 0
              have x1 := h3.cell 1
              have lb2 := h4.lt
              have y0 := h4.cell 0
              have y1 := h4.cell 1
              simp at x0 x1 y0 y1
              have HKF := Lib.hid hkf
              have HKT := Lib.hid hkt
              clear h3 h4 hkf hkt hr
              gi_wp2_with fail
              refine ⟨trivial, CallsIn.inRound lq (callsIn_wide.2 ((meets_any (gt + 1 + 1) 1 0 0 136 _ ⟨f1, f2⟩ _ q1.st.nx (by omega) rfl hfr.1 hfr.2.1 hfr.2.2).mono ?_))⟩
              rintro e W2 ⟨rfl, hb⟩
              have r1 := q1.next hb hw0
              have r2 := q2.below hb q2.lt
              have r3 := q3.next hb
              have r4 : B ≤ W2.heap.size := Nat.le_trans q4 hb.size
              have hkp : Kept (fun _ => False) B Z W2 := (Kept.refl _ _ _).below hb
              replace y0 := (hb.cell (p := ⟨b2, 0, none⟩) lb2).trans y0
              replace y1 := (hb.cell (p := ⟨b2, 1, none⟩) lb2).trans y1
              replace lb2 : b2 < W2.heap.size := Nat.lt_of_lt_of_le lb2 hb.size
              clear q1 q2 q3 q4 hb x0 x1 lb1
              cases hmt : mtR F ⟨f1, f2⟩ with
              | false =>
                have HMT := Lib.hid hmt
                clear hmt
                gi_wp2_with fail
                refine ⟨hkp, ?_, r2, r3, r4⟩
                rw [HWF.out]
                unfold kinkF
                rw [HKF.out, HMT.out, if_neg Bool.false_ne_true]
                exact r1
              | true =>
                have HMT := Lib.hid hmt
                clear hmt
                gi_wp2_with fail
                refine ⟨trivial, CallsIn.inRound lq (callsIn_wide.2 ((fill_any (h + 1) 1 0 0 136 _ ⟨t1, t2⟩ _ r1.gx (by omega) rfl hto.1 hto.2.1 hto.2.2).mono ?_))⟩
                rintro e W4 ⟨rfl, hG, hgr⟩
                have s1 := r1.row hgr hG.one hw0 hgt
                have s2 := r2.grown hgr (by intro he; injection he with he; omega)
                have s3 := r3.grown hgr r1.gx
                have s4 : B ≤ W4.heap.size := Nat.le_trans r4 hgr.size
                have hkq : Kept (fun _ => False) B Z W4 := hkp.grown hgr (fun r e => .inl (by injection e with e; omega))
                clear r1 r2 r3 r4 hkp hG hgr y0 y1 lb2
                gi_wp2_with fail
                refine ⟨hkq, ?_, s2, s3, s4⟩
                rw [HWF.out]
                unfold kinkF
                rw [HKF.out, HKT.out, HMT.out, if_pos rfl]
                exact s1
    have hlt' : (k : Int) < (bars.length : Int) := by omega
    obtain ⟨A', cap', b3, off3, hve, hA, hc⟩ := RR.cells (RS.below HB.out hst.below)
    obtain ⟨rfl, hbb3⟩ := hA (by omega)
    injection hve with q1 q2 q3
    subst q1 q3
    obtain ⟨d0, d1⟩ := hc k hlt
    have hbk := HV.out.bok _ (nthB_mem hlt)
    have htk : (bars.take (k + 1)).foldl flR noR = flR ((bars.take k).foldl flR noR) (nthB bars k) := by
      rw [List.take_succ_eq_append_getElem hlt, List.foldl_append, nthB_eq hlt, List.foldl_cons, List.foldl_nil]
    have HTK := Lib.hid htk
    clear hA hc q2 htk
    obtain ⟨⟨lo, hi⟩, hbb⟩ : ∃ r, nthB bars k = r := ⟨_, rfl⟩
    rw [hbb] at d0 d1 hbk HTK
    dsimp only at d0 d1
    unfold OkR at hbk
    dsimp only at hbk
    clear hbb
    have hbb4 : b3 < wr.heap.size := by have := hst.below.size; omega
    have HST := Lib.hid hst
    clear hst
    go_upto_region 6 with fail
    have hb1 : Below wr.heap.size wr (wr.alloc (.cells #[.int .i64 lo, .int .i64 hi] 33)) := by exact bel_of
    have hst := HST.out.next hb1 hw0
    obtain ⟨g8, hg8⟩ : ∃ g, wr.heap.size = g := ⟨_, rfl⟩
    have b8 : BK (wr.alloc (.cells #[.int .i64 lo, .int .i64 hi] 33)) g8 #[.int .i64 lo, .int .i64 hi] 33 := BK.new' _ _ _ _ hg8
    clear HST hb1 d0 d1 hbb3 hbb4
    rw [hg8]
    clear hg8
    generalize (wr.alloc (.cells #[.int .i64 lo, .int .i64 hi] 33)) = W5 at *
    have l8 := b8.lt
    have f0 := b8.cell 0
    have f1 := b8.cell 1
    simp at f0 f1
    go_wp2_with fail
    clear l8 f0 f1 b8
    refine (fill_any (gt + 1 + 1) 1 0 0 136 _ ⟨lo, hi⟩ _ hst.nx (by omega) rfl hbk.2.1 hbk.2.2 (by show lo ≤ 1001; omega)).mono ?_
    rintro e w1 ⟨rfl, hG, hgr⟩
    have HST := Lib.hid (hst.row hgr hG.one hw0 hgt)
    clear hst hG hgr
    go_wp2_with fail
    go_roundw
    case rel => exact ⟨k + 1, by omega, by go_num, by rw [HTK.out]; exact HST.out⟩
    case measure => simp [intOf]; omega
end Go.Proofs.Ytkibdciomheekaa
