/- The row from an edge, or from none at all. The span of two edges. -/
import Derived.Test.YtkljdbgkhghiaaaP8
set_option linter.all false
set_option linter.unnecessarySimpa false
set_option linter.unusedSimpArgs false
set_option linter.unusedVariables false
set_option linter.unusedSectionVars false

namespace Go.Proofs.Ytkljdbgkhghiaaa
open Go.RowKit Kp

/-- So many places of a row are far. -/
def fl : Nat → List Int
  | 0 => List.replicate 17 0
  | i + 1 => (fl i).set i far
theorem fl_17 (v : Nat) : (fl 17).set v 0 = fromL v := rfl
theorem qOf_false (bel : List Int) : qOf bel false = noq := rfl
theorem lks_noq (E : Nat) (ts : List Kt) (top : Int) : lks E ts noq top = lks E ts noq 0 := rfl
theorem fromL_rng (v x : Nat) : 0 ≤ nthI (fromL v) x ∧ nthI (fromL v) x ≤ far := by
  by_cases hx : x < 17
  · unfold fromL
    by_cases hv : v < 17
    · rw [nthI_set (by simp; omega)]
      split
      · unfold far; omega
      · rw [nthI_rep hx]; unfold far; omega
    · rw [List.set_eq_of_length_le (by simp; omega), nthI_rep hx]; unfold far; omega
  · rw [nthI_out (by rw [fromL_len]; omega)]; unfold far; omega

set_option maxHeartbeats 4000000 in
set_option maxRecDepth 100000 in
theorem from_any (E : Nat) (vt : Value) (ts : List Kt) (bel : List Int) (top : Int) (gb v : Nat) (w : World) (ho : Okb E ts) (hl : ts.length ≤ 40) (ht : 0 ≤ top ∧ top < E) (hv : v ≤ E) (hB : Bn w gb E vt ts bel top false) :
    Calls Try.prog 63 #[.pointer (some ⟨gb, 0, none⟩), .int .i64 v] w fun e w' => ∃ gl gm n, e = .returned (.pointer (some ⟨gl, 0, none⟩)) ∧ Lk w' gl (fromS E ts v).most (.map (some gm)) E ∧
      MP w' gm n (fun x => ((fromS E ts v).by_ x).map (fun x : Kw => x.1)) ∧ Below w.heap.size w w' ∧ w.heap.size ≤ gl ∧ w.heap.size ≤ gm := by
  have hE := ho.few
  have hv17 : (v : Int) < 17 := by omega
  obtain ⟨gl, hgl⟩ : ∃ n, w.heap.size = n := ⟨_, rfl⟩
  have hgb := hB.lt
  rw [hgl] at hgb
  have hR : RT w gl vt ts := by rw [← hgl]; exact hB.2.1
  have HB := Lib.hid hB
  clear hB
  go_enter Try.func63, Try.ntmps63
  go_wp2_with fail
  have hC : Below gl w (w.alloc (.cells #[.int .i64 0, .int .i64 0, .int .i64 0, .int .i64 0, .int .i64 0, .int .i64 0, .int .i64 0, .int .i64 0, .int .i64 0, .int .i64 0, .int .i64 0, .int .i64 0, .int .i64 0, .int .i64 0, .int .i64 0, .int .i64 0, .int .i64 0, .map none, .int .i64 0] 101)) := by rw [← hgl]; exact bel_of
  have hL : Lk (w.alloc (.cells #[.int .i64 0, .int .i64 0, .int .i64 0, .int .i64 0, .int .i64 0, .int .i64 0, .int .i64 0, .int .i64 0, .int .i64 0, .int .i64 0, .int .i64 0, .int .i64 0, .int .i64 0, .int .i64 0, .int .i64 0, .int .i64 0, .int .i64 0, .map none, .int .i64 0] 101)) gl (fl 0) (.map none) 0 := ⟨BK.new' _ _ _ gl hgl, rfl⟩
  generalize w.alloc (.cells #[.int .i64 0, .int .i64 0, .int .i64 0, .int .i64 0, .int .i64 0, .int .i64 0, .int .i64 0, .int .i64 0, .int .i64 0, .int .i64 0, .int .i64 0, .int .i64 0, .int .i64 0, .int .i64 0, .int .i64 0, .int .i64 0, .int .i64 0, .map none, .int .i64 0] 101) = W1 at *
  go_loopw [9] (fun iv wr => ∃ i : Nat, i ≤ 17 ∧ iv = .int .i64 i ∧ Lk wr gl (fl i) (.map none) 0 ∧ Below gl w wr) (fun iv _ => 17 - (intOf iv).toNat)
  case atStart => exact ⟨0, by omega, rfl, hL, hC⟩
  case round =>
    obtain ⟨i, hi, rfl, hLi, hbr⟩ := hrel
    clear hL hC
    by_cases hlt : i < 17
    · have ci := hLi.at hlt
      have fi := hLi.frozen i
      have lgl := hLi.lt
      have hi17 : (i : Int) < 17 := by omega
      have hL2 := hLi.set hlt far
      have hb2 : Below gl w (wr.setCell ⟨gl, i, none⟩ (.int .i64 1099511627776)) := Below.setCell hbr (Nat.le_refl _) _
      have HL2 := Lib.hid hL2
      have HB2 := Lib.hid hb2
      clear hL2 hb2 hLi hbr
      go_wp2_with fail
      go_roundw
      case rel => exact ⟨i + 1, by omega, by go_num, HL2.out, HB2.out⟩
      case measure => simp [intOf]; omega
    · obtain rfl : i = 17 := by omega
      have ci := hLi.at (i := v) (by omega)
      have fi := hLi.frozen v
      have lgl := hLi.lt
      have hL2 := hLi.set (i := v) (by omega) 0
      rw [fl_17] at hL2
      have hb2 : Below gl w (wr.setCell ⟨gl, v, none⟩ (.int .i64 0)) := Below.setCell hbr (Nat.le_refl _) _
      clear hLi hbr
      go_wp2_with fail
      clear ci fi lgl
      generalize wr.setCell ⟨gl, v, none⟩ (.int .i64 0) = W2 at *
      have hB2 : Bn W2 gb E vt ts bel top false := ⟨(hb2.block gb hgb).trans HB.out.1, (RS.below hR hb2).more (Nat.le_of_lt hL2.lt), HB.out.2.2⟩
      have hR2 : RT W2 gl vt ts := RS.below hR hb2
      refine (relax_any E vt ts bel top false gb gl (fromL v) (.map none) 0 W2 ho hl ht hB2 hR2 hgb hL2 (fromL_rng v)).mono ?_
      rintro e W3 ⟨rfl, gm, nn, z', hL3, hM3, hb3, hgm⟩
      have hq : (relaxK E (lks E ts (qOf bel false) top) (E + 2) 0 (sk0 (fromL v))).2 = fromS E ts v := rfl
      rw [hq] at hL3 hM3
      have hbw : Below gl w W3 := hb2.trans hb3
      have hl2 := hL2.lt
      have hB3 : Bn W3 gb E vt ts bel top false := ⟨(hbw.block gb hgb).trans HB.out.1, (RS.below hR hbw).more (Nat.le_of_lt hL3.lt), HB.out.2.2⟩
      have c0 := hB3.cells.1
      have l0 := hB3.lt
      have c18 := hL3.size_
      have f18 := hL3.frozen 18
      have lgl := hL3.lt
      have hL4 := Lib.hid (hL3.setSize (E : Int))
      have hM4 := Lib.hid (hM3.kept (W' := W3.setCell ⟨gl, 18, none⟩ (.int .i64 E)) (Below.heap_setCell _ _ _ _ (by show gm ≠ gl; omega)))
      have hb4 := Lib.hid (Below.setCell (p := ⟨gl, 18, none⟩) hbw (Nat.le_refl _) (.int .i64 E))
      clear hB2 hR2 hL2 hb2 hL3 hM3 hb3 hbw hB3 hq
      go_wp2_with fail
      go_ret
      exact ⟨gl, gm, nn, rfl, hL4.out, hM4.out, by rw [hgl]; exact hb4.out, by omega, by omega⟩
end Go.Proofs.Ytkljdbgkhghiaaa

namespace Go.Proofs.Ytkljdbgkhghiaaa
open Go.RowKit Kp

section
variable {P : Program} {ops : Array Oper} {Q : Exit → Act → World → Prop} {md : Region.Mode} {S S' : World → Prop} {E : List Nat}
/-- What is kept for reads that are to come may be narrowed on the way. -/
theorem any_narrow (h : ∀ W, S' W → S W) : ∀ {fuel : Nat} {listed : Array Bool} {a : Act} {w : World}, wpAnyF P md ops Q S' E fuel listed a w → wpAnyF P md ops Q S E fuel listed a w
  | 0, _, _, _, q => q
  | fuel + 1, _, _, _, q => ⟨q.1, fun i hi => wpOp_mono (fun a' w' q' => ⟨fun hw => h _ (q'.1 hw), any_narrow h q'.2⟩) (q.2 i hi)⟩
end

def spanA (E : Nat) (ts : List Kt) (one two : Nat) : Value := .agg #[.int .i64 (-D E ts one two), .int .i64 (D E ts two one)]
set_option maxHeartbeats 4000000 in
set_option maxRecDepth 100000 in
theorem span_any (E : Nat) (vt : Value) (ts : List Kt) (bel : List Int) (top : Int) (gb one two : Nat) (w : World) (ho : Okb E ts) (ha : Agr E ts) (hl : ts.length ≤ 40) (ht : 0 ≤ top ∧ top < E) (h1 : one ≤ E) (h2 : two ≤ E) (hB : Bn w gb E vt ts bel top false) :
    Calls Try.prog 60 #[.pointer (some ⟨gb, 0, none⟩), .int .i64 one, .int .i64 two] w fun e w' => e = .returned (spanA E ts one two) ∧ Below w.heap.size w w' := by
  have hE := ho.few
  have v1 : (one : Int) < 17 := by omega
  have v2 : (two : Int) < 17 := by omega
  have q1 := from_eq ho ha h1 h2
  have q2 := from_eq ho ha h2 h1
  have q3 := D_rng ho ha h1 h2
  have hF1 := fun W (hb : Below w.heap.size w W) => from_any E vt ts bel top gb one W ho hl ht h1 ((hB.adm (B := 0) (Adm.below hb)))
  have hF2 := fun W (hb : Below w.heap.size w W) => from_any E vt ts bel top gb two W ho hl ht h2 ((hB.adm (B := 0) (Adm.below hb)))
  have HF1 := Lib.hid hF1
  have HF2 := Lib.hid hF2
  have ww : IntKind.i64.wrap (-D E ts one two) = -D E ts one two := by rw [IntKind.wrap_i64]; omega
  unfold spanA
  generalize fromS E ts one = s1 at *
  generalize fromS E ts two = s2 at *
  generalize D E ts one two = a at *
  generalize D E ts two one = b at *
  clear hF1 hF2 hB q3
  have hC : Below w.heap.size w w := Below.refl _ _
  go_enter Try.func60, Try.ntmps60
  go_upto_region 1 with fail
  obtain ⟨g6, hg6⟩ : ∃ n, w.heap.size = n := ⟨_, rfl⟩
  have hC2 : Below w.heap.size w (w.alloc (.cells #[.int .i64 0, .int .i64 0] 36)) := by exact bel_of
  have b6 : BK (w.alloc (.cells #[.int .i64 0, .int .i64 0] 36)) g6 #[.int .i64 0, .int .i64 0] 36 := BK.new' _ _ _ g6 hg6
  rw [hg6]
  rw [hg6] at HF1 HF2 hC2
  generalize w.alloc (.cells #[.int .i64 0, .int .i64 0] 36) = W0 at *
  clear hC
  have hz0 := b6.lt
  refine wp_region_noPanic (plain_any [0, 1, 3, 4, 5, 6, 7, 8, 9, 10, 12] (Below W0.heap.size W0) mixed ?_)
  (refine any_take 0 ?_ (by rfl) (by kernel_rfl) (fun _ _ _ _ _ hx => hx.elim) (.inl ⟨by rfl, ?_⟩) (by exact bel_of) ?_; rotate_left; (intro X hX; obtain ⟨r1, r2⟩ := Below.rules hX; clear hX; go_simp; rfl); simp only [List.getElem_toArray, List.getElem_cons_succ, List.getElem_cons_zero, Act.put, List.setIfInBounds_toArray, List.set_cons_succ, List.set_cons_zero])
  (refine any_take 1 ?_ (by rfl) (by kernel_rfl) (fun _ _ _ _ _ hx => hx.elim) (.inl ⟨by rfl, ?_⟩) (by exact bel_of) ?_; rotate_left; (intro X hX; obtain ⟨r1, r2⟩ := Below.rules hX; clear hX; go_simp; rfl); simp only [List.getElem_toArray, List.getElem_cons_succ, List.getElem_cons_zero, Act.put, List.setIfInBounds_toArray, List.set_cons_succ, List.set_cons_zero])
  (refine any_take 3 ?_ (by rfl) (by kernel_rfl) (fun _ _ _ _ _ hx => hx.elim) (.inl ⟨by rfl, ?_⟩) (by exact bel_of) ?_; rotate_left; (intro X hX; obtain ⟨r1, r2⟩ := Below.rules hX; clear hX; go_simp; rfl); simp only [List.getElem_toArray, List.getElem_cons_succ, List.getElem_cons_zero, Act.put, List.setIfInBounds_toArray, List.set_cons_succ, List.set_cons_zero])
  (refine any_take 9 ?_ (by rfl) (by kernel_rfl) (fun _ _ _ _ _ hx => hx.elim) (.inl ⟨by rfl, ?_⟩) (by exact bel_of) ?_; rotate_left; (intro X hX; obtain ⟨r1, r2⟩ := Below.rules hX; clear hX; go_simp; rfl); simp only [List.getElem_toArray, List.getElem_cons_succ, List.getElem_cons_zero, Act.put, List.setIfInBounds_toArray, List.set_cons_succ, List.set_cons_zero])
  (refine any_take 10 ?_ (by rfl) (by kernel_rfl) (fun _ _ _ _ _ hx => hx.elim) (.inl ⟨by rfl, ?_⟩) (by exact bel_of) ?_; rotate_left; (intro X hX; obtain ⟨r1, r2⟩ := Below.rules hX; clear hX; go_simp; rfl); simp only [List.getElem_toArray, List.getElem_cons_succ, List.getElem_cons_zero, Act.put, List.setIfInBounds_toArray, List.set_cons_succ, List.set_cons_zero])
  (refine any_take 12 ?_ (by rfl) (by kernel_rfl) (fun _ _ _ _ _ hx => hx.elim) (.inl ⟨by rfl, ?_⟩) (by exact bel_of) ?_; rotate_left; (intro X hX; obtain ⟨r1, r2⟩ := Below.rules hX; clear hX; go_simp; rfl); simp only [List.getElem_toArray, List.getElem_cons_succ, List.getElem_cons_zero, Act.put, List.setIfInBounds_toArray, List.set_cons_succ, List.set_cons_zero])
  have hd0 : Below W0.heap.size W0 W0.drew := Below.drew (Below.refl _ _)
  refine any_run1 (i := 2) (by kernel_rfl) (by rfl) (by kernel_rfl) ?_
  intro K3 hK3
  go_wp2_with fail
  refine (HF1.out _ (hC2.trans (hd0.mono (by omega)))).mono ?_
  rintro e W1 ⟨gl1, gm1, n1, rfl, hL1, hM1, hb1, hgl1, _⟩
  have hb01 : Below W0.heap.size W0 W1 := hd0.trans hb1
  refine hK3 _ _ (fun _ => hb01) ?_
  clear hK3 K3 hd0
  refine any_narrow (S' := fun W => Below W0.heap.size W0 W ∧ W.heap[gl1]? = W1.heap[gl1]?) (fun W h => h.1) ?_
  have hS : Below W0.heap.size W0 W1 ∧ W1.heap[gl1]? = W1.heap[gl1]? := ⟨hb01, rfl⟩
  have hLK : ∀ Z : World, Z.heap[gl1]? = W1.heap[gl1]? → Z.cell? ⟨gl1, two, none⟩ = some (.int .i64 a) := fun Z hZ => by
    have := (hL1.same hZ).at (i := two) (by omega)
    rw [q1] at this; exact this
  refine any_take 4 ?_ (by rfl) (by kernel_rfl) (fun _ _ _ _ _ hx => hx.elim) (.inl ⟨by rfl, ?_⟩) hS ?_; rotate_left; (intro Z hZ; obtain ⟨hZ1, hZ2⟩ := hZ; obtain ⟨r1, r2⟩ := Below.rules hZ1; have r3 := hLK Z hZ2; clear hZ1 hZ2; go_simp; rfl); simp only [List.getElem_toArray, List.getElem_cons_succ, List.getElem_cons_zero, Act.put, List.setIfInBounds_toArray, List.set_cons_succ, List.set_cons_zero]
  refine any_take 5 ?_ (by rfl) (by kernel_rfl) (fun _ _ _ _ _ hx => hx.elim) (.inl ⟨by rfl, ?_⟩) hS ?_; rotate_left; (intro Z hZ; obtain ⟨hZ1, hZ2⟩ := hZ; obtain ⟨r1, r2⟩ := Below.rules hZ1; have r3 := hLK Z hZ2; clear hZ1 hZ2; go_simp; rfl); simp only [List.getElem_toArray, List.getElem_cons_succ, List.getElem_cons_zero, Act.put, List.setIfInBounds_toArray, List.set_cons_succ, List.set_cons_zero]
  refine any_take 6 ?_ (by rfl) (by kernel_rfl) (fun _ _ _ _ _ hx => hx.elim) (.inl ⟨by rfl, ?_⟩) hS ?_; rotate_left; (intro Z hZ; obtain ⟨hZ1, hZ2⟩ := hZ; obtain ⟨r1, r2⟩ := Below.rules hZ1; have r3 := hLK Z hZ2; clear hZ1 hZ2; go_simp; rfl); simp only [List.getElem_toArray, List.getElem_cons_succ, List.getElem_cons_zero, Act.put, List.setIfInBounds_toArray, List.set_cons_succ, List.set_cons_zero]
  refine any_take 7 ?_ (by rfl) (by kernel_rfl) (fun _ _ _ _ _ hx => hx.elim) (.inl ⟨by rfl, ?_⟩) hS ?_; rotate_left; (intro Z hZ; obtain ⟨hZ1, hZ2⟩ := hZ; obtain ⟨r1, r2⟩ := Below.rules hZ1; have r3 := hLK Z hZ2; clear hZ1 hZ2; go_simp; rfl); simp only [List.getElem_toArray, List.getElem_cons_succ, List.getElem_cons_zero, Act.put, List.setIfInBounds_toArray, List.set_cons_succ, List.set_cons_zero]
  refine any_take 8 ?_ (by rfl) (by kernel_rfl) (fun _ _ _ _ _ hx => hx.elim) (.inl ⟨by rfl, ?_⟩) hS ?_; rotate_left; (intro Z hZ; obtain ⟨hZ1, hZ2⟩ := hZ; obtain ⟨r1, r2⟩ := Below.rules hZ1; have r3 := hLK Z hZ2; clear hZ1 hZ2; go_simp; rfl); simp only [List.getElem_toArray, List.getElem_cons_succ, List.getElem_cons_zero, Act.put, List.setIfInBounds_toArray, List.set_cons_succ, List.set_cons_zero]
  refine any_run1 (i := 11) (by kernel_rfl) (by rfl) (by kernel_rfl) ?_
  intro K3 hK3
  go_wp2_with fail
  refine (HF2.out _ (hC2.trans (hb01.mono (by have := b6.lt; omega)))).mono ?_
  rintro e W2 ⟨gl2, gm2, n2, rfl, hL2, hM2, hb2, hgl2, _⟩
  have hb02 : Below W0.heap.size W0 W2 := hb01.trans (hb2.mono hb01.size)
  have hS2 : Below W0.heap.size W0 W2 ∧ W2.heap[gl1]? = W1.heap[gl1]? := ⟨hb02, hb2.block gl1 hL1.lt⟩
  refine hK3 _ _ (fun _ => hS2) ?_
  clear hK3 K3 hS hLK hL1 hM1 hM2 hb1 hb2
  have c2 := hL2.at (i := one) (by omega)
  rw [q2] at c2
  have l2 := hL2.lt
  have b6' := b6.below hb02 b6.lt
  have l6 := b6'.lt
  have y0 := b6'.cell 0
  have y1 := b6'.cell 1
  have z0 := b6'.frozen 0
  have z1 := b6'.frozen 1
  simp at y0 y1
  refine any_run1 (i := 13) (by kernel_rfl) (by rfl) (by kernel_rfl) ?_
  intro K3 hK3
  go_wp2_with fail
  refine hK3 _ _ (fun _ => hS2) ?_
  clear hK3 K3
  refine any_run1 (i := 14) (by kernel_rfl) (by rfl) (by kernel_rfl) ?_
  intro K3 hK3
  go_wp2_with fail
  refine hK3 _ _ (fun _ => hS2) ?_
  clear hK3 K3
  refine any_run1 (i := 15) (by kernel_rfl) (by rfl) (by kernel_rfl) ?_
  intro K3 hK3
  go_wp2_with fail
  refine hK3 _ _ (fun _ => hS2) ?_
  clear hK3 K3
  refine any_run1 (i := 16) (by kernel_rfl) (by rfl) (by kernel_rfl) ?_
  intro K3 hK3
  go_wp2_with fail
  refine hK3 _ _ (fun _ => hS2) ?_
  clear hK3 K3
  refine any_run1 (i := 17) (by kernel_rfl) (by rfl) (by kernel_rfl) ?_
  intro K3 hK3
  go_wp2_with fail
  refine hK3 _ _ (fun _ => hS2) ?_
  clear hK3 K3
  refine any_run1 (i := 18) (by kernel_rfl) (by rfl) (by kernel_rfl) ?_
  intro K3 hK3
  go_wp2_with fail
  refine hK3 _ _ (fun hx => (Bool.false_ne_true (hx.symm.trans (by kernel_rfl))).elim) ?_
  clear hK3 K3
  refine any_done (by kernel_rfl) (NoPanic.normal ?_)
  have b7 := (b6'.set 0 (.int .i64 (-a))).set 1 (.int .i64 b)
  simp at b7
  have hb03 : Below g6 w ((W2.setCell ⟨g6, 0, none⟩ (.int .i64 (-a))).setCell ⟨g6, 1, none⟩ (.int .i64 b)) := Below.setCell (Below.setCell (hC2.trans (hb02.mono (by omega))) (Nat.le_refl _) _) (Nat.le_refl _) _
  generalize (W2.setCell ⟨g6, 0, none⟩ (.int .i64 (-a))).setCell ⟨g6, 1, none⟩ (.int .i64 b) = W3 at *
  have y0 := b7.cell 0
  have y1 := b7.cell 1
  simp at y0 y1
  go_wp2_with fail
  exact bodyPost_ret (v := .agg #[.int .i64 (-a), .int .i64 b]) (by simp [results, Try.results60, go_sem, y0, y1]) rfl ⟨rfl, by rw [hg6]; exact hb03⟩
end Go.Proofs.Ytkljdbgkhghiaaa
