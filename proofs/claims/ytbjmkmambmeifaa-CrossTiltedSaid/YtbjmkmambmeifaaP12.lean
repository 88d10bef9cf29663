/- the reference's Ground. the reference's Can. the reference's Sure. the reference's Kinds. Plain laws: what the program computes is what the reference does. -/
import Derived.Test.YtbjmkmambmeifaaP8
import Derived.Test.YtbjmkmambmeifaaP2
import Derived.Test.YtbjmkmambmeifaaP10
import Derived.Test.YtbjmkmambmeifaaP11
set_option linter.all false
set_option linter.unnecessarySimpa false
set_option linter.unusedSimpArgs false
set_option linter.unusedVariables false
set_option linter.unusedSectionVars false

namespace Go.Proofs.Ytbjmkmambmeifaa
open Go.RowKit

def groundRV (l : List St) (s : Int) : Value := if checkStation l s ≠ 0 then errV (checkStation l s) else
  .tuple #[.agg #[.int .i64 (aboveR l (ends l true) s.toNat (nthS l s.toNat).lo).num, .int .i64 (aboveR l (ends l true) s.toNat (nthS l s.toNat).lo).den, .int .i64 (aboveR l (ends l false) s.toNat (nthS l s.toNat).hi).num, .int .i64 (aboveR l (ends l false) s.toNat (nthS l s.toNat).hi).den], .int .i64 0]

set_option maxRecDepth 100000 in
set_option maxHeartbeats 4000000 in
theorem refGround_any (l : List St) (s : Int) (vl : Value) (w : World) (hl : l.length ≤ 1000) (h : RSt w w.heap.size vl l) :
    Calls Try.prog 29 #[vl, .int .i64 s] w fun e w' => e = .returned (groundRV l s) ∧ Below w.heap.size w w' := by
  have hcall := fun w1 (hb : Below w.heap.size w w1) => isStation_any l s vl w1 hl ((h.below hb).more hb.size)
  by_cases hp : checkStation l s = 0
  · rw [hp] at hcall
    obtain ⟨hv, k, rfl, hk⟩ := checkStation_zero l s hp
    obtain ⟨hn0, hn1⟩ := checkPair_len l hv
    have hen := fun w1 b (hb : Below w.heap.size w w1) => refEnds_any l b vl w1 hl ((h.below hb).more hb.size)
    have hv1 := fun W vh (hb : Below w.heap.size w W) (hr : RI W W.heap.size vh (ends l true)) => refAbove_any l (ends l true) k (nthS l k).lo vl vh W hn1 hk ((h.below hb).more hb.size) hr (ends_length _ _) (valid_lt l hv) (valid_a l hv) (ends_rng l _ hv) (by have := valid_at l hv k hk; omega)
    have hv2 := fun W vh (hb : Below w.heap.size w W) (hr : RI W W.heap.size vh (ends l false)) => refAbove_any l (ends l false) k (nthS l k).hi vl vh W hn1 hk ((h.below hb).more hb.size) hr (ends_length _ _) (valid_lt l hv) (valid_a l hv) (ends_rng l _ hv) (by have := valid_at l hv k hk; omega)
    have hV : groundRV l k = .tuple #[.agg #[.int .i64 (aboveR l (ends l true) k (nthS l k).lo).num, .int .i64 (aboveR l (ends l true) k (nthS l k).lo).den, .int .i64 (aboveR l (ends l false) k (nthS l k).hi).num, .int .i64 (aboveR l (ends l false) k (nthS l k).hi).den], .int .i64 0] := by
      unfold groundRV
      rw [if_neg (by simpa using hp), Int.toNat_natCast]
    obtain ⟨F, hF⟩ : ∃ F, aboveR l (ends l true) k (nthS l k).lo = F := ⟨_, rfl⟩
    obtain ⟨G, hG⟩ : ∃ G, aboveR l (ends l false) k (nthS l k).hi = G := ⟨_, rfl⟩
    rw [hF] at hv1 hV
    rw [hG] at hv2 hV
    obtain ⟨A, cap, b, off, rfl, hA, hc⟩ := h.cells
    obtain ⟨rfl, hb⟩ := hA (by omega)
    obtain ⟨_, c1, c2⟩ := hc k hk
    have HV := Lib.hid hV; have HP := Lib.hid hcall; have HEN := Lib.hid hen; have H1 := Lib.hid hv1; have H2 := Lib.hid hv2
    clear hV hcall hen hv1 hv2 hp hv hF hG h hA hc
    go_enter Try.func29, Try.ntmps29
    go_wp2_with fail
    refine (HP.out _ (by exact bel_of)).mono ?_
    rintro e w1 ⟨rfl, hb1⟩
    have hB1 : Below w.heap.size w w1 := (Below.trans (a := w) (B := w.heap.size) (by exact bel_of) (hb1.mono (by first | omega | (simp; omega) | (simp; done))))
    have b1 : BK w1 w.heap.size #[.int .i64 0, .int .i64 0, .int .i64 0, .int .i64 0] 34 := BK.below (BK.new _ _ _) hb1 (by simp)
    have hlt1 := b1.lt
    rw [← hB1.cell (by exact hb)] at c1 c2
    have hbl : b < w1.heap.size := by omega
    clear hb1
    go_wp2_with fail
    have p3 : BK (w1.alloc (.cells #[.int .i64 (nthS l k).lo, .int .i64 (nthS l k).hi] 60)) w1.heap.size #[.int .i64 (nthS l k).lo, .int .i64 (nthS l k).hi] 60 := BK.new _ _ _
    have b3 := b1.alloc (.cells #[.int .i64 (nthS l k).lo, .int .i64 (nthS l k).hi] 60)
    have hB3 : Below w.heap.size w (w1.alloc (.cells #[.int .i64 (nthS l k).lo, .int .i64 (nthS l k).hi] 60)) := by exact bel_of
    generalize w1.alloc (.cells #[.int .i64 (nthS l k).lo, .int .i64 (nthS l k).hi] 60) = W at p3 b3 hB3 ⊢
    obtain ⟨gp, hgp⟩ : ∃ gp, w1.heap.size = gp := ⟨_, rfl⟩
    rw [hgp] at p3 ⊢
    clear hgp
    have hlt3 := b3.lt
    have lp3 := p3.lt
    have m0 := p3.cell 0
    have m1 := p3.cell 1
    simp at m0 m1
    refine wp_region_noPanic (plain_any [0, 1, 3, 4, 5, 7, 8, 10, 11, 12] (Below W.heap.size W) mixed ?_)
    (refine any_take 0 ?_ (by rfl) (by kernel_rfl) (fun _ _ _ _ _ hx => hx.elim) (.inl ⟨by rfl, ?_⟩) (by exact bel_of) ?_; rotate_left; (intro X hX; obtain ⟨r1, r2⟩ := Below.rules hX; clear hX; go_simp; rfl); simp only [Act.put, List.setIfInBounds_toArray, List.set_cons_succ, List.set_cons_zero])
    (refine any_take 1 ?_ (by rfl) (by kernel_rfl) (fun _ _ _ _ _ hx => hx.elim) (.inl ⟨by rfl, ?_⟩) (by exact bel_of) ?_; rotate_left; (intro X hX; obtain ⟨r1, r2⟩ := Below.rules hX; clear hX; go_simp; rfl); simp only [Act.put, List.setIfInBounds_toArray, List.set_cons_succ, List.set_cons_zero])
    (refine any_take 3 ?_ (by rfl) (by kernel_rfl) (fun _ _ _ _ _ hx => hx.elim) (.inl ⟨by rfl, ?_⟩) (by exact bel_of) ?_; rotate_left; (intro X hX; obtain ⟨r1, r2⟩ := Below.rules hX; clear hX; go_simp; rfl); simp only [Act.put, List.setIfInBounds_toArray, List.set_cons_succ, List.set_cons_zero])
    (refine any_take 4 ?_ (by rfl) (by kernel_rfl) (fun _ _ _ _ _ hx => hx.elim) (.inl ⟨by rfl, ?_⟩) (by exact bel_of) ?_; rotate_left; (intro X hX; obtain ⟨r1, r2⟩ := Below.rules hX; clear hX; go_simp; rfl); simp only [Act.put, List.setIfInBounds_toArray, List.set_cons_succ, List.set_cons_zero])
    (refine any_take 5 ?_ (by rfl) (by kernel_rfl) (fun _ _ _ _ _ hx => hx.elim) (.inl ⟨by rfl, ?_⟩) (by exact bel_of) ?_; rotate_left; (intro X hX; obtain ⟨r1, r2⟩ := Below.rules hX; clear hX; go_simp; rfl); simp only [Act.put, List.setIfInBounds_toArray, List.set_cons_succ, List.set_cons_zero])
    (refine any_take 7 ?_ (by rfl) (by kernel_rfl) (fun _ _ _ _ _ hx => hx.elim) (.inl ⟨by rfl, ?_⟩) (by exact bel_of) ?_; rotate_left; (intro X hX; obtain ⟨r1, r2⟩ := Below.rules hX; clear hX; go_simp; rfl); simp only [Act.put, List.setIfInBounds_toArray, List.set_cons_succ, List.set_cons_zero])
    (refine any_take 8 ?_ (by rfl) (by kernel_rfl) (fun _ _ _ _ _ hx => hx.elim) (.inl ⟨by rfl, ?_⟩) (by exact bel_of) ?_; rotate_left; (intro X hX; obtain ⟨r1, r2⟩ := Below.rules hX; clear hX; go_simp; rfl); simp only [Act.put, List.setIfInBounds_toArray, List.set_cons_succ, List.set_cons_zero])
    (refine any_take 10 ?_ (by rfl) (by kernel_rfl) (fun _ _ _ _ _ hx => hx.elim) (.inl ⟨by rfl, ?_⟩) (by exact bel_of) ?_; rotate_left; (intro X hX; obtain ⟨r1, r2⟩ := Below.rules hX; clear hX; go_simp; rfl); simp only [Act.put, List.setIfInBounds_toArray, List.set_cons_succ, List.set_cons_zero])
    (refine any_take 11 ?_ (by rfl) (by kernel_rfl) (fun _ _ _ _ _ hx => hx.elim) (.inl ⟨by rfl, ?_⟩) (by exact bel_of) ?_; rotate_left; (intro X hX; obtain ⟨r1, r2⟩ := Below.rules hX; clear hX; go_simp; rfl); simp only [Act.put, List.setIfInBounds_toArray, List.set_cons_succ, List.set_cons_zero])
    (refine any_take 12 ?_ (by rfl) (by kernel_rfl) (fun _ _ _ _ _ hx => hx.elim) (.inl ⟨by rfl, ?_⟩) (by exact bel_of) ?_; rotate_left; (intro X hX; obtain ⟨r1, r2⟩ := Below.rules hX; clear hX; go_simp; rfl); simp only [Act.put, List.setIfInBounds_toArray, List.set_cons_succ, List.set_cons_zero])
    refine any_run1 (i := 2) (by kernel_rfl) (by rfl) (by rfl) ?_
    intro K hK
    go_wp2_with fail
    refine (HEN.out _ _ (by exact bel_of)).mono ?_
    rintro e w2 ⟨vh, rfl, hE, hb2⟩
    have hb2' : Below W.heap.size W w2 := Below.trans (b := W.drew) (by exact bel_of) hb2
    refine hK _ _ (fun _ => hb2') ?_
    clear hK K
    have hB2 : Below w.heap.size w w2 := hB3.trans (hb2'.mono hB3.size)
    refine any_run1 (i := 6) (by kernel_rfl) (by rfl) (by rfl) ?_
    intro K hK
    go_wp2_with fail
    refine (H1.out _ _ hB2 hE).mono ?_
    rintro e w3 ⟨rfl, hb3⟩
    have hb3' : Below W.heap.size W w3 := hb2'.trans (hb3.mono hb2'.size)
    refine hK _ _ (fun _ => hb3') ?_
    clear hK K
    have hB3' : Below w.heap.size w w3 := hB3.trans (hb3'.mono hB3.size)
    refine any_run1 (i := 9) (by kernel_rfl) (by rfl) (by rfl) ?_
    intro K hK
    go_wp2_with fail
    refine (HEN.out _ _ hB3').mono ?_
    rintro e w4 ⟨vh2, rfl, hE2, hb4⟩
    have hb4' : Below W.heap.size W w4 := hb3'.trans (hb4.mono hb3'.size)
    refine hK _ _ (fun _ => hb4') ?_
    clear hK K
    have hB4 : Below w.heap.size w w4 := hB3.trans (hb4'.mono hB3.size)
    refine any_run1 (i := 13) (by kernel_rfl) (by rfl) (by rfl) ?_
    intro K hK
    go_wp2_with fail
    refine (H2.out _ _ hB4 hE2).mono ?_
    rintro e w5 ⟨rfl, hb5⟩
    have hb5' : Below W.heap.size W w5 := hb4'.trans (hb5.mono hb4'.size)
    refine hK _ _ (fun _ => hb5') ?_
    clear hK K
    have hB5 : Below w.heap.size w w5 := hB3.trans (hb5'.mono hB3.size)
    have b4 := b3.below hb5' hlt3
    clear hb2 hb3 hb4 hb5 hb2' hb3' hb4' hb5' hE hE2 b3 p3 m0 m1
    have y0 := b4.cell 0
    have y1 := b4.cell 1
    have y2 := b4.cell 2
    have y3 := b4.cell 3
    have f0 := b4.frozen 0
    have f1 := b4.frozen 1
    have f2 := b4.frozen 2
    have f3 := b4.frozen 3
    simp at y0 y1 y2 y3
    refine any_run1 (i := 14) (by kernel_rfl) (by rfl) (by rfl) ?_
    intro K hK
    go_wp2_with fail
    refine hK _ _ (fun hx => (Bool.false_ne_true (hx.symm.trans (by kernel_rfl))).elim) ?_
    clear hK K
    refine any_run1 (i := 15) (by kernel_rfl) (by rfl) (by rfl) ?_
    intro K hK
    go_wp2_with fail
    refine hK _ _ (fun hx => (Bool.false_ne_true (hx.symm.trans (by kernel_rfl))).elim) ?_
    clear hK K
    refine any_run1 (i := 16) (by kernel_rfl) (by rfl) (by rfl) ?_
    intro K hK
    go_wp2_with fail
    refine hK _ _ (fun hx => (Bool.false_ne_true (hx.symm.trans (by kernel_rfl))).elim) ?_
    clear hK K
    refine any_done (by kernel_rfl) (NoPanic.normal ?_)
    go_wp2_with fail
    have b5 := ((((b4.set 0 (.int .i64 F.num)).set 1 (.int .i64 F.den)).set 2 (.int .i64 G.num)).set 3 (.int .i64 G.den))
    simp at b5
    refine ret_bk (w := w) (n := w.heap.size) b5 (by exact bel_of) (v := .tuple #[.agg #[.int .i64 F.num, .int .i64 F.den, .int .i64 G.num, .int .i64 G.den], .int .i64 0]) ?_ ?_
    · intro W' hb'
      have z0 := hb'.cell 0
      have z1 := hb'.cell 1
      have z2 := hb'.cell 2
      have z3 := hb'.cell 3
      simp at z0 z1 z2 z3
      simp [results, Try.results29, go_sem, z0, z1, z2, z3]
    exact ⟨by rw [HV.out], by exact bel_of⟩
  · obtain ⟨e0, he0⟩ : ∃ e0, checkStation l s = e0 := ⟨_, rfl⟩
    have hV : groundRV l s = errV (checkStation l s) := by unfold groundRV; rw [if_pos hp]
    rw [he0] at hcall hp hV
    have hpb : (e0 != 0) = true := by simpa using hp
    have HV := Lib.hid hV; have HP := Lib.hid hcall
    clear hV hcall he0 hp h
    go_enter Try.func29, Try.ntmps29
    go_wp2_with fail
    refine (HP.out _ (by exact bel_of)).mono ?_
    rintro e w1 ⟨rfl, hb1⟩
    have hB1 : Below w.heap.size w w1 := (Below.trans (a := w) (B := w.heap.size) (by exact bel_of) (hb1.mono (by first | omega | (simp; omega) | (simp; done))))
    have b1 : BK w1 w.heap.size #[.int .i64 0, .int .i64 0, .int .i64 0, .int .i64 0] 34 := BK.below (BK.new _ _ _) hb1 (by simp)
    have hlt1 := b1.lt
    clear hb1
    go_wp2_with fail
    refine (HP.out _ hB1).mono ?_
    rintro e w2 ⟨rfl, hb2⟩
    have hB2 : Below w.heap.size w w2 := hB1.trans (hb2.mono hB1.size)
    have b2 := b1.below hb2 hlt1
    have hlt2 := b2.lt
    clear hb2 b1
    have y0 := b2.cell 0
    have y1 := b2.cell 1
    have y2 := b2.cell 2
    have y3 := b2.cell 3
    have f0 := b2.frozen 0
    have f1 := b2.frozen 1
    have f2 := b2.frozen 2
    have f3 := b2.frozen 3
    simp at y0 y1 y2 y3
    go_wp2_with fail
    have b5 := ((((b2.set 0 (.int .i64 0)).set 1 (.int .i64 0)).set 2 (.int .i64 0)).set 3 (.int .i64 0))
    simp at b5
    refine ret_bk (w := w) (n := w.heap.size) b5 (by exact bel_of) (v := .tuple #[.agg #[.int .i64 0, .int .i64 0, .int .i64 0, .int .i64 0], .int .i64 e0]) ?_ ?_
    · intro W' hb'
      have z0 := hb'.cell 0
      have z1 := hb'.cell 1
      have z2 := hb'.cell 2
      have z3 := hb'.cell 3
      simp at z0 z1 z2 z3
      simp [results, Try.results29, go_sem, z0, z1, z2, z3]
    exact ⟨by rw [HV.out]; rfl, by exact bel_of⟩
end Go.Proofs.Ytbjmkmambmeifaa

namespace Go.Proofs.Ytbjmkmambmeifaa
open Go.RowKit

set_option maxRecDepth 100000 in
set_option maxHeartbeats 4000000 in
theorem refCan_any (l : List St) (s : Int) (vl : Value) (w : World) (hl : l.length ≤ 1000) (h : RSt w w.heap.size vl l) :
    Calls Try.prog 25 #[vl, .int .i64 s] w fun e w' => e = .returned (canV l s) ∧ Below w.heap.size w w' := by
  have hcall := fun w1 (hb : Below w.heap.size w w1) => isStation_any l s vl w1 hl ((h.below hb).more hb.size)
  by_cases hp : checkStation l s = 0
  · rw [hp] at hcall
    obtain ⟨hv, k, rfl, hk⟩ := checkStation_zero l s hp
    obtain ⟨hn0, hn1⟩ := checkPair_len l hv
    have hen := fun w1 (hb : Below w.heap.size w w1) => refEnds_any l true vl w1 hl ((h.below hb).more hb.size)
    have hsp := fun W vh (hb : Below w.heap.size w W) (hr : RI W W.heap.size vh (ends l true)) => refSpan_any l (ends l true) k (nthS l k).lo vl vh W hn1 hk ((h.below hb).more hb.size) hr (ends_length _ _) (valid_lt l hv) (valid_a l hv) (ends_rng l _ hv) (by have := valid_at l hv k hk; omega)
    have hV : canV l k = spanV l (ends l true) k (nthS l k).lo := by
      unfold canV
      rw [if_neg (by simpa using hp), Int.toNat_natCast]
    obtain ⟨a1, a2, a3, a4, a5, hsv⟩ := spanV_form l (ends l true) k (nthS l k).lo
    rw [hsv] at hsp hV
    obtain ⟨A, cap, b, off, rfl, hA, hc⟩ := h.cells
    obtain ⟨rfl, hb⟩ := hA (by omega)
    obtain ⟨_, c1, c2⟩ := hc k hk
    have HV := Lib.hid hV; have HP := Lib.hid hcall; have HEN := Lib.hid hen; have HSP := Lib.hid hsp
    clear hV hcall hen hsp hp hv hsv h hA hc
    go_enter Try.func25, Try.ntmps25
    go_wp2_with fail
    refine (HP.out _ (by exact bel_of)).mono ?_
    rintro e w1 ⟨rfl, hb1⟩
    have hB1 : Below w.heap.size w w1 := (Below.trans (a := w) (B := w.heap.size) (by exact bel_of) (hb1.mono (by first | omega | (simp; omega) | (simp; done))))
    have b1 : BK w1 w.heap.size #[.int .i64 0, .int .i64 0, .int .i64 0, .int .i64 0] 34 := BK.below (BK.new _ _ _) hb1 (by simp)
    have hlt1 := b1.lt
    rw [← hB1.cell (by exact hb)] at c1 c2
    have hbl : b < w1.heap.size := by omega
    clear hb1
    go_wp2_with fail
    refine wp_region_noPanic (plain_any [0, 1, 3, 4, 5, 6, 7, 8, 9, 11, 12] (Below w1.heap.size w1) mixed ?_)
    (refine any_take 0 ?_ (by rfl) (by kernel_rfl) (fun _ _ _ _ _ hx => hx.elim) (.inl ⟨by rfl, ?_⟩) (by exact bel_of) ?_; rotate_left; (intro X hX; obtain ⟨r1, r2⟩ := Below.rules hX; clear hX; go_simp; rfl); simp only [Act.put, List.setIfInBounds_toArray, List.set_cons_succ, List.set_cons_zero])
    (refine any_take 1 ?_ (by rfl) (by kernel_rfl) (fun _ _ _ _ _ hx => hx.elim) (.inl ⟨by rfl, ?_⟩) (by exact bel_of) ?_; rotate_left; (intro X hX; obtain ⟨r1, r2⟩ := Below.rules hX; clear hX; go_simp; rfl); simp only [Act.put, List.setIfInBounds_toArray, List.set_cons_succ, List.set_cons_zero])
    (refine any_take 3 ?_ (by rfl) (by kernel_rfl) (fun _ _ _ _ _ hx => hx.elim) (.inl ⟨by rfl, ?_⟩) (by exact bel_of) ?_; rotate_left; (intro X hX; obtain ⟨r1, r2⟩ := Below.rules hX; clear hX; go_simp; rfl); simp only [Act.put, List.setIfInBounds_toArray, List.set_cons_succ, List.set_cons_zero])
    (refine any_take 4 ?_ (by rfl) (by kernel_rfl) (fun _ _ _ _ _ hx => hx.elim) (.inl ⟨by rfl, ?_⟩) (by exact bel_of) ?_; rotate_left; (intro X hX; obtain ⟨r1, r2⟩ := Below.rules hX; clear hX; go_simp; rfl); simp only [Act.put, List.setIfInBounds_toArray, List.set_cons_succ, List.set_cons_zero])
    (refine any_take 5 ?_ (by rfl) (by kernel_rfl) (fun _ _ _ _ _ hx => hx.elim) (.inl ⟨by rfl, ?_⟩) (by exact bel_of) ?_; rotate_left; (intro X hX; obtain ⟨r1, r2⟩ := Below.rules hX; clear hX; go_simp; rfl); simp only [Act.put, List.setIfInBounds_toArray, List.set_cons_succ, List.set_cons_zero])
    (refine any_take 6 ?_ (by rfl) (by kernel_rfl) (fun _ _ _ _ _ hx => hx.elim) (.inl ⟨by rfl, ?_⟩) (by exact bel_of) ?_; rotate_left; (intro X hX; obtain ⟨r1, r2⟩ := Below.rules hX; clear hX; go_simp; rfl); simp only [Act.put, List.setIfInBounds_toArray, List.set_cons_succ, List.set_cons_zero])
    (refine any_take 7 ?_ (by rfl) (by kernel_rfl) (fun _ _ _ _ _ hx => hx.elim) (.inl ⟨by rfl, ?_⟩) (by exact bel_of) ?_; rotate_left; (intro X hX; obtain ⟨r1, r2⟩ := Below.rules hX; clear hX; go_simp; rfl); simp only [Act.put, List.setIfInBounds_toArray, List.set_cons_succ, List.set_cons_zero])
    (refine any_take 8 ?_ (by rfl) (by kernel_rfl) (fun _ _ _ _ _ hx => hx.elim) (.inl ⟨by rfl, ?_⟩) (by exact bel_of) ?_; rotate_left; (intro X hX; obtain ⟨r1, r2⟩ := Below.rules hX; clear hX; go_simp; rfl); simp only [Act.put, List.setIfInBounds_toArray, List.set_cons_succ, List.set_cons_zero])
    (refine any_take 9 ?_ (by rfl) (by kernel_rfl) (fun _ _ _ _ _ hx => hx.elim) (.inl ⟨by rfl, ?_⟩) (by exact bel_of) ?_; rotate_left; (intro X hX; obtain ⟨r1, r2⟩ := Below.rules hX; clear hX; go_simp; rfl); simp only [Act.put, List.setIfInBounds_toArray, List.set_cons_succ, List.set_cons_zero])
    refine any_run1 (i := 2) (by kernel_rfl) (by rfl) (by rfl) ?_
    intro K hK
    go_wp2_with fail
    refine (HEN.out _ (by exact bel_of)).mono ?_
    rintro e w2 ⟨vh, rfl, hE, hb2⟩
    have hb2' : Below w1.heap.size w1 w2 := Below.trans (b := w1.drew) (by exact bel_of) hb2
    refine hK _ _ (fun _ => hb2') ?_
    clear hK K
    have hB2 : Below w.heap.size w w2 := hB1.trans (hb2'.mono hB1.size)
    have b2 := b1.below hb2' hlt1
    have hlt2 := b2.lt
    refine any_run1 (i := 10) (by kernel_rfl) (by rfl) (by rfl) ?_
    intro K hK
    go_wp2_with fail
    refine (HSP.out _ _ hB2 hE).mono ?_
    rintro e w3 ⟨rfl, hb3⟩
    have hb3' : Below w1.heap.size w1 w3 := hb2'.trans (hb3.mono hb2'.size)
    refine hK _ _ (fun _ => hb3') ?_
    clear hK K
    have hB3 : Below w.heap.size w w3 := hB1.trans (hb3'.mono hB1.size)
    have b3 := b2.below hb3 hlt2
    clear hb2 hb3 hE b1 b2 hb2'
    (refine any_take 11 ?_ (by rfl) (by kernel_rfl) (fun _ _ _ _ _ hx => hx.elim) (.inl ⟨by rfl, ?_⟩) (by exact bel_of) ?_; rotate_left; (intro X hX; obtain ⟨r1, r2⟩ := Below.rules hX; clear hX; go_simp; rfl); simp only [Act.put, List.setIfInBounds_toArray, List.set_cons_succ, List.set_cons_zero])
    (refine any_take 12 ?_ (by rfl) (by kernel_rfl) (fun _ _ _ _ _ hx => hx.elim) (.inl ⟨by rfl, ?_⟩) (by exact bel_of) ?_; rotate_left; (intro X hX; obtain ⟨r1, r2⟩ := Below.rules hX; clear hX; go_simp; rfl); simp only [Act.put, List.setIfInBounds_toArray, List.set_cons_succ, List.set_cons_zero])
    have y0 := b3.cell 0
    have y1 := b3.cell 1
    have y2 := b3.cell 2
    have y3 := b3.cell 3
    have f0 := b3.frozen 0
    have f1 := b3.frozen 1
    have f2 := b3.frozen 2
    have f3 := b3.frozen 3
    simp at y0 y1 y2 y3
    refine any_run1 (i := 13) (by kernel_rfl) (by rfl) (by rfl) ?_
    intro K hK
    go_wp2_with fail
    refine hK _ _ (fun hx => (Bool.false_ne_true (hx.symm.trans (by kernel_rfl))).elim) ?_
    clear hK K
    refine any_run1 (i := 14) (by kernel_rfl) (by rfl) (by rfl) ?_
    intro K hK
    go_wp2_with fail
    refine hK _ _ (fun hx => (Bool.false_ne_true (hx.symm.trans (by kernel_rfl))).elim) ?_
    clear hK K
    refine any_done (by kernel_rfl) (NoPanic.normal ?_)
    go_wp2_with fail
    have b5 := ((((b3.set 0 (.int .i64 a1)).set 1 (.int .i64 a2)).set 2 (.int .i64 a3)).set 3 (.int .i64 a4))
    simp at b5
    refine ret_bk (w := w) (n := w.heap.size) b5 (by exact bel_of) (v := .tuple #[.agg #[.int .i64 a1, .int .i64 a2, .int .i64 a3, .int .i64 a4], .int .i64 a5]) ?_ ?_
    · intro W' hb'
      have z0 := hb'.cell 0
      have z1 := hb'.cell 1
      have z2 := hb'.cell 2
      have z3 := hb'.cell 3
      simp at z0 z1 z2 z3
      simp [results, Try.results25, go_sem, z0, z1, z2, z3]
    exact ⟨by rw [HV.out], by exact bel_of⟩
  · obtain ⟨e0, he0⟩ : ∃ e0, checkStation l s = e0 := ⟨_, rfl⟩
    have hV : canV l s = errV (checkStation l s) := by unfold canV; rw [if_pos hp]
    rw [he0] at hcall hp hV
    have hpb : (e0 != 0) = true := by simpa using hp
    have HV := Lib.hid hV; have HP := Lib.hid hcall
    clear hV hcall he0 hp h
    go_enter Try.func25, Try.ntmps25
    go_wp2_with fail
    refine (HP.out _ (by exact bel_of)).mono ?_
    rintro e w1 ⟨rfl, hb1⟩
    have hB1 : Below w.heap.size w w1 := (Below.trans (a := w) (B := w.heap.size) (by exact bel_of) (hb1.mono (by first | omega | (simp; omega) | (simp; done))))
    have b1 : BK w1 w.heap.size #[.int .i64 0, .int .i64 0, .int .i64 0, .int .i64 0] 34 := BK.below (BK.new _ _ _) hb1 (by simp)
    have hlt1 := b1.lt
    clear hb1
    go_wp2_with fail
    refine (HP.out _ hB1).mono ?_
    rintro e w2 ⟨rfl, hb2⟩
    have hB2 : Below w.heap.size w w2 := hB1.trans (hb2.mono hB1.size)
    have b2 := b1.below hb2 hlt1
    have hlt2 := b2.lt
    clear hb2 b1
    have y0 := b2.cell 0
    have y1 := b2.cell 1
    have y2 := b2.cell 2
    have y3 := b2.cell 3
    have f0 := b2.frozen 0
    have f1 := b2.frozen 1
    have f2 := b2.frozen 2
    have f3 := b2.frozen 3
    simp at y0 y1 y2 y3
    go_wp2_with fail
    have b5 := ((((b2.set 0 (.int .i64 0)).set 1 (.int .i64 0)).set 2 (.int .i64 0)).set 3 (.int .i64 0))
    simp at b5
    refine ret_bk (w := w) (n := w.heap.size) b5 (by exact bel_of) (v := .tuple #[.agg #[.int .i64 0, .int .i64 0, .int .i64 0, .int .i64 0], .int .i64 e0]) ?_ ?_
    · intro W' hb'
      have z0 := hb'.cell 0
      have z1 := hb'.cell 1
      have z2 := hb'.cell 2
      have z3 := hb'.cell 3
      simp at z0 z1 z2 z3
      simp [results, Try.results25, go_sem, z0, z1, z2, z3]
    exact ⟨by rw [HV.out]; rfl, by exact bel_of⟩
end Go.Proofs.Ytbjmkmambmeifaa

namespace Go.Proofs.Ytbjmkmambmeifaa
open Go.RowKit

set_option maxRecDepth 100000 in
set_option maxHeartbeats 4000000 in
theorem refSure_any (l : List St) (s : Int) (vl : Value) (w : World) (hl : l.length ≤ 1000) (h : RSt w w.heap.size vl l) :
    Calls Try.prog 27 #[vl, .int .i64 s] w fun e w' => e = .returned (sureV l s) ∧ Below w.heap.size w w' := by
  have hcall := fun w1 (hb : Below w.heap.size w w1) => isStation_any l s vl w1 hl ((h.below hb).more hb.size)
  by_cases hp : checkStation l s = 0
  · rw [hp] at hcall
    obtain ⟨hv, k, rfl, hk⟩ := checkStation_zero l s hp
    obtain ⟨hn0, hn1⟩ := checkPair_len l hv
    have hen := fun w1 (hb : Below w.heap.size w w1) => refEnds_any l false vl w1 hl ((h.below hb).more hb.size)
    have hsp := fun W vh (hb : Below w.heap.size w W) (hr : RI W W.heap.size vh (ends l false)) => refSpan_any l (ends l false) k (nthS l k).hi vl vh W hn1 hk ((h.below hb).more hb.size) hr (ends_length _ _) (valid_lt l hv) (valid_a l hv) (ends_rng l _ hv) (by have := valid_at l hv k hk; omega)
    have hV : sureV l k = spanV l (ends l false) k (nthS l k).hi := by
      unfold sureV
      rw [if_neg (by simpa using hp), Int.toNat_natCast]
    obtain ⟨a1, a2, a3, a4, a5, hsv⟩ := spanV_form l (ends l false) k (nthS l k).hi
    rw [hsv] at hsp hV
    obtain ⟨A, cap, b, off, rfl, hA, hc⟩ := h.cells
    obtain ⟨rfl, hb⟩ := hA (by omega)
    obtain ⟨_, c1, c2⟩ := hc k hk
    have HV := Lib.hid hV; have HP := Lib.hid hcall; have HEN := Lib.hid hen; have HSP := Lib.hid hsp
    clear hV hcall hen hsp hp hv hsv h hA hc
    go_enter Try.func27, Try.ntmps27
    go_wp2_with fail
    refine (HP.out _ (by exact bel_of)).mono ?_
    rintro e w1 ⟨rfl, hb1⟩
    have hB1 : Below w.heap.size w w1 := (Below.trans (a := w) (B := w.heap.size) (by exact bel_of) (hb1.mono (by first | omega | (simp; omega) | (simp; done))))
    have b1 : BK w1 w.heap.size #[.int .i64 0, .int .i64 0, .int .i64 0, .int .i64 0] 34 := BK.below (BK.new _ _ _) hb1 (by simp)
    have hlt1 := b1.lt
    rw [← hB1.cell (by exact hb)] at c1 c2
    have hbl : b < w1.heap.size := by omega
    clear hb1
    go_wp2_with fail
    refine wp_region_noPanic (plain_any [0, 1, 3, 4, 5, 6, 7, 8, 9, 11, 12] (Below w1.heap.size w1) mixed ?_)
    (refine any_take 0 ?_ (by rfl) (by kernel_rfl) (fun _ _ _ _ _ hx => hx.elim) (.inl ⟨by rfl, ?_⟩) (by exact bel_of) ?_; rotate_left; (intro X hX; obtain ⟨r1, r2⟩ := Below.rules hX; clear hX; go_simp; rfl); simp only [Act.put, List.setIfInBounds_toArray, List.set_cons_succ, List.set_cons_zero])
    (refine any_take 1 ?_ (by rfl) (by kernel_rfl) (fun _ _ _ _ _ hx => hx.elim) (.inl ⟨by rfl, ?_⟩) (by exact bel_of) ?_; rotate_left; (intro X hX; obtain ⟨r1, r2⟩ := Below.rules hX; clear hX; go_simp; rfl); simp only [Act.put, List.setIfInBounds_toArray, List.set_cons_succ, List.set_cons_zero])
    (refine any_take 3 ?_ (by rfl) (by kernel_rfl) (fun _ _ _ _ _ hx => hx.elim) (.inl ⟨by rfl, ?_⟩) (by exact bel_of) ?_; rotate_left; (intro X hX; obtain ⟨r1, r2⟩ := Below.rules hX; clear hX; go_simp; rfl); simp only [Act.put, List.setIfInBounds_toArray, List.set_cons_succ, List.set_cons_zero])
    (refine any_take 4 ?_ (by rfl) (by kernel_rfl) (fun _ _ _ _ _ hx => hx.elim) (.inl ⟨by rfl, ?_⟩) (by exact bel_of) ?_; rotate_left; (intro X hX; obtain ⟨r1, r2⟩ := Below.rules hX; clear hX; go_simp; rfl); simp only [Act.put, List.setIfInBounds_toArray, List.set_cons_succ, List.set_cons_zero])
    (refine any_take 5 ?_ (by rfl) (by kernel_rfl) (fun _ _ _ _ _ hx => hx.elim) (.inl ⟨by rfl, ?_⟩) (by exact bel_of) ?_; rotate_left; (intro X hX; obtain ⟨r1, r2⟩ := Below.rules hX; clear hX; go_simp; rfl); simp only [Act.put, List.setIfInBounds_toArray, List.set_cons_succ, List.set_cons_zero])
    (refine any_take 6 ?_ (by rfl) (by kernel_rfl) (fun _ _ _ _ _ hx => hx.elim) (.inl ⟨by rfl, ?_⟩) (by exact bel_of) ?_; rotate_left; (intro X hX; obtain ⟨r1, r2⟩ := Below.rules hX; clear hX; go_simp; rfl); simp only [Act.put, List.setIfInBounds_toArray, List.set_cons_succ, List.set_cons_zero])
    (refine any_take 7 ?_ (by rfl) (by kernel_rfl) (fun _ _ _ _ _ hx => hx.elim) (.inl ⟨by rfl, ?_⟩) (by exact bel_of) ?_; rotate_left; (intro X hX; obtain ⟨r1, r2⟩ := Below.rules hX; clear hX; go_simp; rfl); simp only [Act.put, List.setIfInBounds_toArray, List.set_cons_succ, List.set_cons_zero])
    (refine any_take 8 ?_ (by rfl) (by kernel_rfl) (fun _ _ _ _ _ hx => hx.elim) (.inl ⟨by rfl, ?_⟩) (by exact bel_of) ?_; rotate_left; (intro X hX; obtain ⟨r1, r2⟩ := Below.rules hX; clear hX; go_simp; rfl); simp only [Act.put, List.setIfInBounds_toArray, List.set_cons_succ, List.set_cons_zero])
    (refine any_take 9 ?_ (by rfl) (by kernel_rfl) (fun _ _ _ _ _ hx => hx.elim) (.inl ⟨by rfl, ?_⟩) (by exact bel_of) ?_; rotate_left; (intro X hX; obtain ⟨r1, r2⟩ := Below.rules hX; clear hX; go_simp; rfl); simp only [Act.put, List.setIfInBounds_toArray, List.set_cons_succ, List.set_cons_zero])
    refine any_run1 (i := 2) (by kernel_rfl) (by rfl) (by rfl) ?_
    intro K hK
    go_wp2_with fail
    refine (HEN.out _ (by exact bel_of)).mono ?_
    rintro e w2 ⟨vh, rfl, hE, hb2⟩
    have hb2' : Below w1.heap.size w1 w2 := Below.trans (b := w1.drew) (by exact bel_of) hb2
    refine hK _ _ (fun _ => hb2') ?_
    clear hK K
    have hB2 : Below w.heap.size w w2 := hB1.trans (hb2'.mono hB1.size)
    have b2 := b1.below hb2' hlt1
    have hlt2 := b2.lt
    refine any_run1 (i := 10) (by kernel_rfl) (by rfl) (by rfl) ?_
    intro K hK
    go_wp2_with fail
    refine (HSP.out _ _ hB2 hE).mono ?_
    rintro e w3 ⟨rfl, hb3⟩
    have hb3' : Below w1.heap.size w1 w3 := hb2'.trans (hb3.mono hb2'.size)
    refine hK _ _ (fun _ => hb3') ?_
    clear hK K
    have hB3 : Below w.heap.size w w3 := hB1.trans (hb3'.mono hB1.size)
    have b3 := b2.below hb3 hlt2
    clear hb2 hb3 hE b1 b2 hb2'
    (refine any_take 11 ?_ (by rfl) (by kernel_rfl) (fun _ _ _ _ _ hx => hx.elim) (.inl ⟨by rfl, ?_⟩) (by exact bel_of) ?_; rotate_left; (intro X hX; obtain ⟨r1, r2⟩ := Below.rules hX; clear hX; go_simp; rfl); simp only [Act.put, List.setIfInBounds_toArray, List.set_cons_succ, List.set_cons_zero])
    (refine any_take 12 ?_ (by rfl) (by kernel_rfl) (fun _ _ _ _ _ hx => hx.elim) (.inl ⟨by rfl, ?_⟩) (by exact bel_of) ?_; rotate_left; (intro X hX; obtain ⟨r1, r2⟩ := Below.rules hX; clear hX; go_simp; rfl); simp only [Act.put, List.setIfInBounds_toArray, List.set_cons_succ, List.set_cons_zero])
    have y0 := b3.cell 0
    have y1 := b3.cell 1
    have y2 := b3.cell 2
    have y3 := b3.cell 3
    have f0 := b3.frozen 0
    have f1 := b3.frozen 1
    have f2 := b3.frozen 2
    have f3 := b3.frozen 3
    simp at y0 y1 y2 y3
    refine any_run1 (i := 13) (by kernel_rfl) (by rfl) (by rfl) ?_
    intro K hK
    go_wp2_with fail
    refine hK _ _ (fun hx => (Bool.false_ne_true (hx.symm.trans (by kernel_rfl))).elim) ?_
    clear hK K
    refine any_run1 (i := 14) (by kernel_rfl) (by rfl) (by rfl) ?_
    intro K hK
    go_wp2_with fail
    refine hK _ _ (fun hx => (Bool.false_ne_true (hx.symm.trans (by kernel_rfl))).elim) ?_
    clear hK K
    refine any_done (by kernel_rfl) (NoPanic.normal ?_)
    go_wp2_with fail
    have b5 := ((((b3.set 0 (.int .i64 a1)).set 1 (.int .i64 a2)).set 2 (.int .i64 a3)).set 3 (.int .i64 a4))
    simp at b5
    refine ret_bk (w := w) (n := w.heap.size) b5 (by exact bel_of) (v := .tuple #[.agg #[.int .i64 a1, .int .i64 a2, .int .i64 a3, .int .i64 a4], .int .i64 a5]) ?_ ?_
    · intro W' hb'
      have z0 := hb'.cell 0
      have z1 := hb'.cell 1
      have z2 := hb'.cell 2
      have z3 := hb'.cell 3
      simp at z0 z1 z2 z3
      simp [results, Try.results27, go_sem, z0, z1, z2, z3]
    exact ⟨by rw [HV.out], by exact bel_of⟩
  · obtain ⟨e0, he0⟩ : ∃ e0, checkStation l s = e0 := ⟨_, rfl⟩
    have hV : sureV l s = errV (checkStation l s) := by unfold sureV; rw [if_pos hp]
    rw [he0] at hcall hp hV
    have hpb : (e0 != 0) = true := by simpa using hp
    have HV := Lib.hid hV; have HP := Lib.hid hcall
    clear hV hcall he0 hp h
    go_enter Try.func27, Try.ntmps27
    go_wp2_with fail
    refine (HP.out _ (by exact bel_of)).mono ?_
    rintro e w1 ⟨rfl, hb1⟩
    have hB1 : Below w.heap.size w w1 := (Below.trans (a := w) (B := w.heap.size) (by exact bel_of) (hb1.mono (by first | omega | (simp; omega) | (simp; done))))
    have b1 : BK w1 w.heap.size #[.int .i64 0, .int .i64 0, .int .i64 0, .int .i64 0] 34 := BK.below (BK.new _ _ _) hb1 (by simp)
    have hlt1 := b1.lt
    clear hb1
    go_wp2_with fail
    refine (HP.out _ hB1).mono ?_
    rintro e w2 ⟨rfl, hb2⟩
    have hB2 : Below w.heap.size w w2 := hB1.trans (hb2.mono hB1.size)
    have b2 := b1.below hb2 hlt1
    have hlt2 := b2.lt
    clear hb2 b1
    have y0 := b2.cell 0
    have y1 := b2.cell 1
    have y2 := b2.cell 2
    have y3 := b2.cell 3
    have f0 := b2.frozen 0
    have f1 := b2.frozen 1
    have f2 := b2.frozen 2
    have f3 := b2.frozen 3
    simp at y0 y1 y2 y3
    go_wp2_with fail
    have b5 := ((((b2.set 0 (.int .i64 0)).set 1 (.int .i64 0)).set 2 (.int .i64 0)).set 3 (.int .i64 0))
    simp at b5
    refine ret_bk (w := w) (n := w.heap.size) b5 (by exact bel_of) (v := .tuple #[.agg #[.int .i64 0, .int .i64 0, .int .i64 0, .int .i64 0], .int .i64 e0]) ?_ ?_
    · intro W' hb'
      have z0 := hb'.cell 0
      have z1 := hb'.cell 1
      have z2 := hb'.cell 2
      have z3 := hb'.cell 3
      simp at z0 z1 z2 z3
      simp [results, Try.results27, go_sem, z0, z1, z2, z3]
    exact ⟨by rw [HV.out]; rfl, by exact bel_of⟩
end Go.Proofs.Ytbjmkmambmeifaa

namespace Go.Proofs.Ytbjmkmambmeifaa
open Go.RowKit

def spanE (l : List St) (hs : List Int) (s : Nat) (own : Int) : Int := if lessW (hiB l hs s own) (loB l hs s own) then 22 else 0
theorem spanV_formE (l : List St) (hs : List Int) (s : Nat) (own : Int) : ∃ a b c d, spanV l hs s own = .tuple #[.agg #[.int .i64 a, .int .i64 b, .int .i64 c, .int .i64 d], .int .i64 (spanE l hs s own)] := by
  unfold spanV spanE
  split
  · exact ⟨0, 0, 0, 0, rfl⟩
  · exact ⟨_, _, _, _, rfl⟩
def kindR (l : List St) (i : Nat) : Int := if spanE l (ends l true) i (nthS l i).lo ≠ 0 then 0 else if spanE l (ends l false) i (nthS l i).hi ≠ 0 then 1 else 2
def kindsR (l : List St) : List Int := if checkPair l = 0 then (List.range l.length).map (kindR l) else []
theorem kindsR_length (l : List St) (h : checkPair l = 0) : (kindsR l).length = l.length := by simp [kindsR, h]
theorem kindsR_take (l : List St) (h : checkPair l = 0) (k : Nat) (hk : k < l.length) : (kindsR l).take k ++ [kindR l k] = (kindsR l).take (k + 1) := by
  have hk' : k < (kindsR l).length := by rw [kindsR_length l h]; exact hk
  rw [List.take_succ_eq_append_getElem hk']
  simp [kindsR, h]
theorem canV_ok (l : List St) (h : checkPair l = 0) (k : Nat) (hk : k < l.length) : canV l k = spanV l (ends l true) k (nthS l k).lo := by
  unfold canV
  rw [if_neg (by simpa using checkStation_ok l k h (by omega)), Int.toNat_natCast]
theorem sureV_ok (l : List St) (h : checkPair l = 0) (k : Nat) (hk : k < l.length) : sureV l k = spanV l (ends l false) k (nthS l k).hi := by
  unfold sureV
  rw [if_neg (by simpa using checkStation_ok l k h (by omega)), Int.toNat_natCast]

set_option maxRecDepth 100000 in
set_option maxHeartbeats 4000000 in
theorem refKinds_any (l : List St) (vl : Value) (w : World) (hl : l.length ≤ 1000) (h : RSt w w.heap.size vl l) :
    Calls Try.prog 31 #[vl] w fun e w' => ∃ v, e = .returned (.tuple #[v, .int .i64 (checkPair l)]) ∧ RI w' w'.heap.size v (kindsR l) ∧ Below w.heap.size w w' := by
  have hcall := fun w1 (hb : Below w.heap.size w w1) => refCheckPair_any l vl w1 hl ((h.below hb).more hb.size)
  by_cases hp : checkPair l = 0
  · rw [hp] at hcall ⊢
    have hn := checkPair_len l hp
    have hkl := kindsR_length l hp
    have hkt := kindsR_take l hp
    have hca : ∀ i : Nat, i < l.length → ∃ a b c d, ∀ w1, Below w.heap.size w w1 → Calls Try.prog 25 #[vl, .int .i64 i] w1 fun e w' => e = .returned (.tuple #[.agg #[.int .i64 a, .int .i64 b, .int .i64 c, .int .i64 d], .int .i64 (spanE l (ends l true) i (nthS l i).lo)]) ∧ Below w1.heap.size w1 w' := by
      intro i hi
      obtain ⟨a, b, c, d, hf⟩ := spanV_formE l (ends l true) i (nthS l i).lo
      refine ⟨a, b, c, d, fun w1 hb => ?_⟩
      rw [← hf, ← canV_ok l hp i hi]
      exact refCan_any l i vl w1 hl ((h.below hb).more hb.size)
    have hsu : ∀ i : Nat, i < l.length → ∃ a b c d, ∀ w1, Below w.heap.size w w1 → Calls Try.prog 27 #[vl, .int .i64 i] w1 fun e w' => e = .returned (.tuple #[.agg #[.int .i64 a, .int .i64 b, .int .i64 c, .int .i64 d], .int .i64 (spanE l (ends l false) i (nthS l i).hi)]) ∧ Below w1.heap.size w1 w' := by
      intro i hi
      obtain ⟨a, b, c, d, hf⟩ := spanV_formE l (ends l false) i (nthS l i).hi
      refine ⟨a, b, c, d, fun w1 hb => ?_⟩
      rw [← hf, ← sureV_ok l hp i hi]
      exact refSure_any l i vl w1 hl ((h.below hb).more hb.size)
    have HP := Lib.hid hcall; have HCA := Lib.hid hca; have HSU := Lib.hid hsu; have HKL := Lib.hid hkl; have HKT := Lib.hid hkt
    obtain ⟨A, cap, b, off, rfl, _, _⟩ := h.cells
    clear hcall hp h hca hsu hkl hkt
    go_enter Try.func31, Try.ntmps31
    go_wp2_with fail
    refine (HP.out _ (by exact bel_of)).mono ?_
    rintro e w1 ⟨rfl, hb1⟩
    have hB1 : Below w.heap.size w w1 := (Below.trans (a := w) (B := w.heap.size) (by exact bel_of) (hb1.mono (by first | omega | (simp; omega) | (simp; done))))
    clear hb1
    go_wp2_with fail
    go_loopw [4, 5] (fun acc iv wr => ∃ i : Nat, i ≤ l.length ∧ iv = .int .i64 i ∧ OwnI 3 wr w.heap.size acc ((kindsR l).take i) ∧ Below w.heap.size w wr) (fun _ i _ => l.length - (intOf i).toNat)
    case atStart => exact ⟨0, Nat.zero_le _, rfl, by simpa using OwnI.nil _ _ _, hB1⟩
    case round =>
      obtain ⟨i, hi, rfl, hown, hbw⟩ := hrel
      have hsz := hbw.size
      by_cases hil : i < l.length
      · obtain ⟨a1, a2, a3, a4, hc⟩ := HCA.out i hil
        obtain ⟨c1, c2, c3, c4, hs⟩ := HSU.out i hil
        have hkt := HKT.out i hil
        unfold kindR at hkt
        obtain ⟨e1, he1⟩ : ∃ e1, spanE l (ends l true) i (nthS l i).lo = e1 := ⟨_, rfl⟩
        obtain ⟨e2, he2⟩ : ∃ e2, spanE l (ends l false) i (nthS l i).hi = e2 := ⟨_, rfl⟩
        rw [he1] at hc hkt
        rw [he2] at hs hkt
        clear he1 he2
        have HC := Lib.hid hc; have HS := Lib.hid hs; have HT := Lib.hid hkt; have HO := Lib.hid hown
        clear hc hs hkt hown
        go_wp2_with fail
        refine (HC.out wr hbw).mono ?_
        rintro e w2 ⟨rfl, hb2⟩
        have hbw2 := hbw.trans (hb2.mono hsz)
        have hO2 := HO.out.below hb2
        have hsz2 := hbw2.size
        clear hb2 HO
        go_wp2_with fail
        refine (HS.out _ (by exact bel_of)).mono ?_
        rintro e w3 ⟨rfl, hb3⟩
        have hbw3 : Below w.heap.size w w3 := (Below.trans (a := w) (B := w.heap.size) (by exact bel_of) (hb3.mono (by first | omega | (simp; omega) | (simp; done))))
        have hO3 := (hO2.below (W' := w2.alloc (.cells #[.int .i64 a1, .int .i64 a2, .int .i64 a3, .int .i64 a4] 34)) (by exact bel_of)).below hb3
        have hsz3 := hbw3.size
        clear hb3 hO2
        have happ := fun x => app_int (w1 := w3.alloc (.cells #[.int .i64 c1, .int .i64 c2, .int .i64 c3, .int .i64 c4] 34)) (hO3.below (by exact bel_of)) x (by rw [List.length_take, HKL.out]; omega) (by simp; omega) (w0 := w) (by exact bel_of) (w3.heap.size + 1) (by simp)
        have HAPP := Lib.hid happ; clear happ hO3
        by_cases hz1 : e1 = 0
        · have d1 : (e1 != 0) = false := by simpa using hz1
          by_cases hz2 : e2 = 0
          · have d2 : (e2 != 0) = false := by simpa using hz2
            obtain ⟨v', w4, hrun, hown', hb', hs', _⟩ := HAPP.out 2
            rw [if_neg (by simpa using hz1), if_neg (by simpa using hz2)] at HT
            rw [HT.out] at hown'
            have HO := Lib.hid hown'; have HRUN := Lib.hid hrun; clear hown' hrun HAPP hz1 hz2
            go_wp2_with (at_builtin; refine wpList_append_run rfl (.tmp 43) (.tmp 44) 29 _ rfl HRUN.out ?_)
            go_roundw
            case rel => exact ⟨i + 1, by omega, by go_num, HO.out, by exact bel_of⟩
            case measure => simp [intOf]; omega
          · have d2 : (e2 != 0) = true := by simpa using hz2
            obtain ⟨v', w4, hrun, hown', hb', hs', _⟩ := HAPP.out 1
            rw [if_neg (by simpa using hz1), if_pos hz2] at HT
            rw [HT.out] at hown'
            have HO := Lib.hid hown'; have HRUN := Lib.hid hrun; clear hown' hrun HAPP hz1 hz2
            go_wp2_with (at_builtin; refine wpList_append_run rfl (.tmp 40) (.tmp 41) 29 _ rfl HRUN.out ?_)
            go_roundw
            case rel => exact ⟨i + 1, by omega, by go_num, HO.out, by exact bel_of⟩
            case measure => simp [intOf]; omega
        · have d1 : (e1 != 0) = true := by simpa using hz1
          obtain ⟨v', w4, hrun, hown', hb', hs', _⟩ := HAPP.out 0
          rw [if_pos hz1] at HT
          rw [HT.out] at hown'
          have HO := Lib.hid hown'; have HRUN := Lib.hid hrun; clear hown' hrun HAPP hz1
          go_wp2_with (at_builtin; refine wpList_append_run rfl (.tmp 35) (.tmp 36) 29 _ rfl HRUN.out ?_)
          go_roundw
          case rel => exact ⟨i + 1, by omega, by go_num, HO.out, by exact bel_of⟩
          case measure => simp [intOf]; omega
      · have hie : i = l.length := by omega
        have HIE := Lib.hid hie
        have HO := Lib.hid hown
        clear hie hown
        go_wp2_with fail
        refine bodyPost_ret (v := .tuple #[u4, .int .i64 0]) (by simp [results, Try.results31, go_sem]) rfl ⟨_, rfl, ?_, hbw⟩
        have := HO.out.ri
        rw [HIE.out, List.take_of_length_le (by rw [HKL.out]; exact Nat.le_refl _)] at this
        exact this
  · have hk : kindsR l = [] := by simp [kindsR, hp]
    rw [hk]
    obtain ⟨e0, he0⟩ : ∃ e0, checkPair l = e0 := ⟨_, rfl⟩
    rw [he0] at hcall hp ⊢
    have hpb : (e0 != 0) = true := by simpa using hp
    have HP := Lib.hid hcall
    clear hcall he0 hp h hk
    go_enter Try.func31, Try.ntmps31
    go_wp2_with fail
    refine (HP.out _ (by exact bel_of)).mono ?_
    rintro e w1 ⟨rfl, hb1⟩
    have hB1 : Below w.heap.size w w1 := (Below.trans (a := w) (B := w.heap.size) (by exact bel_of) (hb1.mono (by first | omega | (simp; omega) | (simp; done))))
    clear hb1
    go_wp2_with fail
    refine (HP.out _ hB1).mono ?_
    rintro e w2 ⟨rfl, hb2⟩
    have hB2 : Below w.heap.size w w2 := hB1.trans (hb2.mono hB1.size)
    clear hb2
    go_wp2_with fail
    exact bodyPost_ret (v := .tuple #[.slice none 0 0, .int .i64 e0]) (by simp [results, Try.results31, go_sem]) rfl ⟨_, rfl, ri_nil _ _, hB2⟩
end Go.Proofs.Ytbjmkmambmeifaa

namespace Go.Proofs.Ytbjmkmambmeifaa
open Go.RowKit
namespace Ma

theorem gd (l : List St) (h : checkPair l = 0) : Gd l := ⟨fun i hi => (valid_a l h i hi).1, fun i hi => (valid_a l h i hi).2, fun i j => valid_lt l h i j⟩
theorem hb (l : List St) (b : Bool) (h : checkPair l = 0) : Hb l (ends l b) := ends_rng l b h
theorem lo_rng (l : List St) (h : checkPair l = 0) {i : Nat} (hi : i < l.length) : -1000 ≤ (nthS l i).lo ∧ (nthS l i).lo ≤ 1000 := by have := valid_at l h i hi; omega
theorem hi_rng (l : List St) (h : checkPair l = 0) {i : Nat} (hi : i < l.length) : -1000 ≤ (nthS l i).hi ∧ (nthS l i).hi ≤ 1000 := by have := valid_at l h i hi; omega
theorem checkStation_ok {l : List St} {s : Int} (h : checkStation l s = 0) : checkPair l = 0 ∧ s.toNat < l.length := by
  unfold checkStation at h
  by_cases h1 : checkPair l = 0
  · rw [if_neg (by simpa using h1)] at h
    by_cases h2 : 0 ≤ s ∧ s < l.length
    · exact ⟨h1, by omega⟩
    · rw [if_neg h2] at h; omega
  · rw [if_pos h1] at h; exact absurd h h1
theorem least_rng (l : List St) (b : Bool) (h : checkPair l = 0) (s : Nat) (hp : 0 < s * (l.length - (s + 1))) : -2000000 ≤ (leastR l (ends l b) s).num ∧ (leastR l (ends l b) s).num ≤ 2000000 ∧ (leastR l (ends l b) s).den ≤ 1000 := by
  have := leastR_bounds l (ends l b) s hp (valid_lt l h) (valid_a l h) (ends_rng l b h)
  omega
theorem ground_eq (l : List St) (s : Int) : groundV l s = groundRV l s := by
  unfold groundV groundRV
  by_cases h : checkStation l s = 0
  · rw [if_neg (by simpa using h), if_neg (by simpa using h)]
    obtain ⟨h1, h2⟩ := checkStation_ok h
    rw [over_above (gd l h1) (hb l true h1) h2 (lo_rng l h1 h2) (least_rng l true h1 _), over_above (gd l h1) (hb l false h1) h2 (hi_rng l h1 h2) (least_rng l false h1 _)]
  · rw [if_pos (by simpa using h), if_pos (by simpa using h)]
theorem ends_hi (l : List St) {k : Nat} (hk : k < l.length) : nthI (ends l true) k = (nthS l k).hi := by rw [ends_at _ _ _ hk]; rfl
theorem ends_lo (l : List St) {k : Nat} (hk : k < l.length) : nthI (ends l false) k = (nthS l k).lo := by rw [ends_at _ _ _ hk]; rfl
theorem meets_span {l : List St} {hs : List Int} {s : Nat} {own : Int} (hg : Gd l) (hh : Hb l hs) (hs1 : s < l.length) (ho : -1000 ≤ own ∧ own ≤ 1000) : meetsB l hs s own = true ↔ spanE l hs s own = 0 := by
  rw [meets_iff hg hh hs1 ho, ← touch_iff hg hh hs1 ho]
  unfold spanE
  cases lessW (hiB l hs s own) (loB l hs s own) <;> simp
theorem kind_eq (l : List St) (h : checkPair l = 0) (i : Nat) (hi : i < l.length) : kindP l i = kindR l i := by
  have a := meets_span (gd l h) (hb l false h) hi (hi_rng l h hi)
  have b := meets_span (gd l h) (hb l true h) hi (lo_rng l h hi)
  have c : spanE l (ends l false) i (nthS l i).hi = 0 → spanE l (ends l true) i (nthS l i).lo = 0 := by
    rw [← a, ← b, meets_iff (gd l h) (hb l false h) hi (hi_rng l h hi), meets_iff (gd l h) (hb l true h) hi (lo_rng l h hi)]
    intro hA i' k h1 h2 h3
    have h4 := hA i' k h1 h2 h3
    rw [le_ln (gd l h) (by omega) h3] at h4 ⊢
    have y1 := (gd l h).X h1 hi; have y2 := (gd l h).X h2 h3
    have v1 := Rat.intCast_le_intCast.2 (valid_at l h i hi).2.2.2.1
    have v2 : Y (ends l false) i' ≤ Y (ends l true) i' := by
      unfold Y; rw [ends_hi l (by omega), ends_lo l (by omega)]; exact Rat.intCast_le_intCast.2 (valid_at l h i' (by omega)).2.2.2.1
    have v3 : Y (ends l false) k ≤ Y (ends l true) k := by
      unfold Y; rw [ends_hi l h3, ends_lo l h3]; exact Rat.intCast_le_intCast.2 (valid_at l h k h3).2.2.2.1
    have d1 := Rat.mul_le_mul_of_nonneg_right v1 (show 0 ≤ X l k - X l i' by grind)
    have d2 := Rat.mul_le_mul_of_nonneg_right v2 (show 0 ≤ X l k - X l i by grind)
    have d3 := Rat.mul_le_mul_of_nonneg_right v3 (show 0 ≤ X l i - X l i' by grind)
    grind
  unfold kindP kindR
  rw [ends_hi l hi, ends_lo l hi]
  by_cases h1 : spanE l (ends l false) i (nthS l i).hi = 0
  · have h2 := c h1
    rw [if_pos (a.2 h1), if_neg (by simpa using h2), if_neg (by simpa using h1)]
  · rw [if_neg (fun h => h1 (a.1 h))]
    by_cases h2 : spanE l (ends l true) i (nthS l i).lo = 0
    · rw [if_pos (b.2 h2), if_neg (by simpa using h2), if_pos h1]
    · rw [if_neg (fun h => h2 (b.1 h)), if_pos h2]
theorem kinds_eq (l : List St) : kindsP l = kindsR l := by
  unfold kindsP kindsR
  by_cases h : checkPair l = 0
  · rw [if_pos h, if_pos h]
    exact List.map_congr_left fun i hi => kind_eq l h i (List.mem_range.1 hi)
  · rw [if_neg h, if_neg h]

theorem hR_spec (l : List St) (h : checkPair l = 0) {i : Nat} (hi : i < l.length) :
    OkR (hR l i) ∧ ∀ q, q ≤ V (hR l i) ↔ q ≤ Y (ends l true) i ∧ ∀ i' k, i' < i → i < k → k < l.length → q ≤ ln l (ends l true) i' i k := by
  have hr := hi_rng l h hi
  have hok : OkR ⟨(nthS l i).hi, 1⟩ := okR_one _ (by omega) (by omega)
  have hY : Y (ends l true) i = ((nthS l i).hi : Rat) := by unfold Y; rw [ends_hi l hi]
  unfold hR
  by_cases hp : 0 < i * (l.length - (i + 1))
  · obtain ⟨k1, ⟨i0, k0, hi0, hk0, hkn0, he⟩, k3⟩ := least_spec (gd l h) (hb l true h) hi hp
    rw [lessW_V k1 hok, V_one]
    by_cases hc : V (leastR l (ends l true) i) < ((nthS l i).hi : Rat)
    · rw [if_pos ⟨hp, by simpa using hc⟩]
      refine ⟨k1, fun q => ⟨fun hq => ⟨by rw [hY]; grind, fun i' k a b c => Rat.le_trans hq (k3 i' k a b c)⟩, fun hq => ?_⟩⟩
      rw [he]; exact hq.2 _ _ hi0 hk0 hkn0
    · rw [if_neg (fun hx => hc (by simpa using hx.2))]
      refine ⟨hok, fun q => ?_⟩
      rw [V_one, hY]
      refine ⟨fun hq => ⟨hq, fun i' k a b c => ?_⟩, fun hq => hq.1⟩
      have := k3 i' k a b c
      grind
  · rw [if_neg (fun hx => hp hx.1)]
    refine ⟨hok, fun q => ?_⟩
    rw [V_one, hY]
    refine ⟨fun hq => ⟨hq, fun i' k a b c => ?_⟩, fun hq => hq.1⟩
    obtain ⟨t, ht, _⟩ := idx_pair a b c
    omega
theorem hP_spec (l : List St) (h : checkPair l = 0) {i : Nat} (hi : i < l.length) :
    OkR (hP l i) ∧ ∀ q, q ≤ V (hP l i) ↔ q ≤ Y (ends l true) i ∧ ∀ i' k, i' < i → i < k → k < l.length → q ≤ ln l (ends l true) i' i k :=
  hull_spec (gd l h) (hb l true h) hi
theorem height_eq (l : List St) (h : checkPair l = 0) (i : Nat) (hi : i < l.length) : hP l i = hR l i := by
  obtain ⟨a1, a2⟩ := hP_spec l h hi
  obtain ⟨b1, b2⟩ := hR_spec l h hi
  refine OkR.ext a1 b1 (Rat.le_antisymm ?_ ?_)
  · exact (b2 _).2 ((a2 _).1 Rat.le_refl)
  · exact (a2 _).2 ((b2 _).1 Rat.le_refl)
theorem wedge_iff (l : List St) (h : checkPair l = 0) {i k m : Nat} (h1 : i < k) (h2 : k < m) (h3 : m < l.length) : isWedgeB l i k m = true ↔ ln l (ends l true) i k m < ((nthS l k).lo : Rat) := by
  have y1 := (gd l h).X h1 (by omega); have y2 := (gd l h).X h2 h3
  rw [← Rat.not_le, le_ln (gd l h) (by omega) h3, Rat.not_le]
  unfold isWedgeB
  simp only [decide_eq_true_eq]
  rw [← Rat.intCast_lt_intCast]
  simp only [Rat.intCast_sub, Rat.intCast_add, Rat.intCast_mul, X, Y]
  rw [ends_hi l (by omega), ends_hi l h3]
theorem bad_iff (l : List St) (h : checkPair l = 0) {k : Nat} (hk : k < l.length) : badP l k = true ↔ ∃ i m, i < k ∧ k < m ∧ m < l.length ∧ isWedgeB l i k m = true := by
  obtain ⟨a1, a2⟩ := hP_spec l h hk
  have e : badP l k = true ↔ V (hP l k) < ((nthS l k).lo : Rat) := by
    unfold badP
    rw [decide_eq_true_eq, ← V_one, V_lt a1.den Int.one_pos]
    simp
  rw [e]
  constructor
  · intro hlt
    refine Classical.byContradiction fun hn => ?_
    have : ((nthS l k).lo : Rat) ≤ V (hP l k) := by
      rw [a2]
      refine ⟨?_, fun i m b c d => ?_⟩
      · unfold Y; rw [ends_hi l hk]; exact Rat.intCast_le_intCast.2 (valid_at l h k hk).2.2.2.1
      · rw [← Rat.not_lt, ← wedge_iff l h b c d]
        exact fun hw => hn ⟨i, m, b, c, d, hw⟩
    grind
  · rintro ⟨i, m, b, c, d, hw⟩
    rw [wedge_iff l h b c d] at hw
    have := ((a2 _).1 Rat.le_refl).2 i m b c d
    grind
theorem wedgeF_none {l : List St} (h : ∀ i k m, i < k → k < m → m < l.length → isWedgeB l i k m = false) : wedgeF l = none :=
  wedge_none fun i' k m _ b c d => h i' k m b c d
theorem wedgeF_some {l : List St} {i k m : Nat} (h : wedgeF l = some (i, k, m)) : i < k ∧ k < m ∧ m < l.length ∧ isWedgeB l i k m = true := by
  unfold wedgeF at h
  obtain ⟨i', hi', h⟩ := List.exists_of_findSome?_eq_some h
  unfold wK at h
  obtain ⟨k', hk', h⟩ := List.exists_of_findSome?_eq_some h
  by_cases hlt : i' < k'
  · rw [if_pos hlt] at h
    obtain ⟨m', hm', he⟩ := Option.map_eq_some_iff.1 h
    unfold wM at hm'
    have hp := List.find?_some hm'
    have hmem := List.mem_of_find?_eq_some hm'
    simp at he
    obtain ⟨rfl, rfl, rfl⟩ := he
    simp at hp hmem
    exact ⟨hlt, hp.1, hmem, hp.2⟩
  · rw [if_neg hlt] at h; cases h
theorem wedgeF_iff {l : List St} : (wedgeF l).isSome = true ↔ ∃ i k m, i < k ∧ k < m ∧ m < l.length ∧ isWedgeB l i k m = true := by
  constructor
  · intro h
    obtain ⟨⟨i, k, m⟩, hx⟩ := Option.isSome_iff_exists.1 h
    exact ⟨i, k, m, wedgeF_some hx⟩
  · rintro ⟨i, k, m, a, b, c, d⟩
    cases hw : wedgeF l with
    | some x => rfl
    | none =>
      exfalso
      have hk : wK l i = none := by
        unfold wedgeF at hw
        rw [List.findSome?_eq_none_iff] at hw
        exact hw i (List.mem_range.2 (by omega))
      unfold wK at hk
      rw [List.findSome?_eq_none_iff] at hk
      have hm := hk k (List.mem_range.2 (by omega))
      rw [if_pos a, Option.map_eq_none_iff] at hm
      unfold wM at hm
      rw [List.find?_eq_none] at hm
      have := hm m (List.mem_range.2 c)
      simp [b, d] at this
theorem heightsErr_eq (l : List St) : heightsErrP l = heightsErrR l := by
  unfold heightsErrP heightsErrR
  by_cases h : checkPair l = 0
  · have hn : ¬ checkPair l ≠ 0 := fun h2 => h2 h
    rw [if_neg hn, if_neg hn]
    have e : (List.range l.length).any (badP l) = (wedgeF l).isSome := by
      rw [Bool.eq_iff_iff, wedgeF_iff, List.any_eq_true]
      constructor
      · rintro ⟨k, hk, hb⟩
        obtain ⟨i, m, a, b, c, d⟩ := (bad_iff l h (List.mem_range.1 hk)).1 hb
        exact ⟨i, k, m, a, b, c, d⟩
      · rintro ⟨i, k, m, a, b, c, d⟩
        exact ⟨k, List.mem_range.2 (by omega), (bad_iff l h (by omega)).2 ⟨i, m, a, b, c, d⟩⟩
    rw [e]
  · rw [if_pos h, if_pos h]
theorem heights_eq (l : List St) : heightsP l = heightsR l := by
  unfold heightsP heightsR
  rw [heightsErr_eq]
  by_cases h : heightsErrR l = 0
  · rw [if_pos h, if_pos h]
    have h0 : checkPair l = 0 := by
      unfold heightsErrR at h
      by_cases hc : checkPair l = 0
      · exact hc
      · rw [if_pos hc] at h; exact h
    exact List.map_congr_left fun i hi => height_eq l h0 i (List.mem_range.1 hi)
  · rw [if_neg h, if_neg h]
end Ma
end Go.Proofs.Ytbjmkmambmeifaa
