/- The worth of a link. -/
import Derived.Test.YtkljdbgkhghiaaaP9
set_option linter.all false
set_option linter.unnecessarySimpa false
set_option linter.unusedSimpArgs false
set_option linter.unusedVariables false
set_option linter.unusedSectionVars false

namespace Go.Proofs.Ytkljdbgkhghiaaa
open Go.RowKit Kp

def edgeB (E : Nat) (v : Int) : Bool := decide (0 ≤ v ∧ v < E)
theorem edge_any (E : Nat) (vt : Value) (ts : List Kt) (bel : List Int) (top : Int) (asks : Bool) (gb c : Nat) (v : Int) (w : World) (hB : Bn w gb E vt ts bel top asks) (hc : w.cell? ⟨c, 0, none⟩ = some (.pointer (some ⟨gb, 0, none⟩))) :
    Calls Try.prog 77 #[.int .i64 v, .pointer (some ⟨c, 0, none⟩)] w fun e w' => e = .returned (.bool (edgeB E v)) ∧ w = w' := by
  obtain ⟨c0, _, _, _⟩ := hB.cells
  rcases (show v < 0 ∨ (0 ≤ v ∧ v < E) ∨ (0 ≤ v ∧ ¬ v < E) by omega) with h | ⟨h1, h2⟩ | ⟨h1, h2⟩
  · have H := Lib.hid (show edgeB E v = false from decide_eq_false (by omega))
    go_enter Try.func77, Try.ntmps77
    go_wp2_with fail
    go_ret
    exact ⟨by rw [H.out]; rfl, rfl⟩
  · have H := Lib.hid (show edgeB E v = true from decide_eq_true (by omega))
    go_enter Try.func77, Try.ntmps77
    go_wp2_with fail
    go_ret
    exact ⟨by rw [H.out]; rfl, rfl⟩
  · have H := Lib.hid (show edgeB E v = false from decide_eq_false (by omega))
    go_enter Try.func77, Try.ntmps77
    go_wp2_with fail
    go_ret
    exact ⟨by rw [H.out]; rfl, rfl⟩

/-- What the worth of a link is told as. -/
def WoR (E : Nat) (ts : List Kt) (k : Kl) (e : Ending) : Prop := ∃ n b, e = .returned (.tuple #[.int .i64 n, .bool b]) ∧ worthP E ts k = if b then some n else none
theorem rng_of {E : Nat} {ts : List Kt} (h : Okb E ts) {i : Nat} (hi : i < ts.length) : -1000 ≤ (nthT ts i).lo ∧ (nthT ts i).lo ≤ 1000 := by
  obtain ⟨q1, q2, q3, q4, q5, q6, q7, q8⟩ := h.tst _ (nthT_mem hi); omega

set_option maxHeartbeats 8000000 in
theorem refWorth_any (E : Nat) (ts : List Kt) (v : Value) (k : Kl) (w : World) (ho : Okb E ts) (hl : ts.length ≤ 1000) (h : RT w w.heap.size v ts) :
    Calls Try.prog 55 #[.agg #[.int .i64 E, v], klV k] w fun e w' => WoR E ts k e ∧ Below w.heap.size w w' := by
  obtain ⟨src, dst, tst⟩ := k
  obtain ⟨A, cap, b, off, rfl, hA, hc⟩ := h.cells
  unfold klV
  by_cases ht : tst = -1
  · subst ht
    clear hA hc
    have h5 : (src = -1 ∨ (0 ≤ src ∧ src < E) ∨ E ≤ src ∨ src < -1) := by omega
    have h6 : (dst = -1 ∨ (0 ≤ dst ∧ dst < E) ∨ E ≤ dst ∨ dst < -1) := by omega
    rcases h5 with hsrc | hsrc | hsrc | hsrc
    · rcases h6 with hdst | hdst | hdst | hdst
      · skip
        have hw : worthP E ts ⟨src, dst, -1⟩ = none := by unfold worthP; dsimp only; rw [if_neg (by omega), if_neg (by omega), if_pos (by omega)]
        have HW := Lib.hid hw
        clear hw
        subst hsrc
        subst hdst
        go_enter Try.func55, Try.ntmps55
        go_upto_region 4 with fail
        go_quiet (fail)
        go_wp2_with fail
        refine bodyPost_ret (v := .tuple #[.int .i64 (0), .bool false]) (by simp [results, Try.results55, go_sem]) rfl ⟨⟨0, false, rfl, HW.out⟩, by exact bel_of⟩
      · skip
        have hw : worthP E ts ⟨src, dst, -1⟩ = some 1000 := by unfold worthP; dsimp only; rw [if_pos (by omega)]
        have HW := Lib.hid hw
        clear hw
        subst hsrc
        have bdst : (dst == -1) = false := beq_eq_false_iff_ne.2 (by omega)
        obtain ⟨hdst1, hdst2⟩ := hdst
        have pdst : decide (0 ≤ dst) = true := decide_eq_true (by omega)
        have rdst : decide (dst < (E : Int)) = true := decide_eq_true (by omega)
        go_enter Try.func55, Try.ntmps55
        go_wp2_with fail
        refine bodyPost_ret (v := .tuple #[.int .i64 (1000), .bool true]) (by simp [results, Try.results55, go_sem]) rfl ⟨⟨1000, true, rfl, HW.out⟩, by exact bel_of⟩
      · skip
        have hw : worthP E ts ⟨src, dst, -1⟩ = none := by unfold worthP; dsimp only; rw [if_neg (by omega), if_neg (by omega), if_pos (by omega)]
        have HW := Lib.hid hw
        clear hw
        subst hsrc
        have bdst : (dst == -1) = false := beq_eq_false_iff_ne.2 (by omega)
        have pdst : decide (0 ≤ dst) = true := decide_eq_true (by omega)
        have rdst : decide (dst < (E : Int)) = false := decide_eq_false (by omega)
        go_enter Try.func55, Try.ntmps55
        go_upto_region 4 with fail
        go_quiet (fail)
        go_wp2_with fail
        refine bodyPost_ret (v := .tuple #[.int .i64 (0), .bool false]) (by simp [results, Try.results55, go_sem]) rfl ⟨⟨0, false, rfl, HW.out⟩, by exact bel_of⟩
      · skip
        have hw : worthP E ts ⟨src, dst, -1⟩ = none := by unfold worthP; dsimp only; rw [if_neg (by omega), if_neg (by omega), if_pos (by omega)]
        have HW := Lib.hid hw
        clear hw
        subst hsrc
        have bdst : (dst == -1) = false := beq_eq_false_iff_ne.2 (by omega)
        have pdst : decide (0 ≤ dst) = false := decide_eq_false (by omega)
        go_enter Try.func55, Try.ntmps55
        go_upto_region 4 with fail
        go_quiet (fail)
        go_wp2_with fail
        refine bodyPost_ret (v := .tuple #[.int .i64 (0), .bool false]) (by simp [results, Try.results55, go_sem]) rfl ⟨⟨0, false, rfl, HW.out⟩, by exact bel_of⟩
    · rcases h6 with hdst | hdst | hdst | hdst
      · skip
        have hw : worthP E ts ⟨src, dst, -1⟩ = some 0 := by unfold worthP; dsimp only; rw [if_neg (by omega), if_pos (by omega)]
        have HW := Lib.hid hw
        clear hw
        have bsrc : (src == -1) = false := beq_eq_false_iff_ne.2 (by omega)
        obtain ⟨hsrc1, hsrc2⟩ := hsrc
        have psrc : decide (0 ≤ src) = true := decide_eq_true (by omega)
        have rsrc : decide (src < (E : Int)) = true := decide_eq_true (by omega)
        subst hdst
        go_enter Try.func55, Try.ntmps55
        go_upto_region 4 with fail
        go_quiet (fail)
        go_wp2_with fail
        refine bodyPost_ret (v := .tuple #[.int .i64 (0), .bool true]) (by simp [results, Try.results55, go_sem]) rfl ⟨⟨0, true, rfl, HW.out⟩, by exact bel_of⟩
      · skip
        have hw : worthP E ts ⟨src, dst, -1⟩ = none := by unfold worthP; dsimp only; rw [if_neg (by omega), if_neg (by omega), if_pos (by omega)]
        have HW := Lib.hid hw
        clear hw
        have bsrc : (src == -1) = false := beq_eq_false_iff_ne.2 (by omega)
        obtain ⟨hsrc1, hsrc2⟩ := hsrc
        have psrc : decide (0 ≤ src) = true := decide_eq_true (by omega)
        have rsrc : decide (src < (E : Int)) = true := decide_eq_true (by omega)
        have bdst : (dst == -1) = false := beq_eq_false_iff_ne.2 (by omega)
        obtain ⟨hdst1, hdst2⟩ := hdst
        have pdst : decide (0 ≤ dst) = true := decide_eq_true (by omega)
        have rdst : decide (dst < (E : Int)) = true := decide_eq_true (by omega)
        go_enter Try.func55, Try.ntmps55
        go_upto_region 4 with fail
        go_quiet (fail)
        go_wp2_with fail
        refine bodyPost_ret (v := .tuple #[.int .i64 (0), .bool false]) (by simp [results, Try.results55, go_sem]) rfl ⟨⟨0, false, rfl, HW.out⟩, by exact bel_of⟩
      · skip
        have hw : worthP E ts ⟨src, dst, -1⟩ = none := by unfold worthP; dsimp only; rw [if_neg (by omega), if_neg (by omega), if_pos (by omega)]
        have HW := Lib.hid hw
        clear hw
        have bsrc : (src == -1) = false := beq_eq_false_iff_ne.2 (by omega)
        obtain ⟨hsrc1, hsrc2⟩ := hsrc
        have psrc : decide (0 ≤ src) = true := decide_eq_true (by omega)
        have rsrc : decide (src < (E : Int)) = true := decide_eq_true (by omega)
        have bdst : (dst == -1) = false := beq_eq_false_iff_ne.2 (by omega)
        have pdst : decide (0 ≤ dst) = true := decide_eq_true (by omega)
        have rdst : decide (dst < (E : Int)) = false := decide_eq_false (by omega)
        go_enter Try.func55, Try.ntmps55
        go_upto_region 4 with fail
        go_quiet (fail)
        go_wp2_with fail
        refine bodyPost_ret (v := .tuple #[.int .i64 (0), .bool false]) (by simp [results, Try.results55, go_sem]) rfl ⟨⟨0, false, rfl, HW.out⟩, by exact bel_of⟩
      · skip
        have hw : worthP E ts ⟨src, dst, -1⟩ = none := by unfold worthP; dsimp only; rw [if_neg (by omega), if_neg (by omega), if_pos (by omega)]
        have HW := Lib.hid hw
        clear hw
        have bsrc : (src == -1) = false := beq_eq_false_iff_ne.2 (by omega)
        obtain ⟨hsrc1, hsrc2⟩ := hsrc
        have psrc : decide (0 ≤ src) = true := decide_eq_true (by omega)
        have rsrc : decide (src < (E : Int)) = true := decide_eq_true (by omega)
        have bdst : (dst == -1) = false := beq_eq_false_iff_ne.2 (by omega)
        have pdst : decide (0 ≤ dst) = false := decide_eq_false (by omega)
        go_enter Try.func55, Try.ntmps55
        go_upto_region 4 with fail
        go_quiet (fail)
        go_wp2_with fail
        refine bodyPost_ret (v := .tuple #[.int .i64 (0), .bool false]) (by simp [results, Try.results55, go_sem]) rfl ⟨⟨0, false, rfl, HW.out⟩, by exact bel_of⟩
    · rcases h6 with hdst | hdst | hdst | hdst
      · skip
        have hw : worthP E ts ⟨src, dst, -1⟩ = none := by unfold worthP; dsimp only; rw [if_neg (by omega), if_neg (by omega), if_pos (by omega)]
        have HW := Lib.hid hw
        clear hw
        have bsrc : (src == -1) = false := beq_eq_false_iff_ne.2 (by omega)
        have psrc : decide (0 ≤ src) = true := decide_eq_true (by omega)
        have rsrc : decide (src < (E : Int)) = false := decide_eq_false (by omega)
        subst hdst
        go_enter Try.func55, Try.ntmps55
        go_upto_region 4 with fail
        go_quiet (fail)
        go_wp2_with fail
        refine bodyPost_ret (v := .tuple #[.int .i64 (0), .bool false]) (by simp [results, Try.results55, go_sem]) rfl ⟨⟨0, false, rfl, HW.out⟩, by exact bel_of⟩
      · skip
        have hw : worthP E ts ⟨src, dst, -1⟩ = none := by unfold worthP; dsimp only; rw [if_neg (by omega), if_neg (by omega), if_pos (by omega)]
        have HW := Lib.hid hw
        clear hw
        have bsrc : (src == -1) = false := beq_eq_false_iff_ne.2 (by omega)
        have psrc : decide (0 ≤ src) = true := decide_eq_true (by omega)
        have rsrc : decide (src < (E : Int)) = false := decide_eq_false (by omega)
        have bdst : (dst == -1) = false := beq_eq_false_iff_ne.2 (by omega)
        obtain ⟨hdst1, hdst2⟩ := hdst
        have pdst : decide (0 ≤ dst) = true := decide_eq_true (by omega)
        have rdst : decide (dst < (E : Int)) = true := decide_eq_true (by omega)
        go_enter Try.func55, Try.ntmps55
        go_upto_region 4 with fail
        go_quiet (fail)
        go_wp2_with fail
        refine bodyPost_ret (v := .tuple #[.int .i64 (0), .bool false]) (by simp [results, Try.results55, go_sem]) rfl ⟨⟨0, false, rfl, HW.out⟩, by exact bel_of⟩
      · skip
        have hw : worthP E ts ⟨src, dst, -1⟩ = none := by unfold worthP; dsimp only; rw [if_neg (by omega), if_neg (by omega), if_pos (by omega)]
        have HW := Lib.hid hw
        clear hw
        have bsrc : (src == -1) = false := beq_eq_false_iff_ne.2 (by omega)
        have psrc : decide (0 ≤ src) = true := decide_eq_true (by omega)
        have rsrc : decide (src < (E : Int)) = false := decide_eq_false (by omega)
        have bdst : (dst == -1) = false := beq_eq_false_iff_ne.2 (by omega)
        have pdst : decide (0 ≤ dst) = true := decide_eq_true (by omega)
        have rdst : decide (dst < (E : Int)) = false := decide_eq_false (by omega)
        go_enter Try.func55, Try.ntmps55
        go_upto_region 4 with fail
        go_quiet (fail)
        go_wp2_with fail
        refine bodyPost_ret (v := .tuple #[.int .i64 (0), .bool false]) (by simp [results, Try.results55, go_sem]) rfl ⟨⟨0, false, rfl, HW.out⟩, by exact bel_of⟩
      · skip
        have hw : worthP E ts ⟨src, dst, -1⟩ = none := by unfold worthP; dsimp only; rw [if_neg (by omega), if_neg (by omega), if_pos (by omega)]
        have HW := Lib.hid hw
        clear hw
        have bsrc : (src == -1) = false := beq_eq_false_iff_ne.2 (by omega)
        have psrc : decide (0 ≤ src) = true := decide_eq_true (by omega)
        have rsrc : decide (src < (E : Int)) = false := decide_eq_false (by omega)
        have bdst : (dst == -1) = false := beq_eq_false_iff_ne.2 (by omega)
        have pdst : decide (0 ≤ dst) = false := decide_eq_false (by omega)
        go_enter Try.func55, Try.ntmps55
        go_upto_region 4 with fail
        go_quiet (fail)
        go_wp2_with fail
        refine bodyPost_ret (v := .tuple #[.int .i64 (0), .bool false]) (by simp [results, Try.results55, go_sem]) rfl ⟨⟨0, false, rfl, HW.out⟩, by exact bel_of⟩
    · rcases h6 with hdst | hdst | hdst | hdst
      · skip
        have hw : worthP E ts ⟨src, dst, -1⟩ = none := by unfold worthP; dsimp only; rw [if_neg (by omega), if_neg (by omega), if_pos (by omega)]
        have HW := Lib.hid hw
        clear hw
        have bsrc : (src == -1) = false := beq_eq_false_iff_ne.2 (by omega)
        have psrc : decide (0 ≤ src) = false := decide_eq_false (by omega)
        subst hdst
        go_enter Try.func55, Try.ntmps55
        go_upto_region 4 with fail
        go_quiet (fail)
        go_wp2_with fail
        refine bodyPost_ret (v := .tuple #[.int .i64 (0), .bool false]) (by simp [results, Try.results55, go_sem]) rfl ⟨⟨0, false, rfl, HW.out⟩, by exact bel_of⟩
      · skip
        have hw : worthP E ts ⟨src, dst, -1⟩ = none := by unfold worthP; dsimp only; rw [if_neg (by omega), if_neg (by omega), if_pos (by omega)]
        have HW := Lib.hid hw
        clear hw
        have bsrc : (src == -1) = false := beq_eq_false_iff_ne.2 (by omega)
        have psrc : decide (0 ≤ src) = false := decide_eq_false (by omega)
        have bdst : (dst == -1) = false := beq_eq_false_iff_ne.2 (by omega)
        obtain ⟨hdst1, hdst2⟩ := hdst
        have pdst : decide (0 ≤ dst) = true := decide_eq_true (by omega)
        have rdst : decide (dst < (E : Int)) = true := decide_eq_true (by omega)
        go_enter Try.func55, Try.ntmps55
        go_upto_region 4 with fail
        go_quiet (fail)
        go_wp2_with fail
        refine bodyPost_ret (v := .tuple #[.int .i64 (0), .bool false]) (by simp [results, Try.results55, go_sem]) rfl ⟨⟨0, false, rfl, HW.out⟩, by exact bel_of⟩
      · skip
        have hw : worthP E ts ⟨src, dst, -1⟩ = none := by unfold worthP; dsimp only; rw [if_neg (by omega), if_neg (by omega), if_pos (by omega)]
        have HW := Lib.hid hw
        clear hw
        have bsrc : (src == -1) = false := beq_eq_false_iff_ne.2 (by omega)
        have psrc : decide (0 ≤ src) = false := decide_eq_false (by omega)
        have bdst : (dst == -1) = false := beq_eq_false_iff_ne.2 (by omega)
        have pdst : decide (0 ≤ dst) = true := decide_eq_true (by omega)
        have rdst : decide (dst < (E : Int)) = false := decide_eq_false (by omega)
        go_enter Try.func55, Try.ntmps55
        go_upto_region 4 with fail
        go_quiet (fail)
        go_wp2_with fail
        refine bodyPost_ret (v := .tuple #[.int .i64 (0), .bool false]) (by simp [results, Try.results55, go_sem]) rfl ⟨⟨0, false, rfl, HW.out⟩, by exact bel_of⟩
      · skip
        have hw : worthP E ts ⟨src, dst, -1⟩ = none := by unfold worthP; dsimp only; rw [if_neg (by omega), if_neg (by omega), if_pos (by omega)]
        have HW := Lib.hid hw
        clear hw
        have bsrc : (src == -1) = false := beq_eq_false_iff_ne.2 (by omega)
        have psrc : decide (0 ≤ src) = false := decide_eq_false (by omega)
        have bdst : (dst == -1) = false := beq_eq_false_iff_ne.2 (by omega)
        have pdst : decide (0 ≤ dst) = false := decide_eq_false (by omega)
        go_enter Try.func55, Try.ntmps55
        go_upto_region 4 with fail
        go_quiet (fail)
        go_wp2_with fail
        refine bodyPost_ret (v := .tuple #[.int .i64 (0), .bool false]) (by simp [results, Try.results55, go_sem]) rfl ⟨⟨0, false, rfl, HW.out⟩, by exact bel_of⟩
  · have bt : (tst == -1) = false := beq_eq_false_iff_ne.2 ht
    by_cases h1 : tst < 0
    · have hw : worthP E ts ⟨src, dst, tst⟩ = none := by unfold worthP; dsimp only; rw [if_neg (by omega), if_neg (by omega), if_pos (by omega)]
      have HW := Lib.hid hw
      clear hw ht hA hc
      go_enter Try.func55, Try.ntmps55
      go_wp2_with fail
      refine bodyPost_ret (v := .tuple #[.int .i64 0, .bool false]) (by simp [results, Try.results55, go_sem]) rfl ⟨⟨0, false, rfl, HW.out⟩, by exact bel_of⟩
    · by_cases h2 : (ts.length : Int) ≤ tst
      · have hw : worthP E ts ⟨src, dst, tst⟩ = none := by unfold worthP; dsimp only; rw [if_neg (by omega), if_neg (by omega), if_pos (by omega)]
        have HW := Lib.hid hw
        clear hw ht hA hc
        go_enter Try.func55, Try.ntmps55
        go_wp2_with fail
        refine bodyPost_ret (v := .tuple #[.int .i64 0, .bool false]) (by simp [results, Try.results55, go_sem]) rfl ⟨⟨0, false, rfl, HW.out⟩, by exact bel_of⟩
      · obtain ⟨i, rfl⟩ : ∃ i : Nat, tst = i := ⟨tst.toNat, by omega⟩
        have hi : i < ts.length := by omega
        obtain ⟨rfl, hb⟩ := hA (by omega)
        obtain ⟨d1, d2, d3, d4⟩ := hc i hi
        have hrg := rng_of ho hi
        have hwp : worthP E ts ⟨src, dst, (i : Int)⟩ = if src = (nthT ts i).two ∧ dst = (nthT ts i).one then some (nthT ts i).hi else if src = (nthT ts i).one ∧ dst = (nthT ts i).two then some (-(nthT ts i).lo) else none := by
          unfold worthP; dsimp only; rw [if_neg (by omega), if_neg (by omega), if_neg (by omega), Int.toNat_natCast]
        have ww : IntKind.i64.wrap (-(nthT ts i).lo) = -(nthT ts i).lo := by rw [IntKind.wrap_i64]; omega
        generalize nthT ts i = t at *
        have HWP := Lib.hid hwp
        clear hwp hc hA h1 h2 ht hrg
        have nz : ¬ (i : Int) < 0 := by omega
        have nl : ¬ (ts.length : Int) ≤ (i : Int) := by omega
        cases c1 : (src == t.two) <;> cases c2 : (dst == t.one) <;> cases c3 : (src == t.one) <;> cases c4 : (dst == t.two)
        · skip
          have hw : worthP E ts ⟨src, dst, (i : Int)⟩ = none := by rw [HWP.out, if_neg (fun hh => by rw [beq_iff_eq.2 hh.1] at c1; cases c1), if_neg (fun hh => by rw [beq_iff_eq.2 hh.1] at c3; cases c3)]
          have HW := Lib.hid hw
          clear hw
          go_enter Try.func55, Try.ntmps55
          go_upto_region 10 with fail
          go_quiet (fail)
          go_wp2_with fail
          refine bodyPost_ret (v := .tuple #[.int .i64 (-t.lo), .bool false]) (by simp [results, Try.results55, go_sem]) rfl ⟨⟨-t.lo, false, rfl, HW.out⟩, by exact bel_of⟩
        · skip
          have hw : worthP E ts ⟨src, dst, (i : Int)⟩ = none := by rw [HWP.out, if_neg (fun hh => by rw [beq_iff_eq.2 hh.1] at c1; cases c1), if_neg (fun hh => by rw [beq_iff_eq.2 hh.1] at c3; cases c3)]
          have HW := Lib.hid hw
          clear hw
          go_enter Try.func55, Try.ntmps55
          go_upto_region 10 with fail
          go_quiet (fail)
          go_wp2_with fail
          refine bodyPost_ret (v := .tuple #[.int .i64 (-t.lo), .bool false]) (by simp [results, Try.results55, go_sem]) rfl ⟨⟨-t.lo, false, rfl, HW.out⟩, by exact bel_of⟩
        · skip
          have hw : worthP E ts ⟨src, dst, (i : Int)⟩ = none := by rw [HWP.out, if_neg (fun hh => by rw [beq_iff_eq.2 hh.1] at c1; cases c1), if_neg (fun hh => by rw [beq_iff_eq.2 hh.2] at c4; cases c4)]
          have HW := Lib.hid hw
          clear hw
          go_enter Try.func55, Try.ntmps55
          go_upto_region 10 with fail
          go_quiet (fail)
          go_wp2_with fail
          refine bodyPost_ret (v := .tuple #[.int .i64 (-t.lo), .bool false]) (by simp [results, Try.results55, go_sem]) rfl ⟨⟨-t.lo, false, rfl, HW.out⟩, by exact bel_of⟩
        · skip
          have hw : worthP E ts ⟨src, dst, (i : Int)⟩ = some (-t.lo) := by rw [HWP.out, if_neg (fun hh => by rw [beq_iff_eq.2 hh.1] at c1; cases c1), if_pos ⟨eq_of_beq c3, eq_of_beq c4⟩]
          have HW := Lib.hid hw
          clear hw
          go_enter Try.func55, Try.ntmps55
          go_upto_region 10 with fail
          go_quiet (fail)
          go_wp2_with fail
          refine bodyPost_ret (v := .tuple #[.int .i64 (-t.lo), .bool true]) (by simp [results, Try.results55, go_sem]) rfl ⟨⟨-t.lo, true, rfl, HW.out⟩, by exact bel_of⟩
        · skip
          have hw : worthP E ts ⟨src, dst, (i : Int)⟩ = none := by rw [HWP.out, if_neg (fun hh => by rw [beq_iff_eq.2 hh.1] at c1; cases c1), if_neg (fun hh => by rw [beq_iff_eq.2 hh.1] at c3; cases c3)]
          have HW := Lib.hid hw
          clear hw
          go_enter Try.func55, Try.ntmps55
          go_upto_region 10 with fail
          go_quiet (fail)
          go_wp2_with fail
          refine bodyPost_ret (v := .tuple #[.int .i64 (-t.lo), .bool false]) (by simp [results, Try.results55, go_sem]) rfl ⟨⟨-t.lo, false, rfl, HW.out⟩, by exact bel_of⟩
        · skip
          have hw : worthP E ts ⟨src, dst, (i : Int)⟩ = none := by rw [HWP.out, if_neg (fun hh => by rw [beq_iff_eq.2 hh.1] at c1; cases c1), if_neg (fun hh => by rw [beq_iff_eq.2 hh.1] at c3; cases c3)]
          have HW := Lib.hid hw
          clear hw
          go_enter Try.func55, Try.ntmps55
          go_upto_region 10 with fail
          go_quiet (fail)
          go_wp2_with fail
          refine bodyPost_ret (v := .tuple #[.int .i64 (-t.lo), .bool false]) (by simp [results, Try.results55, go_sem]) rfl ⟨⟨-t.lo, false, rfl, HW.out⟩, by exact bel_of⟩
        · skip
          have hw : worthP E ts ⟨src, dst, (i : Int)⟩ = none := by rw [HWP.out, if_neg (fun hh => by rw [beq_iff_eq.2 hh.1] at c1; cases c1), if_neg (fun hh => by rw [beq_iff_eq.2 hh.2] at c4; cases c4)]
          have HW := Lib.hid hw
          clear hw
          go_enter Try.func55, Try.ntmps55
          go_upto_region 10 with fail
          go_quiet (fail)
          go_wp2_with fail
          refine bodyPost_ret (v := .tuple #[.int .i64 (-t.lo), .bool false]) (by simp [results, Try.results55, go_sem]) rfl ⟨⟨-t.lo, false, rfl, HW.out⟩, by exact bel_of⟩
        · skip
          have hw : worthP E ts ⟨src, dst, (i : Int)⟩ = some (-t.lo) := by rw [HWP.out, if_neg (fun hh => by rw [beq_iff_eq.2 hh.1] at c1; cases c1), if_pos ⟨eq_of_beq c3, eq_of_beq c4⟩]
          have HW := Lib.hid hw
          clear hw
          go_enter Try.func55, Try.ntmps55
          go_upto_region 10 with fail
          go_quiet (fail)
          go_wp2_with fail
          refine bodyPost_ret (v := .tuple #[.int .i64 (-t.lo), .bool true]) (by simp [results, Try.results55, go_sem]) rfl ⟨⟨-t.lo, true, rfl, HW.out⟩, by exact bel_of⟩
        · skip
          have hw : worthP E ts ⟨src, dst, (i : Int)⟩ = none := by rw [HWP.out, if_neg (fun hh => by rw [beq_iff_eq.2 hh.2] at c2; cases c2), if_neg (fun hh => by rw [beq_iff_eq.2 hh.1] at c3; cases c3)]
          have HW := Lib.hid hw
          clear hw
          go_enter Try.func55, Try.ntmps55
          go_upto_region 10 with fail
          go_quiet (fail)
          go_wp2_with fail
          refine bodyPost_ret (v := .tuple #[.int .i64 (-t.lo), .bool false]) (by simp [results, Try.results55, go_sem]) rfl ⟨⟨-t.lo, false, rfl, HW.out⟩, by exact bel_of⟩
        · skip
          have hw : worthP E ts ⟨src, dst, (i : Int)⟩ = none := by rw [HWP.out, if_neg (fun hh => by rw [beq_iff_eq.2 hh.2] at c2; cases c2), if_neg (fun hh => by rw [beq_iff_eq.2 hh.1] at c3; cases c3)]
          have HW := Lib.hid hw
          clear hw
          go_enter Try.func55, Try.ntmps55
          go_upto_region 10 with fail
          go_quiet (fail)
          go_wp2_with fail
          refine bodyPost_ret (v := .tuple #[.int .i64 (-t.lo), .bool false]) (by simp [results, Try.results55, go_sem]) rfl ⟨⟨-t.lo, false, rfl, HW.out⟩, by exact bel_of⟩
        · skip
          have hw : worthP E ts ⟨src, dst, (i : Int)⟩ = none := by rw [HWP.out, if_neg (fun hh => by rw [beq_iff_eq.2 hh.2] at c2; cases c2), if_neg (fun hh => by rw [beq_iff_eq.2 hh.2] at c4; cases c4)]
          have HW := Lib.hid hw
          clear hw
          go_enter Try.func55, Try.ntmps55
          go_upto_region 10 with fail
          go_quiet (fail)
          go_wp2_with fail
          refine bodyPost_ret (v := .tuple #[.int .i64 (-t.lo), .bool false]) (by simp [results, Try.results55, go_sem]) rfl ⟨⟨-t.lo, false, rfl, HW.out⟩, by exact bel_of⟩
        · skip
          have hw : worthP E ts ⟨src, dst, (i : Int)⟩ = some (-t.lo) := by rw [HWP.out, if_neg (fun hh => by rw [beq_iff_eq.2 hh.2] at c2; cases c2), if_pos ⟨eq_of_beq c3, eq_of_beq c4⟩]
          have HW := Lib.hid hw
          clear hw
          go_enter Try.func55, Try.ntmps55
          go_upto_region 10 with fail
          go_quiet (fail)
          go_wp2_with fail
          refine bodyPost_ret (v := .tuple #[.int .i64 (-t.lo), .bool true]) (by simp [results, Try.results55, go_sem]) rfl ⟨⟨-t.lo, true, rfl, HW.out⟩, by exact bel_of⟩
        · skip
          have hw : worthP E ts ⟨src, dst, (i : Int)⟩ = some t.hi := by rw [HWP.out, if_pos ⟨eq_of_beq c1, eq_of_beq c2⟩]
          have HW := Lib.hid hw
          clear hw
          go_enter Try.func55, Try.ntmps55
          go_wp2_with fail
          refine bodyPost_ret (v := .tuple #[.int .i64 (t.hi), .bool true]) (by simp [results, Try.results55, go_sem]) rfl ⟨⟨t.hi, true, rfl, HW.out⟩, by exact bel_of⟩
        · skip
          have hw : worthP E ts ⟨src, dst, (i : Int)⟩ = some t.hi := by rw [HWP.out, if_pos ⟨eq_of_beq c1, eq_of_beq c2⟩]
          have HW := Lib.hid hw
          clear hw
          go_enter Try.func55, Try.ntmps55
          go_wp2_with fail
          refine bodyPost_ret (v := .tuple #[.int .i64 (t.hi), .bool true]) (by simp [results, Try.results55, go_sem]) rfl ⟨⟨t.hi, true, rfl, HW.out⟩, by exact bel_of⟩
        · skip
          have hw : worthP E ts ⟨src, dst, (i : Int)⟩ = some t.hi := by rw [HWP.out, if_pos ⟨eq_of_beq c1, eq_of_beq c2⟩]
          have HW := Lib.hid hw
          clear hw
          go_enter Try.func55, Try.ntmps55
          go_wp2_with fail
          refine bodyPost_ret (v := .tuple #[.int .i64 (t.hi), .bool true]) (by simp [results, Try.results55, go_sem]) rfl ⟨⟨t.hi, true, rfl, HW.out⟩, by exact bel_of⟩
        · skip
          have hw : worthP E ts ⟨src, dst, (i : Int)⟩ = some t.hi := by rw [HWP.out, if_pos ⟨eq_of_beq c1, eq_of_beq c2⟩]
          have HW := Lib.hid hw
          clear hw
          go_enter Try.func55, Try.ntmps55
          go_wp2_with fail
          refine bodyPost_ret (v := .tuple #[.int .i64 (t.hi), .bool true]) (by simp [results, Try.results55, go_sem]) rfl ⟨⟨t.hi, true, rfl, HW.out⟩, by exact bel_of⟩
end Go.Proofs.Ytkljdbgkhghiaaa
