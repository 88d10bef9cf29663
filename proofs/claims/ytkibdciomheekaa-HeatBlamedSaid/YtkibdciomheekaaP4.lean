/- Ranges of hardnesses; ways: which are valid, for the program. CheckWay of the program. What a hardness can be after a way, for the program. A region in a round, by the walk of the plain mode; a region that draws its order: reads first, then one operation after another, 'S' holding wherever a read may still be to come. A region that draws its order, taken step by step: reads first, then each operation that may come. The reads of a region that draws, first, all at once; what is left comes step by step. -/
import Derived.Test.YtkibdciomheekaaP2
import Derived.Test.YtkibdciomheekaaP3
import Derived.Deep.QuietTactic
import Derived.BigQuiet
import Derived.Deep.DeepCutAuto
import Derived.OrdersHeld
import Derived.StillTail
import Derived.Test.YtkibdciomheekaaRows
import Derived.Deep.RegionHeld3
set_option linter.all false
set_option linter.unnecessarySimpa false
set_option linter.unusedSimpArgs false
set_option linter.unusedVariables false
set_option linter.unusedSectionVars false

set_option linter.all false
namespace Go.Proofs.Ytkibdciomheekaa
open Go.RowKit Hp

theorem ret_int {k : IntKind} {a b : Int} (h : a = b) : Ending.returned (.int k a) = .returned (.int k b) := by rw [h]
theorem ret_bool {a b : Bool} (h : a = b) : Ending.returned (.bool a) = .returned (.bool b) := by rw [h]
def rV (r : Rg) : Value := .agg #[.int .i64 r.lo, .int .i64 r.hi]
theorem hard_in (lo hi : Int) : hard ⟨lo, hi⟩ = (decide (lo ≤ hi) && (inB 0 1000 lo && inB 0 1000 hi)) := by
  rw [Bool.eq_iff_iff, hard_iff]
  simp [inB_iff]
  omega

set_option maxHeartbeats 1000000 in
theorem isHard_any (r : Rg) (w : World) :
    Calls Try.prog 56 #[rV r] w fun e w' => e = .returned (.bool (hard r)) ∧ Below w.heap.size w w' := by
  obtain ⟨lo, hi⟩ := r
  have HD := Lib.hid (hard_in lo hi)
  unfold rV
  go_enter Try.func56, Try.ntmps56
  by_cases h : lo ≤ hi
  · have HB := Lib.hid (HD.out.trans (by rw [decide_eq_true h]))
    clear HD
    go_wp2_with fail
    refine (within_2 _ _ _ _ _ _ (by simp)).mono ?_
    rintro e w' ⟨rfl, rfl⟩
    go_wp2_with fail
    go_ret
    exact ⟨ret_bool (by rw [HB.out]; rfl), by exact bel_of⟩
  · have HB := Lib.hid (HD.out.trans (by rw [decide_eq_false h]))
    clear HD
    go_wp2_with fail
    go_ret
    exact ⟨ret_bool (by rw [HB.out]; rfl), by exact bel_of⟩

theorem RK.slice {w : World} {B : Nat} {v : Value} {l : Wy} (h : RK w B v l) : ∃ A c, v = .slice A l.length c := by
  obtain ⟨A, cap, b, off, hv, _⟩ := h
  exact ⟨A, cap, hv⟩
def wV (v : Value) : Value := .agg #[v]
/-- What comes next. -/
def nxt (ks : Wy) (k : Nat) : Int := if k = 0 then 0 else (nthK ks (k - 1)).src + 1
theorem okK_eq (ks : Wy) (k : Nat) : okK ks k = (!(decide ((nthK ks k).src < nxt ks k) || (decide (k = 0) && decide (0 < (nthK ks k).src)) || decide (1000 < (nthK ks k).src)) && hard (nthK ks k).rg) := by
  unfold okK nxt
  rw [Bool.eq_iff_iff]
  by_cases h : k = 0 <;> simp [h] <;> omega
end Go.Proofs.Ytkibdciomheekaa

set_option linter.all false
namespace Go.Proofs.Ytkibdciomheekaa
open Go.RowKit Hp

theorem wayE_range {ks : Wy} (h1 : ¬ (ks.length = 0 ∨ 12 < ks.length)) {k : Nat} (hk : k < ks.length) (h : okK ks k = false) : wayE ks = 3 := by
  unfold wayE
  rw [if_neg h1, if_pos (allB_no hk h)]
theorem wayE_rule {ks : Wy} (h1 : ¬ (ks.length = 0 ∨ 12 < ks.length)) (h2 : allB (okK ks) ks.length = true) {k : Nat} (hk : k < ks.length - 1) (h : okR ks k = false) : wayE ks = 16 := by
  unfold wayE
  rw [if_neg h1, if_neg (by rw [h2]; simp), if_pos (allB_no hk h)]
theorem wayE_ok {ks : Wy} (h1 : ¬ (ks.length = 0 ∨ 12 < ks.length)) (h2 : allB (okK ks) ks.length = true) (h3 : allB (okR ks) (ks.length - 1) = true) : wayE ks = 0 := by
  unfold wayE
  rw [if_neg h1, if_neg (by rw [h2]; simp), if_neg (by rw [h3]; simp)]
theorem okR_eq {ks : Wy} {k : Nat} (h : (nthK ks k).lo ≤ (nthK ks k).hi) : okR ks k = (inB (nthK ks k).lo ((nthK ks k).hi + 1) (nthK ks (k + 1)).lo && !decide ((nthK ks (k + 1)).hi < (nthK ks k).hi)) := by
  unfold okR
  rw [Bool.eq_iff_iff]
  simp [inB_iff]
  omega

set_option maxHeartbeats 4000000 in
set_option maxRecDepth 100000 in
theorem checkWay_any (ks : Wy) (v : Value) (w : World) (hl : ks.length ≤ maxLen) (h : RK w w.heap.size v ks) :
    Calls Try.prog 19 #[wV v] w fun e w' => e = .returned (.int .i64 (wayE ks)) ∧ Below w.heap.size w w' := by
  unfold maxLen at hl
  obtain ⟨A, cap, rfl⟩ := h.slice
  have hcap := (RS.cap h).2
  unfold wV
  have hC : Below w.heap.size w w := Below.refl _ _
  obtain ⟨n0, hn0⟩ : ∃ n, w.heap.size = n := ⟨_, rfl⟩
  have hK := h
  clear h
  rw [hn0] at hC
  by_cases hm : ks.length = 0 ∨ 12 < ks.length
  · have HE := Lib.hid (show wayE ks = 6 by unfold wayE; rw [if_pos hm])
    rcases hm with hm | hm
    · have hz : (ks.length : Int) = 0 := by omega
      clear hm
      go_enter Try.func19, Try.ntmps19
      go_wp2_with fail
      go_ret
      exact ⟨ret_int HE.out.symm, by exact bel_of⟩
    · have hz : ((ks.length : Int) == 0) = false := beq_eq_false_iff_ne.2 (by omega)
      have hz2 : (ks.length : Int) > 12 := by omega
      clear hm
      go_enter Try.func19, Try.ntmps19
      go_wp2_with fail
      go_ret
      exact ⟨ret_int HE.out.symm, by exact bel_of⟩
  have HM := Lib.hid hm
  have hz : ((ks.length : Int) == 0) = false := beq_eq_false_iff_ne.2 (by omega)
  have hz2 : ¬ (ks.length : Int) > 12 := by omega
  have hl12 : ks.length ≤ 12 := by omega
  have hl1 : 1 ≤ ks.length := by omega
  clear hm
  go_enter Try.func19, Try.ntmps19
  go_upto_region 3 with fail
  have bx : BK (w.alloc (.cells #[.slice A ks.length cap] 28)) n0 #[.slice A ks.length cap] 28 := BK.new' _ _ _ n0 hn0
  replace hC : Below n0 w (w.alloc (.cells #[.slice A ks.length cap] 28)) := Below.alloc hC (by omega) _
  replace hK := (RS.below hK (w' := (w.alloc (.cells #[.slice A ks.length cap] 28))) (Below.alloc (Below.refl _ _) (Nat.le_refl _) _)).more (B' := (w.alloc (.cells #[.slice A ks.length cap] 28)).heap.size) (by simp)
  generalize (w.alloc (.cells #[.slice A ks.length cap] 28)) = W1 at *
  clear hz hz2
  have lb := bx.lt
  have c0 := bx.cell 0
  simp at c0
  go_wp2_with fail
  clear lb c0
  go_loopw [22, 3] (fun i x wr => ∃ k : Nat, k ≤ ks.length ∧ i = .int .i64 k ∧ x = .int .i64 (nxt ks k) ∧ nxt ks k ≤ 1001 ∧ 0 ≤ nxt ks k ∧ allB (okK ks) k = true ∧ Below W1.heap.size W1 wr) (fun i _ _ => ks.length - (intOf i).toNat)
  case atStart => exact ⟨0, Nat.zero_le _, rfl, rfl, by simp [nxt], by simp [nxt], rfl, Below.refl _ _⟩
  case round =>
    obtain ⟨k, hk, rfl, rfl, hx1, hx0, hall, hb⟩ := hrel
    replace hC := hC.trans (hb.mono (by have := hC.size; omega))
    replace hK := (RS.below hK hb).more hb.size
    replace bx := bx.below hb bx.lt
    have hbr := Lib.hid hb
    have HALL := Lib.hid hall
    clear hb hall
    by_cases hlt : k < ks.length
    · have hlt' : (k : Int) < (ks.length : Int) := by omega
      obtain ⟨A', cap', bb, off, hve, hA, hc⟩ := RK.cells hK
      obtain ⟨rfl, hbb⟩ := hA (by omega)
      injection hve with q1 q2 q3
      subst q1 q3
      obtain ⟨d0, d1, d2⟩ := hc k hlt
      have HQ := Lib.hid (okK_eq ks k)
      have HN := Lib.hid (show nxt ks (k + 1) = (nthK ks k).src + 1 by unfold nxt; rw [if_neg (by omega), Nat.add_sub_cancel])
      obtain ⟨⟨src, lo, hi⟩, hkk⟩ : ∃ x, nthK ks k = x := ⟨_, rfl⟩
      rw [hkk] at d0 d1 d2 HQ HN
      dsimp only at d0 d1 d2 HQ HN
      unfold Kk.rg at HQ
      obtain ⟨x, hx⟩ : ∃ x, nxt ks k = x := ⟨_, rfl⟩
      rw [hx] at HQ hx1 hx0
      rw [hx]
      clear hA hc q2 hkk hx
      -- the kink in a box
      go_upto_region 7 with fail
      obtain ⟨m, hm⟩ : ∃ m, wr.heap.size = m := ⟨_, rfl⟩
      have kx : BK (wr.alloc (.cells #[.int .i64 src, .int .i64 lo, .int .i64 hi] 92)) m #[.int .i64 src, .int .i64 lo, .int .i64 hi] 92 := BK.new' _ _ _ m hm
      have hb2 : Below wr.heap.size wr (wr.alloc (.cells #[.int .i64 src, .int .i64 lo, .int .i64 hi] 92)) := Below.alloc (Below.refl _ _) (Nat.le_refl _) _
      replace hC := hC.trans (hb2.mono (by have := hC.size; omega))
      have hbr2 := Lib.hid (hbr.out.trans (hb2.mono hbr.out.size))
      try rw [hm]
      clear hb2 hm d0 d1 d2
      generalize (wr.alloc (.cells #[.int .i64 src, .int .i64 lo, .int .i64 hi] 92)) = W2 at *
      have lk := kx.lt
      have k0 := kx.cell 0
      have k1 := kx.cell 1
      have k2 := kx.cell 2
      simp at k0 k1 k2
      have bad : okK ks k = false → wayE ks = 3 := fun h => wayE_range HM.out hlt h
      have BAD := Lib.hid bad
      clear bad
      by_cases a1 : src < x
      · have HE := Lib.hid (BAD.out (by rw [HQ.out]; simp [a1]))
        have b1 : decide (src < x) = true := decide_eq_true a1
        clear a1
        go_wp2_with fail
        go_ret
        exact ⟨ret_int HE.out.symm, by first | exact hC | (rw [hn0]; exact hC)⟩
      have b1 : decide (src < x) = false := decide_eq_false a1
      by_cases a2 : k = 0 ∧ 0 < src
      · have HE := Lib.hid (BAD.out (by rw [HQ.out]; simp [a2.1, a2.2]))
        obtain ⟨rfl, a2⟩ := a2
        have b2 : decide (src > 0) = true := decide_eq_true a2
        go_wp2_with fail
        go_ret
        exact ⟨ret_int HE.out.symm, by first | exact hC | (rw [hn0]; exact hC)⟩
      by_cases a3 : 1000 < src
      · have HE := Lib.hid (BAD.out (by rw [HQ.out]; simp [a3]))
        have b3 : decide (1000 < src) = true := decide_eq_true a3
        by_cases a4 : k = 0
        · have b4 : ((k : Int) == 0) = true := by simp [a4]
          have b5 : decide (0 < src) = false := decide_eq_false (by omega)
          exfalso; omega
        · have b4 : ((k : Int) == 0) = false := beq_eq_false_iff_ne.2 (by omega)
          go_wp2_with fail
          go_ret
          exact ⟨ret_int HE.out.symm, by first | exact hC | (rw [hn0]; exact hC)⟩
      have b3 : decide (1000 < src) = false := decide_eq_false a3
      have fin : ∀ q : Bool, hard ⟨lo, hi⟩ = q → (q = false → wayE ks = 3) ∧ (q = true → okK ks k = true) := fun q hq => ⟨fun h => BAD.out (by rw [HQ.out, hq, h]; simp), fun h => by
        rw [HQ.out, hq, h]
        by_cases h0 : k = 0
        · have : ¬ 0 < src := fun hs => a2 ⟨h0, hs⟩
          simp [a1, a3, this]
        · simp [a1, a3, h0]⟩
      have FIN := Lib.hid fin
      clear fin
      have hs0 : x ≤ src := by omega
      have hs1 : src ≤ 1000 := by omega
      by_cases a4 : k = 0
      all_goals
        first
        | (have b4 : ((k : Int) == 0) = true := by simp [a4])
        | (have b4 : ((k : Int) == 0) = false := beq_eq_false_iff_ne.2 (by omega))
        first
        | (have b5 : decide (0 < src) = false := decide_eq_false (fun hs => a2 ⟨a4, hs⟩))
        | skip
        have A4 := Lib.hid a4
        clear a4 a2 a1 a3
        go_wp2_with fail
        refine (isHard_any ⟨lo, hi⟩ _).mono ?_
        rintro e w3 ⟨rfl, hb⟩
        obtain ⟨q, hq⟩ : ∃ q, hard ⟨lo, hi⟩ = q := ⟨_, rfl⟩
        have HF := Lib.hid (FIN.out q hq)
        rw [hq]
        replace hC := hC.trans (hb.mono (by have := hC.size; omega))
        have hbr3 := Lib.hid (hbr2.out.trans (hb.mono hbr2.out.size))
        replace kx := kx.below hb kx.lt
        clear hb hq k0 k1 k2 lk
        have lk := kx.lt
        have k0 := kx.cell 0
        simp at k0
        cases q
        case false =>
          have HE := Lib.hid (HF.out.1 rfl)
          go_wp2_with fail
          go_ret
          exact ⟨ret_int HE.out.symm, by first | exact hC | (rw [hn0]; exact hC)⟩
        have HO := Lib.hid (allB_yes HALL.out (HF.out.2 rfl))
        go_wp2_with fail
        go_roundw
        case rel => exact ⟨k + 1, by omega, by go_num, by rw [HN.out], by rw [HN.out]; omega, by rw [HN.out]; omega, HO.out, hbr3.out⟩
        case measure => simp [intOf]; omega
    · have hlt' : ¬ (k : Int) < (ks.length : Int) := by omega
      have hke : k = ks.length := by omega
      rw [hke] at HALL
      have HOK := Lib.hid (allB_iff.1 HALL.out)
      clear hx1 hx0 hk hlt hke hbr
      have lb := bx.lt
      have c0 := bx.cell 0
      simp at c0
      obtain ⟨A', cap', bb, off, hve, hA, hc⟩ := RK.cells hK
      obtain ⟨rfl, hbb⟩ := hA (by omega)
      injection hve with q1 q2 q3
      subst q1 q3
      clear hA hc q2
      have hl2 : ((ks.length - 1 : Nat) : Int) = (ks.length : Int) - 1 := by omega
      by_cases hc1 : cap = 1
      · have h1 : ks.length = 1 := by omega
        have HE := Lib.hid (wayE_ok HM.out HALL.out (by rw [h1]; rfl))
        have h1' : (ks.length : Int) = 1 := by omega
        clear hl2
        subst hc1
        rw [h1]
        go_wp2_with fail
        go_loopw [59] (fun i wr' => i = .int .i64 0 ∧ wr' = wr) (fun _ _ => 0)
        case atStart => exact ⟨rfl, rfl⟩
        case round =>
          obtain ⟨rfl, rfl⟩ := hrel
          go_wp2_with fail
          go_ret
          exact ⟨ret_int HE.out.symm, by first | exact hC | (rw [hn0]; exact hC)⟩
      obtain ⟨wo, rfl⟩ : ∃ wo : World, wo = wr := ⟨_, rfl⟩
      go_wp2_with fail
      clear lb c0
      go_loopw [59] (fun i wr => ∃ k : Nat, k ≤ ks.length - 1 ∧ i = .int .i64 k ∧ allB (okR ks) k = true ∧ Below wo.heap.size wo wr) (fun i _ => ks.length - 1 - (intOf i).toNat)
      case atStart => exact ⟨0, Nat.zero_le _, rfl, rfl, Below.refl _ _⟩
      case round =>
        obtain ⟨k, hk, rfl, hall, hb⟩ := hrel
        replace hC := hC.trans (hb.mono (by have := hC.size; omega))
        replace hK := (RS.below hK hb).more hb.size
        replace bx := bx.below hb bx.lt
        have hbr := Lib.hid hb
        have HALR := Lib.hid hall
        clear hb hall
        by_cases hlt : k < ks.length - 1
        · have hlt' : (k : Int) < (ks.length : Int) - 1 := by omega
          have hlt2 : (k : Int) < ((ks.length - 1 : Nat) : Int) := by omega
          obtain ⟨A', cap', bb', off', hve, hA, hc⟩ := RK.cells hK
          obtain ⟨hA', hbb'⟩ := hA (by omega)
          rw [hA'] at hve
          injection hve with q1 q2 q3
          injection q1 with q1
          injection q1 with q4 q5
          subst q4 q5
          obtain ⟨d0, d1, d2⟩ := hc k (by omega)
          obtain ⟨e0, e1, e2⟩ := hc (k + 1) (by omega)
          rw [show off + (k + 1) * 3 = off + 3 + k * 3 by omega] at e0 e1 e2
          have hr := HOK.out k (by omega)
          have hr2 := hard_iff.1 (Bool.and_eq_true_iff.1 hr).2
          have HQ := Lib.hid (okR_eq (ks := ks) (k := k) hr2.1)
          obtain ⟨⟨src, lo, hi⟩, hkk⟩ : ∃ x, nthK ks k = x := ⟨_, rfl⟩
          obtain ⟨⟨src', lo', hi'⟩, hkk'⟩ : ∃ x, nthK ks (k + 1) = x := ⟨_, rfl⟩
          rw [hkk] at d0 d1 d2 hr2
          rw [hkk'] at e0 e1 e2
          rw [hkk, hkk'] at HQ
          unfold Kk.rg at hr2
          dsimp only at d0 d1 d2 e0 e1 e2 HQ hr2
          have hhi : hi ≤ 1000 := hr2.2.2
          have hlo : 0 ≤ hi := by omega
          clear hA hc q2 q3 hkk hkk' hr hr2 hA'
          go_upto_region 14 with fail
          obtain ⟨m, hm⟩ : ∃ m, wr.heap.size = m := ⟨_, rfl⟩
          have kx : BK (wr.alloc (.cells #[.int .i64 src', .int .i64 lo', .int .i64 hi'] 92)) m #[.int .i64 src', .int .i64 lo', .int .i64 hi'] 92 := BK.new' _ _ _ m hm
          have hb2 : Below wr.heap.size wr (wr.alloc (.cells #[.int .i64 src', .int .i64 lo', .int .i64 hi'] 92)) := Below.alloc (Below.refl _ _) (Nat.le_refl _) _
          have hs2 : (wr.alloc (.cells #[.int .i64 src', .int .i64 lo', .int .i64 hi'] 92)).heap.size = m + 1 := by simp [hm]
          replace hC := hC.trans (hb2.mono (by have := hC.size; omega))
          have hbr2 := Lib.hid (hbr.out.trans (hb2.mono hbr.out.size))
          replace bx := bx.below hb2 bx.lt
          rw [← hb2.cell (by exact hbb')] at d0 d1 d2
          replace hbb' : bb < m + 1 := by omega
          try rw [hm]
          clear hb2 e0 e1 e2 hm d0
          generalize (wr.alloc (.cells #[.int .i64 src', .int .i64 lo', .int .i64 hi'] 92)) = W2 at *
          have lb := bx.lt
          have c0 := bx.cell 0
          simp at c0
          go_upto_region 15 with fail
          clear lb c0
          have rx : BK (W2.alloc (.cells #[.int .i64 lo, .int .i64 hi] 33)) (m + 1) #[.int .i64 lo, .int .i64 hi] 33 := BK.new' _ _ _ (m + 1) hs2
          have hb2 : Below W2.heap.size W2 (W2.alloc (.cells #[.int .i64 lo, .int .i64 hi] 33)) := Below.alloc (Below.refl _ _) (Nat.le_refl _) _
          replace hC := hC.trans (hb2.mono (by have := hC.size; omega))
          have hbr3 := Lib.hid (hbr2.out.trans (hb2.mono hbr2.out.size))
          replace kx := kx.below hb2 kx.lt
          try rw [hs2]
          clear hb2 hs2 d1 d2
          generalize (W2.alloc (.cells #[.int .i64 lo, .int .i64 hi] 33)) = W3 at *
          have lk := kx.lt
          have k1 := kx.cell 1
          have k2 := kx.cell 2
          have lr := rx.lt
          have r0 := rx.cell 0
          have r1 := rx.cell 1
          simp at k1 k2 r0 r1
          go_wp2_with fail
          refine (within_1 _ _ _ _ _ (by simp)).mono ?_
          rintro e w4 ⟨rfl, hw4⟩
          have hb : Below W3.heap.size W3 w4 := by rw [← hw4]; exact bel_of
          clear hw4
          replace hC := hC.trans (hb.mono (by have := hC.size; omega))
          have hbr4 := Lib.hid (hbr3.out.trans (hb.mono hbr3.out.size))
          replace kx := kx.below hb kx.lt
          replace rx := rx.below hb rx.lt
          clear hb lk k1 k2 lr r0 r1
          have lk := kx.lt
          have k2 := kx.cell 2
          have lr := rx.lt
          have r1 := rx.cell 1
          simp at k2 r1
          obtain ⟨q, hq⟩ : ∃ q, inB lo (hi + 1) lo' = q := ⟨_, rfl⟩
          rw [hq] at HQ ⊢
          clear hq
          cases q
          case false =>
            have HE := Lib.hid (wayE_rule HM.out HALL.out hlt (by rw [HQ.out]; simp))
            go_wp2_with fail
            go_ret
            exact ⟨ret_int HE.out.symm, by first | exact hC | (rw [hn0]; exact hC)⟩
          by_cases a1 : hi' < hi
          · have HE := Lib.hid (wayE_rule HM.out HALL.out hlt (by rw [HQ.out]; simp [a1]))
            have b1 : decide (hi' < hi) = true := decide_eq_true a1
            go_wp2_with fail
            go_ret
            exact ⟨ret_int HE.out.symm, by first | exact hC | (rw [hn0]; exact hC)⟩
          have b1 : decide (hi' < hi) = false := decide_eq_false a1
          have HO := Lib.hid (allB_yes HALR.out (by rw [HQ.out]; simp [a1]))
          clear a1
          go_wp2_with fail
          go_roundw
          case rel => exact ⟨k + 1, by omega, by go_num, HO.out, hbr4.out⟩
          case measure => simp [intOf]; omega
        · have hlt' : ¬ (k : Int) < (ks.length : Int) - 1 := by omega
          have hke : k = ks.length - 1 := by omega
          rw [hke] at HALR
          have HE := Lib.hid (wayE_ok HM.out HALL.out HALR.out)
          clear hke
          go_wp2_with fail
          go_ret
          exact ⟨ret_int HE.out.symm, by first | exact hC | (rw [hn0]; exact hC)⟩
end Go.Proofs.Ytkibdciomheekaa

set_option linter.all false
namespace Go.Proofs.Ytkibdciomheekaa
open Go.RowKit Hp

theorem fin_rg {W : World} {g : Nat} {c0 c1 : Value} {t : TypeId} (h : BK W g #[c0, c1] t) (a b : Value) : BK ((W.setCell ⟨g, 0, none⟩ a).setCell ⟨g, 1, none⟩ b) g #[a, b] t := by simpa using (h.set 0 a).set 1 b
set_option maxHeartbeats 2000000 in
set_option maxRecDepth 100000 in
theorem after_any (ks : Wy) (v : Value) (h : Int) (w : World) (ok : OkW ks) (h0 : 0 ≤ h) (hK : RK w w.heap.size v ks) :
    Calls Try.prog 54 #[wV v, .int .i64 h] w fun e w' => e = .returned (rV (aft ks h)) ∧ Below w.heap.size w w' := by
  obtain ⟨A, cap, bb, off, rfl, hA, hc⟩ := RK.cells hK
  have hp := ok.pos
  have hf := ok.few
  have hz := ok.zero
  obtain ⟨rfl, hbb⟩ := hA (by omega)
  clear hA
  have OK := Lib.hid ok
  clear ok
  unfold wV
  have hC : Below w.heap.size w w := Below.refl _ _
  obtain ⟨n0, hn0⟩ : ∃ n, w.heap.size = n := ⟨_, rfl⟩
  have bx : BK (w.alloc (.cells #[.slice (some ⟨bb, off, none⟩) ks.length cap] 28)) n0 #[.slice (some ⟨bb, off, none⟩) ks.length cap] 28 := BK.new' _ _ _ n0 hn0
  have hs1 : (w.alloc (.cells #[.slice (some ⟨bb, off, none⟩) ks.length cap] 28)).heap.size = n0 + 1 := by simp [hn0]
  rw [hn0] at hC
  have hC1 : Below n0 w (w.alloc (.cells #[.slice (some ⟨bb, off, none⟩) ks.length cap] 28)) := Below.alloc hC (by omega) _
  go_enter Try.func54, Try.ntmps54
  go_upto_region 1 with fail
  try rw [hn0]
  generalize (w.alloc (.cells #[.slice (some ⟨bb, off, none⟩) ks.length cap] 28)) = W1 at *
  have rx : BK (W1.alloc (.cells #[.int .i64 0, .int .i64 0] 33)) (n0 + 1) #[.int .i64 0, .int .i64 0] 33 := BK.new' _ _ _ (n0 + 1) hs1
  replace hC1 : Below n0 w (W1.alloc (.cells #[.int .i64 0, .int .i64 0] 33)) := Below.alloc hC1 (by omega) _
  replace bx := bx.alloc (.cells #[.int .i64 0, .int .i64 0] 33)
  try rw [hs1]
  clear hs1 hC
  generalize (W1.alloc (.cells #[.int .i64 0, .int .i64 0] 33)) = W2 at *
  have hb0 : bb < n0 := by omega
  have hc2 : ∀ k, k < ks.length → W2.cell? ⟨bb, off + k * 3, none⟩ = some (.int .i64 (nthK ks k).src) ∧ W2.cell? ⟨bb, off + k * 3 + 1, none⟩ = some (.int .i64 (nthK ks k).lo) ∧ W2.cell? ⟨bb, off + k * 3 + 2, none⟩ = some (.int .i64 (nthK ks k).hi) := fun k hk => by
    obtain ⟨a, b, c⟩ := hc k hk
    exact ⟨(hC1.cell (by exact hb0)).trans a, (hC1.cell (by exact hb0)).trans b, (hC1.cell (by exact hb0)).trans c⟩
  have HC := Lib.hid hc2
  clear hc hc2 hbb hK
  have lb := bx.lt
  have c0 := bx.cell 0
  simp at c0
  have wl : IntKind.i64.wrap ((ks.length : Int) - 1) = (ks.length : Int) - 1 := by rw [IntKind.wrap_i64]; omega
  go_wp2_with fail
  go_loop [5] (fun i => ∃ k : Nat, k < ks.length ∧ i = .int .i64 k ∧ ∀ j, k < j → j < ks.length → h < (nthK ks j).src) (fun i => (intOf i).toNat)
  case atStart => exact ⟨ks.length - 1, by omega, by go_num, fun j h1 h2 => by omega⟩
  case round =>
    obtain ⟨k, hk, rfl, hab⟩ := hrel
    have hk' : (k : Int) < (ks.length : Int) := by omega
    have HAB := Lib.hid hab
    clear hab wl
    obtain ⟨d0, d1, d2⟩ := HC.out k hk
    by_cases hgt : h < (nthK ks k).src
    · have hk0 : 0 < k := by
        rcases Nat.eq_zero_or_pos k with e | e
        · subst e; omega
        · exact e
      have HG := Lib.hid hgt
      obtain ⟨x, hx⟩ : ∃ x, (nthK ks k).src = x := ⟨_, rfl⟩
      rw [hx] at d0 hgt
      have b1 : decide (h < x) = true := decide_eq_true hgt
      clear hx hgt hz
      go_wp2_with fail
      go_round
      case rel => exact ⟨k - 1, by omega, by go_num, fun j h1 h2 => by
        rcases Nat.lt_or_ge k j with e | e
        · exact HAB.out j e h2
        · obtain rfl : j = k := by omega
          exact HG.out⟩
      case measure => simp [intOf]; omega
    · have HE := Lib.hid (aft_at OK.out h0 hk (by omega) HAB.out)
      obtain ⟨⟨src, lo, hi⟩, hkk⟩ : ∃ x, nthK ks k = x := ⟨_, rfl⟩
      rw [hkk] at d0 d1 d2 hgt HE
      dsimp only at d0 d1 d2 hgt
      have b1 : decide (h < src) = false := decide_eq_false hgt
      have lr := rx.lt
      have r0 := rx.cell 0
      have r1 := rx.cell 1
      have f0 := rx.frozen 0
      have f1 := rx.frozen 1
      simp at r0 r1
      clear hkk hgt hz
      go_wp2_with fail
      clear r0 r1 f0 f1
      have rs := fin_rg rx (.int .i64 lo) (.int .i64 hi)
      have z0 := rs.cell 0
      have z1 := rs.cell 1
      simp at z0 z1
      exact bodyPost_ret (v := rV ⟨lo, hi⟩) (by simp [results, Try.results54, go_sem, z0, z1, rV]) rfl ⟨by rw [HE.out]; rfl, by (try rw [hn0]); exact Below.setCell (Below.setCell hC1 (by show n0 ≤ n0 + 1; omega) _) (by show n0 ≤ n0 + 1; omega) _⟩

def afterR (ks : Wy) (h : Int) : Rg := if wayE ks = 0 ∧ inB 0 1000 h = true then aft ks h else ⟨0, 0⟩
def afterE (ks : Wy) (h : Int) : Int := if wayE ks ≠ 0 then wayE ks else if inB 0 1000 h = true then 0 else 2
theorem after_bad {ks : Wy} {h e : Int} (he : wayE ks = e) (h0 : e ≠ 0) : afterR ks h = ⟨0, 0⟩ ∧ afterE ks h = e := by
  unfold afterR afterE
  rw [he]
  exact ⟨if_neg fun h => h0 h.1, if_pos h0⟩
theorem after_out {ks : Wy} {h : Int} (he : wayE ks = 0) (hq : inB 0 1000 h = false) : afterR ks h = ⟨0, 0⟩ ∧ afterE ks h = 2 := by
  unfold afterR afterE
  rw [he, hq]
  exact ⟨if_neg (by simp), by simp⟩
theorem after_in {ks : Wy} {h : Int} (he : wayE ks = 0) (hq : inB 0 1000 h = true) : afterR ks h = aft ks h ∧ afterE ks h = 0 := by
  unfold afterR afterE
  rw [he, hq]
  exact ⟨if_pos ⟨rfl, rfl⟩, by simp⟩
def AfterPost (ks : Wy) (h : Int) (w : World) (e : Ending) (w' : World) : Prop := e = .returned (.tuple #[rV (afterR ks h), .int .i64 (afterE ks h)]) ∧ Below w.heap.size w w'
theorem AfterPost.mk' {ks : Wy} {h : Int} {r : Rg} {x : Int} {w w' : World} (hq : afterR ks h = r ∧ afterE ks h = x) (hb : Below w.heap.size w w') : AfterPost ks h w (.returned (.tuple #[rV r, .int .i64 x])) w' := ⟨by rw [hq.1, hq.2], hb⟩

set_option maxHeartbeats 2000000 in
set_option maxRecDepth 100000 in
theorem afterX_any (ks : Wy) (v : Value) (h : Int) (w : World) (hl : ks.length ≤ maxLen) (hK : RK w w.heap.size v ks) :
    Calls Try.prog 17 #[wV v, .int .i64 h] w (AfterPost ks h w) := by
  obtain ⟨A, cap, rfl⟩ := hK.slice
  unfold wV
  have hC : Below w.heap.size w w := Below.refl _ _
  obtain ⟨n0, hn0⟩ : ∃ n, w.heap.size = n := ⟨_, rfl⟩
  have bx : BK (w.alloc (.cells #[.slice A ks.length cap] 28)) n0 #[.slice A ks.length cap] 28 := BK.new' _ _ _ n0 hn0
  have hs1 : (w.alloc (.cells #[.slice A ks.length cap] 28)).heap.size = n0 + 1 := by simp [hn0]
  rw [hn0] at hC
  replace hC : Below n0 w (w.alloc (.cells #[.slice A ks.length cap] 28)) := Below.alloc hC (by omega) _
  replace hK := (RS.below hK (w' := (w.alloc (.cells #[.slice A ks.length cap] 28))) (Below.alloc (Below.refl _ _) (Nat.le_refl _) _)).more (B' := (w.alloc (.cells #[.slice A ks.length cap] 28)).heap.size) (by simp)
  go_enter Try.func17, Try.ntmps17
  go_upto_region 1 with fail
  try rw [hn0]
  generalize (w.alloc (.cells #[.slice A ks.length cap] 28)) = W1 at *
  have rx : BK (W1.alloc (.cells #[.int .i64 0, .int .i64 0] 33)) (n0 + 1) #[.int .i64 0, .int .i64 0] 33 := BK.new' _ _ _ (n0 + 1) hs1
  replace hC : Below n0 w (W1.alloc (.cells #[.int .i64 0, .int .i64 0] 33)) := Below.alloc hC (by omega) _
  replace bx := bx.alloc (.cells #[.int .i64 0, .int .i64 0] 33)
  replace hK := (RS.below hK (w' := (W1.alloc (.cells #[.int .i64 0, .int .i64 0] 33))) (Below.alloc (Below.refl _ _) (Nat.le_refl _) _)).more (B' := (W1.alloc (.cells #[.int .i64 0, .int .i64 0] 33)).heap.size) (by simp)
  try rw [hs1]
  clear hs1
  generalize (W1.alloc (.cells #[.int .i64 0, .int .i64 0] 33)) = W2 at *
  have lb := bx.lt
  have c0 := bx.cell 0
  simp at c0
  go_wp2_with fail
  refine (checkWay_any ks _ _ hl hK).mono ?_
  rintro e w3 ⟨rfl, hb⟩
  replace hC := hC.trans (hb.mono (by have := hC.size; omega))
  replace hK := (RS.below hK hb).more hb.size
  replace bx := bx.below hb bx.lt
  replace rx := rx.below hb rx.lt
  clear hb lb c0
  obtain ⟨e, he⟩ : ∃ e, wayE ks = e := ⟨_, rfl⟩
  rw [he]
  by_cases e0 : e = 0
  · subst e0
    have OK := Lib.hid (okW_of he)
    have HE := Lib.hid he
    clear he
    go_wp2_with fail
    refine (within_1 _ _ _ _ _ (by simp)).mono ?_
    rintro e w4 ⟨rfl, hw4⟩
    have hb : Below w3.heap.size w3 w4 := by rw [← hw4]; exact bel_of
    clear hw4
    replace hC := hC.trans (hb.mono (by have := hC.size; omega))
    replace hK := (RS.below hK hb).more hb.size
    replace bx := bx.below hb bx.lt
    replace rx := rx.below hb rx.lt
    clear hb
    obtain ⟨q, hq⟩ : ∃ q, inB 0 1000 h = q := ⟨_, rfl⟩
    rw [hq]
    have lb := bx.lt
    have c0 := bx.cell 0
    simp at c0
    cases q
    · have lr := rx.lt
      have r0 := rx.cell 0
      have r1 := rx.cell 1
      have f0 := rx.frozen 0
      have f1 := rx.frozen 1
      simp at r0 r1
      have HV := Lib.hid (after_out HE.out hq)
      clear hq
      go_wp2_with fail
      clear r0 r1 f0 f1
      have rs := fin_rg rx (.int .i64 0) (.int .i64 0)
      have z0 := rs.cell 0
      have z1 := rs.cell 1
      simp at z0 z1
      exact bodyPost_ret (v := .tuple #[rV ⟨0, 0⟩, .int .i64 2]) (by simp [results, Try.results17, go_sem, z0, z1, rV]) rfl (AfterPost.mk' HV.out (by (try rw [hn0]); exact Below.setCell (Below.setCell hC (by show n0 ≤ n0 + 1; omega) _) (by show n0 ≤ n0 + 1; omega) _))
    · have hh0 := ((inB_iff 0 1000 h).1 hq).1
      have HV := Lib.hid (after_in HE.out hq)
      clear hq
      go_wp2_with fail
      refine (after_any ks _ h _ OK.out hh0 hK).mono ?_
      rintro e w5 ⟨rfl, hb⟩
      replace hC := hC.trans (hb.mono (by have := hC.size; omega))
      replace rx := rx.below hb rx.lt
      clear hb hK bx lb c0
      obtain ⟨⟨lo, hi⟩, ha⟩ : ∃ x, aft ks h = x := ⟨_, rfl⟩
      rw [ha] at HV ⊢
      unfold rV
      have lr := rx.lt
      have r0 := rx.cell 0
      have r1 := rx.cell 1
      have f0 := rx.frozen 0
      have f1 := rx.frozen 1
      simp at r0 r1
      clear ha
      go_wp2_with fail
      clear r0 r1 f0 f1
      have rs := fin_rg rx (.int .i64 lo) (.int .i64 hi)
      have z0 := rs.cell 0
      have z1 := rs.cell 1
      simp at z0 z1
      exact bodyPost_ret (v := .tuple #[rV ⟨lo, hi⟩, .int .i64 0]) (by simp [results, Try.results17, go_sem, z0, z1, rV]) rfl (AfterPost.mk' HV.out (by (try rw [hn0]); exact Below.setCell (Below.setCell hC (by show n0 ≤ n0 + 1; omega) _) (by show n0 ≤ n0 + 1; omega) _))
  · have b1 : (e != 0) = true := by simp [e0]
    have lr := rx.lt
    have r0 := rx.cell 0
    have r1 := rx.cell 1
    have f0 := rx.frozen 0
    have f1 := rx.frozen 1
    simp at r0 r1
    have HV := Lib.hid (after_bad (h := h) he e0)
    clear he e0
    go_wp2_with fail
    clear r0 r1 f0 f1
    have rs := fin_rg rx (.int .i64 0) (.int .i64 0)
    have z0 := rs.cell 0
    have z1 := rs.cell 1
    simp at z0 z1
    exact bodyPost_ret (v := .tuple #[rV ⟨0, 0⟩, .int .i64 e]) (by simp [results, Try.results17, go_sem, z0, z1, rV]) rfl (AfterPost.mk' HV.out (by (try rw [hn0]); exact Below.setCell (Below.setCell hC (by show n0 ≤ n0 + 1; omega) _) (by show n0 ≤ n0 + 1; omega) _))
end Go.Proofs.Ytkibdciomheekaa

namespace Go.Proofs.Ytkibdciomheekaa
open Go.RowKit

section
variable {P : Program} {ops : Array Oper} {Q : Exit → Act → World → Prop} {l m : Nat}

theorem wpOpsIn_of_wpOps (hq : ¬ LetsOut Q) (hd : ops.all (fun o => match o.op with | .defer _ => false | _ => true) = true) :
    ∀ (is : List Nat) (a : Act) (w : World), wpOps P ops Q is a w → wpOpsIn (Fence.wide.inRound l) m P ops Q is a w := by
  intro is
  induction is with
  | nil => intro a w h; exact h
  | cons i rest ih =>
    intro a w h
    simp only [wpOps, wpOpsIn] at h ⊢
    cases ho : ops[i]? with
    | none => simp only [ho] at h ⊢; exact ih _ _ h
    | some o =>
      simp only [ho] at h ⊢
      have hnd : ∀ c, o.op ≠ .defer c := by
        intro c hc
        have := Array.all_eq_true_iff_forall_mem.1 hd o (Array.mem_of_getElem? ho)
        simp [hc] at this
      by_cases hw : Region.wanted o (yielded ops a.tmps) = true
      · simp only [hw, if_true] at h ⊢
        rcases h with h | ⟨_, h⟩
        case inr => exact absurd h hq
        refine ⟨fun _ _ => trivial, ?_⟩
        rw [Oper.semAt_eq _ _ _ hnd]
        unfold Oper.wp at h
        generalize (execOp a.eval o).run P w = r at *
        cases r with
        | ok n w' =>
          cases n <;> simp only [Oper.upon, Oper.uponIn] at h ⊢ <;> first
            | exact ih _ _ h
            | exact h.elim
            | (refine ⟨(fun hh => by cases hh), CallsIn.inRound l (callsIn_wide.2 (Calls.mono h ?_))⟩
               intro e w'' he
               cases e <;> first | exact ih _ _ he | exact he)
            | (refine ⟨(fun hh => by cases hh), ?_⟩
               intro c cs _
               obtain ⟨v, w'', hr, hs⟩ := h c cs
               exact ⟨v, w'', ih _ _ hr, stepsIn_wide.2 hs⟩)
        | halt x w' => cases x <;> simp only [Oper.upon, Oper.uponIn] at h ⊢ <;> exact h
      · simp only [hw] at h ⊢
        exact ⟨fun _ _ => trivial, ih _ _ h⟩

variable {md : Region.Mode} {S : World → Prop} {E : List Nat}
def waitsT (md : Region.Mode) (ops : Array Oper) : Nat → Nat → Nat → Bool
  | 0, _, _ => false
  | f + 1, j, i => match ops[j]? with
    | some oj => oj.after.any fun e => Region.binds md e && (e.on == i || waitsT md ops f e.on i)
    | none => false
def waitsAll (md : Region.Mode) (ops : Array Oper) (E : List Nat) (i : Nat) : Bool := E.all fun e => waitsT md ops ops.size i e
theorem getD_both' {listed : Array Bool} {i : Nat} (h : listed.getD i false = true) : listed.getD i true = true := by
  rcases Nat.lt_or_ge i listed.size with h' | h'
  · simp [h'] at h ⊢; exact h
  · simp [Array.getElem?_eq_none h'] at h
/-- What is listed has what it waits for listed, too. -/
def Inv (md : Region.Mode) (ops : Array Oper) (listed : Array Bool) : Prop := ∀ (j : Nat) (oj : Oper), ops[j]? = some oj → listed.getD j true = true → ∀ e ∈ oj.after, Region.binds md e = true → listed.getD e.on true = true
theorem waitsT_listed {listed : Array Bool} (h : Inv md ops listed) {i : Nat} : ∀ (f j : Nat), (∀ oj, ops[j]? = some oj → ∀ e ∈ oj.after, Region.binds md e = true → listed.getD e.on true = true) → waitsT md ops f j i = true → listed.getD i true = true
  | 0, _, _, hw => by cases hw
  | f + 1, j, hj, hw => by
    unfold waitsT at hw
    split at hw
    · rename_i oj hoj
      obtain ⟨e, he, hb⟩ := Array.any_eq_true'.1 hw
      simp only [Bool.and_eq_true, Bool.or_eq_true, beq_iff_eq] at hb
      have h1 := hj oj hoj e he hb.1
      rcases hb.2 with rfl | h2
      · exact h1
      · exact waitsT_listed h f e.on (fun o ho e' he' hb' => h _ o ho h1 e' he' hb') h2
    · cases hw
theorem Inv.none (md : Region.Mode) (ops : Array Oper) : Inv md ops (Array.replicate ops.size false) := by
  intro j oj hoj hj
  have := (Array.getElem?_eq_some_iff.1 hoj).1
  simp [this] at hj
theorem Inv.set {listed : Array Bool} (h : Inv md ops listed) {i : Nat} (hi : i ∈ Region.ready md ops listed) : Inv md ops (listed.setIfInBounds i true) := by
  obtain ⟨hun, oi, hoi, hall⟩ := mem_ready.1 hi
  have up : ∀ k, listed.getD k true = true → (listed.setIfInBounds i true).getD k true = true := fun k hk => by
    by_cases hik : i = k
    · subst hik; rw [hk] at hun; cases hun
    · rw [getD_set_ne true hik]; exact hk
  intro j oj hoj hj e he hb
  by_cases hij : i = j
  · subst hij
    rw [hoi] at hoj; cases hoj
    refine up _ ?_
    have h1 := hall e he hb
    exact getD_both' h1
  · rw [getD_set_ne true hij] at hj
    exact up _ (h j oj hoj hj e he hb)

def wpAnyF (P : Program) (md : Region.Mode) (ops : Array Oper) (Q : Exit → Act → World → Prop) (S : World → Prop) (E : List Nat) : Nat → Array Bool → Act → World → Prop
  | 0, listed, a, w => Region.ready md ops listed = [] ∧ Q .normal a w
  | fuel + 1, listed, a, w =>
    (Region.ready md ops listed = [] → Q .normal a w) ∧
    ∀ i ∈ Region.ready md ops listed, wpOp P ops Q i (fun a' w' => (waitsAll md ops E i = false → S w') ∧ wpAnyF P md ops Q S E fuel (listed.setIfInBounds i true) a' w') a w

theorem wpAny_of_F : ∀ (fuel : Nat) (listed : Array Bool) (a : Act) (w : World), wpAnyF P md ops Q S E fuel listed a w → wpAny P md ops Q fuel listed a w
  | 0, _, _, _, h => h
  | fuel + 1, _, _, _, h => ⟨h.1, fun i hi => wpOp_mono (fun a' w' h' => wpAny_of_F fuel _ a' w' h'.2) (h.2 i hi)⟩

theorem wpAnyF_first {i : Nat} {oi : Oper} {v : Value} (hiE : i ∈ E) (hi : ops[i]? = some oi) (hsel : ∀ (j : Nat) (o : Oper) cs b, ops[j]? = some o → o.op ≠ .select cs b)
    (hQ : ∀ c a w, Q (.panic c) (a.put oi.dst v) w → Q (.panic c) a w) :
    ∀ (fuel : Nat) (listed : Array Bool) (a : Act) (w : World),
      (∀ j oj, ops[j]? = some oj → j ≠ i → listed.getD j true = false → (∀ e ∈ oj.after, Region.binds md e = true → e.on ≠ i) → oi.apart ops oj = true) →
      Inv md ops listed → i ∈ Region.ready md ops listed → YieldsIf P ops S oi v a → S w →
      wpAnyF P md ops Q S E fuel (listed.setIfInBounds i true) (a.put oi.dst v) w → wpAnyF P md ops Q S E (fuel + 1) listed a w := by
  intro fuel
  induction fuel with
  | zero =>
    intro listed a w _ _ hr hy hS H
    refine ⟨fun h => (by rw [h] at hr; cases hr), fun j hj => ?_⟩
    by_cases hji : j = i
    · subst hji; exact hy.wpOp hi hS ⟨fun _ => hS, H⟩
    · have := ready_mono hj hji
      rw [H.1] at this
      cases this
  | succ fuel ih =>
    intro listed a w hfree hinv hr hy hS H
    refine ⟨fun h => (by rw [h] at hr; cases hr), fun j hj => ?_⟩
    by_cases hji : j = i
    · subst hji; exact hy.wpOp hi hS ⟨fun _ => hS, H⟩
    · have h1 := H.2 j (ready_mono hj hji)
      obtain ⟨hjun, oj, hoj, hall⟩ := mem_ready.1 hj
      have hnot : ∀ e ∈ oj.after, Region.binds md e = true → e.on ≠ i := fun e he hb heq => by
        have h1 := hall e he hb
        have h0 := (mem_ready.1 hr).1
        rw [heq, getD_both h0] at h1
        cases h1
      have hflag : waitsAll md ops E j = false := by
        rw [← Bool.not_eq_true]
        intro hw
        have h5 := waitsT_listed hinv _ j (fun o ho e he hb => by
          rw [hoj] at ho; cases ho
          exact getD_both' (hall e he hb)) (List.all_eq_true.1 hw i hiE)
        rw [(mem_ready.1 hr).1] at h5; cases h5
      have h2 := wpOp_putIf hoj (hfree j oj hoj hji hjun hnot) (fun cs b => hsel i oi cs b hi) (fun cs b => hsel j oj cs b hoj) hQ hy h1
      have hfree' : ∀ k ok, ops[k]? = some ok → k ≠ i → (listed.setIfInBounds j true).getD k true = false →
          (∀ e ∈ ok.after, Region.binds md e = true → e.on ≠ i) → oi.apart ops ok = true := fun k ok hk hki hun hno => by
        refine hfree k ok hk hki ?_ hno
        by_cases hjk : j = k
        · subst hjk; exact hjun
        · rw [getD_set_ne true hjk] at hun; exact hun
      refine wpOp_mono (fun a' w' h3 => ⟨h3.2.1, ih (listed.setIfInBounds j true) a' w' hfree' (hinv.set hj) (ready_mono hr (Ne.symm hji)) h3.1 (h3.2.1 hflag) ?_⟩) h2
      rw [Array.setIfInBounds_comm _ _ hji]
      exact h3.2.2

/-- The reads, one after another. -/
def wpY (P : Program) (ops : Array Oper) (S : World → Prop) (L : Act → Prop) : List Oper → Act → Prop
  | [], a => L a
  | o :: r, a => ∃ v, YieldsIf P ops S o v a ∧ wpY P ops S L r (a.put o.dst v)
/-- The others, one after another; behind one that does not wait for all reads S is to be shown. -/
def wpF (P : Program) (md : Region.Mode) (ops : Array Oper) (Q : Exit → Act → World → Prop) (S : World → Prop) (E : List Nat) : Nat → List Oper → Act → World → Prop
  | _, [], a, w => Q .normal a w
  | k, o :: r, a, w => if Region.wanted o (yielded ops a.tmps) then o.wp P a w (fun a' w' => (waitsAll md ops E k = false → S w') ∧ wpF P md ops Q S E (k + 1) r a' w') Q
    else (waitsAll md ops E k = false → S w) ∧ wpF P md ops Q S E (k + 1) r (a.put o.dst undef) w

/-- The Bool that the kernel reckons. -/
def earlyB (ops : Array Oper) (n : Nat) : Bool := Region.noSelect ops && decide (n ≤ ops.size) && Region.lexHead .any ops (ops.size - n) n 0 (Array.replicate ops.size false) && ops.all (fun o => match o.op with | .defer _ => false | _ => true)

/-- An operation that appends, its run being known. -/
theorem wp_append_run {o : Oper} {a : Act} {w w' : World} {K : Act → World → Prop} (s x : Operand) (t : TypeId) (v : Value)
    (ho : o.op = .call { callee := .builtin .append, args := #[s, x], argTypes := #[t, t] })
    (hrun : (Builtin.append_ #[t, t] o.type #[a.eval s, a.eval x]).run P w = .ok v w') (h : K (a.put o.dst v) w') : o.wp P a w K Q := by
  unfold Oper.wp execOp
  simp only [ho, resolve, invoke, builtin, Sem.run_bind, Sem.run_pure, Result.andThen_ok, List.map_toArray, List.map_cons, List.map_nil, hrun]
  exact h
end
end Go.Proofs.Ytkibdciomheekaa

namespace Go.Proofs.Ytkibdciomheekaa
open Go.RowKit
section
variable {P : Program} {ops : Array Oper} {Q : Exit → Act → World → Prop} {l m : Nat} {md : Region.Mode} {S : World → Prop} {E : List Nat}

def invB (md : Region.Mode) (ops : Array Oper) (listed : Array Bool) : Bool := (List.range ops.size).all fun j => !listed.getD j true || ((ops[j]?).map fun o => o.after.all fun e => !Region.binds md e || listed.getD e.on true).getD true
theorem inv_of {listed : Array Bool} (h : invB md ops listed = true) : Inv md ops listed := by
  intro j oj hoj hj e he hb
  have hlt := (Array.getElem?_eq_some_iff.1 hoj).1
  have h1 := List.all_eq_true.1 h j (List.mem_range.2 hlt)
  rw [hj, hoj] at h1
  simp only [Bool.not_true, Bool.false_or, Option.map_some, Option.getD_some] at h1
  have h2 := Array.all_eq_true_iff_forall_mem.1 h1 e he
  rw [hb] at h2
  simpa using h2

/-- Whether the read i may be taken ahead of all that may come. -/
def takeB (md : Region.Mode) (ops : Array Oper) (E : List Nat) (listed : Array Bool) (i : Nat) : Bool :=
  Region.noSelect ops && E.contains i && Region.free md ops listed i && invB md ops listed && (Region.ready md ops listed).contains i

theorem any_take (i : Nat) (v : Value) {oi : Oper} {fuel : Nat} {listed : Array Bool} {a : Act} {w : World} (hi : ops[i]? = some oi) (hB : takeB md ops E listed i = true)
    (hQ : ∀ c (a : Act) d (v : Value) w, Q (.panic c) (a.put d v) w → Q (.panic c) a w) (hy : YieldsIf P ops S oi v a) (hS : S w)
    (h : wpAnyF P md ops Q S E fuel (listed.setIfInBounds i true) (a.put oi.dst v) w) : wpAnyF P md ops Q S E (fuel + 1) listed a w := by
  simp only [takeB, Bool.and_eq_true] at hB
  obtain ⟨⟨⟨⟨h1, h2⟩, h3⟩, h4⟩, h5⟩ := hB
  exact wpAnyF_first (by simpa using h2) hi (Region.noSelect_spec h1) (fun c a w => hQ c a _ _ w) fuel listed a w (Region.free_spec hi h3) (inv_of h4) (by simpa using h5) hy hS h

/-- A read is taken; its value by the walk, and the frame in its literal form. -/
theorem any_tk {W0 : World} (i : Nat) {v : Value} {oi : Oper} {fuel : Nat} {listed : Array Bool} {a a' : Act} {w : World}
    (h : wpAnyF P md ops Q (Below W0.heap.size W0) E fuel (listed.setIfInBounds i true) a' w)
    (hi : ops[i]? = some oi := by rfl)
    (hB : takeB md ops E listed i = true := by kernel_rfl)
    (hQ : ∀ c (a : Act) d (v : Value) w, Q (.panic c) (a.put d v) w → Q (.panic c) a w := by exact fun _ _ _ _ _ hx => hx.elim)
    (hw : Region.wanted oi (yielded ops a.tmps) = true := by rfl)
    (hS : Below W0.heap.size W0 w := by exact bel_of)
    (hy : ∀ X, Below W0.heap.size W0 X → (execOp a.eval oi).run P X = .ok (.value v) X := by (intro X hX; obtain ⟨r1, r2⟩ := Below.rules hX; clear hX; go_simp; rfl))
    (ha : a.put oi.dst v = a' := by (simp only [List.getElem_toArray, List.getElem_cons_succ, List.getElem_cons_zero, Act.put, List.setIfInBounds_toArray, List.set_cons_succ, List.set_cons_zero]; rfl)) :
    wpAnyF P md ops Q (Below W0.heap.size W0) E (fuel + 1) listed a w := any_take i v hi hB hQ (.inl ⟨hw, hy⟩) hS (ha ▸ h)

theorem any_run1 {i : Nat} {o : Oper} {fuel : Nat} {listed : Array Bool} {a : Act} {w : World} (hr : Region.ready md ops listed = [i]) (hi : ops[i]? = some o) (hg : Region.wanted o (yielded ops a.tmps) = true)
    (h : ∀ K : Act → World → Prop, (∀ a' w', (waitsAll md ops E i = false → S w') → wpAnyF P md ops Q S E fuel (listed.setIfInBounds i true) a' w' → K a' w') → o.wp P a w K Q) : wpAnyF P md ops Q S E (fuel + 1) listed a w := by
  refine ⟨fun he => (by rw [hr] at he; cases he), fun j hj => ?_⟩
  rw [hr] at hj
  have : j = i := by simpa using hj
  subst this
  unfold wpOp
  simp only [hi, hg]
  exact .inl (h _ fun a' w' h1 h2 => ⟨h1, h2⟩)

theorem any_skip1 {i : Nat} {o : Oper} {fuel : Nat} {listed : Array Bool} {a : Act} {w : World} (hr : Region.ready md ops listed = [i]) (hi : ops[i]? = some o) (hg : Region.wanted o (yielded ops a.tmps) = false) (hS : S w)
    (h : wpAnyF P md ops Q S E fuel (listed.setIfInBounds i true) (a.put o.dst undef) w) : wpAnyF P md ops Q S E (fuel + 1) listed a w := by
  refine ⟨fun he => (by rw [hr] at he; cases he), fun j hj => ?_⟩
  rw [hr] at hj
  have : j = i := by simpa using hj
  subst this
  unfold wpOp
  simp only [hi, hg]
  exact ⟨fun _ => hS, h⟩

theorem any_run2 {i j : Nat} {o o' : Oper} {fuel : Nat} {listed : Array Bool} {a : Act} {w : World} (hr : Region.ready md ops listed = [i, j]) (hi : ops[i]? = some o) (hj : ops[j]? = some o')
    (hg : Region.wanted o (yielded ops a.tmps) = true) (hg' : Region.wanted o' (yielded ops a.tmps) = true)
    (h : ∀ K : Act → World → Prop, (∀ a' w', (waitsAll md ops E i = false → S w') → wpAnyF P md ops Q S E fuel (listed.setIfInBounds i true) a' w' → K a' w') → o.wp P a w K Q)
    (h' : ∀ K : Act → World → Prop, (∀ a' w', (waitsAll md ops E j = false → S w') → wpAnyF P md ops Q S E fuel (listed.setIfInBounds j true) a' w' → K a' w') → o'.wp P a w K Q) : wpAnyF P md ops Q S E (fuel + 1) listed a w := by
  refine ⟨fun he => (by rw [hr] at he; cases he), fun k hk => ?_⟩
  rw [hr] at hk
  have : k = i ∨ k = j := by simpa using hk
  rcases this with rfl | rfl
  · unfold wpOp
    simp only [hi, hg]
    exact .inl (h _ fun a' w' h1 h2 => ⟨h1, h2⟩)
  · unfold wpOp
    simp only [hj, hg']
    exact .inl (h' _ fun a' w' h1 h2 => ⟨h1, h2⟩)

theorem any_done {listed : Array Bool} {a : Act} {w : World} (hr : Region.ready md ops listed = []) (h : Q .normal a w) : wpAnyF P md ops Q S E 0 listed a w := ⟨hr, h⟩

theorem plain_any {id : Nat} {a : Act} {w : World} {os : List Oper} (E : List Nat) (S : World → Prop) (hm : P.follows .mixedOrders = true)
    (h : wpAnyF P .any os.toArray Q S E os.length (Array.replicate os.length false) a w.drew) : (Code.region id os.toArray true).wp P Q a w :=
  wp_region_any hm (by have := wpAny_of_F _ _ _ _ h; simpa using this)

theorem round_any {id : Nat} {a : Act} {w : World} {os : List Oper} (E : List Nat) (S : World → Prop) (hm : P.follows .mixedOrders = true) (hd : os.toArray.all (fun o => match o.op with | .defer _ => false | _ => true) = true) (hq : ¬ LetsOut Q)
    (h : wpAnyF P .any os.toArray Q S E os.length (Array.replicate os.length false) a w.drew) : (Code.region id os.toArray true).wpIn (Fence.wide.inRound l) m P Q a w := by
  refine wpIn_region_draw fun t => wpOpsIn_of_wpOps hq hd _ _ _ ?_
  simp only [Region.schedule, hm, Bool.true_or, if_true]
  have h' := wpAny_of_F _ _ _ _ h
  exact wpAny_sound _ t _ a _ (by simpa using h')

theorem BK.put {W : World} {g D : Nat} {cs : Array Value} {t : TypeId} (h : BK W g cs t) (hne : g ≠ D) (o : Obj) : BK (W.putObj D o) g cs t := (World.putObj_heap_other hne).trans h
theorem below_put {n D : Nat} {w W : World} (h : Below n w W) (hn : n ≤ D) (o : Obj) : Below n w (W.putObj D o) :=
  h.trans ⟨rfl, rfl, rfl, by simp, fun k hk => World.putObj_heap_other (by omega)⟩
end
end Go.Proofs.Ytkibdciomheekaa

namespace Go.Proofs.Ytkibdciomheekaa
open Go.RowKit
section
variable {P : Program} {ops : Array Oper} {Q : Exit → Act → World → Prop} {l m : Nat} {md : Region.Mode} {S : World → Prop} {E : List Nat}

def lexOnly (md : Region.Mode) (ops : Array Oper) : Nat → Nat → Array Bool → Bool
  | 0, _, _ => true
  | f + 1, k, listed => (Region.ready md ops listed).contains k && Region.free md ops listed k && lexOnly md ops f (k + 1) (listed.setIfInBounds k true)
def setN : Nat → Nat → Array Bool → Array Bool
  | 0, _, l => l
  | f + 1, k, l => setN f (k + 1) (l.setIfInBounds k true)

def lexAB (ops : Array Oper) (n : Nat) : Bool := Region.noSelect ops && decide (n ≤ ops.size) && lexOnly .any ops n 0 (Array.replicate ops.size false)

end
theorem mixed : Try.prog.follows .mixedOrders = true := by kernel_rfl
end Go.Proofs.Ytkibdciomheekaa
