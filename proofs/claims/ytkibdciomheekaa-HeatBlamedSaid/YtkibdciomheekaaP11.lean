/- The way back over a way. -/
import Derived.Test.YtkibdciomheekaaP10
set_option linter.all false
set_option linter.unnecessarySimpa false
set_option linter.unusedSimpArgs false
set_option linter.unusedVariables false
set_option linter.unusedSectionVars false

set_option linter.all false
namespace Go.Proofs.Ytkibdciomheekaa
open Go.RowKit Hp

def backK (ks : Wy) (had tg : Rg) (k : Nat) : Rg := (List.range k).foldl (fun h i => backS ks tg i h) had
theorem backK_succ (ks : Wy) (had tg : Rg) (k : Nat) : backK ks had tg (k + 1) = backS ks tg k (backK ks had tg k) := back_succ ks tg k had
theorem endK_in {ks : Wy} {k : Nat} (h : k + 1 < ks.length) : endK ks k = (nthK ks (k + 1)).src - 1 := if_pos h
theorem endK_last {ks : Wy} {k : Nat} (h : ¬ k + 1 < ks.length) : endK ks k = 1000 := if_neg h

set_option maxHeartbeats 8000000 in
set_option maxRecDepth 100000 in
theorem back_any (ks : Wy) (v : Value) (had tg : Rg) (w : World) (ok : OkW ks) (hK : RK w w.heap.size v ks) :
    Calls Try.prog 85 #[wV v, rV had, rV tg] w fun e w' => e = .returned (rV (backP ks had tg)) ∧ Below w.heap.size w w' := by
  have hp := ok.pos
  have hf := ok.few
  have OK := Lib.hid ok
  clear ok
  obtain ⟨A, cap, rfl⟩ := hK.slice
  obtain ⟨hl, hh⟩ := had
  obtain ⟨tl, th⟩ := tg
  unfold wV rV
  obtain ⟨n0, hn0⟩ : ∃ n, w.heap.size = n := ⟨_, rfl⟩
  have hC : Below n0 w w := Below.refl _ _
  have hK0 := hK
  rw [hn0] at hK0
  have HK0 := Lib.hid hK0
  clear hK0
  go_enter Try.func85, Try.ntmps85
  go_upto_region 1 with fail
  have hqbx : n0 ≤ n0 := by have := hC.size; omega
  have bx : BK (w.alloc (.cells #[.slice A ks.length cap] 28)) (n0) #[.slice A ks.length cap] 28 := BK.new' _ _ _ (n0) hn0
  have hsbx : (w.alloc (.cells #[.slice A ks.length cap] 28)).heap.size = n0 + 1 := by simp [hn0]
  replace hC : Below n0 w (w.alloc (.cells #[.slice A ks.length cap] 28)) := Below.alloc hC (by have := hC.size; omega) _
  replace hK := (RK.below hK (w' := (w.alloc (.cells #[.slice A ks.length cap] 28))) (Below.alloc (Below.refl _ _) (Nat.le_refl _) _)).more (B' := (w.alloc (.cells #[.slice A ks.length cap] 28)).heap.size) (by simp)
  generalize (w.alloc (.cells #[.slice A ks.length cap] 28)) = Wbx at *
  have hqhx : n0 ≤ n0 + 1 := by have := hC.size; omega
  have hx : BK (Wbx.alloc (.cells #[.int .i64 hl, .int .i64 hh] 33)) (n0 + 1) #[.int .i64 hl, .int .i64 hh] 33 := BK.new' _ _ _ (n0 + 1) hsbx
  have hshx : (Wbx.alloc (.cells #[.int .i64 hl, .int .i64 hh] 33)).heap.size = n0 + 1 + 1 := by simp [hsbx]
  replace hC : Below n0 w (Wbx.alloc (.cells #[.int .i64 hl, .int .i64 hh] 33)) := Below.alloc hC (by have := hC.size; omega) _
  replace hK := (RK.below hK (w' := (Wbx.alloc (.cells #[.int .i64 hl, .int .i64 hh] 33))) (Below.alloc (Below.refl _ _) (Nat.le_refl _) _)).more (B' := (Wbx.alloc (.cells #[.int .i64 hl, .int .i64 hh] 33)).heap.size) (by simp)
  replace bx := bx.alloc (.cells #[.int .i64 hl, .int .i64 hh] 33)
  generalize (Wbx.alloc (.cells #[.int .i64 hl, .int .i64 hh] 33)) = Whx at *
  clear hsbx
  have hqtx : n0 ≤ n0 + 1 + 1 := by have := hC.size; omega
  have tx : BK (Whx.alloc (.cells #[.int .i64 tl, .int .i64 th] 33)) (n0 + 1 + 1) #[.int .i64 tl, .int .i64 th] 33 := BK.new' _ _ _ (n0 + 1 + 1) hshx
  have hstx : (Whx.alloc (.cells #[.int .i64 tl, .int .i64 th] 33)).heap.size = n0 + 1 + 1 + 1 := by simp [hshx]
  replace hC : Below n0 w (Whx.alloc (.cells #[.int .i64 tl, .int .i64 th] 33)) := Below.alloc hC (by have := hC.size; omega) _
  replace hK := (RK.below hK (w' := (Whx.alloc (.cells #[.int .i64 tl, .int .i64 th] 33))) (Below.alloc (Below.refl _ _) (Nat.le_refl _) _)).more (B' := (Whx.alloc (.cells #[.int .i64 tl, .int .i64 th] 33)).heap.size) (by simp)
  replace bx := bx.alloc (.cells #[.int .i64 tl, .int .i64 th] 33)
  replace hx := hx.alloc (.cells #[.int .i64 tl, .int .i64 th] 33)
  generalize (Whx.alloc (.cells #[.int .i64 tl, .int .i64 th] 33)) = Wtx at *
  clear hshx
  have hqrx : n0 ≤ n0 + 1 + 1 + 1 := by have := hC.size; omega
  have rx : BK (Wtx.alloc (.cells #[.int .i64 0, .int .i64 0] 33)) (n0 + 1 + 1 + 1) #[.int .i64 0, .int .i64 0] 33 := BK.new' _ _ _ (n0 + 1 + 1 + 1) hstx
  have hsrx : (Wtx.alloc (.cells #[.int .i64 0, .int .i64 0] 33)).heap.size = n0 + 1 + 1 + 1 + 1 := by simp [hstx]
  replace hC : Below n0 w (Wtx.alloc (.cells #[.int .i64 0, .int .i64 0] 33)) := Below.alloc hC (by have := hC.size; omega) _
  replace hK := (RK.below hK (w' := (Wtx.alloc (.cells #[.int .i64 0, .int .i64 0] 33))) (Below.alloc (Below.refl _ _) (Nat.le_refl _) _)).more (B' := (Wtx.alloc (.cells #[.int .i64 0, .int .i64 0] 33)).heap.size) (by simp)
  replace bx := bx.alloc (.cells #[.int .i64 0, .int .i64 0] 33)
  replace hx := hx.alloc (.cells #[.int .i64 0, .int .i64 0] 33)
  replace tx := tx.alloc (.cells #[.int .i64 0, .int .i64 0] 33)
  generalize (Wtx.alloc (.cells #[.int .i64 0, .int .i64 0] 33)) = Wrx at *
  clear hstx
  have lbx := bx.lt
  have bxc0 := bx.cell 0
  simp at bxc0
  go_wp2_with fail
  clear lbx bxc0
  clear hsrx
  go_loopw [13] (fun i wr => ∃ k : Nat, k ≤ ks.length ∧ i = .int .i64 k ∧ BK wr n0 #[.slice A ks.length cap] 28 ∧ BK wr (n0 + 1) #[.int .i64 (backK ks ⟨hl, hh⟩ ⟨tl, th⟩ k).lo, .int .i64 (backK ks ⟨hl, hh⟩ ⟨tl, th⟩ k).hi] 33 ∧ BK wr (n0 + 1 + 1) #[.int .i64 tl, .int .i64 th] 33 ∧ BK wr (n0 + 1 + 1 + 1) #[.int .i64 0, .int .i64 0] 33 ∧ Below n0 w wr) (fun i _ => ks.length - (intOf i).toNat)
  case atStart => exact ⟨0, Nat.zero_le _, rfl, bx, hx, tx, rx, hC⟩
  case round =>
    clear bx hx tx rx hC hK
    obtain ⟨k, hk, rfl, bx, hx, tx, rx, hC⟩ := hrel
    have hK := RK.more (RK.below HK0.out hC) (B' := wr.heap.size) (by have := hC.size; omega)
    obtain ⟨⟨fl, fh⟩, hfb⟩ : ∃ f, backK ks ⟨hl, hh⟩ ⟨tl, th⟩ k = f := ⟨_, rfl⟩
    rw [hfb] at hx
    dsimp only at hx
    by_cases hlt : k < ks.length
    case neg =>
      have hlt' : ¬ (k : Int) < (ks.length : Int) := by omega
      have HE := Lib.hid (show backP ks ⟨hl, hh⟩ ⟨tl, th⟩ = ⟨fl, fh⟩ by rw [← hfb, show k = ks.length by omega]; rfl)
      clear hfb
      have lhx := hx.lt
      have hxc0 := hx.cell 0
      have hxc1 := hx.cell 1
      simp at hxc0 hxc1
      have lrx := rx.lt
      have r0 := rx.cell 0
      have r1 := rx.cell 1
      have f0 := rx.frozen 0
      have f1 := rx.frozen 1
      simp at r0 r1
      go_wp2_with fail
      clear r0 r1 f0 f1
      clear lhx hxc0 hxc1
      have rs := fin_rg rx (.int .i64 fl) (.int .i64 fh)
      have z0 := rs.cell 0
      have z1 := rs.cell 1
      simp at z0 z1
      have hCf : Below n0 w ((wr.setCell ⟨n0 + 1 + 1 + 1, 0, none⟩ (.int .i64 fl)).setCell ⟨n0 + 1 + 1 + 1, 1, none⟩ (.int .i64 fh)) := Below.setCell (Below.setCell hC (by show n0 ≤ n0 + 1 + 1 + 1; omega) _) (by show n0 ≤ n0 + 1 + 1 + 1; omega) _
      exact bodyPost_ret (v := rV ⟨fl, fh⟩) (by simp [results, Try.results85, go_sem, z0, z1, rV]) rfl (⟨by rw [HE.out]; rfl, (by (try rw [hn0]); exact hCf)⟩)
    have hlt' : (k : Int) < (ks.length : Int) := by omega
    obtain ⟨A', cap', b3, off3, hve, hA, hc⟩ := RK.cells hK
    obtain ⟨rfl, hbb3⟩ := hA (by omega)
    injection hve with q1 q2 q3
    subst q1 q3
    obtain ⟨d0, d1, d2⟩ := hc k hlt
    have HSU := Lib.hid ((backK_succ ks ⟨hl, hh⟩ ⟨tl, th⟩ k).trans (by rw [hfb]))
    have hs0 := OK.out.src0 hlt
    have hs1 := OK.out.top k hlt
    have HEI := Lib.hid (fun (h : k + 1 < ks.length) => (endK_in h))
    have HEL := Lib.hid (fun (h : ¬ k + 1 < ks.length) => (endK_last h))
    have HNX := Lib.hid (fun (h : k + 1 < ks.length) => (hc (k + 1) h).1)
    have HNB := Lib.hid (fun (h : k + 1 < ks.length) => (⟨OK.out.src0 h, OK.out.top _ h⟩ : 0 ≤ (nthK ks (k + 1)).src ∧ (nthK ks (k + 1)).src ≤ 1000))
    obtain ⟨⟨src, lo, hi⟩, hkk⟩ : ∃ x, nthK ks k = x := ⟨_, rfl⟩
    unfold backS at HSU
    rw [hkk] at d0 d1 d2 HSU hs0 hs1
    dsimp only at d0 d1 d2 HSU hs0 hs1
    clear hA hc q2 hkk hfb
    go_upto_region 4 with fail
    obtain ⟨m1, hm1⟩ : ∃ n, wr.heap.size = n := ⟨_, rfl⟩
    try rw [hm1]
    have hqkx : n0 ≤ m1 := by have := hC.size; omega
    have kx : BK (wr.alloc (.cells #[.int .i64 src, .int .i64 lo, .int .i64 hi] 92)) (m1) #[.int .i64 src, .int .i64 lo, .int .i64 hi] 92 := BK.new' _ _ _ (m1) hm1
    have hskx : (wr.alloc (.cells #[.int .i64 src, .int .i64 lo, .int .i64 hi] 92)).heap.size = m1 + 1 := by simp [hm1]
    have hb7 : Below wr.heap.size wr (wr.alloc (.cells #[.int .i64 src, .int .i64 lo, .int .i64 hi] 92)) := Below.alloc (Below.refl _ _) (Nat.le_refl _) _
    replace HNX := Lib.hid (fun (h : k + 1 < ks.length) => (hb7.cell (p := ⟨b3, off3 + (k + 1) * 3, none⟩) (by exact hbb3)).trans (HNX.out h))
    have hgt7 : n0 + 1 < m1 := by have := rx.lt; omega
    have hne7 : ¬ m1 = n0 + 1 := by omega
    have hne8 : ¬ n0 + 1 = m1 := by omega
    have hbb4 : b3 < m1 := by omega
    clear hb7 d0 d1 d2 hbb3
    replace hC : Below n0 w (wr.alloc (.cells #[.int .i64 src, .int .i64 lo, .int .i64 hi] 92)) := Below.alloc hC (by have := hC.size; omega) _
    replace bx := bx.alloc (.cells #[.int .i64 src, .int .i64 lo, .int .i64 hi] 92)
    replace hx := hx.alloc (.cells #[.int .i64 src, .int .i64 lo, .int .i64 hi] 92)
    replace tx := tx.alloc (.cells #[.int .i64 src, .int .i64 lo, .int .i64 hi] 92)
    replace rx := rx.alloc (.cells #[.int .i64 src, .int .i64 lo, .int .i64 hi] 92)
    replace hK := (RK.below hK (w' := (wr.alloc (.cells #[.int .i64 src, .int .i64 lo, .int .i64 hi] 92))) (Below.alloc (Below.refl _ _) (Nat.le_refl _) _)).more (B' := (wr.alloc (.cells #[.int .i64 src, .int .i64 lo, .int .i64 hi] 92)).heap.size) (by simp)
    generalize (wr.alloc (.cells #[.int .i64 src, .int .i64 lo, .int .i64 hi] 92)) = Wkx at *
    clear hm1
    clear hskx
    have hbb5 : b3 < Wkx.heap.size := Nat.lt_trans hbb4 kx.lt
    clear hbb4
    by_cases hnx : k + 1 < ks.length
    case pos =>
      have hnx' : (k : Int) + 1 < (ks.length : Int) := by omega
      have d3 := HNX.out hnx
      have hnb := HNB.out hnx
      have HEK := Lib.hid (HEI.out hnx)
      obtain ⟨ns, hns⟩ : ∃ x, (nthK ks (k + 1)).src = x := ⟨_, rfl⟩
      rw [hns] at d3 hnb HEK
      clear hns
      have wn : IntKind.i64.wrap (ns - 1) = ns - 1 := by rw [IntKind.wrap_i64]; omega
      have wn2 : IntKind.i64.wrap (ns - 1 + 1) = ns := by rw [IntKind.wrap_i64]; omega
      have ws : IntKind.i64.wrap (src - 1) = src - 1 := by rw [IntKind.wrap_i64]; omega
      have wk : IntKind.i64.wrap ((k : Int) + 1) = (k : Int) + 1 := by rw [IntKind.wrap_i64]; omega
      have wk2 : ((k : Int) + 1).toNat = k + 1 := by omega
      have lbx := bx.lt
      have bxc0 := bx.cell 0
      simp at bxc0
      go_upto_region 7 with fail
      have lhx := hx.lt
      have hxc0 := hx.cell 0
      have hxc1 := hx.cell 1
      simp at hxc0 hxc1
      have ltx := tx.lt
      have txc0 := tx.cell 0
      have txc1 := tx.cell 1
      simp at txc0 txc1
      have lkx := kx.lt
      have kxc0 := kx.cell 0
      have kxc1 := kx.cell 1
      have kxc2 := kx.cell 2
      simp at kxc0 kxc1 kxc2
      have hf0 := hx.frozen 0
      have hf1 := hx.frozen 1
      by_cases a1 : ¬ hi < tl
      case pos =>
        have b1 : decide (hi < tl) = false := decide_eq_false a1
        by_cases a3 : ¬ th < lo
        case pos =>
          have b3 : decide (th < lo) = false := decide_eq_false a3
          have HS2 := Lib.hid (show backK ks ⟨hl, hh⟩ ⟨tl, th⟩ (k + 1) = ⟨fl, fh⟩ by
            rw [HSU.out, HEK.out]
            simp only [Rg.mk.injEq]
            constructor
            · split <;> omega
            · split <;> omega)
          have hx9 : BK Wkx (n0 + 1) #[.int .i64 fl, .int .i64 fh] 33 := by simpa using hx
          have bx9 : BK Wkx n0 _ _ := bx
          have tx9 : BK Wkx (n0 + 1 + 1) _ _ := tx
          have rx9 : BK Wkx (n0 + 1 + 1 + 1) _ _ := rx
          have hC9 : Below n0 w Wkx := hC
          clear a1 a3
          go_wp2_with fail
          go_roundw
          case rel => exact ⟨k + 1, by omega, by go_num, bx9, by rw [HS2.out]; exact hx9, tx9, rx9, hC9⟩
          case measure => simp [intOf]; omega
        have a3 : th < lo := by omega
        have b3 : decide (th < lo) = true := decide_eq_true a3
        by_cases a4 : src - 1 < fh
        case pos =>
          have b4 : decide (src - 1 < fh) = true := decide_eq_true a4
          have b4m : min fh (src - 1) = src - 1 := by omega
          have HS2 := Lib.hid (show backK ks ⟨hl, hh⟩ ⟨tl, th⟩ (k + 1) = ⟨fl, (src - 1)⟩ by
            rw [HSU.out, HEK.out]
            simp only [Rg.mk.injEq]
            constructor
            · split <;> omega
            · split <;> omega)
          have hx9 : BK (Wkx.setCell ⟨n0 + 1, 1, none⟩ (.int .i64 (src - 1))) (n0 + 1) #[.int .i64 fl, .int .i64 (src - 1)] 33 := by simpa using (BK.set hx 1 (.int .i64 (src - 1)))
          have bx9 : BK (Wkx.setCell ⟨n0 + 1, 1, none⟩ (.int .i64 (src - 1))) n0 _ _ := (BK.far bx (p := ⟨n0 + 1, 1, none⟩) (by show n0 ≠ n0 + 1; omega) _)
          have tx9 : BK (Wkx.setCell ⟨n0 + 1, 1, none⟩ (.int .i64 (src - 1))) (n0 + 1 + 1) _ _ := (BK.far tx (p := ⟨n0 + 1, 1, none⟩) (by show n0 + 1 + 1 ≠ n0 + 1; omega) _)
          have rx9 : BK (Wkx.setCell ⟨n0 + 1, 1, none⟩ (.int .i64 (src - 1))) (n0 + 1 + 1 + 1) _ _ := (BK.far rx (p := ⟨n0 + 1, 1, none⟩) (by show n0 + 1 + 1 + 1 ≠ n0 + 1; omega) _)
          have hC9 : Below n0 w (Wkx.setCell ⟨n0 + 1, 1, none⟩ (.int .i64 (src - 1))) := (Below.setCell hC (by show n0 ≤ n0 + 1; omega) _)
          clear a1 a3
          go_wp2_with fail
          go_roundw
          case rel => exact ⟨k + 1, by omega, by go_num, bx9, by rw [HS2.out]; exact hx9, tx9, rx9, hC9⟩
          case measure => simp [intOf]; omega
        have b4 : decide (src - 1 < fh) = false := decide_eq_false a4
        have b4m : min fh (src - 1) = fh := by omega
        have HS2 := Lib.hid (show backK ks ⟨hl, hh⟩ ⟨tl, th⟩ (k + 1) = ⟨fl, fh⟩ by
          rw [HSU.out, HEK.out]
          simp only [Rg.mk.injEq]
          constructor
          · split <;> omega
          · split <;> omega)
        have hx9 : BK (Wkx.setCell ⟨n0 + 1, 1, none⟩ (.int .i64 fh)) (n0 + 1) #[.int .i64 fl, .int .i64 fh] 33 := by simpa using (BK.set hx 1 (.int .i64 fh))
        have bx9 : BK (Wkx.setCell ⟨n0 + 1, 1, none⟩ (.int .i64 fh)) n0 _ _ := (BK.far bx (p := ⟨n0 + 1, 1, none⟩) (by show n0 ≠ n0 + 1; omega) _)
        have tx9 : BK (Wkx.setCell ⟨n0 + 1, 1, none⟩ (.int .i64 fh)) (n0 + 1 + 1) _ _ := (BK.far tx (p := ⟨n0 + 1, 1, none⟩) (by show n0 + 1 + 1 ≠ n0 + 1; omega) _)
        have rx9 : BK (Wkx.setCell ⟨n0 + 1, 1, none⟩ (.int .i64 fh)) (n0 + 1 + 1 + 1) _ _ := (BK.far rx (p := ⟨n0 + 1, 1, none⟩) (by show n0 + 1 + 1 + 1 ≠ n0 + 1; omega) _)
        have hC9 : Below n0 w (Wkx.setCell ⟨n0 + 1, 1, none⟩ (.int .i64 fh)) := (Below.setCell hC (by show n0 ≤ n0 + 1; omega) _)
        clear a1 a3
        go_wp2_with fail
        go_roundw
        case rel => exact ⟨k + 1, by omega, by go_num, bx9, by rw [HS2.out]; exact hx9, tx9, rx9, hC9⟩
        case measure => simp [intOf]; omega
      have a1 : hi < tl := by omega
      have b1 : decide (hi < tl) = true := decide_eq_true a1
      by_cases a2 : fl < ns
      case pos =>
        have b2 : decide (fl < ns) = true := decide_eq_true a2
        have b2m : max fl ns = ns := by omega
        have b2n : max fl ns = ns := b2m
        by_cases a3 : ¬ th < lo
        case pos =>
          have b3 : decide (th < lo) = false := decide_eq_false a3
          have HS2 := Lib.hid (show backK ks ⟨hl, hh⟩ ⟨tl, th⟩ (k + 1) = ⟨ns, fh⟩ by
            rw [HSU.out, HEK.out]
            simp only [Rg.mk.injEq]
            constructor
            · split <;> omega
            · split <;> omega)
          have hx9 : BK (Wkx.setCell ⟨n0 + 1, 0, none⟩ (.int .i64 ns)) (n0 + 1) #[.int .i64 ns, .int .i64 fh] 33 := by simpa using (BK.set hx 0 (.int .i64 ns))
          have bx9 : BK (Wkx.setCell ⟨n0 + 1, 0, none⟩ (.int .i64 ns)) n0 _ _ := (BK.far bx (p := ⟨n0 + 1, 0, none⟩) (by show n0 ≠ n0 + 1; omega) _)
          have tx9 : BK (Wkx.setCell ⟨n0 + 1, 0, none⟩ (.int .i64 ns)) (n0 + 1 + 1) _ _ := (BK.far tx (p := ⟨n0 + 1, 0, none⟩) (by show n0 + 1 + 1 ≠ n0 + 1; omega) _)
          have rx9 : BK (Wkx.setCell ⟨n0 + 1, 0, none⟩ (.int .i64 ns)) (n0 + 1 + 1 + 1) _ _ := (BK.far rx (p := ⟨n0 + 1, 0, none⟩) (by show n0 + 1 + 1 + 1 ≠ n0 + 1; omega) _)
          have hC9 : Below n0 w (Wkx.setCell ⟨n0 + 1, 0, none⟩ (.int .i64 ns)) := (Below.setCell hC (by show n0 ≤ n0 + 1; omega) _)
          clear a1 a3
          go_wp2_with fail
          go_roundw
          case rel => exact ⟨k + 1, by omega, by go_num, bx9, by rw [HS2.out]; exact hx9, tx9, rx9, hC9⟩
          case measure => simp [intOf]; omega
        have a3 : th < lo := by omega
        have b3 : decide (th < lo) = true := decide_eq_true a3
        by_cases a4 : src - 1 < fh
        case pos =>
          have b4 : decide (src - 1 < fh) = true := decide_eq_true a4
          have b4m : min fh (src - 1) = src - 1 := by omega
          have HS2 := Lib.hid (show backK ks ⟨hl, hh⟩ ⟨tl, th⟩ (k + 1) = ⟨ns, (src - 1)⟩ by
            rw [HSU.out, HEK.out]
            simp only [Rg.mk.injEq]
            constructor
            · split <;> omega
            · split <;> omega)
          have hx9 : BK ((Wkx.setCell ⟨n0 + 1, 0, none⟩ (.int .i64 ns)).setCell ⟨n0 + 1, 1, none⟩ (.int .i64 (src - 1))) (n0 + 1) #[.int .i64 ns, .int .i64 (src - 1)] 33 := by simpa using (BK.set (BK.set hx 0 (.int .i64 ns)) 1 (.int .i64 (src - 1)))
          have bx9 : BK ((Wkx.setCell ⟨n0 + 1, 0, none⟩ (.int .i64 ns)).setCell ⟨n0 + 1, 1, none⟩ (.int .i64 (src - 1))) n0 _ _ := (BK.far (BK.far bx (p := ⟨n0 + 1, 0, none⟩) (by show n0 ≠ n0 + 1; omega) _) (p := ⟨n0 + 1, 1, none⟩) (by show n0 ≠ n0 + 1; omega) _)
          have tx9 : BK ((Wkx.setCell ⟨n0 + 1, 0, none⟩ (.int .i64 ns)).setCell ⟨n0 + 1, 1, none⟩ (.int .i64 (src - 1))) (n0 + 1 + 1) _ _ := (BK.far (BK.far tx (p := ⟨n0 + 1, 0, none⟩) (by show n0 + 1 + 1 ≠ n0 + 1; omega) _) (p := ⟨n0 + 1, 1, none⟩) (by show n0 + 1 + 1 ≠ n0 + 1; omega) _)
          have rx9 : BK ((Wkx.setCell ⟨n0 + 1, 0, none⟩ (.int .i64 ns)).setCell ⟨n0 + 1, 1, none⟩ (.int .i64 (src - 1))) (n0 + 1 + 1 + 1) _ _ := (BK.far (BK.far rx (p := ⟨n0 + 1, 0, none⟩) (by show n0 + 1 + 1 + 1 ≠ n0 + 1; omega) _) (p := ⟨n0 + 1, 1, none⟩) (by show n0 + 1 + 1 + 1 ≠ n0 + 1; omega) _)
          have hC9 : Below n0 w ((Wkx.setCell ⟨n0 + 1, 0, none⟩ (.int .i64 ns)).setCell ⟨n0 + 1, 1, none⟩ (.int .i64 (src - 1))) := (Below.setCell (Below.setCell hC (by show n0 ≤ n0 + 1; omega) _) (by show n0 ≤ n0 + 1; omega) _)
          clear a1 a3
          go_wp2_with fail
          go_roundw
          case rel => exact ⟨k + 1, by omega, by go_num, bx9, by rw [HS2.out]; exact hx9, tx9, rx9, hC9⟩
          case measure => simp [intOf]; omega
        have b4 : decide (src - 1 < fh) = false := decide_eq_false a4
        have b4m : min fh (src - 1) = fh := by omega
        have HS2 := Lib.hid (show backK ks ⟨hl, hh⟩ ⟨tl, th⟩ (k + 1) = ⟨ns, fh⟩ by
          rw [HSU.out, HEK.out]
          simp only [Rg.mk.injEq]
          constructor
          · split <;> omega
          · split <;> omega)
        have hx9 : BK ((Wkx.setCell ⟨n0 + 1, 0, none⟩ (.int .i64 ns)).setCell ⟨n0 + 1, 1, none⟩ (.int .i64 fh)) (n0 + 1) #[.int .i64 ns, .int .i64 fh] 33 := by simpa using (BK.set (BK.set hx 0 (.int .i64 ns)) 1 (.int .i64 fh))
        have bx9 : BK ((Wkx.setCell ⟨n0 + 1, 0, none⟩ (.int .i64 ns)).setCell ⟨n0 + 1, 1, none⟩ (.int .i64 fh)) n0 _ _ := (BK.far (BK.far bx (p := ⟨n0 + 1, 0, none⟩) (by show n0 ≠ n0 + 1; omega) _) (p := ⟨n0 + 1, 1, none⟩) (by show n0 ≠ n0 + 1; omega) _)
        have tx9 : BK ((Wkx.setCell ⟨n0 + 1, 0, none⟩ (.int .i64 ns)).setCell ⟨n0 + 1, 1, none⟩ (.int .i64 fh)) (n0 + 1 + 1) _ _ := (BK.far (BK.far tx (p := ⟨n0 + 1, 0, none⟩) (by show n0 + 1 + 1 ≠ n0 + 1; omega) _) (p := ⟨n0 + 1, 1, none⟩) (by show n0 + 1 + 1 ≠ n0 + 1; omega) _)
        have rx9 : BK ((Wkx.setCell ⟨n0 + 1, 0, none⟩ (.int .i64 ns)).setCell ⟨n0 + 1, 1, none⟩ (.int .i64 fh)) (n0 + 1 + 1 + 1) _ _ := (BK.far (BK.far rx (p := ⟨n0 + 1, 0, none⟩) (by show n0 + 1 + 1 + 1 ≠ n0 + 1; omega) _) (p := ⟨n0 + 1, 1, none⟩) (by show n0 + 1 + 1 + 1 ≠ n0 + 1; omega) _)
        have hC9 : Below n0 w ((Wkx.setCell ⟨n0 + 1, 0, none⟩ (.int .i64 ns)).setCell ⟨n0 + 1, 1, none⟩ (.int .i64 fh)) := (Below.setCell (Below.setCell hC (by show n0 ≤ n0 + 1; omega) _) (by show n0 ≤ n0 + 1; omega) _)
        clear a1 a3
        go_wp2_with fail
        go_roundw
        case rel => exact ⟨k + 1, by omega, by go_num, bx9, by rw [HS2.out]; exact hx9, tx9, rx9, hC9⟩
        case measure => simp [intOf]; omega
      have b2 : decide (fl < ns) = false := decide_eq_false a2
      have b2m : max fl ns = fl := by omega
      by_cases a3 : ¬ th < lo
      case pos =>
        have b3 : decide (th < lo) = false := decide_eq_false a3
        have HS2 := Lib.hid (show backK ks ⟨hl, hh⟩ ⟨tl, th⟩ (k + 1) = ⟨fl, fh⟩ by
          rw [HSU.out, HEK.out]
          simp only [Rg.mk.injEq]
          constructor
          · split <;> omega
          · split <;> omega)
        have hx9 : BK (Wkx.setCell ⟨n0 + 1, 0, none⟩ (.int .i64 fl)) (n0 + 1) #[.int .i64 fl, .int .i64 fh] 33 := by simpa using (BK.set hx 0 (.int .i64 fl))
        have bx9 : BK (Wkx.setCell ⟨n0 + 1, 0, none⟩ (.int .i64 fl)) n0 _ _ := (BK.far bx (p := ⟨n0 + 1, 0, none⟩) (by show n0 ≠ n0 + 1; omega) _)
        have tx9 : BK (Wkx.setCell ⟨n0 + 1, 0, none⟩ (.int .i64 fl)) (n0 + 1 + 1) _ _ := (BK.far tx (p := ⟨n0 + 1, 0, none⟩) (by show n0 + 1 + 1 ≠ n0 + 1; omega) _)
        have rx9 : BK (Wkx.setCell ⟨n0 + 1, 0, none⟩ (.int .i64 fl)) (n0 + 1 + 1 + 1) _ _ := (BK.far rx (p := ⟨n0 + 1, 0, none⟩) (by show n0 + 1 + 1 + 1 ≠ n0 + 1; omega) _)
        have hC9 : Below n0 w (Wkx.setCell ⟨n0 + 1, 0, none⟩ (.int .i64 fl)) := (Below.setCell hC (by show n0 ≤ n0 + 1; omega) _)
        clear a1 a3
        go_wp2_with fail
        go_roundw
        case rel => exact ⟨k + 1, by omega, by go_num, bx9, by rw [HS2.out]; exact hx9, tx9, rx9, hC9⟩
        case measure => simp [intOf]; omega
      have a3 : th < lo := by omega
      have b3 : decide (th < lo) = true := decide_eq_true a3
      by_cases a4 : src - 1 < fh
      case pos =>
        have b4 : decide (src - 1 < fh) = true := decide_eq_true a4
        have b4m : min fh (src - 1) = src - 1 := by omega
        have HS2 := Lib.hid (show backK ks ⟨hl, hh⟩ ⟨tl, th⟩ (k + 1) = ⟨fl, (src - 1)⟩ by
          rw [HSU.out, HEK.out]
          simp only [Rg.mk.injEq]
          constructor
          · split <;> omega
          · split <;> omega)
        have hx9 : BK ((Wkx.setCell ⟨n0 + 1, 0, none⟩ (.int .i64 fl)).setCell ⟨n0 + 1, 1, none⟩ (.int .i64 (src - 1))) (n0 + 1) #[.int .i64 fl, .int .i64 (src - 1)] 33 := by simpa using (BK.set (BK.set hx 0 (.int .i64 fl)) 1 (.int .i64 (src - 1)))
        have bx9 : BK ((Wkx.setCell ⟨n0 + 1, 0, none⟩ (.int .i64 fl)).setCell ⟨n0 + 1, 1, none⟩ (.int .i64 (src - 1))) n0 _ _ := (BK.far (BK.far bx (p := ⟨n0 + 1, 0, none⟩) (by show n0 ≠ n0 + 1; omega) _) (p := ⟨n0 + 1, 1, none⟩) (by show n0 ≠ n0 + 1; omega) _)
        have tx9 : BK ((Wkx.setCell ⟨n0 + 1, 0, none⟩ (.int .i64 fl)).setCell ⟨n0 + 1, 1, none⟩ (.int .i64 (src - 1))) (n0 + 1 + 1) _ _ := (BK.far (BK.far tx (p := ⟨n0 + 1, 0, none⟩) (by show n0 + 1 + 1 ≠ n0 + 1; omega) _) (p := ⟨n0 + 1, 1, none⟩) (by show n0 + 1 + 1 ≠ n0 + 1; omega) _)
        have rx9 : BK ((Wkx.setCell ⟨n0 + 1, 0, none⟩ (.int .i64 fl)).setCell ⟨n0 + 1, 1, none⟩ (.int .i64 (src - 1))) (n0 + 1 + 1 + 1) _ _ := (BK.far (BK.far rx (p := ⟨n0 + 1, 0, none⟩) (by show n0 + 1 + 1 + 1 ≠ n0 + 1; omega) _) (p := ⟨n0 + 1, 1, none⟩) (by show n0 + 1 + 1 + 1 ≠ n0 + 1; omega) _)
        have hC9 : Below n0 w ((Wkx.setCell ⟨n0 + 1, 0, none⟩ (.int .i64 fl)).setCell ⟨n0 + 1, 1, none⟩ (.int .i64 (src - 1))) := (Below.setCell (Below.setCell hC (by show n0 ≤ n0 + 1; omega) _) (by show n0 ≤ n0 + 1; omega) _)
        clear a1 a3
        go_wp2_with fail
        go_roundw
        case rel => exact ⟨k + 1, by omega, by go_num, bx9, by rw [HS2.out]; exact hx9, tx9, rx9, hC9⟩
        case measure => simp [intOf]; omega
      have b4 : decide (src - 1 < fh) = false := decide_eq_false a4
      have b4m : min fh (src - 1) = fh := by omega
      have HS2 := Lib.hid (show backK ks ⟨hl, hh⟩ ⟨tl, th⟩ (k + 1) = ⟨fl, fh⟩ by
        rw [HSU.out, HEK.out]
        simp only [Rg.mk.injEq]
        constructor
        · split <;> omega
        · split <;> omega)
      have hx9 : BK ((Wkx.setCell ⟨n0 + 1, 0, none⟩ (.int .i64 fl)).setCell ⟨n0 + 1, 1, none⟩ (.int .i64 fh)) (n0 + 1) #[.int .i64 fl, .int .i64 fh] 33 := by simpa using (BK.set (BK.set hx 0 (.int .i64 fl)) 1 (.int .i64 fh))
      have bx9 : BK ((Wkx.setCell ⟨n0 + 1, 0, none⟩ (.int .i64 fl)).setCell ⟨n0 + 1, 1, none⟩ (.int .i64 fh)) n0 _ _ := (BK.far (BK.far bx (p := ⟨n0 + 1, 0, none⟩) (by show n0 ≠ n0 + 1; omega) _) (p := ⟨n0 + 1, 1, none⟩) (by show n0 ≠ n0 + 1; omega) _)
      have tx9 : BK ((Wkx.setCell ⟨n0 + 1, 0, none⟩ (.int .i64 fl)).setCell ⟨n0 + 1, 1, none⟩ (.int .i64 fh)) (n0 + 1 + 1) _ _ := (BK.far (BK.far tx (p := ⟨n0 + 1, 0, none⟩) (by show n0 + 1 + 1 ≠ n0 + 1; omega) _) (p := ⟨n0 + 1, 1, none⟩) (by show n0 + 1 + 1 ≠ n0 + 1; omega) _)
      have rx9 : BK ((Wkx.setCell ⟨n0 + 1, 0, none⟩ (.int .i64 fl)).setCell ⟨n0 + 1, 1, none⟩ (.int .i64 fh)) (n0 + 1 + 1 + 1) _ _ := (BK.far (BK.far rx (p := ⟨n0 + 1, 0, none⟩) (by show n0 + 1 + 1 + 1 ≠ n0 + 1; omega) _) (p := ⟨n0 + 1, 1, none⟩) (by show n0 + 1 + 1 + 1 ≠ n0 + 1; omega) _)
      have hC9 : Below n0 w ((Wkx.setCell ⟨n0 + 1, 0, none⟩ (.int .i64 fl)).setCell ⟨n0 + 1, 1, none⟩ (.int .i64 fh)) := (Below.setCell (Below.setCell hC (by show n0 ≤ n0 + 1; omega) _) (by show n0 ≤ n0 + 1; omega) _)
      clear a1 a3
      go_wp2_with fail
      go_roundw
      case rel => exact ⟨k + 1, by omega, by go_num, bx9, by rw [HS2.out]; exact hx9, tx9, rx9, hC9⟩
      case measure => simp [intOf]; omega
    have hnx' : ¬ (k : Int) + 1 < (ks.length : Int) := by omega
    have HEK := Lib.hid (HEL.out hnx)
    have ws : IntKind.i64.wrap (src - 1) = src - 1 := by rw [IntKind.wrap_i64]; omega
    have wk : IntKind.i64.wrap ((k : Int) + 1) = (k : Int) + 1 := by rw [IntKind.wrap_i64]; omega
    have lbx := bx.lt
    have bxc0 := bx.cell 0
    simp at bxc0
    go_upto_region 7 with fail
    have lhx := hx.lt
    have hxc0 := hx.cell 0
    have hxc1 := hx.cell 1
    simp at hxc0 hxc1
    have ltx := tx.lt
    have txc0 := tx.cell 0
    have txc1 := tx.cell 1
    simp at txc0 txc1
    have lkx := kx.lt
    have kxc0 := kx.cell 0
    have kxc1 := kx.cell 1
    have kxc2 := kx.cell 2
    simp at kxc0 kxc1 kxc2
    have hf0 := hx.frozen 0
    have hf1 := hx.frozen 1
    by_cases a1 : ¬ hi < tl
    case pos =>
      have b1 : decide (hi < tl) = false := decide_eq_false a1
      by_cases a3 : ¬ th < lo
      case pos =>
        have b3 : decide (th < lo) = false := decide_eq_false a3
        have HS2 := Lib.hid (show backK ks ⟨hl, hh⟩ ⟨tl, th⟩ (k + 1) = ⟨fl, fh⟩ by
          rw [HSU.out, HEK.out]
          simp only [Rg.mk.injEq]
          constructor
          · split <;> omega
          · split <;> omega)
        have hx9 : BK Wkx (n0 + 1) #[.int .i64 fl, .int .i64 fh] 33 := by simpa using hx
        have bx9 : BK Wkx n0 _ _ := bx
        have tx9 : BK Wkx (n0 + 1 + 1) _ _ := tx
        have rx9 : BK Wkx (n0 + 1 + 1 + 1) _ _ := rx
        have hC9 : Below n0 w Wkx := hC
        clear a1 a3
        go_wp2_with fail
        go_roundw
        case rel => exact ⟨k + 1, by omega, by go_num, bx9, by rw [HS2.out]; exact hx9, tx9, rx9, hC9⟩
        case measure => simp [intOf]; omega
      have a3 : th < lo := by omega
      have b3 : decide (th < lo) = true := decide_eq_true a3
      by_cases a4 : src - 1 < fh
      case pos =>
        have b4 : decide (src - 1 < fh) = true := decide_eq_true a4
        have b4m : min fh (src - 1) = src - 1 := by omega
        have HS2 := Lib.hid (show backK ks ⟨hl, hh⟩ ⟨tl, th⟩ (k + 1) = ⟨fl, (src - 1)⟩ by
          rw [HSU.out, HEK.out]
          simp only [Rg.mk.injEq]
          constructor
          · split <;> omega
          · split <;> omega)
        have hx9 : BK (Wkx.setCell ⟨n0 + 1, 1, none⟩ (.int .i64 (src - 1))) (n0 + 1) #[.int .i64 fl, .int .i64 (src - 1)] 33 := by simpa using (BK.set hx 1 (.int .i64 (src - 1)))
        have bx9 : BK (Wkx.setCell ⟨n0 + 1, 1, none⟩ (.int .i64 (src - 1))) n0 _ _ := (BK.far bx (p := ⟨n0 + 1, 1, none⟩) (by show n0 ≠ n0 + 1; omega) _)
        have tx9 : BK (Wkx.setCell ⟨n0 + 1, 1, none⟩ (.int .i64 (src - 1))) (n0 + 1 + 1) _ _ := (BK.far tx (p := ⟨n0 + 1, 1, none⟩) (by show n0 + 1 + 1 ≠ n0 + 1; omega) _)
        have rx9 : BK (Wkx.setCell ⟨n0 + 1, 1, none⟩ (.int .i64 (src - 1))) (n0 + 1 + 1 + 1) _ _ := (BK.far rx (p := ⟨n0 + 1, 1, none⟩) (by show n0 + 1 + 1 + 1 ≠ n0 + 1; omega) _)
        have hC9 : Below n0 w (Wkx.setCell ⟨n0 + 1, 1, none⟩ (.int .i64 (src - 1))) := (Below.setCell hC (by show n0 ≤ n0 + 1; omega) _)
        clear a1 a3
        go_wp2_with fail
        go_roundw
        case rel => exact ⟨k + 1, by omega, by go_num, bx9, by rw [HS2.out]; exact hx9, tx9, rx9, hC9⟩
        case measure => simp [intOf]; omega
      have b4 : decide (src - 1 < fh) = false := decide_eq_false a4
      have b4m : min fh (src - 1) = fh := by omega
      have HS2 := Lib.hid (show backK ks ⟨hl, hh⟩ ⟨tl, th⟩ (k + 1) = ⟨fl, fh⟩ by
        rw [HSU.out, HEK.out]
        simp only [Rg.mk.injEq]
        constructor
        · split <;> omega
        · split <;> omega)
      have hx9 : BK (Wkx.setCell ⟨n0 + 1, 1, none⟩ (.int .i64 fh)) (n0 + 1) #[.int .i64 fl, .int .i64 fh] 33 := by simpa using (BK.set hx 1 (.int .i64 fh))
      have bx9 : BK (Wkx.setCell ⟨n0 + 1, 1, none⟩ (.int .i64 fh)) n0 _ _ := (BK.far bx (p := ⟨n0 + 1, 1, none⟩) (by show n0 ≠ n0 + 1; omega) _)
      have tx9 : BK (Wkx.setCell ⟨n0 + 1, 1, none⟩ (.int .i64 fh)) (n0 + 1 + 1) _ _ := (BK.far tx (p := ⟨n0 + 1, 1, none⟩) (by show n0 + 1 + 1 ≠ n0 + 1; omega) _)
      have rx9 : BK (Wkx.setCell ⟨n0 + 1, 1, none⟩ (.int .i64 fh)) (n0 + 1 + 1 + 1) _ _ := (BK.far rx (p := ⟨n0 + 1, 1, none⟩) (by show n0 + 1 + 1 + 1 ≠ n0 + 1; omega) _)
      have hC9 : Below n0 w (Wkx.setCell ⟨n0 + 1, 1, none⟩ (.int .i64 fh)) := (Below.setCell hC (by show n0 ≤ n0 + 1; omega) _)
      clear a1 a3
      go_wp2_with fail
      go_roundw
      case rel => exact ⟨k + 1, by omega, by go_num, bx9, by rw [HS2.out]; exact hx9, tx9, rx9, hC9⟩
      case measure => simp [intOf]; omega
    have a1 : hi < tl := by omega
    have b1 : decide (hi < tl) = true := decide_eq_true a1
    by_cases a2 : fl < 1001
    case pos =>
      have b2 : decide (fl < 1001) = true := decide_eq_true a2
      have b2m : max fl 1001 = 1001 := by omega
      have b2n : max fl 1001 = 1001 := b2m
      by_cases a3 : ¬ th < lo
      case pos =>
        have b3 : decide (th < lo) = false := decide_eq_false a3
        have HS2 := Lib.hid (show backK ks ⟨hl, hh⟩ ⟨tl, th⟩ (k + 1) = ⟨1001, fh⟩ by
          rw [HSU.out, HEK.out]
          simp only [Rg.mk.injEq]
          constructor
          · split <;> omega
          · split <;> omega)
        have hx9 : BK (Wkx.setCell ⟨n0 + 1, 0, none⟩ (.int .i64 1001)) (n0 + 1) #[.int .i64 1001, .int .i64 fh] 33 := by simpa using (BK.set hx 0 (.int .i64 1001))
        have bx9 : BK (Wkx.setCell ⟨n0 + 1, 0, none⟩ (.int .i64 1001)) n0 _ _ := (BK.far bx (p := ⟨n0 + 1, 0, none⟩) (by show n0 ≠ n0 + 1; omega) _)
        have tx9 : BK (Wkx.setCell ⟨n0 + 1, 0, none⟩ (.int .i64 1001)) (n0 + 1 + 1) _ _ := (BK.far tx (p := ⟨n0 + 1, 0, none⟩) (by show n0 + 1 + 1 ≠ n0 + 1; omega) _)
        have rx9 : BK (Wkx.setCell ⟨n0 + 1, 0, none⟩ (.int .i64 1001)) (n0 + 1 + 1 + 1) _ _ := (BK.far rx (p := ⟨n0 + 1, 0, none⟩) (by show n0 + 1 + 1 + 1 ≠ n0 + 1; omega) _)
        have hC9 : Below n0 w (Wkx.setCell ⟨n0 + 1, 0, none⟩ (.int .i64 1001)) := (Below.setCell hC (by show n0 ≤ n0 + 1; omega) _)
        clear a1 a3
        go_wp2_with fail
        go_roundw
        case rel => exact ⟨k + 1, by omega, by go_num, bx9, by rw [HS2.out]; exact hx9, tx9, rx9, hC9⟩
        case measure => simp [intOf]; omega
      have a3 : th < lo := by omega
      have b3 : decide (th < lo) = true := decide_eq_true a3
      by_cases a4 : src - 1 < fh
      case pos =>
        have b4 : decide (src - 1 < fh) = true := decide_eq_true a4
        have b4m : min fh (src - 1) = src - 1 := by omega
        have HS2 := Lib.hid (show backK ks ⟨hl, hh⟩ ⟨tl, th⟩ (k + 1) = ⟨1001, (src - 1)⟩ by
          rw [HSU.out, HEK.out]
          simp only [Rg.mk.injEq]
          constructor
          · split <;> omega
          · split <;> omega)
        have hx9 : BK ((Wkx.setCell ⟨n0 + 1, 0, none⟩ (.int .i64 1001)).setCell ⟨n0 + 1, 1, none⟩ (.int .i64 (src - 1))) (n0 + 1) #[.int .i64 1001, .int .i64 (src - 1)] 33 := by simpa using (BK.set (BK.set hx 0 (.int .i64 1001)) 1 (.int .i64 (src - 1)))
        have bx9 : BK ((Wkx.setCell ⟨n0 + 1, 0, none⟩ (.int .i64 1001)).setCell ⟨n0 + 1, 1, none⟩ (.int .i64 (src - 1))) n0 _ _ := (BK.far (BK.far bx (p := ⟨n0 + 1, 0, none⟩) (by show n0 ≠ n0 + 1; omega) _) (p := ⟨n0 + 1, 1, none⟩) (by show n0 ≠ n0 + 1; omega) _)
        have tx9 : BK ((Wkx.setCell ⟨n0 + 1, 0, none⟩ (.int .i64 1001)).setCell ⟨n0 + 1, 1, none⟩ (.int .i64 (src - 1))) (n0 + 1 + 1) _ _ := (BK.far (BK.far tx (p := ⟨n0 + 1, 0, none⟩) (by show n0 + 1 + 1 ≠ n0 + 1; omega) _) (p := ⟨n0 + 1, 1, none⟩) (by show n0 + 1 + 1 ≠ n0 + 1; omega) _)
        have rx9 : BK ((Wkx.setCell ⟨n0 + 1, 0, none⟩ (.int .i64 1001)).setCell ⟨n0 + 1, 1, none⟩ (.int .i64 (src - 1))) (n0 + 1 + 1 + 1) _ _ := (BK.far (BK.far rx (p := ⟨n0 + 1, 0, none⟩) (by show n0 + 1 + 1 + 1 ≠ n0 + 1; omega) _) (p := ⟨n0 + 1, 1, none⟩) (by show n0 + 1 + 1 + 1 ≠ n0 + 1; omega) _)
        have hC9 : Below n0 w ((Wkx.setCell ⟨n0 + 1, 0, none⟩ (.int .i64 1001)).setCell ⟨n0 + 1, 1, none⟩ (.int .i64 (src - 1))) := (Below.setCell (Below.setCell hC (by show n0 ≤ n0 + 1; omega) _) (by show n0 ≤ n0 + 1; omega) _)
        clear a1 a3
        go_wp2_with fail
        go_roundw
        case rel => exact ⟨k + 1, by omega, by go_num, bx9, by rw [HS2.out]; exact hx9, tx9, rx9, hC9⟩
        case measure => simp [intOf]; omega
      have b4 : decide (src - 1 < fh) = false := decide_eq_false a4
      have b4m : min fh (src - 1) = fh := by omega
      have HS2 := Lib.hid (show backK ks ⟨hl, hh⟩ ⟨tl, th⟩ (k + 1) = ⟨1001, fh⟩ by
        rw [HSU.out, HEK.out]
        simp only [Rg.mk.injEq]
        constructor
        · split <;> omega
        · split <;> omega)
      have hx9 : BK ((Wkx.setCell ⟨n0 + 1, 0, none⟩ (.int .i64 1001)).setCell ⟨n0 + 1, 1, none⟩ (.int .i64 fh)) (n0 + 1) #[.int .i64 1001, .int .i64 fh] 33 := by simpa using (BK.set (BK.set hx 0 (.int .i64 1001)) 1 (.int .i64 fh))
      have bx9 : BK ((Wkx.setCell ⟨n0 + 1, 0, none⟩ (.int .i64 1001)).setCell ⟨n0 + 1, 1, none⟩ (.int .i64 fh)) n0 _ _ := (BK.far (BK.far bx (p := ⟨n0 + 1, 0, none⟩) (by show n0 ≠ n0 + 1; omega) _) (p := ⟨n0 + 1, 1, none⟩) (by show n0 ≠ n0 + 1; omega) _)
      have tx9 : BK ((Wkx.setCell ⟨n0 + 1, 0, none⟩ (.int .i64 1001)).setCell ⟨n0 + 1, 1, none⟩ (.int .i64 fh)) (n0 + 1 + 1) _ _ := (BK.far (BK.far tx (p := ⟨n0 + 1, 0, none⟩) (by show n0 + 1 + 1 ≠ n0 + 1; omega) _) (p := ⟨n0 + 1, 1, none⟩) (by show n0 + 1 + 1 ≠ n0 + 1; omega) _)
      have rx9 : BK ((Wkx.setCell ⟨n0 + 1, 0, none⟩ (.int .i64 1001)).setCell ⟨n0 + 1, 1, none⟩ (.int .i64 fh)) (n0 + 1 + 1 + 1) _ _ := (BK.far (BK.far rx (p := ⟨n0 + 1, 0, none⟩) (by show n0 + 1 + 1 + 1 ≠ n0 + 1; omega) _) (p := ⟨n0 + 1, 1, none⟩) (by show n0 + 1 + 1 + 1 ≠ n0 + 1; omega) _)
      have hC9 : Below n0 w ((Wkx.setCell ⟨n0 + 1, 0, none⟩ (.int .i64 1001)).setCell ⟨n0 + 1, 1, none⟩ (.int .i64 fh)) := (Below.setCell (Below.setCell hC (by show n0 ≤ n0 + 1; omega) _) (by show n0 ≤ n0 + 1; omega) _)
      clear a1 a3
      go_wp2_with fail
      go_roundw
      case rel => exact ⟨k + 1, by omega, by go_num, bx9, by rw [HS2.out]; exact hx9, tx9, rx9, hC9⟩
      case measure => simp [intOf]; omega
    have b2 : decide (fl < 1001) = false := decide_eq_false a2
    have b2m : max fl 1001 = fl := by omega
    by_cases a3 : ¬ th < lo
    case pos =>
      have b3 : decide (th < lo) = false := decide_eq_false a3
      have HS2 := Lib.hid (show backK ks ⟨hl, hh⟩ ⟨tl, th⟩ (k + 1) = ⟨fl, fh⟩ by
        rw [HSU.out, HEK.out]
        simp only [Rg.mk.injEq]
        constructor
        · split <;> omega
        · split <;> omega)
      have hx9 : BK (Wkx.setCell ⟨n0 + 1, 0, none⟩ (.int .i64 fl)) (n0 + 1) #[.int .i64 fl, .int .i64 fh] 33 := by simpa using (BK.set hx 0 (.int .i64 fl))
      have bx9 : BK (Wkx.setCell ⟨n0 + 1, 0, none⟩ (.int .i64 fl)) n0 _ _ := (BK.far bx (p := ⟨n0 + 1, 0, none⟩) (by show n0 ≠ n0 + 1; omega) _)
      have tx9 : BK (Wkx.setCell ⟨n0 + 1, 0, none⟩ (.int .i64 fl)) (n0 + 1 + 1) _ _ := (BK.far tx (p := ⟨n0 + 1, 0, none⟩) (by show n0 + 1 + 1 ≠ n0 + 1; omega) _)
      have rx9 : BK (Wkx.setCell ⟨n0 + 1, 0, none⟩ (.int .i64 fl)) (n0 + 1 + 1 + 1) _ _ := (BK.far rx (p := ⟨n0 + 1, 0, none⟩) (by show n0 + 1 + 1 + 1 ≠ n0 + 1; omega) _)
      have hC9 : Below n0 w (Wkx.setCell ⟨n0 + 1, 0, none⟩ (.int .i64 fl)) := (Below.setCell hC (by show n0 ≤ n0 + 1; omega) _)
      clear a1 a3
      go_wp2_with fail
      go_roundw
      case rel => exact ⟨k + 1, by omega, by go_num, bx9, by rw [HS2.out]; exact hx9, tx9, rx9, hC9⟩
      case measure => simp [intOf]; omega
    have a3 : th < lo := by omega
    have b3 : decide (th < lo) = true := decide_eq_true a3
    by_cases a4 : src - 1 < fh
    case pos =>
      have b4 : decide (src - 1 < fh) = true := decide_eq_true a4
      have b4m : min fh (src - 1) = src - 1 := by omega
      have HS2 := Lib.hid (show backK ks ⟨hl, hh⟩ ⟨tl, th⟩ (k + 1) = ⟨fl, (src - 1)⟩ by
        rw [HSU.out, HEK.out]
        simp only [Rg.mk.injEq]
        constructor
        · split <;> omega
        · split <;> omega)
      have hx9 : BK ((Wkx.setCell ⟨n0 + 1, 0, none⟩ (.int .i64 fl)).setCell ⟨n0 + 1, 1, none⟩ (.int .i64 (src - 1))) (n0 + 1) #[.int .i64 fl, .int .i64 (src - 1)] 33 := by simpa using (BK.set (BK.set hx 0 (.int .i64 fl)) 1 (.int .i64 (src - 1)))
      have bx9 : BK ((Wkx.setCell ⟨n0 + 1, 0, none⟩ (.int .i64 fl)).setCell ⟨n0 + 1, 1, none⟩ (.int .i64 (src - 1))) n0 _ _ := (BK.far (BK.far bx (p := ⟨n0 + 1, 0, none⟩) (by show n0 ≠ n0 + 1; omega) _) (p := ⟨n0 + 1, 1, none⟩) (by show n0 ≠ n0 + 1; omega) _)
      have tx9 : BK ((Wkx.setCell ⟨n0 + 1, 0, none⟩ (.int .i64 fl)).setCell ⟨n0 + 1, 1, none⟩ (.int .i64 (src - 1))) (n0 + 1 + 1) _ _ := (BK.far (BK.far tx (p := ⟨n0 + 1, 0, none⟩) (by show n0 + 1 + 1 ≠ n0 + 1; omega) _) (p := ⟨n0 + 1, 1, none⟩) (by show n0 + 1 + 1 ≠ n0 + 1; omega) _)
      have rx9 : BK ((Wkx.setCell ⟨n0 + 1, 0, none⟩ (.int .i64 fl)).setCell ⟨n0 + 1, 1, none⟩ (.int .i64 (src - 1))) (n0 + 1 + 1 + 1) _ _ := (BK.far (BK.far rx (p := ⟨n0 + 1, 0, none⟩) (by show n0 + 1 + 1 + 1 ≠ n0 + 1; omega) _) (p := ⟨n0 + 1, 1, none⟩) (by show n0 + 1 + 1 + 1 ≠ n0 + 1; omega) _)
      have hC9 : Below n0 w ((Wkx.setCell ⟨n0 + 1, 0, none⟩ (.int .i64 fl)).setCell ⟨n0 + 1, 1, none⟩ (.int .i64 (src - 1))) := (Below.setCell (Below.setCell hC (by show n0 ≤ n0 + 1; omega) _) (by show n0 ≤ n0 + 1; omega) _)
      clear a1 a3
      go_wp2_with fail
      go_roundw
      case rel => exact ⟨k + 1, by omega, by go_num, bx9, by rw [HS2.out]; exact hx9, tx9, rx9, hC9⟩
      case measure => simp [intOf]; omega
    have b4 : decide (src - 1 < fh) = false := decide_eq_false a4
    have b4m : min fh (src - 1) = fh := by omega
    have HS2 := Lib.hid (show backK ks ⟨hl, hh⟩ ⟨tl, th⟩ (k + 1) = ⟨fl, fh⟩ by
      rw [HSU.out, HEK.out]
      simp only [Rg.mk.injEq]
      constructor
      · split <;> omega
      · split <;> omega)
    have hx9 : BK ((Wkx.setCell ⟨n0 + 1, 0, none⟩ (.int .i64 fl)).setCell ⟨n0 + 1, 1, none⟩ (.int .i64 fh)) (n0 + 1) #[.int .i64 fl, .int .i64 fh] 33 := by simpa using (BK.set (BK.set hx 0 (.int .i64 fl)) 1 (.int .i64 fh))
    have bx9 : BK ((Wkx.setCell ⟨n0 + 1, 0, none⟩ (.int .i64 fl)).setCell ⟨n0 + 1, 1, none⟩ (.int .i64 fh)) n0 _ _ := (BK.far (BK.far bx (p := ⟨n0 + 1, 0, none⟩) (by show n0 ≠ n0 + 1; omega) _) (p := ⟨n0 + 1, 1, none⟩) (by show n0 ≠ n0 + 1; omega) _)
    have tx9 : BK ((Wkx.setCell ⟨n0 + 1, 0, none⟩ (.int .i64 fl)).setCell ⟨n0 + 1, 1, none⟩ (.int .i64 fh)) (n0 + 1 + 1) _ _ := (BK.far (BK.far tx (p := ⟨n0 + 1, 0, none⟩) (by show n0 + 1 + 1 ≠ n0 + 1; omega) _) (p := ⟨n0 + 1, 1, none⟩) (by show n0 + 1 + 1 ≠ n0 + 1; omega) _)
    have rx9 : BK ((Wkx.setCell ⟨n0 + 1, 0, none⟩ (.int .i64 fl)).setCell ⟨n0 + 1, 1, none⟩ (.int .i64 fh)) (n0 + 1 + 1 + 1) _ _ := (BK.far (BK.far rx (p := ⟨n0 + 1, 0, none⟩) (by show n0 + 1 + 1 + 1 ≠ n0 + 1; omega) _) (p := ⟨n0 + 1, 1, none⟩) (by show n0 + 1 + 1 + 1 ≠ n0 + 1; omega) _)
    have hC9 : Below n0 w ((Wkx.setCell ⟨n0 + 1, 0, none⟩ (.int .i64 fl)).setCell ⟨n0 + 1, 1, none⟩ (.int .i64 fh)) := (Below.setCell (Below.setCell hC (by show n0 ≤ n0 + 1; omega) _) (by show n0 ≤ n0 + 1; omega) _)
    clear a1 a3
    go_wp2_with fail
    go_roundw
    case rel => exact ⟨k + 1, by omega, by go_num, bx9, by rw [HS2.out]; exact hx9, tx9, rx9, hC9⟩
    case measure => simp [intOf]; omega
end Go.Proofs.Ytkibdciomheekaa
