/- What a hardness can be after a way, for the reference. After of the reference. Steps and bars of a works that are odd, for the program. CheckWorks of the program. CheckWorks of the reference. -/
import Derived.Test.YtkibdciomheekaaP6
set_option linter.all false
set_option linter.unnecessarySimpa false
set_option linter.unusedSimpArgs false
set_option linter.unusedVariables false
set_option linter.unusedSectionVars false

set_option linter.all false
namespace Go.Proofs.Ytkibdciomheekaa
open Go.RowKit Hp

def aftK (ks : Wy) (h : Int) (k : Nat) : Kk := (ks.take k).foldl (fun o q => if q.src ≤ h then q else o) (nthK ks 0)
theorem aftK_succ {ks : Wy} {h : Int} {k : Nat} (hk : k < ks.length) : aftK ks h (k + 1) = if (nthK ks k).src ≤ h then nthK ks k else aftK ks h k := by
  unfold aftK
  rw [List.take_add_one, List.getElem?_eq_getElem hk, List.foldl_append, ← nthK_eq hk]
  rfl
theorem aftK_len {ks : Wy} {h : Int} {k : Nat} (hk : ks.length ≤ k) : (aftK ks h k).rg = aft ks h := by
  unfold aftK aft
  rw [List.take_of_length_le hk]
set_option maxHeartbeats 4000000 in
set_option maxRecDepth 100000 in
theorem afterF_any (ks : Wy) (v : Value) (h : Int) (w : World) (hp : 0 < ks.length) (hf : ks.length ≤ 1000) (hK : RK w w.heap.size v ks) :
    Calls Try.prog 55 #[wV v, .int .i64 h] w fun e w' => e = .returned (rV (aft ks h)) ∧ Below w.heap.size w w' := by
  obtain ⟨A, cap, bb, off, rfl, hA, hc⟩ := RK.cells hK
  obtain ⟨rfl, hbb⟩ := hA (by omega)
  clear hA
  unfold wV
  have hC : Below w.heap.size w w := Below.refl _ _
  obtain ⟨n0, hn0⟩ : ∃ n, w.heap.size = n := ⟨_, rfl⟩
  have bx : BK (w.alloc (.cells #[.slice (some ⟨bb, off, none⟩) ks.length cap] 28)) n0 #[.slice (some ⟨bb, off, none⟩) ks.length cap] 28 := BK.new' _ _ _ n0 hn0
  have hs1 : (w.alloc (.cells #[.slice (some ⟨bb, off, none⟩) ks.length cap] 28)).heap.size = n0 + 1 := by simp [hn0]
  rw [hn0] at hC
  have hC1 : Below n0 w (w.alloc (.cells #[.slice (some ⟨bb, off, none⟩) ks.length cap] 28)) := Below.alloc hC (by omega) _
  go_enter Try.func55, Try.ntmps55
  go_upto_region 1 with fail
  try rw [hn0]
  generalize (w.alloc (.cells #[.slice (some ⟨bb, off, none⟩) ks.length cap] 28)) = W1 at *
  have rx : BK (W1.alloc (.cells #[.int .i64 0, .int .i64 0] 33)) (n0 + 1) #[.int .i64 0, .int .i64 0] 33 := BK.new' _ _ _ (n0 + 1) hs1
  replace hC1 : Below n0 w (W1.alloc (.cells #[.int .i64 0, .int .i64 0] 33)) := Below.alloc hC1 (by omega) _
  have hs2 : (W1.alloc (.cells #[.int .i64 0, .int .i64 0] 33)).heap.size = n0 + 2 := by simp [hs1]
  replace bx := bx.alloc (.cells #[.int .i64 0, .int .i64 0] 33)
  try rw [hs1]
  clear hs1 hC
  generalize (W1.alloc (.cells #[.int .i64 0, .int .i64 0] 33)) = W2 at *
  have hb0 : bb < n0 := by omega
  have hc2 : ∀ W, Below n0 w W → ∀ k, k < ks.length → W.cell? ⟨bb, off + k * 3, none⟩ = some (.int .i64 (nthK ks k).src) ∧ W.cell? ⟨bb, off + k * 3 + 1, none⟩ = some (.int .i64 (nthK ks k).lo) ∧ W.cell? ⟨bb, off + k * 3 + 2, none⟩ = some (.int .i64 (nthK ks k).hi) := fun W hW k hk => by
    obtain ⟨a, b, c⟩ := hc k hk
    exact ⟨(hW.cell (by exact hb0)).trans a, (hW.cell (by exact hb0)).trans b, (hW.cell (by exact hb0)).trans c⟩
  have HC := Lib.hid hc2
  clear hc hc2 hbb hK
  have lb := bx.lt
  have c0 := bx.cell 0
  simp at c0
  obtain ⟨d0, d1, d2⟩ := HC.out W2 hC1 0 hp
  have hp' : (0 : Int) < (ks.length : Int) := by omega
  have HA := Lib.hid (show (aftK ks h 0).rg = ⟨(nthK ks 0).lo, (nthK ks 0).hi⟩ from rfl)
  generalize nthK ks 0 = q0 at *
  rw [Nat.zero_mul, Nat.add_zero] at d0 d1 d2
  go_upto_region 2 with fail
  clear lb c0 d0 d1 d2
  have kx : BK (W2.alloc (.cells #[.int .i64 q0.lo, .int .i64 q0.hi] 33)) (n0 + 2) #[.int .i64 q0.lo, .int .i64 q0.hi] 33 := BK.new' _ _ _ (n0 + 2) hs2
  replace hC1 : Below n0 w (W2.alloc (.cells #[.int .i64 q0.lo, .int .i64 q0.hi] 33)) := Below.alloc hC1 (by omega) _
  replace bx := bx.alloc (.cells #[.int .i64 q0.lo, .int .i64 q0.hi] 33)
  replace rx := rx.alloc (.cells #[.int .i64 q0.lo, .int .i64 q0.hi] 33)
  try rw [hs2]
  clear hs2
  generalize (W2.alloc (.cells #[.int .i64 q0.lo, .int .i64 q0.hi] 33)) = W3 at *
  go_wp2_with fail
  go_loopw [6] (fun i wr => ∃ k : Nat, k ≤ ks.length ∧ i = .int .i64 k ∧ BK wr n0 #[.slice (some ⟨bb, off, none⟩) ks.length cap] 28 ∧ BK wr (n0 + 1) #[.int .i64 0, .int .i64 0] 33 ∧ BK wr (n0 + 2) #[.int .i64 (aftK ks h k).rg.lo, .int .i64 (aftK ks h k).rg.hi] 33 ∧ Below n0 w wr) (fun i _ => ks.length - (intOf i).toNat)
  case atStart => exact ⟨0, Nat.zero_le _, rfl, bx, rx, by rw [HA.out]; exact kx, hC1⟩
  case round =>
    clear kx bx rx hC1 HA
    obtain ⟨k, hk, rfl, bx, rx, kx, hC⟩ := hrel
    have lb := bx.lt
    have c0 := bx.cell 0
    simp at c0
    by_cases hlt : k < ks.length
    · have hlt' : (k : Int) < (ks.length : Int) := by omega
      obtain ⟨d0, d1, d2⟩ := HC.out wr hC k hlt
      have HQ := Lib.hid (aftK_succ (h := h) hlt)
      obtain ⟨o, ho⟩ : ∃ o, aftK ks h k = o := ⟨_, rfl⟩
      obtain ⟨⟨src, lo, hi⟩, hkk⟩ : ∃ x, nthK ks k = x := ⟨_, rfl⟩
      rw [ho] at kx
      rw [ho, hkk] at HQ
      rw [hkk] at d0 d1 d2
      dsimp only at d0 d1 d2 HQ
      clear ho hkk
      by_cases hle : src ≤ h
      · have HE := Lib.hid (HQ.out.trans (if_pos hle))
        have b1 : decide (src ≤ h) = true := decide_eq_true hle
        have lk := kx.lt
        have k0 := kx.cell 0
        have k1 := kx.cell 1
        have f0 := kx.frozen 0
        have f1 := kx.frozen 1
        simp at k0 k1
        clear hle
        go_wp2_with fail
        go_roundw
        case rel => exact ⟨k + 1, by omega, by go_num, (bx.far (p := ⟨n0 + 2, 0, none⟩) (by show n0 ≠ n0 + 2; omega) _).far (p := ⟨n0 + 2, 1, none⟩) (by show n0 ≠ n0 + 2; omega) _, (rx.far (p := ⟨n0 + 2, 0, none⟩) (by show n0 + 1 ≠ n0 + 2; omega) _).far (p := ⟨n0 + 2, 1, none⟩) (by show n0 + 1 ≠ n0 + 2; omega) _, by rw [HE.out]; exact fin_rg kx _ _, Below.setCell (Below.setCell hC (by show n0 ≤ n0 + 2; omega) _) (by show n0 ≤ n0 + 2; omega) _⟩
        case measure => simp [intOf]; omega
      · have HE := Lib.hid (HQ.out.trans (if_neg hle))
        have b1 : decide (src ≤ h) = false := decide_eq_false hle
        clear hle
        go_wp2_with fail
        go_roundw
        case rel => exact ⟨k + 1, by omega, by go_num, bx, rx, by rw [HE.out]; exact kx, hC⟩
        case measure => simp [intOf]; omega
    · have hlt' : ¬ (k : Int) < (ks.length : Int) := by omega
      have HE := Lib.hid (aftK_len (h := h) (show ks.length ≤ k by omega))
      rw [HE.out] at kx
      obtain ⟨⟨lo, hi⟩, ha⟩ : ∃ x, aft ks h = x := ⟨_, rfl⟩
      rw [ha] at kx
      have HV := Lib.hid ha
      dsimp only at kx
      clear ha hlt HE
      have lk := kx.lt
      have k0 := kx.cell 0
      have k1 := kx.cell 1
      have lr := rx.lt
      have r0 := rx.cell 0
      have r1 := rx.cell 1
      have f0 := rx.frozen 0
      have f1 := rx.frozen 1
      simp at r0 r1 k0 k1
      go_wp2_with fail
      clear r0 r1 f0 f1 k0 k1
      have rs := fin_rg rx (.int .i64 lo) (.int .i64 hi)
      have z0 := rs.cell 0
      have z1 := rs.cell 1
      simp at z0 z1
      exact bodyPost_ret (v := rV ⟨lo, hi⟩) (by simp [results, Try.results55, go_sem, z0, z1, rV]) rfl ⟨by rw [HV.out], by (try rw [hn0]); exact Below.setCell (Below.setCell hC (by show n0 ≤ n0 + 1; omega) _) (by show n0 ≤ n0 + 1; omega) _⟩
end Go.Proofs.Ytkibdciomheekaa

set_option linter.all false
namespace Go.Proofs.Ytkibdciomheekaa
open Go.RowKit Hp

set_option maxHeartbeats 8000000 in
set_option maxRecDepth 100000 in
theorem afterXR_any (ks : Wy) (v : Value) (h : Int) (w : World) (hl : ks.length ≤ maxLen) (hK : RK w w.heap.size v ks) :
    Calls Try.prog 18 #[wV v, .int .i64 h] w (AfterPost ks h w) := by
  obtain ⟨A, cap, rfl⟩ := hK.slice
  unfold wV
  obtain ⟨n0, hn0⟩ : ∃ n, w.heap.size = n := ⟨_, rfl⟩
  have hC : Below n0 w w := Below.refl _ _
  go_enter Try.func18, Try.ntmps18
  go_upto_region 1 with fail
  have hqbx : n0 ≤ n0 := by have := hC.size; omega
  have bx : BK (w.alloc (.cells #[.slice A ks.length cap] 28)) (n0) #[.slice A ks.length cap] 28 := BK.new' _ _ _ (n0) hn0
  have hsbx : (w.alloc (.cells #[.slice A ks.length cap] 28)).heap.size = n0 + 1 := by simp [hn0]
  replace hC : Below n0 w (w.alloc (.cells #[.slice A ks.length cap] 28)) := Below.alloc hC (by have := hC.size; omega) _
  replace hK := (RK.below hK (w' := (w.alloc (.cells #[.slice A ks.length cap] 28))) (Below.alloc (Below.refl _ _) (Nat.le_refl _) _)).more (B' := (w.alloc (.cells #[.slice A ks.length cap] 28)).heap.size) (by simp)
  generalize (w.alloc (.cells #[.slice A ks.length cap] 28)) = Wbx at *
  have hqrx : n0 ≤ n0 + 1 := by have := hC.size; omega
  have rx : BK (Wbx.alloc (.cells #[.int .i64 0, .int .i64 0] 33)) (n0 + 1) #[.int .i64 0, .int .i64 0] 33 := BK.new' _ _ _ (n0 + 1) hsbx
  have hsrx : (Wbx.alloc (.cells #[.int .i64 0, .int .i64 0] 33)).heap.size = n0 + 1 + 1 := by simp [hsbx]
  replace hC : Below n0 w (Wbx.alloc (.cells #[.int .i64 0, .int .i64 0] 33)) := Below.alloc hC (by have := hC.size; omega) _
  replace hK := (RK.below hK (w' := (Wbx.alloc (.cells #[.int .i64 0, .int .i64 0] 33))) (Below.alloc (Below.refl _ _) (Nat.le_refl _) _)).more (B' := (Wbx.alloc (.cells #[.int .i64 0, .int .i64 0] 33)).heap.size) (by simp)
  replace bx := bx.alloc (.cells #[.int .i64 0, .int .i64 0] 33)
  generalize (Wbx.alloc (.cells #[.int .i64 0, .int .i64 0] 33)) = Wrx at *
  clear hsbx
  have lbx := bx.lt
  have bxc0 := bx.cell 0
  simp at bxc0
  go_wp2_with fail
  clear lbx bxc0
  clear hsrx
  refine (checkWayR_any ks _ _ hl hK).mono ?_
  rintro e w1 ⟨rfl, hb⟩
  replace hC : Below n0 w w1 := hC.trans (hb.mono (by have := hC.size; omega))
  replace hK := (RK.below hK hb).more hb.size
  replace bx := bx.below hb bx.lt
  replace rx := rx.below hb rx.lt
  clear hb
  obtain ⟨e, he⟩ : ∃ e, wayE ks = e := ⟨_, rfl⟩
  rw [he]
  by_cases e0 : e = 0
  case neg =>
    have b1 : (e != 0) = true := by simp [e0]
    have HV := Lib.hid (after_bad (h := h) he e0)
    have HE := Lib.hid he
    clear he e0
    have lbx := bx.lt
    have bxc0 := bx.cell 0
    simp at bxc0
    go_wp2_with fail
    clear lbx bxc0
    refine (checkWayR_any ks _ _ hl hK).mono ?_
    rintro e w2 ⟨rfl, hb⟩
    replace hC : Below n0 w w2 := hC.trans (hb.mono (by have := hC.size; omega))
    replace hK := (RK.below hK hb).more hb.size
    replace bx := bx.below hb bx.lt
    replace rx := rx.below hb rx.lt
    clear hb
    rw [HE.out]
    have lrx := rx.lt
    have r0 := rx.cell 0
    have r1 := rx.cell 1
    have f0 := rx.frozen 0
    have f1 := rx.frozen 1
    simp at r0 r1
    go_wp2_with fail
    clear r0 r1 f0 f1
    have rs := fin_rg rx (.int .i64 0) (.int .i64 0)
    have z0 := rs.cell 0
    have z1 := rs.cell 1
    simp at z0 z1
    have hCf : Below n0 w ((w2.setCell ⟨n0 + 1, 0, none⟩ (.int .i64 0)).setCell ⟨n0 + 1, 1, none⟩ (.int .i64 0)) := Below.setCell (Below.setCell hC (by show n0 ≤ n0 + 1; omega) _) (by show n0 ≤ n0 + 1; omega) _
    exact bodyPost_ret (v := .tuple #[rV ⟨0, 0⟩, .int .i64 e]) (by simp [results, Try.results18, go_sem, z0, z1, rV]) rfl (AfterPost.mk' HV.out (by (try rw [hn0]); exact hCf))
  subst e0
  have OK := okW_of he
  have hp := OK.pos
  have hf := OK.few
  clear OK
  have HE := Lib.hid he
  clear he
  by_cases h0 : h < 0
  case pos =>
    have HV := Lib.hid (after_out (h := h) HE.out (by unfold inB; simp; omega))
    have b1 : decide (h < 0) = true := decide_eq_true h0
    have lrx := rx.lt
    have r0 := rx.cell 0
    have r1 := rx.cell 1
    have f0 := rx.frozen 0
    have f1 := rx.frozen 1
    simp at r0 r1
    go_wp2_with fail
    clear r0 r1 f0 f1
    have rs := fin_rg rx (.int .i64 0) (.int .i64 0)
    have z0 := rs.cell 0
    have z1 := rs.cell 1
    simp at z0 z1
    have hCf : Below n0 w ((w1.setCell ⟨n0 + 1, 0, none⟩ (.int .i64 0)).setCell ⟨n0 + 1, 1, none⟩ (.int .i64 0)) := Below.setCell (Below.setCell hC (by show n0 ≤ n0 + 1; omega) _) (by show n0 ≤ n0 + 1; omega) _
    exact bodyPost_ret (v := .tuple #[rV ⟨0, 0⟩, .int .i64 2]) (by simp [results, Try.results18, go_sem, z0, z1, rV]) rfl (AfterPost.mk' HV.out (by (try rw [hn0]); exact hCf))
  by_cases h9 : 1000 < h
  case pos =>
    have HV := Lib.hid (after_out (h := h) HE.out (by unfold inB; simp; omega))
    have b1 : decide (h < 0) = false := decide_eq_false h0
    have b2 : decide (1000 < h) = true := decide_eq_true h9
    have lrx := rx.lt
    have r0 := rx.cell 0
    have r1 := rx.cell 1
    have f0 := rx.frozen 0
    have f1 := rx.frozen 1
    simp at r0 r1
    go_wp2_with fail
    clear r0 r1 f0 f1
    have rs := fin_rg rx (.int .i64 0) (.int .i64 0)
    have z0 := rs.cell 0
    have z1 := rs.cell 1
    simp at z0 z1
    have hCf : Below n0 w ((w1.setCell ⟨n0 + 1, 0, none⟩ (.int .i64 0)).setCell ⟨n0 + 1, 1, none⟩ (.int .i64 0)) := Below.setCell (Below.setCell hC (by show n0 ≤ n0 + 1; omega) _) (by show n0 ≤ n0 + 1; omega) _
    exact bodyPost_ret (v := .tuple #[rV ⟨0, 0⟩, .int .i64 2]) (by simp [results, Try.results18, go_sem, z0, z1, rV]) rfl (AfterPost.mk' HV.out (by (try rw [hn0]); exact hCf))
  have HV := Lib.hid (after_in (h := h) HE.out (by unfold inB; simp; omega))
  have b1 : decide (h < 0) = false := decide_eq_false h0
  have b2 : decide (1000 < h) = false := decide_eq_false h9
  have lbx := bx.lt
  have bxc0 := bx.cell 0
  simp at bxc0
  go_wp2_with fail
  clear lbx bxc0
  refine (afterF_any ks _ h _ hp (by omega) hK).mono ?_
  rintro e w2 ⟨rfl, hb⟩
  replace hC : Below n0 w w2 := hC.trans (hb.mono (by have := hC.size; omega))
  replace hK := (RK.below hK hb).more hb.size
  replace bx := bx.below hb bx.lt
  replace rx := rx.below hb rx.lt
  clear hb
  obtain ⟨⟨lo, hi⟩, ha⟩ : ∃ x, aft ks h = x := ⟨_, rfl⟩
  rw [ha] at HV ⊢
  unfold rV
  clear ha
  have lrx := rx.lt
  have r0 := rx.cell 0
  have r1 := rx.cell 1
  have f0 := rx.frozen 0
  have f1 := rx.frozen 1
  simp at r0 r1
  go_wp2_with fail
  clear r0 r1 f0 f1
  have rs := fin_rg rx (.int .i64 lo) (.int .i64 hi)
  have z0 := rs.cell 0
  have z1 := rs.cell 1
  simp at z0 z1
  have hCf : Below n0 w ((w2.setCell ⟨n0 + 1, 0, none⟩ (.int .i64 lo)).setCell ⟨n0 + 1, 1, none⟩ (.int .i64 hi)) := Below.setCell (Below.setCell hC (by show n0 ≤ n0 + 1; omega) _) (by show n0 ≤ n0 + 1; omega) _
  exact bodyPost_ret (v := .tuple #[rV ⟨lo, hi⟩, .int .i64 0]) (by simp [results, Try.results18, go_sem, z0, z1, rV]) rfl (AfterPost.mk' HV.out (by (try rw [hn0]); exact hCf))
end Go.Proofs.Ytkibdciomheekaa

set_option linter.all false
namespace Go.Proofs.Ytkibdciomheekaa
open Go.RowKit Hp

theorem RP.cells {w : World} {B : Nat} {v : Value} {l : List Stp} (h : RP w B v l) : ∃ A cap b off, v = .slice A l.length cap ∧ (l.length ≠ 0 → A = some ⟨b, off, none⟩ ∧ b < B) ∧ ∀ k, k < l.length → ∃ u, w.cell? ⟨b, off + k, none⟩ = some u ∧ RW w B u (nthS l k) := by
  obtain ⟨A, cap, b, off, hv, hl, hA, hc⟩ := h
  exact ⟨A, cap, b, off, hv, hA, fun k hk => hc k (nthS l k) (by rw [nthS_eq hk, List.getElem?_eq_getElem hk])⟩
theorem RW.cells {w : World} {B : Nat} {v : Value} {l : Stp} (h : RW w B v l) : ∃ A cap b off, v = .slice A l.length cap ∧ (l.length ≠ 0 → A = some ⟨b, off, none⟩ ∧ b < B) ∧ ∀ k, k < l.length → ∃ u, w.cell? ⟨b, off + k, none⟩ = some u ∧ RK w B u (nthW l k) := by
  obtain ⟨A, cap, b, off, hv, hl, hA, hc⟩ := h
  exact ⟨A, cap, b, off, hv, hA, fun k hk => hc k (nthW l k) (by rw [nthW_eq hk, List.getElem?_eq_getElem hk])⟩
theorem RR.slice {w : World} {B : Nat} {v : Value} {l : List Rg} (h : RR w B v l) : ∃ A c, v = .slice A l.length c := by
  obtain ⟨A, cap, b, off, hv, _⟩ := h
  exact ⟨A, cap, hv⟩
def IxPost (b : Bool) (w : World) (e : Ending) (w' : World) : Prop := (∃ r : Int, e = .returned (.int .i64 r) ∧ (0 ≤ r ↔ b = true)) ∧ Below w.heap.size w w'
theorem IxPost.mk' {b : Bool} {w w' : World} {r : Int} (h : 0 ≤ r ↔ b = true) (hb : Below w.heap.size w w') : IxPost b w (.returned (.int .i64 r)) w' := ⟨⟨r, rfl, h⟩, hb⟩
theorem RW.slice {w : World} {B : Nat} {v : Value} {l : Stp} (h : RW w B v l) : ∃ A c, v = .slice A l.length c := RN.slice h
theorem RP.slice {w : World} {B : Nat} {v : Value} {l : List Stp} (h : RP w B v l) : ∃ A c, v = .slice A l.length c := RN.slice h

set_option maxHeartbeats 8000000 in
set_option maxRecDepth 100000 in
theorem odd_any (s : Stp) (v : Value) (w : World) (hl : s.length ≤ maxLen) (hK : RW w w.heap.size v s) :
    Calls Try.prog 57 #[wV v] w fun e w' => e = .returned (.bool (oddB s)) ∧ Below w.heap.size w w' := by
  unfold maxLen at hl
  obtain ⟨A, cap, rfl⟩ := hK.slice
  unfold wV
  have hC : Below w.heap.size w w := Below.refl _ _
  clear hK
  by_cases h0 : s.length = 0
  · have HV := Lib.hid (show oddB s = true from decide_eq_true (.inl h0))
    have hz : (s.length : Int) = 0 := by omega
    clear h0
    go_enter Try.func57, Try.ntmps57
    go_wp2_with fail
    go_ret
    exact ⟨ret_bool HV.out.symm, by exact bel_of⟩
  have hz : ((s.length : Int) == 0) = false := beq_eq_false_iff_ne.2 (by omega)
  by_cases h5 : 5 < s.length
  · have HV := Lib.hid (show oddB s = true from decide_eq_true (.inr h5))
    have hz2 : decide ((5 : Int) < (s.length : Int)) = true := decide_eq_true (by omega)
    clear h0
    go_enter Try.func57, Try.ntmps57
    go_wp2_with fail
    go_ret
    exact ⟨ret_bool HV.out.symm, by exact bel_of⟩
  have HV := Lib.hid (show oddB s = false from decide_eq_false (by omega))
  have hz2 : decide ((5 : Int) < (s.length : Int)) = false := decide_eq_false (by omega)
  clear h0
  go_enter Try.func57, Try.ntmps57
  go_wp2_with fail
  go_ret
  exact ⟨ret_bool HV.out.symm, by exact bel_of⟩
set_option maxHeartbeats 8000000 in
set_option maxRecDepth 100000 in
theorem soft_any (r : Rg) (w : World) :
    Calls Try.prog 60 #[rV r] w fun e w' => e = .returned (.bool (!hard r)) ∧ Below w.heap.size w w' := by
  obtain ⟨lo, hi⟩ := r
  unfold rV
  have hC : Below w.heap.size w w := Below.refl _ _
  go_enter Try.func60, Try.ntmps60
  go_wp2_with fail
  refine (isHard_any ⟨lo, hi⟩ _).mono ?_
  rintro e w2 ⟨rfl, hb⟩
  have hb2 : Below w.heap.size w w2 := Below.trans (b := w.alloc (.cells #[.int .i64 lo, .int .i64 hi] 33)) (by exact bel_of) (hb.mono (by simp; try omega))
  clear hb
  obtain ⟨q, hq⟩ : ∃ q, hard ⟨lo, hi⟩ = q := ⟨_, rfl⟩
  rw [hq]
  have HV := Lib.hid hq
  clear hq
  go_wp2_with fail
  go_ret
  exact ⟨by show Ending.returned (.bool (!q)) = _; rw [HV.out], hb2⟩
set_option maxHeartbeats 8000000 in
set_option maxRecDepth 100000 in
theorem indexS_any (l : List Stp) (v : Value) (w : World) (hl : l.length ≤ 1000) (hw : ∀ k, k < l.length → (nthS l k).length ≤ maxLen) (hK : RP w w.heap.size v l) :
    Calls Try.prog 83 #[v, .func (.func 57) #[] #[]] w (IxPost (l.any oddB) w) := by
  obtain ⟨A, cap, bb, off, rfl, hA, hc⟩ := RP.cells hK
  have HA := Lib.hid hA
  clear hA hc
  go_enter Try.func83, Try.ntmps83
  go_wp2_with fail
  go_loopw [8] (fun i wr => ∃ k : Nat, k ≤ l.length ∧ i = .int .i64 k ∧ (∀ j, j < k → oddB (nthS l j) = false) ∧ Below w.heap.size w wr) (fun i _ => l.length - (intOf i).toNat)
  case atStart => exact ⟨0, Nat.zero_le _, rfl, fun j hj => absurd hj (by omega), Below.refl _ _⟩
  case round =>
    obtain ⟨k, hk, rfl, hall, hb⟩ := hrel
    have HALL := Lib.hid hall
    clear hall
    replace hK := (RP.below hK hb).more hb.size
    by_cases hlt : k < l.length
    · have hlt' : (k : Int) < (l.length : Int) := by omega
      obtain ⟨A', cap', bb', off', hve, hA, hc⟩ := RP.cells hK
      obtain ⟨rfl, hbb⟩ := hA (by omega)
      injection hve with q1 q2 q3
      subst q1 q3
      obtain ⟨u, d0, hu⟩ := hc k hlt
      obtain ⟨A1, c1, rfl⟩ := hu.slice
      clear hA hc q2
      go_wp2_with fail
      refine (odd_any _ _ _ (hw k hlt) hu).mono ?_
      rintro e w2 ⟨rfl, hb2⟩
      have hbr := Lib.hid (hb.trans (hb2.mono hb.size))
      obtain ⟨q, hq⟩ : ∃ q, oddB (nthS l k) = q := ⟨_, rfl⟩
      rw [hq]
      have HQ := Lib.hid hq
      clear hq hb hb2
      cases q
      · go_wp2_with fail
        go_roundw
        case rel => exact ⟨k + 1, by omega, by go_num, fun j hj => by
          rcases Nat.lt_succ_iff_lt_or_eq.1 hj with h | rfl
          · exact HALL.out j h
          · exact HQ.out, hbr.out⟩
        case measure => simp [intOf]; omega
      · have HV := Lib.hid (show l.any oddB = true from List.any_eq_true.2 ⟨_, nthS_mem hlt, HQ.out⟩)
        go_wp2_with fail
        go_ret
        exact IxPost.mk' (r := (k : Int)) (by rw [HV.out]; simp) hbr.out
    · have hlt' : ¬ (k : Int) < (l.length : Int) := by omega
      have HV := Lib.hid (show l.any oddB = false from List.any_eq_false.2 fun x hx => by
        obtain ⟨j, hj, rfl⟩ := List.mem_iff_getElem.1 hx
        have := HALL.out j (by omega)
        rw [nthS_eq hj] at this
        simpa using this)
      have HB := Lib.hid hb
      clear hb
      go_wp2_with fail
      go_ret
      exact IxPost.mk' (r := -1) (by rw [HV.out]; simp) HB.out
set_option maxHeartbeats 8000000 in
set_option maxRecDepth 100000 in
theorem indexB_any (l : List Rg) (v : Value) (w : World) (hl : l.length ≤ 1000) (hK : RR w w.heap.size v l) :
    Calls Try.prog 84 #[v, .func (.func 60) #[] #[]] w (IxPost (l.any (fun r => !hard r)) w) := by
  obtain ⟨A, cap, bb, off, rfl, hA, hc⟩ := RR.cells hK
  have HA := Lib.hid hA
  clear hA hc
  go_enter Try.func84, Try.ntmps84
  go_wp2_with fail
  go_loopw [8] (fun i wr => ∃ k : Nat, k ≤ l.length ∧ i = .int .i64 k ∧ (∀ j, j < k → (fun r => !hard r) (nthB l j) = false) ∧ Below w.heap.size w wr) (fun i _ => l.length - (intOf i).toNat)
  case atStart => exact ⟨0, Nat.zero_le _, rfl, fun j hj => absurd hj (by omega), Below.refl _ _⟩
  case round =>
    obtain ⟨k, hk, rfl, hall, hb⟩ := hrel
    have HALL := Lib.hid hall
    clear hall
    replace hK := (RS.below hK hb).more hb.size
    by_cases hlt : k < l.length
    · have hlt' : (k : Int) < (l.length : Int) := by omega
      obtain ⟨A', cap', bb', off', hve, hA, hc⟩ := RR.cells hK
      obtain ⟨rfl, hbb⟩ := hA (by omega)
      injection hve with q1 q2 q3
      subst q1 q3
      obtain ⟨d0, d1⟩ := hc k hlt
      obtain ⟨⟨lo, hi⟩, hkk⟩ : ∃ x, nthB l k = x := ⟨_, rfl⟩
      rw [hkk] at d0 d1
      dsimp only at d0 d1
      clear hA hc q2
      go_wp2_with fail
      refine (soft_any ⟨lo, hi⟩ _).mono ?_
      rintro e w2 ⟨rfl, hb2⟩
      have hbr := Lib.hid (hb.trans (hb2.mono hb.size))
      obtain ⟨q, hq⟩ : ∃ q, (fun r => !hard r) (nthB l k) = q := ⟨_, rfl⟩
      have hq2 : (!hard ⟨lo, hi⟩) = q := by rw [← hq, hkk]
      rw [hq2]
      clear hq2
      have HQ := Lib.hid hq
      clear hq hb hb2
      cases q
      · go_wp2_with fail
        go_roundw
        case rel => exact ⟨k + 1, by omega, by go_num, fun j hj => by
          rcases Nat.lt_succ_iff_lt_or_eq.1 hj with h | rfl
          · exact HALL.out j h
          · exact HQ.out, hbr.out⟩
        case measure => simp [intOf]; omega
      · have HV := Lib.hid (show l.any (fun r => !hard r) = true from List.any_eq_true.2 ⟨_, nthB_mem hlt, HQ.out⟩)
        go_wp2_with fail
        go_ret
        exact IxPost.mk' (r := (k : Int)) (by rw [HV.out]; simp) hbr.out
    · have hlt' : ¬ (k : Int) < (l.length : Int) := by omega
      have HV := Lib.hid (show l.any (fun r => !hard r) = false from List.any_eq_false.2 fun x hx => by
        obtain ⟨j, hj, rfl⟩ := List.mem_iff_getElem.1 hx
        have := HALL.out j (by omega)
        rw [nthB_eq hj] at this
        simpa using this)
      have HB := Lib.hid hb
      clear hb
      go_wp2_with fail
      go_ret
      exact IxPost.mk' (r := -1) (by rw [HV.out]; simp) HB.out
set_option maxHeartbeats 8000000 in
set_option maxRecDepth 100000 in
theorem hasS_any (l : List Stp) (v : Value) (w : World) (hl : l.length ≤ 1000) (hw : ∀ k, k < l.length → (nthS l k).length ≤ maxLen) (hK : RP w w.heap.size v l) :
    Calls Try.prog 58 #[v, .func (.func 57) #[] #[]] w fun e w' => e = .returned (.bool (l.any oddB)) ∧ Below w.heap.size w w' := by
  go_enter Try.func58, Try.ntmps58
  go_wp2_with fail
  refine (indexS_any l _ _ hl hw hK).mono ?_
  rintro e w2 ⟨⟨r, rfl, hr⟩, hb⟩
  have HR := Lib.hid hr
  have HB := Lib.hid hb
  clear hr hb
  go_wp2_with fail
  go_ret
  refine ⟨?_, HB.out⟩
  have : decide (0 ≤ r) = l.any oddB := by rw [Bool.eq_iff_iff, decide_eq_true_iff]; exact HR.out
  show Ending.returned (.bool (decide (0 ≤ r))) = _
  rw [this]
set_option maxHeartbeats 8000000 in
set_option maxRecDepth 100000 in
theorem hasB_any (l : List Rg) (v : Value) (w : World) (hl : l.length ≤ 1000) (hK : RR w w.heap.size v l) :
    Calls Try.prog 59 #[v, .func (.func 60) #[] #[]] w fun e w' => e = .returned (.bool (l.any (fun r => !hard r))) ∧ Below w.heap.size w w' := by
  go_enter Try.func59, Try.ntmps59
  go_wp2_with fail
  refine (indexB_any l _ _ hl hK).mono ?_
  rintro e w2 ⟨⟨r, rfl, hr⟩, hb⟩
  have HR := Lib.hid hr
  have HB := Lib.hid hb
  clear hr hb
  go_wp2_with fail
  go_ret
  refine ⟨?_, HB.out⟩
  have : decide (0 ≤ r) = l.any (fun r => !hard r) := by rw [Bool.eq_iff_iff, decide_eq_true_iff]; exact HR.out
  show Ending.returned (.bool (decide (0 ≤ r))) = _
  rw [this]
end Go.Proofs.Ytkibdciomheekaa

set_option linter.all false
namespace Go.Proofs.Ytkibdciomheekaa
open Go.RowKit Hp

/-- A works that is small enough for the contracts. -/
structure Fit (bars : List Rg) (ss : List Stp) : Prop where
  b : bars.length ≤ 1000
  s : ss.length ≤ 1000
  w : ∀ s ∈ ss, s.length ≤ 1000
  k : ∀ s ∈ ss, ∀ w ∈ s, w.length ≤ 1000
theorem works_many {bars : List Rg} {ss : List Stp} (h : (bars.length = 0 ∨ 6 < bars.length ∨ 6 < ss.length) ∨ ss.any oddB = true) : worksE bars ss = 6 := by unfold worksE; rw [if_pos h]
theorem works_soft {bars : List Rg} {ss : List Stp} (h : ¬ (bars.length = 0 ∨ 6 < bars.length ∨ 6 < ss.length)) (h2 : ss.any oddB = false) (h3 : bars.any (fun r => !hard r) = true) : worksE bars ss = 2 := by
  unfold worksE; rw [if_neg (by rw [h2]; rintro (q | q); exact h q; cases q), if_pos h3]
theorem works_step {bars : List Rg} {ss : List Stp} (h : ¬ (bars.length = 0 ∨ 6 < bars.length ∨ 6 < ss.length)) (h2 : ss.any oddB = false) (h3 : bars.any (fun r => !hard r) = false) : worksE bars ss = stepsE ss := by
  unfold worksE; rw [if_neg (by rw [h2]; rintro (q | q); exact h q; cases q), if_neg (by rw [h3]; simp)]
theorem stepsE_bad {ss : List Stp} {i k : Nat} (hi : i < ss.length) (h : ∀ j, j < i → waysE (nthS ss j) = 0) (hk : k < (nthS ss i).length) (h2 : ∀ j, j < k → wayE (nthW (nthS ss i) j) = 0) (hne : wayE (nthW (nthS ss i) k) ≠ 0) : stepsE ss = wayE (nthW (nthS ss i) k) := by
  have e := waysE_at hk h2 hne
  rw [stepsE_at hi h (by rw [e]; exact hne), e]

set_option maxHeartbeats 8000000 in
set_option maxRecDepth 100000 in
theorem checkWorks_any (bars : List Rg) (ss : List Stp) (vb vs : Value) (w : World) (hf : Fit bars ss) (hB : RR w w.heap.size vb bars) (hS : RP w w.heap.size vs ss) :
    Calls Try.prog 21 #[.agg #[vb, vs]] w fun e w' => e = .returned (.int .i64 (worksE bars ss)) ∧ Below w.heap.size w w' := by
  obtain ⟨hfb, hfs, hfw, hfk⟩ := hf
  have HFW := Lib.hid hfw
  have HFK := Lib.hid hfk
  clear hfw hfk
  obtain ⟨Ab, cb, rfl⟩ := hB.slice
  obtain ⟨As, cs, rfl⟩ := hS.slice
  obtain ⟨n0, hn0⟩ : ∃ n, w.heap.size = n := ⟨_, rfl⟩
  have hC : Below n0 w w := Below.refl _ _
  go_enter Try.func21, Try.ntmps21
  go_upto_region 1 with fail
  have hqbx : n0 ≤ n0 := by have := hC.size; omega
  have bx : BK (w.alloc (.cells #[.slice Ab bars.length cb, .slice As ss.length cs] 25)) (n0) #[.slice Ab bars.length cb, .slice As ss.length cs] 25 := BK.new' _ _ _ (n0) hn0
  have hsbx : (w.alloc (.cells #[.slice Ab bars.length cb, .slice As ss.length cs] 25)).heap.size = n0 + 1 := by simp [hn0]
  replace hC : Below n0 w (w.alloc (.cells #[.slice Ab bars.length cb, .slice As ss.length cs] 25)) := Below.alloc hC (by have := hC.size; omega) _
  replace hB := (RS.below hB (w' := (w.alloc (.cells #[.slice Ab bars.length cb, .slice As ss.length cs] 25))) (Below.alloc (Below.refl _ _) (Nat.le_refl _) _)).more (B' := (w.alloc (.cells #[.slice Ab bars.length cb, .slice As ss.length cs] 25)).heap.size) (by simp)
  replace hS := (RP.below hS (w' := (w.alloc (.cells #[.slice Ab bars.length cb, .slice As ss.length cs] 25))) (Below.alloc (Below.refl _ _) (Nat.le_refl _) _)).more (B' := (w.alloc (.cells #[.slice Ab bars.length cb, .slice As ss.length cs] 25)).heap.size) (by simp)
  generalize (w.alloc (.cells #[.slice Ab bars.length cb, .slice As ss.length cs] 25)) = Wbx at *
  by_cases h1 : bars.length = 0
  case pos =>
    have HE := Lib.hid (works_many (bars := bars) (ss := ss) (.inl (by omega)))
    have z1 : (bars.length : Int) = 0 := by omega
    clear h1
    have lbx := bx.lt
    have bxc0 := bx.cell 0
    have bxc1 := bx.cell 1
    simp at bxc0 bxc1
    go_wp2_with fail
    go_ret
    exact ⟨ret_int HE.out.symm, by (try rw [hn0]); exact hC⟩
  have z1 : ((bars.length : Int) == 0) = false := beq_eq_false_iff_ne.2 (by omega)
  by_cases h2 : 6 < bars.length
  case pos =>
    have HE := Lib.hid (works_many (bars := bars) (ss := ss) (.inl (by omega)))
    have z2 : decide ((6 : Int) < (bars.length : Int)) = true := decide_eq_true (by omega)
    have lbx := bx.lt
    have bxc0 := bx.cell 0
    have bxc1 := bx.cell 1
    simp at bxc0 bxc1
    go_wp2_with fail
    go_ret
    exact ⟨ret_int HE.out.symm, by (try rw [hn0]); exact hC⟩
  have z2 : decide ((6 : Int) < (bars.length : Int)) = false := decide_eq_false (by omega)
  by_cases h3 : 6 < ss.length
  case pos =>
    have HE := Lib.hid (works_many (bars := bars) (ss := ss) (.inl (by omega)))
    have z3 : decide ((6 : Int) < (ss.length : Int)) = true := decide_eq_true (by omega)
    have lbx := bx.lt
    have bxc0 := bx.cell 0
    have bxc1 := bx.cell 1
    simp at bxc0 bxc1
    go_wp2_with fail
    go_ret
    exact ⟨ret_int HE.out.symm, by (try rw [hn0]); exact hC⟩
  have z3 : decide ((6 : Int) < (ss.length : Int)) = false := decide_eq_false (by omega)
  have hmany : ¬ (bars.length = 0 ∨ 6 < bars.length ∨ 6 < ss.length) := by omega
  have HM := Lib.hid hmany
  clear hmany
  have lbx := bx.lt
  have bxc0 := bx.cell 0
  have bxc1 := bx.cell 1
  simp at bxc0 bxc1
  go_wp2_with fail
  clear lbx bxc0 bxc1
  clear hsbx
  refine (hasS_any ss _ _ hfs (fun k hk => Nat.le_trans (HFW.out _ (nthS_mem hk)) (by decide)) hS).mono ?_
  rintro e w1 ⟨rfl, hb⟩
  replace hC : Below n0 w w1 := hC.trans (hb.mono (by have := hC.size; omega))
  replace hB := (RS.below hB hb).more hb.size
  replace hS := (RP.below hS hb).more hb.size
  replace bx := bx.below hb bx.lt
  clear hb
  obtain ⟨q, hq⟩ : ∃ q, ss.any oddB = q := ⟨_, rfl⟩
  rw [hq]
  cases q
  case true =>
    have HE := Lib.hid (works_many (bars := bars) (.inr hq))
    clear hq
    go_wp2_with fail
    go_ret
    exact ⟨ret_int HE.out.symm, by (try rw [hn0]); exact hC⟩
  have HO := Lib.hid hq
  clear hq
  have lbx := bx.lt
  have bxc0 := bx.cell 0
  have bxc1 := bx.cell 1
  simp at bxc0 bxc1
  go_wp2_with fail
  clear lbx bxc0 bxc1
  refine (hasB_any bars _ _ hfb hB).mono ?_
  rintro e w2 ⟨rfl, hb⟩
  replace hC : Below n0 w w2 := hC.trans (hb.mono (by have := hC.size; omega))
  replace hB := (RS.below hB hb).more hb.size
  replace hS := (RP.below hS hb).more hb.size
  replace bx := bx.below hb bx.lt
  clear hb
  obtain ⟨q, hq⟩ : ∃ q, bars.any (fun r => !hard r) = q := ⟨_, rfl⟩
  rw [hq]
  cases q
  case true =>
    have HE := Lib.hid (works_soft HM.out HO.out hq)
    clear hq
    go_wp2_with fail
    go_ret
    exact ⟨ret_int HE.out.symm, by (try rw [hn0]); exact hC⟩
  have HW := Lib.hid (works_step HM.out HO.out hq)
  clear hq z1 z2 z3
  have lbx := bx.lt
  have bxc0 := bx.cell 0
  have bxc1 := bx.cell 1
  simp at bxc0 bxc1
  go_wp2_with fail
  clear lbx bxc0 bxc1
  generalize w2 = W0 at *
  go_loopw [39] (fun i wr => ∃ k : Nat, k ≤ ss.length ∧ i = .int .i64 k ∧ (∀ j, j < k → waysE (nthS ss j) = 0) ∧ Below W0.heap.size W0 wr) (fun i _ => ss.length - (intOf i).toNat)
  case atStart => exact ⟨0, Nat.zero_le _, rfl, fun j hj => absurd hj (by omega), Below.refl _ _⟩
  case round =>
    obtain ⟨k, hk, rfl, hall, hb⟩ := hrel
    have HALL := Lib.hid hall
    have hbr := Lib.hid hb
    clear hall
    replace hC : Below n0 w wr := hC.trans (hb.mono (by have := hC.size; omega))
    replace hB := (RS.below hB hb).more hb.size
    replace hS := (RP.below hS hb).more hb.size
    replace bx := bx.below hb bx.lt
    clear hb
    by_cases hlt : k < ss.length
    case neg =>
      have hlt' : ¬ (k : Int) < (ss.length : Int) := by omega
      have HE := Lib.hid (HW.out.trans (stepsE_zero.2 fun j hj => HALL.out j (by omega)))
      go_wp2_with fail
      go_ret
      exact ⟨ret_int HE.out.symm, by (try rw [hn0]); exact hC⟩
    have hlt' : (k : Int) < (ss.length : Int) := by omega
    obtain ⟨A', cap', bb, off, hve, hA, hc⟩ := RP.cells hS
    obtain ⟨rfl, hbb⟩ := hA (by omega)
    injection hve with q1 q2 q3
    subst q1 q3
    obtain ⟨u, d0, hu⟩ := hc k hlt
    have hsl := HFW.out _ (nthS_mem hlt)
    have HKL := Lib.hid (HFK.out _ (nthS_mem hlt))
    have HBAD := Lib.hid (fun (j : Nat) => stepsE_bad (k := j) hlt HALL.out)
    have HNEXT := Lib.hid (fun (h : waysE (nthS ss k) = 0) => show ∀ j, j < k + 1 → waysE (nthS ss j) = 0 from fun j hj => by
      rcases Nat.lt_succ_iff_lt_or_eq.1 hj with h1 | rfl
      · exact HALL.out j h1
      · exact h)
    obtain ⟨s, hs⟩ : ∃ s, nthS ss k = s := ⟨_, rfl⟩
    rw [hs] at hu hsl HKL HBAD HNEXT
    obtain ⟨Aw, cw, rfl⟩ := hu.slice
    clear hA hc q2 hs
    go_upto_region 9 with fail
    obtain ⟨m1, hm1⟩ : ∃ n, wr.heap.size = n := ⟨_, rfl⟩
    try rw [hm1]
    have hqsx : n0 ≤ m1 := by have := hC.size; omega
    have sx : BK (wr.alloc (.cells #[.slice Aw s.length cw] 88)) (m1) #[.slice Aw s.length cw] 88 := BK.new' _ _ _ (m1) hm1
    have hssx : (wr.alloc (.cells #[.slice Aw s.length cw] 88)).heap.size = m1 + 1 := by simp [hm1]
    replace hC : Below n0 w (wr.alloc (.cells #[.slice Aw s.length cw] 88)) := Below.alloc hC (by have := hC.size; omega) _
    replace hB := (RS.below hB (w' := (wr.alloc (.cells #[.slice Aw s.length cw] 88))) (Below.alloc (Below.refl _ _) (Nat.le_refl _) _)).more (B' := (wr.alloc (.cells #[.slice Aw s.length cw] 88)).heap.size) (by simp)
    replace hS := (RP.below hS (w' := (wr.alloc (.cells #[.slice Aw s.length cw] 88))) (Below.alloc (Below.refl _ _) (Nat.le_refl _) _)).more (B' := (wr.alloc (.cells #[.slice Aw s.length cw] 88)).heap.size) (by simp)
    replace bx := bx.alloc (.cells #[.slice Aw s.length cw] 88)
    replace hu := (RW.below hu (w' := (wr.alloc (.cells #[.slice Aw s.length cw] 88))) (Below.alloc (Below.refl _ _) (Nat.le_refl _) _)).more (B' := (wr.alloc (.cells #[.slice Aw s.length cw] 88)).heap.size) (by simp)
    have hbo := Lib.hid (hbr.out.trans ((Below.alloc (Below.refl _ _) (Nat.le_refl _) _ : Below wr.heap.size wr (wr.alloc (.cells #[.slice Aw s.length cw] 88))).mono hbr.out.size))
    generalize (wr.alloc (.cells #[.slice Aw s.length cw] 88)) = Wsx at *
    clear hm1
    clear d0
    have lsx := sx.lt
    have sxc0 := sx.cell 0
    simp at sxc0
    go_wp2_with fail
    clear lsx sxc0
    clear hssx
    skip
    generalize Wsx = W5 at *
    go_loopw [46] (fun i wr => ∃ j : Nat, j ≤ s.length ∧ i = .int .i64 j ∧ (∀ q, q < j → wayE (nthW s q) = 0) ∧ Below W5.heap.size W5 wr) (fun i _ => s.length - (intOf i).toNat)
    case atStart => exact ⟨0, Nat.zero_le _, rfl, fun j hj => absurd hj (by omega), Below.refl _ _⟩
    case round =>
      obtain ⟨j, hj, rfl, hall, hb⟩ := hrel
      have HALJ := Lib.hid hall
      have hbj := Lib.hid (hbo.out.trans (hb.mono hbo.out.size))
      have hbi := Lib.hid hb
      clear hall
      replace hC : Below n0 w wr := hC.trans (hb.mono (by have := hC.size; omega))
      replace hB := (RS.below hB hb).more hb.size
      replace hS := (RP.below hS hb).more hb.size
      replace bx := bx.below hb bx.lt
      replace hu := (RW.below hu hb).more hb.size
      replace sx := sx.below hb sx.lt
      clear hb
      by_cases hjt : j < s.length
      case neg =>
        have hjt' : ¬ (j : Int) < (s.length : Int) := by omega
        have HN := Lib.hid (HNEXT.out (waysE_zero.2 fun q hq => HALJ.out q (by omega)))
        go_wp2_with fail
        go_roundw
        case rel => exact ⟨k + 1, by omega, by go_num, HN.out, hbj.out⟩
        case measure => simp [intOf]; omega
      have hjt' : (j : Int) < (s.length : Int) := by omega
      obtain ⟨A1, cap1, b1, off1, hve, hA, hc⟩ := RW.cells hu
      obtain ⟨rfl, hbb1⟩ := hA (by omega)
      injection hve with q1 q2 q3
      subst q1 q3
      obtain ⟨u, d0, hv⟩ := hc j hjt
      have hkl := HKL.out _ (nthW_mem hjt)
      have HB2 := Lib.hid (HBAD.out j hjt HALJ.out)
      have HN2 := Lib.hid (fun (h : wayE (nthW s j) = 0) => show ∀ q, q < j + 1 → wayE (nthW s q) = 0 from fun q hq => by
        rcases Nat.lt_succ_iff_lt_or_eq.1 hq with h1 | rfl
        · exact HALJ.out q h1
        · exact h)
      obtain ⟨ks, hks⟩ : ∃ s', nthW s j = s' := ⟨_, rfl⟩
      rw [hks] at hv hkl HB2 HN2
      obtain ⟨Ak, ck, rfl⟩ := hv.slice
      clear hA hc q2 hks
      go_upto_region 12 with fail
      skip
      obtain ⟨m2, hm2⟩ : ∃ n, wr.heap.size = n := ⟨_, rfl⟩
      try rw [hm2]
      have hqkx : n0 ≤ m2 := by have := hC.size; omega
      have kx : BK (wr.alloc (.cells #[.slice Ak ks.length ck] 28)) (m2) #[.slice Ak ks.length ck] 28 := BK.new' _ _ _ (m2) hm2
      have hskx : (wr.alloc (.cells #[.slice Ak ks.length ck] 28)).heap.size = m2 + 1 := by simp [hm2]
      replace hC : Below n0 w (wr.alloc (.cells #[.slice Ak ks.length ck] 28)) := Below.alloc hC (by have := hC.size; omega) _
      replace hB := (RS.below hB (w' := (wr.alloc (.cells #[.slice Ak ks.length ck] 28))) (Below.alloc (Below.refl _ _) (Nat.le_refl _) _)).more (B' := (wr.alloc (.cells #[.slice Ak ks.length ck] 28)).heap.size) (by simp)
      replace hS := (RP.below hS (w' := (wr.alloc (.cells #[.slice Ak ks.length ck] 28))) (Below.alloc (Below.refl _ _) (Nat.le_refl _) _)).more (B' := (wr.alloc (.cells #[.slice Ak ks.length ck] 28)).heap.size) (by simp)
      replace bx := bx.alloc (.cells #[.slice Ak ks.length ck] 28)
      replace hu := (RW.below hu (w' := (wr.alloc (.cells #[.slice Ak ks.length ck] 28))) (Below.alloc (Below.refl _ _) (Nat.le_refl _) _)).more (B' := (wr.alloc (.cells #[.slice Ak ks.length ck] 28)).heap.size) (by simp)
      replace sx := sx.alloc (.cells #[.slice Ak ks.length ck] 28)
      replace hv := (RK.below hv (w' := (wr.alloc (.cells #[.slice Ak ks.length ck] 28))) (Below.alloc (Below.refl _ _) (Nat.le_refl _) _)).more (B' := (wr.alloc (.cells #[.slice Ak ks.length ck] 28)).heap.size) (by simp)
      have hbq := Lib.hid (hbi.out.trans ((Below.alloc (Below.refl _ _) (Nat.le_refl _) _ : Below wr.heap.size wr (wr.alloc (.cells #[.slice Ak ks.length ck] 28))).mono hbi.out.size))
      generalize (wr.alloc (.cells #[.slice Ak ks.length ck] 28)) = Wkx at *
      clear hm2
      clear d0
      have lkx := kx.lt
      have kxc0 := kx.cell 0
      simp at kxc0
      go_wp2_with fail
      clear lkx kxc0
      clear hskx
      refine (checkWay_any ks _ _ (Nat.le_trans hkl (by decide)) hv).mono ?_
      rintro e w3 ⟨rfl, hb⟩
      replace hC : Below n0 w w3 := hC.trans (hb.mono (by have := hC.size; omega))
      replace hB := (RS.below hB hb).more hb.size
      replace hS := (RP.below hS hb).more hb.size
      replace bx := bx.below hb bx.lt
      replace hu := (RW.below hu hb).more hb.size
      replace sx := sx.below hb sx.lt
      replace hv := (RK.below hv hb).more hb.size
      replace kx := kx.below hb kx.lt
      have hbr2 := Lib.hid (hbq.out.trans (hb.mono hbq.out.size))
      clear hb
      obtain ⟨e, he⟩ : ∃ e, wayE ks = e := ⟨_, rfl⟩
      rw [he]
      by_cases e0 : e = 0
      case neg =>
        have HE := Lib.hid ((HW.out.trans (HB2.out (by rw [he]; exact e0))).trans he)
        have b1 : (e != 0) = true := by simp [e0]
        clear he e0
        go_wp2_with fail
        go_ret
        exact ⟨ret_int HE.out.symm, by (try rw [hn0]); exact hC⟩
      subst e0
      have HN := Lib.hid (HN2.out he)
      clear he
      go_wp2_with fail
      go_roundw
      case rel => exact ⟨j + 1, by omega, by go_num, HN.out, hbr2.out⟩
      case measure => simp [intOf]; omega
end Go.Proofs.Ytkibdciomheekaa

set_option linter.all false
namespace Go.Proofs.Ytkibdciomheekaa
open Go.RowKit Hp

theorem any_no {α : Type} {l : List α} {P : α → Bool} {nth : Nat → α} (h : ∀ k (hk : k < l.length), nth k = l[k]) (h2 : ∀ k, k < l.length → P (nth k) = false) : l.any P = false := List.any_eq_false.2 fun x hx => by
  obtain ⟨k, hk, rfl⟩ := List.mem_iff_getElem.1 hx
  have := h2 k hk
  rw [h k hk] at this
  simp [this]
set_option maxHeartbeats 8000000 in
set_option maxRecDepth 100000 in
theorem checkWorksR_any (bars : List Rg) (ss : List Stp) (vb vs : Value) (w : World) (hf : Fit bars ss) (hB : RR w w.heap.size vb bars) (hS : RP w w.heap.size vs ss) :
    Calls Try.prog 22 #[.agg #[vb, vs]] w fun e w' => e = .returned (.int .i64 (worksE bars ss)) ∧ Below w.heap.size w w' := by
  obtain ⟨hfb, hfs, hfw, hfk⟩ := hf
  have HFW := Lib.hid hfw
  have HFK := Lib.hid hfk
  clear hfw hfk
  obtain ⟨Ab, cb, rfl⟩ := hB.slice
  obtain ⟨As, cs, rfl⟩ := hS.slice
  obtain ⟨n0, hn0⟩ : ∃ n, w.heap.size = n := ⟨_, rfl⟩
  have hC : Below n0 w w := Below.refl _ _
  go_enter Try.func22, Try.ntmps22
  go_upto_region 1 with fail
  have hqbx : n0 ≤ n0 := by have := hC.size; omega
  have bx : BK (w.alloc (.cells #[.slice Ab bars.length cb, .slice As ss.length cs] 25)) (n0) #[.slice Ab bars.length cb, .slice As ss.length cs] 25 := BK.new' _ _ _ (n0) hn0
  have hsbx : (w.alloc (.cells #[.slice Ab bars.length cb, .slice As ss.length cs] 25)).heap.size = n0 + 1 := by simp [hn0]
  replace hC : Below n0 w (w.alloc (.cells #[.slice Ab bars.length cb, .slice As ss.length cs] 25)) := Below.alloc hC (by have := hC.size; omega) _
  replace hB := (RS.below hB (w' := (w.alloc (.cells #[.slice Ab bars.length cb, .slice As ss.length cs] 25))) (Below.alloc (Below.refl _ _) (Nat.le_refl _) _)).more (B' := (w.alloc (.cells #[.slice Ab bars.length cb, .slice As ss.length cs] 25)).heap.size) (by simp)
  replace hS := (RP.below hS (w' := (w.alloc (.cells #[.slice Ab bars.length cb, .slice As ss.length cs] 25))) (Below.alloc (Below.refl _ _) (Nat.le_refl _) _)).more (B' := (w.alloc (.cells #[.slice Ab bars.length cb, .slice As ss.length cs] 25)).heap.size) (by simp)
  generalize (w.alloc (.cells #[.slice Ab bars.length cb, .slice As ss.length cs] 25)) = Wbx at *
  by_cases h1 : bars.length < 1
  case pos =>
    have HE := Lib.hid (works_many (bars := bars) (ss := ss) (.inl (by omega)))
    have z0 : bars.length = 0 := by omega
    have z1 : decide ((bars.length : Int) < 1) = true := decide_eq_true (by omega)
    clear h1
    have lbx := bx.lt
    have bxc0 := bx.cell 0
    have bxc1 := bx.cell 1
    simp at bxc0 bxc1
    go_wp2_with fail
    go_ret
    exact ⟨ret_int HE.out.symm, by (try rw [hn0]); exact hC⟩
  have z1 : decide ((bars.length : Int) < 1) = false := decide_eq_false (by omega)
  by_cases h2 : 6 < bars.length
  case pos =>
    have HE := Lib.hid (works_many (bars := bars) (ss := ss) (.inl (by omega)))
    have z2 : decide ((6 : Int) < (bars.length : Int)) = true := decide_eq_true (by omega)
    have lbx := bx.lt
    have bxc0 := bx.cell 0
    have bxc1 := bx.cell 1
    simp at bxc0 bxc1
    go_wp2_with fail
    go_ret
    exact ⟨ret_int HE.out.symm, by (try rw [hn0]); exact hC⟩
  have z2 : decide ((6 : Int) < (bars.length : Int)) = false := decide_eq_false (by omega)
  by_cases h3 : 6 < ss.length
  case pos =>
    have HE := Lib.hid (works_many (bars := bars) (ss := ss) (.inl (by omega)))
    have z3 : decide ((6 : Int) < (ss.length : Int)) = true := decide_eq_true (by omega)
    have lbx := bx.lt
    have bxc0 := bx.cell 0
    have bxc1 := bx.cell 1
    simp at bxc0 bxc1
    go_wp2_with fail
    go_ret
    exact ⟨ret_int HE.out.symm, by (try rw [hn0]); exact hC⟩
  have z3 : decide ((6 : Int) < (ss.length : Int)) = false := decide_eq_false (by omega)
  have hmany : ¬ (bars.length = 0 ∨ 6 < bars.length ∨ 6 < ss.length) := by omega
  have HM := Lib.hid hmany
  clear hmany
  have lbx := bx.lt
  have bxc0 := bx.cell 0
  have bxc1 := bx.cell 1
  simp at bxc0 bxc1
  go_wp2_with fail
  clear lbx bxc0 bxc1
  clear hsbx
  clear z1 z2 z3
  generalize Wbx = W0 at *
  go_loopw [3] (fun i wr => ∃ k : Nat, k ≤ ss.length ∧ i = .int .i64 k ∧ (∀ j, j < k → oddB (nthS ss j) = false) ∧ Below W0.heap.size W0 wr) (fun i _ => ss.length - (intOf i).toNat)
  case atStart => exact ⟨0, Nat.zero_le _, rfl, fun j hj => absurd hj (by omega), Below.refl _ _⟩
  case round =>
    obtain ⟨k, hk, rfl, hall, hb⟩ := hrel
    have HALL := Lib.hid hall
    have hbr := Lib.hid hb
    clear hall
    replace hC : Below n0 w wr := hC.trans (hb.mono (by have := hC.size; omega))
    replace hB := (RS.below hB hb).more hb.size
    replace hS := (RP.below hS hb).more hb.size
    replace bx := bx.below hb bx.lt
    clear hb
    have lbx := bx.lt
    have bxc0 := bx.cell 0
    have bxc1 := bx.cell 1
    simp at bxc0 bxc1
    by_cases hlt : k < ss.length
    case pos =>
      have hlt' : (k : Int) < (ss.length : Int) := by omega
      obtain ⟨A', cap', bb, off, hve, hA, hc⟩ := RP.cells hS
      obtain ⟨rfl, hbb⟩ := hA (by omega)
      injection hve with q1 q2 q3
      subst q1 q3
      obtain ⟨u, d0, hu⟩ := hc k hlt
      have hsl := HFW.out _ (nthS_mem hlt)
      obtain ⟨q, hq⟩ : ∃ q, oddB (nthS ss k) = q := ⟨_, rfl⟩
      have HQ := Lib.hid hq
      have hq2 := hq
      unfold oddB at hq2
      obtain ⟨s, hs⟩ : ∃ s, nthS ss k = s := ⟨_, rfl⟩
      rw [hs] at hu hsl hq2
      have HS := Lib.hid hs
      obtain ⟨Aw, cw, rfl⟩ := hu.slice
      clear hA hc q2 hs hq
      cases q
      case true =>
        have hq3 := of_decide_eq_true hq2
        have HE := Lib.hid (works_many (bars := bars) (.inr (List.any_eq_true.2 ⟨_, nthS_mem hlt, HQ.out⟩)))
        clear hq2
        by_cases h0 : s.length < 1
        case pos =>
          have z1 : decide ((s.length : Int) < 1) = true := decide_eq_true (by omega)
          have z0 : s.length = 0 := by omega
          clear h0 hq3
          go_wp2_with fail
          go_ret
          exact ⟨ret_int HE.out.symm, by (try rw [hn0]); exact hC⟩
        have z1 : decide ((s.length : Int) < 1) = false := decide_eq_false (by omega)
        have z2 : decide ((5 : Int) < (s.length : Int)) = true := decide_eq_true (by omega)
        go_wp2_with fail
        go_ret
        exact ⟨ret_int HE.out.symm, by (try rw [hn0]); exact hC⟩
      have hq3 := of_decide_eq_false hq2
      have z1 : decide ((s.length : Int) < 1) = false := decide_eq_false (by omega)
      have z2 : decide ((5 : Int) < (s.length : Int)) = false := decide_eq_false (by omega)
      clear hq2
      go_wp2_with fail
      go_roundw
      case rel => exact ⟨k + 1, by omega, by go_num, fun j hj => by
        rcases Nat.lt_succ_iff_lt_or_eq.1 hj with h | rfl
        · exact HALL.out j h
        · exact HQ.out, hbr.out⟩
      case measure => simp [intOf]; omega
    have hlt' : ¬ (k : Int) < (ss.length : Int) := by omega
    have HO := Lib.hid (any_no (l := ss) (P := oddB) (nth := nthS ss) (fun k hk => nthS_eq hk) fun j hj => HALL.out j (by omega))
    go_wp2_with fail
    clear hlt hlt' hk hbr
    clear lbx bxc0 bxc1
    obtain ⟨W1, rfl⟩ : ∃ W1 : World, W1 = wr := ⟨_, rfl⟩
    go_loopw [4] (fun i wr => ∃ k : Nat, k ≤ bars.length ∧ i = .int .i64 k ∧ (∀ j, j < k → hard (nthB bars j) = true) ∧ Below W1.heap.size W1 wr) (fun i _ => bars.length - (intOf i).toNat)
    case atStart => exact ⟨0, Nat.zero_le _, rfl, fun j hj => absurd hj (by omega), Below.refl _ _⟩
    case round =>
      obtain ⟨k, hk, rfl, hall, hb⟩ := hrel
      have HALL := Lib.hid hall
      have hbr := Lib.hid hb
      clear hall
      replace hC : Below n0 w wr := hC.trans (hb.mono (by have := hC.size; omega))
      replace hB := (RS.below hB hb).more hb.size
      replace hS := (RP.below hS hb).more hb.size
      replace bx := bx.below hb bx.lt
      clear hb
      have lbx := bx.lt
      have bxc0 := bx.cell 0
      have bxc1 := bx.cell 1
      simp at bxc0 bxc1
      by_cases hlt : k < bars.length
      case pos =>
        have hlt' : (k : Int) < (bars.length : Int) := by omega
        obtain ⟨A', cap', bb, off, hve, hA, hc⟩ := RR.cells hB
        obtain ⟨rfl, hbb⟩ := hA (by omega)
        injection hve with q1 q2 q3
        subst q1 q3
        obtain ⟨d0, d1⟩ := hc k hlt
        obtain ⟨q, hq⟩ : ∃ q, hard (nthB bars k) = q := ⟨_, rfl⟩
        have HQ := Lib.hid hq
        obtain ⟨⟨lo, hi⟩, hs⟩ : ∃ s, nthB bars k = s := ⟨_, rfl⟩
        rw [hs] at d0 d1 hq
        dsimp only at d0 d1
        have HS := Lib.hid hs
        have HQ2 := Lib.hid hq
        clear hA hc q2 hs hq
        go_wp2_with fail
        clear lbx bxc0 bxc1
        refine (isHardR_any ⟨lo, hi⟩ _).mono ?_
        rintro e w1 ⟨rfl, hb⟩
        replace hC : Below n0 w w1 := hC.trans (hb.mono (by have := hC.size; omega))
        replace hB := (RS.below hB hb).more hb.size
        replace hS := (RP.below hS hb).more hb.size
        replace bx := bx.below hb bx.lt
        have hbr2 := Lib.hid (hbr.out.trans (hb.mono hbr.out.size))
        clear hb
        rw [HQ2.out]
        cases q
        case false =>
          have HE := Lib.hid (works_soft HM.out HO.out (List.any_eq_true.2 ⟨_, nthB_mem hlt, by rw [HQ.out]; rfl⟩))
          go_wp2_with fail
          go_ret
          exact ⟨ret_int HE.out.symm, by (try rw [hn0]); exact hC⟩
        go_wp2_with fail
        go_roundw
        case rel => exact ⟨k + 1, by omega, by go_num, fun j hj => by
          rcases Nat.lt_succ_iff_lt_or_eq.1 hj with h | rfl
          · exact HALL.out j h
          · exact HQ.out, hbr2.out⟩
        case measure => simp [intOf]; omega
      have hlt' : ¬ (k : Int) < (bars.length : Int) := by omega
      have HW := Lib.hid (works_step HM.out HO.out (any_no (l := bars) (P := fun r => !hard r) (nth := nthB bars) (fun k hk => nthB_eq hk) fun j hj => by
        have := HALL.out j (by omega)
        simp [this]))
      go_wp2_with fail
      clear hlt hlt' hk hbr
      clear lbx bxc0 bxc1
      obtain ⟨W2, rfl⟩ : ∃ W2 : World, W2 = wr := ⟨_, rfl⟩
      go_loopw [5] (fun i wr => ∃ k : Nat, k ≤ ss.length ∧ i = .int .i64 k ∧ (∀ j, j < k → waysE (nthS ss j) = 0) ∧ Below W2.heap.size W2 wr) (fun i _ => ss.length - (intOf i).toNat)
      case atStart => exact ⟨0, Nat.zero_le _, rfl, fun j hj => absurd hj (by omega), Below.refl _ _⟩
      case round =>
        obtain ⟨k, hk, rfl, hall, hb⟩ := hrel
        have HALL := Lib.hid hall
        have hbr := Lib.hid hb
        clear hall
        replace hC : Below n0 w wr := hC.trans (hb.mono (by have := hC.size; omega))
        replace hB := (RS.below hB hb).more hb.size
        replace hS := (RP.below hS hb).more hb.size
        replace bx := bx.below hb bx.lt
        clear hb
        obtain ⟨W3, rfl⟩ : ∃ W3 : World, W3 = wr := ⟨_, rfl⟩
        have lbx := bx.lt
        have bxc0 := bx.cell 0
        have bxc1 := bx.cell 1
        simp at bxc0 bxc1
        by_cases hlt : k < ss.length
        case neg =>
          have hlt' : ¬ (k : Int) < (ss.length : Int) := by omega
          have HE := Lib.hid (HW.out.trans (stepsE_zero.2 fun j hj => HALL.out j (by omega)))
          go_wp2_with fail
          go_ret
          exact ⟨ret_int HE.out.symm, by (try rw [hn0]); exact hC⟩
        have hlt' : (k : Int) < (ss.length : Int) := by omega
        have HKL := Lib.hid (HFK.out _ (nthS_mem hlt))
        have hsl := HFW.out _ (nthS_mem hlt)
        have HBAD := Lib.hid (fun (j : Nat) => stepsE_bad (k := j) hlt HALL.out)
        have HNEXT := Lib.hid (fun (h : waysE (nthS ss k) = 0) => show ∀ j, j < k + 1 → waysE (nthS ss j) = 0 from fun j hj => by
          rcases Nat.lt_succ_iff_lt_or_eq.1 hj with h1 | rfl
          · exact HALL.out j h1
          · exact h)
        obtain ⟨s, hs⟩ : ∃ s, nthS ss k = s := ⟨_, rfl⟩
        have HS := Lib.hid hs
        rw [hs] at hsl HKL HBAD HNEXT
        clear hs
        have lbx := bx.lt
        have bxc0 := bx.cell 0
        have bxc1 := bx.cell 1
        simp at bxc0 bxc1
        go_wp2_with fail
        clear lbx bxc0 bxc1
        go_loopw [6] (fun i wr => ∃ j : Nat, j ≤ s.length ∧ i = .int .i64 j ∧ (∀ q, q < j → wayE (nthW s q) = 0) ∧ Below W3.heap.size W3 wr) (fun i _ => s.length - (intOf i).toNat)
        case atStart => exact ⟨0, Nat.zero_le _, rfl, fun j hj => absurd hj (by omega), Below.refl _ _⟩
        case round =>
          obtain ⟨j, hj, rfl, hall, hb⟩ := hrel
          have HALJ := Lib.hid hall
          have hbj := Lib.hid (hbr.out.trans (hb.mono hbr.out.size))
          have hbi := Lib.hid hb
          clear hall
          replace hC : Below n0 w wr := hC.trans (hb.mono (by have := hC.size; omega))
          replace hB := (RS.below hB hb).more hb.size
          replace hS := (RP.below hS hb).more hb.size
          replace bx := bx.below hb bx.lt
          clear hb
          obtain ⟨A', cap', bb, off, hve, hA, hc⟩ := RP.cells hS
          obtain ⟨hA', hbb⟩ := hA (by omega)
          rw [hA'] at hve
          injection hve with q1 q2 q3
          try subst q1
          try (injection q1 with q1)
          try (injection q1 with q4 q5)
          try subst q4
          try subst q5
          obtain ⟨u, d0, hu⟩ := hc k hlt
          rw [HS.out] at hu
          obtain ⟨Aw, cw, rfl⟩ := hu.slice
          clear hA hc q2 q3 hA'
          have lbx := bx.lt
          have bxc0 := bx.cell 0
          have bxc1 := bx.cell 1
          simp at bxc0 bxc1
          by_cases hjt : j < s.length
          case neg =>
            have hjt' : ¬ (j : Int) < (s.length : Int) := by omega
            have HN := Lib.hid (HNEXT.out (waysE_zero.2 fun q hq => HALJ.out q (by omega)))
            go_wp2_with fail
            go_roundw
            case rel => exact ⟨k + 1, by omega, by go_num, HN.out, hbj.out⟩
            case measure => simp [intOf]; omega
          have hjt' : (j : Int) < (s.length : Int) := by omega
          obtain ⟨A1, cap1, b1, off1, hve, hA, hc⟩ := RW.cells hu
          obtain ⟨rfl, hbb1⟩ := hA (by omega)
          injection hve with q1 q2 q3
          subst q1 q3
          obtain ⟨u, d1, hv⟩ := hc j hjt
          have hkl := HKL.out _ (nthW_mem hjt)
          have HB2 := Lib.hid (HBAD.out j hjt HALJ.out)
          have HN2 := Lib.hid (fun (h : wayE (nthW s j) = 0) => show ∀ q, q < j + 1 → wayE (nthW s q) = 0 from fun q hq => by
            rcases Nat.lt_succ_iff_lt_or_eq.1 hq with h1 | rfl
            · exact HALJ.out q h1
            · exact h)
          obtain ⟨ks, hks⟩ : ∃ s', nthW s j = s' := ⟨_, rfl⟩
          rw [hks] at hv hkl HB2 HN2
          obtain ⟨Ak, ck, rfl⟩ := hv.slice
          clear hA hc q2 hks
          go_wp2_with fail
          clear lbx bxc0 bxc1
          refine (checkWayR_any ks _ _ (Nat.le_trans hkl (by decide)) hv).mono ?_
          rintro e w1 ⟨rfl, hb⟩
          replace hC : Below n0 w w1 := hC.trans (hb.mono (by have := hC.size; omega))
          replace hB := (RS.below hB hb).more hb.size
          replace hS := (RP.below hS hb).more hb.size
          replace bx := bx.below hb bx.lt
          replace hu := (RW.below hu hb).more hb.size
          replace hv := (RK.below hv hb).more hb.size
          have hbr2 := Lib.hid (hbi.out.trans (hb.mono hbi.out.size))
          rw [← hb.cell (by exact hbb)] at d0
          rw [← hb.cell (by exact hbb1)] at d1
          replace hbb := Nat.lt_of_lt_of_le hbb hb.size
          replace hbb1 := Nat.lt_of_lt_of_le hbb1 hb.size
          clear hb
          obtain ⟨e, he⟩ : ∃ e, wayE ks = e := ⟨_, rfl⟩
          rw [he]
          by_cases e0 : e = 0
          case neg =>
            have HE2 := Lib.hid he
            have HE := Lib.hid ((HW.out.trans (HB2.out (by rw [he]; exact e0))).trans he)
            have b1 : (e != 0) = true := by simp [e0]
            clear he e0
            have lbx := bx.lt
            have bxc0 := bx.cell 0
            have bxc1 := bx.cell 1
            simp at bxc0 bxc1
            go_wp2_with fail
            clear lbx bxc0 bxc1
            refine (checkWayR_any ks _ _ (Nat.le_trans hkl (by decide)) hv).mono ?_
            rintro e w2 ⟨rfl, hb⟩
            replace hC : Below n0 w w2 := hC.trans (hb.mono (by have := hC.size; omega))
            replace hB := (RS.below hB hb).more hb.size
            replace hS := (RP.below hS hb).more hb.size
            replace bx := bx.below hb bx.lt
            replace hu := (RW.below hu hb).more hb.size
            replace hv := (RK.below hv hb).more hb.size
            clear hb
            rw [HE2.out]
            go_wp2_with fail
            go_ret
            exact ⟨ret_int HE.out.symm, by (try rw [hn0]); exact hC⟩
          subst e0
          have HN := Lib.hid (HN2.out he)
          clear he
          go_wp2_with fail
          go_roundw
          case rel => exact ⟨j + 1, by omega, by go_num, HN.out, hbr2.out⟩
          case measure => simp [intOf]; omega
end Go.Proofs.Ytkibdciomheekaa
