/- Pulls that prove blows: the walk. -/
import Derived.Test.YtgbegdjakadbbaaP18
import Derived.Test.YtgbegdjakadbbaaP19
import Derived.Test.YtgbegdjakadbbaaP15
import Derived.Test.YtgbegdjakadbbaaP16
set_option linter.all false
set_option linter.unnecessarySimpa false
set_option linter.unusedSimpArgs false
set_option linter.unusedVariables false
set_option linter.unusedSectionVars false

set_option linter.all false
attribute [local go_sem] Go.Oper.semAt_some
namespace Go.Proofs.Ytgbegdjakadbbaa
open Go.RowKit Vp

/-- The ranges of the first k stations. -/
def rF (m : Int) (l : List St) (ds : List Int) (k : Nat) : Nat → Rg := fun j => if j < k then rnK m l ds j else ⟨0, 0⟩
theorem rF_zero (m : Int) (l : List St) (ds : List Int) : rF m l ds 0 = fun _ => ⟨0, 0⟩ := by funext j; unfold rF; rw [if_neg (by omega)]
theorem rF_succ (m : Int) (l : List St) (ds : List Int) (k : Nat) : (fun j => if j = k then rnK m l ds k else rF m l ds k j) = rF m l ds (k + 1) := by
  funext j
  unfold rF
  by_cases h : j = k
  · subst h; rw [if_pos rfl, if_pos (by omega)]
  · rw [if_neg h]
    by_cases h2 : j < k
    · rw [if_pos h2, if_pos (by omega)]
    · rw [if_neg h2, if_neg (by omega)]
theorem rF_at {m : Int} {l : List St} {ds : List Int} {k n : Nat} (h : k < n) : rF m l ds n k = rnK m l ds k := if_pos h
set_option maxHeartbeats 8000000 in
set_option maxRecDepth 100000 in
theorem pulls_any (g : Nat) (l : List St) (m : Int) (ds : List Int) (vb : Value) (w : World) (hBn : Bn w w.heap.size g l m) (ho : ∀ s ∈ l, okSB s = true) (hm : 0 ≤ m ∧ m ≤ 200) (hn20 : l.length ≤ 20) (hf : Fe m l 0 ds) (hI : RI w w.heap.size vb ds) :
    Calls Try.prog 67 #[.pointer (some ⟨g, 0, none⟩), vb] w fun e w' => ∃ v, e = .returned v ∧ OwnI 2 w' w.heap.size v (pulK m l ds) ∧ Below w.heap.size w w' := by
  obtain ⟨hlen, hall, htb⟩ := fe_iff.1 hf
  simp only [Int.zero_add] at htb
  obtain ⟨bb, boff, bcap, Ab, rfl, -, hbcap⟩ := hI.slice
  obtain ⟨n0, hn0⟩ : ∃ n, w.heap.size = n := ⟨_, rfl⟩
  rw [hn0] at hBn hI ⊢
  have HI := Lib.hid hI
  have HBN := Lib.hid hBn
  have HO := Lib.hid ho
  have HALL := Lib.hid hall
  have HTB := Lib.hid htb
  obtain ⟨W1, hmk, hG, hs1, hb1⟩ := make_rgs (l.length + 1) (by omega) w n0 hn0
  rw [hn0] at hb1
  have HG := Lib.hid hG
  have HB1 := Lib.hid hb1
  rw [show (((l.length + 1 : Nat)) : Int) = (l.length : Int) + 1 by omega] at hmk
  have wn : IntKind.i64.wrap ((l.length : Int) + 1) = (l.length : Int) + 1 := by rw [IntKind.wrap_i64]; omega
  rw [hlen] at hbcap ⊢
  have HLEN := Lib.hid hlen
  clear hlen hall htb hBn hI ho hf hG hb1
  go_enter Try.func67, Try.ntmps67
  go_upto_region 5 with fail
  clear hmk wn
  have bn := BK.new' W1 #[.int .i64 (-9), .int .i64 9] 42 (n0 + 1) hs1
  have hC : Below n0 w (W1.alloc (.cells #[.int .i64 (-9), .int .i64 9] 42)) := HB1.out.alloc (by have := HB1.out.size; omega) _
  have hG2 := HG.out.alloc (.cells #[.int .i64 (-9), .int .i64 9] 42)
  have hs2 : (W1.alloc (.cells #[.int .i64 (-9), .int .i64 9] 42)).heap.size = n0 + 2 := by simp [hs1]
  rw [← rF_zero m l ds] at hG2
  clear HG HB1 hs1
  generalize W1.alloc (.cells #[.int .i64 (-9), .int .i64 9] 42) = W2 at *
  have HS2 := Lib.hid hs2
  clear hs2
  go_wp2_with fail
  go_loopw [7, 28] (fun b iv wr => ∃ k : Nat, k ≤ l.length ∧ iv = .int .i64 k ∧ b = .int .i64 (sumTo ds k) ∧ Gv wr n0 42 ((l.length + 1) * 2) (rgV (rF m l ds k)) ∧ BK wr (n0 + 1) #[.int .i64 (nowK m l ds k).lo, .int .i64 (nowK m l ds k).hi] 42 ∧ Below n0 w wr ∧ n0 + 2 ≤ wr.heap.size) (fun _ iv _ => l.length - (intOf iv).toNat)
  case atStart => exact ⟨0, Nat.zero_le _, rfl, by rw [sumTo_zero], hG2, bn, hC, by rw [HS2.out]; exact Nat.le_refl _⟩
  case round =>
    clear hG2 bn hC
    obtain ⟨k, hk, rfl, rfl, hG, bn, hC, hsz⟩ := hrel
    by_cases hlt : k < l.length
    case neg =>
      obtain rfl : k = l.length := by omega
      have hlt' : ¬ ((l.length : Nat) : Int) < (l.length : Int) := by omega
      obtain ⟨q, hq⟩ : ∃ q, wr.heap.size = q := ⟨_, rfl⟩
      obtain ⟨W3, hmk, hO3, hs3, hb3⟩ := make_ints l.length (by omega) wr q hq
      have hG3 := hG.below hb3 hG.lt
      have hC3 := hC.trans (hb3.mono (by omega))
      have hqn : n0 + 2 ≤ q := by omega
      have HMK := Lib.hid (And.intro hO3 (And.intro hG3 (And.intro hC3 hs3)))
      clear hG hC bn hO3 hG3 hC3 hs3 hb3 hsz hq hk hlt
      rw [← HLEN.out]
      rw [← HLEN.out] at hmk
      go_upto_region 24 with fail
      clear hmk
      go_wp2_with fail
      have hI3 := RS.below HI.out HMK.out.2.2.1
      obtain ⟨A', cap', b', off', hve, hA, -⟩ := RI.cells hI3
      injection hve with q1 q2 q3
      subst q1 q3
      clear hI3 q2
      have hd20 : ds.length ≤ 20 := by have := HLEN.out; omega
      go_loopw [7, 91] (fun b iv W => ∃ k : Nat, k ≤ ds.length ∧ iv = .int .i64 k ∧ b = .int .i64 (sumTo ds k) ∧ Gv W n0 42 ((l.length + 1) * 2) (rgV (rF m l ds l.length)) ∧ Gv W q 2 l.length (iV fun _ => 0) ∧ Below n0 w W ∧ q < W.heap.size) (fun _ iv _ => ds.length - (intOf iv).toNat)
      case atStart => exact ⟨0, Nat.zero_le _, rfl, by rw [sumTo_zero], HMK.out.2.1, HMK.out.1, HMK.out.2.2.1, by rw [HMK.out.2.2.2]; omega⟩
      case round =>
        obtain ⟨k, hk, rfl, rfl, hG, hO, hC, hsz⟩ := hrel
        by_cases hlt : k < ds.length
        case pos =>
          have hlt' : (k : Int) < (ds.length : Int) := by omega
          obtain ⟨rfl, hbb⟩ := hA (by omega)
          obtain ⟨-, e1⟩ := RI.at (RS.below HI.out hC) (k := k) hlt
          have hbb2 : b' < wr.heap.size := by omega
          have hsk1 := sumTo_few HALL.out hm (by have := HLEN.out; omega) (k := k + 1) hlt
          have HSU := Lib.hid (sumTo_succ (bl := ds) (k := k) hlt)
          rw [HSU.out] at hsk1
          generalize sumTo ds k = sk at *
          generalize nthI ds k = d at *
          have ws : IntKind.i64.wrap (sk + d) = sk + d := by rw [IntKind.wrap_i64]; omega
          have HF := Lib.hid (And.intro hG (And.intro hO (And.intro hC hsz)))
          clear hG hO hC hsz hsk1 hA
          go_wp2_with fail
          go_roundw
          case rel => exact ⟨k + 1, by omega, by go_num, by rw [HSU.out], HF.out.1, HF.out.2.1, HF.out.2.2.1, HF.out.2.2.2⟩
          case measure => simp [intOf]; omega
        case neg =>
          obtain rfl : k = ds.length := by omega
          have hlt' : ¬ ((ds.length : Nat) : Int) < (ds.length : Int) := by omega
          have wl : IntKind.i64.wrap ((ds.length : Int) - 1) = (ds.length : Int) - 1 := by have := HLEN.out; rw [IntKind.wrap_i64]; omega
          have HF := Lib.hid (And.intro hG (And.intro hO (And.intro hC hsz)))
          clear hG hO hC hsz
          go_wp2_with fail
          go_loopw [7, 13, 16] (fun b st iv W => ∃ k : Nat, k ≤ l.length ∧ iv = .int .i64 ((k : Int) - 1) ∧ b = .int .i64 (sumTo ds k) ∧ st = .int .i64 (SK m l ds k) ∧ Gv W n0 42 ((l.length + 1) * 2) (rgV (rF m l ds l.length)) ∧ Gv W q 2 l.length (iV fun j => if k ≤ j then pfK m l ds j else 0) ∧ Below n0 w W ∧ q < W.heap.size) (fun _ _ iv _ => (intOf iv + 1).toNat)
          case atStart =>
            refine ⟨l.length, Nat.le_refl _, by rw [HLEN.out], by rw [HLEN.out], by rw [SK_end HLEN.out], HF.out.1, HF.out.2.1.congr fun i hi => ?_, HF.out.2.2.1, HF.out.2.2.2⟩
            show Value.int .i64 0 = Value.int .i64 (if l.length ≤ i then pfK m l ds i else 0)
            rw [if_neg (by omega)]
          case round =>
            clear HF
            obtain ⟨k, hk, rfl, rfl, rfl, hG, hO, hC, hsz⟩ := hrel
            cases k with
            | zero =>
              have z0 : decide ((0 : Int) ≤ ((0 : Nat) : Int) - 1) = false := by decide
              have z1 : ¬ ((0 : Int) ≤ ((0 : Nat) : Int) - 1) := by decide
              have hpk := pulK_eq (m := m) HLEN.out
              have hou := Gv.own (base := n0) hO hpk.1 (fun i hi => by rw [if_pos (Nat.zero_le _)]; exact (hpk.2 i hi).symm) (by omega) (by omega)
              have HOU := Lib.hid hou
              have HC := Lib.hid hC
              have hle : (ds.length : Int) = (l.length : Int) := by have := HLEN.out; omega
              have hle2 : ds.length = l.length := HLEN.out
              rw [hle2]
              clear hG hO hC hou hle hle2 hpk hsz
              go_wp2_with fail
              refine bodyPost_ret (v := .slice (some ⟨q, 0, none⟩) l.length l.length) (by simp [results, Try.results67, go_sem]) rfl ?_
              exact ⟨_, rfl, HOU.out, HC.out⟩
            | succ k =>
              have hlt : k < l.length := hk
              have hkd : k < ds.length := by have := HLEN.out; omega
              have hlt' : (k : Int) < (ds.length : Int) := by omega
              rw [show ((k + 1 : Nat) : Int) - 1 = (k : Int) by omega]
              obtain ⟨rfl, hbb⟩ := hA (by omega)
              have htbk := HTB.out k hlt
              have hta := tubes_at hlt
              have hstp := SK_step (m := m) HLEN.out hlt
              have HPF := Lib.hid (show pfK m l ds k = SK m l ds k - SK m l ds (k + 1) from rfl)
              have hS9 := SK_nine (m := m) HO.out HLEN.out (l.length - (k + 1)) (k + 1) (by omega)
              have hr9 := rnK_nine (m := m) (ds := ds) HO.out hlt
              have HSU := Lib.hid (sumTo_succ (bl := ds) (k := k) hkd)
              have hsk := sumTo_few HALL.out hm hd20 (k := k) (by omega)
              have hsk1 := sumTo_few HALL.out hm hd20 (k := k + 1) hkd
              obtain ⟨vs, vt, hB0, hgn, hTb, hRb⟩ := HBN.out.below hC
              obtain ⟨At, ct, bt, ot, rfl, hA2, hc2⟩ := RR.cells hRb
              have htl := tubes_len l
              obtain ⟨rfl, hbt⟩ := hA2 (by omega)
              obtain ⟨x0, x1⟩ := hc2 (k + 1) (by omega)
              rw [hta] at x0 x1
              rw [htl, ← HLEN.out] at hB0
              have g2 := hB0.cell 2
              have lg := hB0.lt
              simp at g2
              obtain ⟨g0, g1⟩ := hG.rg (i := k) (by omega)
              rw [rF_at hlt] at g0 g1
              have gl := hG.lt
              have hbt2 : bt < wr.heap.size := by omega
              have hk2 : (((ds.length + 1 : Nat)) : Int) = (ds.length : Int) + 1 := by omega
              have wk : IntKind.i64.wrap ((k : Int) + 1) = (k : Int) + 1 := by rw [IntKind.wrap_i64]; omega
              have wk1 : IntKind.i64.wrap ((k : Int) - 1) = (k : Int) - 1 := by rw [IntKind.wrap_i64]; omega
              have hk1 : (k : Int) + 1 < (ds.length : Int) + 1 := by omega
              have hkp : (k : Int) < (ds.length : Int) + 1 := by omega
              have z0 : decide ((0 : Int) ≤ (k : Int)) = true := decide_eq_true (by omega)
              have z1 : (0 : Int) ≤ (k : Int) := by omega
              have wdf : IntKind.i64.wrap (sumTo ds (k + 1) - nthI ds k) = sumTo ds k := by rw [HSU.out, IntKind.wrap_i64]; omega
              obtain ⟨t, hte⟩ : ∃ t, tub (nthS l k) = t := ⟨_, rfl⟩
              rw [hte] at x0 x1 htbk hstp
              obtain ⟨r, hre⟩ : ∃ t, rnK m l ds k = t := ⟨_, rfl⟩
              rw [hre] at g0 g1 hr9 hstp
              obtain ⟨b1, hb1⟩ : ∃ b, sumTo ds (k + 1) = b := ⟨_, rfl⟩
              rw [hb1] at htbk hstp hsk1 wdf ⊢
              obtain ⟨S, hSe⟩ : ∃ b, SK m l ds (k + 1) = b := ⟨_, rfl⟩
              rw [hSe] at hstp hS9 HPF ⊢
              obtain ⟨d, hde⟩ : ∃ b, nthI ds k = b := ⟨_, rfl⟩
              have HDE := Lib.hid hde
              rw [hde] at wdf
              have HO1 := Lib.hid hO
              have HG1 := Lib.hid hG
              have HC1 := Lib.hid hC
              have HSZ := Lib.hid hsz
              clear hB0 hTb hRb hA2 hc2 htl hta hgn hbt hte hre hb1 hSe hde hO hG hC hA
              go_wp2_with fail
              refine region_keep [17, 18, 105, 106, 107, 108, 109, 110, 111, 112, 113, 114, 115, 116] (fun u V => ∃ gt gr, u 17 = .pointer (some ⟨gt, 0, none⟩) ∧ u 18 = .pointer (some ⟨gr, 0, none⟩) ∧ wr.heap.size ≤ gt ∧ wr.heap.size ≤ gr ∧ BK V gt #[.int .i64 t.lo, .int .i64 t.hi] 42 ∧ BK V gr #[.int .i64 r.lo, .int .i64 r.hi] 42 ∧ Below wr.heap.size wr V) ?_ ?_
              ·skip
               -- region begins
               have d0ya : Below wr.heap.size wr wr.drew := by exact bel_of
               refine wp_region_noPanic (plain_any [0, 1, 2, 3, 4, 5, 6, 7, 8, 9, 10, 11] (Below wr.heap.size wr) mixed ?_)
               refine any_tk 0 ?_
               refine any_tk 1 ?_
               refine any_tk 2 ?_
               refine any_tk 3 ?_
               refine any_tk 4 ?_
               refine any_tk 5 ?_
               refine any_tk 6 ?_
               refine any_tk 7 ?_
               refine any_tk 8 ?_
               refine any_tk 9 ?_
               refine any_tk 10 ?_
               refine any_tk 11 ?_
               have dya1 : Below wr.heap.size wr wr.drew := by exact bel_of
               have hdr : Below wr.heap.size wr wr.drew := Below.drew (Below.refl _ _)
               clear hdr
               generalize wr.drew = uya2 at *
               refine any_run2 (i := 12) (j := 13) (by kernel_rfl) (by rfl) (by rfl) (by rfl) (by rfl) ?_ ?_
               ·skip
                intro K hK
                have qya4 := dya1.size
                have eya3 : Below wr.heap.size wr (uya2.alloc (.cells #[.int .i64 0, .int .i64 0] 42)) := Below.alloc dya1 dya1.size _
                have hnx : Below uya2.heap.size uya2 (uya2.alloc (.cells #[.int .i64 0, .int .i64 0] 42)) := Below.alloc (Below.refl _ _) (Nat.le_refl _) _
                go_wp2_with fail
                have kt : BK (uya2.alloc (.cells #[.int .i64 0, .int .i64 0] 42)) uya2.heap.size #[.int .i64 0, .int .i64 0] 42 := BK.new _ _ _
                refine hK _ _ (fun _ => eya3) ?_
                clear hK K hnx
                generalize (uya2.alloc (.cells #[.int .i64 0, .int .i64 0] 42)) = vya5 at *
                obtain ⟨gkt, hgkt⟩ : ∃ g, uya2.heap.size = g := ⟨_, rfl⟩
                have hqkt : wr.heap.size ≤ gkt := by omega
                rw [hgkt] at kt
                try rw [hgkt]
                clear hgkt
                refine any_run1 (i := 13) (by kernel_rfl) (by rfl) (by kernel_rfl) ?_
                intro K hK
                have qya7 := eya3.size
                have eya6 : Below wr.heap.size wr (vya5.alloc (.cells #[.int .i64 0, .int .i64 0] 42)) := Below.alloc eya3 eya3.size _
                have hnx : Below vya5.heap.size vya5 (vya5.alloc (.cells #[.int .i64 0, .int .i64 0] 42)) := Below.alloc (Below.refl _ _) (Nat.le_refl _) _
                go_wp2_with fail
                have nektkr : gkt ≠ vya5.heap.size := Nat.ne_of_lt kt.lt
                replace kt := kt.below hnx kt.lt
                have kr : BK (vya5.alloc (.cells #[.int .i64 0, .int .i64 0] 42)) vya5.heap.size #[.int .i64 0, .int .i64 0] 42 := BK.new _ _ _
                refine hK _ _ (fun _ => eya6) ?_
                clear hK K hnx
                generalize (vya5.alloc (.cells #[.int .i64 0, .int .i64 0] 42)) = vya8 at *
                obtain ⟨gkr, hgkr⟩ : ∃ g, vya5.heap.size = g := ⟨_, rfl⟩
                have hqkr : wr.heap.size ≤ gkr := by omega
                rw [hgkr] at kr nektkr
                try rw [hgkr]
                clear hgkr
                refine any_run1 (i := 14) (by kernel_rfl) (by rfl) (by kernel_rfl) ?_
                intro K hK
                have lkt := kt.lt
                have y0 := kt.cell 0
                have f0 := kt.frozen 0
                have y1 := kt.cell 1
                have f1 := kt.frozen 1
                simp at y0 y1
                go_wp2_with fail
                have eya9 : Below wr.heap.size wr ((vya8.setCell ⟨gkt, 0, none⟩ (.int .i64 t.lo)).setCell ⟨gkt, 1, none⟩ (.int .i64 t.hi)) := by exact bel_of
                have kr_ : BK ((vya8.setCell ⟨gkt, 0, none⟩ (.int .i64 t.lo)).setCell ⟨gkt, 1, none⟩ (.int .i64 t.hi)) gkr _ _ := (BK.far (BK.far kr (p := ⟨gkt, 0, none⟩) (by first | assumption | exact Ne.symm (by assumption)) _) (p := ⟨gkt, 1, none⟩) (by first | assumption | exact Ne.symm (by assumption)) _); clear kr; have kr := kr_; clear kr_
                have kt_ := ((kt.set 0 (.int .i64 t.lo)).set 1 (.int .i64 t.hi))
                simp at kt_
                clear kt; have kt := kt_; clear kt_
                clear y0 f0 y1 f1
                refine hK _ _ (fun _ => eya9) ?_
                clear hK K
                generalize ((vya8.setCell ⟨gkt, 0, none⟩ (.int .i64 t.lo)).setCell ⟨gkt, 1, none⟩ (.int .i64 t.hi)) = vya10 at *
                refine any_run1 (i := 15) (by kernel_rfl) (by rfl) (by kernel_rfl) ?_
                intro K hK
                have lkr := kr.lt
                have y0 := kr.cell 0
                have f0 := kr.frozen 0
                have y1 := kr.cell 1
                have f1 := kr.frozen 1
                simp at y0 y1
                go_wp2_with fail
                have eya11 : Below wr.heap.size wr ((vya10.setCell ⟨gkr, 0, none⟩ (.int .i64 r.lo)).setCell ⟨gkr, 1, none⟩ (.int .i64 r.hi)) := by exact bel_of
                have kt_ : BK ((vya10.setCell ⟨gkr, 0, none⟩ (.int .i64 r.lo)).setCell ⟨gkr, 1, none⟩ (.int .i64 r.hi)) gkt _ _ := (BK.far (BK.far kt (p := ⟨gkr, 0, none⟩) (by first | assumption | exact Ne.symm (by assumption)) _) (p := ⟨gkr, 1, none⟩) (by first | assumption | exact Ne.symm (by assumption)) _); clear kt; have kt := kt_; clear kt_
                have kr_ := ((kr.set 0 (.int .i64 r.lo)).set 1 (.int .i64 r.hi))
                simp at kr_
                clear kr; have kr := kr_; clear kr_
                clear y0 f0 y1 f1
                refine hK _ _ (fun _ => eya11) ?_
                clear hK K
                generalize ((vya10.setCell ⟨gkr, 0, none⟩ (.int .i64 r.lo)).setCell ⟨gkr, 1, none⟩ (.int .i64 r.hi)) = vya12 at *
                refine any_done (by kernel_rfl) (NoPanic.normal ?_)
                exact ⟨rfl, by simp [setAll], rfl, _, _, rfl, rfl, by assumption, by assumption, kt, kr, eya11⟩
               ·skip
                intro K hK
                have qya14 := dya1.size
                have eya13 : Below wr.heap.size wr (uya2.alloc (.cells #[.int .i64 0, .int .i64 0] 42)) := Below.alloc dya1 dya1.size _
                have hnx : Below uya2.heap.size uya2 (uya2.alloc (.cells #[.int .i64 0, .int .i64 0] 42)) := Below.alloc (Below.refl _ _) (Nat.le_refl _) _
                go_wp2_with fail
                have kr : BK (uya2.alloc (.cells #[.int .i64 0, .int .i64 0] 42)) uya2.heap.size #[.int .i64 0, .int .i64 0] 42 := BK.new _ _ _
                refine hK _ _ (fun _ => eya13) ?_
                clear hK K hnx
                generalize (uya2.alloc (.cells #[.int .i64 0, .int .i64 0] 42)) = vya15 at *
                obtain ⟨gkr, hgkr⟩ : ∃ g, uya2.heap.size = g := ⟨_, rfl⟩
                have hqkr : wr.heap.size ≤ gkr := by omega
                rw [hgkr] at kr
                try rw [hgkr]
                clear hgkr
                refine any_run1 (i := 12) (by kernel_rfl) (by rfl) (by kernel_rfl) ?_
                intro K hK
                have qya17 := eya13.size
                have eya16 : Below wr.heap.size wr (vya15.alloc (.cells #[.int .i64 0, .int .i64 0] 42)) := Below.alloc eya13 eya13.size _
                have hnx : Below vya15.heap.size vya15 (vya15.alloc (.cells #[.int .i64 0, .int .i64 0] 42)) := Below.alloc (Below.refl _ _) (Nat.le_refl _) _
                go_wp2_with fail
                have nekrkt : gkr ≠ vya15.heap.size := Nat.ne_of_lt kr.lt
                replace kr := kr.below hnx kr.lt
                have kt : BK (vya15.alloc (.cells #[.int .i64 0, .int .i64 0] 42)) vya15.heap.size #[.int .i64 0, .int .i64 0] 42 := BK.new _ _ _
                refine hK _ _ (fun _ => eya16) ?_
                clear hK K hnx
                generalize (vya15.alloc (.cells #[.int .i64 0, .int .i64 0] 42)) = vya18 at *
                obtain ⟨gkt, hgkt⟩ : ∃ g, vya15.heap.size = g := ⟨_, rfl⟩
                have hqkt : wr.heap.size ≤ gkt := by omega
                rw [hgkt] at kt nekrkt
                try rw [hgkt]
                clear hgkt
                refine any_run1 (i := 14) (by kernel_rfl) (by rfl) (by kernel_rfl) ?_
                intro K hK
                have lkt := kt.lt
                have y0 := kt.cell 0
                have f0 := kt.frozen 0
                have y1 := kt.cell 1
                have f1 := kt.frozen 1
                simp at y0 y1
                go_wp2_with fail
                have eya19 : Below wr.heap.size wr ((vya18.setCell ⟨gkt, 0, none⟩ (.int .i64 t.lo)).setCell ⟨gkt, 1, none⟩ (.int .i64 t.hi)) := by exact bel_of
                have kr_ : BK ((vya18.setCell ⟨gkt, 0, none⟩ (.int .i64 t.lo)).setCell ⟨gkt, 1, none⟩ (.int .i64 t.hi)) gkr _ _ := (BK.far (BK.far kr (p := ⟨gkt, 0, none⟩) (by first | assumption | exact Ne.symm (by assumption)) _) (p := ⟨gkt, 1, none⟩) (by first | assumption | exact Ne.symm (by assumption)) _); clear kr; have kr := kr_; clear kr_
                have kt_ := ((kt.set 0 (.int .i64 t.lo)).set 1 (.int .i64 t.hi))
                simp at kt_
                clear kt; have kt := kt_; clear kt_
                clear y0 f0 y1 f1
                refine hK _ _ (fun _ => eya19) ?_
                clear hK K
                generalize ((vya18.setCell ⟨gkt, 0, none⟩ (.int .i64 t.lo)).setCell ⟨gkt, 1, none⟩ (.int .i64 t.hi)) = vya20 at *
                refine any_run1 (i := 15) (by kernel_rfl) (by rfl) (by kernel_rfl) ?_
                intro K hK
                have lkr := kr.lt
                have y0 := kr.cell 0
                have f0 := kr.frozen 0
                have y1 := kr.cell 1
                have f1 := kr.frozen 1
                simp at y0 y1
                go_wp2_with fail
                have eya21 : Below wr.heap.size wr ((vya20.setCell ⟨gkr, 0, none⟩ (.int .i64 r.lo)).setCell ⟨gkr, 1, none⟩ (.int .i64 r.hi)) := by exact bel_of
                have kt_ : BK ((vya20.setCell ⟨gkr, 0, none⟩ (.int .i64 r.lo)).setCell ⟨gkr, 1, none⟩ (.int .i64 r.hi)) gkt _ _ := (BK.far (BK.far kt (p := ⟨gkr, 0, none⟩) (by first | assumption | exact Ne.symm (by assumption)) _) (p := ⟨gkr, 1, none⟩) (by first | assumption | exact Ne.symm (by assumption)) _); clear kt; have kt := kt_; clear kt_
                have kr_ := ((kr.set 0 (.int .i64 r.lo)).set 1 (.int .i64 r.hi))
                simp at kr_
                clear kr; have kr := kr_; clear kr_
                clear y0 f0 y1 f1
                refine hK _ _ (fun _ => eya21) ?_
                clear hK K
                generalize ((vya20.setCell ⟨gkr, 0, none⟩ (.int .i64 r.lo)).setCell ⟨gkr, 1, none⟩ (.int .i64 r.hi)) = vya22 at *
                refine any_done (by kernel_rfl) (NoPanic.normal ?_)
                exact ⟨rfl, by simp [setAll], rfl, _, _, rfl, rfl, by assumption, by assumption, kt, kr, eya21⟩
               -- region ends
              rintro u V ⟨gt, gr, hu1, hu2, hq1, hq2, tb, rb, hbz⟩
              simp only [setAll, List.foldl, List.setIfInBounds_toArray, List.set_cons_succ, List.set_cons_zero, hu1, hu2]
              clear hu1 hu2 x0 x1 g2 lg g0 g1 gl hbt2 hk2 wk hk1 hkp z0 z1
              have hO2 := HO1.out.below hbz hsz
              have hG2 := HG1.out.below hbz HG1.out.lt
              have hC2 := HC1.out.trans (hbz.mono (by omega))
              have hsz2 : q < V.heap.size := Nat.lt_of_lt_of_le hsz hbz.size
              obtain ⟨-, e1⟩ := RI.at (RS.below HI.out hC2) (k := k) hkd
              rw [HDE.out] at e1
              have hbb2 : b' < V.heap.size := by omega
              have tc0 := tb.cell 0
              have tc1 := tb.cell 1
              have tl := tb.lt
              have rc0 := rb.cell 0
              have rc1 := rb.cell 1
              have rl := rb.lt
              simp at tc0 tc1 rc0 rc1
              have oc := hO2.cell hlt
              have of := hO2.frozen k
              have hqt : q ≠ gt := by omega
              have hqr : q ≠ gr := by omega
              have hset := fun x => hO2.set k (.int .i64 x)
              have HFO := Lib.hid (show ∀ H : Int, SK m l ds k = H → (Gv (V.setCell ⟨q, k, none⟩ (.int .i64 (H - S))) q 2 l.length (iV fun j => if k ≤ j then pfK m l ds j else 0)) from fun H hH => by
                have := hset (H - S)
                rw [iV_set] at this
                refine this.congr fun i hi => ?_
                show Value.int .i64 (if i = k then H - S else if k + 1 ≤ i then pfK m l ds i else 0) = Value.int .i64 (if k ≤ i then pfK m l ds i else 0)
                congr 1
                by_cases hik : i = k
                · subst hik; rw [if_pos rfl, if_pos (Nat.le_refl _), HPF.out, hH]
                · rw [if_neg hik]
                  by_cases h3 : k + 1 ≤ i
                  · rw [if_pos h3, if_pos (by omega)]
                  · rw [if_neg h3, if_neg (by omega)])
              have HG2 := Lib.hid hG2
              have HC2 := Lib.hid hC2
              clear hO2 hset hG2 hC2 hbz tb rb
              unfold nine at hr9
              obtain ⟨mn, hmn⟩ : ∃ x, (if S < r.hi then S else r.hi) = x := ⟨_, rfl⟩
              obtain ⟨H0, hH0⟩ : ∃ x, (if r.lo < mn then mn else r.lo) = x := ⟨_, rfl⟩
              have hmne : mn = min r.hi S := by rw [← hmn]; split <;> omega
              have hH0e : H0 = max r.lo (min r.hi S) := by rw [← hH0, hmne]; split <;> omega
              have wS : IntKind.i64.wrap (S - S) = S - S := by rw [IntKind.wrap_i64]; omega
              have wH : IntKind.i64.wrap (H0 - S) = H0 - S := by rw [IntKind.wrap_i64]; omega
              by_cases h1 : t.lo < b1
              case pos =>
                have d1 : decide (t.lo < b1) = true := decide_eq_true h1
                by_cases h2 : b1 < t.hi
                case pos =>
                  have d2 : decide (b1 < t.hi) = true := decide_eq_true h2
                  have HH := Lib.hid (hstp.trans (show here t b1 r S = S by unfold here; rw [if_pos ⟨h1, h2⟩]))
                  clear hstp hmne hH0e
                  go_wp2_with fail
                  go_roundw
                  case rel => exact ⟨k, by omega, rfl, by trivial, by rw [HH.out], HG2.out.far (by show n0 ≠ q; omega) _, (by have := HFO.out _ HH.out; rw [Int.sub_self] at this; exact this), HC2.out.setCell (by show n0 ≤ q; omega) _, by simpa [World.setCell] using hsz2⟩
                  case measure => first | (simp [intOf]; done) | (simp [intOf]; omega)
                case neg =>
                  have d2 : decide (b1 < t.hi) = false := decide_eq_false h2
                  have HH := Lib.hid (hstp.trans (show here t b1 r S = H0 by unfold here; rw [if_neg (fun h => h2 h.2), hH0e]))
                  clear hstp hmne hH0e
                  go_wp2_with fail
                  go_roundw
                  case rel => exact ⟨k, by omega, rfl, by trivial, by rw [HH.out], HG2.out.far (by show n0 ≠ q; omega) _, HFO.out _ HH.out, HC2.out.setCell (by show n0 ≤ q; omega) _, by simpa [World.setCell] using hsz2⟩
                  case measure => first | (simp [intOf]; done) | (simp [intOf]; omega)
              case neg =>
                have d1 : decide (t.lo < b1) = false := decide_eq_false h1
                have HH := Lib.hid (hstp.trans (show here t b1 r S = H0 by unfold here; rw [if_neg (fun h => h1 h.1), hH0e]))
                clear hstp hmne hH0e
                go_wp2_with fail
                go_roundw
                case rel => exact ⟨k, by omega, rfl, by trivial, by rw [HH.out], HG2.out.far (by show n0 ≠ q; omega) _, HFO.out _ HH.out, HC2.out.setCell (by show n0 ≤ q; omega) _, by simpa [World.setCell] using hsz2⟩
                case measure => first | (simp [intOf]; done) | (simp [intOf]; omega)
    have hlt' : (k : Int) < (l.length : Int) := by omega
    have hIr := RS.below HI.out hC
    obtain ⟨A', cap', b', off', hve, hA, hc⟩ := RI.cells hIr
    obtain ⟨rfl, hbb⟩ := hA (by have := HLEN.out; omega)
    injection hve with q1 q2 q3
    subst q1 q3
    have e1 := hc k (by have := HLEN.out; omega)
    have hbb2 : b' < wr.heap.size := by omega
    have hsu := sumTo_succ (bl := ds) (k := k) (by have := HLEN.out; omega)
    have hsk := sumTo_few HALL.out hm (by have := HLEN.out; omega) (k := k) (by have := HLEN.out; omega)
    have hsk1 := sumTo_few HALL.out hm (by have := HLEN.out; omega) (k := k + 1) (by have := HLEN.out; omega)
    have hB := HBN.out.below hC
    have cn0 := bn.cell 0
    have cn1 := bn.cell 1
    have fn0 := bn.frozen 0
    have fn1 := bn.frozen 1
    have ln := bn.lt
    simp at cn0 cn1
    have hd := (inB_iff _ _ _).1 ((allIn_iff _ _ _).1 HALL.out k (by have := HLEN.out; omega))
    have HRN := Lib.hid (show rnK m l ds k = Vp.meet (nowK m l ds k) (born (nthS l k) m (nthI ds k)) from rfl)
    have HSU := Lib.hid hsu
    obtain ⟨d, hde⟩ : ∃ d, nthI ds k = d := ⟨_, rfl⟩
    rw [hde] at e1 hd HRN HSU
    have HDE := Lib.hid hde
    obtain ⟨sk, hske⟩ : ∃ d, sumTo ds k = d := ⟨_, rfl⟩
    rw [hske] at hsk HSU ⊢
    have ws : IntKind.i64.wrap (sk + d) = sk + d := by rw [IntKind.wrap_i64]; omega
    clear hA hc q2 hIr hsu hde hsk hsk1 hske
    have hkz : (k : Int) ≤ 20 := by omega
    go_upto_region 9 with fail
    have hd0 : Below wr.heap.size wr wr.drew := Below.drew (Below.refl _ _)
    refine wp_region_noPanic (plain_any [0, 1, 2, 3] (Below wr.heap.size wr) mixed ?_)
    refine any_tk 0 ?_
    refine any_tk 1 ?_
    refine any_tk 2 ?_
    refine any_tk 3 ?_
    clear cn0 cn1 fn0 fn1 ln e1 hbb2
    refine any_run1 (i := 4) (by kernel_rfl) (by rfl) (by kernel_rfl) ?_
    intro K hK
    go_wp2_with fail
    refine (borne_any n0 g l m k d _ (hB.below (Below.drew (Below.refl _ _))) HO.out hm hlt (by show n0 ≤ wr.heap.size; omega) hn20).mono ?_
    rintro e w5 ⟨rfl, hb5⟩
    have hb5' : Below wr.heap.size wr w5 := hd0.trans (hb5.mono hd0.size)
    refine hK _ _ (fun _ => hb5') ?_
    clear hK K hb5
    refine any_run1 (i := 5) (by kernel_rfl) (by rfl) (by kernel_rfl) ?_
    intro K hK
    go_wp2_with fail
    refine (meet_any (nowK m l ds k) (born (nthS l k) m d) _).mono ?_
    rintro e w6 ⟨rfl, hb6⟩
    have hb6' : Below wr.heap.size wr w6 := hb5'.trans (hb6.mono hb5'.size)
    refine hK _ _ (fun _ => hb6') ?_
    clear hK K hb6 hb5'
    rw [← HRN.out]
    clear HRN
    have hr9 := rnK_nine (m := m) (ds := ds) HO.out hlt
    have HNX := Lib.hid (nowK_succ m l ds k)
    have HRF := Lib.hid (rF_succ m l ds k)
    obtain ⟨r, hr⟩ : ∃ r, rnK m l ds k = r := ⟨_, rfl⟩
    rw [hr] at hr9 HNX HRF ⊢
    have HR := Lib.hid hr
    clear hr
    have bn6 := bn.below hb6' bn.lt
    have cn0 := bn6.cell 0
    have cn1 := bn6.cell 1
    have fn0 := bn6.frozen 0
    have fn1 := bn6.frozen 1
    have ln := bn6.lt
    simp at cn0 cn1
    refine any_run1 (i := 6) (by kernel_rfl) (by rfl) (by kernel_rfl) ?_
    intro K hK
    go_wp2_with fail
    refine hK _ _ (fun hx => (Bool.false_ne_true (hx.symm.trans (by kernel_rfl))).elim) ?_
    clear hK K
    refine any_done (by kernel_rfl) (NoPanic.normal ?_)
    have bn7 : BK ((w6.setCell ⟨n0 + 1, 0, none⟩ (.int .i64 r.lo)).setCell ⟨n0 + 1, 1, none⟩ (.int .i64 r.hi)) (n0 + 1) #[.int .i64 r.lo, .int .i64 r.hi] 42 := by
      have := (bn6.set 0 (.int .i64 r.lo)).set 1 (.int .i64 r.hi)
      simpa using this
    have hG7 := ((hG.below hb6' hG.lt).far (p := ⟨n0 + 1, 0, none⟩) (by show n0 ≠ n0 + 1; omega) (.int .i64 r.lo)).far (p := ⟨n0 + 1, 1, none⟩) (by show n0 ≠ n0 + 1; omega) (.int .i64 r.hi)
    have hC7 := ((hC.trans (hb6'.mono (by omega))).setCell (p := ⟨n0 + 1, 0, none⟩) (by show n0 ≤ n0 + 1; omega) (.int .i64 r.lo)).setCell (p := ⟨n0 + 1, 1, none⟩) (by show n0 ≤ n0 + 1; omega) (.int .i64 r.hi)
    have hs7 : n0 + 2 ≤ ((w6.setCell ⟨n0 + 1, 0, none⟩ (.int .i64 r.lo)).setCell ⟨n0 + 1, 1, none⟩ (.int .i64 r.hi)).heap.size := by have := hb6'.size; simp [World.setCell]; omega
    clear cn0 cn1 fn0 fn1 ln bn6 hb6' hd0 hG hC hB bn hsz
    generalize (w6.setCell ⟨n0 + 1, 0, none⟩ (.int .i64 r.lo)).setCell ⟨n0 + 1, 1, none⟩ (.int .i64 r.hi) = V7 at *
    have cn0 := bn7.cell 0
    have cn1 := bn7.cell 1
    have ln := bn7.lt
    simp at cn0 cn1
    obtain ⟨g0, g1⟩ := hG7.rg (i := k) (by omega)
    have gf0 := hG7.frozen (k * 2)
    have gf1 := hG7.frozen (k * 2 + 1)
    have gl := hG7.lt
    have hkp : (k : Int) < (l.length : Int) + 1 := by omega
    go_upto_region 11 with fail
    have hG8 := (hG7.set (k * 2) (.int .i64 r.lo)).set (k * 2 + 1) (.int .i64 r.hi)
    rw [rgV_set, HRF.out] at hG8
    have bn8 := (bn7.far (p := ⟨n0, k * 2, none⟩) (by show n0 + 1 ≠ n0; omega) (.int .i64 r.lo)).far (p := ⟨n0, k * 2 + 1, none⟩) (by show n0 + 1 ≠ n0; omega) (.int .i64 r.hi)
    have hC8 := (hC7.setCell (p := ⟨n0, k * 2, none⟩) (by show n0 ≤ n0; omega) (.int .i64 r.lo)).setCell (p := ⟨n0, k * 2 + 1, none⟩) (by show n0 ≤ n0; omega) (.int .i64 r.hi)
    have hs8 : n0 + 2 ≤ ((V7.setCell ⟨n0, k * 2, none⟩ (.int .i64 r.lo)).setCell ⟨n0, k * 2 + 1, none⟩ (.int .i64 r.hi)).heap.size := by simp [World.setCell]; omega
    clear cn0 cn1 ln g0 g1 gf0 gf1 gl hG7 bn7 hC7 hs7 HRF
    generalize (V7.setCell ⟨n0, k * 2, none⟩ (.int .i64 r.lo)).setCell ⟨n0, k * 2 + 1, none⟩ (.int .i64 r.hi) = V8 at *
    have htbk := HTB.out k hlt
    rw [HSU.out] at htbk HNX
    have hta := tubes_at hlt
    obtain ⟨vs, vt, hB0, hgn, hTb, hRb⟩ := HBN.out.below hC8
    obtain ⟨At, ct, bt, ot, rfl, hA, hc⟩ := RR.cells hRb
    have htl := tubes_len l
    obtain ⟨rfl, hbt⟩ := hA (by omega)
    obtain ⟨x0, x1⟩ := hc (k + 1) (by omega)
    rw [hta] at x0 x1
    rw [htl] at hB0
    have g2 := hB0.cell 2
    have lg := hB0.lt
    simp at g2
    have hbt2 : bt < V8.heap.size := by omega
    have hk2 : (((l.length + 1 : Nat)) : Int) = (l.length : Int) + 1 := by omega
    have wk : IntKind.i64.wrap ((k : Int) + 1) = (k : Int) + 1 := by rw [IntKind.wrap_i64]; omega
    have hk1 : (k : Int) + 1 < (l.length : Int) + 1 := by omega
    obtain ⟨t, hte⟩ : ∃ t, tub (nthS l k) = t := ⟨_, rfl⟩
    rw [hte] at x0 x1 htbk HNX
    obtain ⟨b1, hb1⟩ : ∃ b, sk + d = b := ⟨_, rfl⟩
    rw [hb1] at htbk HNX HSU ⊢
    clear hB0 hTb hRb hA hc htl hta hgn hbt hte hb1 ws
    go_upto_region 12 with fail
    clear x0 x1 g2 lg hbt2 wk hk1 hk2
    have hs9 := hs8
    obtain ⟨y, hy⟩ : ∃ y, V8.heap.size = y := ⟨_, rfl⟩
    rw [hy] at hs8 ⊢
    have hy1 : n0 + 1 ≠ y := by omega
    have hy0 : n0 ≠ y := by omega
    have tb := BK.new' V8 #[.int .i64 t.lo, .int .i64 t.hi] 42 y hy
    have hG9 := hG8.alloc (.cells #[.int .i64 t.lo, .int .i64 t.hi] 42)
    have bn9 := bn8.alloc (.cells #[.int .i64 t.lo, .int .i64 t.hi] 42)
    have hC9 : Below n0 w (V8.alloc (.cells #[.int .i64 t.lo, .int .i64 t.hi] 42)) := hC8.alloc (by have := hC8.size; omega) _
    have hs9 : n0 + 2 ≤ (V8.alloc (.cells #[.int .i64 t.lo, .int .i64 t.hi] 42)).heap.size := by simp; omega
    clear hG8 bn8 hC8 hs8 hy
    generalize V8.alloc (.cells #[.int .i64 t.lo, .int .i64 t.hi] 42) = V9 at *
    have ct0 := tb.cell 0
    have ct1 := tb.cell 1
    have lt0 := tb.lt
    have cn0 := bn9.cell 0
    have cn1 := bn9.cell 1
    have fn0 := bn9.frozen 0
    have fn1 := bn9.frozen 1
    have ln := bn9.lt
    simp at ct0 ct1 cn0 cn1
    obtain ⟨g0, g1⟩ := hG9.rg (i := k) (by omega)
    rw [show rF m l ds (k + 1) k = rnK m l ds k from rF_at (by omega), HR.out] at g0 g1
    have gl := hG9.lt
    have HG9 := Lib.hid hG9
    have BN9 := Lib.hid bn9
    have HC9 := Lib.hid hC9
    have HS9 := Lib.hid hs9
    clear hG9 bn9 hC9 hs9 tb
    by_cases h1 : t.lo < b1
    case pos =>
      have d1 : decide (t.lo < b1) = true := decide_eq_true h1
      by_cases h2 : b1 < t.hi
      case pos =>
        have d2 : decide (b1 < t.hi) = true := decide_eq_true h2
        have HN := Lib.hid (show nowN t b1 r = r by unfold nowN; simp [h1, h2, h1])
        go_wp2_with fail
        have hC9 := HC9.out
        go_roundw
        case rel =>
          refine ⟨k + 1, by omega, by go_num, by rw [HSU.out], (by repeat (first | exact HG9.out | refine Gv.far ?_ (by show n0 ≠ n0 + 1; omega) _)), ?_, by exact bel_of, by have := HS9.out; simp [World.setCell]; omega⟩
          rw [HNX.out, HN.out]
          have := (((BN9.out.set 1 (.int .i64 9)).set 0 (.int .i64 (-9))).set 0 (.int .i64 r.lo)).set 1 (.int .i64 r.hi)
          simpa using this
        case measure => simp [intOf]; omega
      case neg =>
        have d2 : decide (b1 < t.hi) = false := decide_eq_false h2
        have d3 : (t.lo == t.hi) = false := beq_eq_false_iff_ne.2 (by omega)
        have d3' : ¬ t.lo = t.hi := by omega
        have HN := Lib.hid (show nowN t b1 r = ⟨r.lo, 9⟩ by unfold nowN; simp [h1, h2, d3'])
        go_wp2_with fail
        have hC9 := HC9.out
        go_roundw
        case rel =>
          refine ⟨k + 1, by omega, by go_num, by rw [HSU.out], (by repeat (first | exact HG9.out | refine Gv.far ?_ (by show n0 ≠ n0 + 1; omega) _)), ?_, by exact bel_of, by have := HS9.out; simp [World.setCell]; omega⟩
          rw [HNX.out, HN.out]
          have := BN9.out.set 1 (.int .i64 9)
          simpa using this
        case measure => simp [intOf]; omega
    case neg =>
      have d1 : decide (t.lo < b1) = false := decide_eq_false h1
      by_cases h2 : b1 < t.hi
      case pos =>
        have d2 : decide (b1 < t.hi) = true := decide_eq_true h2
        have d3 : (t.lo == t.hi) = false := beq_eq_false_iff_ne.2 (by omega)
        have d3' : ¬ t.lo = t.hi := by omega
        have HN := Lib.hid (show nowN t b1 r = ⟨-9, r.hi⟩ by unfold nowN; simp [h1, h2, d3'])
        go_wp2_with fail
        have hC9 := HC9.out
        go_roundw
        case rel =>
          refine ⟨k + 1, by omega, by go_num, by rw [HSU.out], (by repeat (first | exact HG9.out | refine Gv.far ?_ (by show n0 ≠ n0 + 1; omega) _)), ?_, by exact bel_of, by have := HS9.out; simp [World.setCell]; omega⟩
          rw [HNX.out, HN.out]
          have := BN9.out.set 0 (.int .i64 (-9))
          simpa using this
        case measure => simp [intOf]; omega
      case neg =>
        have d2 : decide (b1 < t.hi) = false := decide_eq_false h2
        have d3 : (t.lo == t.hi) = true := beq_iff_eq.2 (by omega)
        have d3' : t.lo = t.hi := by omega
        have HN := Lib.hid (show nowN t b1 r = ⟨-9, 9⟩ by unfold nowN; simp [h1, h2, d3'])
        go_wp2_with fail
        have hC9 := HC9.out
        go_roundw
        case rel =>
          refine ⟨k + 1, by omega, by go_num, by rw [HSU.out], (by repeat (first | exact HG9.out | refine Gv.far ?_ (by show n0 ≠ n0 + 1; omega) _)), ?_, by exact bel_of, by have := HS9.out; simp [World.setCell]; omega⟩
          rw [HNX.out, HN.out]
          have := (BN9.out.set 0 (.int .i64 (-9))).set 1 (.int .i64 9)
          simpa using this
        case measure => simp [intOf]; omega
end Go.Proofs.Ytgbegdjakadbbaa
