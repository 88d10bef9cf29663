/- What has been had after each step, for the program. -/
import Derived.Test.YtkibdciomheekaaP12
import Derived.BigRegion
set_option linter.all false
set_option linter.unnecessarySimpa false
set_option linter.unusedSimpArgs false
set_option linter.unusedVariables false
set_option linter.unusedSectionVars false

set_option linter.all false
namespace Go.Proofs.Ytkibdciomheekaa
open Go.RowKit Hp

theorem own_some {W : World} {base e sz n : Nat} {v : Value} {xs : List Value} (h : W.ownsRow base e sz v n xs) (hn : n ≠ 0) (hs : sz ≠ 0) : ∃ g c, v = .slice (some ⟨g, 0, none⟩) n c ∧ base ≤ g ∧ g < W.heap.size := by
  obtain ⟨hl, h2⟩ := h
  rcases h2 with ⟨_, h2⟩ | ⟨g, cap, cur, hv, hb, hh, _⟩
  · exact absurd h2 hn
  · exact ⟨g, cap, hv, hb, (Array.getElem?_eq_some_iff.1 hh).1⟩
def HadPost (r : Rg) (ws : Stp) (m : Rg) (w : World) (e : Ending) (w' : World) : Prop :=
  ∃ v, e = .returned (.tuple #[v, .bool (meets (endR r ws) m)]) ∧ (meets (endR r ws) m = true → OwnR w' w.heap.size v (hadL r ws m)) ∧ (meets (endR r ws) m = false → v = .slice none 0 0) ∧ Below w.heap.size w w'
theorem HadPost.no {r : Rg} {ws : Stp} {m : Rg} {w w' : World} (h : meets (endR r ws) m = false) (hb : Below w.heap.size w w') : HadPost r ws m w (.returned (.tuple #[.slice none 0 0, .bool false])) w' :=
  ⟨.slice none 0 0, by rw [h], fun h1 => (by rw [h] at h1; cases h1), fun _ => rfl, hb⟩
theorem HadPost.yes {r : Rg} {ws : Stp} {m : Rg} {w w' : World} {v : Value} (h : meets (endR r ws) m = true) (hr : OwnR w' w.heap.size v (hadL r ws m)) (hb : Below w.heap.size w w') : HadPost r ws m w (.returned (.tuple #[v, .bool true])) w' :=
  ⟨v, by rw [h], fun _ => hr, fun h1 => (by rw [h] at h1; cases h1), hb⟩

set_option maxHeartbeats 8000000 in
set_option maxRecDepth 100000 in
theorem hadP_any (r : Rg) (ws : Stp) (m : Rg) (vw : Value) (w : World) (hr : OkR r) (hm : OkR m) (ok : ∀ y ∈ ws, OkW y) (hl : ws.length ≤ 1000) (hW : RW w w.heap.size vw ws) :
    Calls Try.prog 65 #[rV r, vw, rV m] w (HadPost r ws m w) := by
  have HOK := Lib.hid ok
  have HRO := Lib.hid hr
  have HMO := Lib.hid hm
  have HEO := Lib.hid (endR_ok ok hr)
  clear ok hr hm
  obtain ⟨lo, hi⟩ := r
  obtain ⟨mlo, mhi⟩ := m
  unfold rV
  obtain ⟨Aw, cw, rfl⟩ := hW.slice
  obtain ⟨n0, hn0⟩ : ∃ n, w.heap.size = n := ⟨_, rfl⟩
  have hC : Below n0 w w := Below.refl _ _
  have hW0 := hW
  rw [hn0] at hW0
  have HW0 := Lib.hid hW0
  clear hW0
  go_enter Try.func65, Try.ntmps65
  go_upto_region 1 with fail
  have hqrx : n0 ≤ n0 := by have := hC.size; omega
  have rx : BK (w.alloc (.cells #[.int .i64 lo, .int .i64 hi] 33)) (n0) #[.int .i64 lo, .int .i64 hi] 33 := BK.new' _ _ _ (n0) hn0
  have hsrx : (w.alloc (.cells #[.int .i64 lo, .int .i64 hi] 33)).heap.size = n0 + 1 := by simp [hn0]
  replace hC : Below n0 w (w.alloc (.cells #[.int .i64 lo, .int .i64 hi] 33)) := Below.alloc hC (by have := hC.size; omega) _
  replace hW := (RW.below hW (w' := (w.alloc (.cells #[.int .i64 lo, .int .i64 hi] 33))) (Below.alloc (Below.refl _ _) (Nat.le_refl _) _)).more (B' := (w.alloc (.cells #[.int .i64 lo, .int .i64 hi] 33)).heap.size) (by simp)
  generalize (w.alloc (.cells #[.int .i64 lo, .int .i64 hi] 33)) = Wrx at *
  have hqmx : n0 ≤ n0 + 1 := by have := hC.size; omega
  have mx : BK (Wrx.alloc (.cells #[.int .i64 mlo, .int .i64 mhi] 33)) (n0 + 1) #[.int .i64 mlo, .int .i64 mhi] 33 := BK.new' _ _ _ (n0 + 1) hsrx
  have hsmx : (Wrx.alloc (.cells #[.int .i64 mlo, .int .i64 mhi] 33)).heap.size = n0 + 1 + 1 := by simp [hsrx]
  replace hC : Below n0 w (Wrx.alloc (.cells #[.int .i64 mlo, .int .i64 mhi] 33)) := Below.alloc hC (by have := hC.size; omega) _
  replace hW := (RW.below hW (w' := (Wrx.alloc (.cells #[.int .i64 mlo, .int .i64 mhi] 33))) (Below.alloc (Below.refl _ _) (Nat.le_refl _) _)).more (B' := (Wrx.alloc (.cells #[.int .i64 mlo, .int .i64 mhi] 33)).heap.size) (by simp)
  replace rx := rx.alloc (.cells #[.int .i64 mlo, .int .i64 mhi] 33)
  generalize (Wrx.alloc (.cells #[.int .i64 mlo, .int .i64 mhi] 33)) = Wmx at *
  clear hsrx
  have hbs : n0 + 1 < Wmx.heap.size := mx.lt
  have lrx := rx.lt
  have rxc0 := rx.cell 0
  have rxc1 := rx.cell 1
  simp at rxc0 rxc1
  go_wp2_with fail
  clear lrx rxc0 rxc1
  clear hsmx
  refine (through_any ⟨lo, hi⟩ _ _ _ HRO.out HOK.out hl hW).mono ?_
  rintro e w1 ⟨v, rfl, ho, hb⟩
  replace hC : Below n0 w w1 := hC.trans (hb.mono (by have := hC.size; omega))
  replace hW := (RW.below hW hb).more hb.size
  replace rx := rx.below hb rx.lt
  replace mx := mx.below hb mx.lt
  clear hb
  have hlen : (thr ⟨lo, hi⟩ ws).length = ws.length + 1 := thr_len _ _
  obtain ⟨gb, cg, rfl, hgb, hgl⟩ := own_some ho (by omega) (by decide)
  have hg1 : n0 + 1 < gb := Nat.lt_of_lt_of_le hbs hgb
  have hso : OwnR w1 (n0 + 2) _ _ := own_more ho (base' := n0 + 2) (by omega)
  clear ho hgb hbs
  have hat := hso.at (k := ws.length) (by omega)
  have hee : nthB (thr ⟨lo, hi⟩ ws) ws.length = endR ⟨lo, hi⟩ ws := thr_last' _ _
  rw [hee] at hat
  obtain ⟨⟨elo, ehi⟩, he⟩ : ∃ e, endR ⟨lo, hi⟩ ws = e := ⟨_, rfl⟩
  have HEE := Lib.hid he
  rw [he] at hat HEO
  obtain ⟨e0, e1⟩ := hat
  dsimp only at e0 e1
  have z0 := hso.fz (ws.length * 2)
  have z1 := hso.fz (ws.length * 2 + 1)
  have HLEN := Lib.hid hlen
  have hli : (ws.length : Int) < ((ws.length + 1 : Nat) : Int) := by omega
  rw [hlen] at hso
  rw [hlen]
  clear hee he hlen
  obtain ⟨ml, hml⟩ : ∃ x, max elo mlo = x := ⟨_, rfl⟩
  obtain ⟨mh, hmh⟩ : ∃ x, min ehi mhi = x := ⟨_, rfl⟩
  have HML := Lib.hid hml
  have HMH := Lib.hid hmh
  have hml2 : (if elo < mlo then mlo else elo) = ml := by rw [← hml]; split <;> omega
  have hmh2 : (if mhi < ehi then mhi else ehi) = mh := by rw [← hmh]; split <;> omega
  have lmx := mx.lt
  have mxc0 := mx.cell 0
  have mxc1 := mx.cell 1
  simp at mxc0 mxc1
  go_upto_region 3 with fail
  go_region
  
  clear lmx mxc0 mxc1
  have o9 : OwnR ((w1.setCell ⟨gb, ws.length * 2, none⟩ (.int .i64 ml)).setCell ⟨gb, ws.length * 2 + 1, none⟩ (.int .i64 mh)).drew (n0 + 2) _ _ := hso.set (p := ws.length) (by rw [HLEN.out]; omega) ⟨ml, mh⟩
  have hse := hadS_end ⟨lo, hi⟩ ws ⟨mlo, mhi⟩
  rw [HEE.out] at hse
  have hme : meet ⟨elo, ehi⟩ ⟨mlo, mhi⟩ = ⟨ml, mh⟩ := by unfold meet; dsimp only; rw [hml, hmh]
  rw [hme] at hse
  rw [hse] at o9
  have mx9 : BK ((w1.setCell ⟨gb, ws.length * 2, none⟩ (.int .i64 ml)).setCell ⟨gb, ws.length * 2 + 1, none⟩ (.int .i64 mh)).drew (n0 + 1) _ _ := (mx.far (p := ⟨gb, ws.length * 2, none⟩) (by show n0 + 1 ≠ gb; omega) (.int .i64 ml)).far (p := ⟨gb, ws.length * 2 + 1, none⟩) (by show n0 + 1 ≠ gb; omega) (.int .i64 mh)
  have hC9 : Below n0 w ((w1.setCell ⟨gb, ws.length * 2, none⟩ (.int .i64 ml)).setCell ⟨gb, ws.length * 2 + 1, none⟩ (.int .i64 mh)).drew := (Below.setCell (Below.setCell hC (by show n0 ≤ gb; omega) _) (by show n0 ≤ gb; omega) _).drew
  have HMT := Lib.hid (show meets (endR ⟨lo, hi⟩ ws) ⟨mlo, mhi⟩ = decide (ml ≤ mh) by
    rw [HEE.out]
    have h1 := HEO.out
    have h2 := HMO.out
    unfold OkR at h1 h2
    dsimp only at h1 h2
    unfold meets
    rw [Bool.eq_iff_iff, decide_eq_true_iff, decide_eq_true_iff]
    dsimp only
    omega)
  clear hso mx hC hW e0 e1 z0 z1 rx hml hmh hml2 hmh2 hse hme hgl
  generalize ((w1.setCell ⟨gb, ws.length * 2, none⟩ (.int .i64 ml)).setCell ⟨gb, ws.length * 2 + 1, none⟩ (.int .i64 mh)).drew = W9 at *
  have hgl : gb < W9.heap.size := (OwnR.lt' o9).1
  have hat := o9.at (k := ws.length) (by rw [hadS_len (Nat.le_refl _)]; omega)
  rw [hadS_at (Nat.le_refl _), List.take_length, List.drop_length, HEE.out] at hat
  obtain ⟨e0, e1⟩ := hat
  have hmm : headR (hadL ⟨elo, ehi⟩ [] ⟨mlo, mhi⟩) = ⟨ml, mh⟩ := by
    show meet ⟨elo, ehi⟩ ⟨mlo, mhi⟩ = _
    unfold meet
    dsimp only
    rw [HML.out, HMH.out]
  rw [hmm] at e0 e1
  dsimp only at e0 e1
  clear hmm
  by_cases hle : ml ≤ mh
  case neg =>
    have HV := Lib.hid (HMT.out.trans (decide_eq_false hle))
    have b1 : decide (mh < ml) = true := decide_eq_true (by omega)
    clear hle
    go_upto_region 4 with fail
    go_quiet (fail)
    go_wp2_with fail
    go_ret2
    exact HadPost.no HV.out (by (try rw [hn0]); first | exact hC9 | exact bel_of)
  have HV := Lib.hid (HMT.out.trans (decide_eq_true hle))
  have b1 : decide (mh < ml) = false := decide_eq_false (by omega)
  have wl : IntKind.i64.wrap ((ws.length : Int) - 1) = (ws.length : Int) - 1 := by rw [IntKind.wrap_i64]; omega
  clear hle
  go_upto_region 4 with fail
  go_quiet (fail)
  go_wp2_with fail
  clear e0 e1 b1 wl hli
  have HOWN := Lib.hid o9
  clear o9
  go_loopw [10] (fun i wr => ∃ j : Nat, j ≤ ws.length ∧ i = .int .i64 ((j : Int) - 1) ∧ OwnR wr (n0 + 2) (.slice (some ⟨gb, 0, none⟩) (ws.length + 1) cg) (hadS ⟨lo, hi⟩ ws ⟨mlo, mhi⟩ j) ∧ Below n0 w wr) (fun i _ => (intOf i + 1).toNat)
  case atStart => exact ⟨ws.length, Nat.le_refl _, rfl, HOWN.out, by first | exact hC9 | exact bel_of⟩
  case round =>
    clear hC9 HOWN mx9 hgl
    obtain ⟨j, hj, rfl, hown, hC⟩ := hrel
    have hW := RW.more (RW.below HW0.out hC) (B' := wr.heap.size) (by have := hC.size; omega)
    cases j with
    | zero =>
      have b1 : decide ((0 : Int) ≤ ((0 : Nat) : Int) - 1) = false := by decide
      rw [hadS_zero] at hown
      have HR := Lib.hid (own_more hown (base' := n0) (by omega))
      clear hown
      go_wp2_with fail
      go_ret2
      exact HadPost.yes HV.out (by (try rw [hn0]); exact HR.out) (by (try rw [hn0]); exact hC)
    | succ j =>
      have hjl : j < ws.length := hj
      have hij : (((j + 1 : Nat) : Int) - 1) = (j : Int) := by omega
      rw [hij]
      have hjl' : (j : Int) < (ws.length : Int) := by omega
      have hjl2 : (j : Int) < ((ws.length + 1 : Nat) : Int) := by omega
      have hjl3 : (j : Int) + 1 < ((ws.length + 1 : Nat) : Int) := by omega
      have hjl4 : (j : Int) < (ws.length : Int) + 1 := by omega
      have hjl5 : (j : Int) + 1 < (ws.length : Int) + 1 := by omega
      have wj : IntKind.i64.wrap ((j : Int) + 1) = (j : Int) + 1 := by rw [IntKind.wrap_i64]; omega
      have wj2 : ((j : Int) + 1).toNat = j + 1 := by omega
      have hA1 := hown.at (k := j) (by rw [hadS_len hj]; omega)
      have hA2 := hown.at (k := j + 1) (by rw [hadS_len hj]; omega)
      rw [hadS_old hjl] at hA1
      rw [hadS_at hj] at hA2
      have HST := Lib.hid (hadS_set (r := ⟨lo, hi⟩) (m := ⟨mlo, mhi⟩) hjl)
      have HOY := Lib.hid (HOK.out _ (nthW_mem hjl))
      obtain ⟨⟨h1, h2⟩, hh⟩ : ∃ x, endR ⟨lo, hi⟩ (ws.take j) = x := ⟨_, rfl⟩
      obtain ⟨⟨t1, t2⟩, ht⟩ : ∃ x, headR (hadL (endR ⟨lo, hi⟩ (ws.take (j + 1))) (ws.drop (j + 1)) ⟨mlo, mhi⟩) = x := ⟨_, rfl⟩
      rw [hh] at hA1 HST
      rw [ht] at hA2 HST
      obtain ⟨e0, e1⟩ := hA1
      obtain ⟨f0, f1⟩ := hA2
      dsimp only at e0 e1 f0 f1
      obtain ⟨A', cap', bb, off, hve, hA, hc⟩ := RW.cells hW
      obtain ⟨rfl, hbb⟩ := hA (by omega)
      injection hve with q1 q2 q3
      subst q1 q3
      obtain ⟨u, d0, hu⟩ := hc j hjl
      obtain ⟨y, hy⟩ : ∃ y, nthW ws j = y := ⟨_, rfl⟩
      rw [hy] at hu HOY HST
      obtain ⟨Ay, cy, rfl⟩ := hu.slice
      have z0 := hown.fz (j * 2)
      have z1 := hown.fz (j * 2 + 1)
      have hgl : gb < wr.heap.size := (OwnR.lt' hown).1
      clear hA hc q2 hy hh ht
      go_upto_region 9 with fail
      refine wp_region_noPanic (plain_any [0, 1, 2, 3, 4, 5, 6, 7, 8, 9, 10, 11, 12, 13, 14, 16] (Below wr.heap.size wr) mixed ?_)
      refine any_tk 0 ?_
      have d0z : Below wr.heap.size wr wr.drew := by exact bel_of
      refine any_tk 1 ?_
      refine any_tk 2 ?_
      refine any_tk 3 ?_
      refine any_tk 4 ?_
      refine any_tk 5 ?_
      refine any_tk 6 ?_
      refine any_tk 7 ?_
      refine any_tk 8 ?_
      refine any_tk 9 ?_
      refine any_tk 10 ?_
      refine any_tk 11 ?_
      refine any_tk 12 ?_
      refine any_tk 13 ?_
      refine any_tk 14 ?_
      have qz1 := d0z.size
      refine any_run1 (i := 15) (by kernel_rfl) (by rfl) (by kernel_rfl) ?_
      intro K hK
      go_wp2_with fail
      refine (back_any y _ ⟨h1, h2⟩ ⟨t1, t2⟩ _ HOY.out ((RS.below hu d0z).more d0z.size)).mono ?_
      rintro e vz1 ⟨rfl, hb⟩
      obtain ⟨⟨l1, m1⟩, hx1⟩ : ∃ x, backP y ⟨h1, h2⟩ ⟨t1, t2⟩ = x := ⟨_, rfl⟩
      rw [hx1] at HST ⊢
      unfold rV
      clear hx1
      have ez1 : Below wr.heap.size wr vz1 := d0z.trans (hb.mono d0z.size)
      clear hb
      refine hK _ _ (fun _ => ez1) ?_
      clear hK K
      refine any_tk 16 ?_
      have hb := ez1
      have z0' := (hb.frozen (p := ⟨gb, j * 2, none⟩) (by exact hgl)).trans z0
      have z1' := (hb.frozen (p := ⟨gb, j * 2 + 1, none⟩) (by exact hgl)).trans z1
      have y0' := (hb.cell (p := ⟨gb, j * 2, none⟩) (by exact hgl)).trans e0
      have y1' := (hb.cell (p := ⟨gb, j * 2 + 1, none⟩) (by exact hgl)).trans e1
      clear e0 e1 f0 f1 d0 hbb z0 z1
      replace hC : Below n0 w vz1 := hC.trans (hb.mono (by have := hC.size; omega))
      replace hW := (RW.below hW hb).more hb.size
      replace hown := own_below hown hb
      replace hu := (RK.below hu hb).more hb.size
      clear hb
      have o9 : OwnR ((vz1.setCell ⟨gb, j * 2, none⟩ (.int .i64 l1)).setCell ⟨gb, j * 2 + 1, none⟩ (.int .i64 m1)) (n0 + 2) _ _ := OwnR.set (h := hown) (p := j) (by rw [hadS_len hj]; omega) ⟨l1, m1⟩
      rw [HST.out] at o9
      have hC9 : Below n0 w ((vz1.setCell ⟨gb, j * 2, none⟩ (.int .i64 l1)).setCell ⟨gb, j * 2 + 1, none⟩ (.int .i64 m1)) := Below.setCell (Below.setCell hC (by show n0 ≤ gb; omega) _) (by show n0 ≤ gb; omega) _
      clear hown hW hu
      have hgl2 := hgl
      refine any_run1 (i := 17) (by kernel_rfl) (by rfl) (by kernel_rfl) ?_
      intro K hK
      go_wp2_with fail
      refine hK _ _ (fun hx => (Bool.false_ne_true (hx.symm.trans (by kernel_rfl))).elim) ?_
      clear hK K z0' z1' y0' y1'
      refine any_done (by kernel_rfl) (NoPanic.normal ?_)
      have HO9 := Lib.hid o9
      clear o9
      go_wp2_with fail
      go_roundw
      case rel => exact ⟨j, by omega, by first | rfl | go_num, HO9.out, hC9⟩
      case measure => simp [intOf]
end Go.Proofs.Ytkibdciomheekaa
