/- All recipes that can have made a blade, one after another. How many recipes can have made a blade. How many recipes have each bar, each way of a step: a map is filled. Which bars can have made a blade; how many recipes can. -/
import Derived.Test.YtkibdciomheekaaP22
import Derived.Test.YtkibdciomheekaaP18
import Derived.Test.YtkibdciomheekaaP20
set_option linter.all false
set_option linter.unnecessarySimpa false
set_option linter.unusedSimpArgs false
set_option linter.unusedVariables false
set_option linter.unusedSectionVars false

set_option linter.all false
attribute [local go_sem] Go.Oper.semAt_some
namespace Go.Proofs.Ytkibdciomheekaa
open Go.RowKit Hp

theorem follow_all {lp : Nat} {J Jx : Nat → World → Prop} {B0 gx : Nat} {T : TypeId → Prop} {Lall : List (List Int)} {wb : World} {g : Nat} {vb vs : Value} {m : Rg} {bars : List Rg} {ss : List Stp} (hc : FolC lp J Jx B0 gx T Lall wb g vb vs m bars ss) (hV : OkV bars ss) (hm : OkR m) :
    ∀ (d i : Nat), i + d = ss.length → FolSpec lp J Jx B0 T Lall g m ss i
  | 0, i, h => follow_step hc hV hm i (by omega) (fun h2 => by omega)
  | d + 1, i, h => follow_step hc hV hm i (by omega) (fun _ => follow_all hc hV hm d (i + 1) (by omega))
theorem egMakers : ∀ args w, (callFunc 96 args).run Try.prog w = .ok (.enter 96 args) w := enters_of Try.func96 (by kernel_rfl) rfl
theorem own_int {W : World} {base g : Nat} {x : Int} (h : BK W g #[.int .i64 x] 3) (hb : base ≤ g) : OwnI 3 W base (.slice (some ⟨g, 0, none⟩) 1 1) [x] :=
  ⟨by simp [ofI], .inr ⟨g, 1, _, rfl, hb, h, Nat.le_refl _, by unfold maxLen; omega, by simp, by simp [ofI]⟩⟩
/-- What the iterator reads. -/
def MakMem (gx g : Nat) (wb W : World) : Prop := BK W gx #[.pointer (some ⟨g, 0, none⟩)] 106 ∧ Below wb.heap.size wb W

set_option maxHeartbeats 8000000 in
set_option maxRecDepth 100000 in
theorem makers_any (g : Nat) (w : World) : Calls Try.prog 92 #[.pointer (some ⟨g, 0, none⟩)] w fun e w' => e = .returned (.func (.func 96) #[] #[.pointer (some ⟨w.heap.size, 0, none⟩)]) ∧ BK w' w.heap.size #[.pointer (some ⟨g, 0, none⟩)] 106 ∧ Below w.heap.size w w' := by
  obtain ⟨n0, hn0⟩ : ∃ n, w.heap.size = n := ⟨_, rfl⟩
  rw [hn0]
  go_enter Try.func92, Try.ntmps92
  go_upto_region 1 with fail
  have bx : BK (w.alloc (.cells #[.pointer (some ⟨g, 0, none⟩)] 106)) n0 #[.pointer (some ⟨g, 0, none⟩)] 106 := BK.new' _ _ _ n0 hn0
  have hC : Below n0 w (w.alloc (.cells #[.pointer (some ⟨g, 0, none⟩)] 106)) := Below.alloc (Below.refl _ _) (by omega) _
  generalize (w.alloc (.cells #[.pointer (some ⟨g, 0, none⟩)] 106)) = W1 at *
  go_wp2_with fail
  exact bodyPost_ret (v := .func (.func 96) #[] #[.pointer (some ⟨n0, 0, none⟩)]) (by simp [results, Try.results92, go_sem]) rfl ⟨rfl, bx, hC⟩

set_option maxHeartbeats 8000000 in
set_option maxRecDepth 100000 in
theorem makers_iter (T : TypeId → Prop) (hTi : ¬ T 3) (hTr : ¬ T 33) (gx g : Nat) (wb : World) (vb vs : Value) (m : Rg) (bars : List Rg) (ss : List Stp) (hT : TreeM wb g vb vs m bars ss) (hV : OkV bars ss) (hm : OkR m) :
    IterE Try.prog 96 #[.pointer (some ⟨gx, 0, none⟩)] (EnL (mkL bars m ss) gx) (mkL bars m ss).length (MakMem gx g wb) T := by
  intro lp J Jx W hJ hJx hR hY h0
  obtain ⟨Ab, cb, rfl⟩ := (show ∃ A c, vb = .slice A bars.length c from by obtain ⟨_, _, _, _, _, _, _, _, _, _, _, hB, _⟩ := hT.open; exact hB.slice)
  have hbl := hV.bfew
  obtain ⟨B0, hB0⟩ : ∃ B, W.heap.size = B := ⟨_, rfl⟩
  have hc : FolC lp J Jx B0 gx T (mkL bars m ss) wb g (.slice Ab bars.length cb) vs m bars ss := by
    refine ⟨by rw [← hB0]; exact hJ, by rw [← hB0]; exact hJx, fun i W1 h => ?_, fun j W1 mm args hj h he => ?_, hTi, hTr, hT, ?_, ?_⟩
    · obtain ⟨⟨_, h1⟩, h2⟩ := hR i W1 h
      exact ⟨h1, by rw [← hB0]; exact h2⟩
    · have := hY j W1 mm args hj h he
      rw [hB0] at this
      exact this
    · rw [← hB0]
      exact (hR 0 W h0).1.2.size
    · have := (hR 0 W h0).1.1.lt
      omega
  have hfo := follow_all hc hV hm ss.length 0 (by omega)
  obtain ⟨gf, cf, gr, cr, d0, d1, d4, d5, lg, hF, hR2, hB, hS⟩ := hT.open
  have hRR := fun W1 (h : Below wb.heap.size wb W1) => RS.below hB h
  have hD0 := fun W1 (h : Below wb.heap.size wb W1) => (h.cell (p := ⟨g, 0, none⟩) lg).trans d0
  have HC := Lib.hid hc
  have HFO := Lib.hid hfo
  have HV := Lib.hid hV
  have HR := Lib.hid hR
  have HRR := Lib.hid hRR
  have HD0 := Lib.hid hD0
  have HB0 := Lib.hid hB0
  obtain ⟨⟨b1, hbw⟩, hz0⟩ := hR 0 W h0
  have l1 := b1.lt
  have c1 := b1.cell 0
  simp at c1
  have e0 := hD0 W hbw
  have lgw : g < W.heap.size := by have := hbw.size; omega
  rw [hB0] at lgw l1 hz0
  have lgw' : g < W.heap.size := by omega
  have l1' : gx < W.heap.size := by omega
  clear hJ hJx hR hY hc hfo hV hm hT d0 d1 d4 d5 hF hR2 hB hS hRR hD0 hbw hB0 b1
  go_enter Try.func96, Try.ntmps96
  go_wp2_with fail
  clear c1 l1 e0 lgw lgw' l1'
  go_loopw [11] (fun x wr => ∃ k : Nat, k ≤ bars.length ∧ x = .int .i64 (k : Int) ∧ J (mkK bars m ss k).length wr) (fun x _ => bars.length - (intOf x).toNat)
  case atStart => exact ⟨0, Nat.zero_le _, rfl, by rw [mkK_zero]; exact h0⟩
  case round =>
    clear h0
    obtain ⟨k, hk, rfl, hJ⟩ := hrel
    by_cases hlt : k < bars.length
    case neg =>
      obtain rfl : k = bars.length := by omega
      rw [mkK_all] at hJ
      have HJ := Lib.hid hJ
      clear hJ
      go_wp2_with fail
      exact bodyPost_end (results_none rfl _ _ _) rfl ⟨⟨_, rfl⟩, .inl HJ.out⟩
    have hlt' : (k : Int) < (bars.length : Int) := by omega
    obtain ⟨⟨b1, hbw⟩, hz⟩ := HR.out _ _ hJ
    rw [HB0.out] at hz
    obtain ⟨A', cap', b3, off3, hve, hA, hc⟩ := RR.cells (HRR.out _ hbw)
    obtain ⟨rfl, hbb3⟩ := hA (by omega)
    injection hve with q1 q2 q3
    subst q1 q3
    obtain ⟨d0, d1⟩ := hc k hlt
    have hbk := HV.out.bok _ (nthB_mem hlt)
    have hat : ∀ t ks, (Hp.follow m (ss.drop 0) (nthB bars k))[t]? = some ks → (mkL bars m ss)[(mkK bars m ss k).length + t]? = some ([(k : Int)] ++ ks.map Int.ofNat) := fun t ks h => mkK_at bars m ss hlt h
    have HSU := Lib.hid (mkK_succ bars m ss k)
    obtain ⟨l, hl⟩ := mkK_le bars m ss (b := k + 1) (by omega)
    have HLE := Lib.hid hl
    clear hA hc q2 hl
    obtain ⟨⟨lo, hi⟩, hbb⟩ : ∃ r, nthB bars k = r := ⟨_, rfl⟩
    rw [hbb] at d0 d1 hbk HSU hat
    dsimp only at d0 d1
    have HAT := Lib.hid hat
    have HBK := Lib.hid hbk
    clear hbb hat hbk
    have hbb4 : b3 < wr.heap.size := by have := hbw.size; omega
    obtain ⟨n, hn⟩ : ∃ n, wr.heap.size = n := ⟨_, rfl⟩
    have l1g := b1.lt
    have HBW := Lib.hid hbw
    clear hbw
    go_upto_region 3 with fail
    have hb1 : Below wr.heap.size wr (wr.alloc (.cells #[.int .i64 lo, .int .i64 hi] 33)) := by exact bel_of
    have b4 : BK (wr.alloc (.cells #[.int .i64 lo, .int .i64 hi] 33)) n #[.int .i64 lo, .int .i64 hi] 33 := BK.new' _ _ _ _ hn
    have b12 := b1.below hb1 l1g
    have hJ1 := HC.out.sJ _ _ _ hJ (Adm.below hb1)
    have hs1 : (wr.alloc (.cells #[.int .i64 lo, .int .i64 hi] 33)).heap.size = n + 1 := by simp [hn]
    have hBn : B0 ≤ n := by omega
    clear hJ hb1 d0 d1 hbb3 hbb4 b1 l1g hn HBW
    generalize (wr.alloc (.cells #[.int .i64 lo, .int .i64 hi] 33)) = X1 at *
    have l1 := b12.lt
    have c1 := b12.cell 0
    have l4 := b4.lt
    have r0 := b4.cell 0
    have r1 := b4.cell 1
    simp at c1 r0 r1
    have hb2 : Below X1.heap.size X1 (X1.alloc (.cells #[.int .i64 (k : Int)] 3)) := by exact bel_of
    have hown : OwnI 3 (X1.alloc (.cells #[.int .i64 (k : Int)] 3)) B0 (.slice (some ⟨n + 1, 0, none⟩) 1 1) [(k : Int)] := own_int (BK.new' _ _ _ _ hs1) (by omega)
    have hJ2 := HC.out.sJ _ _ _ hJ1 (Adm.below hb2)
    have HJ2 := Lib.hid hJ2
    have HOW := Lib.hid hown
    clear hJ1 hb2 hown hJ2 b12 b4
    go_wp2_with fail
    refine (HFO.out ⟨lo, hi⟩ [(k : Int)] (mkK bars m ss k).length _ _ HBK.out rfl HAT.out HJ2.out HOW.out).mono ?_
    rintro e W2 ⟨_, hres⟩
    have hsu := HSU.out
    rcases hres with ⟨rfl, hJ10⟩ | ⟨rfl, t, ht, hJ10⟩
    · have e1 : (mkK bars m ss k).length + (Hp.follow m (ss.drop 0) ⟨lo, hi⟩).length = (mkK bars m ss (k + 1)).length := by
        rw [hsu, List.length_append, List.length_map]; rfl
      rw [e1] at hJ10
      have HJ10 := Lib.hid hJ10
      clear hJ10 e1 hsu l1 c1 l4 r0 r1 hs1
      go_wp2_with fail
      go_roundw
      case rel => exact ⟨k + 1, by omega, by go_num, HJ10.out⟩
      case measure => simp [intOf]; omega
    · have hlt3 : (mkK bars m ss k).length + t < (mkL bars m ss).length := by
        rw [HLE.out, List.length_append, hsu, List.length_append, List.length_map]
        have : t < (Hp.follow m ss ⟨lo, hi⟩).length := ht
        omega
      have HJ10 := Lib.hid hJ10
      clear hJ10 hsu l1 c1 l4 r0 r1 hs1
      go_wp2_with fail
      exact bodyPost_ret (results_none rfl _ _ _) rfl ⟨⟨_, rfl⟩, .inr ⟨_, hlt3, HJ10.out⟩⟩
end Go.Proofs.Ytkibdciomheekaa

set_option linter.all false
attribute [local go_sem] Go.Oper.semAt_some
namespace Go.Proofs.Ytkibdciomheekaa
open Go.RowKit Hp

theorem wp_rangeE_a {P : Program} {g : Operand} {ps : Array Tmp} {assign body : Code} {Q : Exit → Act → World → Prop} {a : Act} {w : World}
    {gf : Nat} {lb : Array Value} (hg : a.eval g = .func (.func gf) #[] lb) (eg : ∀ args w, (callFunc gf args).run P w = .ok (.enter gf args) w)
    {En : Nat → Array Value → World → Prop} {N : Nat} {R : World → Prop} {T : TypeId → Prop} (hit : IterE P gf lb En N R T) (hps : ∀ i args W, En i args W → args.size = ps.size)
    (I : Nat → World → Prop) (Ix : Code → Nat → World → Prop) (AxF : Array Value → Nat → Act → World → Prop) (hr : RoundsE P T w.heap.size a.tmps ps assign body En N I Ix (AxF a.tmps)) (hR : ∀ i W, I i W → R W) (h0 : I 0 w)
    (hdone : ∀ (D : Nat) (W : World), w.heap.size ≤ D → I N W → W.heap[D]? = some (.deferred (some [])) → Q .normal { a with defers := { target := .collected D, args := #[] } :: a.defers } W)
    (hstop : ∀ (D : Nat) (c : Code) (i : Nat) (W : World), w.heap.size ≤ D → i < N → Ix c i W → W.heap[D]? = some (.deferred (some [])) → c.wp P Q { a with defers := { target := .collected D, args := #[] } :: a.defers } W) :
    (Code.rangeFunc g ps assign body).wp P Q a w := wp_rangeE hg eg hit hps I Ix (AxF a.tmps) hr hR h0 hdone hstop
theorem EnL.size {L : List (List Int)} {gx i : Nat} {args : Array Value} {W : World} (h : EnL L gx i args W) : args.size = 1 := by
  obtain ⟨v, l, rfl, _⟩ := h
  rfl
theorem RI.adm {B B' : Nat} {W W' : World} {v : Value} {l : List Int} (h : Adm B W W') (hr : RI W B' v l) : RI W' B' v l := h.rs hr

theorem map_eq_nil (r : Option Nat) (W : World) : (binOp .eql 115 (.map r) (.map none)).run Try.prog W = .ok (.bool r.isNone) W := by
  have h := run_equal_map_nil W 115 _ _ r map_under
  unfold binOp
  simp [h]

set_option maxHeartbeats 8000000 in
set_option maxRecDepth 100000 in
theorem count0_any (g : Nat) (vb vs : Value) (m : Rg) (bars : List Rg) (ss : List Stp) (w : World) (hT : TreeM w g vb vs m bars ss) (hV : OkV bars ss) (hm : OkR m) (hN : (mkL bars m ss).length ≤ 1000000) :
    Calls Try.prog 75 #[.pointer (some ⟨g, 0, none⟩), .map none] w fun e w' => e = .returned (.int .i64 ((mkL bars m ss).length : Int)) ∧ Below w.heap.size w w' := by
  obtain ⟨n0, hn0⟩ : ∃ n, w.heap.size = n := ⟨_, rfl⟩
  have hwb : n0 ≤ w.heap.size := by omega
  have HT := Lib.hid hT
  have HV := Lib.hid hV
  have HM := Lib.hid hm
  clear hT hV hm
  refine calls_of_wp_marks Try.func75 rfl ?_
  simp only [Try.ntmps75, List.size_toArray, List.length_cons, List.length_nil, Nat.reduceAdd, Nat.reduceSub, Array.replicate_succ, Array.replicate_zero, List.push_toArray, List.append_toArray, List.nil_append, List.cons_append]
  go_upto_region 2 with fail
  have hb1 : Below w.heap.size w ((w.alloc (.cells #[.map none] 115)).alloc (.cells #[.int .i64 0] 3)) := by exact bel_of
  have b3 : BK ((w.alloc (.cells #[.map none] 115)).alloc (.cells #[.int .i64 0] 3)) n0 #[.map none] 115 := (BK.new' _ _ _ _ hn0).alloc _
  have b5 : BK ((w.alloc (.cells #[.map none] 115)).alloc (.cells #[.int .i64 0] 3)) (n0 + 1) #[.int .i64 0] 3 := BK.new' _ _ _ _ (by simp [hn0])
  have hs1 : ((w.alloc (.cells #[.map none] 115)).alloc (.cells #[.int .i64 0] 3)).heap.size = n0 + 2 := by simp [hn0]
  generalize ((w.alloc (.cells #[.map none] 115)).alloc (.cells #[.int .i64 0] 3)) = W1 at *
  have HS1 := Lib.hid hs1
  clear hs1
  go_wp2_with fail
  refine (makers_any g _).mono ?_
  rintro e w1 ⟨rfl, b6, hb⟩
  have hC := hb1.trans (hb.mono hb1.size)
  have b32 := b3.below hb b3.lt
  have b52 := b5.below hb b5.lt
  have l6 := b6.lt
  rw [HS1.out] at b6 l6 ⊢
  obtain ⟨B, hB2⟩ : ∃ B, w1.heap.size = B := ⟨_, rfl⟩
  rw [hB2] at l6
  have HC := Lib.hid hC
  have HB3 := Lib.hid b32
  have HB5 := Lib.hid b52
  have HB6 := Lib.hid b6
  clear hb1 hb b3 b5 HS1 hC b32 b52 b6
  go_wp2_with fail
  refine wp_rangeE_a (gf := 96) (lb := #[.pointer (some ⟨n0 + 2, 0, none⟩)]) rfl egMakers (makers_iter (fun _ => False) (fun h => h) (fun h => h) (n0 + 2) g w vb vs m bars ss HT.out HV.out HM.out) (fun _ _ _ h => h.size)
    (fun j Z => BK Z n0 #[.map none] 115 ∧ BK Z (n0 + 1) #[.int .i64 (j : Int)] 3 ∧ MakMem (n0 + 2) g w Z ∧ B ≤ Z.heap.size)
    (fun _ _ _ => False)
    (fun tm j a' Z => (BK Z n0 #[.map none] 115 ∧ BK Z (n0 + 1) #[.int .i64 (j : Int)] 3 ∧ MakMem (n0 + 2) g w Z ∧ B ≤ Z.heap.size) ∧ ∃ v, a' = { tmps := ((tm.setIfInBounds 11 v).setIfInBounds 6 v), defers := [] })
    ?rounds ?mem ?start ?done ?stop
  case stop => rintro D c' j V hD hj hf; exact hf.elim
  case mem => rintro j V ⟨_, _, h, _⟩; exact h
  case start => exact ⟨HB3.out, HB5.out, ⟨HB6.out, HC.out⟩, by rw [hB2]; exact Nat.le_refl _⟩
  case done =>
    rintro D V hD ⟨h1, h2, h3, h4⟩ hDV
    have l5 := h2.lt
    have c5 := h2.cell 0
    simp at c5
    have HM3 := Lib.hid h3.2
    have HDV := Lib.hid hDV
    clear h1 h2 h3 hDV
    go_wp2_with fail
    refine leave_all [D] V ⟨by simp, fun D' h' => by rw [List.mem_singleton.1 h']; exact HDV.out⟩ (v := .int .i64 ((mkL bars m ss).length : Int)) (fun W' => by simp [results, Try.results75, go_sem]) ?_
    exact ⟨rfl, putAll_below [D] V HM3.out fun D' h' => by rw [List.mem_singleton.1 h']; have := HC.out.size; omega⟩
  case rounds =>
    rw [hB2]
    refine ⟨?_, fun c i A A' h _ => h, ?_, fun i V h => h.2.2.2, ?_, ?_⟩
    · rintro j V V' ⟨q1, q2, q3, q4⟩ ha
      exact ⟨ha.cells q1, ha.cells q2, ⟨ha.cells q3.1, ha.belowOf q3.2 (Nat.le_refl _) (by omega)⟩, Nat.le_trans q4 ha.size⟩
    · rintro j a V V' ⟨⟨q1, q2, q3, q4⟩, h5⟩ ha
      exact ⟨⟨ha.cells q1, ha.cells q2, ⟨ha.cells q3.1, ha.belowOf q3.2 (Nat.le_refl _) (by omega)⟩, Nat.le_trans q4 ha.size⟩, h5⟩
    · rintro lq j args V hj hI ⟨v, l, rfl, _, _⟩ K2 hK2
      have hK3' := hK2 _ V (Kept.refl _ _ _) ⟨hI, v, rfl⟩
      simp only [List.setIfInBounds_toArray, List.set_cons_succ, List.set_cons_zero] at hK3'
      have HK4' := Lib.hid hK3'
      clear hK3' hK2 hI
      gi_wp2_with fail
      exact HK4'.out
    · rintro lq j a' V hj hlq ⟨r, hr⟩ ⟨⟨q1, q2, q3, q4⟩, v, rfl⟩
      simp only [List.setIfInBounds_toArray, List.set_cons_succ, List.set_cons_zero]
      have l5 := q2.lt
      have c5 := q2.cell 0
      have f5 := q2.frozen 0
      have l3 := q1.lt
      have c3 := q1.cell 0
      simp at c5 c3
      have wj : IntKind.i64.wrap ((j : Int) + 1) = (j : Int) + 1 := by rw [IntKind.wrap_i64]; omega
      have heq := map_eq_nil none
      clear hr
      have s1 := q1.far (p := ⟨n0 + 1, 0, none⟩) (by show n0 ≠ n0 + 1; omega) (.int .i64 ((j : Int) + 1))
      have s2 := q2.set 0 (.int .i64 ((j : Int) + 1))
      have s3 : MakMem (n0 + 2) g w (V.setCell ⟨n0 + 1, 0, none⟩ (.int .i64 ((j : Int) + 1))) := ⟨q3.1.far (by show n0 + 2 ≠ n0 + 1; omega) _, Below.setCell q3.2 (by show w.heap.size ≤ n0 + 1; omega) _⟩
      have hkp : Kept (fun _ => False) B V (V.setCell ⟨n0 + 1, 0, none⟩ (.int .i64 ((j : Int) + 1))) := (Kept.refl _ _ _).setCell (.inl (by show n0 + 1 < B; omega)) _
      have s4 : B ≤ (V.setCell ⟨n0 + 1, 0, none⟩ (.int .i64 ((j : Int) + 1))).heap.size := Nat.le_trans q4 hkp.1
      simp at s2
      have S1 := Lib.hid s1
      have S2 := Lib.hid s2
      have S3 := Lib.hid s3
      have S4 := Lib.hid s4
      have HKP := Lib.hid hkp
      clear s1 s2 s3 s4 hkp q1 q2 q3 q4
      gi_wp2_with fail
      refine ⟨HKP.out, S1.out, ?_, S3.out, S4.out⟩
      have := S2.out
      simpa using this
/-- The numbers of places, recipe by recipe. -/
def bumpM (f : Int → Int → Option Int) (r : List Int) (n : Nat) : Int → Int → Option Int := (List.range n).foldl (fun f (i : Nat) => updM f ((i : Int) - 1) (nthI r i) (some ((f ((i : Int) - 1) (nthI r i)).getD 0 + 1))) f
theorem bumpM_zero (f : Int → Int → Option Int) (r : List Int) : bumpM f r 0 = f := rfl
theorem bumpM_succ (f : Int → Int → Option Int) (r : List Int) (n : Nat) : bumpM f r (n + 1) = updM (bumpM f r n) ((n : Int) - 1) (nthI r n) (some ((bumpM f r n ((n : Int) - 1) (nthI r n)).getD 0 + 1)) := by
  unfold bumpM; rw [List.range_succ, List.foldl_append, List.foldl_cons, List.foldl_nil]
def cntM (L : List (List Int)) (j : Nat) : Int → Int → Option Int := (L.take j).foldl (fun f r => bumpM f r r.length) fun _ _ => none
theorem cntM_zero (L : List (List Int)) : cntM L 0 = fun _ _ => none := by unfold cntM; rw [List.take_zero, List.foldl_nil]
theorem cntM_succ {L : List (List Int)} {j : Nat} {r : List Int} (h : L[j]? = some r) : cntM L (j + 1) = bumpM (cntM L j) r r.length := by
  unfold cntM; rw [List.take_add_one, h, List.foldl_append]; rfl
/-- How many have a number at a place. -/
def hits (L : List (List Int)) (a c : Int) : Int := ((L.filter fun r => decide (-1 ≤ a ∧ a + 1 < r.length ∧ nthI r (a + 1).toNat = c)).length : Int)
theorem bumpM_at (f : Int → Int → Option Int) (r : List Int) (a c : Int) : ∀ n : Nat, n ≤ r.length → ((bumpM f r n a c).getD 0 = (f a c).getD 0 + if -1 ≤ a ∧ a + 1 < n ∧ nthI r (a + 1).toNat = c then 1 else 0)
  | 0, _ => by rw [bumpM_zero, if_neg (by omega)]; omega
  | n + 1, hn => by
    have ih := bumpM_at f r a c n (by omega)
    rw [bumpM_succ]
    unfold updM
    by_cases h : a = (n : Int) - 1 ∧ c = nthI r n
    · obtain ⟨rfl, rfl⟩ := h
      rw [if_pos ⟨rfl, rfl⟩, Option.getD_some, ih, if_neg (by omega), if_pos ⟨by omega, by omega, by rw [show ((n : Int) - 1 + 1).toNat = n by omega]⟩]
      omega
    · rw [if_neg h, ih]
      congr 1
      by_cases h2 : -1 ≤ a ∧ a + 1 < (n : Int) ∧ nthI r (a + 1).toNat = c
      · rw [if_pos h2, if_pos ⟨h2.1, by omega, h2.2.2⟩]
      · rw [if_neg h2, if_neg]
        rintro ⟨q1, q2, q3⟩
        by_cases h3 : a + 1 < (n : Int)
        · exact h2 ⟨q1, h3, q3⟩
        · have h4 : a = (n : Int) - 1 := by omega
          exact h ⟨h4, by rw [← q3, h4, show ((n : Int) - 1 + 1).toNat = n by omega]⟩
theorem cntM_at (L : List (List Int)) (a c : Int) : ∀ j : Nat, j ≤ L.length → (cntM L j a c).getD 0 = hits (L.take j) a c
  | 0, _ => by rw [cntM_zero, List.take_zero]; rfl
  | j + 1, hj => by
    have hr : L[j]? = some L[j] := List.getElem?_eq_getElem (by omega)
    rw [cntM_succ hr, bumpM_at _ _ _ _ _ (Nat.le_refl _), cntM_at L a c j (by omega), List.take_add_one, hr]
    unfold hits
    rw [List.filter_append, List.length_append, Option.toList_some, List.filter_cons, List.filter_nil]
    by_cases h : -1 ≤ a ∧ a + 1 < (L[j].length : Int) ∧ nthI L[j] (a + 1).toNat = c
    · rw [if_pos h, decide_eq_true h, if_pos rfl]; simp
    · rw [if_neg h, decide_eq_false h, if_neg Bool.false_ne_true]; simp
end Go.Proofs.Ytkibdciomheekaa

set_option linter.all false
attribute [local go_sem] Go.Oper.semAt_some
namespace Go.Proofs.Ytkibdciomheekaa
open Go.RowKit Hp

theorem grown_adm {w Z Z' : World} {B b : Nat} (h : w.grownBy Z (some b)) (ha : Adm B Z Z') (hB : w.heap.size ≤ B) : w.grownBy Z' (some b) := by
  obtain ⟨row, hg, hr⟩ := ha
  refine ⟨hg.os.trans h.os, hg.tape.trans h.tape, hg.output.trans h.output, Nat.le_trans h.size hg.size, fun k hk hne => ?_⟩
  rw [hg.block k (Nat.lt_of_lt_of_le hk h.size) (fun e => by have := (hr k e.symm).1; omega)]
  exact h.block k hk hne
theorem grown_far {w Z : World} {b c : Nat} (h : w.grownBy Z (some b)) (hc : w.heap.size ≤ c) (u : Value) : w.grownBy (Z.setCell ⟨c, 0, none⟩ u) (some b) :=
  ⟨h.os, h.tape, h.output, by simpa [World.setCell] using h.size, fun k hk hr => (Below.heap_setCell _ _ _ _ (by show k ≠ c; omega)).trans (h.block k hk hr)⟩
theorem grown_trans' {w Z Z' : World} {b : Nat} (h : w.grownBy Z (some b)) (hg : Z.grownBy Z' (some b)) : w.grownBy Z' (some b) :=
  ⟨hg.os.trans h.os, hg.tape.trans h.tape, hg.output.trans h.output, Nat.le_trans h.size hg.size, fun k hk hne => (hg.block k (Nat.lt_of_lt_of_le hk h.size) hne).trans (h.block k hk hne)⟩
theorem grown_below {w Z Z' : World} {b : Nat} (h : w.grownBy Z (some b)) (hg : Below Z.heap.size Z Z') : w.grownBy Z' (some b) :=
  ⟨hg.os.trans h.os, hg.tape.trans h.tape, hg.output.trans h.output, Nat.le_trans h.size hg.size, fun k hk hne => (hg.block k (Nat.lt_of_lt_of_le hk h.size)).trans (h.block k hk hne)⟩
theorem own_off {Z : World} {gx c : Nat} {v : Value} {l : List Int} (h : OwnI 3 Z gx v l) (hc : c < gx) (u : Value) : OwnI 3 (Z.setCell ⟨c, 0, none⟩ u) gx v l :=
  World.ownsRow.kept h (grown_set (⟨rfl, rfl, rfl, Nat.le_refl _, fun _ _ _ => rfl⟩ : Z.grownBy Z (some c)) 0 u) (.inr fun he => by have := (World.ownsRow.lt h _ he).1; omega)
theorem hits_le (L : List (List Int)) (a c : Int) : 0 ≤ hits L a c ∧ hits L a c ≤ L.length := by
  have := List.length_filter_le (fun r : List Int => decide (-1 ≤ a ∧ a + 1 < r.length ∧ nthI r (a + 1).toNat = c)) L
  unfold hits
  omega
section
variable {P : Program} {ops : Array Oper} {Q : Exit → Act → World → Prop}
theorem look_exec {o : Oper} {a : Act} {X : World} {t : TypeId} {m k : Operand} {c : Bool} {v : Value} (ho : o.op = .lookup t m k c) (h : (Instr.lookup t (a.eval m) (a.eval k) c).run P X = .ok v X) : (execOp a.eval o).run P X = .ok (.value v) X := by
  unfold execOp
  simp only [ho, Sem.run_bind, Sem.run_pure, h, Result.andThen_ok]
theorem wp_entry_run {o : Oper} {a : Act} {w w' : World} {K : Act → World → Prop} (t : TypeId) (m k : Operand) (v : Value) (ho : o.op = .mapEntry t m k) (hrun : (Instr.mapEntry t (a.eval m) (a.eval k)).run P w = .ok v w') (h : K (a.put o.dst v) w') : o.wp P a w K Q := by
  unfold Oper.wp execOp
  simp only [ho, Sem.run_bind, Sem.run_pure, hrun, Result.andThen_ok]
  exact h
theorem wp_estore_run {o : Oper} {a : Act} {w w' : World} {K : Act → World → Prop} (t : TypeId) (m k x : Operand) (ho : o.op = .entryStore t m k x) (hrun : (Instr.entryStore t (a.eval m) (a.eval k) (a.eval x)).run P w = .ok () w') (h : K (a.put o.dst undef) w') : o.wp P a w K Q := by
  unfold Oper.wp execOp
  simp only [ho, Sem.run_bind, Sem.run_pure, hrun, Result.andThen_ok]
  exact h
end
/-- What lies while recipes are counted. -/
structure CmSt (w wb : World) (n0 g b : Nat) (j : Int) (f : Int → Int → Option Int) (Z : World) : Prop where
  b3 : BK Z n0 #[.map (some b)] 115
  b5 : BK Z (n0 + 1) #[.int .i64 j] 3
  mm : MakMem (n0 + 2) g wb Z
  mp : MPl Z b f
  gr : w.grownBy Z (some b)
section
variable {w wb Z Z' : World} {n0 g b B : Nat} {j : Int} {f f' : Int → Int → Option Int}
theorem CmSt.adm (h : CmSt w wb n0 g b j f Z) (ha : Adm B Z Z') (hw : w.heap.size ≤ B) (hb : b < w.heap.size) (hwb : wb.heap.size ≤ b) : CmSt w wb n0 g b j f Z' :=
  ⟨ha.cells h.b3, ha.cells h.b5, ⟨ha.cells h.mm.1, ha.belowOf h.mm.2 (Nat.le_refl _) (by omega)⟩, h.mp.adm ha (by omega), grown_adm h.gr ha hw⟩
theorem CmSt.drew' (h : CmSt w wb n0 g b j f Z) : CmSt w wb n0 g b j f Z.drew :=
  ⟨h.b3.drew, h.b5.drew, ⟨h.mm.1.drew, h.mm.2.drew⟩, h.mp.heap rfl, grown_below h.gr (Below.drew (Below.refl _ _))⟩
theorem CmSt.turn (h : CmSt w wb n0 g b j f Z) (hg : Z.grownBy Z' (some b)) (hm : MPl Z' b f') (hn : w.heap.size = n0) (hb : b < n0) (hwb : wb.heap.size ≤ b) : CmSt w wb n0 g b j f' Z' := by
  have q : ∀ k, n0 ≤ k → some k ≠ some b := fun k hk he => by injection he with he; omega
  exact ⟨h.b3.grown hg (q _ (by omega)), h.b5.grown hg (q _ (by omega)), ⟨h.mm.1.grown hg (q _ (by omega)), h.mm.2.grown hg h.mm.2.size (fun k he => by injection he with he; omega)⟩, hm, grown_trans' h.gr hg⟩
theorem CmSt.count {j' : Int} (h : CmSt w wb n0 g b j f Z) (hn : w.heap.size = n0) (hb : b < n0) (hwb : wb.heap.size ≤ b) : CmSt w wb n0 g b j' f (Z.setCell ⟨n0 + 1, 0, none⟩ (.int .i64 j')) := by
  have h5 := h.b5.set 0 (.int .i64 j')
  simp at h5
  exact ⟨h.b3.far (by show n0 ≠ n0 + 1; omega) _, h5, ⟨h.mm.1.far (by show n0 + 2 ≠ n0 + 1; omega) _, Below.setCell h.mm.2 (by show wb.heap.size ≤ n0 + 1; omega) _⟩, h.mp.heap (Below.heap_setCell _ _ _ _ (by show b ≠ n0 + 1; omega)), grown_far h.gr (by omega) _⟩
end

set_option maxHeartbeats 8000000 in
set_option maxRecDepth 100000 in
theorem countM_any (g b : Nat) (vb vs : Value) (m : Rg) (bars : List Rg) (ss : List Stp) (wb w : World) (hT : TreeM wb g vb vs m bars ss) (hwb : Below wb.heap.size wb w) (hb : wb.heap.size ≤ b) (hM : MPl w b fun _ _ => none) (hV : OkV bars ss) (hm : OkR m) (hN : (mkL bars m ss).length ≤ 1000000) (hL : ∀ r ∈ mkL bars m ss, r.length ≤ 100) :
    Calls Try.prog 75 #[.pointer (some ⟨g, 0, none⟩), .map (some b)] w fun e w' => e = .returned (.int .i64 ((mkL bars m ss).length : Int)) ∧ MPl w' b (cntM (mkL bars m ss) (mkL bars m ss).length) ∧ w.grownBy w' (some b) := by
  obtain ⟨n0, hn0⟩ : ∃ n, w.heap.size = n := ⟨_, rfl⟩
  have hbn : b < n0 := by have := hM.lt; omega
  have HN0 := Lib.hid hn0
  have HT := Lib.hid hT
  have HV := Lib.hid hV
  have HM := Lib.hid hm
  obtain ⟨L, hLL⟩ : ∃ L, mkL bars m ss = L := ⟨_, rfl⟩
  rw [hLL] at hN hL ⊢
  have HLL := Lib.hid hLL
  have HL := Lib.hid hL
  clear hT hV hm hL hLL
  refine calls_of_wp_marks Try.func75 rfl ?_
  simp only [Try.ntmps75, List.size_toArray, List.length_cons, List.length_nil, Nat.reduceAdd, Nat.reduceSub, Array.replicate_succ, Array.replicate_zero, List.push_toArray, List.append_toArray, List.nil_append, List.cons_append]
  go_upto_region 2 with fail
  have hb1 : Below w.heap.size w ((w.alloc (.cells #[.map (some b)] 115)).alloc (.cells #[.int .i64 0] 3)) := by exact bel_of
  have b3 : BK ((w.alloc (.cells #[.map (some b)] 115)).alloc (.cells #[.int .i64 0] 3)) n0 #[.map (some b)] 115 := (BK.new' _ _ _ _ hn0).alloc _
  have b5 : BK ((w.alloc (.cells #[.map (some b)] 115)).alloc (.cells #[.int .i64 0] 3)) (n0 + 1) #[.int .i64 0] 3 := BK.new' _ _ _ _ (by simp [hn0])
  have hs1 : ((w.alloc (.cells #[.map (some b)] 115)).alloc (.cells #[.int .i64 0] 3)).heap.size = n0 + 2 := by simp [hn0]
  generalize ((w.alloc (.cells #[.map (some b)] 115)).alloc (.cells #[.int .i64 0] 3)) = W1 at *
  have HS1 := Lib.hid hs1
  clear hs1
  go_wp2_with fail
  refine (makers_any g _).mono ?_
  rintro e w1 ⟨rfl, b6, hbm⟩
  have hC := hb1.trans (hbm.mono hb1.size)
  have b32 := b3.below hbm b3.lt
  have b52 := b5.below hbm b5.lt
  have l6 := b6.lt
  rw [HS1.out] at b6 l6 ⊢
  obtain ⟨B, hB2⟩ : ∃ B, w1.heap.size = B := ⟨_, rfl⟩
  rw [hB2] at l6
  have hst : CmSt w wb n0 g b ((0 : Nat) : Int) (cntM L 0) w1 := by
    rw [cntM_zero]
    exact ⟨b32, b52, ⟨b6, hwb.trans (hC.mono (by omega))⟩, hM.below hC hM.lt, grown_below ⟨rfl, rfl, rfl, Nat.le_refl _, fun _ _ _ => rfl⟩ hC⟩
  have HST := Lib.hid hst
  clear hb1 hbm b3 b5 HS1 hC b32 b52 b6 hst hM hwb
  have hit := makers_iter (fun _ => False) (fun h => h) (fun h => h) (n0 + 2) g wb vb vs m bars ss HT.out HV.out HM.out
  rw [HLL.out] at hit
  have HIT := Lib.hid hit
  clear hit
  go_wp2_with fail
  refine wp_rangeE_a (gf := 96) (lb := #[.pointer (some ⟨n0 + 2, 0, none⟩)]) rfl egMakers HIT.out (fun _ _ _ h => h.size)
    (fun j Z => CmSt w wb n0 g b (j : Int) (cntM L j) Z ∧ B ≤ Z.heap.size)
    (fun _ _ _ => False)
    (fun tm j a' Z => (CmSt w wb n0 g b (j : Int) (cntM L j) Z ∧ B ≤ Z.heap.size) ∧ ∃ v l, L[j]? = some l ∧ OwnI 3 Z (n0 + 2) v l ∧ a' = { tmps := ((tm.setIfInBounds 11 v).setIfInBounds 6 v), defers := [] })
    ?rounds ?mem ?start ?done ?stop
  case stop => rintro D c' j V hD hj hf; exact hf.elim
  case mem => rintro j V ⟨h, _⟩; exact h.mm
  case start => exact ⟨HST.out, by rw [hB2]; exact Nat.le_refl _⟩
  case done =>
    rintro D V hD ⟨h, h4⟩ hDV
    have l5 := h.b5.lt
    have c5 := h.b5.cell 0
    simp at c5
    have HSV := Lib.hid h
    have HDV := Lib.hid hDV
    clear h hDV
    go_wp2_with fail
    refine leave_all [D] V ⟨by simp, fun D' h' => by rw [List.mem_singleton.1 h']; exact HDV.out⟩ (v := .int .i64 (L.length : Int)) (fun W' => by simp [results, Try.results75, go_sem]) ?_
    have hn := HN0.out
    have hDb : b ∉ [D] := fun hm => by have := List.mem_singleton.1 hm; omega
    refine ⟨rfl, HSV.out.mp.heap (putAll_other [D] V b hDb), ⟨HSV.out.gr.os, HSV.out.gr.tape, HSV.out.gr.output, by rw [putAll_size]; exact HSV.out.gr.size, fun k hk hne => ?_⟩⟩
    rw [putAll_other [D] V k (fun hm => by have := List.mem_singleton.1 hm; omega)]
    exact HSV.out.gr.block k hk hne
  case rounds =>
    rw [hB2]
    have hn := HN0.out
    have hwB : w.heap.size ≤ B := by omega
    have hbw : b < w.heap.size := by omega
    refine ⟨?_, fun c i A A' h _ => h, ?_, fun i V h => h.2, ?_, ?_⟩
    · rintro j V V' ⟨q1, q4⟩ ha
      exact ⟨q1.adm ha hwB hbw hb, Nat.le_trans q4 ha.size⟩
    · rintro j a V V' ⟨⟨q1, q4⟩, v, l, h5, h6, h7⟩ ha
      exact ⟨⟨q1.adm ha hwB hbw hb, Nat.le_trans q4 ha.size⟩, v, l, h5, ha.own h6, h7⟩
    · rintro lq j args V hj hI ⟨v, l, rfl, hl, hri⟩ K2 hK2
      have hK3' := hK2 _ V (Kept.refl _ _ _) ⟨hI, v, l, hl, hri, rfl⟩
      simp only [List.setIfInBounds_toArray, List.set_cons_succ, List.set_cons_zero] at hK3'
      have HK4' := Lib.hid hK3'
      clear hK3' hK2 hI hri hl hn
      gi_wp2_with fail
      exact HK4'.out
    · rintro lq j a' V hj hlq ⟨r, hr⟩ ⟨⟨q1, q4⟩, v, l, hl, hri, rfl⟩
      simp only [List.setIfInBounds_toArray, List.set_cons_succ, List.set_cons_zero]
      have l5 := q1.b5.lt
      have c5 := q1.b5.cell 0
      have f5 := q1.b5.frozen 0
      have l3 := q1.b3.lt
      have c3 := q1.b3.cell 0
      simp at c5 c3
      have wj : IntKind.i64.wrap ((j : Int) + 1) = (j : Int) + 1 := by rw [IntKind.wrap_i64]; omega
      have heq := map_eq_nil (some b)
      have hll := HL.out l (List.mem_of_getElem? hl)
      have hs1 := q1.count (j' := (j : Int) + 1) hn hbn hb
      have hkp : Kept (fun _ => False) B V (V.setCell ⟨n0 + 1, 0, none⟩ (.int .i64 ((j : Int) + 1))) := (Kept.refl _ _ _).setCell (.inl (by show n0 + 1 < B; omega)) _
      have hr1 : OwnI 3 (V.setCell ⟨n0 + 1, 0, none⟩ (.int .i64 ((j : Int) + 1))) (n0 + 2) v l := own_off hri (by omega) _
      obtain ⟨Av, cv, rfl⟩ := own_slice hri
      have CS := Lib.hid (cntM_succ hl)
      have HS1 := Lib.hid hs1
      have HKP := Lib.hid hkp
      have HRI := Lib.hid hr1
      clear hr hs1 hkp hr1 q1 hri hl hn
      gi_wp2_with fail
      generalize hVV : (V.setCell ⟨n0 + 1, 0, none⟩ (.int .i64 ((j : Int) + 1))) = V1 at *
      gi_loopw [18] (fun x wr => ∃ k : Nat, k ≤ l.length ∧ x = .int .i64 (k : Int) ∧ CmSt w wb n0 g b ((j : Int) + 1) (bumpM (cntM L j) l k) wr ∧ OwnI 3 wr (n0 + 2) (.slice Av l.length cv) l ∧ Kept (fun _ => False) B V wr) (fun x wr => l.length - (intOf x).toNat)
      case atStart => exact ⟨0, Nat.zero_le _, rfl, HS1.out, HRI.out, HKP.out⟩
      case round =>
        clear HS1 HRI HKP
        obtain ⟨k, hk, rfl, hst, hown, hkp⟩ := hrel
        by_cases hlt : k < l.length
        case neg =>
          obtain rfl : k = l.length := by omega
          rw [← CS.out] at hst
          have HST := Lib.hid hst
          have HKP := Lib.hid hkp
          clear hst hown hkp
          gi_wp2_with fail
          exact ⟨HKP.out, HST.out, Nat.le_trans q4 HKP.out.1⟩
        have hlt' : (k : Int) < (l.length : Int) := by omega
        obtain ⟨A', cap', b3', off3, hve, hA, hc⟩ := RI.cells (OwnI.ri hown)
        obtain ⟨rfl, hbb3⟩ := hA (by omega)
        injection hve with p1 p2 p3
        subst p1 p3
        have d0 := hc k hlt
        clear hA hc p2
        have BS := Lib.hid (bumpM_succ (cntM L j) l k)
        have hv1 := bumpM_at (cntM L j) l ((k : Int) - 1) (nthI l k) k (by omega)
        have hv2 := cntM_at L ((k : Int) - 1) (nthI l k) j (by omega)
        have hv3 := hits_le (L.take j) ((k : Int) - 1) (nthI l k)
        have hv4 : (L.take j).length ≤ j := by rw [List.length_take]; omega
        obtain ⟨x, hx⟩ : ∃ x, nthI l k = x := ⟨_, rfl⟩
        rw [hx] at d0 BS hv1 hv2 hv3
        obtain ⟨f, hf⟩ : ∃ f, bumpM (cntM L j) l k = f := ⟨_, rfl⟩
        rw [hf] at hst BS hv1
        obtain ⟨v0, hv0⟩ : ∃ v, (f ((k : Int) - 1) x).getD 0 = v := ⟨_, rfl⟩
        have hv0b : 0 ≤ v0 ∧ v0 ≤ 2000000 := by
          rw [hv0, hv2] at hv1
          split at hv1 <;> omega
        have wv : IntKind.i64.wrap (v0 + 1) = v0 + 1 := by rw [IntKind.wrap_i64]; omega
        have wk : IntKind.i64.wrap ((k : Int) - 1) = (k : Int) - 1 := by rw [IntKind.wrap_i64]; omega
        have wk2 : IntKind.i64.wrap ((k : Int) + 1) = (k : Int) + 1 := by rw [IntKind.wrap_i64]; omega
        rw [hv0] at BS
        have hlook := fun (X : World) (hX : MPl X b f) => hX.look ((k : Int) - 1) x
        rw [hv0] at hlook
        obtain ⟨W1, st, hrun, hm1, hg1, hsz1, hst1⟩ := (hst.mp.heap (W' := wr.drew) rfl).entry ((k : Int) - 1) x
        rw [hv0] at hrun hm1
        have hl1 := hm1.look ((k : Int) - 1) x
        have hl1e : (updM f ((k : Int) - 1) x (some v0) ((k : Int) - 1) x).getD 0 = v0 := by unfold updM; rw [if_pos ⟨rfl, rfl⟩]; rfl
        rw [hl1e] at hl1
        obtain ⟨W3, hrun3, hm3, hg3, hsz3⟩ := hst1 (v0 + 1) W1 rfl
        have hl0 := hlook wr.drew (hst.mp.heap rfl)
        have c3 := hst.b3.cell 0
        have l3 := hst.b3.lt
        simp at c3
        unfold plV at hl0 hl1 hrun
        have hcW1 : W1.cell? ⟨n0, 0, none⟩ = some (.map (some b)) := by
          have := (hst.b3.drew).grown hg1 (by intro e; injection e with e; omega)
          have := this.cell 0
          simpa using this
        have hS0 : wr.drew.cell? ⟨n0, 0, none⟩ = some (.map (some b)) ∧ (Instr.lookup 115 (.map (some b)) (.agg #[.int .i64 ((k : Int) - 1), .int .i64 x]) false).run Try.prog wr.drew = .ok (.int .i64 v0) wr.drew := ⟨c3, hl0⟩
        have hS1 : W1.cell? ⟨n0, 0, none⟩ = some (.map (some b)) ∧ (Instr.lookup 115 (.map (some b)) (.agg #[.int .i64 ((k : Int) - 1), .int .i64 x]) false).run Try.prog W1 = .ok (.int .i64 v0) W1 := ⟨hcW1, hl1⟩
        have hst3 : CmSt w wb n0 g b ((j : Int) + 1) (updM f ((k : Int) - 1) x (some (v0 + 1))) W3 := (hst.drew').turn (grown_trans' hg1 hg3) hm3 HN0.out hbn hb
        have hown3 : OwnI 3 W3 (n0 + 2) (.slice (some ⟨b3', off3, none⟩) l.length cv) l := World.ownsRow.kept (World.ownsRow.kept (own_below hown (Below.drew (Below.refl _ _))) hg1 (.inr fun he => by have := (World.ownsRow.lt hown _ he).1; omega)) hg3 (.inr fun he => by have := (World.ownsRow.lt hown _ he).1; omega)
        have hkp3 : Kept (fun _ => False) B V W3 := ((hkp.drew).grown hg1 (fun r e => .inl (by injection e with e; omega))).grown hg3 (fun r e => .inl (by injection e with e; omega))
        rw [← BS.out] at hst3
        have HST := Lib.hid hst3
        have HOWN := Lib.hid hown3
        have HKP := Lib.hid hkp3
        have HS0 := Lib.hid hS0
        have HS1 := Lib.hid hS1
        have HRUN := Lib.hid hrun
        have HRUN3 := Lib.hid hrun3
        clear hst3 hown3 hkp3 hst hown hkp hS1 hrun hrun3 hm1 hg1 hm3 hg3 hst1 hlook hl0 hl1 hl1e hcW1 hsz1 hsz3 hv1 hv2 hv3 hv4 hS0 c3 l3 hf hx hv0 hVV l5 c5 f5 heq wj
        gi_wp2_with fail
        refine round_any [0, 1, 2, 3, 4, 5, 6] (fun X => X.cell? ⟨n0, 0, none⟩ = some (.map (some b)) ∧ (Instr.lookup 115 (.map (some b)) (.agg #[.int .i64 ((k : Int) - 1), .int .i64 x]) false).run Try.prog X = .ok (.int .i64 v0) X) mixed (by kernel_rfl) ?_ ?_
        · rintro ⟨_, _, hx⟩; exact hx
        have hS0 := HS0.out
        (refine any_take 0 ?_ (by rfl) (by kernel_rfl) (fun _ _ _ _ _ hx => hx) (.inl ⟨by rfl, ?_⟩) hS0 ?_; rotate_left; (intro X hX; obtain ⟨r1, r2⟩ := hX; go_simp; first | rfl | (simp [r2]; done)); simp only [List.getElem_toArray, List.getElem_cons_succ, List.getElem_cons_zero, Act.put, List.setIfInBounds_toArray, List.set_cons_succ, List.set_cons_zero])
        (refine any_take 1 ?_ (by rfl) (by kernel_rfl) (fun _ _ _ _ _ hx => hx) (.inl ⟨by rfl, ?_⟩) hS0 ?_; rotate_left; (intro X hX; obtain ⟨r1, r2⟩ := hX; go_simp; first | rfl | (simp [r2]; done)); simp only [List.getElem_toArray, List.getElem_cons_succ, List.getElem_cons_zero, Act.put, List.setIfInBounds_toArray, List.set_cons_succ, List.set_cons_zero])
        (refine any_take 2 ?_ (by rfl) (by kernel_rfl) (fun _ _ _ _ _ hx => hx) (.inl ⟨by rfl, ?_⟩) hS0 ?_; rotate_left; (intro X hX; obtain ⟨r1, r2⟩ := hX; go_simp; first | rfl | (simp [r2]; done)); simp only [List.getElem_toArray, List.getElem_cons_succ, List.getElem_cons_zero, Act.put, List.setIfInBounds_toArray, List.set_cons_succ, List.set_cons_zero])
        (refine any_take 3 ?_ (by rfl) (by kernel_rfl) (fun _ _ _ _ _ hx => hx) (.inl ⟨by rfl, ?_⟩) hS0 ?_; rotate_left; (intro X hX; obtain ⟨r1, r2⟩ := hX; go_simp; first | rfl | (simp [r2]; done)); simp only [List.getElem_toArray, List.getElem_cons_succ, List.getElem_cons_zero, Act.put, List.setIfInBounds_toArray, List.set_cons_succ, List.set_cons_zero])
        (refine any_take 4 ?_ (by rfl) (by kernel_rfl) (fun _ _ _ _ _ hx => hx) (.inl ⟨by rfl, ?_⟩) hS0 ?_; rotate_left; (intro X hX; obtain ⟨r1, r2⟩ := hX; go_simp; first | rfl | (simp [r2]; done)); simp only [List.getElem_toArray, List.getElem_cons_succ, List.getElem_cons_zero, Act.put, List.setIfInBounds_toArray, List.set_cons_succ, List.set_cons_zero])
        (refine any_take 5 (.int .i64 v0) (by rfl) (by kernel_rfl) (fun _ _ _ _ _ hx => hx) (.inl ⟨by rfl, ?_⟩) hS0 ?_; (intro X hX; exact look_exec rfl hX.2); simp only [List.getElem_toArray, List.getElem_cons_succ, List.getElem_cons_zero, Act.put, List.setIfInBounds_toArray, List.set_cons_succ, List.set_cons_zero])
        (refine any_take 6 ?_ (by rfl) (by kernel_rfl) (fun _ _ _ _ _ hx => hx) (.inl ⟨by rfl, ?_⟩) hS0 ?_; rotate_left; (intro X hX; obtain ⟨r1, r2⟩ := hX; go_simp; first | rfl | (simp [r2]; done)); simp only [List.getElem_toArray, List.getElem_cons_succ, List.getElem_cons_zero, Act.put, List.setIfInBounds_toArray, List.set_cons_succ, List.set_cons_zero])
        refine any_run1 (i := 7) (by kernel_rfl) (by rfl) (by kernel_rfl) ?_
        intro K5 hK5
        refine wp_entry_run 115 (.tmp 23) (.tmp 27) _ rfl HRUN.out ?_
        refine hK5 _ _ (fun _ => HS1.out) ?_
        clear hK5 K5 hS0
        simp only [List.getElem_toArray, List.getElem_cons_succ, List.getElem_cons_zero, Act.put, List.setIfInBounds_toArray, List.set_cons_succ, List.set_cons_zero]
        refine any_run1 (i := 8) (by kernel_rfl) (by rfl) (by kernel_rfl) ?_
        intro K5 hK5
        go_wp2_with fail
        refine hK5 _ _ (fun _ => HS1.out) ?_
        clear hK5 K5
        refine any_run1 (i := 9) (by kernel_rfl) (by rfl) (by kernel_rfl) ?_
        intro K5 hK5
        refine wp_estore_run 115 (.tmp 23) (.tmp 31) (.tmp 29) rfl HRUN3.out ?_
        refine hK5 _ _ (fun hx => (Bool.false_ne_true (hx.symm.trans (by kernel_rfl))).elim) ?_
        clear hK5 K5
        refine any_done (by kernel_rfl) ?_
        simp only [Act.put]
        gi_wp2_with fail
        go_roundw
        case rel => exact ⟨k + 1, by omega, by go_num, HST.out, HOWN.out, HKP.out⟩
        case measure => simp [intOf]; omega
end Go.Proofs.Ytkibdciomheekaa

set_option linter.all false
namespace Go.Proofs.Ytkibdciomheekaa
open Go.RowKit Hp

/-- What the question of the bars answers. -/
def barsE (bars : List Rg) (ss : List Stp) (m : Rg) : Int := if measE bars ss m ≠ 0 then measE bars ss m else if someV bars m ss (-1) = [] then 17 else 0
def BarsPost (bars : List Rg) (ss : List Stp) (m : Rg) (w : World) (e : Ending) (w' : World) : Prop :=
  ∃ v, e = .returned (.tuple #[v, .int .i64 (barsE bars ss m)]) ∧ RI w' w'.heap.size v (if barsE bars ss m = 0 then someV bars m ss (-1) else []) ∧ Below w.heap.size w w'
theorem BarsPost.no {bars : List Rg} {ss : List Stp} {m : Rg} {w w' : World} {e : Int} (h : measE bars ss m = e) (h0 : e ≠ 0) (hb : Below w.heap.size w w') : BarsPost bars ss m w (.returned (.tuple #[.slice none 0 0, .int .i64 e])) w' := by
  have h1 : barsE bars ss m = e := by unfold barsE; rw [h, if_pos h0]
  exact ⟨_, by rw [h1], by rw [h1, if_neg h0]; exact ri_nil _ _, hb⟩
theorem BarsPost.soft {bars : List Rg} {ss : List Stp} {m : Rg} {w w' : World} (h : measE bars ss m = 0) (h0 : someV bars m ss (-1) = []) (hb : Below w.heap.size w w') : BarsPost bars ss m w (.returned (.tuple #[.slice none 0 0, .int .i64 17])) w' := by
  have h1 : barsE bars ss m = 17 := by unfold barsE; rw [h, if_neg (by simp), if_pos h0]
  exact ⟨_, by rw [h1], by rw [h1, if_neg (by decide)]; exact ri_nil _ _, hb⟩
theorem BarsPost.yes {bars : List Rg} {ss : List Stp} {m : Rg} {w w' : World} {v : Value} (h : measE bars ss m = 0) (h0 : someV bars m ss (-1) ≠ []) (hv : RI w' w'.heap.size v (someV bars m ss (-1))) (hb : Below w.heap.size w w') : BarsPost bars ss m w (.returned (.tuple #[v, .int .i64 0])) w' := by
  have h1 : barsE bars ss m = 0 := by unfold barsE; rw [h, if_neg (by simp), if_neg h0]
  exact ⟨_, by rw [h1], by rw [h1, if_pos rfl]; exact hv, hb⟩
/-- What the count answers. -/
def CountPost (bars : List Rg) (ss : List Stp) (m : Rg) (w : World) (e : Ending) (w' : World) : Prop :=
  e = .returned (.tuple #[.int .i64 (if measE bars ss m = 0 then ((mkL bars m ss).length : Int) else 0), .int .i64 (measE bars ss m)]) ∧ Below w.heap.size w w'
theorem CountPost.no {bars : List Rg} {ss : List Stp} {m : Rg} {w w' : World} {e : Int} (h : measE bars ss m = e) (h0 : e ≠ 0) (hb : Below w.heap.size w w') : CountPost bars ss m w (.returned (.tuple #[.int .i64 0, .int .i64 e])) w' :=
  ⟨by rw [h, if_neg h0], hb⟩
theorem CountPost.yes {bars : List Rg} {ss : List Stp} {m : Rg} {w w' : World} (h : measE bars ss m = 0) (hb : Below w.heap.size w w') : CountPost bars ss m w (.returned (.tuple #[.int .i64 ((mkL bars m ss).length : Int), .int .i64 0])) w' :=
  ⟨by rw [h, if_pos rfl], hb⟩

set_option maxHeartbeats 8000000 in
set_option maxRecDepth 100000 in
theorem countF_any (bars : List Rg) (ss : List Stp) (m : Rg) (vb vs : Value) (w : World) (hf : Fit bars ss) (hB : RR w w.heap.size vb bars) (hS : RP w w.heap.size vs ss) (hN : measE bars ss m = 0 → (mkL bars m ss).length ≤ 1000000) :
    Calls Try.prog 37 #[.agg #[vb, vs], rV m] w (CountPost bars ss m w) := by
  have HN := Lib.hid hN
  clear hN
  have HF := Lib.hid hf
  clear hf
  obtain ⟨Ab, cb, rfl⟩ := hB.slice
  obtain ⟨As, cs, rfl⟩ := hS.slice
  obtain ⟨mlo, mhi⟩ := m
  unfold rV
  obtain ⟨n0, hn0⟩ : ∃ n, w.heap.size = n := ⟨_, rfl⟩
  have hC : Below n0 w w := Below.refl _ _
  go_enter Try.func37, Try.ntmps37
  go_upto_region 1 with fail
  have hqbx : n0 ≤ n0 := by have := hC.size; omega
  have bx : BK (w.alloc (.cells #[.slice Ab bars.length cb, .slice As ss.length cs] 25)) (n0) #[.slice Ab bars.length cb, .slice As ss.length cs] 25 := BK.new' _ _ _ (n0) hn0
  have hsbx : (w.alloc (.cells #[.slice Ab bars.length cb, .slice As ss.length cs] 25)).heap.size = n0 + 1 := by simp [hn0]
  replace hC : Below n0 w (w.alloc (.cells #[.slice Ab bars.length cb, .slice As ss.length cs] 25)) := Below.alloc hC (by have := hC.size; omega) _
  replace hB := (RS.below hB (w' := (w.alloc (.cells #[.slice Ab bars.length cb, .slice As ss.length cs] 25))) (Below.alloc (Below.refl _ _) (Nat.le_refl _) _)).more (B' := (w.alloc (.cells #[.slice Ab bars.length cb, .slice As ss.length cs] 25)).heap.size) (by simp)
  replace hS := (RP.below hS (w' := (w.alloc (.cells #[.slice Ab bars.length cb, .slice As ss.length cs] 25))) (Below.alloc (Below.refl _ _) (Nat.le_refl _) _)).more (B' := (w.alloc (.cells #[.slice Ab bars.length cb, .slice As ss.length cs] 25)).heap.size) (by simp)
  generalize (w.alloc (.cells #[.slice Ab bars.length cb, .slice As ss.length cs] 25)) = Wbx at *
  have hqmx : n0 ≤ n0 + 1 := by have := hC.size; omega
  have mx : BK (Wbx.alloc (.cells #[.int .i64 mlo, .int .i64 mhi] 33)) (n0 + 1) #[.int .i64 mlo, .int .i64 mhi] 33 := BK.new' _ _ _ (n0 + 1) hsbx
  have hsmx : (Wbx.alloc (.cells #[.int .i64 mlo, .int .i64 mhi] 33)).heap.size = n0 + 1 + 1 := by simp [hsbx]
  replace hC : Below n0 w (Wbx.alloc (.cells #[.int .i64 mlo, .int .i64 mhi] 33)) := Below.alloc hC (by have := hC.size; omega) _
  replace hB := (RS.below hB (w' := (Wbx.alloc (.cells #[.int .i64 mlo, .int .i64 mhi] 33))) (Below.alloc (Below.refl _ _) (Nat.le_refl _) _)).more (B' := (Wbx.alloc (.cells #[.int .i64 mlo, .int .i64 mhi] 33)).heap.size) (by simp)
  replace hS := (RP.below hS (w' := (Wbx.alloc (.cells #[.int .i64 mlo, .int .i64 mhi] 33))) (Below.alloc (Below.refl _ _) (Nat.le_refl _) _)).more (B' := (Wbx.alloc (.cells #[.int .i64 mlo, .int .i64 mhi] 33)).heap.size) (by simp)
  replace bx := bx.alloc (.cells #[.int .i64 mlo, .int .i64 mhi] 33)
  generalize (Wbx.alloc (.cells #[.int .i64 mlo, .int .i64 mhi] 33)) = Wmx at *
  clear hsbx
  have lbx := bx.lt
  have bxc0 := bx.cell 0
  have bxc1 := bx.cell 1
  simp at bxc0 bxc1
  have lmx := mx.lt
  have mxc0 := mx.cell 0
  have mxc1 := mx.cell 1
  simp at mxc0 mxc1
  go_wp2_with fail
  clear lbx bxc0 bxc1
  clear lmx mxc0 mxc1
  clear hsmx
  refine (madeT_any bars ss ⟨mlo, mhi⟩ _ _ _ HF.out hB hS).mono ?_
  rintro e w1 ⟨p, rfl, hp, hb⟩
  replace hC : Below n0 w w1 := hC.trans (hb.mono (by have := hC.size; omega))
  replace hB := (RS.below hB hb).more hb.size
  replace hS := (RP.below hS hb).more hb.size
  replace bx := bx.below hb bx.lt
  replace mx := mx.below hb mx.lt
  clear hb
  obtain ⟨e, he⟩ : ∃ e, measE bars ss ⟨mlo, mhi⟩ = e := ⟨_, rfl⟩
  rw [he] at hp ⊢
  by_cases e0 : e = 0
  case neg =>
    have b1 : (e != 0) = true := by simp [e0]
    have HE := Lib.hid he
    have E0 := Lib.hid e0
    clear he e0 hp
    go_wp2_with fail
    go_ret2
    exact CountPost.no HE.out E0.out (by (try rw [hn0]); exact hC)
  subst e0
  obtain ⟨hV, hm, g, rfl, hT⟩ := hp rfl
  have HV := Lib.hid hV
  have HM := Lib.hid hm
  have HT := Lib.hid hT
  have HE := Lib.hid he
  clear hp hV hm hT he
  go_wp2_with fail
  refine (count0_any g _ _ ⟨mlo, mhi⟩ bars ss _ HT.out HV.out HM.out (HN.out HE.out)).mono ?_
  rintro e w2 ⟨rfl, hb⟩
  replace hC : Below n0 w w2 := hC.trans (hb.mono (by have := hC.size; omega))
  replace hB := (RS.below hB hb).more hb.size
  replace hS := (RP.below hS hb).more hb.size
  replace bx := bx.below hb bx.lt
  replace mx := mx.below hb mx.lt
  clear hb
  go_wp2_with fail
  go_ret2
  exact CountPost.yes HE.out (by (try rw [hn0]); exact hC)

set_option maxHeartbeats 8000000 in
set_option maxRecDepth 100000 in
theorem barsF_any (bars : List Rg) (ss : List Stp) (m : Rg) (vb vs : Value) (w : World) (hf : Fit bars ss) (hB : RR w w.heap.size vb bars) (hS : RP w w.heap.size vs ss) :
    Calls Try.prog 33 #[.agg #[vb, vs], rV m] w (BarsPost bars ss m w) := by
  have HF := Lib.hid hf
  clear hf
  obtain ⟨Ab, cb, rfl⟩ := hB.slice
  obtain ⟨As, cs, rfl⟩ := hS.slice
  obtain ⟨mlo, mhi⟩ := m
  unfold rV
  obtain ⟨n0, hn0⟩ : ∃ n, w.heap.size = n := ⟨_, rfl⟩
  have hC : Below n0 w w := Below.refl _ _
  go_enter Try.func33, Try.ntmps33
  go_upto_region 1 with fail
  have hqbx : n0 ≤ n0 := by have := hC.size; omega
  have bx : BK (w.alloc (.cells #[.slice Ab bars.length cb, .slice As ss.length cs] 25)) (n0) #[.slice Ab bars.length cb, .slice As ss.length cs] 25 := BK.new' _ _ _ (n0) hn0
  have hsbx : (w.alloc (.cells #[.slice Ab bars.length cb, .slice As ss.length cs] 25)).heap.size = n0 + 1 := by simp [hn0]
  replace hC : Below n0 w (w.alloc (.cells #[.slice Ab bars.length cb, .slice As ss.length cs] 25)) := Below.alloc hC (by have := hC.size; omega) _
  replace hB := (RS.below hB (w' := (w.alloc (.cells #[.slice Ab bars.length cb, .slice As ss.length cs] 25))) (Below.alloc (Below.refl _ _) (Nat.le_refl _) _)).more (B' := (w.alloc (.cells #[.slice Ab bars.length cb, .slice As ss.length cs] 25)).heap.size) (by simp)
  replace hS := (RP.below hS (w' := (w.alloc (.cells #[.slice Ab bars.length cb, .slice As ss.length cs] 25))) (Below.alloc (Below.refl _ _) (Nat.le_refl _) _)).more (B' := (w.alloc (.cells #[.slice Ab bars.length cb, .slice As ss.length cs] 25)).heap.size) (by simp)
  generalize (w.alloc (.cells #[.slice Ab bars.length cb, .slice As ss.length cs] 25)) = Wbx at *
  have hqmx : n0 ≤ n0 + 1 := by have := hC.size; omega
  have mx : BK (Wbx.alloc (.cells #[.int .i64 mlo, .int .i64 mhi] 33)) (n0 + 1) #[.int .i64 mlo, .int .i64 mhi] 33 := BK.new' _ _ _ (n0 + 1) hsbx
  have hsmx : (Wbx.alloc (.cells #[.int .i64 mlo, .int .i64 mhi] 33)).heap.size = n0 + 1 + 1 := by simp [hsbx]
  replace hC : Below n0 w (Wbx.alloc (.cells #[.int .i64 mlo, .int .i64 mhi] 33)) := Below.alloc hC (by have := hC.size; omega) _
  replace hB := (RS.below hB (w' := (Wbx.alloc (.cells #[.int .i64 mlo, .int .i64 mhi] 33))) (Below.alloc (Below.refl _ _) (Nat.le_refl _) _)).more (B' := (Wbx.alloc (.cells #[.int .i64 mlo, .int .i64 mhi] 33)).heap.size) (by simp)
  replace hS := (RP.below hS (w' := (Wbx.alloc (.cells #[.int .i64 mlo, .int .i64 mhi] 33))) (Below.alloc (Below.refl _ _) (Nat.le_refl _) _)).more (B' := (Wbx.alloc (.cells #[.int .i64 mlo, .int .i64 mhi] 33)).heap.size) (by simp)
  replace bx := bx.alloc (.cells #[.int .i64 mlo, .int .i64 mhi] 33)
  generalize (Wbx.alloc (.cells #[.int .i64 mlo, .int .i64 mhi] 33)) = Wmx at *
  clear hsbx
  have lbx := bx.lt
  have bxc0 := bx.cell 0
  have bxc1 := bx.cell 1
  simp at bxc0 bxc1
  have lmx := mx.lt
  have mxc0 := mx.cell 0
  have mxc1 := mx.cell 1
  simp at mxc0 mxc1
  go_wp2_with fail
  clear lbx bxc0 bxc1
  clear lmx mxc0 mxc1
  clear hsmx
  refine (madeT_any bars ss ⟨mlo, mhi⟩ _ _ _ HF.out hB hS).mono ?_
  rintro e w1 ⟨p, rfl, hp, hb⟩
  replace hC : Below n0 w w1 := hC.trans (hb.mono (by have := hC.size; omega))
  replace hB := (RS.below hB hb).more hb.size
  replace hS := (RP.below hS hb).more hb.size
  replace bx := bx.below hb bx.lt
  replace mx := mx.below hb mx.lt
  clear hb
  obtain ⟨e, he⟩ : ∃ e, measE bars ss ⟨mlo, mhi⟩ = e := ⟨_, rfl⟩
  rw [he] at hp ⊢
  by_cases e0 : e = 0
  case neg =>
    have b1 : (e != 0) = true := by simp [e0]
    have HE := Lib.hid he
    have E0 := Lib.hid e0
    clear he e0 hp
    go_wp2_with fail
    go_ret2
    exact BarsPost.no HE.out E0.out (by (try rw [hn0]); exact hC)
  subst e0
  obtain ⟨hV, hm, g, rfl, hT⟩ := hp rfl
  have HV := Lib.hid hV
  have HM := Lib.hid hm
  have HT := Lib.hid hT
  have HE := Lib.hid he
  clear hp hV hm hT he
  go_wp2_with fail
  refine (someN_any g _ _ ⟨mlo, mhi⟩ bars ss _ HT.out HV.out).mono ?_
  rintro e w2 ⟨v, rfl, hv, hb⟩
  replace hC : Below n0 w w2 := hC.trans (hb.mono (by have := hC.size; omega))
  replace hB := (RS.below hB hb).more hb.size
  replace hS := (RP.below hS hb).more hb.size
  replace bx := bx.below hb bx.lt
  replace mx := mx.below hb mx.lt
  clear hb
  obtain ⟨l, hl⟩ : ∃ l, someV bars ⟨mlo, mhi⟩ ss (-1) = l := ⟨_, rfl⟩
  rw [hl] at hv
  have HL := Lib.hid hl
  obtain ⟨Av, cv, rfl⟩ : ∃ A c, v = .slice A l.length c := by
    obtain ⟨A, c, b, o, hv, _⟩ := hv
    exact ⟨A, c, hv⟩
  have HO := Lib.hid hv
  clear hv hl
  by_cases a1 : l.length = 0
  case pos =>
    have A1 := Lib.hid a1
    have b1 : ((l.length : Int) == 0) = true := by simp [a1]
    clear a1
    go_wp2_with fail
    go_ret2
    exact BarsPost.soft HE.out (by rw [HL.out]; exact List.length_eq_zero_iff.1 A1.out) (by (try rw [hn0]); exact hC)
  have A1 := Lib.hid a1
  have b1 : ((l.length : Int) == 0) = false := by simpa using a1
  clear a1
  go_wp2_with fail
  go_ret2
  exact BarsPost.yes HE.out (by rw [HL.out]; exact fun q => A1.out (by rw [q]; rfl)) (by rw [HL.out]; exact HO.out) (by (try rw [hn0]); exact hC)
end Go.Proofs.Ytkibdciomheekaa
