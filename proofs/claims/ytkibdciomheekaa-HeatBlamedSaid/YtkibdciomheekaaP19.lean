/- The bars that can have made a blade. -/
import Derived.Test.YtkibdciomheekaaP18
import Derived.ChangeKeysEq
set_option linter.all false
set_option linter.unnecessarySimpa false
set_option linter.unusedSimpArgs false
set_option linter.unusedVariables false
set_option linter.unusedSectionVars false

set_option linter.all false
attribute [local go_sem] Go.Oper.semAt_some
namespace Go.Proofs.Ytkibdciomheekaa
open Go.RowKit Hp

theorem part_cel (f : Row) (i : Nat) (h : i < 1001) (W : World) : (part 134 (rowL f).toArray i).run Try.prog W = .ok (cel (f i)) W := by
  have ha : (isAgg 134).run Try.prog W = .ok false W := by simp [isAgg, run_underlying i8_under]
  have hg : (rowL f).toArray[i]? = some (cel (f i)) := by rw [List.getElem?_toArray]; exact rowL_at f h
  simp [part, ha, hg]
theorem cel_beq (a b : Bool) (W : World) (d : Nat) : (Op.equalIn (d + 1) 134 (cel a) (cel b)).run Try.prog W = .ok (a == b) W := by
  unfold cel
  rw [run_equalIn_int W d _ _ _ _ _ i8_under]
  cases a <;> cases b <;> rfl
theorem eq_rows (d : Nat) (f g : Row) (W : World) : ∀ (is : List Nat), (∀ i ∈ is, i < 1001) →
    (Op.eqItems (d + 1) 134 1 (rowL f).toArray (rowL g).toArray is).run Try.prog W = .ok (is.all fun i => f i == g i) W := by
  intro is
  induction is with
  | nil => intro _; simp [Op.eqItems]
  | cons i is ih =>
    intro h
    have hi := h i (by simp)
    have h2 := ih fun j hj => h j (by simp [hj])
    simp only [Op.eqItems, Nat.mul_one, Sem.run_bind, part_cel f i hi, part_cel g i hi, Result.andThen_ok, cel_beq, List.all_cons]
    cases hq : f i == g i
    · simp
    · simpa using h2
/-- A row is compared with the empty one. -/
theorem eqRow_no (f : Row) (W : World) : (Op.equalIn 10000 136 (.agg (rowL f).toArray) (.agg (rowL noR).toArray)).run Try.prog W = .ok (emptyF f) W := by
  obtain ⟨i, hi⟩ : ∃ i, Try.prog.info? 134 = some i := info_of_underlying i8_under
  rw [show (10000 : Nat) = 9999 + 1 from rfl, run_equalIn_array W 9999 _ _ row_under hi, i8_cells, show (9999 : Nat) = 9998 + 1 from rfl, eq_rows 9998 f noR W (List.range 1001) (fun i hi => List.mem_range.1 hi)]
  have e : ((List.range 1001).all fun i => f i == noR i) = emptyF f := by
    have h : (fun i => f i == noR i) = fun h => !f h := by
      funext i
      unfold noR
      cases f i <;> rfl
    unfold emptyF
    rw [h]
  rw [e]
theorem run_build_no (W : World) : (Instr.build 136 #[]).run Try.prog W = .ok (.agg (rowL noR).toArray) W := by
  have hz := row_zeroA W
  obtain ⟨Z, hZ⟩ : ∃ Z, (rowL noR).toArray = Z := ⟨_, rfl⟩
  rw [hZ] at hz ⊢
  clear hZ
  unfold Instr.build
  rw [Sem.run_bind, hz, Result.andThen_ok, Sem.run_bind, run_underlying row_under, Result.andThen_ok]
  simp only [Sem.run_bind, Try.sizeOf134, Result.andThen_ok]
  rfl
section
variable {P : Program} {ops : Array Oper} {Q : Exit → Act → World → Prop}
theorem wpList_build0_run {rest : List Oper} {o : Oper} {a : Act} {w w' : World} (hgd : o.guard = none) (t : TypeId) (v : Value) (ho : o.op = .build t #[]) (hrun : (Instr.build t #[]).run P w = .ok v w')
    (h : wpList P ops Q rest (a.put o.dst v) w') : wpList P ops Q (o :: rest) a w := by
  refine wpList_plain hgd fun K hK => ?_
  unfold Oper.wp execOp
  simp only [ho, Sem.run_bind, Sem.run_pure, List.map_toArray, List.map_nil, hrun, Result.andThen_ok]
  exact hK _ _ h
end

/-- What is returned. -/
def someV (bars : List Rg) (m : Rg) (ss : List Stp) (step : Int) : List Int :=
  if emptyF (bothF bars m ss 0) = true then [] else if step < 0 then (someB bars m ss).map Int.ofNat else (someW bars m ss step.toNat).map Int.ofNat
/-- The bars up to one. -/
def sbN (bars : List Rg) (f : Row) (k : Nat) : List Int := ((List.range k).filter fun b => mtR f (nthB bars b)).map Int.ofNat
theorem sbN_succ (bars : List Rg) (f : Row) (k : Nat) : sbN bars f (k + 1) = if mtR f (nthB bars k) = true then sbN bars f k ++ [(k : Int)] else sbN bars f k := by
  unfold sbN
  rw [List.range_succ, List.filter_append, List.map_append, List.filter_cons, List.filter_nil]
  split
  · rfl
  · simp
theorem sbN_len (bars : List Rg) (f : Row) (k : Nat) : (sbN bars f k).length ≤ k := by
  unfold sbN
  rw [List.length_map]
  exact Nat.le_trans (List.length_filter_le _ _) (by simp)

set_option maxHeartbeats 8000000 in
set_option maxRecDepth 100000 in
theorem someN_any (g : Nat) (vb vs : Value) (m : Rg) (bars : List Rg) (ss : List Stp) (w : World) (hT : TreeM w g vb vs m bars ss) (hV : OkV bars ss) :
    Calls Try.prog 70 #[.pointer (some ⟨g, 0, none⟩), .int .i64 (-1)] w fun e w' => ∃ v, e = .returned v ∧ RI w' w'.heap.size v (someV bars m ss (-1)) ∧ Below w.heap.size w w' := by
  obtain ⟨Ab, cb, rfl⟩ := (show ∃ A c, vb = .slice A bars.length c from by obtain ⟨_, _, _, _, _, _, _, _, _, _, _, hB, _⟩ := hT.open; exact hB.slice)
  have hbl := hV.bfew
  have hsl := hV.sfew
  have HV := Lib.hid hV
  clear hV
  obtain ⟨n0, hn0⟩ : ∃ n, w.heap.size = n := ⟨_, rfl⟩
  have lg0 := hT.open
  rw [hn0]
  refine calls_of_wp_marks Try.func70 rfl ?_
  simp only [Try.ntmps70, List.size_toArray, List.length_cons, List.length_nil, Nat.reduceAdd, Nat.reduceSub, Array.replicate_succ, Array.replicate_zero, List.push_toArray, List.append_toArray, List.nil_append, List.cons_append]
  go_upto_region 1 with fail
  have hb1 : Below w.heap.size w ((w.alloc (.cells #[.pointer (some ⟨g, 0, none⟩)] 106)).alloc (.cells #[.int .i64 (-1)] 3)) := by exact bel_of
  have b2 : BK ((w.alloc (.cells #[.pointer (some ⟨g, 0, none⟩)] 106)).alloc (.cells #[.int .i64 (-1)] 3)) n0 #[.pointer (some ⟨g, 0, none⟩)] 106 := (BK.new' _ _ _ _ hn0).alloc _
  have b3 : BK ((w.alloc (.cells #[.pointer (some ⟨g, 0, none⟩)] 106)).alloc (.cells #[.int .i64 (-1)] 3)) (n0 + 1) #[.int .i64 (-1)] 3 := BK.new' _ _ _ _ (by simp [hn0])
  have hT1 := hT.next hb1
  rw [hn0] at hb1
  clear hT lg0
  generalize ((w.alloc (.cells #[.pointer (some ⟨g, 0, none⟩)] 106)).alloc (.cells #[.int .i64 (-1)] 3)) = W1 at *
  have l2 := b2.lt
  have c2 := b2.cell 0
  simp at c2
  go_wp2_with fail
  clear l2 c2
  refine (both_any g _ _ m bars ss 0 _ hT1 (Nat.zero_le _) (by omega)).mono ?_
  rintro e w1 ⟨rfl, hb⟩
  have hT2 := hT1.next hb
  have b22 := b2.below hb b2.lt
  have b32 := b3.below hb b3.lt
  have hC := hb1.trans (hb.mono (by have := b3.lt; omega))
  clear hT1 hb b2 b3 hb1
  have heq := fun W => eqRow_no (bothF bars m ss 0) W
  have hbn := run_build_no w1
  unfold rowV
  obtain ⟨L, hL⟩ : ∃ L, (rowL (bothF bars m ss 0)).toArray = L := ⟨_, rfl⟩
  obtain ⟨Z0, hZ⟩ : ∃ L, (rowL noR).toArray = L := ⟨_, rfl⟩
  obtain ⟨q, hq⟩ : ∃ q, emptyF (bothF bars m ss 0) = q := ⟨_, rfl⟩
  rw [hL]
  rw [hL, hZ, hq] at heq
  rw [hZ] at hbn
  have HBN := Lib.hid hbn
  have HQ := Lib.hid hq
  clear hL hZ hq hbn
  cases q with
  | true =>
    have HC := Lib.hid hC
    have hr : someV bars m ss (-1) = [] := by unfold someV; rw [if_pos HQ.out]
    have HR := Lib.hid hr
    clear hT2 b22 b32 hC hr
    go_wp2_with (refine wpList_build0_run rfl 136 _ rfl HBN.out ?_)
    refine leave_all [] w1 ⟨List.nodup_nil, fun D hD => by simp at hD⟩ (v := .slice none 0 0) (fun W' => by simp [results, Try.results70, go_sem]) ?_
    exact ⟨_, rfl, by rw [HR.out]; exact ri_nil _ _, HC.out⟩
  | false =>
    have l3 := b32.lt
    have c3 := b32.cell 0
    have l2 := b22.lt
    have c2 := b22.cell 0
    simp at c3 c2
    obtain ⟨gf, cf, gr, cr, d0, d1, d4, d5, lg, hF, hR, hB, hS⟩ := hT2.open
    have hr : someV bars m ss (-1) = sbN bars (rearF m ss) bars.length := by
      unfold someV
      rw [if_neg (by rw [HQ.out]; exact Bool.false_ne_true), if_pos (by decide)]
      rfl
    have HRV := Lib.hid hr
    clear hr
    obtain ⟨h0, hh0⟩ : ∃ h, w1.heap.size = h := ⟨_, rfl⟩
    have hR0 : ∀ W, Below h0 w1 W → Gd W gr 136 (ss.length + 1) fun i => rearF m (ss.drop i) := fun W hW => hR.below hW (by have := hR.lt; omega)
    have hB0 : RR w1 h0 (.slice Ab bars.length cb) bars := by rw [← hh0]; exact hB
    have hn1 : n0 ≤ h0 := by omega
    have HR0 := Lib.hid hR0
    have HB0 := Lib.hid hB0
    have HC := Lib.hid hC
    have HH := Lib.hid hh0
    go_upto_region 6 with (refine wpList_build0_run rfl 136 _ rfl HBN.out ?_)
    clear HBN heq hF hS hB hR hR0 hB0 hC hh0
    go_wp2_with fail
    clear d1 d4 d5 l3 c3 l2 c2 b22 b32 hT2 d0 lg
    go_loopw [5, 38] (fun acc v wr => ∃ k : Nat, k ≤ bars.length ∧ v = .int .i64 (k : Int) ∧ OwnI 3 wr h0 acc (sbN bars (rearF m ss) k) ∧ Below h0 w1 wr) (fun _ v _ => bars.length - (intOf v).toNat)
    case atStart => exact ⟨0, Nat.zero_le _, rfl, OwnI.nil _ _ _, Below.refl _ _⟩
    case round =>
      obtain ⟨k, hk, rfl, hown, hb⟩ := hrel
      have hwz : h0 ≤ wr.heap.size := by have := hb.size; have := HH.out; omega
      by_cases hlt : k < bars.length
      case neg =>
        obtain rfl : k = bars.length := by omega
        have HO := Lib.hid (OwnI.ri hown)
        have HB := Lib.hid hb
        obtain ⟨Av, cv, rfl⟩ := own_slice hown
        clear hown hb
        go_wp2_with fail
        refine leave_all [] wr ⟨List.nodup_nil, fun D hD => by simp at hD⟩ (v := .slice Av (sbN bars (rearF m ss) bars.length).length cv) (fun W' => by simp [results, Try.results70, go_sem]) ?_
        exact ⟨_, rfl, by rw [HRV.out]; exact HO.out, HC.out.trans (HB.out.mono hn1)⟩
      have hlt' : (k : Int) < (bars.length : Int) := by omega
      obtain ⟨A', cap', b3, off3, hve, hA, hc⟩ := RR.cells (RS.below HB0.out hb)
      obtain ⟨rfl, hbb3⟩ := hA (by omega)
      injection hve with q1 q2 q3
      subst q1 q3
      obtain ⟨d0, d1⟩ := hc k hlt
      have hbk := HV.out.bok _ (nthB_mem hlt)
      have HSU := Lib.hid (sbN_succ bars (rearF m ss) k)
      have HLE := Lib.hid (sbN_len bars (rearF m ss) k)
      clear hA hc q2
      obtain ⟨⟨lo, hi⟩, hbb⟩ : ∃ r, nthB bars k = r := ⟨_, rfl⟩
      rw [hbb] at d0 d1 hbk HSU
      dsimp only at d0 d1
      unfold OkR at hbk
      dsimp only at hbk
      clear hbb
      have hbb4 : b3 < wr.heap.size := by omega
      have HOWN := Lib.hid hown
      have HB := Lib.hid hb
      clear hown hb
      go_upto_region 9 with fail
      have hb1 : Below wr.heap.size wr (wr.alloc (.cells #[.int .i64 lo, .int .i64 hi] 33)) := by exact bel_of
      have hown := OwnI.below HOWN.out hb1
      have hb := HB.out.trans (hb1.mono hwz)
      obtain ⟨g8, hg8⟩ : ∃ g, wr.heap.size = g := ⟨_, rfl⟩
      have b8 : BK (wr.alloc (.cells #[.int .i64 lo, .int .i64 hi] 33)) g8 #[.int .i64 lo, .int .i64 hi] 33 := BK.new' _ _ _ _ hg8
      clear HOWN HB hb1 d0 d1 hbb3 hbb4 hwz
      rw [hg8]
      clear hg8
      generalize (wr.alloc (.cells #[.int .i64 lo, .int .i64 hi] 33)) = W5 at *
      have l8 := b8.lt
      have f0 := b8.cell 0
      have f1 := b8.cell 1
      simp at f0 f1
      go_wp2_with fail
      clear l8 f0 f1 b8
      refine (meets_any gr (ss.length + 1) 0 0 136 _ ⟨lo, hi⟩ _ (HR0.out _ hb) (by omega) rfl hbk.2.1 hbk.2.2 (by show lo ≤ 1001; omega)).mono ?_
      rintro e w2 ⟨rfl, hb2⟩
      have hown2 := OwnI.below hown hb2
      have hbw := hb.trans (hb2.mono (by have := hb.size; have := HH.out; omega))
      clear hown hb hb2
      rw [List.drop_zero]
      cases hmt : mtR (rearF m ss) ⟨lo, hi⟩ with
      | false =>
        have hsu := HSU.out
        rw [hmt, if_neg Bool.false_ne_true] at hsu
        have HS2 := Lib.hid hsu
        have HO := Lib.hid hown2
        have HB := Lib.hid hbw
        clear hsu hmt hown2 hbw
        go_wp2_with fail
        go_roundw
        case rel => exact ⟨k + 1, by omega, by go_num, by rw [HS2.out]; exact HO.out, HB.out⟩
        case measure => simp [intOf]; omega
      | true =>
        have hsu := HSU.out
        rw [hmt, if_pos rfl] at hsu
        have HS2 := Lib.hid hsu
        obtain ⟨v', w9, hrun, hown', hb', hs', _⟩ := app_int hown2 (k : Int) (by have := HLE.out; omega) (by have := hbw.size; have := HH.out; omega) hbw w2.heap.size rfl
        have HO := Lib.hid hown'
        have HB := Lib.hid hb'
        have HRUN := Lib.hid hrun
        clear hsu hmt hown2 hbw hrun hown' hb' hs'
        go_wp2_with (at_builtin; refine wpList_append_run rfl (.tmp 46) (.tmp 48) 40 _ rfl HRUN.out ?_)
        go_roundw
        case rel => exact ⟨k + 1, by omega, by go_num, by rw [HS2.out]; exact HO.out, HB.out⟩
        case measure => simp [intOf]; omega
end Go.Proofs.Ytkibdciomheekaa
