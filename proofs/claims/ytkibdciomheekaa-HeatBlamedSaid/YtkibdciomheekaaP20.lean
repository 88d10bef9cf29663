/- The ways of a step that can have made a blade. -/
import Derived.Test.YtkibdciomheekaaP19
set_option linter.all false
set_option linter.unnecessarySimpa false
set_option linter.unusedSimpArgs false
set_option linter.unusedVariables false
set_option linter.unusedSectionVars false

set_option linter.all false
attribute [local go_sem] Go.Oper.semAt_some
namespace Go.Proofs.Ytkibdciomheekaa
open Go.RowKit Hp

def mkT150 (u : Nat → Value) : Array Value := #[u 0, u 1, u 2, u 3, u 4, u 5, u 6, u 7, u 8, u 9, u 10, u 11, u 12, u 13, u 14, u 15, u 16, u 17, u 18, u 19, u 20, u 21, u 22, u 23, u 24, u 25, u 26, u 27, u 28, u 29, u 30, u 31, u 32, u 33, u 34, u 35, u 36, u 37, u 38, u 39, u 40, u 41, u 42, u 43, u 44, u 45, u 46, u 47, u 48, u 49, u 50, u 51, u 52, u 53, u 54, u 55, u 56, u 57, u 58, u 59, u 60, u 61, u 62, u 63, u 64, u 65, u 66, u 67, u 68, u 69, u 70, u 71, u 72, u 73, u 74, u 75, u 76, u 77, u 78, u 79, u 80, u 81, u 82, u 83, u 84, u 85, u 86, u 87, u 88, u 89, u 90, u 91, u 92, u 93, u 94, u 95, u 96, u 97, u 98, u 99, u 100, u 101, u 102, u 103, u 104, u 105, u 106, u 107, u 108, u 109, u 110, u 111, u 112, u 113, u 114, u 115, u 116, u 117, u 118, u 119, u 120, u 121, u 122, u 123, u 124, u 125, u 126, u 127, u 128, u 129, u 130, u 131, u 132, u 133, u 134, u 135, u 136, u 137, u 138, u 139, u 140, u 141, u 142, u 143, u 144, u 145, u 146, u 147, u 148, u 149]
section
variable {P : Program} {ops : Array Oper} {Q : Exit → Act → World → Prop}
theorem wpList_mapup_run {rest : List Oper} {o : Oper} {a : Act} {w w' : World} (hgd : o.guard = none) (t : TypeId) (m k x : Operand) (ho : o.op = .mapUpdate t m k x) (hrun : (Instr.mapUpdate t (a.eval m) (a.eval k) (a.eval x)).run P w = .ok () w')
    (h : wpList P ops Q rest (a.put o.dst undef) w') : wpList P ops Q (o :: rest) a w := by
  refine wpList_plain hgd fun K hK => ?_
  unfold Oper.wp execOp
  simp only [ho, Sem.run_bind, Sem.run_pure, hrun, Result.andThen_ok]
  exact hK _ _ h
theorem wpList_look_run {rest : List Oper} {o : Oper} {a : Act} {w w' : World} (hgd : o.guard = none) (t : TypeId) (m k : Operand) (b : Bool) (v : Value) (ho : o.op = .lookup t m k b) (hrun : (Instr.lookup t (a.eval m) (a.eval k) b).run P w = .ok v w')
    (h : wpList P ops Q rest (a.put o.dst v) w') : wpList P ops Q (o :: rest) a w := by
  refine wpList_plain hgd fun K hK => ?_
  unfold Oper.wp execOp
  simp only [ho, Sem.run_bind, Sem.run_pure, hrun, Result.andThen_ok]
  exact hK _ _ h
theorem wpList_delete_run {rest : List Oper} {o : Oper} {a : Act} {w w' : World} (hgd : o.guard = none) (m k : Operand) (t kt : TypeId) (v : Value) (ho : o.op = .call { callee := .builtin .delete, args := #[m, k], argTypes := #[t, kt] })
    (hrun : (Builtin.delete_ #[t, kt] o.type #[a.eval m, a.eval k]).run P w = .ok v w') (h : wpList P ops Q rest (a.put o.dst v) w') : wpList P ops Q (o :: rest) a w := by
  refine wpList_plain hgd fun K hK => ?_
  unfold Oper.wp execOp
  simp only [ho, resolve, invoke, builtin, Sem.run_bind, Sem.run_pure, Result.andThen_ok, List.map_toArray, List.map_cons, List.map_nil, hrun]
  exact hK _ _ h
end
/-- The places of the ways of a step, those struck among the first ones. -/
def wyM (i n k : Nat) (p : Nat → Bool) : Int → Int → Option Int := fun a c => if a = i ∧ 0 ≤ c ∧ c < n ∧ (c < k → p c.toNat = true) then some c else none
theorem wyM_none (i : Nat) (p : Nat → Bool) : (fun _ _ => none) = wyM i 0 0 p := by
  funext a c
  unfold wyM
  rw [if_neg (by omega)]
theorem wyM_add (i n : Nat) (p : Nat → Bool) : updM (wyM i n 0 p) i n (some (n : Int)) = wyM i (n + 1) 0 p := by
  funext a c
  unfold updM wyM
  by_cases h : a = (i : Int) ∧ c = (n : Int)
  · rw [if_pos h, if_pos ⟨h.1, by omega, by omega, by omega⟩, h.2]
  · rw [if_neg h]
    by_cases h2 : a = (i : Int) ∧ 0 ≤ c ∧ c < n ∧ (c < (0 : Nat) → p c.toNat = true)
    · rw [if_pos h2, if_pos ⟨h2.1, h2.2.1, by omega, h2.2.2.2⟩]
    · rw [if_neg h2, if_neg]
      rintro ⟨q1, q2, q3, q4⟩
      exact h2 ⟨q1, q2, by omega, q4⟩
theorem wyM_yes (i n k : Nat) (p : Nat → Bool) (hp : p k = true) : wyM i n k p = wyM i n (k + 1) p := by
  funext a c
  unfold wyM
  by_cases h2 : a = (i : Int) ∧ 0 ≤ c ∧ c < n ∧ (c < (k : Nat) → p c.toNat = true)
  · have h3 : c < ((k + 1 : Nat) : Int) → p c.toNat = true := fun h => by
      by_cases hq : c < (k : Int)
      · exact h2.2.2.2 hq
      · obtain rfl : c = (k : Int) := by omega
        rw [Int.toNat_natCast]
        exact hp
    rw [if_pos h2, if_pos ⟨h2.1, h2.2.1, h2.2.2.1, h3⟩]
  · rw [if_neg h2, if_neg]
    rintro ⟨q1, q2, q3, q4⟩
    exact h2 ⟨q1, q2, q3, fun h => q4 (by omega)⟩
theorem wyM_no (i n k : Nat) (p : Nat → Bool) (hp : p k = false) : updM (wyM i n k p) i k none = wyM i n (k + 1) p := by
  funext a c
  unfold updM wyM
  by_cases h : a = (i : Int) ∧ c = (k : Int)
  · rw [if_pos h, if_neg]
    rintro ⟨q1, q2, q3, q4⟩
    have := q4 (by omega)
    rw [h.2, Int.toNat_natCast, hp] at this
    cases this
  · rw [if_neg h]
    by_cases h2 : a = (i : Int) ∧ 0 ≤ c ∧ c < n ∧ (c < (k : Nat) → p c.toNat = true)
    · rw [if_pos h2, if_pos ⟨h2.1, h2.2.1, h2.2.2.1, fun hc => h2.2.2.2 (by
        have : c ≠ (k : Int) := fun e => h ⟨h2.1, e⟩
        omega)⟩]
    · rw [if_neg h2, if_neg]
      rintro ⟨q1, q2, q3, q4⟩
      exact h2 ⟨q1, q2, q3, fun hc => q4 (by omega)⟩
theorem wyM_at (i n k : Nat) (p : Nat → Bool) (hk : k < n) : wyM i n n p i k = if p k = true then some (k : Int) else none := by
  unfold wyM
  by_cases h : p k = true
  · rw [if_pos h, if_pos ⟨rfl, by omega, by omega, fun _ => by rw [Int.toNat_natCast]; exact h⟩]
  · rw [if_neg h, if_neg]
    rintro ⟨_, _, _, q4⟩
    exact h (by have := q4 (by omega); rw [Int.toNat_natCast] at this; exact this)
/-- The ways up to one. -/
def swN (p : Nat → Bool) (k : Nat) : List Int := ((List.range k).filter p).map Int.ofNat
theorem swN_succ (p : Nat → Bool) (k : Nat) : swN p (k + 1) = if p k = true then swN p k ++ [(k : Int)] else swN p k := by
  unfold swN
  rw [List.range_succ, List.filter_append, List.map_append, List.filter_cons, List.filter_nil]
  split
  · rfl
  · simp
theorem swN_len (p : Nat → Bool) (k : Nat) : (swN p k).length ≤ k := by
  unfold swN
  rw [List.length_map]
  exact Nat.le_trans (List.length_filter_le _ _) (by simp)
theorem ri_putAll {W : World} {B : Nat} {Ds : List Nat} {v : Value} {l : List Int} (h : RI W B v l) (hM : Marks Ds W) : RI (putAll Ds W) (putAll Ds W).heap.size v l := by
  have hs := putAll_size Ds W
  obtain ⟨A, cap, b, off, hv, hl, hA, hc⟩ := h
  refine ⟨A, cap, b, off, hv, hl, fun hn => ?_, fun j hj => ?_⟩
  · have hj : 0 < (ofI l).length := by have := hl.1; omega
    have h0 := hc 0 hj
    have hlt : b < W.heap.size := by
      rcases Nat.lt_or_ge b W.heap.size with h | h
      · exact h
      · unfold World.cell? at h0
        rw [Array.getElem?_eq_none h, List.getElem?_eq_getElem hj] at h0
        simp at h0
    exact ⟨(hA hn).1, by rw [hs]; exact hlt⟩
  · have h0 := hc j hj
    have hne : b ∉ Ds := fun hm => by
      have h1 := hM.2 b hm
      unfold World.cell? at h0
      rw [h1, List.getElem?_eq_getElem hj] at h0
      simp at h0
    rw [← h0]
    unfold World.cell?
    rw [putAll_other Ds W b hne]
/-- What lies while the ways are asked. -/
structure SwSt (w : World) (n0 g i bm hr : Nat) (f : Int → Int → Option Int) (Fb : Row) (X : World) : Prop where
  below : Below n0 w X
  b2 : BK X n0 #[.pointer (some ⟨g, 0, none⟩)] 106
  b3 : BK X (n0 + 1) #[.int .i64 (i : Int)] 3
  mp : MPl X bm f
  row : Gd X hr 136 1 (fun _ => Fb)
  gem : n0 + 1 < bm
section
variable {w X Y : World} {n0 g i bm hr : Nat} {f f' : Int → Int → Option Int} {Fb : Row}
theorem SwSt.adm {B : Nat} (h : SwSt w n0 g i bm hr f Fb X) (ha : Adm B X Y) (hw : n0 ≤ w.heap.size) (hB : bm < B) : SwSt w n0 g i bm hr f Fb Y :=
  ⟨ha.belowOf h.below hw (by have := h.gem; omega), ha.cells h.b2, ha.cells h.b3, h.mp.adm ha hB, h.row.adm ha, h.gem⟩
theorem SwSt.next (h : SwSt w n0 g i bm hr f Fb X) (hb : Below X.heap.size X Y) (hw : n0 ≤ w.heap.size) : SwSt w n0 g i bm hr f Fb Y := h.adm (Adm.below hb) hw h.mp.lt
theorem MPl.ne_bk {c : Nat} {cs : Array Value} {t : TypeId} (h : MPl X bm f) (hb : BK X c cs t) : c ≠ bm := fun e => by
  subst e
  obtain ⟨l, clock, h1, _⟩ := h
  unfold BK at hb
  rw [h1] at hb
  cases hb
theorem SwSt.turn (h : SwSt w n0 g i bm hr f Fb X) (hg : X.grownBy Y (some bm)) (hm : MPl Y bm f') (hw : n0 ≤ w.heap.size) : SwSt w n0 g i bm hr f' Fb Y := by
  have q : ∀ k, k < bm → some k ≠ some bm := fun k hk he => by injection he with he; omega
  have := h.gem
  refine ⟨h.below.grown hg (Nat.le_trans hw h.below.size) (fun k he => by injection he with he; omega), h.b2.grown hg (q _ (by omega)), h.b3.grown hg (q _ (by omega)), hm, h.row.grown hg (fun he => ?_), h.gem⟩
  injection he with he
  obtain ⟨cs, h1, _⟩ := h.row
  rw [he] at h1
  exact h.mp.ne_bk h1 rfl
theorem SwSt.far {c : Nat} (h : SwSt w n0 g i bm hr f Fb X) (hb : bm < c) (hr' : hr < c) (u : Value) : SwSt w n0 g i bm hr f Fb (X.setCell ⟨c, 0, none⟩ u) := by
  have := h.gem
  exact ⟨Below.setCell h.below (by show n0 ≤ c; omega) _, h.b2.far (by show n0 ≠ c; omega) _, h.b3.far (by show n0 + 1 ≠ c; omega) _, h.mp.heap (Below.heap_setCell _ _ _ _ (by show bm ≠ c; omega)), h.row.far (by show hr ≠ c; omega) _, h.gem⟩
theorem Marks.turn {Ds : List Nat} (h : Marks Ds X) (hg : X.grownBy Y (some bm)) (hm : MPl X bm f) : Marks Ds Y :=
  ⟨h.1, fun D hD => by
    have h1 := h.2 D hD
    rw [hg.block D (Array.getElem?_eq_some_iff.1 h1).1 (fun e => ?_)]
    · exact h1
    · injection e with e
      subst e
      obtain ⟨l, clock, h2, _⟩ := hm
      rw [h1] at h2
      cases h2⟩
end

set_option maxHeartbeats 8000000 in
set_option maxRecDepth 100000 in
theorem someW_any (g : Nat) (vb vs : Value) (m : Rg) (bars : List Rg) (ss : List Stp) (i : Nat) (w : World) (hT : TreeM w g vb vs m bars ss) (hV : OkV bars ss) (hi : i < ss.length) :
    Calls Try.prog 70 #[.pointer (some ⟨g, 0, none⟩), .int .i64 (i : Int)] w fun e w' => ∃ v, e = .returned v ∧ RI w' w'.heap.size v (someV bars m ss i) ∧ Below w.heap.size w w' := by
  obtain ⟨As, cs, rfl⟩ := (show ∃ A c, vs = .slice A ss.length c from by obtain ⟨_, _, _, _, _, _, _, _, _, _, _, _, hS⟩ := hT.open; exact hS.slice)
  have hbl := hV.bfew
  have hsl := hV.sfew
  have HV := Lib.hid hV
  clear hV
  obtain ⟨n0, hn0⟩ : ∃ n, w.heap.size = n := ⟨_, rfl⟩
  have hw0 : n0 ≤ w.heap.size := by omega
  obtain ⟨gf, cf, gr, cr, d0, d1, d4, d5, lg, hF, hR, hB, hS⟩ := hT.open
  obtain ⟨A', cap', b4, off4, hve, hA, hc⟩ := RP.cells hS
  obtain ⟨rfl, hbb4⟩ := hA (by omega)
  injection hve with q1 q2 q3
  subst q1 q3
  obtain ⟨us, e1, hu⟩ := hc i hi
  obtain ⟨s, hs⟩ : ∃ s, nthS ss i = s := ⟨_, rfl⟩
  rw [hs] at hu
  obtain ⟨Aw, cw, rfl⟩ := hu.slice
  have lgr := hR.lt
  rw [hn0] at lg hbb4 hu lgr
  have D1 := Lib.hid d1
  have D5 := Lib.hid d5
  have E1 := Lib.hid e1
  have HUU := Lib.hid hu
  have HGR := Lib.hid hR
  clear hA hc q2 hF hB hS d0 d1 d4 d5 e1 hu hR
  rw [hn0]
  have HT := Lib.hid (fun (W : World) (h : Below n0 w W) => hT.next (W' := W) (by rw [hn0]; exact h))
  refine calls_of_wp_marks Try.func70 rfl ?_
  simp only [Try.ntmps70, List.size_toArray, List.length_cons, List.length_nil, Nat.reduceAdd, Nat.reduceSub, Array.replicate_succ, Array.replicate_zero, List.push_toArray, List.append_toArray, List.nil_append, List.cons_append]
  go_upto_region 1 with fail
  have hb1 : Below w.heap.size w ((w.alloc (.cells #[.pointer (some ⟨g, 0, none⟩)] 106)).alloc (.cells #[.int .i64 (i : Int)] 3)) := by exact bel_of
  have b2 : BK ((w.alloc (.cells #[.pointer (some ⟨g, 0, none⟩)] 106)).alloc (.cells #[.int .i64 (i : Int)] 3)) n0 #[.pointer (some ⟨g, 0, none⟩)] 106 := (BK.new' _ _ _ _ hn0).alloc _
  have b3 : BK ((w.alloc (.cells #[.pointer (some ⟨g, 0, none⟩)] 106)).alloc (.cells #[.int .i64 (i : Int)] 3)) (n0 + 1) #[.int .i64 (i : Int)] 3 := BK.new' _ _ _ _ (by simp [hn0])
  rw [hn0] at hb1
  clear hT
  generalize ((w.alloc (.cells #[.pointer (some ⟨g, 0, none⟩)] 106)).alloc (.cells #[.int .i64 (i : Int)] 3)) = W1 at *
  have l2 := b2.lt
  have c2 := b2.cell 0
  simp at c2
  go_wp2_with fail
  clear l2 c2
  refine (both_any g _ _ m bars ss 0 _ (HT.out _ hb1) (Nat.zero_le _) (by omega)).mono ?_
  rintro e w1 ⟨rfl, hb⟩
  have b22 := b2.below hb b2.lt
  have b32 := b3.below hb b3.lt
  have hC := hb1.trans (hb.mono (by have := b3.lt; omega))
  clear hb b2 b3 hb1
  have heq := fun W => eqRow_no (bothF bars m ss 0) W
  have hbn := run_build_no w1
  unfold rowV
  obtain ⟨L, hL⟩ : ∃ L, (rowL (bothF bars m ss 0)).toArray = L := ⟨_, rfl⟩
  obtain ⟨Z0, hZ⟩ : ∃ L, (rowL noR).toArray = L := ⟨_, rfl⟩
  obtain ⟨q, hq⟩ : ∃ q, emptyF (bothF bars m ss 0) = q := ⟨_, rfl⟩
  rw [hL]
  rw [hL, hZ, hq] at heq
  rw [hZ] at hbn
  have HBN := Lib.hid hbn
  have HQ := Lib.hid hq
  have HZ := Lib.hid hZ
  clear hL hZ hq hbn
  cases q with
  | true =>
    have HC := Lib.hid hC
    have hr : someV bars m ss i = [] := by unfold someV; rw [if_pos HQ.out]
    have HR := Lib.hid hr
    clear b22 b32 hC hr
    go_wp2_with (refine wpList_build0_run rfl 136 _ rfl HBN.out ?_)
    refine leave_all [] w1 ⟨List.nodup_nil, fun D hD => by simp at hD⟩ (v := .slice none 0 0) (fun W' => by simp [results, Try.results70, go_sem]) ?_
    exact ⟨_, rfl, by rw [HR.out]; exact ri_nil _ _, HC.out⟩
  | false =>
    have l3 := b32.lt
    have c3 := b32.cell 0
    simp at c3
    have hneg : decide ((i : Int) < 0) = false := decide_eq_false (by omega)
    obtain ⟨p, hp⟩ : ∃ p : Nat → Bool, p = fun k => leadsF (bothF bars m ss i) (rearF m (ss.drop (i + 1))) (nthW s k) (nthW s k).length := ⟨_, rfl⟩
    have hr : someV bars m ss i = swN p s.length := by
      unfold someV
      rw [if_neg (by rw [HQ.out]; exact Bool.false_ne_true), if_neg (by omega)]
      unfold someW swN
      rw [Int.toNat_natCast, hs, hp]
    have hos := HV.out.sok _ (nthS_mem hi)
    have hws := HV.out.wpos _ (nthS_mem hi)
    rw [hs] at hos hws
    have HRV := Lib.hid hr
    have HOS := Lib.hid hos
    have HS := Lib.hid hs
    have HP := Lib.hid hp
    clear hr hos hs hp
    obtain ⟨bm, hbm⟩ : ∃ h, w1.heap.size = h := ⟨_, rfl⟩
    have HC := Lib.hid hC
    have hgm : n0 + 1 < bm := by omega
    have hmm := fun W => run_makeMap (P := Try.prog) 115 W
    go_upto_region 14 with (refine wpList_build0_run rfl 136 _ rfl HBN.out ?_)
    clear HBN heq hneg hmm
    have hb2 : Below w1.heap.size w1 (w1.alloc (.map #[] 0)) := Below.alloc (Below.refl _ _) (Nat.le_refl _) _
    have hmp := MPl.made w1
    rw [hbm] at hmp
    have b2 := b22.below hb2 b22.lt
    have b3 := b32.below hb2 b32.lt
    have hC2 : Below n0 w (w1.alloc (.map #[] 0)) := hC.trans (hb2.mono (by omega))
    clear b22 b32 l3 c3 hC HC hb2 hbm
    generalize w1.alloc (.map #[] 0) = W2 at *
    have d1 := (hC2.cell (p := ⟨g, 1, none⟩) lg).trans D1.out
    have e1 := (hC2.cell (p := ⟨b4, off4 + i, none⟩) hbb4).trans E1.out
    have lgw : g < W2.heap.size := by have := hC2.size; omega
    have lbw : b4 < W2.heap.size := by have := hC2.size; omega
    have hi' : (i : Int) < (ss.length : Int) := by omega
    have l2 := b2.lt
    have c2 := b2.cell 0
    have l3 := b3.lt
    have c3 := b3.cell 0
    simp at c2 c3
    go_quiet (fail)
    have hbq : Below W2.heap.size W2 (W2.drewN nq) := by exact bel_of
    replace hmp := hmp.below hbq hmp.lt
    replace b2 := b2.below hbq b2.lt
    replace b3 := b3.below hbq b3.lt
    replace hC2 : Below n0 w (W2.drewN nq) := hC2.trans (hbq.mono (by omega))
    clear hbq d1 e1 lgw lbw l2 c2 l3 c3
    generalize (W2.drewN nq) = W3 at *
    rw [wyM_none i p] at hmp
    have hsl5 : s.length ≤ 5 := hws.2
    go_wp2_with fail
    go_loopw [63] (fun v wr => ∃ k : Nat, k ≤ s.length ∧ v = .int .i64 (k : Int) ∧ BK wr n0 #[.pointer (some ⟨g, 0, none⟩)] 106 ∧ BK wr (n0 + 1) #[.int .i64 (i : Int)] 3 ∧ MPl wr bm (wyM i k 0 p) ∧ Below n0 w wr) (fun v _ => s.length - (intOf v).toNat)
    case atStart => exact ⟨0, Nat.zero_le _, rfl, b2, b3, hmp, hC2⟩
    case round =>
      clear b2 b3 hmp hC2
      obtain ⟨k, hk, rfl, b2, b3, hmp, hC2⟩ := hrel
      have l2 := b2.lt
      have c2 := b2.cell 0
      have l3 := b3.lt
      have c3 := b3.cell 0
      simp at c2 c3
      by_cases hlt : k < s.length
      case pos =>
        have hlt' : (k : Int) < (s.length : Int) := by omega
        obtain ⟨W4, hrun, hm4, hg4, _⟩ := hmp.store i k k
        rw [wyM_add] at hm4
        have n2 : n0 ≠ bm := by omega
        have n3 : n0 + 1 ≠ bm := by omega
        have B2 := Lib.hid (b2.grown hg4 (by intro e; injection e with e; exact n2 e))
        have B3 := Lib.hid (b3.grown hg4 (by intro e; injection e with e; exact n3 e))
        have HM := Lib.hid hm4
        have HC := Lib.hid (hC2.grown hg4 (by have := hC2.size; omega) (fun k he => by injection he with he; omega))
        unfold plV at hrun
        have HRUN := Lib.hid hrun
        clear b2 b3 hmp hC2 hrun hm4 hg4
        go_wp2_with (refine wpList_mapup_run rfl 115 (.tmp 66) (.tmp 69) (.tmp 70) rfl HRUN.out ?_)
        go_roundw
        case rel => exact ⟨k + 1, by omega, by go_num, B2.out, B3.out, HM.out, HC.out⟩
        case measure => simp [intOf]; omega
      obtain rfl : k = s.length := by omega
      have hend : ¬ (s.length : Int) < (s.length : Int) := by omega
      go_upto_region 19 with fail
      go_wp2_with fail
      clear l2 c2 l3 c3
      refine (both_any g _ _ m bars ss i _ (HT.out _ hC2) (by omega) (by omega)).mono ?_
      rintro e w2 ⟨rfl, hb⟩
      obtain ⟨hr0, hhr⟩ : ∃ h, w2.heap.size = h := ⟨_, rfl⟩
      have hsr : (Instr.storeAt 136 (.pointer (some ⟨hr0, 0, none⟩)) (.agg (rowL (bothF bars m ss i)).toArray)).run Try.prog (w2.alloc (.cells (rowL noR).toArray 136)) = .ok () (w2.alloc (.cells (rowL (bothF bars m ss i)).toArray 136)) := by
        rw [← hhr]
        exact run_storeAt_new w2 136 (rowL noR).toArray (rowL (bothF bars m ss i)).toArray (by rw [row_size]; simp [rowL_len]) (by simp [rowL_len]) (rowL_one _)
      have hst : SwSt w n0 g i bm hr0 (wyM i s.length 0 p) (bothF bars m ss i) (w2.alloc (.cells (rowL (bothF bars m ss i)).toArray 136)) := by
        have hb3 : Below w2.heap.size w2 (w2.alloc (.cells (rowL (bothF bars m ss i)).toArray 136)) := Below.alloc (Below.refl _ _) (Nat.le_refl _) _
        have hb4 : Below wr.heap.size wr (w2.alloc (.cells (rowL (bothF bars m ss i)).toArray 136)) := hb.trans (hb3.mono hb.size)
        exact ⟨hC2.trans (hb4.mono (by have := hC2.size; omega)), b2.below hb4 b2.lt, b3.below hb4 b3.lt, hmp.below hb4 hmp.lt, Gd.new _ _ _ _ hhr, hgm⟩
      have hz := row_zeroA
      rw [HZ.out] at hsr hz
      unfold rowV
      have HFB := Lib.hid (show ∃ F, bothF bars m ss i = F from ⟨_, rfl⟩)
      obtain ⟨L5, hL5⟩ : ∃ L, (rowL (bothF bars m ss i)).toArray = L := ⟨_, rfl⟩
      rw [hL5] at hst hsr
      rw [hL5]
      have HSR := Lib.hid hsr
      have HST := Lib.hid hst
      clear hsr hst b2 b3 hmp hC2 hb hL5
      go_upto_region 20 with (refine wpList_store_run rfl 136 (.tmp 11) (.tmp 74) rfl HSR.out ?_)
      clear HSR hz
      generalize w2.alloc (.cells L5 136) = Y at *
      obtain ⟨Fb, hFb⟩ : ∃ F, bothF bars m ss i = F := ⟨_, rfl⟩
      obtain ⟨Rn, hRn⟩ : ∃ F, rearF m (ss.drop (i + 1)) = F := ⟨_, rfl⟩
      have hst := HST.out
      have hp := HP.out
      rw [hFb] at hst hp
      rw [hRn] at hp
      have HRN := Lib.hid hRn
      have HPP := Lib.hid hp
      clear HST HP HFB hFb hRn hp hhr hend hlt
      simp only [Act.put]
      have d1 := (hst.below.cell (p := ⟨g, 1, none⟩) lg).trans D1.out
      have e1 := (hst.below.cell (p := ⟨b4, off4 + i, none⟩) hbb4).trans E1.out
      have lgw : g < Y.heap.size := by have := hst.below.size; omega
      have lbw : b4 < Y.heap.size := by have := hst.below.size; omega
      have l2 := hst.b2.lt
      have c2 := hst.b2.cell 0
      have l3 := hst.b3.lt
      have c3 := hst.b3.cell 0
      simp at c2 c3
      go_quiet (fail)
      have hbq : Below Y.heap.size Y (Y.drewN nq) := by exact bel_of
      have hst2 := hst.next hbq hw0
      clear hst hbq d1 e1 lgw lbw l2 c2 l3 c3
      generalize (Y.drewN nq) = Y2 at *
      have HST := Lib.hid hst2
      clear hst2
      go_wp2_with fail
      refine wp_loop_u mkT150 (fun n u ds Y => ∃ Ds k, ds = Ds.map mk ∧ n + k = s.length ∧ (u 2 = .pointer (some ⟨n0, 0, none⟩) ∧ u 3 = .pointer (some ⟨n0 + 1, 0, none⟩) ∧ u 5 = .slice none 0 0 ∧ u 9 = .map (some bm) ∧ u 11 = .pointer (some ⟨hr0, 0, none⟩) ∧ u 83 = .slice Aw s.length cw ∧ u 84 = .int .i64 (s.length : Int) ∧ u 85 = .int .i64 (k : Int)) ∧ Marks Ds Y ∧ (∀ D ∈ Ds, n0 + 1 < D) ∧ SwSt w n0 g i bm hr0 (wyM i s.length k p) Fb Y) s.length rfl ?_ ?_
      · exact ⟨[], 0, rfl, rfl, ⟨rfl, rfl, rfl, rfl, rfl, rfl, rfl, rfl⟩, ⟨List.nodup_nil, fun D hD => by simp at hD⟩, fun D hD => by simp at hD, HST.out⟩
      clear HST
      rintro n u ds Y ⟨Ds, k, rfl, hnk, ⟨u2, u3, u5, u9, u11, u83, u84, u85⟩, hMk, hDs, hst⟩ K hK
      simp only [mkT150, u2, u3, u5, u9, u11, u83, u84, u85]
      clear u2 u3 u5 u9 u11 u83 u84 u85
      have HMK := Lib.hid hMk
      have HDS := Lib.hid hDs
      clear hMk hDs
      cases n with
      | zero =>
        obtain rfl : k = s.length := by omega
        clear hK
        have d1 := (hst.below.cell (p := ⟨g, 1, none⟩) lg).trans D1.out
        have e1 := (hst.below.cell (p := ⟨b4, off4 + i, none⟩) hbb4).trans E1.out
        have lgw : g < Y.heap.size := by have := hst.below.size; omega
        have lbw : b4 < Y.heap.size := by have := hst.below.size; omega
        have l2 := hst.b2.lt
        have c2 := hst.b2.cell 0
        have l3 := hst.b3.lt
        have c3 := hst.b3.cell 0
        simp at c2 c3
        go_upto_region 31 with fail
        go_quiet (fail)
        have hbq : Below Y.heap.size Y (Y.drewN nq) := by exact bel_of
        have hst2 := hst.next hbq hw0
        have hmk2 := HMK.out.next hbq
        clear hst hbq d1 e1 lgw lbw l2 c2 l3 c3 HMK
        generalize (Y.drewN nq) = Y3 at *
        have HST := Lib.hid hst2
        have HMK := Lib.hid hmk2
        obtain ⟨h9, hh9⟩ : ∃ h, Y3.heap.size = h := ⟨_, rfl⟩
        have hn9 : n0 ≤ h9 := by have := hst2.below.size; omega
        have HH9 := Lib.hid hh9
        clear hst2 hmk2 hh9
        go_wp2_with fail
        refine wp_loop_u mkT150 (fun n u ds V => ∃ Ds k acc, ds = Ds.map mk ∧ n + k = s.length ∧ (u 3 = .pointer (some ⟨n0 + 1, 0, none⟩) ∧ u 5 = acc ∧ u 9 = .map (some bm) ∧ u 126 = .int .i64 (s.length : Int) ∧ u 127 = .int .i64 (k : Int)) ∧ Marks Ds V ∧ (∀ D ∈ Ds, n0 + 1 < D) ∧ SwSt w n0 g i bm hr0 (wyM i s.length s.length p) Fb V ∧ OwnI 3 V h9 acc (swN p k) ∧ h9 ≤ V.heap.size) s.length rfl ?_ ?_
        · exact ⟨Ds, 0, _, rfl, rfl, ⟨rfl, rfl, rfl, rfl, rfl⟩, HMK.out, HDS.out, HST.out, OwnI.nil _ _ _, by rw [HH9.out]; exact Nat.le_refl _⟩
        clear HST HMK HDS
        rintro n u6 ds V ⟨Ds, k, acc, rfl, hnk2, ⟨u3, u5, u9, u126, u127⟩, hMk, hDs, hst, hown, h9V⟩ K hK
        simp only [mkT150, u3, u5, u9, u126, u127]
        clear u3 u5 u9 u126 u127
        have HMK := Lib.hid hMk
        have HDS := Lib.hid hDs
        clear hMk hDs
        cases n with
        | zero =>
          obtain rfl : k = s.length := by omega
          have HO := Lib.hid (OwnI.ri hown)
          have HST := Lib.hid hst
          obtain ⟨Av, cv, rfl⟩ := own_slice hown
          clear hown hst hK
          go_wp2_with fail
          refine leave_all Ds V HMK.out (v := .slice Av (swN p s.length).length cv) (fun W' => by simp [results, Try.results70, go_sem]) ?_
          have hbp : Below n0 w (putAll Ds V) := putAll_below Ds V HST.out.below fun D hd => by have := HDS.out D hd; omega
          exact ⟨_, rfl, by rw [HRV.out]; exact ri_putAll HO.out HMK.out, hbp⟩
        | succ n =>
          have hk : k < s.length := by omega
          have hk' : (k : Int) < (s.length : Int) := by omega
          have HK := Lib.hid hK
          clear hK
          have l3 := hst.b3.lt
          have c3 := hst.b3.cell 0
          simp at c3
          have hlk := hst.mp.looks i k
          rw [wyM_at i s.length k p hk] at hlk
          have hsu := swN_succ p k
          have hle := swN_len p k
          unfold plV at hlk
          cases hpk : p k with
          | false =>
            rw [hpk, if_neg Bool.false_ne_true] at hlk hsu
            have HLK := Lib.hid hlk
            rw [← hsu] at hown
            have HOWN := Lib.hid hown
            have HST := Lib.hid hst
            clear hlk hsu hown hst hpk
            go_wp2_with (refine wpList_look_run rfl 115 (.tmp 131) (.tmp 134) true _ rfl HLK.out ?_)
            refine HK.out n _ _ (by omega) rfl ⟨Ds, k + 1, acc, rfl, by omega, ⟨rfl, rfl, rfl, rfl, ?_⟩, HMK.out, HDS.out, HST.out, HOWN.out, h9V⟩
            simp
          | true =>
            rw [hpk, if_pos rfl] at hlk hsu
            have HLK := Lib.hid hlk
            obtain ⟨g5, hg5⟩ : ∃ g, V.heap.size = g := ⟨_, rfl⟩
            have hb1 : Below V.heap.size V (V.alloc (.cells #[.int .i64 (k : Int)] 3)) := by exact bel_of
            have b5 : BK (V.alloc (.cells #[.int .i64 (k : Int)] 3)) g5 #[.int .i64 (k : Int)] 3 := BK.new' _ _ _ _ hg5
            obtain ⟨A, c, hac, hlc, hA0, v', w9, hrun, hown', hbel, hb9⟩ := app_full_i int_info int_slice (OwnI.below hown hb1) b5 (by omega) (by have := hb1.size; omega)
            have hb79 : Below V.heap.size V w9 := hb1.trans (hb9.mono hb1.size)
            rw [← hsu] at hown'
            have HOWN := Lib.hid hown'
            have HST := Lib.hid (hst.next hb79 hw0)
            have HM9 := Lib.hid (HMK.out.next hb79)
            have h9W : h9 ≤ w9.heap.size := Nat.le_trans h9V hb79.size
            have HRUN := Lib.hid hrun
            subst hac
            clear hlk hsu hown hst hpk hrun hown' hbel hb9 hb79 hb1 b5
            obtain ⟨nl, hnl⟩ : ∃ n, (swN p k).length = n := ⟨_, rfl⟩
            rw [hnl] at hlc HRUN hle
            rw [hnl]
            clear hnl
            have hnc : (nl : Int) ≤ (c : Int) := by omega
            cases A with
            | none =>
              obtain rfl := hA0 rfl
              obtain rfl : nl = 0 := by omega
              go_wp2_with (first | refine wpList_look_run rfl 115 (.tmp 131) (.tmp 134) true _ rfl HLK.out ?_ | (at_builtin; refine wpList_append_run rfl (.tmp 144) (.tmp 146) 40 _ rfl HRUN.out ?_))
              refine HK.out n _ _ (by omega) rfl ⟨Ds, k + 1, v', rfl, by omega, ⟨rfl, rfl, rfl, rfl, ?_⟩, HM9.out, HDS.out, HST.out, HOWN.out, h9W⟩
              simp
            | some a5 =>
              go_wp2_with (first | refine wpList_look_run rfl 115 (.tmp 131) (.tmp 134) true _ rfl HLK.out ?_ | (at_builtin; refine wpList_append_run rfl (.tmp 144) (.tmp 146) 40 _ rfl HRUN.out ?_))
              refine HK.out n _ _ (by omega) rfl ⟨Ds, k + 1, v', rfl, by omega, ⟨rfl, rfl, rfl, rfl, ?_⟩, HM9.out, HDS.out, HST.out, HOWN.out, h9W⟩
              simp
      | succ n =>
        have hk : k < s.length := by omega
        have hk' : (k : Int) < (s.length : Int) := by omega
        have HK := Lib.hid hK
        clear hK
        obtain ⟨A', cap', b5, off5, hve, hA, hc⟩ := RW.cells HUU.out
        obtain ⟨rfl, hbb5⟩ := hA (by omega)
        injection hve with q1 q2 q3
        subst q1 q3
        obtain ⟨uw, d2w, hv⟩ := hc k hk
        have d2 := (hst.below.cell (p := ⟨b5, off5 + k, none⟩) hbb5).trans d2w
        have hoy := HOS.out _ (nthW_mem hk)
        have hpk : p k = leadsF Fb Rn (nthW s k) (nthW s k).length := by rw [HPP.out]
        obtain ⟨y, hy⟩ : ∃ y, nthW s k = y := ⟨_, rfl⟩
        rw [hy] at hv hoy hpk
        obtain ⟨Ay, cy, rfl⟩ := hv.slice
        have HOY := Lib.hid hoy
        have HPK := Lib.hid hpk
        have HVY := Lib.hid (show RK w n0 (.slice Ay y.length cy) y from hv)
        clear hA hc q2 hy hv hoy d2w hpk
        have hbb6 : b5 < Y.heap.size := by have := hst.below.size; omega
        have HST := Lib.hid hst
        obtain ⟨q, hq⟩ : ∃ q, Y.heap.size = q := ⟨_, rfl⟩
        clear hst
        go_upto_region 24 with fail
        have hb1 : Below Y.heap.size Y ((Y.alloc (.cells #[.slice Ay y.length cy] 28)).alloc (.cells #[.bool false] 4)) := by exact bel_of
        have b13 : BK ((Y.alloc (.cells #[.slice Ay y.length cy] 28)).alloc (.cells #[.bool false] 4)) q #[.slice Ay y.length cy] 28 := (BK.new' _ _ _ _ hq).alloc _
        have b14 : BK ((Y.alloc (.cells #[.slice Ay y.length cy] 28)).alloc (.cells #[.bool false] 4)) (q + 1) #[.bool false] 4 := BK.new' _ _ _ _ (by simp [hq])
        have hst1 := HST.out.next hb1 hw0
        have hmk1 := HMK.out.next hb1
        have hs1 : ((Y.alloc (.cells #[.slice Ay y.length cy] 28)).alloc (.cells #[.bool false] 4)).heap.size = q + 2 := by simp [hq]
        have hbq : bm < q := by have := HST.out.mp.lt; omega
        have hrq : hr0 < q := by have := HST.out.row.lt; omega
        clear hb1 HST HMK hbb6 d2 hq
        generalize ((Y.alloc (.cells #[.slice Ay y.length cy] 28)).alloc (.cells #[.bool false] 4)) = Y1 at *
        have l13 := b13.lt
        have c13 := b13.cell 0
        simp at c13
        have HS1 := Lib.hid hs1
        clear hs1
        go_wp2_with fail
        clear l13 c13
        refine (spans_any (.slice Ay y.length cy) _).mono ?_
        rintro e w3 ⟨rfl, b20, hb⟩
        have hst := hst1.next hb hw0
        have hmk := hmk1.next hb
        have b24 := b14.below hb b14.lt
        have hs2 := hb.size
        have l20 := b20.lt
        rw [HS1.out] at b20 hs2 l20 ⊢
        clear hst1 hmk1 hb b13 b14 HS1
        have HMK := Lib.hid hmk
        have HST := Lib.hid hst
        have HB4 := Lib.hid b24
        have hDp : ∀ D ∈ Ds, D < w3.heap.size := fun D hD => (Array.getElem?_eq_some_iff.1 (hmk.2 D hD)).1
        obtain ⟨B, hB2⟩ : ∃ B, w3.heap.size = B := ⟨_, rfl⟩
        rw [hB2] at hDp l20
        have HDP := Lib.hid hDp
        have H20 := Lib.hid b20
        clear hmk hst hDp b20 hs2 b24
        go_wp2_with fail
        refine wp_range_a (gf := 95) (lb := #[.pointer (some ⟨q + 2, 0, none⟩)]) rfl egSpans (spans_iter (fun _ => False) (q + 2) (.slice Ay y.length cy) y HOY.out) (fun _ => rfl)
          (fun j V => SwSt w n0 g i bm hr0 (wyM i s.length k p) Fb V ∧ BK V (q + 2) #[.slice Ay y.length cy] 28 ∧ Marks Ds V ∧ B ≤ V.heap.size ∧ BK V (q + 1) #[.bool (leadsF Fb Rn y j)] 4)
          (fun _ _ _ => False)
          (fun tm j a' V => (SwSt w n0 g i bm hr0 (wyM i s.length k p) Fb V ∧ BK V (q + 2) #[.slice Ay y.length cy] 28 ∧ Marks Ds V ∧ B ≤ V.heap.size ∧ BK V (q + 1) #[.bool (leadsF Fb Rn y j)] 4) ∧ ∃ b1 b2, B ≤ b1 ∧ B ≤ b2 ∧ BK V b1 #[.int .i64 (kFrom y j).lo, .int .i64 (kFrom y j).hi] 33 ∧ BK V b2 #[.int .i64 (kTo y j).lo, .int .i64 (kTo y j).hi] 33 ∧
            a' = { tmps := (((tm.setIfInBounds 92 (rV (kFrom y j))).setIfInBounds 93 (rV (kTo y j))).setIfInBounds 15 (.pointer (some ⟨b1, 0, none⟩))).setIfInBounds 16 (.pointer (some ⟨b2, 0, none⟩)), defers := [] })
          ?rounds ?mem ?start ?done ?stop
        case stop => rintro D c' j V hD hj hf; exact hf.elim
        case mem =>
          rintro j V ⟨hI, hb, _⟩
          exact ⟨hb, (RS.below HVY.out hI.below).more (by have := hI.below.size; omega)⟩
        case start => exact ⟨HST.out, H20.out, HMK.out, by rw [hB2]; exact Nat.le_refl _, HB4.out⟩
        case done =>
          rintro D V hD ⟨hI, _, hM, hz, hb4⟩ hDV
          have hDn : D ∉ Ds := fun hm => by have := HDP.out D hm; omega
          have hM2 : Marks (D :: Ds) V := ⟨List.nodup_cons.2 ⟨hDn, hM.1⟩, fun D' h' => by
            rcases List.mem_cons.1 h' with rfl | h'
            · exact hDV
            · exact hM.2 D' h'⟩
          have hD3 : ∀ D' ∈ D :: Ds, n0 + 1 < D' := fun D' h' => by
            rcases List.mem_cons.1 h' with rfl | h'
            · omega
            · exact HDS.out D' h'
          rw [← HPK.out] at hb4
          have l4 := hb4.lt
          have c4 := hb4.cell 0
          have l3 := hI.b3.lt
          have c3 := hI.b3.cell 0
          simp at c3 c4
          have HI := Lib.hid hI
          have HM2 := Lib.hid hM2
          have HD3 := Lib.hid hD3
          clear hI hM hz hDV hDn hM2 hD3 hb4
          cases hpk : p k with
          | true =>
            rw [hpk] at c4
            have hyes := wyM_yes i s.length k p hpk
            have HY := Lib.hid hyes
            clear hyes hpk
            go_wp2_with fail
            refine HK.out n _ _ (by omega) rfl ⟨D :: Ds, k + 1, rfl, by omega, ⟨rfl, rfl, rfl, rfl, rfl, rfl, rfl, ?_⟩, HM2.out, HD3.out, by rw [← HY.out]; exact HI.out⟩
            simp
          | false =>
            rw [hpk] at c4
            have hno := wyM_no i s.length k p hpk
            obtain ⟨W5, hrun, hm5, hg5, _⟩ := HI.out.mp.drop i k (ty := 0)
            rw [hno] at hm5
            have HST5 := Lib.hid (HI.out.turn hg5 hm5 hw0)
            have HM5 := Lib.hid (HM2.out.turn hg5 HI.out.mp)
            unfold plV at hrun
            have HRUN := Lib.hid hrun
            clear hno hpk hrun hm5 hg5
            go_wp2_with (refine wpList_delete_run rfl (.tmp 112) (.tmp 115) 115 118 _ rfl HRUN.out ?_)
            refine HK.out n _ _ (by omega) rfl ⟨D :: Ds, k + 1, rfl, by omega, ⟨rfl, rfl, rfl, rfl, rfl, rfl, rfl, ?_⟩, HM5.out, HD3.out, HST5.out⟩
            simp
        case rounds =>
          rw [hB2]
          have hn0B : n0 ≤ B := by have := HST.out.below.size; omega
          have hbmB : bm < B := by omega
          refine ⟨?_, fun c i A A' h _ => h, ?_, fun i V h => h.2.2.2.1, ?_, ?_⟩
          · rintro j V V' ⟨q1, q2, q3, q4, q5⟩ ha
            exact ⟨q1.adm ha hw0 hbmB, ha.cells q2, q3.adm ha HDP.out, Nat.le_trans q4 ha.size, ha.cells q5⟩
          · rintro j a V V' ⟨⟨q1, q2, q3, q4, q5⟩, b1, b2, h1, h2, h3, h4, h5⟩ ha
            exact ⟨⟨q1.adm ha hw0 hbmB, ha.cells q2, q3.adm ha HDP.out, Nat.le_trans q4 ha.size, ha.cells q5⟩, b1, b2, h1, h2, ha.cells h3, ha.cells h4, h5⟩
          · rintro lq j V hj ⟨q1, q2, q3, q4, q5⟩ K2 hK2
            have hb1 : Below V.heap.size V ((V.alloc (.cells #[.int .i64 (kFrom y j).lo, .int .i64 (kFrom y j).hi] 33)).alloc (.cells #[.int .i64 (kTo y j).lo, .int .i64 (kTo y j).hi] 33)) := by exact bel_of
            have hK3' := hK2 _ ((V.alloc (.cells #[.int .i64 (kFrom y j).lo, .int .i64 (kFrom y j).hi] 33)).alloc (.cells #[.int .i64 (kTo y j).lo, .int .i64 (kTo y j).hi] 33)) ((Kept.refl _ _ _).below hb1)
              ⟨⟨q1.next hb1 hw0, q2.below hb1 q2.lt, q3.next hb1, Nat.le_trans q4 hb1.size, q5.below hb1 q5.lt⟩, V.heap.size, V.heap.size + 1, q4, by omega, (BK.new _ _ _).alloc _, BK.new' _ _ _ _ (by simp), rfl⟩
            simp only [List.setIfInBounds_toArray, List.set_cons_succ, List.set_cons_zero] at hK3'
            have HK4' := Lib.hid hK3'
            clear hK3' hK2 q1 q2 q3 hb1 q5
            unfold rV
            gi_wp2_with fail
            exact HK4'.out
          · rintro lq j a' V hj hlq ⟨r, hr⟩ ⟨⟨q1, q2, q3, q4, q5⟩, b1, b2, h1, h2, h3, h4, rfl⟩
            simp only [List.setIfInBounds_toArray, List.set_cons_succ, List.set_cons_zero]
            have hfr := kFrom_rng HOY.out hj
            have hto := kTo_rng HOY.out hj
            have hls := leadsF_succ Fb Rn y j
            obtain ⟨⟨f1, f2⟩, hkf⟩ : ∃ r, kFrom y j = r := ⟨_, rfl⟩
            obtain ⟨⟨t1, t2⟩, hkt⟩ : ∃ r, kTo y j = r := ⟨_, rfl⟩
            rw [hkf] at h3 hfr hls
            rw [hkt] at h4 hto hls
            dsimp only at h3 h4 hfr hto
            obtain ⟨le, hle⟩ : ∃ l, leadsF Fb Rn y j = l := ⟨_, rfl⟩
            rw [hle] at q5 hls
            have LS := Lib.hid hls
            have R1 := Lib.hid q1
            have R2 := Lib.hid q2
            have R3 := Lib.hid q3
            have BC := Lib.hid q5
            have hbV := q1.below
            have lgV : g < V.heap.size := by have := hbV.size; omega
            have c5V := (hbV.cell (p := ⟨g, 5, none⟩) lg).trans D5.out
            have HGV := Lib.hid (HGR.out.below hbV lgr)
            have x0 := h3.cell 0
            have x1 := h3.cell 1
            have y0 := h4.cell 0
            have y1 := h4.cell 1
            have z2 := q1.b2.cell 0
            have z3 := q1.b3.cell 0
            have z4 := q5.cell 0
            have lx := h3.lt
            have ly := h4.lt
            have lz2 := q1.b2.lt
            have lz3 := q1.b3.lt
            have lz4 := q5.lt
            simp at x0 x1 y0 y1 z2 z3 z4
            have hi1 : (i : Int) + 1 < ((ss.length + 1 : Nat) : Int) := by omega
            have hi2 : (i : Int) + 1 < (ss.length : Int) + 1 := by omega
            have wi : IntKind.i64.wrap ((i : Int) + 1) = (i : Int) + 1 := by rw [IntKind.wrap_i64]; omega
            have wi2 : ((i : Int) + 1).toNat = i + 1 := by omega
            have hd1 : Below V.heap.size V V.drew := Below.drew (Below.refl _ _)
            have HX : ∀ X2, Below V.heap.size V X2 → ((X2.cell? ⟨n0, 0, none⟩ = some (.pointer (some ⟨g, 0, none⟩)) ∧ X2.cell? ⟨n0 + 1, 0, none⟩ = some (.int .i64 (i : Int))) ∧ (X2.cell? ⟨q + 1, 0, none⟩ = some (.bool le) ∧ X2.cell? ⟨g, 5, none⟩ = some (.slice (some ⟨gr, 0, none⟩) (ss.length + 1) cr))) ∧ ((X2.cell? ⟨b1, 0, none⟩ = some (.int .i64 f1) ∧ X2.cell? ⟨b1, 1, none⟩ = some (.int .i64 f2)) ∧ (X2.cell? ⟨b2, 0, none⟩ = some (.int .i64 t1) ∧ X2.cell? ⟨b2, 1, none⟩ = some (.int .i64 t2))) := fun X2 hX =>
              ⟨⟨⟨(hX.cell (p := ⟨n0, 0, none⟩) lz2).trans z2, (hX.cell (p := ⟨n0 + 1, 0, none⟩) lz3).trans z3⟩, (hX.cell (p := ⟨q + 1, 0, none⟩) lz4).trans z4, (hX.cell (p := ⟨g, 5, none⟩) lgV).trans c5V⟩, ⟨(hX.cell (p := ⟨b1, 0, none⟩) lx).trans x0, (hX.cell (p := ⟨b1, 1, none⟩) lx).trans x1⟩, (hX.cell (p := ⟨b2, 0, none⟩) ly).trans y0, (hX.cell (p := ⟨b2, 1, none⟩) ly).trans y1⟩
            clear h3 h4 hkf hkt hr hls hle q1 q2 q3 q5 hbV lgV c5V x0 x1 y0 y1 z2 z3 z4 lx ly lz2 lz3 lz4
            cases le with
            | true =>
              gi_wp2_with fail
              refine round_any [0, 1, 2, 4, 5, 6, 7, 8, 9, 10, 11, 12, 14, 15] (Below V.heap.size V) mixed (by kernel_rfl) ?_ ?_
              · rintro ⟨_, _, hx⟩; exact hx
              (refine any_take 0 ?_ (by rfl) (by kernel_rfl) (fun _ _ _ _ _ hx => hx) (.inl ⟨by rfl, ?_⟩) hd1 ?_; rotate_left; (intro X hX; obtain ⟨r1, r2⟩ := HX X hX; clear hX; go_simp; rfl); simp only [List.getElem_toArray, List.getElem_cons_succ, List.getElem_cons_zero, Act.put, List.setIfInBounds_toArray, List.set_cons_succ, List.set_cons_zero])
              (refine any_take 1 ?_ (by rfl) (by kernel_rfl) (fun _ _ _ _ _ hx => hx) (.inl ⟨by rfl, ?_⟩) hd1 ?_; rotate_left; (intro X hX; obtain ⟨r1, r2⟩ := HX X hX; clear hX; go_simp; rfl); simp only [List.getElem_toArray, List.getElem_cons_succ, List.getElem_cons_zero, Act.put, List.setIfInBounds_toArray, List.set_cons_succ, List.set_cons_zero])
              (refine any_take 2 undef (by rfl) (by kernel_rfl) (fun _ _ _ _ _ hx => hx) (.inr ⟨by rfl, by rfl⟩) hd1 ?_; simp only [List.getElem_toArray, List.getElem_cons_succ, List.getElem_cons_zero, Act.put, List.setIfInBounds_toArray, List.set_cons_succ, List.set_cons_zero])
              (refine any_skip1 (i := 3) (by kernel_rfl) (by rfl) (by rfl) hd1 ?_; simp only [List.getElem_toArray, List.getElem_cons_succ, List.getElem_cons_zero, Act.put, List.setIfInBounds_toArray, List.set_cons_succ, List.set_cons_zero])
              (refine any_take 4 undef (by rfl) (by kernel_rfl) (fun _ _ _ _ _ hx => hx) (.inr ⟨by rfl, by rfl⟩) hd1 ?_; simp only [List.getElem_toArray, List.getElem_cons_succ, List.getElem_cons_zero, Act.put, List.setIfInBounds_toArray, List.set_cons_succ, List.set_cons_zero])
              (refine any_take 5 undef (by rfl) (by kernel_rfl) (fun _ _ _ _ _ hx => hx) (.inr ⟨by rfl, by rfl⟩) hd1 ?_; simp only [List.getElem_toArray, List.getElem_cons_succ, List.getElem_cons_zero, Act.put, List.setIfInBounds_toArray, List.set_cons_succ, List.set_cons_zero])
              (refine any_take 6 undef (by rfl) (by kernel_rfl) (fun _ _ _ _ _ hx => hx) (.inr ⟨by rfl, by rfl⟩) hd1 ?_; simp only [List.getElem_toArray, List.getElem_cons_succ, List.getElem_cons_zero, Act.put, List.setIfInBounds_toArray, List.set_cons_succ, List.set_cons_zero])
              (refine any_take 7 undef (by rfl) (by kernel_rfl) (fun _ _ _ _ _ hx => hx) (.inr ⟨by rfl, by rfl⟩) hd1 ?_; simp only [List.getElem_toArray, List.getElem_cons_succ, List.getElem_cons_zero, Act.put, List.setIfInBounds_toArray, List.set_cons_succ, List.set_cons_zero])
              (refine any_take 8 undef (by rfl) (by kernel_rfl) (fun _ _ _ _ _ hx => hx) (.inr ⟨by rfl, by rfl⟩) hd1 ?_; simp only [List.getElem_toArray, List.getElem_cons_succ, List.getElem_cons_zero, Act.put, List.setIfInBounds_toArray, List.set_cons_succ, List.set_cons_zero])
              (refine any_take 9 undef (by rfl) (by kernel_rfl) (fun _ _ _ _ _ hx => hx) (.inr ⟨by rfl, by rfl⟩) hd1 ?_; simp only [List.getElem_toArray, List.getElem_cons_succ, List.getElem_cons_zero, Act.put, List.setIfInBounds_toArray, List.set_cons_succ, List.set_cons_zero])
              (refine any_take 10 undef (by rfl) (by kernel_rfl) (fun _ _ _ _ _ hx => hx) (.inr ⟨by rfl, by rfl⟩) hd1 ?_; simp only [List.getElem_toArray, List.getElem_cons_succ, List.getElem_cons_zero, Act.put, List.setIfInBounds_toArray, List.set_cons_succ, List.set_cons_zero])
              (refine any_take 11 undef (by rfl) (by kernel_rfl) (fun _ _ _ _ _ hx => hx) (.inr ⟨by rfl, by rfl⟩) hd1 ?_; simp only [List.getElem_toArray, List.getElem_cons_succ, List.getElem_cons_zero, Act.put, List.setIfInBounds_toArray, List.set_cons_succ, List.set_cons_zero])
              (refine any_take 12 undef (by rfl) (by kernel_rfl) (fun _ _ _ _ _ hx => hx) (.inr ⟨by rfl, by rfl⟩) hd1 ?_; simp only [List.getElem_toArray, List.getElem_cons_succ, List.getElem_cons_zero, Act.put, List.setIfInBounds_toArray, List.set_cons_succ, List.set_cons_zero])
              (refine any_skip1 (i := 13) (by kernel_rfl) (by rfl) (by rfl) hd1 ?_; simp only [List.getElem_toArray, List.getElem_cons_succ, List.getElem_cons_zero, Act.put, List.setIfInBounds_toArray, List.set_cons_succ, List.set_cons_zero])
              (refine any_take 14 undef (by rfl) (by kernel_rfl) (fun _ _ _ _ _ hx => hx) (.inr ⟨by rfl, by rfl⟩) hd1 ?_; simp only [List.getElem_toArray, List.getElem_cons_succ, List.getElem_cons_zero, Act.put, List.setIfInBounds_toArray, List.set_cons_succ, List.set_cons_zero])
              (refine any_take 15 ?_ (by rfl) (by kernel_rfl) (fun _ _ _ _ _ hx => hx) (.inl ⟨by rfl, ?_⟩) hd1 ?_; rotate_left; (intro X hX; obtain ⟨r1, r2⟩ := HX X hX; clear hX; go_simp; rfl); simp only [List.getElem_toArray, List.getElem_cons_succ, List.getElem_cons_zero, Act.put, List.setIfInBounds_toArray, List.set_cons_succ, List.set_cons_zero])
              refine any_run1 (i := 16) (by kernel_rfl) (by rfl) (by kernel_rfl) ?_
              intro K5 hK5
              have zc := (BC.out.below hd1 BC.out.lt).cell 0
              have zf := (BC.out.below hd1 BC.out.lt).frozen 0
              have zl := (BC.out.below hd1 BC.out.lt).lt
              simp at zc
              go_wp2_with fail
              refine hK5 _ _ (fun hx => (Bool.false_ne_true (hx.symm.trans (by kernel_rfl))).elim) ?_
              clear hK5 K5 zc zf zl
              refine any_done (by kernel_rfl) ?_
              gi_wp2_with fail
              have s1 := (R1.out.next hd1 hw0).far (c := q + 1) (by omega) (by omega) (.bool true)
              have s2 := (R2.out.below hd1 R2.out.lt).far (p := ⟨q + 1, 0, none⟩) (by show q + 2 ≠ q + 1; omega) (.bool true)
              have s3 := (R3.out.next hd1).set (gt := q + 1) 0 (.bool true)
              have s5 := (BC.out.below hd1 BC.out.lt).set 0 (.bool true)
              simp at s5
              have hkq : Kept (fun _ => False) B V (V.drew.setCell ⟨q + 1, 0, none⟩ (.bool true)) := ((Kept.refl _ _ _).below hd1).setCell (.inl (by show q + 1 < B; omega)) _
              refine ⟨hkq, s1, s2, s3, Nat.le_trans q4 hkq.1, ?_⟩
              rw [LS.out, Bool.true_or]
              exact s5
            | false =>
              gi_wp2_with fail
              refine round_any [0, 1, 2, 4, 5, 6, 7, 8, 9, 10, 11, 12, 14, 15] (Below V.heap.size V) mixed (by kernel_rfl) ?_ ?_
              · rintro ⟨_, _, hx⟩; exact hx
              (refine any_take 0 ?_ (by rfl) (by kernel_rfl) (fun _ _ _ _ _ hx => hx) (.inl ⟨by rfl, ?_⟩) hd1 ?_; rotate_left; (intro X hX; obtain ⟨r1, r2⟩ := HX X hX; clear hX; go_simp; rfl); simp only [List.getElem_toArray, List.getElem_cons_succ, List.getElem_cons_zero, Act.put, List.setIfInBounds_toArray, List.set_cons_succ, List.set_cons_zero])
              (refine any_take 1 ?_ (by rfl) (by kernel_rfl) (fun _ _ _ _ _ hx => hx) (.inl ⟨by rfl, ?_⟩) hd1 ?_; rotate_left; (intro X hX; obtain ⟨r1, r2⟩ := HX X hX; clear hX; go_simp; rfl); simp only [List.getElem_toArray, List.getElem_cons_succ, List.getElem_cons_zero, Act.put, List.setIfInBounds_toArray, List.set_cons_succ, List.set_cons_zero])
              (refine any_take 2 ?_ (by rfl) (by kernel_rfl) (fun _ _ _ _ _ hx => hx) (.inl ⟨by rfl, ?_⟩) hd1 ?_; rotate_left; (intro X hX; obtain ⟨r1, r2⟩ := HX X hX; clear hX; go_simp; rfl); simp only [List.getElem_toArray, List.getElem_cons_succ, List.getElem_cons_zero, Act.put, List.setIfInBounds_toArray, List.set_cons_succ, List.set_cons_zero])
              refine any_run1 (i := 3) (by kernel_rfl) (by rfl) (by kernel_rfl) ?_
              intro K5 hK5
              go_wp2_with fail
              refine (meets_any hr0 1 0 0 136 _ ⟨f1, f2⟩ _ (R1.out.next hd1 hw0).row (by omega) rfl hfr.1 hfr.2.1 hfr.2.2).mono ?_
              rintro e W2 ⟨rfl, hb⟩
              have hd2 : Below V.heap.size V W2 := hd1.trans hb
              clear hb
              refine hK5 _ _ (fun _ => hd2) ?_
              clear hK5 K5
              cases hmt : mtR Fb ⟨f1, f2⟩ with
              | false =>
                have HMT := Lib.hid hmt
                clear hmt
                (refine any_take 4 ?_ (by rfl) (by kernel_rfl) (fun _ _ _ _ _ hx => hx) (.inl ⟨by rfl, ?_⟩) hd2 ?_; rotate_left; (intro X hX; obtain ⟨r1, r2⟩ := HX X hX; clear hX; go_simp; rfl); simp only [List.getElem_toArray, List.getElem_cons_succ, List.getElem_cons_zero, Act.put, List.setIfInBounds_toArray, List.set_cons_succ, List.set_cons_zero])
                (refine any_take 5 undef (by rfl) (by kernel_rfl) (fun _ _ _ _ _ hx => hx) (.inr ⟨by rfl, by rfl⟩) hd2 ?_; simp only [List.getElem_toArray, List.getElem_cons_succ, List.getElem_cons_zero, Act.put, List.setIfInBounds_toArray, List.set_cons_succ, List.set_cons_zero])
                (refine any_take 6 undef (by rfl) (by kernel_rfl) (fun _ _ _ _ _ hx => hx) (.inr ⟨by rfl, by rfl⟩) hd2 ?_; simp only [List.getElem_toArray, List.getElem_cons_succ, List.getElem_cons_zero, Act.put, List.setIfInBounds_toArray, List.set_cons_succ, List.set_cons_zero])
                (refine any_take 7 undef (by rfl) (by kernel_rfl) (fun _ _ _ _ _ hx => hx) (.inr ⟨by rfl, by rfl⟩) hd2 ?_; simp only [List.getElem_toArray, List.getElem_cons_succ, List.getElem_cons_zero, Act.put, List.setIfInBounds_toArray, List.set_cons_succ, List.set_cons_zero])
                (refine any_take 8 undef (by rfl) (by kernel_rfl) (fun _ _ _ _ _ hx => hx) (.inr ⟨by rfl, by rfl⟩) hd2 ?_; simp only [List.getElem_toArray, List.getElem_cons_succ, List.getElem_cons_zero, Act.put, List.setIfInBounds_toArray, List.set_cons_succ, List.set_cons_zero])
                (refine any_take 9 undef (by rfl) (by kernel_rfl) (fun _ _ _ _ _ hx => hx) (.inr ⟨by rfl, by rfl⟩) hd2 ?_; simp only [List.getElem_toArray, List.getElem_cons_succ, List.getElem_cons_zero, Act.put, List.setIfInBounds_toArray, List.set_cons_succ, List.set_cons_zero])
                (refine any_take 10 undef (by rfl) (by kernel_rfl) (fun _ _ _ _ _ hx => hx) (.inr ⟨by rfl, by rfl⟩) hd2 ?_; simp only [List.getElem_toArray, List.getElem_cons_succ, List.getElem_cons_zero, Act.put, List.setIfInBounds_toArray, List.set_cons_succ, List.set_cons_zero])
                (refine any_take 11 undef (by rfl) (by kernel_rfl) (fun _ _ _ _ _ hx => hx) (.inr ⟨by rfl, by rfl⟩) hd2 ?_; simp only [List.getElem_toArray, List.getElem_cons_succ, List.getElem_cons_zero, Act.put, List.setIfInBounds_toArray, List.set_cons_succ, List.set_cons_zero])
                (refine any_take 12 undef (by rfl) (by kernel_rfl) (fun _ _ _ _ _ hx => hx) (.inr ⟨by rfl, by rfl⟩) hd2 ?_; simp only [List.getElem_toArray, List.getElem_cons_succ, List.getElem_cons_zero, Act.put, List.setIfInBounds_toArray, List.set_cons_succ, List.set_cons_zero])
                (refine any_skip1 (i := 13) (by kernel_rfl) (by rfl) (by rfl) hd2 ?_; simp only [List.getElem_toArray, List.getElem_cons_succ, List.getElem_cons_zero, Act.put, List.setIfInBounds_toArray, List.set_cons_succ, List.set_cons_zero])
                (refine any_take 14 ?_ (by rfl) (by kernel_rfl) (fun _ _ _ _ _ hx => hx) (.inl ⟨by rfl, ?_⟩) hd2 ?_; rotate_left; (intro X hX; obtain ⟨r1, r2⟩ := HX X hX; clear hX; go_simp; rfl); simp only [List.getElem_toArray, List.getElem_cons_succ, List.getElem_cons_zero, Act.put, List.setIfInBounds_toArray, List.set_cons_succ, List.set_cons_zero])
                (refine any_take 15 ?_ (by rfl) (by kernel_rfl) (fun _ _ _ _ _ hx => hx) (.inl ⟨by rfl, ?_⟩) hd2 ?_; rotate_left; (intro X hX; obtain ⟨r1, r2⟩ := HX X hX; clear hX; go_simp; rfl); simp only [List.getElem_toArray, List.getElem_cons_succ, List.getElem_cons_zero, Act.put, List.setIfInBounds_toArray, List.set_cons_succ, List.set_cons_zero])
                refine any_run1 (i := 16) (by kernel_rfl) (by rfl) (by kernel_rfl) ?_
                intro K5 hK5
                have zc := (BC.out.below hd2 BC.out.lt).cell 0
                have zf := (BC.out.below hd2 BC.out.lt).frozen 0
                have zl := (BC.out.below hd2 BC.out.lt).lt
                simp at zc
                go_wp2_with fail
                refine hK5 _ _ (fun hx => (Bool.false_ne_true (hx.symm.trans (by kernel_rfl))).elim) ?_
                clear hK5 K5 zc zf zl
                refine any_done (by kernel_rfl) ?_
                gi_wp2_with fail
                have s1 := (R1.out.next hd2 hw0).far (c := q + 1) (by omega) (by omega) (.bool false)
                have s2 := (R2.out.below hd2 R2.out.lt).far (p := ⟨q + 1, 0, none⟩) (by show q + 2 ≠ q + 1; omega) (.bool false)
                have s3 := (R3.out.next hd2).set (gt := q + 1) 0 (.bool false)
                have s5 := (BC.out.below hd2 BC.out.lt).set 0 (.bool false)
                simp at s5
                have hkq : Kept (fun _ => False) B V (W2.setCell ⟨q + 1, 0, none⟩ (.bool false)) := ((Kept.refl _ _ _).below hd2).setCell (.inl (by show q + 1 < B; omega)) _
                refine ⟨hkq, s1, s2, s3, Nat.le_trans q4 hkq.1, ?_⟩
                rw [LS.out, HMT.out, Bool.false_and, Bool.or_false]
                exact s5
              | true =>
                have HMT := Lib.hid hmt
                clear hmt
                (refine any_take 4 ?_ (by rfl) (by kernel_rfl) (fun _ _ _ _ _ hx => hx) (.inl ⟨by rfl, ?_⟩) hd2 ?_; rotate_left; (intro X hX; obtain ⟨r1, r2⟩ := HX X hX; clear hX; go_simp; rfl); simp only [List.getElem_toArray, List.getElem_cons_succ, List.getElem_cons_zero, Act.put, List.setIfInBounds_toArray, List.set_cons_succ, List.set_cons_zero])
                (refine any_take 5 ?_ (by rfl) (by kernel_rfl) (fun _ _ _ _ _ hx => hx) (.inl ⟨by rfl, ?_⟩) hd2 ?_; rotate_left; (intro X hX; obtain ⟨r1, r2⟩ := HX X hX; clear hX; go_simp; rfl); simp only [List.getElem_toArray, List.getElem_cons_succ, List.getElem_cons_zero, Act.put, List.setIfInBounds_toArray, List.set_cons_succ, List.set_cons_zero])
                (refine any_take 6 ?_ (by rfl) (by kernel_rfl) (fun _ _ _ _ _ hx => hx) (.inl ⟨by rfl, ?_⟩) hd2 ?_; rotate_left; (intro X hX; obtain ⟨r1, r2⟩ := HX X hX; clear hX; go_simp; rfl); simp only [List.getElem_toArray, List.getElem_cons_succ, List.getElem_cons_zero, Act.put, List.setIfInBounds_toArray, List.set_cons_succ, List.set_cons_zero])
                (refine any_take 7 ?_ (by rfl) (by kernel_rfl) (fun _ _ _ _ _ hx => hx) (.inl ⟨by rfl, ?_⟩) hd2 ?_; rotate_left; (intro X hX; obtain ⟨r1, r2⟩ := HX X hX; clear hX; go_simp; rfl); simp only [List.getElem_toArray, List.getElem_cons_succ, List.getElem_cons_zero, Act.put, List.setIfInBounds_toArray, List.set_cons_succ, List.set_cons_zero])
                (refine any_take 8 ?_ (by rfl) (by kernel_rfl) (fun _ _ _ _ _ hx => hx) (.inl ⟨by rfl, ?_⟩) hd2 ?_; rotate_left; (intro X hX; obtain ⟨r1, r2⟩ := HX X hX; clear hX; go_simp; rfl); simp only [List.getElem_toArray, List.getElem_cons_succ, List.getElem_cons_zero, Act.put, List.setIfInBounds_toArray, List.set_cons_succ, List.set_cons_zero])
                (refine any_take 9 ?_ (by rfl) (by kernel_rfl) (fun _ _ _ _ _ hx => hx) (.inl ⟨by rfl, ?_⟩) hd2 ?_; rotate_left; (intro X hX; obtain ⟨r1, r2⟩ := HX X hX; clear hX; go_simp; rfl); simp only [List.getElem_toArray, List.getElem_cons_succ, List.getElem_cons_zero, Act.put, List.setIfInBounds_toArray, List.set_cons_succ, List.set_cons_zero])
                (refine any_take 10 ?_ (by rfl) (by kernel_rfl) (fun _ _ _ _ _ hx => hx) (.inl ⟨by rfl, ?_⟩) hd2 ?_; rotate_left; (intro X hX; obtain ⟨r1, r2⟩ := HX X hX; clear hX; go_simp; rfl); simp only [List.getElem_toArray, List.getElem_cons_succ, List.getElem_cons_zero, Act.put, List.setIfInBounds_toArray, List.set_cons_succ, List.set_cons_zero])
                (refine any_take 11 ?_ (by rfl) (by kernel_rfl) (fun _ _ _ _ _ hx => hx) (.inl ⟨by rfl, ?_⟩) hd2 ?_; rotate_left; (intro X hX; obtain ⟨r1, r2⟩ := HX X hX; clear hX; go_simp; rfl); simp only [List.getElem_toArray, List.getElem_cons_succ, List.getElem_cons_zero, Act.put, List.setIfInBounds_toArray, List.set_cons_succ, List.set_cons_zero])
                (refine any_take 12 ?_ (by rfl) (by kernel_rfl) (fun _ _ _ _ _ hx => hx) (.inl ⟨by rfl, ?_⟩) hd2 ?_; rotate_left; (intro X hX; obtain ⟨r1, r2⟩ := HX X hX; clear hX; go_simp; rfl); simp only [List.getElem_toArray, List.getElem_cons_succ, List.getElem_cons_zero, Act.put, List.setIfInBounds_toArray, List.set_cons_succ, List.set_cons_zero])
                refine any_run1 (i := 13) (by kernel_rfl) (by rfl) (by kernel_rfl) ?_
                intro K5 hK5
                go_wp2_with fail
                refine (meets_any gr (ss.length + 1) (i + 1) ((i + 1) * 1001) 136 _ ⟨t1, t2⟩ _ (HGV.out.below hd2 HGV.out.lt) (by omega) rfl hto.1 hto.2.1 hto.2.2).mono ?_
                rintro e W6 ⟨rfl, hb⟩
                have hd3 : Below V.heap.size V W6 := hd2.trans (hb.mono hd2.size)
                clear hb
                refine hK5 _ _ (fun _ => hd3) ?_
                clear hK5 K5
                rw [HRN.out]
                obtain ⟨x, hx⟩ : ∃ x, mtR Rn ⟨t1, t2⟩ = x := ⟨_, rfl⟩
                rw [hx]
                have HMX := Lib.hid hx
                clear hx
                (refine any_take 14 ?_ (by rfl) (by kernel_rfl) (fun _ _ _ _ _ hx => hx) (.inl ⟨by rfl, ?_⟩) hd3 ?_; rotate_left; (intro X hX; obtain ⟨r1, r2⟩ := HX X hX; clear hX; go_simp; rfl); simp only [List.getElem_toArray, List.getElem_cons_succ, List.getElem_cons_zero, Act.put, List.setIfInBounds_toArray, List.set_cons_succ, List.set_cons_zero])
                (refine any_take 15 ?_ (by rfl) (by kernel_rfl) (fun _ _ _ _ _ hx => hx) (.inl ⟨by rfl, ?_⟩) hd3 ?_; rotate_left; (intro X hX; obtain ⟨r1, r2⟩ := HX X hX; clear hX; go_simp; rfl); simp only [List.getElem_toArray, List.getElem_cons_succ, List.getElem_cons_zero, Act.put, List.setIfInBounds_toArray, List.set_cons_succ, List.set_cons_zero])
                refine any_run1 (i := 16) (by kernel_rfl) (by rfl) (by kernel_rfl) ?_
                intro K5 hK5
                have zc := (BC.out.below hd3 BC.out.lt).cell 0
                have zf := (BC.out.below hd3 BC.out.lt).frozen 0
                have zl := (BC.out.below hd3 BC.out.lt).lt
                simp at zc
                go_wp2_with fail
                refine hK5 _ _ (fun hx => (Bool.false_ne_true (hx.symm.trans (by kernel_rfl))).elim) ?_
                clear hK5 K5 zc zf zl
                refine any_done (by kernel_rfl) ?_
                gi_wp2_with fail
                have s1 := (R1.out.next hd3 hw0).far (c := q + 1) (by omega) (by omega) (.bool x)
                have s2 := (R2.out.below hd3 R2.out.lt).far (p := ⟨q + 1, 0, none⟩) (by show q + 2 ≠ q + 1; omega) (.bool x)
                have s3 := (R3.out.next hd3).set (gt := q + 1) 0 (.bool x)
                have s5 := (BC.out.below hd3 BC.out.lt).set 0 (.bool x)
                simp at s5
                have hkq : Kept (fun _ => False) B V (W6.setCell ⟨q + 1, 0, none⟩ (.bool x)) := ((Kept.refl _ _ _).below hd3).setCell (.inl (by show q + 1 < B; omega)) _
                refine ⟨hkq, s1, s2, s3, Nat.le_trans q4 hkq.1, ?_⟩
                rw [LS.out, HMT.out, HMX.out, Bool.true_and, Bool.false_or]
                exact s5
end Go.Proofs.Ytkibdciomheekaa
