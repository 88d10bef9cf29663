/- The errors of a pair and a truth, or a station. above. One list of ratios in a box, which grows; the laws at the operation that appends. hull: its words, and the laws of make and copy it wants. The blades, their points, and the iterators over them. hull. Contracts of the functions on ratios and on single structs. -/
import Derived.Test.YtbjmkmambmeifaaP2
import Derived.Test.YtbjmkmambmeifaaP1
import Derived.Deep.OwnRows
import Derived.Laws.CopyRow
import Derived.Deep.QuietTactic
import Derived.BigQuiet
import Derived.StillTailTactics
import Derived.Deep.RegionHeld3
import Derived.Deep.DeepCutAuto
set_option linter.all false
set_option linter.unnecessarySimpa false
set_option linter.unusedSimpArgs false
set_option linter.unusedVariables false
set_option linter.unusedSectionVars false

namespace Go.Proofs.Ytbjmkmambmeifaa
open Go.RowKit

def inSt (l : List St) (t : List Int) (k : Nat) : Bool := inB (nthS l k).lo (nthS l k).hi (nthI t k)
def checkTruth (l : List St) (t : List Int) : Int := if checkPair l ≠ 0 then checkPair l else if t.length ≠ l.length then 15 else if ∀ k, k < l.length → inSt l t k = true then 0 else 3
theorem checkTruth_pair (l : List St) (t : List Int) (h : checkPair l ≠ 0) : checkTruth l t = checkPair l := by rw [checkTruth, if_pos h]
theorem checkTruth_len (l : List St) (t : List Int) (h : checkPair l = 0) (h2 : t.length ≠ l.length) : checkTruth l t = 15 := by rw [checkTruth, if_neg (by simpa using h), if_pos h2]
theorem checkTruth_bad (l : List St) (t : List Int) (h : checkPair l = 0) (h2 : t.length = l.length) (k : Nat) (hk : k < l.length) (hb : inSt l t k = false) : checkTruth l t = 3 := by
  rw [checkTruth, if_neg (by simpa using h), if_neg (by simpa using h2), if_neg]
  intro h3; rw [h3 k hk] at hb; cases hb
theorem checkTruth_ok (l : List St) (t : List Int) (h : checkPair l = 0) (h2 : t.length = l.length) (hb : ∀ k, k < l.length → inSt l t k = true) : checkTruth l t = 0 := by
  rw [checkTruth, if_neg (by simpa using h), if_neg (by simpa using h2), if_pos]; exact hb
theorem checkPair_len (l : List St) (h : checkPair l = 0) : 0 < l.length ∧ l.length ≤ 25 := by
  unfold checkPair at h
  by_cases h0 : l.length = 0 ∨ 25 < l.length
  · rw [if_pos h0] at h; omega
  · omega

theorem valid_ok (l : List St) (h : checkPair l = 0) : ∀ k, k < l.length → okSt l k = true := by
  intro k hk
  by_cases hb : allOk l
  · exact hb k hk
  · obtain ⟨h0, h1⟩ := checkPair_len l h
    rw [checkPair, if_neg (by omega), if_neg hb] at h; omega
theorem prevSt_nonneg (l : List St) (h : checkPair l = 0) : ∀ k, k < l.length → 0 ≤ prevSt l k := by
  intro k
  induction k with
  | zero => intro _; simp [prevSt]
  | succ k ih =>
    intro hk
    have h1 := ih (by omega)
    have h2 := (okSt_at l k (valid_ok l h k (by omega))).1
    rw [prevSt_succ]; omega
theorem valid_at (l : List St) (h : checkPair l = 0) (k : Nat) (hk : k < l.length) : 0 ≤ (nthS l k).a ∧ (nthS l k).a ≤ 1000 ∧ -1000 ≤ (nthS l k).lo ∧ (nthS l k).lo ≤ (nthS l k).hi ∧ (nthS l k).hi ≤ 1000 := by
  have h1 := okSt_at l k (valid_ok l h k hk)
  have h2 := prevSt_nonneg l h k hk
  omega
theorem valid_lt (l : List St) (h : checkPair l = 0) : ∀ i j, i < j → j < l.length → (nthS l i).a < (nthS l j).a := by
  intro i j
  induction j with
  | zero => intro h1; omega
  | succ j ih =>
    intro h1 h2
    have h3 := (okSt_at l (j + 1) (valid_ok l h _ h2)).1
    rw [prevSt_succ] at h3
    rcases Nat.lt_succ_iff_lt_or_eq.1 h1 with h4 | rfl
    · have := ih h4 (by omega); omega
    · omega

theorem ret_bk {P : Program} {fn : Func} {R : Ending → World → Prop} {tmps : Array Value} {w W : World} {n g : Nat} {cs : Array Value} {t : TypeId} {v : Value} (hb : BK W g cs t) (hB : Below n w W)
    (hv : ∀ W', BK W' g cs t → (results fn tmps).run P W' = .ok v W') (hR : R (.returned v) W) : bodyPost P fn R .ret { tmps, defers := [] } W :=
  bodyPost_ret (hv _ hb) rfl hR

theorem within1_bk (lo hi x : Int) (W : World) (n T : Nat) (hb : BK W n #[.int .i64 x] T) :
    Calls Try.prog 50 #[.int .i64 lo, .int .i64 hi, .slice (some ⟨n, 0, none⟩) 1 1] W fun e w' => e = .returned (.bool (inB lo hi x)) ∧ Below W.heap.size W w' := by
  refine (within_any lo hi [x] _ W.heap.size W (Nat.le_refl _) (by simp) ⟨_, _, n, 0, rfl, ⟨rfl, Nat.le_refl _⟩, fun _ => ⟨rfl, hb.lt⟩, fun j hj => ?_⟩).mono ?_
  · obtain rfl : j = 0 := by simpa [ofI] using hj
    rw [hb.cell]; rfl
  · rintro e w' ⟨rfl, rfl⟩; exact ⟨by simp [allIn], by exact bel_of⟩

set_option maxHeartbeats 2000000 in
theorem checkTruth_any (l : List St) (t : List Int) (vl vt : Value) (w : World) (hl : l.length ≤ 1000) (ht : t.length ≤ 1000) (h : RSt w w.heap.size vl l) (h' : RI w w.heap.size vt t) :
    Calls Try.prog 49 #[vl, vt] w fun e w' => e = .returned (.int .i64 (checkTruth l t)) ∧ Below w.heap.size w w' := by
  obtain ⟨e0, he0⟩ : ∃ e0, checkPair l = e0 := ⟨_, rfl⟩
  have hcall := checkPair_any l vl w hl h
  rw [he0] at hcall
  have HP := Lib.hid hcall; clear hcall
  by_cases hp : e0 = 0
  · subst hp
    obtain ⟨hn0, hn1⟩ := checkPair_len l he0
    obtain ⟨A, cap, b, off, rfl, hA, hc⟩ := h.cells
    obtain ⟨A', cap', b', off', rfl, hA', hc'⟩ := h'.cells
    obtain ⟨rfl, hb⟩ := hA (by omega)
    have HC := Lib.hid hc; have HC' := Lib.hid hc'
    clear hc hc' hA h h'
    by_cases hlen : t.length = l.length
    · have hbne : ((t.length : Int) != (l.length : Int)) = false := by simp; omega
      obtain ⟨rfl, hb'⟩ := hA' (by omega)
      clear hA'
      have HE0 := Lib.hid he0; clear he0
      go_enter Try.func49, Try.ntmps49
      go_wp2_with fail
      refine HP.out.mono ?_
      rintro e w1 ⟨rfl, hb1⟩
      go_wp2_with fail
      go_loopw [20] (fun i wr => ∃ k : Nat, k ≤ l.length ∧ i = .int .i64 k ∧ Below w.heap.size w wr ∧ ∀ j, j < k → inSt l t j = true) (fun i _ => l.length - (intOf i).toNat)
      case atStart => exact ⟨0, Nat.zero_le _, rfl, by exact bel_of, fun j hj => absurd hj (by omega)⟩
      case round =>
        obtain ⟨k, hk, rfl, hbw, hall⟩ := hrel
        have HA := Lib.hid hall; clear hall
        by_cases hlt : k < l.length
        · have hcell := HC.out k hlt
          have hcell' := HC'.out k (by omega)
          rw [← hbw.cell (by exact hb), ← hbw.cell (by exact hb), ← hbw.cell (by exact hb)] at hcell
          rw [← hbw.cell (by exact hb')] at hcell'
          obtain ⟨c0, c1, c2⟩ := hcell
          have hsz := hbw.size
          have hbr : b < wr.heap.size := by omega
          have hbr' : b' < wr.heap.size := by omega
          have hkt : k < t.length := by omega
          go_wp2_with fail
          refine plain_read 10 3 mixed (by kernel_rfl) rfl ?_
          simp only [List.take_succ_cons, List.take_zero]
          (repeat (first | (refine ⟨undef, .inr ⟨by rfl, rfl⟩, ?_⟩) | (refine ⟨?_, .inl ⟨by rfl, ?_⟩, ?_⟩; rotate_left; (intro X hX; obtain ⟨r1, r2⟩ := Below.rules hX; clear hX; go_simp; rfl))))
          refine any_run1 (i := 10) (by kernel_rfl) (by rfl) (by rfl) ?_
          intro K hK
          go_wp2_with fail
          refine hK _ _ (fun _ => by exact bel_of) ?_
          clear hK K
          refine any_run1 (i := 11) (by kernel_rfl) (by rfl) (by rfl) ?_
          intro K hK
          go_wp2_with fail
          refine (within1_bk _ _ _ _ _ 2 (by refine BK.drew ?_; (repeat (first | assumption | (refine BK.new' _ _ _ _ ?_; simp; done) | refine BK.alloc ?_ _)))).mono ?_
          rintro e w2 ⟨rfl, hb2⟩
          have hb2' : Below wr.heap.size wr w2 := Below.trans (b := ((wr.alloc (.cells #[.int .i64 (nthS l k).a, .int .i64 (nthS l k).lo, .int .i64 (nthS l k).hi] 62)).alloc (.cells #[.int .i64 (nthI t k)] 2)).drew) (by exact bel_of) (hb2.mono (by simp; omega))
          have hb2s := hb2.size
          simp at hb2s
          refine hK _ _ (fun hx => (Bool.false_ne_true (hx.symm.trans (by kernel_rfl))).elim) ?_
          clear hK K
          refine any_run1 (i := 12) (by kernel_rfl) (by rfl) (by rfl) ?_
          intro K hK
          go_wp2_with fail
          refine hK _ _ (fun hx => (Bool.false_ne_true (hx.symm.trans (by kernel_rfl))).elim) ?_
          clear hK K
          have hbw2 : Below w.heap.size w w2 := hbw.trans (hb2'.mono hsz)
          clear hb2 hb2'
          refine any_done (by kernel_rfl) (NoPanic.normal ?_)
          obtain ⟨q, hq⟩ : ∃ q, inB (nthS l k).lo (nthS l k).hi (nthI t k) = q := ⟨_, rfl⟩
          rw [hq]
          cases q with
          | false =>
            have HT := Lib.hid (checkTruth_bad l t HE0.out hlen k hlt hq); clear hq
            go_wp2_with fail
            go_ret
            exact ⟨ret_int HT.out.symm, by exact bel_of⟩
          | true =>
            have HQ := Lib.hid hq; clear hq
            go_wp2_with fail
            go_roundw
            case rel => exact ⟨k + 1, by omega, by go_num, by exact bel_of, fun j hj => by
              rcases Nat.lt_succ_iff_lt_or_eq.1 hj with h | rfl
              · exact HA.out j h
              · exact HQ.out⟩
            case measure => simp [intOf]; omega
        · have HT := Lib.hid (checkTruth_ok l t HE0.out hlen fun j hj => HA.out j (by omega))
          go_wp2_with fail
          go_ret
          exact ⟨ret_int HT.out.symm, by exact bel_of⟩
    · have hbne : ((t.length : Int) != (l.length : Int)) = true := by simp; omega
      have HT := Lib.hid (checkTruth_len l t he0 hlen)
      clear hlen
      go_enter Try.func49, Try.ntmps49
      go_wp2_with fail
      refine HP.out.mono ?_
      rintro e w1 ⟨rfl, hb1⟩
      go_wp2_with fail
      go_ret
      exact ⟨ret_int HT.out.symm, by exact bel_of⟩
  · have hpb : (e0 != 0) = true := by simpa using hp
    have HT := Lib.hid (checkTruth_pair l t (by rw [he0]; exact hp))
    have HE := Lib.hid he0
    clear he0
    go_enter Try.func49, Try.ntmps49
    go_wp2_with fail
    refine HP.out.mono ?_
    rintro e w1 ⟨rfl, hb1⟩
    go_wp2_with fail
    go_ret
    exact ⟨ret_int (by rw [HT.out, HE.out]), by exact bel_of⟩
end Go.Proofs.Ytbjmkmambmeifaa

namespace Go.Proofs.Ytbjmkmambmeifaa
open Go.RowKit

theorem mul_bd (x y : Int) (a b : Nat) (hx : x.natAbs ≤ a) (hy : y.natAbs ≤ b) : -((a * b : Nat) : Int) ≤ x * y ∧ x * y ≤ ((a * b : Nat) : Int) := by
  have h1 := Int.natAbs_mul x y
  have h2 := Nat.mul_le_mul hx hy
  omega

def aboveB (pa ph qa qh ra rh : Int) : Bool := decide ((rh - qh) * (qa - pa) < (qh - ph) * (ra - qa))

theorem above_any (p0 p1 p2 p3 p4 q0 q1 q2 q3 q4 r0 r1 r2 r3 r4 : Int) (w : World) (h1 : p0.natAbs ≤ 2000) (h2 : p4.natAbs ≤ 2000) (h3 : q0.natAbs ≤ 2000) (h4 : q4.natAbs ≤ 2000) (h5 : r0.natAbs ≤ 2000) (h6 : r4.natAbs ≤ 2000) :
    Calls Try.prog 62 #[.agg #[.int .i64 p0, .int .i64 p1, .int .i64 p2, .int .i64 p3, .int .i64 p4], .agg #[.int .i64 q0, .int .i64 q1, .int .i64 q2, .int .i64 q3, .int .i64 q4], .agg #[.int .i64 r0, .int .i64 r1, .int .i64 r2, .int .i64 r3, .int .i64 r4]] w fun e w' =>
      e = .returned (.bool (aboveB p0 p4 q0 q4 r0 r4)) ∧ Below w.heap.size w w' := by
  have e1 := mul_bd (q4 - p4) (r0 - q0) 4000 4000 (by omega) (by omega)
  have e2 := mul_bd (r4 - q4) (q0 - p0) 4000 4000 (by omega) (by omega)
  simp only [Nat.reduceMul] at e1 e2
  go_enter Try.func62, Try.ntmps62
  go_wp2_with fail
  refine bodyPost_ret (v := .bool (aboveB p0 p4 q0 q4 r0 r4)) ?_ rfl ⟨rfl, by exact bel_of⟩
  simp [results, Try.results62, go_sem, aboveB]
end Go.Proofs.Ytbjmkmambmeifaa

namespace Go.Proofs.Ytbjmkmambmeifaa
open Go.RowKit

section
variable {P : Program} {ops : Array Oper} {Q : Exit → Act → World → Prop}
theorem wpList_append_run {rest : List Oper} {o : Oper} {a : Act} {w w' : World} (hgd : o.guard = none) (s x : Operand) (t : TypeId) (v : Value)
    (ho : o.op = .call { callee := .builtin .append, args := #[s, x], argTypes := #[t, t] })
    (hrun : (Builtin.append_ #[t, t] o.type #[a.eval s, a.eval x]).run P w = .ok v w') (h : wpList P ops Q rest (a.put o.dst v) w') : wpList P ops Q (o :: rest) a w := by
  refine wpList_plain hgd fun K hK => ?_
  exact wp_append_run s x t v ho hrun (hK _ _ h)
theorem wpListIn_append_run {F : Fence} {n : Nat} {rest : List Oper} {o : Oper} {a : Act} {w w' : World} (hgd : o.guard = none) (s x : Operand) (t : TypeId) (v : Value)
    (ho : o.op = .call { callee := .builtin .append, args := #[s, x], argTypes := #[t, t] })
    (hrun : (Builtin.append_ #[t, t] o.type #[a.eval s, a.eval x]).run P w = .ok v w') (h : wpListIn F n P ops Q rest (a.put o.dst v) w') : wpListIn F n P ops Q (o :: rest) a w := by
  refine wpListIn_plain hgd fun K hK' => ?_
  unfold Oper.wpIn
  refine ⟨?_, ?_⟩
  · simp [Oper.about, ho, resolve, Target.leads, Sem.run_pure]
  · rw [Oper.semAt_plain F _ _ (by rw [ho]; intro c hc'; cases hc')]
    unfold execOp
    simp only [ho, resolve, invoke, builtin, Sem.run_bind, Sem.run_pure, Result.andThen_ok, List.map_toArray, List.map_cons, List.map_nil, hrun]
    exact hK' _ _ h
end

def One (X : World) (base B : Nat) (L : List Ra) : Prop := ∃ v, Lst 26 25 2 X base B L.length (ofR L) v
theorem One.adm {X Y : World} {base B k : Nat} {L : List Ra} (h : One X base B L) (ha : Adm k X Y) : One Y base B L := by
  obtain ⟨v, h1⟩ := h
  exact ⟨v, h1.adm ha⟩

theorem one_grow {A w1 : World} {base B B0 : Nat} {L : List Ra} {v : Value} (h1 : Lst 26 25 2 A base B L.length (ofR L) v) (hbw : Below A.heap.size A w1) (F : Ra) (hn : L.length ≤ 100000) (hbase : base ≤ A.heap.size) (hB0 : B < B0) :
    ∃ g' n' cap' w2, (Builtin.append_ #[26, 26] 26 #[v, .slice (some ⟨w1.heap.size, 0, none⟩) 1 1]).run Try.prog (w1.alloc (.cells #[.int .i64 F.num, .int .i64 F.den] 25)) = .ok (.slice (some ⟨g', 0, none⟩) n' cap') w2 ∧
      w2.cell? ⟨B, 0, none⟩ = some v ∧ w2.frozen? ⟨B, 0, none⟩ = false ∧ A.heap.size ≤ w2.heap.size ∧
      One (w2.setCell ⟨B, 0, none⟩ (.slice (some ⟨g', 0, none⟩) n' cap')) base B (L ++ [F]) ∧
      (∀ n w, n ≤ base → Below n w A → Below n w (w2.setCell ⟨B, 0, none⟩ (.slice (some ⟨g', 0, none⟩) n' cap'))) ∧
      Kept (fun t => t = 25) B0 A (w2.setCell ⟨B, 0, none⟩ (.slice (some ⟨g', 0, none⟩) n' cap')) ∧
      (∀ k cs t, BK A k cs t → k ≠ B → t ≠ 25 → BK w2 k cs t ∧ BK (w2.setCell ⟨B, 0, none⟩ (.slice (some ⟨g', 0, none⟩) n' cap')) k cs t) ∧
      (∀ k cs t, BK A k cs t → k < base → BK (w2.setCell ⟨B, 0, none⟩ (.slice (some ⟨g', 0, none⟩) n' cap')) k cs t) := by
  obtain ⟨g', cap', w2, hrun, _, y2, y3, hL, hz, hg, hbel, hfr⟩ := grow1 (P := Try.prog) ratio_info ratio_slice rfl (by decide) (by decide) (by decide) h1 hbw (news := [.int .i64 F.num, .int .i64 F.den]) rfl (by intro u hu; simp at hu; rcases hu with rfl | rfl <;> rfl) hn hbase 26 25
  refine ⟨g', L.length + 1, cap', w2, hrun, y2, y3, hz, ⟨.slice (some ⟨g', 0, none⟩) (L.length + 1) cap', ?_⟩, hbel, ⟨by simpa [World.setCell] using hz, ?_⟩, ?_, ?_⟩
  · have : ofR (L ++ [F]) = ofR L ++ [.int .i64 F.num, .int .i64 F.den] := by simp [ofR]
    rw [this, List.length_append]; exact hL
  · intro k o hk ho hc
    refine hfr k o ho (by omega) ?_
    intro hq
    obtain ⟨c, hc'⟩ := own_block h1.2.2 hq
    rw [ho] at hc'; injection hc' with hc'
    exact hc _ _ _ hc' rfl
  · intro k cs t hk hkB ht
    have hy := hfr _ _ hk hkB (h1.own_ne hk ht)
    exact ⟨by rw [Below.heap_setCell _ _ _ _ (by exact hkB)] at hy; exact hy, hy⟩
  · intro k cs t hk hkb
    refine hfr _ _ hk ?_ ?_
    · have := h1.2.1; omega
    · intro hq
      have := (h1.2.2.lt _ hq).1; omega
end Go.Proofs.Ytbjmkmambmeifaa

namespace Go.Proofs.Ytbjmkmambmeifaa
open Go.RowKit

/-- Behind the stack R (its last point first): what is left of it when the station k comes. -/
def popR (l : List St) (hs : List Int) (k : Nat) : List Nat → List Nat
  | q :: p :: r => if aboveB (nthS l p).a (nthI hs p) (nthS l q).a (nthI hs q) (nthS l k).a (nthI hs k) then popR l hs k (p :: r) else q :: p :: r
  | r => r
def hullR (l : List St) (hs : List Int) : Nat → List Nat
  | 0 => []
  | k + 1 => k :: popR l hs k (hullR l hs k)
theorem popR_two (l : List St) (hs : List Int) (k q p : Nat) (r : List Nat) : popR l hs k (q :: p :: r) = if aboveB (nthS l p).a (nthI hs p) (nthS l q).a (nthI hs q) (nthS l k).a (nthI hs k) then popR l hs k (p :: r) else q :: p :: r := by
  rw [popR]
theorem popR_short (l : List St) (hs : List Int) (k : Nat) (r : List Nat) (h : r.length ≤ 1) : popR l hs k r = r := by
  rcases r with _ | ⟨q, _ | ⟨p, r⟩⟩
  · rfl
  · rfl
  · simp at h
theorem popR_sub (l : List St) (hs : List Int) (k : Nat) : ∀ (r : List Nat) (x : Nat), x ∈ popR l hs k r → x ∈ r
  | [], x, h => h
  | [q], x, h => h
  | q :: p :: r, x, h => by
    rw [popR_two] at h
    split at h
    · exact List.mem_cons_of_mem _ (popR_sub l hs k (p :: r) x h)
    · exact h
theorem popR_len (l : List St) (hs : List Int) (k : Nat) : ∀ (r : List Nat), (popR l hs k r).length ≤ r.length
  | [] => Nat.le_refl _
  | [q] => Nat.le_refl _
  | q :: p :: r => by
    rw [popR_two]
    split
    · exact Nat.le_trans (popR_len l hs k (p :: r)) (by simp)
    · exact Nat.le_refl _
theorem hullR_lt (l : List St) (hs : List Int) : ∀ (n : Nat) (x : Nat), x ∈ hullR l hs n → x < n
  | 0, x, h => by simp [hullR] at h
  | n + 1, x, h => by
    simp only [hullR, List.mem_cons] at h
    rcases h with rfl | h
    · omega
    · have := hullR_lt l hs n x (popR_sub l hs n _ x h); omega
theorem hullR_len (l : List St) (hs : List Int) : ∀ (n : Nat), (hullR l hs n).length ≤ n
  | 0 => Nat.le_refl _
  | n + 1 => by
    have h1 := popR_len l hs n (hullR l hs n)
    have h2 := hullR_len l hs n
    simp only [hullR, List.length_cons]; omega

theorem wpList_copy_run {P : Program} {ops : Array Oper} {Q : Exit → Act → World → Prop} {rest : List Oper} {o : Oper} {a : Act} {w w' : World} (hgd : o.guard = none) (d s : Operand) (t : TypeId) (v : Value)
    (ho : o.op = .call { callee := .builtin .copy, args := #[d, s], argTypes := #[t, t] })
    (hrun : (Builtin.copy_ #[t, t] o.type #[a.eval d, a.eval s]).run P w = .ok v w') (h : wpList P ops Q rest (a.put o.dst v) w') : wpList P ops Q (o :: rest) a w := by
  refine wpList_plain hgd fun K hK => ?_
  unfold Oper.wp execOp
  simp only [ho, resolve, invoke, builtin, Sem.run_bind, Sem.run_pure, Result.andThen_ok, List.map_toArray, List.map_cons, List.map_nil, hrun]
  exact hK _ _ h

def slLen : Value → Nat
  | .slice _ n _ => n
  | _ => 0
theorem OwnP.len {W : World} {base : Nat} {v : Value} {l : List St} {hs : List Int} {L : List Nat} (h : OwnP W base v l hs L) : slLen v = L.length := by
  rcases h.2 with ⟨hv, h1⟩ | ⟨g, cap, cur, hv, _⟩
  · rw [hv, h1]; rfl
  · rw [hv]; rfl

theorem make_pts (kl kc : IntKind) (n : Nat) (hn : n ≤ 1000) (W : World) :
    (Instr.makeSlice 98 (.int kl (n : Int)) (.int kc (n : Int))).run Try.prog W = .ok (.slice (some ⟨W.heap.size, 0, none⟩) n n) (W.alloc (.cells (madeCells #[.int .i64 0, .int .i64 0, .int .i64 0, .int .i64 0, .int .i64 0] (n * 5)) 85)) := by
  obtain ⟨i, hi, hz, hs, hb⟩ := info_parts pt_info
  have hr := run_make (P := Try.prog) W 98 85 i _ pt_slice hi hz kl kc n n (by omega) (Int.le_refl _) (by rw [hb]; omega) (by omega)
  simp only [Int.toNat_natCast, hs] at hr
  exact hr

theorem copy_pts (W : World) (g n c c' : Nat) (a : Addr) (cur : Array Value) (cs : List Value) (ty : TypeId) (hg : BK W g cur 85) (hc : cur.size = n * 5) (hl : cs.length = n * 5)
    (hsrc : ∀ j v, cs[j]? = some v → W.cell? (a.add j) = some v) (h1 : ∀ v ∈ cs, v.oneCell' = true) :
    ∃ w', (Builtin.copy_ #[98, 98] ty #[.slice (some ⟨g, 0, none⟩) n c, .slice (some a) n c']).run Try.prog W = .ok (goInt n) w' ∧ BK w' g cs.toArray 85 ∧ ∀ B w, B ≤ g → Below B w W → Below B w w' := by
  obtain ⟨i, hi, hz, hs, hb⟩ := info_parts pt_info
  have hld := run_loadCells_list (P := Try.prog) W a cs hsrc
  have hst := run_storeCells_at Try.prog g 0 85 cs 0 cur W hg (by omega) h1
  have hrow : (cur.toList.take (0 + 0) ++ cs ++ cur.toList.drop (0 + 0 + cs.length)).toArray = cs.toArray := by
    rw [List.drop_of_length_le (by simp; omega)]; simp
  rw [hrow] at hst
  refine ⟨W.setRow g cs.toArray, ?_, ?_, ?_⟩
  · simp [Builtin.copy_, run_underlying pt_slice, Builtin.lenOf, Builtin.firstCells, sizeOf, typeInfo, hi, hs, ← hl, hld, hst]
  · unfold BK at hg ⊢
    simp [World.setRow, Array.getElem?_modify, hg]
  · intro B w hB hbw
    refine hbw.trans ⟨rfl, rfl, rfl, by simp [World.setRow], fun k hk => ?_⟩
    simp [World.setRow, Array.getElem?_modify]; omega
end Go.Proofs.Ytbjmkmambmeifaa

attribute [local go_sem] Go.Oper.semAt_some
namespace Go.Proofs.Ytbjmkmambmeifaa
open Go.RowKit

/-- A point: its station, its name, its height. -/
def ptV (l : List St) (hs : List Int) (k : Nat) : Value := .agg #[.int .i64 (nthS l k).a, .int .i64 (nthS l k).lo, .int .i64 (nthS l k).hi, .int .i64 k, .int .i64 (nthI hs k)]
/-- The value vb points to blades with these stations and heights. -/
def RB (W : World) (vb : Value) (l : List St) (hs : List Int) : Prop :=
  ∃ g o vs vh, vb = .pointer (some ⟨g, o, none⟩) ∧ W.cell? ⟨g, o, none⟩ = some vs ∧ W.cell? ⟨g, o + 1, none⟩ = some vh ∧ RSt W W.heap.size vs l ∧ RI W W.heap.size vh hs ∧ hs.length = l.length
theorem RB.adm {B : Nat} {W W' : World} {vb : Value} {l : List St} {hs : List Int} (h : RB W vb l hs) (ha : Adm B W W') : RB W' vb l hs := by
  obtain ⟨g, o, vs, vh, h1, h2, h3, h4, h5, h6⟩ := h
  exact ⟨g, o, vs, vh, h1, ha.cell h2, ha.cell h3, (ha.rs h4).more ha.size, (ha.rs h5).more ha.size, h6⟩
theorem RB.below {W W' : World} {vb : Value} {l : List St} {hs : List Int} (h : RB W vb l hs) (hb : Below W.heap.size W W') : RB W' vb l hs := h.adm (B := 0) (Adm.below hb)

set_option maxHeartbeats 1000000 in
theorem point_any (l : List St) (hs : List Int) (k : Nat) (vb : Value) (w : World) (_hl : l.length ≤ 1000) (hk : k < l.length) (h : RB w vb l hs) :
    Calls Try.prog 53 #[vb, .int .i64 k] w fun e w' => e = .returned (ptV l hs k) ∧ Below w.heap.size w w' := by
  obtain ⟨g, o, vs, vh, rfl, c1, c2, h4, h5, h6⟩ := h
  obtain ⟨A, cap, b, off, rfl, hA, hc⟩ := h4.cells
  obtain ⟨A', cap', b', off', rfl, hA', hc'⟩ := h5.cells
  obtain ⟨rfl, hb⟩ := hA (by omega)
  obtain ⟨rfl, hb'⟩ := hA' (by omega)
  obtain ⟨d1, d2, d3⟩ := hc k hk
  have e1 := hc' k (by omega)
  have hk' : k < hs.length := by omega
  have hg : g < w.heap.size := World.block_lt_of_cell? w _ c1
  clear hc hc' h6 hA hA'
  go_enter Try.func53, Try.ntmps53
  go_wp2_with fail
  go_region
  go_wp2_with fail
  exact bodyPost_ret (v := ptV l hs k) (by simp [results, Try.results53, go_sem, ptV]) rfl ⟨rfl, by exact bel_of⟩

theorem others_any (p : Option Addr) (s : Int) (bh : Bool) (w : World) :
    Calls Try.prog 68 #[.pointer p, .int .i64 s, .bool bh] w fun e w' =>
      e = .returned (.func (.func 78) #[] #[.pointer (some ⟨w.heap.size, 0, none⟩), .pointer (some ⟨w.heap.size + 1, 0, none⟩), .pointer (some ⟨w.heap.size + 1 + 1, 0, none⟩)]) ∧
      ((w.alloc (.cells #[.pointer p] 80)).alloc (.cells #[.int .i64 s] 3)).alloc (.cells #[.bool bh] 4) = w' := by
  go_enter Try.func68, Try.ntmps68
  go_wp2
  go_ret
  exact ⟨rfl, rfl⟩

/-- What the iterator over the points before or behind a station reads. -/
def OthersMem (c1 c2 c3 : Nat) (vb : Value) (l : List St) (hs : List Int) (s : Nat) (bh : Bool) (W : World) : Prop :=
  W.cell? ⟨c1, 0, none⟩ = some vb ∧ W.cell? ⟨c2, 0, none⟩ = some (.int .i64 s) ∧ W.cell? ⟨c3, 0, none⟩ = some (.bool bh) ∧ RB W vb l hs

theorem OthersMem.adm {c1 c2 c3 : Nat} {vb : Value} {l : List St} {hs : List Int} {s : Nat} {bh : Bool} {X Y : World} {B : Nat} (h : OthersMem c1 c2 c3 vb l hs s bh X) (ha : Adm B X Y) : OthersMem c1 c2 c3 vb l hs s bh Y :=
  ⟨ha.cell h.1, ha.cell h.2.1, ha.cell h.2.2.1, h.2.2.2.adm ha⟩
theorem eg78 : ∀ args w, (callFunc 78 args).run Try.prog w = .ok (.enter 78 args) w := enters_of Try.func78 (by kernel_rfl) rfl

set_option maxHeartbeats 2000000 in
theorem before_iter (T : TypeId → Prop) (c1 c2 c3 : Nat) (vb : Value) (l : List St) (hs : List Int) (s : Nat) (hk1 : l.length ≤ 1000) (hs1 : s < l.length) :
    Iter Try.prog 78 #[.pointer (some ⟨c1, 0, none⟩), .pointer (some ⟨c2, 0, none⟩), .pointer (some ⟨c3, 0, none⟩)] (fun i => #[ptV l hs i]) s (OthersMem c1 c2 c3 vb l hs s false) T := by
  intro lp J Jx W hJ hJx hR hY h0
  refine (callsIn_wide (n := 100)).1 ?_
  refine callsIn_of_wp Try.func78 rfl trivial ?_ rfl
  simp only [Try.ntmps78, List.size_toArray, List.length_cons, List.length_nil, Nat.reduceAdd, Nat.reduceSub, Array.replicate_succ, Array.replicate_zero, List.push_toArray, List.append_toArray, List.nil_append, List.cons_append]
  obtain ⟨⟨k1, k2, k3, g, o, vs, vh, rfl, k4, k5, k6, k7, k8⟩, hz0⟩ := hR 0 W h0
  obtain ⟨A, cap, b, off, rfl, hA, hc⟩ := k6.cells
  clear hA hc
  gi_wp2
  gi_loopw [11] (fun i wr => ∃ k : Nat, k ≤ l.length ∧ i = .int .i64 k ∧ J (min k s) wr) (fun i wr => l.length - (intOf i).toNat)
  case atStart => exact ⟨0, Nat.zero_le _, rfl, by simpa using h0⟩
  case round =>
    obtain ⟨k, hk, rfl, hJk⟩ := hrel
    obtain ⟨⟨m1, m2, m3, hRB⟩, hz⟩ := hR _ wr hJk
    clear k1 k2 k3 k4 k5 k6 k7 h0
    by_cases hlt : k < l.length
    · by_cases hks : k < s
      · clear hz
        have b1 : ((k : Int) != (s : Int)) = true := by simp; omega
        have b2 : ((k : Int) == (s : Int)) = false := by simp; omega
        have b3 : decide (s < k) = false := by simp; omega
        rw [Nat.min_eq_left (by omega)] at hJk
        
        have HR := hRB
        have HJ := Lib.hid hJk; clear hJk
        gi_wp2_with fail
        refine ⟨trivial, CallsIn.mono (callsIn_wide.2 (point_any l hs k _ _ hk1 hlt HR)) ?_⟩
        rintro e w1 ⟨rfl, hb1⟩
        have hJ1 := hJ _ _ _ HJ.out (Adm.below hb1)
        obtain ⟨fn, tmps, assign, body, hy, hRd⟩ := hY k w1 98 hks hJ1
        clear hJ1 HJ
        gi_wp2_with fail
        refine RoundIn.mono (RoundIn.any hRd) ?_
        rintro e W3 (⟨rfl, hJ3, _⟩ | ⟨rfl, hJ3, _⟩)
        · have HJ3 := Lib.hid hJ3; clear hJ3
          gi_wp2_with fail
          go_roundw
          case rel => exact ⟨k + 1, by omega, by go_num, by rw [Nat.min_eq_left (by omega)]; exact HJ3.out⟩
          case measure => simp [intOf]; omega
        · have HJ3 := Lib.hid hJ3; clear hJ3
          gi_wp2_with fail
          refine bodyPost_ret (results_none rfl _ _ _) rfl ?_
          exact ⟨⟨_, rfl⟩, .inr ⟨k, hks, HJ3.out⟩⟩
      · by_cases heq : k = s
        · clear hks
          have b1 : ((k : Int) != (s : Int)) = false := by simp; omega
          have b2 : ((k : Int) == (s : Int)) = true := by simp; omega
          have HJ := Lib.hid hJk; clear hJk
          gi_wp2_with fail
          refine ⟨trivial, ?_⟩
          gi_wp2_with fail
          all_goals
            refine ⟨fun _ _ => trivial, ?_⟩
            gi_wp2_with fail
            go_roundw
            case rel => exact ⟨k + 1, by omega, by go_num, by rw [show min (k + 1) s = min k s from by omega]; exact HJ.out⟩
            case measure => simp [intOf]; omega
        · have b1 : ((k : Int) != (s : Int)) = true := by simp; omega
          have b2 : ((k : Int) == (s : Int)) = false := by simp; omega
          have b3 : decide (s < k) = true := by simp; omega
          have HJ := Lib.hid hJk; clear hJk
          gi_wp2_with fail
          refine ⟨trivial, ?_⟩
          gi_wp2_with fail
          all_goals
            refine ⟨fun _ _ => trivial, ?_⟩
            gi_wp2_with fail
            go_roundw
            case rel => exact ⟨k + 1, by omega, by go_num, by rw [show min (k + 1) s = min k s from by omega]; exact HJ.out⟩
            case measure => simp [intOf]; omega
    · have HJ := Lib.hid hJk; clear hJk
      gi_wp2_with fail
      go_end0
      refine ⟨⟨_, rfl⟩, .inl ?_⟩
      have := HJ.out
      rw [show min k s = s from by omega] at this
      exact this

set_option maxHeartbeats 2000000 in
theorem behind_iter (T : TypeId → Prop) (c1 c2 c3 : Nat) (vb : Value) (l : List St) (hs : List Int) (s : Nat) (hk1 : l.length ≤ 1000) (hs1 : s < l.length) :
    Iter Try.prog 78 #[.pointer (some ⟨c1, 0, none⟩), .pointer (some ⟨c2, 0, none⟩), .pointer (some ⟨c3, 0, none⟩)] (fun i => #[ptV l hs (s + 1 + i)]) (l.length - (s + 1)) (OthersMem c1 c2 c3 vb l hs s true) T := by
  intro lp J Jx W hJ hJx hR hY h0
  refine (callsIn_wide (n := 100)).1 ?_
  refine callsIn_of_wp Try.func78 rfl trivial ?_ rfl
  simp only [Try.ntmps78, List.size_toArray, List.length_cons, List.length_nil, Nat.reduceAdd, Nat.reduceSub, Array.replicate_succ, Array.replicate_zero, List.push_toArray, List.append_toArray, List.nil_append, List.cons_append]
  obtain ⟨⟨k1, k2, k3, g, o, vs, vh, rfl, k4, k5, k6, k7, k8⟩, hz0⟩ := hR 0 W h0
  obtain ⟨A, cap, b, off, rfl, hA, hc⟩ := k6.cells
  clear hA hc
  gi_wp2
  gi_loopw [11] (fun i wr => ∃ k : Nat, k ≤ l.length ∧ i = .int .i64 k ∧ J (k - (s + 1)) wr) (fun i wr => l.length - (intOf i).toNat)
  case atStart => exact ⟨0, Nat.zero_le _, rfl, by simpa using h0⟩
  case round =>
    obtain ⟨k, hk, rfl, hJk⟩ := hrel
    obtain ⟨⟨m1, m2, m3, hRB⟩, hz⟩ := hR _ wr hJk
    clear k1 k2 k3 k4 k5 k6 k7 h0
    by_cases hlt : k < l.length
    · by_cases hks : s < k
      · clear hz
        have b1 : ((k : Int) != (s : Int)) = true := by simp; omega
        have b2 : ((k : Int) == (s : Int)) = false := by simp; omega
        have b3 : decide (s < k) = true := by simp; omega
        obtain ⟨i, rfl⟩ : ∃ i, k = s + 1 + i := ⟨k - (s + 1), by omega⟩
        rw [Nat.add_sub_cancel_left] at hJk
        have HR := hRB
        have HJ := Lib.hid hJk; clear hJk
        gi_wp2_with fail
        refine ⟨trivial, CallsIn.mono (callsIn_wide.2 (point_any l hs (s + 1 + i) _ _ hk1 hlt HR)) ?_⟩
        rintro e w1 ⟨rfl, hb1⟩
        have hJ1 := hJ _ _ _ HJ.out (Adm.below hb1)
        obtain ⟨fn, tmps, assign, body, hy, hRd⟩ := hY i w1 98 (by omega) hJ1
        clear hJ1 HJ
        gi_wp2_with fail
        refine RoundIn.mono (RoundIn.any hRd) ?_
        rintro e W3 (⟨rfl, hJ3, _⟩ | ⟨rfl, hJ3, _⟩)
        · have HJ3 := Lib.hid hJ3; clear hJ3
          gi_wp2_with fail
          go_roundw
          case rel => exact ⟨(s + 1 + i) + 1, by omega, by go_num, by rw [show s + 1 + i + 1 - (s + 1) = i + 1 from by omega]; exact HJ3.out⟩
          case measure => simp [intOf]; omega
        · have HJ3 := Lib.hid hJ3; clear hJ3
          gi_wp2_with fail
          refine bodyPost_ret (results_none rfl _ _ _) rfl ?_
          exact ⟨⟨_, rfl⟩, .inr ⟨i, by omega, HJ3.out⟩⟩
      · by_cases heq : k = s
        · clear hks
          have b1 : ((k : Int) != (s : Int)) = false := by simp; omega
          have b2 : ((k : Int) == (s : Int)) = true := by simp; omega
          have HJ := Lib.hid hJk; clear hJk
          gi_wp2_with fail
          refine ⟨trivial, ?_⟩
          gi_wp2_with fail
          all_goals
            refine ⟨fun _ _ => trivial, ?_⟩
            gi_wp2_with fail
            go_roundw
            case rel => exact ⟨k + 1, by omega, by go_num, by rw [show (k + 1) - (s + 1) = k - (s + 1) from by omega]; exact HJ.out⟩
            case measure => simp [intOf]; omega
        · have b1 : ((k : Int) != (s : Int)) = true := by simp; omega
          have b2 : ((k : Int) == (s : Int)) = false := by simp; omega
          have b3 : decide (s < k) = false := by simp; omega
          have HJ := Lib.hid hJk; clear hJk
          gi_wp2_with fail
          refine ⟨trivial, ?_⟩
          gi_wp2_with fail
          all_goals
            refine ⟨fun _ _ => trivial, ?_⟩
            gi_wp2_with fail
            go_roundw
            case rel => exact ⟨k + 1, by omega, by go_num, by rw [show (k + 1) - (s + 1) = k - (s + 1) from by omega]; exact HJ.out⟩
            case measure => simp [intOf]; omega
    · have HJ := Lib.hid hJk; clear hJk
      gi_wp2_with fail
      go_end0
      refine ⟨⟨_, rfl⟩, .inl ?_⟩
      have := HJ.out
      rw [show k - (s + 1) = (l.length - (s + 1)) from by omega] at this
      exact this
end Go.Proofs.Ytbjmkmambmeifaa

namespace Go.Proofs.Ytbjmkmambmeifaa
open Go.RowKit

theorem OwnP.form {W : World} {base : Nat} {v : Value} {l : List St} {hs : List Int} {L : List Nat} (h : OwnP W base v l hs L) : ∃ A c, v = .slice A L.length c := by
  rcases h.2 with ⟨hv, h1⟩ | ⟨g, cap, cur, hv, _⟩
  · exact ⟨none, 0, by rw [hv, h1]⟩
  · exact ⟨_, _, hv⟩

theorem OwnP.row {W : World} {base : Nat} {v : Value} {l : List St} {hs : List Int} {L : List Nat} (h : OwnP W base v l hs L) (h0 : 0 < L.length) : ∃ g cap, v = .slice (some ⟨g, 0, none⟩) L.length cap ∧ g < W.heap.size ∧
    ∀ j u, (ofP l hs L)[j]? = some u → W.cell? ((⟨g, 0, none⟩ : Addr).add j) = some u := by
  have hlen := ofP_length l hs L
  rcases h.2 with ⟨_, h1⟩ | ⟨g, cap, cur, hv, hb, hh, h3, h4, h5, h6⟩
  · omega
  · refine ⟨g, cap, hv, (Array.getElem?_eq_some_iff.1 hh).1, fun j u hj => ?_⟩
    have hjl : j < (ofP l hs L).length := (List.getElem?_eq_some_iff.1 hj).1
    have e : (⟨g, 0, none⟩ : Addr).add j = ⟨g, j, none⟩ := by unfold Addr.add; split <;> simp_all
    rw [e, cell_of_row W g j cur _ (0, 0) hh, ← hj]
    conv => rhs; rw [← h6]
    rw [List.getElem?_take_of_lt (by omega)]
    simp
theorem OwnP.made {W : World} {base g : Nat} {l : List St} {hs : List Int} {L : List Nat} {n : Nat} (hb : BK W g (ofP l hs L).toArray 85) (hg : base ≤ g) (hn : n = L.length) (hm : n ≤ 1000) : OwnP W base (.slice (some ⟨g, 0, none⟩) n n) l hs L := by
  subst hn
  have hlen := ofP_length l hs L
  exact ⟨hlen, .inr ⟨g, L.length, (ofP l hs L).toArray, rfl, hg, hb, Nat.le_refl _, by unfold maxLen; omega, by simpa using hlen, by rw [← hlen]; simp⟩⟩
theorem ofP_one (l : List St) (hs : List Int) (L : List Nat) : ∀ v ∈ ofP l hs L, v.oneCell' = true := by
  intro v hv
  unfold ofP at hv
  obtain ⟨k, _, hk⟩ := List.mem_flatMap.1 hv
  simp only [ptC, List.mem_cons, List.not_mem_nil, or_false] at hk
  rcases hk with rfl | rfl | rfl | rfl | rfl <;> rfl

set_option maxRecDepth 100000 in
set_option maxHeartbeats 4000000 in
theorem hull_any (l : List St) (hs : List Int) (vb : Option Addr) (w : World) (hl : l.length ≤ 25) (h : RB w (.pointer vb) l hs)
    (ha2 : ∀ i, i < l.length → 0 ≤ (nthS l i).a ∧ (nthS l i).a ≤ 1000) (hh : ∀ i, i < l.length → -1000 ≤ nthI hs i ∧ nthI hs i ≤ 1000) (hl0 : 0 < l.length) :
    Calls Try.prog 63 #[.pointer vb] w fun e w' => ∃ v, e = .returned v ∧ OwnP w' w.heap.size v l hs (hullR l hs l.length).reverse ∧ Below w.heap.size w w' := by
  have hpt := fun k (hk : k < l.length) w1 (hb : Below w.heap.size w w1) => point_any l hs k (.pointer vb) w1 (by omega) hk (h.below hb)
  have HPT := Lib.hid hpt; clear hpt
  have HA2 := Lib.hid ha2; have HH := Lib.hid hh
  have H := Lib.hid h
  obtain ⟨g, o, vs, vh, hvb, k4, k5, k6, k7, k8⟩ := h
  obtain ⟨A, cap, b, off, rfl, _, _⟩ := k6.cells
  rw [Value.pointer.injEq] at hvb
  subst hvb
  clear ha2 hh k5 k6 k7 k8
  go_enter Try.func63, Try.ntmps63
  go_wp2_with fail
  go_loopw [3, 15] (fun lv iv wr => ∃ k : Nat, k ≤ l.length ∧ iv = .int .i64 k ∧ OwnP wr w.heap.size lv l hs (hullR l hs k).reverse ∧ Below w.heap.size w wr) (fun _ i _ => l.length - (intOf i).toNat)
  case atStart => exact ⟨0, Nat.zero_le _, rfl, by simpa [hullR] using OwnP.nil _ _ _ _, by exact bel_of⟩
  case round =>
    obtain ⟨k, hk, rfl, hown, hbw⟩ := hrel
    have hsz := hbw.size
    by_cases hlt : k < l.length
    · have HO := Lib.hid hown; clear hown
      go_wp2_with fail
      refine (HPT.out k hlt _ hbw).mono ?_
      rintro e w1 ⟨rfl, hb1⟩
      have hO1 := HO.out.below hb1
      have hbw1 : Below w.heap.size w w1 := hbw.trans (hb1.mono hsz)
      have hs1 := hb1.size
      clear hb1 HO
      unfold ptV
      go_wp2_with fail
      go_loopw [3] (fun lv wi => ∃ R : List Nat, OwnP wi w.heap.size lv l hs R.reverse ∧ (∀ x ∈ R, x < l.length) ∧ popR l hs k R = popR l hs k (hullR l hs k) ∧ R.length ≤ 25 ∧ BK wi w1.heap.size #[.int .i64 (nthS l k).a, .int .i64 (nthS l k).lo, .int .i64 (nthS l k).hi, .int .i64 k, .int .i64 (nthI hs k)] 85 ∧ Below w.heap.size w wi) (fun lv _ => slLen lv)
      case atStart =>
        have h25 := hullR_len l hs k
        exact ⟨hullR l hs k, hO1.below (by exact bel_of), fun x hx => by have := hullR_lt l hs k x hx; omega, rfl, by omega, BK.new _ _ _, by exact bel_of⟩
      case round =>
        clear hO1
        obtain ⟨R, hOi, hRl, hRp, hR25, bk, hbwi⟩ := hrel
        have y0 := bk.cell 0
        have y1 := bk.cell 1
        have y2 := bk.cell 2
        have y3 := bk.cell 3
        have y4 := bk.cell 4
        simp at y0 y1 y2 y3 y4
        have hszi := hbwi.size
        have hlti := bk.lt
        by_cases hn : R.length ≤ 1
        · have HP := Lib.hid (by rw [← hRp, popR_short _ _ _ _ hn] : R = popR l hs k (hullR l hs k))
          obtain ⟨A2, c2, rfl⟩ := hOi.form
          have hlr : R.reverse.length = R.length := List.length_reverse
          rw [hlr] at hOi
          clear hlr
          have d1 : decide ((1 : Int) < ((R.length : Nat) : Int)) = false := by simp; omega
          have d2 : decide (1 < R.length) = false := by simp; omega
          go_wp2_with fail
          refine plain_read 17 2 mixed (by kernel_rfl) rfl ?_
          simp only [List.take_succ_cons, List.take_zero]
          (repeat (first | (refine ⟨undef, .inr ⟨by rfl, rfl⟩, ?_⟩; simp only [Act.put, List.setIfInBounds_toArray, List.set_cons_succ, List.set_cons_zero]) | (refine ⟨?_, .inl ⟨by rfl, ?_⟩, ?_⟩; rotate_left; (intro X hX; obtain ⟨r1, r2⟩ := Below.rules hX; clear hX; go_simp; rfl); simp only [Act.put, List.setIfInBounds_toArray, List.set_cons_succ, List.set_cons_zero])))
          refine any_skip1 (i := 17) (by kernel_rfl) (by rfl) (by kernel_rfl) (by exact bel_of) ?_
          refine any_run1 (i := 18) (by kernel_rfl) (by rfl) (by rfl) ?_
          intro K hK
          go_wp2_with fail
          refine hK _ _ (fun hx => (Bool.false_ne_true (hx.symm.trans (by kernel_rfl))).elim) ?_
          clear hK K
          refine any_done (by kernel_rfl) (NoPanic.normal ?_)
          obtain ⟨v', w2, hrun, hown', hb', hs', _⟩ := app_pt (w1 := wr.drew) (hOi.below (by exact bel_of)) k (by rw [List.length_reverse]; omega) (by exact hszi) (w0 := w) (by exact bel_of) (wr.drew).heap.size rfl
          have HRUN := Lib.hid hrun; clear hrun
          have HO := Lib.hid hown'; clear hown' hOi
          go_wp2_with (at_builtin; refine wpList_append_run rfl (.tmp 45) (.tmp 47) 98 _ rfl HRUN.out ?_)
          go_roundw
          case rel => exact ⟨k + 1, by omega, by go_num, by rw [hullR, ← HP.out, List.reverse_cons]; exact HO.out, by exact bel_of⟩
          case measure => simp [intOf]; omega
        · obtain ⟨q, p, r, rfl⟩ : ∃ q p r, R = q :: p :: r := by
            rcases R with _ | ⟨q, _ | ⟨p, r⟩⟩
            · simp at hn
            · simp at hn
            · exact ⟨q, p, r, rfl⟩
          obtain ⟨n, hrn⟩ : ∃ n, r.length = n := ⟨_, rfl⟩
          have hlr : (q :: p :: r).reverse.length = n + 2 := by simp [hrn]
          obtain ⟨g2, c2, rfl, hg2, hc2, hcells⟩ := hOi.cells (by omega)
          have hc0 := hcells n (by omega)
          have hc1 := hcells (n + 1) (by omega)
          have e0 : (q :: p :: r).reverse.getD n 0 = p := by
            rw [List.getD_eq_getElem?_getD, List.getElem?_reverse (by simp; omega)]; simp [hrn]
          have e1 : (q :: p :: r).reverse.getD (n + 1) 0 = q := by
            rw [List.getD_eq_getElem?_getD, List.getElem?_reverse (by simp; omega)]; simp [hrn]
          rw [e0] at hc0
          rw [e1] at hc1
          clear hcells e0 e1
          rw [hlr] at hOi hc2 ⊢
          obtain ⟨x0, x1, x2, x3, x4⟩ := hc0
          obtain ⟨z0, z1, z2, z3, z4⟩ := hc1
          have hq := hRl q (by simp)
          have hp := hRl p (by simp)
          have b1 := HA2.out q hq
          have b2 := HA2.out p hp
          have b3 := HA2.out k hlt
          have b4 := HH.out q hq
          have b5 := HH.out p hp
          have b6 := HH.out k hlt
          obtain ⟨up, hup⟩ : ∃ up, aboveB (nthS l p).a (nthI hs p) (nthS l q).a (nthI hs q) (nthS l k).a (nthI hs k) = up := ⟨_, rfl⟩
          have hab : ∀ W, Calls Try.prog 62 #[.agg #[.int .i64 (nthS l p).a, .int .i64 (nthS l p).lo, .int .i64 (nthS l p).hi, .int .i64 p, .int .i64 (nthI hs p)], .agg #[.int .i64 (nthS l q).a, .int .i64 (nthS l q).lo, .int .i64 (nthS l q).hi, .int .i64 q, .int .i64 (nthI hs q)], .agg #[.int .i64 (nthS l k).a, .int .i64 (nthS l k).lo, .int .i64 (nthS l k).hi, .int .i64 k, .int .i64 (nthI hs k)]] W fun e w' => e = .returned (.bool up) ∧ Below W.heap.size W w' := by
            intro W
            rw [← hup]
            exact above_any _ _ _ _ _ _ _ _ _ _ _ _ _ _ _ _ (by omega) (by omega) (by omega) (by omega) (by omega) (by omega)
          have HAB := Lib.hid hab; clear hab b1 b2 b3 b4 b5 b6
          have d1 : decide ((1 : Int) < (n : Int) + 2) = true := by simp; omega
          have hn25 : n ≤ 25 := by simp only [List.length_cons] at hR25; omega
          have _hp1 : ((n : Int) + 2 - 2).toNat = n := by omega
          have _hp2 : ((n : Int) + 2 - 1).toNat = n + 1 := by omega
          have _hp3 : ((n : Int) + 1).toNat = n + 1 := by omega
          have _hw1 : IntKind.i64.wrap (n : Int) = (n : Int) := by rw [IntKind.wrap_i64]; omega
          have _hw2 : IntKind.i64.wrap ((n : Int) + 1) = (n : Int) + 1 := by rw [IntKind.wrap_i64]; omega
          have hpop := popR_two l hs k q p r
          rw [hup, hRp] at hpop
          have HPOP := Lib.hid hpop; clear hpop hup hRp
          have _hw4 : IntKind.i64.wrap ((n : Int) + 2 - 1) = (n : Int) + 1 := by rw [IntKind.wrap_i64]; omega
          have _hn0 : (0 : Int) ≤ (n : Int) + 1 := by omega
          have hn1 : (n : Int) < (n : Int) + 2 := by omega
          have hn2 : (n : Int) + 1 < (n : Int) + 2 := by omega
          go_wp2_with fail
          refine plain_read 17 2 mixed (by kernel_rfl) rfl ?_
          simp only [List.take_succ_cons, List.take_zero]
          (repeat (first | (refine ⟨undef, .inr ⟨by rfl, rfl⟩, ?_⟩; simp only [Act.put, List.setIfInBounds_toArray, List.set_cons_succ, List.set_cons_zero]) | (refine ⟨?_, .inl ⟨by rfl, ?_⟩, ?_⟩; rotate_left; (intro X hX; obtain ⟨r1, r2⟩ := Below.rules hX; clear hX; go_simp; rfl); simp only [Act.put, List.setIfInBounds_toArray, List.set_cons_succ, List.set_cons_zero])))
          refine any_run1 (i := 17) (by kernel_rfl) (by rfl) (by kernel_rfl) ?_
          intro K hK
          go_wp2_with fail
          refine (HAB.out _).mono ?_
          rintro e w2 ⟨rfl, hb2⟩
          refine hK _ _ (fun hx => (Bool.false_ne_true (hx.symm.trans (by kernel_rfl))).elim) ?_
          clear hK K
          refine any_run1 (i := 18) (by kernel_rfl) (by rfl) (by rfl) ?_
          intro K hK
          go_wp2_with fail
          refine hK _ _ (fun hx => (Bool.false_ne_true (hx.symm.trans (by kernel_rfl))).elim) ?_
          clear hK K
          refine any_done (by kernel_rfl) (NoPanic.normal ?_)
          have hbb : Below wr.heap.size wr w2 := Below.trans (b := wr.drew) (by exact bel_of) hb2
          have hO2 := OwnP.below hOi hbb
          have bk2 := bk.below hbb hlti
          have hbw2 : Below w.heap.size w w2 := hbwi.trans (hbb.mono hszi)
          have hsz2 := hbw2.size
          have hlt2 := bk2.lt
          clear hb2 hbb bk hOi y0 y1 y2 y3 y4 x0 x1 x2 x3 x4 z0 z1 z2 z3 z4
          cases up with
          | true =>
            have hcut := hO2.cut hlr.symm (m := n + 1) (by omega)
            have htk : (q :: p :: r).reverse.take (n + 1) = (p :: r).reverse := by
              rw [List.reverse_cons, List.take_left' (by simp [hrn])]
            rw [htk] at hcut
            have hRl' : ∀ x ∈ p :: r, x < l.length := fun x hx => hRl x (List.mem_cons_of_mem _ hx)
            have HCUT := Lib.hid hcut
            have HRL := Lib.hid hRl'
            clear hcut hRl' htk hRl hO2
            have hR25' : (p :: r).length ≤ 25 := by simp only [List.length_cons] at hR25 ⊢; omega
            have _hw3 : ((n : Int) + 2 - 1) = (n : Int) + 1 := by omega
            have _hn3 : (n : Int) + 1 ≤ (c2 : Int) := by omega
            have _hn4 : (0 : Int) ≤ (n : Int) + 1 := by omega
            have _hn5 : n + 1 ≤ c2 := by omega
            go_wp2_with fail
            go_roundw
            case rel => exact ⟨p :: r, HCUT.out, HRL.out, by rw [HPOP.out]; rfl, hR25', bk2, hbw2⟩
            case measure => simp [slLen]
          | false =>
            have HP := Lib.hid (by rw [HPOP.out]; rfl : q :: p :: r = popR l hs k (hullR l hs k))
            have y0 := bk2.cell 0
            have y1 := bk2.cell 1
            have y2 := bk2.cell 2
            have y3 := bk2.cell 3
            have y4 := bk2.cell 4
            simp at y0 y1 y2 y3 y4
            have hlrn : (q :: p :: r).length = n + 2 := by simp [hrn]
            have hO2x := hO2
            have hOi := hO2
            clear hO2 hRl
            obtain ⟨v', w2, hrun, hown', hb', hs', _⟩ := app_pt (w1 := w2) (hO2x) k (by rw [List.length_reverse]; omega) (by exact hsz2) (w0 := w) (by exact bel_of) (w2).heap.size rfl
            have HRUN := Lib.hid hrun; clear hrun
            have HO := Lib.hid hown'; clear hown' hOi
            go_wp2_with (at_builtin; refine wpList_append_run rfl (.tmp 45) (.tmp 47) 98 _ rfl HRUN.out ?_)
            go_roundw
            case rel => exact ⟨k + 1, by omega, by go_num, by rw [hullR, ← HP.out, List.reverse_cons]; exact HO.out, by exact bel_of⟩
            case measure => simp [intOf]; omega
    · have hkl : k = l.length := by omega
      subst hkl
      have h25 := hullR_len l hs l.length
      have hpos : 0 < (hullR l hs l.length).reverse.length := by
        rw [List.length_reverse]
        cases hx : l.length with
        | zero => omega
        | succ m => simp [hullR]
      obtain ⟨L, hL⟩ : ∃ L, (hullR l hs l.length).reverse = L := ⟨_, rfl⟩
      rw [← List.length_reverse, hL] at h25
      rw [hL] at hown hpos
      obtain ⟨g2, c2, rfl, hg2, hsrc⟩ := hown.row hpos
      obtain ⟨n, hn⟩ : ∃ n, L.length = n := ⟨_, rfl⟩
      rw [hn] at h25 hpos hown ⊢
      have hmk := fun W => make_pts .i64 .i64 n (by omega) W
      have hbk : BK (wr.alloc (.cells (madeCells #[.int .i64 0, .int .i64 0, .int .i64 0, .int .i64 0, .int .i64 0] (n * 5)) 85)) wr.heap.size (madeCells #[.int .i64 0, .int .i64 0, .int .i64 0, .int .i64 0, .int .i64 0] (n * 5)) 85 := BK.new _ _ _
      have hlen := ofP_length l hs L
      rw [hn] at hlen
      obtain ⟨w2, hcp, hb2, hbl2⟩ := copy_pts (wr.alloc (.cells (madeCells #[.int .i64 0, .int .i64 0, .int .i64 0, .int .i64 0, .int .i64 0] (n * 5)) 85)) wr.heap.size n n c2 ⟨g2, 0, none⟩ _ (ofP l hs L) 3 hbk (size_madeCells _ _) hlen (fun j u hj => by
        have := hsrc j u hj
        have e : (⟨g2, 0, none⟩ : Addr).add j = ⟨g2, j, none⟩ := by unfold Addr.add; split <;> simp_all
        rw [e] at this ⊢
        rw [World.cell?_alloc_lt _ _ _ (by exact hg2)]; exact this) (ofP_one l hs L)
      have hb3 := hbl2 w.heap.size w hsz (by exact bel_of)
      have HO := Lib.hid (OwnP.made (base := w.heap.size) hb2 hsz hn.symm (by omega))
      have HL := Lib.hid hL
      clear hb2 hbl2 hlen hbk hsrc hown hL
      go_wp2_with fail
      go_ret
      exact ⟨_, rfl, by rw [HL.out]; exact HO.out, hb3⟩
end Go.Proofs.Ytbjmkmambmeifaa

namespace Go.Proofs.Ytbjmkmambmeifaa
open Go.RowKit

def lessW (a b : Ra) : Bool := decide (wrap64 (a.num * b.den) < wrap64 (b.num * a.den))
theorem less_any (a b c d : Int) (w : World) :
    Calls Try.prog 71 #[.agg #[.int .i64 a, .int .i64 b], .agg #[.int .i64 c, .int .i64 d]] w fun e w' =>
      e = .returned (.bool (lessW ⟨a, b⟩ ⟨c, d⟩)) ∧ (w.alloc (.cells #[.int .i64 a, .int .i64 b] 25)).alloc (.cells #[.int .i64 c, .int .i64 d] 25) = w' := by
  go_enter Try.func71, Try.ntmps71
  go_wp2
  go_ret
  exact ⟨rfl, rfl⟩
theorem refLess_any (a b c d : Int) (w : World) :
    Calls Try.prog 40 #[.agg #[.int .i64 a, .int .i64 b], .agg #[.int .i64 c, .int .i64 d]] w fun e w' =>
      e = .returned (.bool (lessW ⟨a, b⟩ ⟨c, d⟩)) ∧ (w.alloc (.cells #[.int .i64 a, .int .i64 b] 25)).alloc (.cells #[.int .i64 c, .int .i64 d] 25) = w' := by
  go_enter Try.func40, Try.ntmps40
  go_wp2
  go_ret
  exact ⟨rfl, rfl⟩
/-- The closures 'more' of span and over. -/
theorem more1_any (a b c d : Int) (w : World) :
    Calls Try.prog 70 #[.agg #[.int .i64 a, .int .i64 b], .agg #[.int .i64 c, .int .i64 d]] w fun e w' =>
      e = .returned (.bool (lessW ⟨c, d⟩ ⟨a, b⟩)) ∧ (((w.alloc (.cells #[.int .i64 a, .int .i64 b] 25)).alloc (.cells #[.int .i64 c, .int .i64 d] 25)).alloc (.cells #[.int .i64 c, .int .i64 d] 25)).alloc (.cells #[.int .i64 a, .int .i64 b] 25) = w' := by
  go_enter Try.func70, Try.ntmps70
  go_wp2_with fail
  refine (less_any _ _ _ _ _).mono ?_; rintro e w' ⟨rfl, rfl⟩
  go_wp2_with fail
  go_ret
  exact ⟨rfl, rfl⟩
theorem more2_any (a b c d : Int) (w : World) :
    Calls Try.prog 76 #[.agg #[.int .i64 a, .int .i64 b], .agg #[.int .i64 c, .int .i64 d]] w fun e w' =>
      e = .returned (.bool (lessW ⟨c, d⟩ ⟨a, b⟩)) ∧ (((w.alloc (.cells #[.int .i64 a, .int .i64 b] 25)).alloc (.cells #[.int .i64 c, .int .i64 d] 25)).alloc (.cells #[.int .i64 c, .int .i64 d] 25)).alloc (.cells #[.int .i64 a, .int .i64 b] 25) = w' := by
  go_enter Try.func76, Try.ntmps76
  go_wp2_with fail
  refine (less_any _ _ _ _ _).mono ?_; rintro e w' ⟨rfl, rfl⟩
  go_wp2_with fail
  go_ret
  exact ⟨rfl, rfl⟩

theorem of_any (a b : Int) (w : World) :
    Calls Try.prog 42 #[.int .i64 a, .int .i64 b] w fun e w' => e = .returned (.agg #[.int .i64 a, .int .i64 b]) ∧ w.alloc (.cells #[.int .i64 a, .int .i64 b] 25) = w' := by
  go_enter Try.func42, Try.ntmps42
  go_wp2
  exact bodyPost_ret (v := .agg #[.int .i64 a, .int .i64 b]) (by simp [results, Try.results42, go_sem]) rfl ⟨rfl, rfl⟩
theorem station_any (a b c : Int) (w : World) :
    Calls Try.prog 45 #[.int .i64 a, .int .i64 b, .int .i64 c] w fun e w' => e = .returned (.agg #[.int .i64 a, .int .i64 b, .int .i64 c]) ∧ w.alloc (.cells #[.int .i64 a, .int .i64 b, .int .i64 c] 62) = w' := by
  go_enter Try.func45, Try.ntmps45
  go_wp2
  exact bodyPost_ret (v := .agg #[.int .i64 a, .int .i64 b, .int .i64 c]) (by simp [results, Try.results45, go_sem]) rfl ⟨rfl, rfl⟩
theorem lawSpan_any (a b c d : Int) (w : World) :
    Calls Try.prog 48 #[.int .i64 a, .int .i64 b, .int .i64 c, .int .i64 d] w fun e w' => e = .returned (.agg #[.int .i64 a, .int .i64 b, .int .i64 c, .int .i64 d]) ∧
      ((w.alloc (.cells #[.int .i64 a, .int .i64 b, .int .i64 c, .int .i64 d] 34)).alloc (.cells #[.int .i64 a, .int .i64 b] 25)).alloc (.cells #[.int .i64 c, .int .i64 d] 25) = w' := by
  go_enter Try.func48, Try.ntmps48
  go_wp2_with fail
  refine (of_any _ _ _).mono ?_; rintro e w' ⟨rfl, rfl⟩
  go_wp2_with fail
  refine (of_any _ _ _).mono ?_; rintro e w' ⟨rfl, rfl⟩
  go_wp2_with fail
  refine bodyPost_ret (v := .agg #[.int .i64 a, .int .i64 b, .int .i64 c, .int .i64 d]) (by simp [results, Try.results48, go_sem]) rfl ⟨rfl, ?_⟩
  simp [go_sem]
theorem great_any (n cap : Nat) (A : Option Addr) (w : World) : Calls Try.prog 13 #[.slice A n cap] w fun e w' => e = .returned (.bool (decide (35 < (n : Int)))) ∧ w = w' := by
  go_enter Try.func13, Try.ntmps13
  go_wp2
  go_ret
  exact ⟨rfl, rfl⟩

def isTilt (t : Ra) : Bool := decide (1 ≤ t.den ∧ t.den ≤ 1000000 ∧ -10000 * t.den ≤ t.num ∧ t.num ≤ 10000 * t.den)
theorem isTilt_any (a b : Int) (w : World) :
    Calls Try.prog 41 #[.agg #[.int .i64 a, .int .i64 b]] w fun e w' => e = .returned (.bool (isTilt ⟨a, b⟩)) ∧ w.alloc (.cells #[.int .i64 a, .int .i64 b] 25) = w' := by
  go_enter Try.func41, Try.ntmps41
  go_wp2
  all_goals (go_ret; refine ⟨?_, rfl⟩; simp [isTilt, *]; try omega)

def smallR (a b : Ra) : Bool := decide (1 ≤ a.den ∧ a.den ≤ 1000 ∧ 1 ≤ b.den ∧ b.den ≤ 1000 ∧ -10000000 ≤ a.num ∧ a.num ≤ 10000000 ∧ -10000000 ≤ b.num ∧ b.num ≤ 10000000)
theorem small_any (a b c d : Int) (w : World) :
    Calls Try.prog 43 #[.agg #[.int .i64 a, .int .i64 b, .int .i64 c, .int .i64 d]] w fun e w' => e = .returned (.bool (smallR ⟨a, b⟩ ⟨c, d⟩)) ∧
      w.alloc (.cells #[.int .i64 a, .int .i64 b, .int .i64 c, .int .i64 d] 34) = w' := by
  go_enter Try.func43, Try.ntmps43
  go_wp2
  all_goals (go_ret; refine ⟨?_, rfl⟩; simp [smallR, *]; try omega)
end Go.Proofs.Ytbjmkmambmeifaa
