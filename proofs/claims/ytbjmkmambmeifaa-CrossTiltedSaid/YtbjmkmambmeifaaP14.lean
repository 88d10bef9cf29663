/- the reference's CheckHeights. -/
import Derived.Test.YtbjmkmambmeifaaP13
import Derived.Test.YtbjmkmambmeifaaP9
set_option linter.all false
set_option linter.unnecessarySimpa false
set_option linter.unusedSimpArgs false
set_option linter.unusedVariables false
set_option linter.unusedSectionVars false

namespace Go.Proofs.Ytbjmkmambmeifaa
open Go.RowKit

def gapeB (l : List St) (h : List Ra) (i k m : Nat) : Bool :=
  decide ((nthR h i).num * ((nthS l m).a - (nthS l k).a) * (nthR h k).den * (nthR h m).den + (nthR h m).num * ((nthS l k).a - (nthS l i).a) * (nthR h i).den * (nthR h k).den < (nthR h k).num * ((nthS l m).a - (nthS l i).a) * (nthR h i).den * (nthR h m).den)
def noGape (l : List St) (h : List Ra) : Bool := (List.range l.length).all fun i => (List.range l.length).all fun k => (List.range l.length).all fun m => !(decide (i < k) && decide (k < m) && gapeB l h i k m)
theorem noGape_iff (l : List St) (h : List Ra) : noGape l h = true ↔ ∀ i k m, i < k → k < m → m < l.length → gapeB l h i k m = false := by
  unfold noGape
  simp only [List.all_eq_true, List.mem_range]
  constructor
  · intro hx i k m h1 h2 h3
    have := hx i (by omega) k (by omega) m h3
    simpa [h1, h2] using this
  · intro hx i _ k _ m hm
    by_cases h1 : i < k
    · by_cases h2 : k < m
      · simp [h1, h2, hx i k m h1 h2 hm]
      · simp [h2]
    · simp [h1]
def checkHR (l : List St) (h : List Ra) : Int := if checkPair l ≠ 0 then checkPair l else if h.length ≠ l.length then 15 else if ∀ k, k < l.length → chB l h k = true then (if noGape l h = true then 0 else 22) else 3
theorem checkHR_pair (l : List St) (h : List Ra) (hp : checkPair l ≠ 0) : checkHR l h = checkPair l := by rw [checkHR, if_pos hp]
theorem checkHR_len (l : List St) (h : List Ra) (hp : checkPair l = 0) (h2 : h.length ≠ l.length) : checkHR l h = 15 := by rw [checkHR, if_neg (by simpa using hp), if_pos h2]
theorem checkHR_bad (l : List St) (h : List Ra) (hp : checkPair l = 0) (h2 : h.length = l.length) (k : Nat) (hk : k < l.length) (hb : chB l h k = false) : checkHR l h = 3 := by
  rw [checkHR, if_neg (by simpa using hp), if_neg (by simpa using h2), if_neg]
  intro h3; rw [h3 k hk] at hb; cases hb
theorem checkHR_gape (l : List St) (h : List Ra) (hp : checkPair l = 0) (h2 : h.length = l.length) (ha : ∀ k, k < l.length → chB l h k = true) (i k m : Nat) (h3 : i < k) (h4 : k < m) (h5 : m < l.length) (hb : gapeB l h i k m = true) : checkHR l h = 22 := by
  rw [checkHR, if_neg (by simpa using hp), if_neg (by simpa using h2), if_pos ha, if_neg]
  intro hx; rw [(noGape_iff l h).1 hx i k m h3 h4 h5] at hb; cases hb
theorem checkHR_ok (l : List St) (h : List Ra) (hp : checkPair l = 0) (h2 : h.length = l.length) (ha : ∀ k, k < l.length → chB l h k = true) (hb : ∀ i k m, i < k → k < m → m < l.length → gapeB l h i k m = false) : checkHR l h = 0 := by
  rw [checkHR, if_neg (by simpa using hp), if_neg (by simpa using h2), if_pos ha, if_pos ((noGape_iff l h).2 hb)]

set_option maxRecDepth 100000 in
set_option maxHeartbeats 8000000 in
theorem refCheckHeights_any (l : List St) (h : List Ra) (vl vh : Value) (w : World) (hl : l.length ≤ 1000) (hh : h.length ≤ 1000) (hs : RSt w w.heap.size vl l) (hr : RRa w w.heap.size vh h) :
    Calls Try.prog 23 #[vl, vh] w fun e w' => e = .returned (.int .i64 (checkHR l h)) ∧ Below w.heap.size w w' := by
  obtain ⟨e0, he0⟩ : ∃ e0, checkPair l = e0 := ⟨_, rfl⟩
  have hcall := fun w1 (hb : Below w.heap.size w w1) => refCheckPair_any l vl w1 hl ((hs.below hb).more hb.size)
  rw [he0] at hcall
  have HP := Lib.hid hcall; clear hcall
  by_cases hp : e0 = 0
  · subst hp
    have hn := checkPair_len l he0
    have hva := valid_at l he0
    obtain ⟨A, cap, b, off, rfl, hA, hc⟩ := hs.cells
    obtain ⟨A', cap', b', off', rfl, hA', hc'⟩ := hr.cells
    obtain ⟨rfl, hb⟩ := hA (by omega)
    have HC := Lib.hid hc; have HC' := Lib.hid hc'; have HVA := Lib.hid hva
    clear hc hc' hA hs hr hva
    by_cases hlen : h.length = l.length
    · have hbne : ((h.length : Int) != (l.length : Int)) = false := by simp; omega
      obtain ⟨rfl, hb'⟩ := hA' (by omega)
      clear hA'
      have HE0 := Lib.hid he0; have HLEN := Lib.hid hlen; clear he0 hlen
      go_enter Try.func23, Try.ntmps23
      go_wp2_with fail
      refine (HP.out _ (by exact bel_of)).mono ?_
      rintro e w1 ⟨rfl, hb1⟩
      go_wp2_with fail
      go_loopw [5] (fun iv wr => ∃ k : Nat, k ≤ h.length ∧ iv = .int .i64 k ∧ Below w.heap.size w wr ∧ ∀ j, j < k → chB l h j = true) (fun i _ => h.length - (intOf i).toNat)
      case atStart => exact ⟨0, Nat.zero_le _, rfl, by exact bel_of, fun j hj => absurd hj (by omega)⟩
      case round =>
        clear hb1
        obtain ⟨k, hk, rfl, hbw, hall⟩ := hrel
        have HA := Lib.hid hall; clear hall
        have hsz := hbw.size
        by_cases hlt : k < h.length
        · have hkl : k < l.length := by rw [← HLEN.out]; exact hlt
          have hcell := HC.out k hkl
          have hcell' := HC'.out k hlt
          rw [← hbw.cell (by exact hb), ← hbw.cell (by exact hb), ← hbw.cell (by exact hb)] at hcell
          rw [← hbw.cell (by exact hb'), ← hbw.cell (by exact hb')] at hcell'
          obtain ⟨c0, c1, c2⟩ := hcell
          obtain ⟨c3, c4⟩ := hcell'
          have hbr : b < wr.heap.size := by omega
          have hbr' : b' < wr.heap.size := by omega
          have hbr1 : b < wr.heap.size + 1 := by omega
          have q0 := HVA.out k hkl
          by_cases h0 : (nthR h k).den < 1
          · have d0 := decide_eq_true h0
            have HT := Lib.hid (checkHR_bad l h HE0.out HLEN.out k hkl (by simp [chB, inB]; omega))
            go_wp2_with fail
            go_quiet (fail)
            go_wp2_with fail
            go_ret
            exact ⟨ret_int HT.out.symm, by exact bel_of⟩
          have d0 := decide_eq_false h0
          by_cases h1 : 1000 < (nthR h k).den
          · have d1 := decide_eq_true h1
            have HT := Lib.hid (checkHR_bad l h HE0.out HLEN.out k hkl (by simp [chB, inB]; omega))
            go_wp2_with fail
            go_quiet (fail)
            go_wp2_with fail
            go_ret
            exact ⟨ret_int HT.out.symm, by exact bel_of⟩
          have d1 := decide_eq_false h1
          by_cases h2 : (nthR h k).num < -1000000
          · have d2 := decide_eq_true h2
            have HT := Lib.hid (checkHR_bad l h HE0.out HLEN.out k hkl (by simp [chB, inB]; omega))
            go_wp2_with fail
            go_quiet (fail)
            go_wp2_with fail
            go_ret
            exact ⟨ret_int HT.out.symm, by exact bel_of⟩
          have d2 := decide_eq_false h2
          by_cases h3 : 1000000 < (nthR h k).num
          · have d3 := decide_eq_true h3
            have HT := Lib.hid (checkHR_bad l h HE0.out HLEN.out k hkl (by simp [chB, inB]; omega))
            go_wp2_with fail
            go_quiet (fail)
            go_wp2_with fail
            go_ret
            exact ⟨ret_int HT.out.symm, by exact bel_of⟩
          have d3 := decide_eq_false h3
          have e1 := mul_bd (nthS l k).lo (nthR h k).den 1000 1000 (by omega) (by omega)
          have e2 := mul_bd (nthS l k).hi (nthR h k).den 1000 1000 (by omega) (by omega)
          simp only [Nat.reduceMul] at e1 e2
          by_cases h4 : (nthR h k).num < (nthS l k).lo * (nthR h k).den
          · have d4 := decide_eq_true h4
            have HT := Lib.hid (checkHR_bad l h HE0.out HLEN.out k hkl (by simp [chB, inB]; omega))
            go_wp2_with fail
            go_quiet (fail)
            go_wp2_with fail
            go_ret
            exact ⟨ret_int HT.out.symm, by exact bel_of⟩
          have d4 := decide_eq_false h4
          by_cases h5 : (nthS l k).hi * (nthR h k).den < (nthR h k).num
          · have d5 := decide_eq_true h5
            have HT := Lib.hid (checkHR_bad l h HE0.out HLEN.out k hkl (by simp [chB, inB]; omega))
            go_wp2_with fail
            go_quiet (fail)
            go_wp2_with fail
            go_ret
            exact ⟨ret_int HT.out.symm, by exact bel_of⟩
          have d5 := decide_eq_false h5
          have HQ := Lib.hid (by simp [chB, inB]; omega : chB l h k = true)
          go_wp2_with fail
          go_quiet (fail)
          go_wp2_with fail
          go_roundw
          case rel => exact ⟨k + 1, by omega, by go_num, by exact bel_of, fun j hj => by
            rcases Nat.lt_succ_iff_lt_or_eq.1 hj with h1 | rfl
            · exact HA.out j h1
            · exact HQ.out⟩
          case measure => simp [intOf]; omega
        · have HALL := Lib.hid (fun j (hj : j < l.length) => HA.out j (by rw [HLEN.out] at hlt; omega))
          clear HA
          go_wp2_with fail
          go_loopw [7] (fun iv wr => ∃ i : Nat, i ≤ l.length ∧ iv = .int .i64 i ∧ Below w.heap.size w wr ∧ ∀ i' k m, i' < i → i' < k → k < m → m < l.length → gapeB l h i' k m = false) (fun i _ => l.length - (intOf i).toNat)
          case atStart => exact ⟨0, Nat.zero_le _, rfl, hbw, fun i' k m h1 => absurd h1 (by omega)⟩
          case round =>
            clear hbw hsz
            obtain ⟨i, hi, rfl, hbw, hp1⟩ := hrel
            have HP1 := Lib.hid hp1; clear hp1
            by_cases hil : i < l.length
            · go_wp2_with fail
              go_loopw [8] (fun kv wr => ∃ k : Nat, i + 1 ≤ k ∧ k ≤ l.length ∧ kv = .int .i64 k ∧ Below w.heap.size w wr ∧ ∀ k' m, i < k' → k' < k → k' < m → m < l.length → gapeB l h i k' m = false) (fun k _ => l.length - (intOf k).toNat)
              case atStart => exact ⟨i + 1, Nat.le_refl _, by omega, by go_num, hbw, fun k' m h1 h2 => absurd h1 (by omega)⟩
              case round =>
                clear hbw
                obtain ⟨k, hk0, hk, rfl, hbw, hp2⟩ := hrel
                have HP2 := Lib.hid hp2; clear hp2
                by_cases hkl : k < l.length
                · go_wp2_with fail
                  go_loopw [9] (fun mv wr => ∃ m : Nat, k + 1 ≤ m ∧ m ≤ l.length ∧ mv = .int .i64 m ∧ Below w.heap.size w wr ∧ ∀ m', k < m' → m' < m → gapeB l h i k m' = false) (fun m _ => l.length - (intOf m).toNat)
                  case atStart => exact ⟨k + 1, Nat.le_refl _, by omega, by go_num, hbw, fun m' h1 h2 => absurd h1 (by omega)⟩
                  case round =>
                    clear hbw
                    obtain ⟨m, hm0, hm, rfl, hbw, hp3⟩ := hrel
                    have HP3 := Lib.hid hp3; clear hp3
                    have hsz := hbw.size
                    by_cases hml : m < l.length
                    · have hd0 := chB_at l h i (HALL.out i hil)
                      have hd1 := chB_at l h k (HALL.out k hkl)
                      have hd2 := chB_at l h m (HALL.out m hml)
                      have ha0 := HVA.out i hil
                      have ha1 := HVA.out k hkl
                      have ha2 := HVA.out m hml
                      have hih : i < h.length := by rw [HLEN.out]; exact hil
                      have hkh : k < h.length := by rw [HLEN.out]; exact hkl
                      have hmh : m < h.length := by rw [HLEN.out]; exact hml
                      have hx0 := HC'.out i hih
                      have hx1 := HC'.out k hkh
                      have hx2 := HC'.out m hmh
                      have hy0 := HC.out i hil
                      have hy1 := HC.out k hkl
                      have hy2 := HC.out m hml
                      rw [← hbw.cell (by exact hb'), ← hbw.cell (by exact hb')] at hx0 hx1 hx2
                      rw [← hbw.cell (by exact hb), ← hbw.cell (by exact hb), ← hbw.cell (by exact hb)] at hy0 hy1 hy2
                      obtain ⟨x0, x1⟩ := hx0
                      obtain ⟨x2, x3⟩ := hx1
                      obtain ⟨x4, x5⟩ := hx2
                      obtain ⟨s0, _, _⟩ := hy0
                      obtain ⟨s1, _, _⟩ := hy1
                      obtain ⟨s2, _, _⟩ := hy2
                      have hbr : b < wr.heap.size := by omega
                      have hbr' : b' < wr.heap.size := by omega
                      have hbend : gapeB l h i k m = decide ((nthR h i).num * ((nthS l m).a - (nthS l k).a) * (nthR h k).den * (nthR h m).den + (nthR h m).num * ((nthS l k).a - (nthS l i).a) * (nthR h i).den * (nthR h k).den < (nthR h k).num * ((nthS l m).a - (nthS l i).a) * (nthR h i).den * (nthR h m).den) := rfl
                      have HBD := Lib.hid hbend; clear hbend
                      go_upto_region 20 with fail
                      go_cut [10, 11, 12] (fun p q r wx => ∃ g0 g1 g2, p = .pointer (some ⟨g0, 0, none⟩) ∧ q = .pointer (some ⟨g1, 0, none⟩) ∧ r = .pointer (some ⟨g2, 0, none⟩) ∧ BK wx g0 #[.int .i64 (nthR h i).num, .int .i64 (nthR h i).den] 25 ∧ BK wx g1 #[.int .i64 (nthR h k).num, .int .i64 (nthR h k).den] 25 ∧ BK wx g2 #[.int .i64 (nthR h m).num, .int .i64 (nthR h m).den] 25 ∧ Below wr.heap.size wr wx)
                      case first =>
                        refine plain_read 12 6 mixed (by kernel_rfl) rfl ?_
                        simp only [List.take_succ_cons, List.take_zero]
                        (repeat (first | (refine ⟨undef, .inr ⟨by rfl, rfl⟩, ?_⟩; simp only [Act.put, List.setIfInBounds_toArray, List.set_cons_succ, List.set_cons_zero]) | (refine ⟨?_, .inl ⟨by rfl, ?_⟩, ?_⟩; rotate_left; (intro X hX; obtain ⟨r1, r2⟩ := Below.rules hX; clear hX; go_simp; rfl); simp only [Act.put, List.setIfInBounds_toArray, List.set_cons_succ, List.set_cons_zero])))
                        refine any_run3 (i := 12) (j := 13) (k := 14) (by kernel_rfl) (by rfl) (by rfl) (by rfl) (by rfl) (by rfl) (by rfl) ?_ ?_ ?_
                        · intro K hK
                          go_wp2_with fail
                          refine hK _ _ (fun _ => by exact bel_of) ?_
                          clear hK K
                          refine any_run2 (i := 13) (j := 14) (by kernel_rfl) (by rfl) (by rfl) (by rfl) (by rfl) ?_ ?_
                          · intro K hK
                            go_wp2_with fail
                            refine hK _ _ (fun _ => by exact bel_of) ?_
                            clear hK K
                            refine any_run1 (i := 14) (by kernel_rfl) (by rfl) (by rfl) ?_
                            intro K hK
                            go_wp2_with fail
                            refine hK _ _ (fun _ => by exact bel_of) ?_
                            clear hK K
                            refine any_run1 (i := 15) (by kernel_rfl) (by rfl) (by rfl) ?_
                            intro K hK
                            go_wp2_with fail
                            refine hK _ _ (fun _ => by exact bel_of) ?_
                            clear hK K
                            refine any_run1 (i := 16) (by kernel_rfl) (by rfl) (by rfl) ?_
                            intro K hK
                            go_wp2_with fail
                            refine hK _ _ (fun _ => by exact bel_of) ?_
                            clear hK K
                            refine any_run1 (i := 17) (by kernel_rfl) (by rfl) (by rfl) ?_
                            intro K hK
                            go_wp2_with fail
                            refine hK _ _ (fun hx => (Bool.false_ne_true (hx.symm.trans (by kernel_rfl))).elim) ?_
                            clear hK K
                            refine any_done (by kernel_rfl) (NoPanic.normal ?_)
                            go_wp2_with fail
                            go_meet
                            exact ⟨_, _, _, rfl, rfl, rfl, by (repeat (first | assumption | (refine BK.new' _ _ _ _ ?_; simp; done) | refine BK.alloc ?_ _)), by (repeat (first | assumption | (refine BK.new' _ _ _ _ ?_; simp; done) | refine BK.alloc ?_ _)), by (repeat (first | assumption | (refine BK.new' _ _ _ _ ?_; simp; done) | refine BK.alloc ?_ _)), by exact bel_of⟩
                          · intro K hK
                            go_wp2_with fail
                            refine hK _ _ (fun _ => by exact bel_of) ?_
                            clear hK K
                            refine any_run1 (i := 13) (by kernel_rfl) (by rfl) (by rfl) ?_
                            intro K hK
                            go_wp2_with fail
                            refine hK _ _ (fun _ => by exact bel_of) ?_
                            clear hK K
                            refine any_run1 (i := 15) (by kernel_rfl) (by rfl) (by rfl) ?_
                            intro K hK
                            go_wp2_with fail
                            refine hK _ _ (fun _ => by exact bel_of) ?_
                            clear hK K
                            refine any_run1 (i := 16) (by kernel_rfl) (by rfl) (by rfl) ?_
                            intro K hK
                            go_wp2_with fail
                            refine hK _ _ (fun _ => by exact bel_of) ?_
                            clear hK K
                            refine any_run1 (i := 17) (by kernel_rfl) (by rfl) (by rfl) ?_
                            intro K hK
                            go_wp2_with fail
                            refine hK _ _ (fun hx => (Bool.false_ne_true (hx.symm.trans (by kernel_rfl))).elim) ?_
                            clear hK K
                            refine any_done (by kernel_rfl) (NoPanic.normal ?_)
                            go_wp2_with fail
                            go_meet
                            exact ⟨_, _, _, rfl, rfl, rfl, by (repeat (first | assumption | (refine BK.new' _ _ _ _ ?_; simp; done) | refine BK.alloc ?_ _)), by (repeat (first | assumption | (refine BK.new' _ _ _ _ ?_; simp; done) | refine BK.alloc ?_ _)), by (repeat (first | assumption | (refine BK.new' _ _ _ _ ?_; simp; done) | refine BK.alloc ?_ _)), by exact bel_of⟩
                        · intro K hK
                          go_wp2_with fail
                          refine hK _ _ (fun _ => by exact bel_of) ?_
                          clear hK K
                          refine any_run2 (i := 12) (j := 14) (by kernel_rfl) (by rfl) (by rfl) (by rfl) (by rfl) ?_ ?_
                          · intro K hK
                            go_wp2_with fail
                            refine hK _ _ (fun _ => by exact bel_of) ?_
                            clear hK K
                            refine any_run1 (i := 14) (by kernel_rfl) (by rfl) (by rfl) ?_
                            intro K hK
                            go_wp2_with fail
                            refine hK _ _ (fun _ => by exact bel_of) ?_
                            clear hK K
                            refine any_run1 (i := 15) (by kernel_rfl) (by rfl) (by rfl) ?_
                            intro K hK
                            go_wp2_with fail
                            refine hK _ _ (fun _ => by exact bel_of) ?_
                            clear hK K
                            refine any_run1 (i := 16) (by kernel_rfl) (by rfl) (by rfl) ?_
                            intro K hK
                            go_wp2_with fail
                            refine hK _ _ (fun _ => by exact bel_of) ?_
                            clear hK K
                            refine any_run1 (i := 17) (by kernel_rfl) (by rfl) (by rfl) ?_
                            intro K hK
                            go_wp2_with fail
                            refine hK _ _ (fun hx => (Bool.false_ne_true (hx.symm.trans (by kernel_rfl))).elim) ?_
                            clear hK K
                            refine any_done (by kernel_rfl) (NoPanic.normal ?_)
                            go_wp2_with fail
                            go_meet
                            exact ⟨_, _, _, rfl, rfl, rfl, by (repeat (first | assumption | (refine BK.new' _ _ _ _ ?_; simp; done) | refine BK.alloc ?_ _)), by (repeat (first | assumption | (refine BK.new' _ _ _ _ ?_; simp; done) | refine BK.alloc ?_ _)), by (repeat (first | assumption | (refine BK.new' _ _ _ _ ?_; simp; done) | refine BK.alloc ?_ _)), by exact bel_of⟩
                          · intro K hK
                            go_wp2_with fail
                            refine hK _ _ (fun _ => by exact bel_of) ?_
                            clear hK K
                            refine any_run1 (i := 12) (by kernel_rfl) (by rfl) (by rfl) ?_
                            intro K hK
                            go_wp2_with fail
                            refine hK _ _ (fun _ => by exact bel_of) ?_
                            clear hK K
                            refine any_run1 (i := 15) (by kernel_rfl) (by rfl) (by rfl) ?_
                            intro K hK
                            go_wp2_with fail
                            refine hK _ _ (fun _ => by exact bel_of) ?_
                            clear hK K
                            refine any_run1 (i := 16) (by kernel_rfl) (by rfl) (by rfl) ?_
                            intro K hK
                            go_wp2_with fail
                            refine hK _ _ (fun _ => by exact bel_of) ?_
                            clear hK K
                            refine any_run1 (i := 17) (by kernel_rfl) (by rfl) (by rfl) ?_
                            intro K hK
                            go_wp2_with fail
                            refine hK _ _ (fun hx => (Bool.false_ne_true (hx.symm.trans (by kernel_rfl))).elim) ?_
                            clear hK K
                            refine any_done (by kernel_rfl) (NoPanic.normal ?_)
                            go_wp2_with fail
                            go_meet
                            exact ⟨_, _, _, rfl, rfl, rfl, by (repeat (first | assumption | (refine BK.new' _ _ _ _ ?_; simp; done) | refine BK.alloc ?_ _)), by (repeat (first | assumption | (refine BK.new' _ _ _ _ ?_; simp; done) | refine BK.alloc ?_ _)), by (repeat (first | assumption | (refine BK.new' _ _ _ _ ?_; simp; done) | refine BK.alloc ?_ _)), by exact bel_of⟩
                        · intro K hK
                          go_wp2_with fail
                          refine hK _ _ (fun _ => by exact bel_of) ?_
                          clear hK K
                          refine any_run2 (i := 12) (j := 13) (by kernel_rfl) (by rfl) (by rfl) (by rfl) (by rfl) ?_ ?_
                          · intro K hK
                            go_wp2_with fail
                            refine hK _ _ (fun _ => by exact bel_of) ?_
                            clear hK K
                            refine any_run1 (i := 13) (by kernel_rfl) (by rfl) (by rfl) ?_
                            intro K hK
                            go_wp2_with fail
                            refine hK _ _ (fun _ => by exact bel_of) ?_
                            clear hK K
                            refine any_run1 (i := 15) (by kernel_rfl) (by rfl) (by rfl) ?_
                            intro K hK
                            go_wp2_with fail
                            refine hK _ _ (fun _ => by exact bel_of) ?_
                            clear hK K
                            refine any_run1 (i := 16) (by kernel_rfl) (by rfl) (by rfl) ?_
                            intro K hK
                            go_wp2_with fail
                            refine hK _ _ (fun _ => by exact bel_of) ?_
                            clear hK K
                            refine any_run1 (i := 17) (by kernel_rfl) (by rfl) (by rfl) ?_
                            intro K hK
                            go_wp2_with fail
                            refine hK _ _ (fun hx => (Bool.false_ne_true (hx.symm.trans (by kernel_rfl))).elim) ?_
                            clear hK K
                            refine any_done (by kernel_rfl) (NoPanic.normal ?_)
                            go_wp2_with fail
                            go_meet
                            exact ⟨_, _, _, rfl, rfl, rfl, by (repeat (first | assumption | (refine BK.new' _ _ _ _ ?_; simp; done) | refine BK.alloc ?_ _)), by (repeat (first | assumption | (refine BK.new' _ _ _ _ ?_; simp; done) | refine BK.alloc ?_ _)), by (repeat (first | assumption | (refine BK.new' _ _ _ _ ?_; simp; done) | refine BK.alloc ?_ _)), by exact bel_of⟩
                          · intro K hK
                            go_wp2_with fail
                            refine hK _ _ (fun _ => by exact bel_of) ?_
                            clear hK K
                            refine any_run1 (i := 12) (by kernel_rfl) (by rfl) (by rfl) ?_
                            intro K hK
                            go_wp2_with fail
                            refine hK _ _ (fun _ => by exact bel_of) ?_
                            clear hK K
                            refine any_run1 (i := 15) (by kernel_rfl) (by rfl) (by rfl) ?_
                            intro K hK
                            go_wp2_with fail
                            refine hK _ _ (fun _ => by exact bel_of) ?_
                            clear hK K
                            refine any_run1 (i := 16) (by kernel_rfl) (by rfl) (by rfl) ?_
                            intro K hK
                            go_wp2_with fail
                            refine hK _ _ (fun _ => by exact bel_of) ?_
                            clear hK K
                            refine any_run1 (i := 17) (by kernel_rfl) (by rfl) (by rfl) ?_
                            intro K hK
                            go_wp2_with fail
                            refine hK _ _ (fun hx => (Bool.false_ne_true (hx.symm.trans (by kernel_rfl))).elim) ?_
                            clear hK K
                            refine any_done (by kernel_rfl) (NoPanic.normal ?_)
                            go_wp2_with fail
                            go_meet
                            exact ⟨_, _, _, rfl, rfl, rfl, by (repeat (first | assumption | (refine BK.new' _ _ _ _ ?_; simp; done) | refine BK.alloc ?_ _)), by (repeat (first | assumption | (refine BK.new' _ _ _ _ ?_; simp; done) | refine BK.alloc ?_ _)), by (repeat (first | assumption | (refine BK.new' _ _ _ _ ?_; simp; done) | refine BK.alloc ?_ _)), by exact bel_of⟩
                      case rest =>
                        obtain ⟨g0, g1, g2, rfl, rfl, rfl, b0, b1, b2, hbx⟩ := hcut
                        have hbw2 : Below w.heap.size w wc := hbw.trans (hbx.mono hsz)
                        rw [← hbx.cell (by exact hbr)] at s0 s1 s2
                        have hxs := hbx.size
                        have hbr2 : b < wc.heap.size := by omega
                        have u0 := b0.cell 0
                        have u1 := b0.cell 1
                        have v0 := b1.cell 0
                        have v1 := b1.cell 1
                        have z0 := b2.cell 0
                        have z1 := b2.cell 1
                        simp at u0 u1 v0 v1 z0 z1
                        clear x0 x1 x2 x3 x4 x5 b0 b1 b2
                        have e1 := mul_bd (nthR h i).num ((nthS l m).a - (nthS l k).a) 1000000 1000 (by omega) (by omega)
                        have e2 := mul_bd (nthR h m).num ((nthS l k).a - (nthS l i).a) 1000000 1000 (by omega) (by omega)
                        have e3 := mul_bd (nthR h k).num ((nthS l m).a - (nthS l i).a) 1000000 1000 (by omega) (by omega)
                        simp only [Nat.reduceMul] at e1 e2 e3
                        have e4 := mul_bd ((nthR h i).num * ((nthS l m).a - (nthS l k).a)) (nthR h k).den 1000000000 1000 (by omega) (by omega)
                        have e5 := mul_bd ((nthR h m).num * ((nthS l k).a - (nthS l i).a)) (nthR h i).den 1000000000 1000 (by omega) (by omega)
                        have e6 := mul_bd ((nthR h k).num * ((nthS l m).a - (nthS l i).a)) (nthR h i).den 1000000000 1000 (by omega) (by omega)
                        simp only [Nat.reduceMul] at e4 e5 e6
                        have e7 := mul_bd ((nthR h i).num * ((nthS l m).a - (nthS l k).a) * (nthR h k).den) (nthR h m).den 1000000000000 1000 (by omega) (by omega)
                        have e8 := mul_bd ((nthR h m).num * ((nthS l k).a - (nthS l i).a) * (nthR h i).den) (nthR h k).den 1000000000000 1000 (by omega) (by omega)
                        have e9 := mul_bd ((nthR h k).num * ((nthS l m).a - (nthS l i).a) * (nthR h i).den) (nthR h m).den 1000000000000 1000 (by omega) (by omega)
                        simp only [Nat.reduceMul] at e7 e8 e9
                        obtain ⟨q, hq⟩ : ∃ q, gapeB l h i k m = q := ⟨_, rfl⟩
                        have dq := HBD.out.symm.trans hq
                        have HQ := Lib.hid hq
                        clear hq
                        cases q with
                        | true =>
                          have HT := Lib.hid (checkHR_gape l h HE0.out HLEN.out HALL.out i k m (by omega) (by omega) hml HQ.out)
                          go_wp2_with fail
                          go_quiet (fail)
                          go_wp2_with fail
                          go_ret
                          exact ⟨ret_int HT.out.symm, by exact bel_of⟩
                        | false =>
                          go_wp2_with fail
                          go_quiet (fail)
                          go_wp2_with fail
                          go_roundw
                          case rel => exact ⟨m + 1, by omega, by omega, by go_num, by exact bel_of, fun m' h1 h2 => by
                            rcases Nat.lt_succ_iff_lt_or_eq.1 h2 with h3 | rfl
                            · exact HP3.out m' h1 h3
                            · exact HQ.out⟩
                          case measure => simp [intOf]; omega
                    · have hme : m = l.length := by omega
                      go_wp2_with fail
                      go_roundw
                      case rel => exact ⟨k + 1, by omega, by omega, by go_num, hbw, fun k' m' h1 h2 h3 h4 => by
                        rcases Nat.lt_succ_iff_lt_or_eq.1 h2 with h5 | rfl
                        · exact HP2.out k' m' h1 h5 h3 h4
                        · exact HP3.out m' h3 (by omega)⟩
                      case measure => simp [intOf]; omega
                · have hke : k = l.length := by omega
                  go_wp2_with fail
                  go_roundw
                  case rel => exact ⟨i + 1, by omega, by go_num, hbw, fun i' k' m' h1 h2 h3 h4 => by
                    rcases Nat.lt_succ_iff_lt_or_eq.1 h1 with h5 | rfl
                    · exact HP1.out i' k' m' h5 h2 h3 h4
                    · exact HP2.out k' m' h2 (by omega) h3 h4⟩
                  case measure => simp [intOf]; omega
            · have hie : i = l.length := by omega
              have HT := Lib.hid (checkHR_ok l h HE0.out HLEN.out HALL.out fun i' k' m' h1 h2 h3 => HP1.out i' k' m' (by omega) h1 h2 h3)
              clear hie
              go_wp2_with fail
              go_ret
              exact ⟨ret_int HT.out.symm, by exact bel_of⟩
    · have hbne : ((h.length : Int) != (l.length : Int)) = true := by simp; omega
      have HT := Lib.hid (checkHR_len l h he0 hlen)
      clear hlen he0
      go_enter Try.func23, Try.ntmps23
      go_wp2_with fail
      refine (HP.out _ (by exact bel_of)).mono ?_
      rintro e w1 ⟨rfl, hb1⟩
      go_wp2_with fail
      go_ret
      exact ⟨ret_int HT.out.symm, by exact bel_of⟩
  · have hpb : (e0 != 0) = true := by simpa using hp
    have HT := Lib.hid (checkHR_pair l h (by rw [he0]; exact hp))
    have HE := Lib.hid he0
    clear he0 hs hr
    go_enter Try.func23, Try.ntmps23
    go_wp2_with fail
    refine (HP.out _ (by exact bel_of)).mono ?_
    rintro e w1 ⟨rfl, hb1⟩
    have hB1 : Below w.heap.size w w1 := by exact bel_of
    go_wp2_with fail
    refine (HP.out _ hB1).mono ?_
    rintro e w2 ⟨rfl, hb2⟩
    have hB2 : Below w.heap.size w w2 := hB1.trans (hb2.mono hB1.size)
    go_wp2_with fail
    go_ret
    exact ⟨ret_int (by rw [HT.out, HE.out]), by exact bel_of⟩
end Go.Proofs.Ytbjmkmambmeifaa
