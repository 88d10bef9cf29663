/- Plain laws: heights that meet at neighbours meet everywhere. the reference's Contact. A map of numbers by places, as a function. Contact: what it keeps in mind, and the append to a full slice. Contact. When two arrays are equal. -/
import Derived.Test.YtbjmkmambmeifaaP12
import Derived.Test.YtbjmkmambmeifaaP13
import Derived.Test.YtbjmkmambmeifaaP14
import Derived.Test.YtbjmkmambmeifaaP4
import Derived.Test.YtbjmkmambmeifaaP3
import Derived.Test.YtbjmkmambmeifaaP8
import Derived.Test.YtbjmkmambmeifaaP2
import Derived.Test.YtbjmkmambmeifaaP1
import Derived.Maps.OwnSet
import Derived.ArgAppend
import Derived.Carry
import Derived.Laws.StructEq
set_option linter.all false
set_option linter.unnecessarySimpa false
set_option linter.unusedSimpArgs false
set_option linter.unusedVariables false
set_option linter.unusedSectionVars false

namespace Go.Proofs.Ytbjmkmambmeifaa
open Go.RowKit
namespace Ma

theorem V_num {r : Ra} (h : 0 < r.den) : ((r.num : Int) : Rat) = V r * ((r.den : Int) : Rat) := by
  have := rpos h
  have h2 : ((r.den : Int) : Rat) ≠ 0 := by grind
  unfold V; grind
theorem mul_lt_iff {d a b c e : Rat} (hd : 0 < d) (h1 : c = d * a) (h2 : e = d * b) : c < e ↔ a < b := by
  rw [h1, h2]; exact Rat.mul_lt_mul_left hd
theorem bend_iff (l : List St) (h : List Ra) {i k m : Nat} (hi : 0 < (nthR h i).den) (hk : 0 < (nthR h k).den) (hm : 0 < (nthR h m).den) :
    gapeB l h i k m = true ↔ V (nthR h i) * (X l m - X l k) + V (nthR h m) * (X l k - X l i) < V (nthR h k) * (X l m - X l i) := by
  unfold gapeB
  rw [decide_eq_true_eq, ← Rat.intCast_lt_intCast]
  simp only [Rat.intCast_sub, Rat.intCast_add, Rat.intCast_mul]
  rw [V_num hi, V_num hk, V_num hm]
  have p := Rat.mul_pos (Rat.mul_pos (rpos hi) (rpos hk)) (rpos hm)
  refine mul_lt_iff p ?_ ?_
  · unfold X; grind
  · unfold X; grind
theorem bend2_iff (l : List St) (h : List Ra) {i : Nat} (hi : 0 < (nthR h i).den) (hk : 0 < (nthR h (i + 1)).den) (hm : 0 < (nthR h (i + 2)).den) :
    bendB l h i = true ↔ (V (nthR h (i + 2)) - V (nthR h (i + 1))) * (X l (i + 1) - X l i) < (V (nthR h (i + 1)) - V (nthR h i)) * (X l (i + 2) - X l (i + 1)) := by
  unfold bendB
  rw [decide_eq_true_eq, ← Rat.intCast_lt_intCast]
  simp only [Rat.intCast_sub, Rat.intCast_add, Rat.intCast_mul]
  rw [V_num hi, V_num hk, V_num hm]
  have p := Rat.mul_pos (Rat.mul_pos (rpos hi) (rpos hk)) (rpos hm)
  refine mul_lt_iff p ?_ ?_
  · unfold X; grind
  · unfold X; grind
theorem noGape_iff (l : List St) (h : List Ra) : noGape l h = true ↔ ∀ i k m, i < k → k < m → m < l.length → gapeB l h i k m = false := by
  unfold noGape
  simp only [List.all_eq_true, List.mem_range]
  constructor
  · intro hA i k m a b c
    have := hA i (by omega) k (by omega) m c
    simpa [a, b] using this
  · intro hA i _ k _ m hm
    by_cases a : i < k
    · by_cases b : k < m
      · simp [hA i k m a b hm]
      · simp [b]
    · simp [a]
theorem meet_iff (l : List St) (h : List Ra) (hg : Gd l) (hd : ∀ k, k < l.length → 0 < (nthR h k).den) : (∀ k, k < l.length - 2 → bendB l h k = false) ↔ noGape l h = true := by
  rw [noGape_iff]
  constructor
  · intro hA i k m a b c
    have hc : ∀ j, j + 2 < l.length → (V (nthR h (j + 1)) - V (nthR h j)) * (X l (j + 2) - X l (j + 1)) ≤ (V (nthR h (j + 2)) - V (nthR h (j + 1))) * (X l (j + 1) - X l j) := by
      intro j hj
      rw [← Rat.not_lt, ← bend2_iff l h (hd _ (by omega)) (hd _ (by omega)) (hd _ hj), hA j (by omega)]
      simp
    have := conv_all (H := fun j => V (nthR h j)) (x := X l) (n := l.length) (fun j hj => hg.X (Nat.lt_succ_self j) hj) hc i k m a b c
    rw [← Bool.not_eq_true, bend_iff l h (hd _ (by omega)) (hd _ (by omega)) (hd _ c), Rat.not_lt]
    grind
  · intro hA k hk
    have := hA k (k + 1) (k + 2) (by omega) (by omega) (by omega)
    rw [← Bool.not_eq_true, bend_iff l h (hd _ (by omega)) (hd _ (by omega)) (hd _ (by omega)), Rat.not_lt] at this
    rw [← Bool.not_eq_true, bend2_iff l h (hd _ (by omega)) (hd _ (by omega)) (hd _ (by omega)), Rat.not_lt]
    grind
theorem chB_den {l : List St} {h : List Ra} {k : Nat} (hc : chB l h k = true) : 0 < (nthR h k).den := by
  simp [chB, inB] at hc; omega
theorem check_eq (l : List St) (h : List Ra) : checkHP l h = checkHR l h := by
  unfold checkHP checkHR
  by_cases h0 : checkPair l = 0
  · have hn : ¬ checkPair l ≠ 0 := fun h2 => h2 h0
    rw [if_neg hn, if_neg hn]
    by_cases hl : h.length ≠ l.length
    · rw [if_pos hl, if_pos hl]
    · rw [if_neg hl, if_neg hl]
      by_cases hc : ∀ k, k < l.length → chB l h k = true
      · rw [if_pos hc, if_pos hc]
        have := meet_iff l h (gd l h0) (fun k hk => chB_den (hc k hk))
        by_cases hm : noGape l h = true
        · rw [if_pos hm, if_pos (this.2 hm)]
        · rw [if_neg hm, if_neg (fun hx => hm (this.1 hx))]
      · rw [if_neg hc, if_neg hc]
  · rw [if_pos h0, if_pos h0]
end Ma
end Go.Proofs.Ytbjmkmambmeifaa

namespace Go.Proofs.Ytbjmkmambmeifaa
open Go.RowKit

/-- How high a station is when the blades are tilted. -/
def ctV (l : List St) (t : List Int) (x : Ra) (i : Nat) : Int := nthI t i * x.den - x.num * (nthS l i).a
def ctLeast (l : List St) (t : List Int) (x : Ra) (i : Nat) : Bool := (List.range l.length).all fun k => decide (ctV l t x i ≤ ctV l t x k)
def contactErr (l : List St) (t : List Int) (x : Ra) : Int := if checkTruth l t ≠ 0 then checkTruth l t else if isTilt x then 0 else 2
def contactL (l : List St) (t : List Int) (x : Ra) : List Int := if contactErr l t x = 0 then ((List.range l.length).filter (ctLeast l t x)).map (fun (i : Nat) => (i : Int)) else []
def ctL (l : List St) (t : List Int) (x : Ra) (n : Nat) : List Int := ((List.range n).filter (ctLeast l t x)).map (fun (i : Nat) => (i : Int))
theorem ctL_succ (l : List St) (t : List Int) (x : Ra) (n : Nat) : ctL l t x (n + 1) = if ctLeast l t x n then ctL l t x n ++ [(n : Int)] else ctL l t x n := by
  unfold ctL
  rw [List.range_succ, List.filter_append, List.map_append]
  split
  · rename_i h; simp [h]
  · rename_i h; simp [h]
theorem ctL_len (l : List St) (t : List Int) (x : Ra) (n : Nat) : (ctL l t x n).length ≤ n := by
  unfold ctL
  rw [List.length_map]
  exact Nat.le_trans (List.length_filter_le _ _) (by simp)
theorem tilt_at (x : Ra) (h : isTilt x = true) : 1 ≤ x.den ∧ x.den ≤ 1000000 ∧ -10000 * x.den ≤ x.num ∧ x.num ≤ 10000 * x.den := by simpa [isTilt] using h

set_option maxRecDepth 100000 in
set_option maxHeartbeats 4000000 in
theorem refContact_any (l : List St) (t : List Int) (x : Ra) (vl vt : Value) (w : World) (hl : l.length ≤ 1000) (ht : t.length ≤ 1000) (h : RSt w w.heap.size vl l) (h' : RI w w.heap.size vt t) :
    Calls Try.prog 16 #[vl, vt, .agg #[.int .i64 x.num, .int .i64 x.den]] w fun e w' => ∃ v, e = .returned (.tuple #[v, .int .i64 (contactErr l t x)]) ∧ RI w' w'.heap.size v (contactL l t x) ∧ Below w.heap.size w w' := by
  have hcall := fun w1 (hb : Below w.heap.size w w1) => isTruth_any l t vl vt w1 hl ht ((h.below hb).more hb.size) ((RS.below h' hb).more hb.size)
  by_cases hp : checkTruth l t = 0
  · rw [hp] at hcall
    have HP := Lib.hid hcall
    obtain ⟨hv, hlen, _⟩ := checkTruth_len0 l t hp
    have hn := checkPair_len l hv
    by_cases hx : isTilt x = true
    · have htl := tilt_at x hx
      have hE : contactErr l t x = 0 := by unfold contactErr; rw [if_neg (by simpa using hp), if_pos hx]
      have HE := Lib.hid hE
      have HL := Lib.hid (show contactL l t x = ctL l t x l.length by unfold contactL ctL; rw [if_pos hE])
      have htr := truth_rng l t hp
      have hva := valid_a l hv
      obtain ⟨A, cap, b, off, rfl, hA, hc⟩ := h.cells
      obtain ⟨A', cap', b', off', rfl, hA', hc'⟩ := RI.cells h'
      obtain ⟨rfl, hb⟩ := hA (by omega)
      obtain ⟨rfl, hb'⟩ := hA' (by omega)
      rw [hlen] at hc'
      have HC := Lib.hid hc; have HC' := Lib.hid hc'; have HTR := Lib.hid htr; have HVA := Lib.hid hva; have HLEN := Lib.hid hlen
      have hit := fun W => isTilt_any x.num x.den W
      have hx' : isTilt ⟨x.num, x.den⟩ = true := hx
      rw [hx'] at hit
      have HIT := Lib.hid hit
      clear hcall hp h h' hA hA' hc hc' htr hva hlen hE hx hit hx' hv
      go_enter Try.func16, Try.ntmps16
      go_wp2_with fail
      refine (HP.out _ (by exact bel_of)).mono ?_
      rintro e w1 ⟨rfl, hb1⟩
      have hB1 : Below w.heap.size w w1 := (Below.trans (a := w) (B := w.heap.size) (by exact bel_of) (hb1.mono (by first | omega | (simp; omega) | (simp; done))))
      have b1 : BK w1 w.heap.size #[.int .i64 x.num, .int .i64 x.den] 25 := BK.below (BK.new _ _ _) hb1 (by simp)
      have hlt1 := b1.lt
      clear hb1
      have y0 := b1.cell 0
      have y1 := b1.cell 1
      simp at y0 y1
      go_wp2_with fail
      refine (HIT.out _).mono ?_
      rintro e w2 ⟨rfl, rfl⟩
      clear y0 y1
      go_wp2_with fail
      go_loopw [8, 9] (fun acc iv wr => ∃ i : Nat, i ≤ l.length ∧ iv = .int .i64 i ∧ OwnI 3 wr (w.heap.size + 1) acc (ctL l t x i) ∧ BK wr w.heap.size #[.int .i64 x.num, .int .i64 x.den] 25 ∧ Below w.heap.size w wr) (fun _ i _ => l.length - (intOf i).toNat)
      case atStart => exact ⟨0, Nat.zero_le _, rfl, OwnI.nil _ _ _, b1.alloc _, by exact bel_of⟩
      case round =>
        clear hB1 b1 hlt1
        obtain ⟨i, hi, rfl, hown, b0, hbw⟩ := hrel
        have HO := Lib.hid hown; clear hown
        by_cases hil : i < l.length
        · go_wp2_with fail
          go_loopw [10, 11] (fun lv kv wi => ∃ k : Nat, k ≤ l.length ∧ kv = .int .i64 k ∧ lv = .bool ((List.range k).all fun k => decide (ctV l t x i ≤ ctV l t x k)) ∧ Below wr.heap.size wr wi) (fun _ k _ => l.length - (intOf k).toNat)
          case atStart => exact ⟨0, Nat.zero_le _, rfl, by simp, Below.refl _ _⟩
          case round =>
            obtain ⟨k, hk, rfl, rfl, hbi⟩ := hrel
            have hbwi : Below w.heap.size w wr := hbw.trans (hbi.mono hbw.size)
            have hszi := hbi.size
            have b0i := b0.below hbi b0.lt
            by_cases hkl : k < l.length
            · have hc := HC.out i hil
              have hc2 := HC.out k hkl
              have ht1 := HC'.out i hil
              have ht2 := HC'.out k hkl
              rw [← hbwi.cell (by exact hb), ← hbwi.cell (by exact hb), ← hbwi.cell (by exact hb)] at hc hc2
              rw [← hbwi.cell (by exact hb')] at ht1 ht2
              obtain ⟨c0, _, _⟩ := hc
              obtain ⟨c3, _, _⟩ := hc2
              have hszw := hbwi.size
              have hbr : b < wr.heap.size := by omega
              have hbr' : b' < wr.heap.size := by omega
              have hlt0 := b0i.lt
              have y0 := b0i.cell 0
              have y1 := b0i.cell 1
              simp at y0 y1
              have hit1 : i < t.length := by rw [HLEN.out]; exact hil
              have hit2 : k < t.length := by rw [HLEN.out]; exact hkl
              have q1 := HTR.out i hil
              have q2 := HTR.out k hkl
              have q3 := HVA.out i hil
              have q4 := HVA.out k hkl
              have e1 := mul_bd (nthI t i) x.den 1000 1000000 (by omega) (by omega)
              have e2 := mul_bd (nthI t k) x.den 1000 1000000 (by omega) (by omega)
              have e3 := mul_bd x.num (nthS l i).a 10000000000 1000 (by omega) (by omega)
              have e4 := mul_bd x.num (nthS l k).a 10000000000 1000 (by omega) (by omega)
              simp only [Nat.reduceMul] at e1 e2 e3 e4
              have hall : (List.range (k + 1)).all (fun k => decide (ctV l t x i ≤ ctV l t x k)) = ((List.range k).all (fun k => decide (ctV l t x i ≤ ctV l t x k)) && decide (ctV l t x i ≤ ctV l t x k)) := by
                rw [List.range_succ, List.all_append]; simp
              obtain ⟨q, hq⟩ : ∃ q, (List.range k).all (fun k => decide (ctV l t x i ≤ ctV l t x k)) = q := ⟨_, rfl⟩
              obtain ⟨p, hpd⟩ : ∃ p, decide (ctV l t x i ≤ ctV l t x k) = p := ⟨_, rfl⟩
              rw [hq, hpd] at hall
              rw [hq]
              have HALL := Lib.hid hall
              have d1 : decide (nthI t i * x.den - x.num * (nthS l i).a ≤ nthI t k * x.den - x.num * (nthS l k).a) = p := hpd
              clear hall hq hpd
              cases q with
              | true =>
                cases p with
                | true =>
                  go_wp2_with fail
                  refine plain_read 36 1 mixed (by kernel_rfl) rfl ?_
                  simp only [List.take_succ_cons, List.take_zero]
                  (repeat (first | (refine ⟨undef, .inr ⟨by rfl, rfl⟩, ?_⟩; simp only [Act.put, List.setIfInBounds_toArray, List.set_cons_succ, List.set_cons_zero]) | (refine ⟨?_, .inl ⟨by rfl, ?_⟩, ?_⟩; rotate_left; (intro X hX; obtain ⟨r1, r2⟩ := Below.rules hX; clear hX; go_simp; rfl); simp only [Act.put, List.setIfInBounds_toArray, List.set_cons_succ, List.set_cons_zero])))
                  refine any_run1 (i := 36) (by kernel_rfl) (by rfl) (by rfl) ?_
                  intro K hK
                  go_wp2_with fail
                  refine hK _ _ (fun hx => (Bool.false_ne_true (hx.symm.trans (by kernel_rfl))).elim) ?_
                  clear hK K
                  refine any_done (by kernel_rfl) (NoPanic.normal ?_)
                  go_wp2_with fail
                  go_roundw
                  case rel => exact ⟨k + 1, by omega, by go_num, by rw [HALL.out]; rfl, by exact bel_of⟩
                  case measure => simp [intOf]; omega
                | false =>
                  go_wp2_with fail
                  refine plain_read 36 1 mixed (by kernel_rfl) rfl ?_
                  simp only [List.take_succ_cons, List.take_zero]
                  (repeat (first | (refine ⟨undef, .inr ⟨by rfl, rfl⟩, ?_⟩; simp only [Act.put, List.setIfInBounds_toArray, List.set_cons_succ, List.set_cons_zero]) | (refine ⟨?_, .inl ⟨by rfl, ?_⟩, ?_⟩; rotate_left; (intro X hX; obtain ⟨r1, r2⟩ := Below.rules hX; clear hX; go_simp; rfl); simp only [Act.put, List.setIfInBounds_toArray, List.set_cons_succ, List.set_cons_zero])))
                  refine any_run1 (i := 36) (by kernel_rfl) (by rfl) (by rfl) ?_
                  intro K hK
                  go_wp2_with fail
                  refine hK _ _ (fun hx => (Bool.false_ne_true (hx.symm.trans (by kernel_rfl))).elim) ?_
                  clear hK K
                  refine any_done (by kernel_rfl) (NoPanic.normal ?_)
                  go_wp2_with fail
                  go_roundw
                  case rel => exact ⟨k + 1, by omega, by go_num, by rw [HALL.out]; rfl, by exact bel_of⟩
                  case measure => simp [intOf]; omega
              | false =>
                clear d1
                go_wp2_with fail
                refine plain_read 36 1 mixed (by kernel_rfl) rfl ?_
                simp only [List.take_succ_cons, List.take_zero]
                (repeat (first | (refine ⟨undef, .inr ⟨by rfl, rfl⟩, ?_⟩; simp only [Act.put, List.setIfInBounds_toArray, List.set_cons_succ, List.set_cons_zero]) | (refine ⟨?_, .inl ⟨by rfl, ?_⟩, ?_⟩; rotate_left; (intro X hX; obtain ⟨r1, r2⟩ := Below.rules hX; clear hX; go_simp; rfl); simp only [Act.put, List.setIfInBounds_toArray, List.set_cons_succ, List.set_cons_zero])))
                refine any_run1 (i := 36) (by kernel_rfl) (by rfl) (by rfl) ?_
                intro K hK
                go_wp2_with fail
                refine hK _ _ (fun hx => (Bool.false_ne_true (hx.symm.trans (by kernel_rfl))).elim) ?_
                clear hK K
                refine any_done (by kernel_rfl) (NoPanic.normal ?_)
                go_wp2_with fail
                go_roundw
                case rel => exact ⟨k + 1, by omega, by go_num, by rw [HALL.out]; rfl, by exact bel_of⟩
                case measure => simp [intOf]; omega
            · have hke : k = l.length := by omega
              have hcl : (List.range k).all (fun k => decide (ctV l t x i ≤ ctV l t x k)) = ctLeast l t x i := by rw [hke]; rfl
              rw [hcl]
              have hsucc := ctL_succ l t x i
              obtain ⟨q, hq⟩ : ∃ q, ctLeast l t x i = q := ⟨_, rfl⟩
              rw [hq] at hsucc ⊢
              have hszw := hbwi.size
              have hlt0 := b0i.lt
              have hOi := HO.out.below hbi
              clear hcl hke hq
              cases q with
              | true =>
                rw [if_pos rfl] at hsucc
                obtain ⟨v', w6, hrun, hown', hb', hs', hbk⟩ := app_int hOi (i : Int) (Nat.le_trans (ctL_len l t x i) (by omega)) (by omega) (w0 := wr) (Below.refl _ _) wr.heap.size rfl
                rw [← hsucc] at hown'
                have HO2 := Lib.hid hown'; have HRUN := Lib.hid hrun
                have b06 := hbk _ _ _ b0i (by decide)
                have hbw6 : Below w.heap.size w w6 := hbwi.trans (hb'.mono (by omega))
                clear hown' hrun hsucc hOi hbk hb'
                go_wp2_with (at_builtin; refine wpList_append_run rfl (.tmp 71) (.tmp 73) 29 _ rfl HRUN.out ?_)
                go_roundw
                case rel => exact ⟨i + 1, by omega, by go_num, HO2.out, b06, hbw6⟩
                case measure => simp [intOf]; omega
              | false =>
                rw [if_neg (by simp)] at hsucc
                rw [← hsucc] at hOi
                have HO2 := Lib.hid hOi
                clear hOi hsucc
                go_wp2_with fail
                go_roundw
                case rel => exact ⟨i + 1, by omega, by go_num, HO2.out, b0i, hbwi⟩
                case measure => simp [intOf]; omega
        · have hie : i = l.length := by omega
          subst hie
          go_wp2_with fail
          refine bodyPost_ret (v := .tuple #[u8, .int .i64 0]) (by simp [results, Try.results16, go_sem]) rfl ⟨_, by rw [HE.out], ?_, hbw⟩
          rw [HL.out]
          exact HO.out.ri
    · have hE : contactErr l t x = 2 := by unfold contactErr; rw [if_neg (by simpa using hp), if_neg hx]
      have HE := Lib.hid hE
      have HL := Lib.hid (show contactL l t x = [] by unfold contactL; rw [if_neg (by rw [hE]; decide)])
      have hit := fun W => isTilt_any x.num x.den W
      have hx' : isTilt ⟨x.num, x.den⟩ = false := by simpa using hx
      rw [hx'] at hit
      have HIT := Lib.hid hit
      clear hcall hp h h' hlen hE hx hit hx' hv
      go_enter Try.func16, Try.ntmps16
      go_wp2_with fail
      refine (HP.out _ (by exact bel_of)).mono ?_
      rintro e w1 ⟨rfl, hb1⟩
      have hB1 : Below w.heap.size w w1 := (Below.trans (a := w) (B := w.heap.size) (by exact bel_of) (hb1.mono (by first | omega | (simp; omega) | (simp; done))))
      have b1 : BK w1 w.heap.size #[.int .i64 x.num, .int .i64 x.den] 25 := BK.below (BK.new _ _ _) hb1 (by simp)
      have hlt1 := b1.lt
      clear hb1
      have y0 := b1.cell 0
      have y1 := b1.cell 1
      simp at y0 y1
      go_wp2_with fail
      refine (HIT.out _).mono ?_
      rintro e w2 ⟨rfl, rfl⟩
      go_wp2_with fail
      exact bodyPost_ret (v := .tuple #[.slice none 0 0, .int .i64 2]) (by simp [results, Try.results16, go_sem]) rfl ⟨_, by rw [HE.out], by rw [HL.out]; exact ri_nil _ _, by exact bel_of⟩
  · have hE : contactErr l t x = checkTruth l t := by unfold contactErr; rw [if_pos hp]
    have hL : contactL l t x = [] := by unfold contactL; rw [if_neg (by rw [hE]; exact hp)]
    rw [hE, hL]
    obtain ⟨e0, he0⟩ : ∃ e0, checkTruth l t = e0 := ⟨_, rfl⟩
    rw [he0] at hcall hp ⊢
    have hpb : (e0 != 0) = true := by simpa using hp
    have HP := Lib.hid hcall
    clear hcall he0 hp h h' hE hL
    go_enter Try.func16, Try.ntmps16
    go_wp2_with fail
    refine (HP.out _ (by exact bel_of)).mono ?_
    rintro e w1 ⟨rfl, hb1⟩
    have hB1 : Below w.heap.size w w1 := (Below.trans (a := w) (B := w.heap.size) (by exact bel_of) (hb1.mono (by first | omega | (simp; omega) | (simp; done))))
    clear hb1
    go_wp2_with fail
    refine (HP.out _ hB1).mono ?_
    rintro e w2 ⟨rfl, hb2⟩
    have hB2 : Below w.heap.size w w2 := hB1.trans (hb2.mono hB1.size)
    clear hb2
    go_wp2_with fail
    exact bodyPost_ret (v := .tuple #[.slice none 0 0, .int .i64 e0]) (by simp [results, Try.results16, go_sem]) rfl ⟨_, rfl, ri_nil _ _, hB2⟩
end Go.Proofs.Ytbjmkmambmeifaa

namespace Go.Proofs.Ytbjmkmambmeifaa
open Go.RowKit Go.Maps

theorem mapT : Try.prog.underlying 78 = some (.map 3 2) := by kernel_rfl
theorem keyT : Try.prog.underlying 3 = some (.int .i64) := by kernel_rfl
theorem eltT : Try.prog.underlying 2 = some (.int .i64) := by kernel_rfl
theorem eltZ (w : World) : (zeroValue 2).run Try.prog w = .ok (.int .i64 0) w := by simp [zeroValue, go_sem, Try.t2]
theorem wf_of {a : Int} (h : -9223372036854775808 ≤ a ∧ a ≤ 9223372036854775807) : (Lit.int .i64 a).wf = true := by
  first | exact WalkArith.wf_i64 (by omega) | (simp [Lit.wf]; omega)

/-- The map in block b holds the numbers f, of places below 1000. -/
def MP (W : World) (b n : Nat) (f : Nat → Option Int) : Prop :=
  ∃ D : DataW Unit, W.ownsMap Try.prog 3 (plainElem Try.prog 2) b n D ∧ IsMap D ∧ ∀ k : Nat, k < 1000 → has D (.int .i64 k) = (f k).isSome ∧ ∀ c, f k = some c → D.atKey (.int .i64 k) (.lit (.int .i64 0)) = .lit (.int .i64 c)

theorem MP.made (w : World) : MP (w.alloc (.map #[] 0)) w.heap.size 0 fun _ => none :=
  ⟨.map [], World.ownsMap_made _ _ _ _, isMap_empty, fun k hk => ⟨rfl, fun c hc => by cases hc⟩⟩
theorem MP.kept {W W' : World} {b n : Nat} {f : Nat → Option Int} (h : MP W b n f) (hb : W'.heap[b]? = W.heap[b]?) : MP W' b n f := by
  obtain ⟨D, ⟨es, clock, h1, h2⟩, h3⟩ := h
  exact ⟨D, ⟨es, clock, hb.trans h1, h2⟩, h3⟩
theorem MP.lt {W : World} {b n : Nat} {f : Nat → Option Int} (h : MP W b n f) : b < W.heap.size := by
  obtain ⟨D, ⟨es, clock, h1, h2⟩, h3⟩ := h
  exact (Array.getElem?_eq_some_iff.1 h1).1

theorem MP.look {W : World} {b n : Nat} {f : Nat → Option Int} (h : MP W b n f) (k : Nat) (hk : k < 1000) :
    ∃ c, (Instr.lookup 78 (.map (some b)) (.int .i64 k) true).run Try.prog W = .ok (.tuple #[.int .i64 c, .bool (f k).isSome]) W ∧ ∀ x, f k = some x → c = x := by
  obtain ⟨D, h1, h2, h3⟩ := h
  obtain ⟨h4, h5⟩ := h3 k hk
  obtain ⟨v, ps, hrun, hv⟩ := h1.look_ok (int_keyed keyT) mapT (eltZ W) (zd := .lit (.int .i64 0)) (zp := []) (plainElem_int eltT (wf_of (by omega))) (keyOf_int_mk keyT (wf_of (by omega)) : keyOf Try.prog 3 (.int .i64 (k : Int)) = some (.int .i64 k))
  obtain ⟨c, rfl, hc, _⟩ := plainElem_int_inv eltT hv
  refine ⟨c, by rw [h4] at hrun; exact hrun, fun x hx => ?_⟩
  have h6 := (congrArg Prod.fst hc).symm.trans (h5 x hx)
  simpa using h6

theorem key_ne {j k : Nat} (h : j ≠ k) : (Lit.int .i64 (j : Int)) ≠ .int .i64 (k : Int) := by
  intro e
  injection e with _ e
  omega

theorem MP.store {W : World} {b n : Nat} {f : Nat → Option Int} (h : MP W b n f) (k : Nat) (hk : k < 1000) (x : Int) (hx : -9223372036854775808 ≤ x ∧ x ≤ 9223372036854775807) (hn : n < 1000) :
    ∃ W', (Instr.mapUpdate 78 (.map (some b)) (.int .i64 k) (.int .i64 x)).run Try.prog W = .ok () W' ∧ MP W' b (n + 1) (fun j => if j = k then some x else f j) ∧ W.grownBy W' (some b) ∧ W'.heap.size = W.heap.size := by
  obtain ⟨D, h1, h2, h3⟩ := h
  obtain ⟨W', hrun, ho, ht⟩ := h1.store (int_keyed keyT) mapT (by unfold maxLen; omega) (keyOf_int_mk keyT (wf_of (by omega)) : keyOf Try.prog 3 (.int .i64 (k : Int)) = some (.int .i64 k)) (plainElem_int eltT (wf_of hx))
  refine ⟨W', hrun, ⟨_, ho, ?_, fun j hj => ?_⟩, ht.grown, ?_⟩
  · obtain ⟨es, rfl⟩ := h2
    exact ⟨_, rfl⟩
  · by_cases hjk : j = k
    · subst hjk
      simp only [if_true]
      refine ⟨has_put_same h2 (by trivial) _, fun c hc => ?_⟩
      rw [atKey_put_same h2 (by trivial)]
      rw [Option.some.inj hc]
    · simp only [if_neg hjk]
      rw [has_put_other (key_ne hjk)]
      refine ⟨(h3 j hj).1, fun c hc => ?_⟩
      rw [atKey_put_other (key_ne hjk)]
      exact (h3 j hj).2 c hc
  · obtain ⟨es, clock, es', clock', hb, rfl⟩ := ht
    simp [ChangeMaps.setBlock]

theorem MP.drop {W : World} {b n : Nat} {f : Nat → Option Int} (h : MP W b n f) (k : Nat) (hk : k < 1000) (ty : TypeId) :
    ∃ W', (Builtin.delete_ #[78, 3] ty #[.map (some b), .int .i64 k]).run Try.prog W = .ok (.tuple #[]) W' ∧ MP W' b n (fun j => if j = k then none else f j) ∧ W.grownBy W' (some b) ∧ W'.heap.size = W.heap.size := by
  obtain ⟨D, h1, h2, h3⟩ := h
  obtain ⟨W', hrun, ho, ht⟩ := h1.drop (int_keyed keyT) mapT (keyOf_int_mk keyT (wf_of (by omega)) : keyOf Try.prog 3 (.int .i64 (k : Int)) = some (.int .i64 k)) ty
  refine ⟨W', hrun, ⟨_, ho, ?_, fun j hj => ?_⟩, ht.grown, ?_⟩
  · obtain ⟨es, rfl⟩ := h2
    exact ⟨_, rfl⟩
  · by_cases hjk : j = k
    · subst hjk
      simp only [if_true]
      exact ⟨by rw [has_del_same]; rfl, fun c hc => by cases hc⟩
    · simp only [if_neg hjk]
      rw [has_del_other (key_ne hjk)]
      refine ⟨(h3 j hj).1, fun c hc => ?_⟩
      rw [atKey_del_other (key_ne hjk)]
      exact (h3 j hj).2 c hc
  · obtain ⟨es, clock, es', clock', hb, rfl⟩ := ht
    simp [ChangeMaps.setBlock]
end Go.Proofs.Ytbjmkmambmeifaa

namespace Go.Proofs.Ytbjmkmambmeifaa
open Go.RowKit

theorem ctLeast_iff (l : List St) (t : List Int) (x : Ra) (i : Nat) : ctLeast l t x i = true ↔ ∀ k, k < l.length → ctV l t x i ≤ ctV l t x k := by
  unfold ctLeast
  rw [List.all_eq_true]
  exact ⟨fun h k hk => of_decide_eq_true (h k (List.mem_range.2 hk)), fun h k hk => decide_eq_true (h k (List.mem_range.1 hk))⟩
theorem least_exists (f : Nat → Int) : ∀ n, 0 < n → ∃ i, i < n ∧ ∀ k, k < n → f i ≤ f k
  | 0, h => by omega
  | 1, _ => ⟨0, by omega, fun k hk => by have : k = 0 := by omega
                                         rw [this]; exact Int.le_refl _⟩
  | n + 2, _ => by
    obtain ⟨i, hi, hl⟩ := least_exists f (n + 1) (by omega)
    by_cases h : f i ≤ f (n + 1)
    · refine ⟨i, by omega, fun k hk => ?_⟩
      rcases Nat.lt_succ_iff_lt_or_eq.1 hk with h1 | rfl
      · exact hl k h1
      · exact h
    · refine ⟨n + 1, by omega, fun k hk => ?_⟩
      rcases Nat.lt_succ_iff_lt_or_eq.1 hk with h1 | rfl
      · have := hl k h1; omega
      · exact Int.le_refl _

/-- What holds of the map while stations are deleted. -/
def CI (l : List St) (t : List Int) (x : Ra) (i k : Nat) (f : Nat → Option Int) : Prop :=
  (∀ j, j < l.length → f j = some (ctV l t x j) ∨ f j = none) ∧ (∀ j, j < l.length → ctLeast l t x j = true → f j = some (ctV l t x j)) ∧
  (∀ i', i' < i → i' < l.length → ctLeast l t x i' = true → ∀ k', k' < l.length → ctV l t x i' < ctV l t x k' → f k' = none) ∧
  (i < l.length → ctLeast l t x i = true → ∀ k', k' < k → k' < l.length → ctV l t x i < ctV l t x k' → f k' = none)
theorem CI.start (l : List St) (t : List Int) (x : Ra) : CI l t x 0 0 (fun j => if j < l.length then some (ctV l t x j) else none) :=
  ⟨fun j hj => .inl (by simp [hj]), fun j hj _ => by simp [hj], fun i' h => by omega, fun _ _ k' h => by omega⟩
theorem CI.next {l : List St} {t : List Int} {x : Ra} {i : Nat} {f : Nat → Option Int} (h : CI l t x i l.length f) : CI l t x (i + 1) 0 f := by
  obtain ⟨h1, h2, h3, h4⟩ := h
  refine ⟨h1, h2, fun i' hi hl hm k' hk hlt => ?_, fun _ _ k' hk => by omega⟩
  rcases Nat.lt_succ_iff_lt_or_eq.1 hi with h5 | rfl
  · exact h3 i' h5 hl hm k' hk hlt
  · exact h4 hl hm k' hk hk hlt
theorem CI.skip {l : List St} {t : List Int} {x : Ra} {i k : Nat} {f : Nat → Option Int} (h : CI l t x i k f) (hs : i < l.length → ctLeast l t x i = true → k < l.length → ctV l t x i < ctV l t x k → f k = none) : CI l t x i (k + 1) f := by
  obtain ⟨h1, h2, h3, h4⟩ := h
  refine ⟨h1, h2, h3, fun hl hm k' hk hkl hlt => ?_⟩
  rcases Nat.lt_succ_iff_lt_or_eq.1 hk with h5 | rfl
  · exact h4 hl hm k' h5 hkl hlt
  · exact hs hl hm hkl hlt
theorem CI.drop {l : List St} {t : List Int} {x : Ra} {i k : Nat} {f : Nat → Option Int} (h : CI l t x i k f) (hi : i < l.length) (hg : ctV l t x i < ctV l t x k) : CI l t x i (k + 1) (fun j => if j = k then none else f j) := by
  obtain ⟨h1, h2, h3, h4⟩ := h
  refine ⟨fun j hj => ?_, fun j hj hm => ?_, fun i' hi' hl hm k' hk hlt => ?_, fun hl hm k' hk hkl hlt => ?_⟩
  · by_cases e : j = k
    · exact .inr (if_pos e)
    · simp only [if_neg e]; exact h1 j hj
  · have e : j ≠ k := by
      rintro rfl
      have := (ctLeast_iff l t x j).1 hm i hi
      omega
    simp only [if_neg e]; exact h2 j hj hm
  · by_cases e : k' = k
    · exact if_pos e
    · simp only [if_neg e]; exact h3 i' hi' hl hm k' hk hlt
  · by_cases e : k' = k
    · exact if_pos e
    · simp only [if_neg e]; exact h4 hl hm k' (by omega) hkl hlt
theorem CI.done {l : List St} {t : List Int} {x : Ra} {f : Nat → Option Int} (h : CI l t x l.length 0 f) (k : Nat) (hk : k < l.length) : (f k).isSome = ctLeast l t x k := by
  obtain ⟨h1, h2, h3, _⟩ := h
  cases hc : ctLeast l t x k with
  | true => rw [h2 k hk hc]; rfl
  | false =>
    obtain ⟨i, hi, hl⟩ := least_exists (ctV l t x) l.length (by omega)
    have hli := (ctLeast_iff l t x i).2 hl
    have hne : ctV l t x i < ctV l t x k := by
      rcases Int.lt_or_eq_of_le (hl k hk) with h5 | h5
      · exact h5
      · have : ctLeast l t x k = true := (ctLeast_iff l t x k).2 fun j hj => by rw [← h5]; exact hl j hj
        rw [hc] at this; cases this
    rw [h3 i hi hi hli k hk hne]; rfl

/-- What is appended to a slice that is cut at its length. -/
theorem app_full {base : Nat} {w0 w1 : World} {l : List Int} {v : Value} (hown : OwnI 3 w1 base v l) (x : Int) (hn : l.length ≤ 100000) (hbase : base ≤ w1.heap.size) (hbw : Below base w0 w1) (B : Nat) (hB : w1.heap.size = B) :
    ∃ A c, v = .slice A l.length c ∧ l.length ≤ c ∧ (A = none → c = 0) ∧ ∃ v' w2, (Builtin.append_ #[29, 29] 29 #[.slice A l.length l.length, .slice (some ⟨B, 0, none⟩) 1 1]).run Try.prog (w1.alloc (.cells #[.int .i64 x] 3)) = .ok v' w2 ∧
      OwnI 3 w2 base v' (l ++ [x]) ∧ Below base w0 w2 ∧ w1.heap.size ≤ w2.heap.size ∧ (∀ k cs t, BK w1 k cs t → t ≠ 3 → BK w2 k cs t) ∧ (∀ k, k < w1.heap.size → some k ≠ v.ownBlock → w2.heap[k]? = w1.heap[k]?) := by
  subst hB
  rcases hown.2 with ⟨rfl, hl⟩ | ⟨g, cap, cur, rfl, hg, hh, hc, hm, hs, ht⟩
  · have hl' : l = [] := List.length_eq_zero_iff.1 hl
    subst hl'
    refine ⟨none, 0, rfl, Nat.le_refl _, fun _ => rfl, ?_⟩
    obtain ⟨i0, hi0, hz0, hz1, hz2⟩ := info_parts int_info
    obtain ⟨g', cap', w2, hrun, hown', hgr, _⟩ := app1 (P := Try.prog) 29 29 3 i0 _ 1 8 int_slice hi0 hz0 hz1 hz2 rfl (by decide) (by decide) base (w1.alloc (.cells #[.int .i64 x] 3)) (.slice none 0 0) 0 [] (World.ownsRow_nil _ _ _ _) w1.heap.size [.int .i64 x] 3 (BK.new _ _ _) rfl (by intro u hu; simp at hu; subst hu; rfl) (by omega) (by simp; omega)
    have hs2 := hgr.size
    simp at hs2
    refine ⟨_, w2, hrun, by simpa [OwnI, ofI] using hown', ?_, by omega, fun k cs t hk _ => (hk.alloc _).grown hgr (by simp [Value.ownBlock]), fun k hk _ => ?_⟩
    · exact Below.grown (hbw.alloc hbase _) hgr (by simp; omega) fun k hk => by cases hk
    · rw [hgr.block k (by simp; omega) (by simp [Value.ownBlock]), Below.heap_alloc _ _ _ hk]
  · refine ⟨some ⟨g, 0, none⟩, cap, rfl, hc, (by intro h; cases h), ?_⟩
    obtain ⟨i0, hi0, hz0, hz1, hz2⟩ := info_parts int_info
    have hlt : g < w1.heap.size := (Array.getElem?_eq_some_iff.1 hh).1
    have hol := ofI_length l
    obtain ⟨v', w2, hrun, hown', hgr⟩ := run_append_arg_grows (P := Try.prog) (w1.alloc (.cells #[.int .i64 x] 3)) 29 29 3 i0 _ 1 8 int_slice hi0 hz0 hz1 hz2 rfl (by decide) ⟨g, 0, none⟩ l.length l.length (ofI l) (by rw [hol]; omega)
      (fun j u hj => by
        have hjl : j < (ofI l).length := (List.getElem?_eq_some_iff.1 hj).1
        have e : (⟨g, 0, none⟩ : Addr).add j = ⟨g, j, none⟩ := by unfold Addr.add; split <;> simp_all
        rw [e, World.cell?_alloc_lt _ _ _ (by exact hlt), cell_of_row w1 g j cur _ (0, 0) hh, ← hj]
        conv => rhs; rw [← ht]
        rw [List.getElem?_take_of_lt (by omega)]
        simp) ⟨w1.heap.size, 0, none⟩ 1 1 [.int .i64 x] rfl
      (fun j u hj => by
        have e : (⟨w1.heap.size, 0, none⟩ : Addr).add j = ⟨w1.heap.size, j, none⟩ := by unfold Addr.add; split <;> simp_all
        rw [e, (BK.new w1 #[.int .i64 x] 3).cell j]; simpa using hj) (by omega) (by unfold maxLen; omega) (by omega)
    have hs2 := hgr.size
    simp at hs2
    refine ⟨v', w2, hrun, ?_, ?_, by omega, fun k cs t hk _ => (hk.alloc _).grown hgr (by simp), fun k hk _ => ?_⟩
    · obtain ⟨h5, h6⟩ := hown'
      rw [ofI_app] at h5 h6
      refine ⟨by simpa [OwnI] using h5, ?_⟩
      rw [List.length_append, List.length_cons, List.length_nil]
      rcases h6 with h6 | ⟨g2, c2, cur2, h7, h8, h9⟩
      · exact .inl h6
      · exact .inr ⟨g2, c2, cur2, h7, by simp at h8; omega, h9⟩
    · exact Below.grown (hbw.alloc hbase _) hgr (by simp; omega) fun k hk => by cases hk
    · rw [hgr.block k (by simp; omega) (by simp), Below.heap_alloc _ _ _ hk]
end Go.Proofs.Ytbjmkmambmeifaa

namespace Go.Proofs.Ytbjmkmambmeifaa
open Go.RowKit Go.Maps

theorem tilt_inB (x : Ra) : isTilt x = (inB 1 1000000 x.den && inB (-10000 * x.den) (10000 * x.den) x.num) := by
  unfold isTilt inB
  rw [Bool.eq_iff_iff]
  simp only [decide_eq_true_eq, Bool.and_eq_true]
  constructor <;> intro h <;> omega

set_option maxRecDepth 100000 in
set_option maxHeartbeats 4000000 in
theorem contactP_any (l : List St) (t : List Int) (x : Ra) (vl vt : Value) (w : World) (hl : l.length ≤ 1000) (ht : t.length ≤ 1000) (h : RSt w w.heap.size vl l) (h' : RI w w.heap.size vt t) :
    Calls Try.prog 15 #[vl, vt, .agg #[.int .i64 x.num, .int .i64 x.den]] w fun e w' => ∃ v, e = .returned (.tuple #[v, .int .i64 (contactErr l t x)]) ∧ RI w' w'.heap.size v (contactL l t x) ∧ Below w.heap.size w w' := by
  have hcall := fun w1 (hb : Below w.heap.size w w1) => checkTruth_any l t vl vt w1 hl ht ((h.below hb).more hb.size) ((RS.below h' hb).more hb.size)
  by_cases hp : checkTruth l t = 0
  · rw [hp] at hcall
    have HP := Lib.hid hcall
    obtain ⟨hv, hlen, _⟩ := checkTruth_len0 l t hp
    have hn := checkPair_len l hv
    have hti := tilt_inB x
    obtain ⟨q1, hq1⟩ : ∃ q1, inB 1 1000000 x.den = q1 := ⟨_, rfl⟩
    have hw1 := fun W n (hb : BK W n #[.int .i64 x.den] 2) => within1_bk 1 1000000 x.den W n 2 hb
    rw [hq1] at hw1 hti
    have HW1 := Lib.hid hw1
    cases q1 with
    | false =>
      have hE : contactErr l t x = 2 := by unfold contactErr; rw [if_neg (by simpa using hp), hti]; rfl
      have HE := Lib.hid hE
      have HL := Lib.hid (show contactL l t x = [] by unfold contactL; rw [if_neg (by rw [hE]; decide)])
      clear hcall hp h h' hlen hE hti hw1 hv hq1
      go_enter Try.func15, Try.ntmps15
      go_wp2_with fail
      refine (HP.out _ (by exact bel_of)).mono ?_
      rintro e w1 ⟨rfl, hb1⟩
      have hB1 : Below w.heap.size w w1 := (Below.trans (a := w) (B := w.heap.size) (by exact bel_of) (hb1.mono (by first | omega | (simp; omega) | (simp; done))))
      have b1 : BK w1 w.heap.size #[.int .i64 x.num, .int .i64 x.den] 25 := BK.below (BK.new _ _ _) hb1 (by simp)
      have hlt1 := b1.lt
      clear hb1
      have y0 := b1.cell 0
      have y1 := b1.cell 1
      simp at y0 y1
      go_wp2_with fail
      refine (HW1.out _ _ (BK.new _ _ _)).mono ?_
      rintro e w2 ⟨rfl, hb2⟩
      have hB2 : Below w.heap.size w w2 := (Below.trans (a := w) (B := w.heap.size) (by exact bel_of) (hb2.mono (by first | omega | (simp; omega) | (simp; done))))
      go_wp2_with fail
      exact bodyPost_ret (v := .tuple #[.slice none 0 0, .int .i64 2]) (by simp [results, Try.results15, go_sem]) rfl ⟨_, by rw [HE.out], by rw [HL.out]; exact ri_nil _ _, by exact bel_of⟩
    | true =>
      obtain ⟨hd1, hd2⟩ := (inB_iff _ _ _).1 hq1
      obtain ⟨q2, hq2⟩ : ∃ q2, inB (-10000 * x.den) (10000 * x.den) x.num = q2 := ⟨_, rfl⟩
      have hw2 := fun W n (hb : BK W n #[.int .i64 x.num] 2) => within1_bk (-10000 * x.den) (10000 * x.den) x.num W n 2 hb
      rw [hq2] at hw2 hti
      have HW2 := Lib.hid hw2
      cases q2 with
      | false =>
        have hE : contactErr l t x = 2 := by unfold contactErr; rw [if_neg (by simpa using hp), hti]; rfl
        have HE := Lib.hid hE
        have HL := Lib.hid (show contactL l t x = [] by unfold contactL; rw [if_neg (by rw [hE]; decide)])
        clear hcall hp h h' hlen hE hti hw1 hw2 hv hq1 hq2
        go_enter Try.func15, Try.ntmps15
        go_wp2_with fail
        refine (HP.out _ (by exact bel_of)).mono ?_
        rintro e w1 ⟨rfl, hb1⟩
        have hB1 : Below w.heap.size w w1 := (Below.trans (a := w) (B := w.heap.size) (by exact bel_of) (hb1.mono (by first | omega | (simp; omega) | (simp; done))))
        have b1 : BK w1 w.heap.size #[.int .i64 x.num, .int .i64 x.den] 25 := BK.below (BK.new _ _ _) hb1 (by simp)
        have hlt1 := b1.lt
        clear hb1
        have y0 := b1.cell 0
        have y1 := b1.cell 1
        simp at y0 y1
        go_wp2_with fail
        refine (HW1.out _ _ (BK.new _ _ _)).mono ?_
        rintro e w2 ⟨rfl, hb2⟩
        have hB2 : Below w.heap.size w w2 := (Below.trans (a := w) (B := w.heap.size) (by exact bel_of) (hb2.mono (by first | omega | (simp; omega) | (simp; done))))
        have b2 : BK w2 w.heap.size #[.int .i64 x.num, .int .i64 x.den] 25 := (b1.alloc _).below hb2 (by simp; omega)
        have hlt2 := b2.lt
        clear hb2 y0 y1
        have y0 := b2.cell 0
        have y1 := b2.cell 1
        simp at y0 y1
        go_wp2_with fail
        refine (HW2.out _ _ (BK.new _ _ _)).mono ?_
        rintro e w3 ⟨rfl, hb3⟩
        have hB3 : Below w.heap.size w w3 := (Below.trans (a := w) (B := w.heap.size) (by exact bel_of) (hb3.mono (by first | omega | (simp; omega) | (simp; done))))
        go_wp2_with fail
        exact bodyPost_ret (v := .tuple #[.slice none 0 0, .int .i64 2]) (by simp [results, Try.results15, go_sem]) rfl ⟨_, by rw [HE.out], by rw [HL.out]; exact ri_nil _ _, by exact bel_of⟩
      | true =>
        obtain ⟨hn1, hn2⟩ := (inB_iff _ _ _).1 hq2
        have hE : contactErr l t x = 0 := by unfold contactErr; rw [if_neg (by simpa using hp), hti]; rfl
        have HE := Lib.hid hE
        have HL := Lib.hid (show contactL l t x = ctL l t x l.length by unfold contactL ctL; rw [if_pos hE])
        have htr := truth_rng l t hp
        have hva := valid_a l hv
        obtain ⟨A, cap, b, off, rfl, hA, hc⟩ := h.cells
        obtain ⟨A', cap', b', off', rfl, hA', hc'⟩ := RI.cells h'
        obtain ⟨rfl, hb⟩ := hA (by omega)
        obtain ⟨rfl, hb'⟩ := hA' (by omega)
        rw [hlen] at hc'
        have HC := Lib.hid hc; have HC' := Lib.hid hc'; have HTR := Lib.hid htr; have HVA := Lib.hid hva; have HLEN := Lib.hid hlen
        have hmm := fun W => run_makeMap (P := Try.prog) 78 W
        clear hcall hp h h' hlen hE hti hw1 hw2 hv hq1 hq2 htr hva hA hA' hc hc'
        go_enter Try.func15, Try.ntmps15
        go_wp2_with fail
        refine (HP.out _ (by exact bel_of)).mono ?_
        rintro e w1 ⟨rfl, hb1⟩
        have hB1 : Below w.heap.size w w1 := (Below.trans (a := w) (B := w.heap.size) (by exact bel_of) (hb1.mono (by first | omega | (simp; omega) | (simp; done))))
        have b1 : BK w1 w.heap.size #[.int .i64 x.num, .int .i64 x.den] 25 := BK.below (BK.new _ _ _) hb1 (by simp)
        have hlt1 := b1.lt
        clear hb1
        have y0 := b1.cell 0
        have y1 := b1.cell 1
        simp at y0 y1
        go_wp2_with fail
        refine (HW1.out _ _ (BK.new _ _ _)).mono ?_
        rintro e w2 ⟨rfl, hb2⟩
        have hB2 : Below w.heap.size w w2 := (Below.trans (a := w) (B := w.heap.size) (by exact bel_of) (hb2.mono (by first | omega | (simp; omega) | (simp; done))))
        have b2 : BK w2 w.heap.size #[.int .i64 x.num, .int .i64 x.den] 25 := (b1.alloc _).below hb2 (by simp; omega)
        have hlt2 := b2.lt
        clear hb2 y0 y1
        have y0 := b2.cell 0
        have y1 := b2.cell 1
        simp at y0 y1
        go_wp2_with fail
        refine (HW2.out _ _ (BK.new _ _ _)).mono ?_
        rintro e w3 ⟨rfl, hb3⟩
        have hB3 : Below w.heap.size w w3 := (Below.trans (a := w) (B := w.heap.size) (by exact bel_of) (hb3.mono (by first | omega | (simp; omega) | (simp; done))))
        have b3 : BK w3 w.heap.size #[.int .i64 x.num, .int .i64 x.den] 25 := (b2.alloc _).below hb3 (by simp; omega)
        have hlt3 := b3.lt
        clear hb3 y0 y1 b1 b2
        obtain ⟨m9, hm9⟩ : ∃ m9, w3.heap.size = m9 := ⟨_, rfl⟩
        have hmp := MP.made w3
        have b4 := b3.alloc (.map #[] 0)
        rw [hm9] at hmp
        go_wp2_with fail
        clear hmm
        go_loopw [51] (fun iv wr => ∃ i : Nat, i ≤ l.length ∧ iv = .int .i64 i ∧ MP wr m9 i (fun j => if j < i then some (ctV l t x j) else none) ∧ BK wr w.heap.size #[.int .i64 x.num, .int .i64 x.den] 25 ∧ Below w.heap.size w wr) (fun i _ => l.length - (intOf i).toNat)
        case atStart => exact ⟨0, Nat.zero_le _, rfl, by simpa using hmp, b4, by exact bel_of⟩
        case round =>
          clear hmp b4 b3
          obtain ⟨i, hi, rfl, hmp, b0, hbw⟩ := hrel
          have hszw := hbw.size
          have hlt0 := b0.lt
          have hltm := hmp.lt
          have HM := Lib.hid hmp; clear hmp
          by_cases hil : i < l.length
          · have hc := HC.out i hil
            have ht1 := HC'.out i hil
            rw [← hbw.cell (by exact hb), ← hbw.cell (by exact hb), ← hbw.cell (by exact hb)] at hc
            rw [← hbw.cell (by exact hb')] at ht1
            obtain ⟨c0, c1, c2⟩ := hc
            have hbr : b < wr.heap.size := by omega
            have hbr' : b' < wr.heap.size := by omega
            have hit1 : i < t.length := by rw [HLEN.out]; exact hil
            have y0 := b0.cell 0
            have y1 := b0.cell 1
            simp at y0 y1
            have q1 := HTR.out i hil
            have q3 := HVA.out i hil
            have e1 := mul_bd (nthI t i) x.den 1000 1000000 (by omega) (by omega)
            have e3 := mul_bd (nthS l i).a x.num 1000 10000000000 (by omega) (by omega)
            simp only [Nat.reduceMul] at e1 e3
            go_wp2_with fail
            refine plain_read 15 1 mixed (by kernel_rfl) rfl ?_
            simp only [List.take_succ_cons, List.take_zero]
            (repeat (first | (refine ⟨undef, .inr ⟨by rfl, rfl⟩, ?_⟩; simp only [Act.put, List.setIfInBounds_toArray, List.set_cons_succ, List.set_cons_zero]) | (refine ⟨?_, .inl ⟨by rfl, ?_⟩, ?_⟩; rotate_left; (intro X hX; obtain ⟨r1, r2⟩ := Below.rules hX; clear hX; go_simp; rfl); simp only [Act.put, List.setIfInBounds_toArray, List.set_cons_succ, List.set_cons_zero])))
            have hmp2 : MP (wr.alloc (.cells #[.int .i64 (nthS l i).a, .int .i64 (nthS l i).lo, .int .i64 (nthS l i).hi] 62)).drew m9 i (fun j => if j < i then some (ctV l t x j) else none) := HM.out.kept (Below.heap_alloc wr _ _ hltm)
            obtain ⟨W', hrun, hmp', hgr, hszW⟩ := hmp2.store i (by omega) (nthI t i * x.den - (nthS l i).a * x.num) (by omega) (by omega)
            have hf : (fun j => if j = i then some (nthI t i * x.den - (nthS l i).a * x.num) else if j < i then some (ctV l t x j) else none) = fun j => if j < i + 1 then some (ctV l t x j) else none := by
              funext j
              by_cases hj : j = i
              · subst hj
                rw [if_pos rfl, if_pos (by omega)]
                unfold ctV
                rw [Int.mul_comm x.num]
              · rw [if_neg hj]
                by_cases hj2 : j < i
                · rw [if_pos hj2, if_pos (by omega)]
                · rw [if_neg hj2, if_neg (by omega)]
            rw [hf] at hmp'
            have HM2 := Lib.hid hmp'
            have b02 : BK W' w.heap.size #[.int .i64 x.num, .int .i64 x.den] 25 := BK.grown (W := (wr.alloc (.cells #[.int .i64 (nthS l i).a, .int .i64 (nthS l i).lo, .int .i64 (nthS l i).hi] 62)).drew) (b0.alloc _) hgr (by intro hx; injection hx with hx; omega)
            have hbw2 : Below w.heap.size w W' := Below.grown (w := (wr.alloc (.cells #[.int .i64 (nthS l i).a, .int .i64 (nthS l i).lo, .int .i64 (nthS l i).hi] 62)).drew) (by exact bel_of) hgr (by simp; omega) (fun k hk => by injection hk with hk; omega)
            clear hmp' hmp2 hgr hf
            refine any_run1 (i := 15) (by kernel_rfl) (by rfl) (by rfl) ?_
            intro K hK
            go_wp2_with fail
            refine hK _ _ (fun hx => (Bool.false_ne_true (hx.symm.trans (by kernel_rfl))).elim) ?_
            clear hK K
            refine any_done (by kernel_rfl) (NoPanic.normal ?_)
            go_wp2_with fail
            go_roundw
            case rel => exact ⟨i + 1, by omega, by go_num, HM2.out, b02, hbw2⟩
            case measure => simp [intOf]; omega
          · have hie : i = l.length := by omega
            have hmp := HM.out
            rw [hie] at hmp
            have HM3 := Lib.hid hmp
            clear hmp hie
            go_wp2_with fail
            go_loopw [74] (fun iv wr => ∃ (i : Nat) (f : Nat → Option Int), i ≤ l.length ∧ iv = .int .i64 i ∧ MP wr m9 l.length f ∧ CI l t x i 0 f ∧ Below w.heap.size w wr) (fun i _ => l.length - (intOf i).toNat)
            case atStart => exact ⟨0, _, Nat.zero_le _, rfl, HM3.out, CI.start l t x, hbw⟩
            case round =>
              clear hbw b0 hszw hlt0 hltm HM HM3
              obtain ⟨i, f, hi, rfl, hmp, hci, hbw⟩ := hrel
              have HM := Lib.hid hmp; have HCI := Lib.hid hci; clear hmp hci
              by_cases hil : i < l.length
              · go_wp2_with fail
                go_loopw [79] (fun kv wr => ∃ (k : Nat) (f : Nat → Option Int), k ≤ l.length ∧ kv = .int .i64 k ∧ MP wr m9 l.length f ∧ CI l t x i k f ∧ Below w.heap.size w wr) (fun k _ => l.length - (intOf k).toNat)
                case atStart => exact ⟨0, f, Nat.zero_le _, rfl, HM.out, HCI.out, hbw⟩
                case round =>
                  clear HM HCI hbw f
                  obtain ⟨k, f, hk, rfl, hmp, hci, hbw⟩ := hrel
                  have HM := Lib.hid hmp; have HCI := Lib.hid hci; clear hmp hci
                  have hszw := hbw.size
                  by_cases hkl : k < l.length
                  · obtain ⟨ci, hlook, hciv⟩ := HM.out.look i (by omega)
                    obtain ⟨ck, hlook2, hckv⟩ := HM.out.look k (by omega)
                    rcases HCI.out.1 i hil with hfi | hfi
                    · rw [hfi] at hlook hciv
                      have hcc := hciv _ rfl
                      subst hcc
                      rcases HCI.out.1 k hkl with hfk | hfk
                      · rw [hfk] at hlook2 hckv
                        have hcc := hckv _ rfl
                        subst hcc
                        by_cases hg : ctV l t x i < ctV l t x k
                        · have d1 := decide_eq_true hg
                          obtain ⟨W', hrun, hmp', hgr, hszW⟩ := HM.out.drop k (by omega) 0
                          have hlt9 := HM.out.lt
                          have hbw2 : Below w.heap.size w W' := hbw.grown hgr hszw (fun k hk => by injection hk with hk; omega)
                          have HM2 := Lib.hid hmp'
                          have HCI2 := Lib.hid (HCI.out.drop hil hg)
                          clear hmp' hgr hciv hckv hfi hfk
                          simp only [Option.isSome_some] at hlook hlook2
                          go_wp2_with fail
                          go_roundw
                          case rel => exact ⟨k + 1, _, by omega, by go_num, HM2.out, HCI2.out, hbw2⟩
                          case measure => simp [intOf]; omega
                        · have d1 := decide_eq_false hg
                          have HCI2 := Lib.hid (HCI.out.skip fun _ _ _ hlt => absurd hlt hg)
                          clear hciv hckv hfi hfk
                          simp only [Option.isSome_some] at hlook hlook2
                          go_wp2_with fail
                          go_roundw
                          case rel => exact ⟨k + 1, f, by omega, by go_num, HM.out, HCI2.out, by exact bel_of⟩
                          case measure => simp [intOf]; omega
                      · rw [hfk] at hlook2 hckv
                        have HCI2 := Lib.hid (HCI.out.skip fun _ _ _ _ => hfk)
                        clear hciv hckv hfi hfk
                        simp only [Option.isSome_some, Option.isSome_none] at hlook hlook2
                        go_wp2_with fail
                        go_roundw
                        case rel => exact ⟨k + 1, f, by omega, by go_num, HM.out, HCI2.out, by exact bel_of⟩
                        case measure => simp [intOf]; omega
                    · rw [hfi] at hlook hciv
                      have HCI2 := Lib.hid (HCI.out.skip fun _ hm _ _ => by have := HCI.out.2.1 i hil hm; rw [hfi] at this; cases this)
                      clear hciv hckv hfi hlook2
                      simp only [Option.isSome_none] at hlook
                      go_wp2_with fail
                      go_roundw
                      case rel => exact ⟨k + 1, f, by omega, by go_num, HM.out, HCI2.out, by exact bel_of⟩
                      case measure => simp [intOf]; omega
                  · have hke : k = l.length := by omega
                    have hci := HCI.out
                    rw [hke] at hci
                    have HCI2 := Lib.hid hci.next
                    clear hci hke
                    go_wp2_with fail
                    go_roundw
                    case rel => exact ⟨i + 1, f, by omega, by go_num, HM.out, HCI2.out, by exact bel_of⟩
                    case measure => simp [intOf]; omega
              · have hie : i = l.length := by omega
                have hci := HCI.out
                rw [hie] at hci
                have HD := Lib.hid hci.done
                clear hci hie
                have hlt9 := HM.out.lt
                have hszw := hbw.size
                have HM9 := Lib.hid (⟨HM.out, hbw⟩ : MP wr m9 l.length f ∧ Below w.heap.size w wr)
                go_wp2_with fail
                go_loopw [18, 107] (fun acc iv wx => ∃ i : Nat, i ≤ l.length ∧ iv = .int .i64 i ∧ OwnI 3 wx wr.heap.size acc (ctL l t x i) ∧ MP wx m9 l.length f ∧ Below wr.heap.size wr wx) (fun _ i _ => l.length - (intOf i).toNat)
                case atStart => exact ⟨0, Nat.zero_le _, rfl, OwnI.nil _ _ _, HM.out, Below.refl _ _⟩
                case round =>
                  obtain ⟨i, hi, rfl, hown, hmp, hbx⟩ := hrel
                  have hszx := hbx.size
                  by_cases hil : i < l.length
                  · obtain ⟨c, hlook, _⟩ := hmp.look i (by omega)
                    rw [HD.out i hil] at hlook
                    have hsucc := ctL_succ l t x i
                    obtain ⟨q, hq⟩ : ∃ q, ctLeast l t x i = q := ⟨_, rfl⟩
                    rw [hq] at hlook hsucc
                    clear hq
                    cases q with
                    | true =>
                      rw [if_pos rfl] at hsucc
                      have hob : ∀ k, u18.ownBlock = some k → k ≠ m9 := fun k hk => by have := (hown.lt k hk).1; omega
                      have hltx := hmp.lt
                      obtain ⟨A2, c2, hu, hc2, hA2, v', w6, hrun, hown', hb6, hs6, _, hblk⟩ := app_full hown (i : Int) (Nat.le_trans (ctL_len l t x i) (by omega)) hszx hbx _ rfl
                      have HM6 := Lib.hid (hmp.kept (hblk m9 hltx (fun hx => hob m9 hx.symm rfl)))
                      rw [← hsucc] at hown'
                      have HO2 := Lib.hid hown'; have HRUN := Lib.hid hrun
                      clear hown' hrun hob hblk hown hmp hsucc
                      subst hu
                      obtain ⟨n, hnl⟩ : ∃ n, (ctL l t x i).length = n := ⟨_, rfl⟩
                      rw [hnl] at HRUN hc2 ⊢
                      clear hnl
                      cases A2 with
                      | none =>
                        have h0 := hA2 rfl
                        subst h0
                        obtain rfl : n = 0 := by omega
                        go_wp2_with (at_builtin; refine wpList_append_run rfl (.tmp 122) (.tmp 124) 29 _ rfl HRUN.out ?_)
                        go_roundw
                        case rel => exact ⟨i + 1, by omega, by go_num, HO2.out, HM6.out, hb6⟩
                        case measure => simp [intOf]; omega
                      | some ad =>
                        clear hA2
                        have _h1 : (n : Int) ≤ (c2 : Int) := by omega
                        go_wp2_with (at_builtin; refine wpList_append_run rfl (.tmp 122) (.tmp 124) 29 _ rfl HRUN.out ?_)
                        go_roundw
                        case rel => exact ⟨i + 1, by omega, by go_num, HO2.out, HM6.out, hb6⟩
                        case measure => simp [intOf]; omega
                    | false =>
                      rw [if_neg (by simp)] at hsucc
                      rw [← hsucc] at hown
                      have HO2 := Lib.hid hown; have HM6 := Lib.hid hmp
                      clear hown hmp hsucc
                      go_wp2_with fail
                      go_roundw
                      case rel => exact ⟨i + 1, by omega, by go_num, HO2.out, HM6.out, hbx⟩
                      case measure => simp [intOf]; omega
                  · have hie : i = l.length := by omega
                    rw [hie] at hown
                    have HO2 := Lib.hid hown
                    have hbz := hbw.trans (hbx.mono hszw)
                    clear hie hown hmp
                    go_wp2_with fail
                    refine bodyPost_ret (v := .tuple #[u18, .int .i64 0]) (by simp [results, Try.results15, go_sem]) rfl ⟨_, by rw [HE.out], ?_, hbz⟩
                    rw [HL.out]
                    exact HO2.out.ri
  · have hE : contactErr l t x = checkTruth l t := by unfold contactErr; rw [if_pos hp]
    have hL : contactL l t x = [] := by unfold contactL; rw [if_neg (by rw [hE]; exact hp)]
    rw [hE, hL]
    obtain ⟨e0, he0⟩ : ∃ e0, checkTruth l t = e0 := ⟨_, rfl⟩
    rw [he0] at hcall hp ⊢
    have hpb : (e0 != 0) = true := by simpa using hp
    have HP := Lib.hid hcall
    clear hcall he0 hp h h' hE hL
    go_enter Try.func15, Try.ntmps15
    go_wp2_with fail
    refine (HP.out _ (by exact bel_of)).mono ?_
    rintro e w1 ⟨rfl, hb1⟩
    have hB1 : Below w.heap.size w w1 := (Below.trans (a := w) (B := w.heap.size) (by exact bel_of) (hb1.mono (by first | omega | (simp; omega) | (simp; done))))
    clear hb1
    go_wp2_with fail
    exact bodyPost_ret (v := .tuple #[.slice none 0 0, .int .i64 e0]) (by simp [results, Try.results15, go_sem]) rfl ⟨_, rfl, ri_nil _ _, hB1⟩
end Go.Proofs.Ytbjmkmambmeifaa

namespace Go.Proofs.Ytbjmkmambmeifaa
open Go.RowKit

@[go_sem] theorem eqArr (a b c d e f : Int) (w : World) : (Op.equalIn 10000 44 (.agg #[.int .i64 a, .int .i64 b, .int .i64 c]) (.agg #[.int .i64 d, .int .i64 e, .int .i64 f])).run Try.prog w = .ok (a == d && (b == e && c == f)) w := by
  have hu : Try.prog.underlying 44 = some (.array 3 3) := by kernel_rfl
  have hi : Try.prog.underlying 3 = some (.int .i64) := by kernel_rfl
  have ha : ∀ w, (isAgg 3).run Try.prog w = .ok false w := fun w => by simp [isAgg, run_underlying hi]
  rw [show (10000 : Nat) = 9999 + 1 from rfl, Op.equalIn]
  simp only [Sem.run_bind, run_underlying hu, Result.andThen_ok]
  simp only [Std.Legacy.Range.forIn_eq_forIn_range', Std.Legacy.Range.size, Nat.sub_zero, Nat.add_sub_cancel, Nat.div_one, List.range'_succ, List.range'_zero, List.forIn_cons, List.forIn_nil]
  go_simp
  by_cases h1 : a = d <;> by_cases h2 : b = e <;> by_cases h3 : c = f <;> simp [h1, h2, h3]
end Go.Proofs.Ytbjmkmambmeifaa
