/- Ends. Tilts, Can and Sure, of the program and of the reference. meets. Kinds. Heights. Three operations that may come in any order. -/
import Derived.Test.YtbjmkmambmeifaaP2
import Derived.Test.YtbjmkmambmeifaaP5
import Derived.Test.YtbjmkmambmeifaaP3
import Derived.Test.YtbjmkmambmeifaaP6
import Derived.Test.YtbjmkmambmeifaaP7
import Derived.Test.YtbjmkmambmeifaaP4
set_option linter.all false
set_option linter.unnecessarySimpa false
set_option linter.unusedSimpArgs false
set_option linter.unusedVariables false
set_option linter.unusedSectionVars false

namespace Go.Proofs.Ytbjmkmambmeifaa
open Go.RowKit

theorem ends_take (l : List St) (b : Bool) (k : Nat) (hk : k < l.length) : (ends l b).take k ++ [nthI (ends l b) k] = (ends l b).take (k + 1) := by
  have hk' : k < (ends l b).length := by rw [ends_length]; exact hk
  rw [List.take_succ_eq_append_getElem hk']
  congr 2
  unfold nthI
  rw [List.getD_eq_getElem?_getD, List.getElem?_eq_getElem hk']; rfl

set_option maxHeartbeats 2000000 in
theorem refEnds_any (l : List St) (high : Bool) (vl : Value) (w : World) (hl : l.length ≤ 1000) (h : RSt w w.heap.size vl l) :
    Calls Try.prog 57 #[vl, .bool high] w fun e w' => ∃ v, e = .returned v ∧ RI w' w'.heap.size v (ends l high) ∧ Below w.heap.size w w' := by
  obtain ⟨A, cap, b, off, rfl, hA, hc⟩ := h.cells
  have HC := Lib.hid hc; have HA := Lib.hid hA
  clear hc hA
  go_enter Try.func57, Try.ntmps57
  go_wp2_with fail
  go_loopw [5, 6] (fun acc i wr => ∃ k : Nat, k ≤ l.length ∧ i = .int .i64 k ∧ OwnI 2 wr w.heap.size acc ((ends l high).take k) ∧ Below w.heap.size w wr) (fun _ i _ => l.length - (intOf i).toNat)
  case atStart => exact ⟨0, Nat.zero_le _, rfl, by simpa using OwnI.nil _ _ _, by exact bel_of⟩
  case round =>
    obtain ⟨k, hk, rfl, hown, hbw⟩ := hrel
    have hsz := hbw.size
    by_cases hlt : k < l.length
    · obtain ⟨rfl, hb⟩ := HA.out (by omega)
      have hcell := HC.out k hlt
      rw [← hbw.cell (by exact hb), ← hbw.cell (by exact hb), ← hbw.cell (by exact hb)] at hcell
      obtain ⟨c0, c1, c2⟩ := hcell
      obtain ⟨v', w2, hrun, hown', hb', hs', _⟩ := app_i64 hown (nthI (ends l high) k) (by rw [List.length_take, ends_length]; omega) hsz hbw wr.heap.size rfl
      rw [ends_take l high k hlt] at hown'
      rw [ends_at l high k hlt] at hrun
      have HO := Lib.hid hown'; clear hown'
      have HRUN := Lib.hid hrun; clear hrun hown
      cases high with
      | true =>
        simp only [if_true] at HRUN
        go_wp2_with (at_builtin; refine wpList_append_run rfl (.tmp 14) (.tmp 21) 23 _ rfl HRUN.out ?_)
        go_roundw
        case rel => exact ⟨k + 1, by omega, by go_num, HO.out, by exact bel_of⟩
        case measure => simp [intOf]; omega
      | false =>
        go_wp2_with (at_builtin; refine wpList_append_run rfl (.tmp 23) (.tmp 30) 23 _ rfl HRUN.out ?_)
        go_roundw
        case rel => exact ⟨k + 1, by omega, by go_num, HO.out, by exact bel_of⟩
        case measure => simp [intOf]; omega
    · have hke : k = l.length := by omega
      have HO := Lib.hid hown
      have HK := Lib.hid hke; clear hke
      go_wp2_with fail
      go_ret
      refine ⟨_, rfl, ?_, by exact bel_of⟩
      have := HO.out.ri
      rw [HK.out, List.take_of_length_le (by rw [ends_length]; exact Nat.le_refl _)] at this
      exact this
end Go.Proofs.Ytbjmkmambmeifaa

namespace Go.Proofs.Ytbjmkmambmeifaa
open Go.RowKit

def errV (e : Int) : Value := .tuple #[.agg #[.int .i64 0, .int .i64 0, .int .i64 0, .int .i64 0], .int .i64 e]
theorem spanV_form (l : List St) (hs : List Int) (s : Nat) (own : Int) : ∃ a b c d e, spanV l hs s own = .tuple #[.agg #[.int .i64 a, .int .i64 b, .int .i64 c, .int .i64 d], .int .i64 e] := by
  unfold spanV
  split
  · exact ⟨0, 0, 0, 0, 22, rfl⟩
  · exact ⟨_, _, _, _, _, rfl⟩
def tiltsV (l : List St) (t : List Int) (s : Int) : Value :=
  if checkTruth l t ≠ 0 then errV (checkTruth l t) else if ¬ (0 ≤ s ∧ s < l.length) then errV 3 else spanV l t s.toNat (nthI t s.toNat)
def canV (l : List St) (s : Int) : Value := if checkStation l s ≠ 0 then errV (checkStation l s) else spanV l (ends l true) s.toNat (nthS l s.toNat).lo
def sureV (l : List St) (s : Int) : Value := if checkStation l s ≠ 0 then errV (checkStation l s) else spanV l (ends l false) s.toNat (nthS l s.toNat).hi
theorem checkTruth_len0 (l : List St) (t : List Int) (h : checkTruth l t = 0) : checkPair l = 0 ∧ t.length = l.length ∧ ∀ k, k < l.length → inSt l t k = true := by
  unfold checkTruth at h
  by_cases h1 : checkPair l = 0
  · rw [if_neg (by simpa using h1)] at h
    by_cases h2 : t.length = l.length
    · rw [if_neg (by simpa using h2)] at h
      by_cases h3 : ∀ k, k < l.length → inSt l t k = true
      · exact ⟨h1, h2, h3⟩
      · rw [if_neg h3] at h; omega
    · rw [if_pos h2] at h; omega
  · rw [if_pos h1] at h; exact absurd h h1
theorem truth_rng (l : List St) (t : List Int) (h : checkTruth l t = 0) : ∀ i, i < l.length → -1000 ≤ nthI t i ∧ nthI t i ≤ 1000 := by
  obtain ⟨h1, h2, h3⟩ := checkTruth_len0 l t h
  intro i hi
  have h4 := (inB_iff _ _ _).1 (h3 i hi)
  have h5 := valid_at l h1 i hi
  omega
theorem ends_rng (l : List St) (b : Bool) (h : checkPair l = 0) : ∀ i, i < l.length → -1000 ≤ nthI (ends l b) i ∧ nthI (ends l b) i ≤ 1000 := by
  intro i hi
  have h5 := valid_at l h i hi
  rw [ends_at l b i hi]
  cases b <;> simp <;> omega
theorem valid_a (l : List St) (h : checkPair l = 0) : ∀ i, i < l.length → 0 ≤ (nthS l i).a ∧ (nthS l i).a ≤ 1000 := fun i hi => by
  have h5 := valid_at l h i hi
  omega
theorem checkStation_zero (l : List St) (s : Int) (h : checkStation l s = 0) : checkPair l = 0 ∧ ∃ k : Nat, s = k ∧ k < l.length := by
  unfold checkStation at h
  by_cases h1 : checkPair l = 0
  · rw [if_neg (by simpa using h1)] at h
    by_cases h2 : 0 ≤ s ∧ s < l.length
    · exact ⟨h1, s.toNat, by omega, by omega⟩
    · rw [if_neg h2] at h; omega
  · rw [if_pos h1] at h; exact absurd h h1

set_option maxRecDepth 100000 in
set_option maxHeartbeats 4000000 in
theorem tilts_any (l : List St) (t : List Int) (s : Int) (vl vt : Value) (w : World) (hl : l.length ≤ 1000) (ht : t.length ≤ 1000) (h : RSt w w.heap.size vl l) (h' : RI w w.heap.size vt t) :
    Calls Try.prog 17 #[vl, vt, .int .i64 s] w fun e w' => e = .returned (tiltsV l t s) ∧ Below w.heap.size w w' := by
  obtain ⟨e0, he0⟩ : ∃ e0, checkTruth l t = e0 := ⟨_, rfl⟩
  have hcall := fun w1 (hb : Below w.heap.size w w1) => checkTruth_any l t vl vt w1 hl ht ((h.below hb).more hb.size) ((RS.below h' hb).more hb.size)
  rw [he0] at hcall
  have HP := Lib.hid hcall; clear hcall
  by_cases hp : e0 = 0
  · subst hp
    obtain ⟨hv, hlen, _⟩ := checkTruth_len0 l t he0
    obtain ⟨hn0, hn1⟩ := checkPair_len l hv
    by_cases hs : 0 ≤ s ∧ s < l.length
    · obtain ⟨k, rfl⟩ : ∃ k : Nat, s = k := ⟨s.toNat, by omega⟩
      have hk : k < l.length := by omega
      have hV : tiltsV l t k = spanV l t k (nthI t k) := by
        unfold tiltsV
        rw [if_neg (by simpa using he0), if_neg (by simp; omega), Int.toNat_natCast]
      have hrb : ∀ W1 W g, Below w.heap.size w W1 → Below W1.heap.size W1 W → BK W g #[vl, vt] 82 → RB W (.pointer (some ⟨g, 0, none⟩)) l t := fun W1 W g hb hb2 hg =>
        ⟨g, 0, vl, vt, rfl, hg.cell 0, hg.cell 1, ((h.below hb).below (hb2.mono hb.size)).more (Nat.le_trans hb.size hb2.size), ((RS.below h' hb).below (hb2.mono hb.size)).more (Nat.le_trans hb.size hb2.size), hlen⟩
      have hsp := fun W g (hr : RB W (.pointer (some ⟨g, 0, none⟩)) l t) => span_any l t k (nthI t k) (nthS l k).lo (nthS l k).hi (some ⟨g, 0, none⟩) W hn1 hk hr (valid_lt l hv) (valid_a l hv) (truth_rng l t he0) (truth_rng l t he0 k hk)
      have hpt := fun W g (hr : RB W (.pointer (some ⟨g, 0, none⟩)) l t) => point_any l t k (.pointer (some ⟨g, 0, none⟩)) W hl hk hr
      obtain ⟨a1, a2, a3, a4, a5, hsv⟩ := spanV_form l t k (nthI t k)
      rw [hsv] at hsp hV
      have HV := Lib.hid hV; have HRB := Lib.hid hrb; have HSP := Lib.hid hsp; have HPT := Lib.hid hpt
      obtain ⟨A, cap, b, off, rfl, _, _⟩ := h.cells
      obtain ⟨A', cap', b', off', rfl, _, _⟩ := h'.cells
      have d1 : decide ((k : Int) < 0) = false := by simp
      have d2 : decide ((l.length : Int) ≤ (k : Int)) = false := by simp; omega
      clear hV hrb hsp hpt h h' he0 hv hs hsv hlen
      go_enter Try.func17, Try.ntmps17
      go_wp2_with fail
      refine (HP.out _ (by exact bel_of)).mono ?_
      rintro e w1 ⟨rfl, hb1⟩
      have hB1 : Below w.heap.size w w1 := (Below.trans (a := w) (B := w.heap.size) (by exact bel_of) (hb1.mono (by first | omega | (simp; omega) | (simp; done))))
      have b1 : BK w1 w.heap.size #[.int .i64 0, .int .i64 0, .int .i64 0, .int .i64 0] 34 := BK.below (BK.new _ _ _) hb1 (by simp)
      have hlt1 := b1.lt
      clear hb1
      go_wp2_with fail
      have hR := HRB.out w1 _ _ hB1 (by exact bel_of) (BK.new w1 #[.slice A l.length cap, .slice A' t.length cap'] 82)
      refine (HPT.out _ _ hR).mono ?_
      rintro e w2 ⟨rfl, hb2⟩
      have hR2 := hR.below hb2
      have hB2 : Below w.heap.size w w2 := (Below.trans (a := w) (B := w.heap.size) (by exact bel_of) (hb2.mono (by first | omega | (simp; omega) | (simp; done))))
      have b2 : BK w2 w.heap.size #[.int .i64 0, .int .i64 0, .int .i64 0, .int .i64 0] 34 := (b1.alloc _).below hb2 (by simp; omega)
      have hlt2 := b2.lt
      clear hb2 hR b1
      unfold ptV
      go_wp2_with fail
      refine (HSP.out _ _ hR2).mono ?_
      rintro e w3 ⟨rfl, hb3⟩
      have hB3 : Below w.heap.size w w3 := (Below.trans (a := w) (B := w.heap.size) (by exact bel_of) (hb3.mono (by first | omega | (simp; omega) | (simp; done))))
      have b3 := b2.below hb3 hlt2
      clear hb3 hR2 b2
      have y0 := b3.cell 0
      have y1 := b3.cell 1
      have y2 := b3.cell 2
      have y3 := b3.cell 3
      have f0 := b3.frozen 0
      have f1 := b3.frozen 1
      have f2 := b3.frozen 2
      have f3 := b3.frozen 3
      simp at y0 y1 y2 y3
      go_wp2_with fail
      have b5 := ((((b3.set 0 (.int .i64 a1)).set 1 (.int .i64 a2)).set 2 (.int .i64 a3)).set 3 (.int .i64 a4))
      simp at b5
      refine ret_bk (w := w) (n := w.heap.size) b5 (by exact bel_of) (v := .tuple #[.agg #[.int .i64 a1, .int .i64 a2, .int .i64 a3, .int .i64 a4], .int .i64 a5]) ?_ ?_
      · intro W' hb'
        have z0 := hb'.cell 0
        have z1 := hb'.cell 1
        have z2 := hb'.cell 2
        have z3 := hb'.cell 3
        simp at z0 z1 z2 z3
        simp [results, Try.results17, go_sem, z0, z1, z2, z3]
      exact ⟨by rw [HV.out], by exact bel_of⟩
    · have HV := Lib.hid (show tiltsV l t s = errV 3 by unfold tiltsV; rw [if_neg (by simpa using he0), if_pos hs])
      obtain ⟨A, cap, b, off, rfl, _, _⟩ := h.cells
      clear h h' he0 hv hlen
      rcases (by omega : s < 0 ∨ (¬ s < 0 ∧ (l.length : Int) ≤ s)) with h1 | ⟨h1, h2⟩
      · have d1 := decide_eq_true h1
        go_enter Try.func17, Try.ntmps17
        go_wp2_with fail
        refine (HP.out _ (by exact bel_of)).mono ?_
        rintro e w1 ⟨rfl, hb1⟩
        have hB1 : Below w.heap.size w w1 := (Below.trans (a := w) (B := w.heap.size) (by exact bel_of) (hb1.mono (by first | omega | (simp; omega) | (simp; done))))
        have b1 : BK w1 w.heap.size #[.int .i64 0, .int .i64 0, .int .i64 0, .int .i64 0] 34 := BK.below (BK.new _ _ _) hb1 (by simp)
        clear hb1
        have y0 := b1.cell 0
        have y1 := b1.cell 1
        have y2 := b1.cell 2
        have y3 := b1.cell 3
        have f0 := b1.frozen 0
        have f1 := b1.frozen 1
        have f2 := b1.frozen 2
        have f3 := b1.frozen 3
        simp at y0 y1 y2 y3
        go_wp2_with fail
        have b5 := ((((b1.set 0 (.int .i64 0)).set 1 (.int .i64 0)).set 2 (.int .i64 0)).set 3 (.int .i64 0))
        simp at b5
        refine ret_bk (w := w) (n := w.heap.size) b5 (by exact bel_of) (v := .tuple #[.agg #[.int .i64 0, .int .i64 0, .int .i64 0, .int .i64 0], .int .i64 3]) ?_ ?_
        · intro W' hb'
          have z0 := hb'.cell 0
          have z1 := hb'.cell 1
          have z2 := hb'.cell 2
          have z3 := hb'.cell 3
          simp at z0 z1 z2 z3
          simp [results, Try.results17, go_sem, z0, z1, z2, z3]
        exact ⟨by rw [HV.out]; rfl, by exact bel_of⟩
      · have d1 := decide_eq_false h1
        have d2 := decide_eq_true h2
        go_enter Try.func17, Try.ntmps17
        go_wp2_with fail
        refine (HP.out _ (by exact bel_of)).mono ?_
        rintro e w1 ⟨rfl, hb1⟩
        have hB1 : Below w.heap.size w w1 := (Below.trans (a := w) (B := w.heap.size) (by exact bel_of) (hb1.mono (by first | omega | (simp; omega) | (simp; done))))
        have b1 : BK w1 w.heap.size #[.int .i64 0, .int .i64 0, .int .i64 0, .int .i64 0] 34 := BK.below (BK.new _ _ _) hb1 (by simp)
        clear hb1
        have y0 := b1.cell 0
        have y1 := b1.cell 1
        have y2 := b1.cell 2
        have y3 := b1.cell 3
        have f0 := b1.frozen 0
        have f1 := b1.frozen 1
        have f2 := b1.frozen 2
        have f3 := b1.frozen 3
        simp at y0 y1 y2 y3
        go_wp2_with fail
        have b5 := ((((b1.set 0 (.int .i64 0)).set 1 (.int .i64 0)).set 2 (.int .i64 0)).set 3 (.int .i64 0))
        simp at b5
        refine ret_bk (w := w) (n := w.heap.size) b5 (by exact bel_of) (v := .tuple #[.agg #[.int .i64 0, .int .i64 0, .int .i64 0, .int .i64 0], .int .i64 3]) ?_ ?_
        · intro W' hb'
          have z0 := hb'.cell 0
          have z1 := hb'.cell 1
          have z2 := hb'.cell 2
          have z3 := hb'.cell 3
          simp at z0 z1 z2 z3
          simp [results, Try.results17, go_sem, z0, z1, z2, z3]
        exact ⟨by rw [HV.out]; rfl, by exact bel_of⟩
  · have hpb : (e0 != 0) = true := by simpa using hp
    have HV := Lib.hid (show tiltsV l t s = errV e0 by unfold tiltsV; rw [if_pos (by rw [he0]; exact hp), he0])
    clear he0 h h'
    go_enter Try.func17, Try.ntmps17
    go_wp2_with fail
    refine (HP.out _ (by exact bel_of)).mono ?_
    rintro e w1 ⟨rfl, hb1⟩
    have hB1 : Below w.heap.size w w1 := (Below.trans (a := w) (B := w.heap.size) (by exact bel_of) (hb1.mono (by first | omega | (simp; omega) | (simp; done))))
    have b1 : BK w1 w.heap.size #[.int .i64 0, .int .i64 0, .int .i64 0, .int .i64 0] 34 := BK.below (BK.new _ _ _) hb1 (by simp)
    clear hb1
    have y0 := b1.cell 0
    have y1 := b1.cell 1
    have y2 := b1.cell 2
    have y3 := b1.cell 3
    have f0 := b1.frozen 0
    have f1 := b1.frozen 1
    have f2 := b1.frozen 2
    have f3 := b1.frozen 3
    simp at y0 y1 y2 y3
    go_wp2_with fail
    have b5 := ((((b1.set 0 (.int .i64 0)).set 1 (.int .i64 0)).set 2 (.int .i64 0)).set 3 (.int .i64 0))
    simp at b5
    refine ret_bk (w := w) (n := w.heap.size) b5 (by exact bel_of) (v := .tuple #[.agg #[.int .i64 0, .int .i64 0, .int .i64 0, .int .i64 0], .int .i64 e0]) ?_ ?_
    · intro W' hb'
      have z0 := hb'.cell 0
      have z1 := hb'.cell 1
      have z2 := hb'.cell 2
      have z3 := hb'.cell 3
      simp at z0 z1 z2 z3
      simp [results, Try.results17, go_sem, z0, z1, z2, z3]
    exact ⟨by rw [HV.out]; rfl, by exact bel_of⟩

end Go.Proofs.Ytbjmkmambmeifaa

namespace Go.Proofs.Ytbjmkmambmeifaa
open Go.RowKit
attribute [local go_sem] Go.Oper.semAt_some

/-- Whether the station s, at the height own, is above the line of the t-th pair round it. -/
def pairUp (l : List St) (hs : List Int) (s : Nat) (own : Int) (t : Nat) : Bool :=
  aboveB (nthS l (t / (l.length - (s + 1)))).a (nthI hs (t / (l.length - (s + 1)))) (nthS l s).a own (nthS l (s + 1 + t % (l.length - (s + 1)))).a (nthI hs (s + 1 + t % (l.length - (s + 1))))
def meetsB (l : List St) (hs : List Int) (s : Nat) (own : Int) : Bool := (List.range (s * (l.length - (s + 1)))).all fun t => !pairUp l hs s own t

theorem pair_bounds {n s t : Nat} (ht : t < s * (n - (s + 1))) : t / (n - (s + 1)) < s ∧ s + 1 + t % (n - (s + 1)) < n := by
  have hm : 0 < n - (s + 1) := by
    rcases Nat.eq_zero_or_pos (n - (s + 1)) with h | h
    · rw [h] at ht; simp at ht
    · exact h
  refine ⟨(Nat.div_lt_iff_lt_mul hm).2 ht, ?_⟩
  have := Nat.mod_lt t hm
  omega

def PI (w : World) (l : List St) (s : Nat) (own p1 p2 : Int) (vb : Option Addr) (c : Nat) (N : Nat) (X : World) : Prop :=
  Below w.heap.size w X ∧ BK X w.heap.size #[.int .i64 (nthS l s).a, .int .i64 p1, .int .i64 p2, .int .i64 s, .int .i64 own] 85 ∧ BK X (w.heap.size + 1) #[.bool false] 4 ∧ BK X c #[.pointer vb] 80 ∧ BK X (c + 1) #[.int .i64 s] 3 ∧ N ≤ X.heap.size
theorem PI.adm {w : World} {l : List St} {s : Nat} {own p1 p2 : Int} {vb : Option Addr} {c N : Nat} {X Y : World} {B : Nat} (q : PI w l s own p1 p2 vb c N X) (ha : Adm B X Y) (hB : w.heap.size ≤ B) : PI w l s own p1 p2 vb c N Y :=
  ⟨ha.belowOf q.1 (Nat.le_refl _) hB, ha.cells q.2.1, ha.cells q.2.2.1, ha.cells q.2.2.2.1, ha.cells q.2.2.2.2.1, Nat.le_trans q.2.2.2.2.2 ha.size⟩

set_option maxRecDepth 100000 in
set_option maxHeartbeats 4000000 in
theorem meets_any (l : List St) (hs : List Int) (s : Nat) (own p1 p2 : Int) (vb : Option Addr) (w : World) (hl : l.length ≤ 25) (hs1 : s < l.length) (h : RB w (.pointer vb) l hs)
    (ha2 : ∀ i, i < l.length → 0 ≤ (nthS l i).a ∧ (nthS l i).a ≤ 1000) (hh : ∀ i, i < l.length → -1000 ≤ nthI hs i ∧ nthI hs i ≤ 1000) (ho : -1000 ≤ own ∧ own ≤ 1000) :
    Calls Try.prog 61 #[.pointer vb, .agg #[.int .i64 (nthS l s).a, .int .i64 p1, .int .i64 p2, .int .i64 s, .int .i64 own]] w fun e w' =>
      e = .returned (.bool (meetsB l hs s own)) ∧ Below w.heap.size w w' := by
  refine calls_of_wp_marks Try.func61 rfl ?_
  simp only [Try.ntmps61, List.size_toArray, List.length_cons, List.length_nil, Nat.reduceAdd, Nat.reduceSub, Array.replicate_succ, Array.replicate_zero, List.push_toArray, List.append_toArray, List.nil_append, List.cons_append]
  have HA2 := Lib.hid ha2
  have HH := Lib.hid hh
  clear ha2 hh
  go_wp2_with fail
  refine (pairs_any _ _ _).mono ?_
  rintro e w1 ⟨rfl, hw1⟩
  have hB0 : Below w.heap.size w w1 := by rw [← hw1]; exact bel_of
  have b0 : BK w1 (w.heap.size) #[.int .i64 (nthS l s).a, .int .i64 p1, .int .i64 p2, .int .i64 s, .int .i64 own] 85 := by rw [← hw1]; (repeat (first | assumption | (refine BK.new' _ _ _ _ ?_; simp; done) | refine BK.alloc ?_ _))
  have b1 : BK w1 (w.heap.size + 1) #[.bool false] 4 := by rw [← hw1]; (repeat (first | assumption | (refine BK.new' _ _ _ _ ?_; simp; done) | refine BK.alloc ?_ _))
  have b2 : BK w1 (w.heap.size + 1 + 1) #[.pointer vb] 80 := by rw [← hw1]; (repeat (first | assumption | (refine BK.new' _ _ _ _ ?_; simp; done) | refine BK.alloc ?_ _))
  have b3 : BK w1 (w.heap.size + 1 + 1 + 1) #[.int .i64 s] 3 := by rw [← hw1]; (repeat (first | assumption | (refine BK.new' _ _ _ _ ?_; simp; done) | refine BK.alloc ?_ _))
  have hS : w1.heap.size = w.heap.size + 4 := by rw [← hw1]; simp
  clear hw1
  go_wp2_with fail
  refine wp_range (gf := 79) (lb := #[.pointer (some ⟨w.heap.size + 1 + 1, 0, none⟩), .pointer (some ⟨w.heap.size + 1 + 1 + 1, 0, none⟩)]) rfl (enters_of Try.func79 (by kernel_rfl) rfl)
    (pairs_iter (fun _ => False) (fun h => h) (fun h => h) (fun h => h) (fun h => h) (fun h => h) (w.heap.size + 1 + 1) (w.heap.size + 1 + 1 + 1) (.pointer vb) l hs s (by omega) hs1) (fun _ => rfl)
    (fun t X => PI w l s own p1 p2 vb (w.heap.size + 1 + 1) w1.heap.size X ∧ ∀ k, k < t → pairUp l hs s own k = false)
    (fun c t X => c = .ret ∧ PI w l s own p1 p2 vb (w.heap.size + 1 + 1) w1.heap.size X ∧ t < s * (l.length - (s + 1)) ∧ pairUp l hs s own t = true)
    (fun t a' X => (PI w l s own p1 p2 vb (w.heap.size + 1 + 1) w1.heap.size X ∧ ∀ k, k < t → pairUp l hs s own k = false) ∧
      ∃ bx by', w1.heap.size ≤ bx ∧ w1.heap.size ≤ by' ∧ BoxP X bx l hs (t / (l.length - (s + 1))) ∧ BoxP X by' l hs (s + 1 + t % (l.length - (s + 1))) ∧ a' = { tmps := #[.pointer vb, .agg #[.int .i64 (nthS l s).a, .int .i64 p1, .int .i64 p2, .int .i64 s, .int .i64 own], undef, .pointer (some ⟨w.heap.size, 0, none⟩), .pointer (some ⟨w.heap.size + 1, 0, none⟩), .pointer (some ⟨bx, 0, none⟩), .pointer (some ⟨by', 0, none⟩), .pointer vb, .pointer (some ⟨w.heap.size, 3, none⟩), .int .i64 s, .func (.func 79) #[] #[.pointer (some ⟨w.heap.size + 1 + 1, 0, none⟩), .pointer (some ⟨w.heap.size + 1 + 1 + 1, 0, none⟩)], ptV l hs (t / (l.length - (s + 1))), ptV l hs (s + 1 + t % (l.length - (s + 1))), undef, undef, undef, undef], defers := [] })
    ?rounds (fun i X hX => ⟨hX.1.2.2.2.1.cell 0, hX.1.2.2.2.2.1.cell 0, h.below hX.1.1⟩) ⟨⟨hB0, b0, b1, b2, b3, Nat.le_refl _⟩, fun k hk => by omega⟩ ?done ?stop
  case rounds =>
    refine ⟨?_, ?_, ?_, fun i X h => h.1.2.2.2.2.2, ?_, ?_⟩
    · rintro i A A' ⟨h1, h2⟩ ha
      exact ⟨h1.adm ha (by omega), h2⟩
    · rintro c i A A' ⟨h0, h1, h2⟩ ha
      exact ⟨h0, h1.adm ha (by omega), h2⟩
    · rintro i a A A' ⟨⟨h1, h2⟩, bx, by', h3, h4, h5, h6, h7⟩ ha
      exact ⟨⟨h1.adm ha (by omega), h2⟩, bx, by', h3, h4, h5.adm ha, h6.adm ha, h7⟩
    · rintro lq i A hi ⟨h1, h2⟩ K hK
      obtain ⟨k, hk⟩ : ∃ k, i / (l.length - (s + 1)) = k := ⟨_, rfl⟩
      obtain ⟨m, hm⟩ : ∃ m, s + 1 + i % (l.length - (s + 1)) = m := ⟨_, rfl⟩
      simp only [hk, hm] at hK ⊢
      have hb1 : Below A.heap.size A ((A.alloc (.cells #[.int .i64 (nthS l k).a, .int .i64 (nthS l k).lo, .int .i64 (nthS l k).hi, .int .i64 k, .int .i64 (nthI hs k)] 85)).alloc (.cells #[.int .i64 (nthS l m).a, .int .i64 (nthS l m).lo, .int .i64 (nthS l m).hi, .int .i64 m, .int .i64 (nthI hs m)] 85)) := by exact bel_of
      have ha := Adm.below (B := w1.heap.size) hb1
      have h3 := h1.2.2.2.2.2
      have hK2 := hK _ _ ((Kept.refl _ _ _).below hb1)
        ⟨⟨h1.adm ha (by omega), h2⟩, A.heap.size, A.heap.size + 1, h3, by omega, BK.alloc (BK.new _ _ _) _, BK.new' _ _ _ _ (by simp), rfl⟩
      have HK := Lib.hid hK2; clear hK2 hK h1 h2
      unfold ptV
      gi_wp2_with fail
      exact HK.out
    · rintro lq i a' A hi hlq ⟨r, hr⟩ ⟨⟨hPI, hno⟩, bx, by', hbx, hby, hP1, hP2, rfl⟩
      obtain ⟨hi1, hi2⟩ := pair_bounds hi
      obtain ⟨up, hup⟩ : ∃ up, pairUp l hs s own i = up := ⟨_, rfl⟩
      have hup' := hup
      unfold pairUp at hup
      obtain ⟨k, hk⟩ : ∃ k, i / (l.length - (s + 1)) = k := ⟨_, rfl⟩
      obtain ⟨m, hm⟩ : ∃ m, s + 1 + i % (l.length - (s + 1)) = m := ⟨_, rfl⟩
      simp only [hk, hm] at hi1 hi2 hup hP1 hP2 ⊢
      clear hk hm
      have c0 := hPI.2.1
      have c1 := hPI.2.2.1
      have y0 := c0.cell 0
      have y1 := c0.cell 1
      have y2 := c0.cell 2
      have y3 := c0.cell 3
      have y4 := c0.cell 4
      simp at y0 y1 y2 y3 y4
      have z0 := c1.cell 0
      have zf := c1.frozen 0
      simp at z0
      obtain ⟨x1, x2, x3, x4, x5⟩ := hP1.cells
      obtain ⟨u1, u2, u3, u4, u5⟩ := hP2.cells
      have e1 := HA2.out k (by omega)
      have e2 := HA2.out s hs1
      have e3 := HA2.out m hi2
      have e4 := HH.out k (by omega)
      have e5 := HH.out m hi2
      have hcl := c1.lt
      have hab : Calls Try.prog 62 #[.agg #[.int .i64 (nthS l k).a, .int .i64 (nthS l k).lo, .int .i64 (nthS l k).hi, .int .i64 k, .int .i64 (nthI hs k)], .agg #[.int .i64 (nthS l s).a, .int .i64 p1, .int .i64 p2, .int .i64 s, .int .i64 own], .agg #[.int .i64 (nthS l m).a, .int .i64 (nthS l m).lo, .int .i64 (nthS l m).hi, .int .i64 m, .int .i64 (nthI hs m)]] A fun e w' => e = .returned (.bool up) ∧ Below A.heap.size A w' := by
        rw [← hup]
        exact above_any _ _ _ _ _ _ _ _ _ _ _ _ _ _ _ _ (by omega) (by omega) (by omega) (by omega) (by omega) (by omega)
      have HAB := Lib.hid hab; clear hab
      have HNO := Lib.hid hno; have HUP := Lib.hid hup'; clear hno hup hup'
      gi_wp2_with fail
      refine ⟨trivial, CallsIn.mono (CallsIn.inRound lq (callsIn_wide.2 HAB.out)) ?_⟩
      rintro e w2 ⟨rfl, hb2⟩
      have hb2s := hb2.size
      have hPI2 := hPI.adm (Adm.below (B := w1.heap.size) hb2) (by omega)
      have hkp : Kept (fun _ => False) w1.heap.size A w2 := (Kept.refl _ _ _).below hb2
      obtain ⟨r1, r2⟩ := Below.rules hb2
      have z0' := (c1.below hb2 hcl).cell 0
      have zf' := (c1.below hb2 hcl).frozen 0
      simp at z0'
      clear hb2 r1 r2
      cases up with
      | true =>
        gi_wp2_with fail
        have hN := hPI2.2.2.2.2.2
        exact ⟨hkp.setCell (.inl (by simp only; omega)) _, rfl, ⟨hPI2.1.setCell (by simp only; omega) _, hPI2.2.1.far (by first | (simp only; omega) | (simp; omega) | (simp; done)) _, by simpa using hPI2.2.2.1.set 0 (.bool false), hPI2.2.2.2.1.far (by first | (simp only; omega) | (simp; omega) | (simp; done)) _, hPI2.2.2.2.2.1.far (by first | (simp only; omega) | (simp; omega) | (simp; done)) _, by simp only [World.setCell, Array.size_modify]; omega⟩, hi, HUP.out⟩
      | false =>
        gi_wp2_with fail
        refine ⟨hkp, hPI2, fun k hk => ?_⟩
        rcases Nat.lt_or_ge k i with h1 | h1
        · exact HNO.out k h1
        · have : k = i := by omega
          subst this
          exact HUP.out
  case stop =>
    rintro D c i X hD hi ⟨rfl, h1, h2, h3⟩ hK
    have hbk := h1.2.2.1
    have hne : w.heap.size + 1 ≠ D := by rintro rfl; unfold BK at hbk; rw [hbk] at hK; cases hK
    have hbw := h1.1
    have hm : meetsB l hs s own = false := by
      unfold meetsB
      rw [List.all_eq_false]
      exact ⟨i, by simpa using h2, by simp [h3]⟩
    have HM := Lib.hid hm
    clear h1 h2 h3 hm
    go_wp2_with fail
    refine leave1_bk (w := w) (n := w.heap.size) hK hbk hne hbw (by omega) (v := .bool (meetsB l hs s own)) ?_ (fun W' hW => ⟨rfl, hW⟩)
    intro W' hb'
    have h0 := hb'.cell 0
    simp at h0
    rw [HM.out]
    simp [results, Try.results61, go_sem, h0]
  case done =>
    rintro D X hD ⟨h1, h2⟩ hK
    have hbk := h1.2.2.1
    have hne : w.heap.size + 1 ≠ D := by rintro rfl; unfold BK at hbk; rw [hbk] at hK; cases hK
    have hbw := h1.1
    have hm : meetsB l hs s own = true := by
      unfold meetsB
      rw [List.all_eq_true]
      intro t ht
      rw [h2 t (by simpa using ht)]; rfl
    have HM := Lib.hid hm
    have z0 := hbk.cell 0
    have zf := hbk.frozen 0
    simp at z0
    have hzl := hbk.lt
    clear h1 h2 hm
    go_wp2_with fail
    refine leave1_bk (w := w) (n := w.heap.size) ((Below.heap_setCell _ _ _ _ (by exact Ne.symm hne)).trans hK) (by simpa using hbk.set 0 (.bool true)) hne (by exact bel_of) (by omega) (v := .bool (meetsB l hs s own)) ?_ (fun W' hW => ⟨rfl, hW⟩)
    intro W' hb'
    have h0 := hb'.cell 0
    simp at h0
    rw [HM.out]
    simp [results, Try.results61, go_sem, h0]
end Go.Proofs.Ytbjmkmambmeifaa

namespace Go.Proofs.Ytbjmkmambmeifaa
open Go.RowKit

def kindP (l : List St) (i : Nat) : Int := if meetsB l (ends l false) i (nthI (ends l true) i) then 2 else if meetsB l (ends l true) i (nthI (ends l false) i) then 1 else 0
def kindsP (l : List St) : List Int := if checkPair l = 0 then (List.range l.length).map (kindP l) else []
theorem kindsP_length (l : List St) (h : checkPair l = 0) : (kindsP l).length = l.length := by simp [kindsP, h]
theorem kindsP_at (l : List St) (h : checkPair l = 0) (k : Nat) (hk : k < l.length) : nthI (kindsP l) k = kindP l k := by simp [nthI, kindsP, h, hk]
theorem ri_nil (W : World) (B : Nat) : RI W B (.slice none 0 0) [] := ⟨none, 0, 0, 0, rfl, ⟨rfl, Nat.le_refl _⟩, fun h => absurd rfl h, fun j hj => absurd hj (by simp [ofI])⟩

set_option maxRecDepth 100000 in
set_option maxHeartbeats 4000000 in
theorem kindsP_any (l : List St) (vl : Value) (w : World) (hl : l.length ≤ 1000) (h : RSt w w.heap.size vl l) :
    Calls Try.prog 30 #[vl] w fun e w' => ∃ v, e = .returned (.tuple #[v, .int .i64 (checkPair l)]) ∧ RI w' w'.heap.size v (kindsP l) ∧ Below w.heap.size w w' := by
  have hcall := fun w1 (hb : Below w.heap.size w w1) => checkPair_any l vl w1 hl ((h.below hb).more hb.size)
  by_cases hp : checkPair l = 0
  · rw [hp] at hcall ⊢
    have hn := checkPair_len l hp
    have hkl := kindsP_length l hp
    have hka := kindsP_at l hp
    have hnb := fun w1 (hb : Below w.heap.size w w1) hg => newBlades_any l hg vl w1 (by omega) hl ((h.below hb).more hb.size)
    have hpt := fun w1 vb hg k (hk : k < l.length) (hb : RB w1 vb l (ends l hg)) => point_any l (ends l hg) k vb w1 hl hk hb
    have hme := fun w1 vb hg k ho (hk : k < l.length) (hr : RB w1 (.pointer vb) l (ends l hg)) => meets_any l (ends l hg) k (nthI (ends l ho) k) (nthS l k).lo (nthS l k).hi vb w1 hn.2 hk hr (valid_a l hp) (ends_rng l _ hp) (ends_rng l _ hp k hk)
    have HP := Lib.hid hcall; have HN := Lib.hid hnb; have HPT := Lib.hid hpt; have HME := Lib.hid hme; have HKL := Lib.hid hkl; have HKA := Lib.hid hka
    obtain ⟨A, cap, b, off, rfl, _, _⟩ := h.cells
    have hmk := run_make_row' (P := Try.prog) 29 3 (.int .i64 0) 8 int_slice int_info rfl .i64 .i64 l.length (by omega) (by omega)
    clear hcall hp h hnb hpt hme hkl hka
    go_enter Try.func30, Try.ntmps30
    go_wp2_with fail
    refine (HP.out _ (by exact bel_of)).mono ?_
    rintro e w1 ⟨rfl, hb1⟩
    have hB1 : Below w.heap.size w w1 := (Below.trans (a := w) (B := w.heap.size) (by exact bel_of) (hb1.mono (by first | omega | (simp; omega) | (simp; done))))
    clear hb1
    go_wp2_with fail
    refine (HN.out w1 hB1 false).mono ?_
    rintro e w2 ⟨gl, rfl, hRl, hb2⟩
    have hB2 : Below w.heap.size w w2 := hB1.trans (hb2.mono hB1.size)
    clear hb2
    go_wp2_with fail
    refine (HN.out w2 hB2 true).mono ?_
    rintro e w3 ⟨gh, rfl, hRh, hb3⟩
    have hRl3 := hRl.below hb3
    have hB3 : Below w.heap.size w w3 := hB2.trans (hb3.mono hB2.size)
    clear hb3 hRl
    have HRL := Lib.hid (fun W (hb : Below w3.heap.size w3 W) => hRl3.below hb)
    have HRH := Lib.hid (fun W (hb : Below w3.heap.size w3 W) => hRh.below hb)
    clear hRl3 hRh
    have hB3s := hB3.size
    obtain ⟨g7, hg7⟩ : ∃ g7, w3.heap.size = g7 := ⟨_, rfl⟩
    have hbk : BK (w3.alloc (.cells (madeCells #[.int .i64 0] l.length) 3)) g7 (madeCells #[.int .i64 0] l.length) 3 := BK.new' _ _ _ _ hg7
    go_wp2_with fail
    clear hmk
    go_loopw [23] (fun iv wr => ∃ i : Nat, i ≤ l.length ∧ iv = .int .i64 i ∧ Below w3.heap.size w3 wr ∧ ∃ cs, BK wr g7 cs 3 ∧ cs.size = l.length ∧ ∀ j, j < i → cs[j]? = some (.int .i64 (nthI (kindsP l) j))) (fun i _ => l.length - (intOf i).toNat)
    case atStart => exact ⟨0, by omega, rfl, by exact bel_of, _, hbk, size_madeCells _ _, fun j hj => by omega⟩
    case round =>
      clear hbk
      obtain ⟨i, hi, rfl, hbw, cs, b7, hcs, hall⟩ := hrel
      have HALL := Lib.hid hall; clear hall
      have hsz := hbw.size
      have hlt7 := b7.lt
      by_cases hil : i < l.length
      · have hKA := HKA.out i hil
        unfold kindP at hKA
        have hme1 := fun w1 vb => HME.out w1 vb false i true hil
        have hme2 := fun w1 vb => HME.out w1 vb true i false hil
        obtain ⟨m1, hm1⟩ : ∃ m1, meetsB l (ends l false) i (nthI (ends l true) i) = m1 := ⟨_, rfl⟩
        obtain ⟨m2, hm2⟩ : ∃ m2, meetsB l (ends l true) i (nthI (ends l false) i) = m2 := ⟨_, rfl⟩
        rw [hm1, hm2] at hKA
        rw [hm1] at hme1
        rw [hm2] at hme2
        have HM1 := Lib.hid hme1; have HM2 := Lib.hid hme2
        clear hme1 hme2 hm1 hm2
        have fin : ∀ x, x = nthI (kindsP l) i → ∀ j, j < i + 1 → (cs.setIfInBounds i (.int .i64 x))[j]? = some (.int .i64 (nthI (kindsP l) j)) := by
          rintro x rfl j hj
          rcases Nat.lt_or_ge j i with h1 | h1
          · rw [Array.getElem?_setIfInBounds_ne (by omega)]; exact HALL.out j h1
          · have : j = i := by omega
            subst this
            rw [Array.getElem?_setIfInBounds_self_of_lt (by omega)]
        have HF := Lib.hid fin; clear fin
        have HK := Lib.hid hKA; clear hKA
        have hi' : (i : Int) < (l.length : Int) := by omega
        go_wp2_with fail
        refine (HPT.out wr _ true i hil (HRH.out wr hbw)).mono ?_
        rintro e w4 ⟨rfl, hb4⟩
        have hbw4 := hbw.trans (hb4.mono hsz)
        have b74 := b7.below hb4 hlt7
        clear hb4 b7
        unfold ptV
        go_wp2_with fail
        refine (HM1.out w4 _ (HRL.out w4 hbw4)).mono ?_
        rintro e w5 ⟨rfl, hb5⟩
        have hbw5 := hbw4.trans (hb5.mono hbw4.size)
        have b75 := b74.below hb5 b74.lt
        clear hb5 b74
        cases m1 with
        | true =>
          have y0 := b75.cell i
          rw [Array.getElem?_eq_getElem (by omega)] at y0
          have f0 := b75.frozen i
          have hlt75 := b75.lt
          go_wp2_with fail
          go_roundw
          case rel => exact ⟨i + 1, by omega, by go_num, by exact bel_of, _, b75.set i _, by simpa using hcs, HF.out 2 (by rw [HK.out]; rfl)⟩
          case measure => simp [intOf]; omega
        | false =>
          go_wp2_with fail
          refine (HPT.out w5 _ false i hil (HRL.out w5 hbw5)).mono ?_
          rintro e w6 ⟨rfl, hb6⟩
          have hbw6 := hbw5.trans (hb6.mono hbw5.size)
          have b76 := b75.below hb6 b75.lt
          clear hb6 b75
          unfold ptV
          go_wp2_with fail
          refine (HM2.out w6 _ (HRH.out w6 hbw6)).mono ?_
          rintro e w7 ⟨rfl, hb7⟩
          have hbw7 := hbw6.trans (hb7.mono hbw6.size)
          have b77 := b76.below hb7 b76.lt
          clear hb7 b76
          have y0 := b77.cell i
          rw [Array.getElem?_eq_getElem (by omega)] at y0
          have f0 := b77.frozen i
          have hlt77 := b77.lt
          cases m2 with
          | true =>
            go_wp2_with fail
            go_roundw
            case rel => exact ⟨i + 1, by omega, by go_num, by exact bel_of, _, b77.set i _, by simpa using hcs, HF.out 1 (by rw [HK.out]; rfl)⟩
            case measure => simp [intOf]; omega
          | false =>
            go_wp2_with fail
            go_roundw
            case rel => exact ⟨i + 1, by omega, by go_num, by exact bel_of, _, b77.set i _, by simpa using hcs, HF.out 0 (by rw [HK.out]; rfl)⟩
            case measure => simp [intOf]; omega
      · have hie : i = l.length := by omega
        have HIE := Lib.hid hie
        clear hie
        go_wp2_with fail
        refine bodyPost_ret (v := .tuple #[.slice (some ⟨g7, 0, none⟩) l.length l.length, .int .i64 0]) (by simp [results, Try.results30, go_sem]) rfl ⟨_, rfl, ?_, hB3.trans (hbw.mono hB3s)⟩
        refine ⟨_, l.length, g7, 0, by rw [HKL.out], ⟨by simp [ofI], by rw [HKL.out]; exact Nat.le_refl _⟩, fun _ => ⟨rfl, b7.lt⟩, fun j hj => ?_⟩
        have hj' : j < l.length := by rw [← HKL.out]; simpa [ofI] using hj
        rw [Nat.zero_add, b7.cell, HALL.out j (by rw [HIE.out]; exact hj')]
        have : j < (kindsP l).length := by rw [HKL.out]; exact hj'
        simp [ofI, nthI, this]
  · have hk : kindsP l = [] := by simp [kindsP, hp]
    rw [hk]
    obtain ⟨e0, he0⟩ : ∃ e0, checkPair l = e0 := ⟨_, rfl⟩
    rw [he0] at hcall hp ⊢
    have hpb : (e0 != 0) = true := by simpa using hp
    have HP := Lib.hid hcall
    clear hcall he0 hp h hk
    go_enter Try.func30, Try.ntmps30
    go_wp2_with fail
    refine (HP.out _ (by exact bel_of)).mono ?_
    rintro e w1 ⟨rfl, hb1⟩
    have hB1 : Below w.heap.size w w1 := (Below.trans (a := w) (B := w.heap.size) (by exact bel_of) (hb1.mono (by first | omega | (simp; omega) | (simp; done))))
    clear hb1
    go_wp2_with fail
    exact bodyPost_ret (v := .tuple #[.slice none 0 0, .int .i64 e0]) (by simp [results, Try.results30, go_sem]) rfl ⟨_, rfl, ri_nil _ _, hB1⟩
end Go.Proofs.Ytbjmkmambmeifaa

namespace Go.Proofs.Ytbjmkmambmeifaa
open Go.RowKit

theorem popR_suffix (l : List St) (hs : List Int) (k : Nat) : ∀ (r : List Nat), popR l hs k r <:+ r
  | [] => List.suffix_refl _
  | [q] => List.suffix_refl _
  | q :: p :: r => by
    rw [popR_two]
    split
    · exact (popR_suffix l hs k (p :: r)).trans (List.suffix_cons _ _)
    · exact List.suffix_refl _
theorem popR_ne (l : List St) (hs : List Int) (k : Nat) : ∀ (r : List Nat), r ≠ [] → popR l hs k r ≠ []
  | [], h => h
  | [q], h => by simp [popR]
  | q :: p :: r, h => by
    rw [popR_two]
    split
    · exact popR_ne l hs k (p :: r) (by simp)
    · simp
theorem hullR_desc (l : List St) (hs : List Int) : ∀ n, (hullR l hs n).Pairwise (· > ·)
  | 0 => by simp [hullR]
  | n + 1 => by
    simp only [hullR, List.pairwise_cons]
    exact ⟨fun x hx => hullR_lt l hs n x (popR_sub l hs n _ x hx), (hullR_desc l hs n).sublist (popR_suffix l hs n _).sublist⟩
theorem hullR_ne (l : List St) (hs : List Int) (n : Nat) : hullR l hs (n + 1) ≠ [] := by simp [hullR]
theorem hullR_last (l : List St) (hs : List Int) : ∀ n, (hullR l hs (n + 1)).getLast? = some 0
  | 0 => by simp [hullR, popR]
  | n + 1 => by
    have h1 := hullR_last l hs n
    have h2 := popR_suffix l hs (n + 1) (hullR l hs (n + 1))
    have h3 := popR_ne l hs (n + 1) _ (hullR_ne l hs n)
    obtain ⟨t, ht⟩ := h2
    rw [← ht, List.getLast?_append] at h1
    cases hq : (popR l hs (n + 1) (hullR l hs (n + 1))).getLast? with
    | none => exact absurd (List.getLast?_eq_none_iff.1 hq) h3
    | some x =>
      rw [hq] at h1
      have hx : x = 0 := by simpa using h1
      rw [hullR, List.getLast?_cons, hq, hx]; rfl

/-- The names of the hull, rising. -/
def hullL (l : List St) : List Nat := (hullR l (ends l true) l.length).reverse
theorem hullL_len (l : List St) (h0 : 0 < l.length) : 0 < (hullL l).length ∧ (hullL l).length ≤ l.length := by
  refine ⟨?_, by rw [hullL, List.length_reverse]; exact hullR_len _ _ _⟩
  rw [hullL, List.length_reverse]
  cases hx : l.length with
  | zero => omega
  | succ m => simp [hullR]
theorem nm_get (L : List Nat) (j : Nat) (hj : j < L.length) : nm L j = L[j] := by simp [nm, hj]
theorem hullL_lt (l : List St) (j : Nat) (hj : j < (hullL l).length) : nm (hullL l) j < l.length := by
  rw [nm_get _ _ hj]
  exact hullR_lt l _ _ _ (List.mem_reverse.1 (List.getElem_mem hj))
theorem hullL_inc (l : List St) (j : Nat) (hj : j + 1 < (hullL l).length) : nm (hullL l) j < nm (hullL l) (j + 1) := by
  rw [nm_get _ _ (by omega), nm_get _ _ hj]
  have := List.pairwise_reverse.2 (hullR_desc l (ends l true) l.length)
  exact List.pairwise_iff_getElem.1 this j (j + 1) (by show j < (hullL l).length; omega) hj (by omega)
theorem hullL_fst (l : List St) (h0 : 0 < l.length) : nm (hullL l) 0 = 0 := by
  have h1 := (hullL_len l h0).1
  rw [nm_get _ _ h1]
  obtain ⟨m, hm⟩ : ∃ m, l.length = m + 1 := ⟨l.length - 1, by omega⟩
  have h2 := hullR_last l (ends l true) m
  rw [← hm, ← List.head?_reverse] at h2
  have h3 : (hullL l).head? = some 0 := h2
  rw [List.head?_eq_getElem?, List.getElem?_eq_getElem h1] at h3
  exact Option.some.inj h3

def hP (l : List St) (i : Nat) : Ra := heightR l (ends l true) (hullL l) (nthS l i).a
def badP (l : List St) (i : Nat) : Bool := decide ((hP l i).num < (nthS l i).lo * (hP l i).den)
def heightsErrP (l : List St) : Int := if checkPair l ≠ 0 then checkPair l else if (List.range l.length).any (badP l) then 22 else 0
def heightsP (l : List St) : List Ra := if heightsErrP l = 0 then (List.range l.length).map (hP l) else []

theorem heightR_bounds (l : List St) (hs : List Int) (L : List Nat) (pa : Int)
    (hb : ∀ j, j < L.length → 0 ≤ (nthS l (nm L j)).a ∧ (nthS l (nm L j)).a ≤ 1000 ∧ -1000 ≤ nthI hs (nm L j) ∧ nthI hs (nm L j) ≤ 1000)
    (hinc : ∀ j, j + 1 < L.length → (nthS l (nm L j)).a < (nthS l (nm L (j + 1))).a) (hfst : (nthS l (nm L 0)).a ≤ pa) (hpa : 0 ≤ pa ∧ pa ≤ 1000) :
    -2000000 ≤ (heightR l hs L pa).num ∧ (heightR l hs L pa).num ≤ 2000000 ∧ 0 ≤ (heightR l hs L pa).den ∧ (heightR l hs L pa).den ≤ 1000 := by
  unfold heightR
  cases hf : (List.range L.length).find? (fun j => decide (pa ≤ (nthS l (nm L j)).a)) with
  | none => simp
  | some j =>
    have h1 := List.find?_range_eq_some.1 hf
    obtain ⟨h1, h2, h3⟩ := h1
    have hj := List.mem_range.1 h2
    have q1 := hb j hj
    simp only
    by_cases he : (nthS l (nm L j)).a = pa
    · rw [if_pos he]; simp; omega
    · rw [if_neg he]
      have h1' : pa ≤ (nthS l (nm L j)).a := of_decide_eq_true h1
      obtain ⟨m, rfl⟩ : ∃ m, j = m + 1 := by
        cases j with
        | zero => omega
        | succ m => exact ⟨m, rfl⟩
      rw [Nat.add_sub_cancel]
      have q2 := hb m (by omega)
      have q3 := hinc m hj
      have q4 : (nthS l (nm L m)).a < pa := by
        have := h3 m (by omega)
        simp at this; exact this
      have e1 := mul_bd (nthI hs (nm L m)) ((nthS l (nm L (m + 1))).a - pa) 1000 1000 (by omega) (by omega)
      have e2 := mul_bd (nthI hs (nm L (m + 1))) (pa - (nthS l (nm L m)).a) 1000 1000 (by omega) (by omega)
      simp only [Nat.reduceMul] at e1 e2
      have := frac_bounds (nthI hs (nm L m) * ((nthS l (nm L (m + 1))).a - pa) + nthI hs (nm L (m + 1)) * (pa - (nthS l (nm L m)).a)) ((nthS l (nm L (m + 1))).a - (nthS l (nm L m)).a) (by omega)
      omega

theorem rra_nil (W : World) (B : Nat) : RRa W B (.slice none 0 0) [] := ⟨none, 0, 0, 0, rfl, ⟨rfl, Nat.le_refl _⟩, fun h => absurd rfl h, fun j hj => absurd hj (by simp [ofR])⟩
theorem map_take_succ {α : Type} (f : Nat → α) (n k : Nat) (hk : k < n) : ((List.range n).map f).take k ++ [f k] = ((List.range n).map f).take (k + 1) := by
  have hk' : k < ((List.range n).map f).length := by simpa using hk
  rw [List.take_succ_eq_append_getElem hk']
  simp

set_option maxRecDepth 100000 in
set_option maxHeartbeats 4000000 in
theorem heightsP_any (l : List St) (vl : Value) (w : World) (hl : l.length ≤ 1000) (h : RSt w w.heap.size vl l) :
    Calls Try.prog 34 #[vl] w fun e w' => ∃ v, e = .returned (.tuple #[v, .int .i64 (heightsErrP l)]) ∧ RRa w' w'.heap.size v (heightsP l) ∧ Below w.heap.size w w' := by
  have hcall := fun w1 (hb : Below w.heap.size w w1) => checkPair_any l vl w1 hl ((h.below hb).more hb.size)
  by_cases hp : checkPair l = 0
  · rw [hp] at hcall
    have hn := checkPair_len l hp
    have hll := hullL_len l hn.1
    have hlt := hullL_lt l
    have hinc := hullL_inc l
    have hfst := hullL_fst l hn.1
    have hnb := fun w1 (hb : Below w.heap.size w w1) => newBlades_any l true vl w1 (by omega) hl ((h.below hb).more hb.size)
    have hpt := fun w1 vb k (hk : k < l.length) (hb : RB w1 vb l (ends l true)) => point_any l (ends l true) k vb w1 hl hk hb
    have hhu := fun w1 vb (hr : RB w1 (.pointer vb) l (ends l true)) => hull_any l (ends l true) vb w1 hn.2 hr (valid_a l hp) (ends_rng l _ hp) hn.1
    have hb1 : ∀ j, j < (hullL l).length → 0 ≤ (nthS l (nm (hullL l) j)).a ∧ (nthS l (nm (hullL l) j)).a ≤ 1000 ∧ -1000 ≤ nthI (ends l true) (nm (hullL l) j) ∧ nthI (ends l true) (nm (hullL l) j) ≤ 1000 := fun j hj => by
      have h1 := valid_a l hp _ (hlt j hj)
      have h2 := ends_rng l true hp _ (hlt j hj)
      omega
    have hin1 : ∀ j, j + 1 < (hullL l).length → (nthS l (nm (hullL l) j)).a < (nthS l (nm (hullL l) (j + 1))).a := fun j hj => valid_lt l hp _ _ (hinc j hj) (hlt _ hj)
    have hf1 : ∀ k, k < l.length → (nthS l (nm (hullL l) 0)).a ≤ (nthS l k).a := fun k hk => by
      rw [hfst]
      rcases Nat.eq_zero_or_pos k with rfl | h0
      · exact Int.le_refl _
      · exact Int.le_of_lt (valid_lt l hp 0 k h0 hk)
    have hhe := fun w1 base v k (hk : k < l.length) (hO : OwnP w1 base v l (ends l true) (hullL l)) => height_any l (ends l true) (hullL l) base v (nthS l k).a (nthS l k).lo (nthS l k).hi k (nthI (ends l true) k) w1 hO hll.1 (by omega) hb1 hin1 (hf1 k hk) (valid_a l hp k hk)
    have hbd := fun k (hk : k < l.length) => heightR_bounds l (ends l true) (hullL l) (nthS l k).a hb1 hin1 (hf1 k hk) (valid_a l hp k hk)
    have hva := valid_at l hp
    have hE : heightsErrP l = if (List.range l.length).any (badP l) then 22 else 0 := by unfold heightsErrP; rw [if_neg (by simpa using hp)]
    have HP := Lib.hid hcall; have HN := Lib.hid hnb; have HPT := Lib.hid hpt; have HHU := Lib.hid hhu; have HHE := Lib.hid hhe; have HBD := Lib.hid hbd; have HVA := Lib.hid hva; have HE := Lib.hid hE
    obtain ⟨A, cap, b, off, rfl, hA, hc⟩ := h.cells
    obtain ⟨rfl, hb⟩ := hA (by omega)
    have HC := Lib.hid hc
    clear hcall hp h hnb hpt hhu hhe hbd hva hE hll hlt hinc hfst hb1 hin1 hf1 hA hc
    go_enter Try.func34, Try.ntmps34
    go_wp2_with fail
    refine (HP.out _ (by exact bel_of)).mono ?_
    rintro e w1 ⟨rfl, hb1⟩
    have hB1 : Below w.heap.size w w1 := (Below.trans (a := w) (B := w.heap.size) (by exact bel_of) (hb1.mono (by first | omega | (simp; omega) | (simp; done))))
    clear hb1
    go_wp2_with fail
    refine (HN.out w1 hB1).mono ?_
    rintro e w2 ⟨gh, rfl, hRh, hb2⟩
    have hB2 : Below w.heap.size w w2 := hB1.trans (hb2.mono hB1.size)
    clear hb2
    go_wp2_with fail
    refine (HHU.out w2 _ hRh).mono ?_
    rintro e w3 ⟨vh, rfl, hOh, hb3⟩
    have hRh3 := hRh.below hb3
    have hB3 : Below w.heap.size w w3 := hB2.trans (hb3.mono hB2.size)
    have hB3s := hB3.size
    obtain ⟨b2, hb2e⟩ : ∃ b2, w2.heap.size = b2 := ⟨_, rfl⟩
    rw [hb2e] at hOh
    clear hb3 hRh hb2e
    have HRH := Lib.hid (fun W (hb : Below w3.heap.size w3 W) => hRh3.below hb)
    have HOH := Lib.hid (fun W (hb : Below w3.heap.size w3 W) => hOh.below hb)
    clear hRh3 hOh
    go_wp2_with fail
    go_loopw [7, 22] (fun acc iv wr => ∃ i : Nat, i ≤ l.length ∧ iv = .int .i64 i ∧ OwnR wr w3.heap.size acc (((List.range l.length).map (hP l)).take i) ∧ Below w3.heap.size w3 wr ∧ ∀ j, j < i → badP l j = false) (fun _ i _ => l.length - (intOf i).toNat)
    case atStart => exact ⟨0, Nat.zero_le _, rfl, by simpa using OwnR.nil _ _, Below.refl _ _, fun j hj => by omega⟩
    case round =>
      obtain ⟨i, hi, rfl, hown, hbw, hall⟩ := hrel
      have HALL := Lib.hid hall; clear hall
      have hsz := hbw.size
      by_cases hil : i < l.length
      · have hcell := HC.out i hil
        have hbwW : Below w.heap.size w wr := hB3.trans (hbw.mono hB3s)
        rw [← hbwW.cell (by exact hb), ← hbwW.cell (by exact hb), ← hbwW.cell (by exact hb)] at hcell
        obtain ⟨c0, c1, c2⟩ := hcell
        have hbl : b < wr.heap.size := by omega
        have q1 := HVA.out i hil
        have q2 := HBD.out i hil
        have hmt := map_take_succ (hP l) l.length i hil
        have hbad : badP l i = decide ((hP l i).num < (nthS l i).lo * (hP l i).den) := rfl
        have hhe1 := fun w1 base v => HHE.out w1 base v i hil
        obtain ⟨R, hR⟩ : ∃ R, hP l i = R := ⟨_, rfl⟩
        have hR' : heightR l (ends l true) (hullL l) (nthS l i).a = R := hR
        rw [hR'] at q2 hhe1
        rw [hR] at hmt hbad
        have e1 := mul_bd (nthS l i).lo R.den 1000 1000 (by omega) (by omega)
        simp only [Nat.reduceMul] at e1
        have HHE1 := Lib.hid hhe1; have HMT := Lib.hid hmt; have HBAD := Lib.hid hbad; have HO := Lib.hid hown
        clear hhe1 hmt hbad hR hR' hown
        go_wp2_with fail
        have hbx : Below w3.heap.size w3 (wr.alloc (.cells #[.int .i64 (nthS l i).a, .int .i64 (nthS l i).lo, .int .i64 (nthS l i).hi] 62)) := by exact bel_of
        have pS : BK (wr.alloc (.cells #[.int .i64 (nthS l i).a, .int .i64 (nthS l i).lo, .int .i64 (nthS l i).hi] 62)) wr.heap.size #[.int .i64 (nthS l i).a, .int .i64 (nthS l i).lo, .int .i64 (nthS l i).hi] 62 := BK.new _ _ _
        have hOx := HO.out.below (W' := wr.alloc (.cells #[.int .i64 (nthS l i).a, .int .i64 (nthS l i).lo, .int .i64 (nthS l i).hi] 62)) (by exact bel_of)
        refine (HPT.out _ _ i hil (HRH.out _ hbx)).mono ?_
        rintro e w4 ⟨rfl, hb4⟩
        have hbw4 := hbx.trans (hb4.mono hbx.size)
        have pS4 := pS.below hb4 pS.lt
        have hO4 := hOx.below hb4
        clear hb4 pS hOx hbx HO
        unfold ptV
        go_wp2_with fail
        refine (HHE1.out w4 _ _ (HOH.out w4 hbw4)).mono ?_
        rintro e w5 ⟨rfl, hb5⟩
        have hbw5 := hbw4.trans (hb5.mono hbw4.size)
        have pS5 := pS4.below hb5 pS4.lt
        have hO5 := hO4.below hb5
        have hsz5 := hbw5.size
        have hlt5 := pS5.lt
        clear hb5 pS4 hO4 hbw4
        have y0 := pS5.cell 0
        have y1 := pS5.cell 1
        simp at y0 y1
        by_cases hgt : R.num < (nthS l i).lo * R.den
        · have d1 := decide_eq_true hgt
          have hV1 : heightsErrP l = 22 := by
            rw [HE.out, if_pos]
            exact List.any_eq_true.2 ⟨i, List.mem_range.2 hil, by rw [HBAD.out]; exact d1⟩
          have hV2 : heightsP l = [] := by unfold heightsP; rw [if_neg (by rw [hV1]; decide)]
          have HV1 := Lib.hid hV1; have HV2 := Lib.hid hV2
          have hB5 : Below w.heap.size w w5 := hB3.trans (hbw5.mono hB3s)
          clear hV1 hV2
          go_wp2_with fail
          exact bodyPost_ret (v := .tuple #[.slice none 0 0, .int .i64 22]) (by simp [results, Try.results34, go_sem]) rfl ⟨_, by rw [HV1.out], by rw [HV2.out]; exact rra_nil _ _, by exact bel_of⟩
        · have d1 := decide_eq_false hgt
          have hbf : badP l i = false := by rw [HBAD.out]; exact d1
          have HBF := Lib.hid hbf; clear hbf
          obtain ⟨v', w6, hrun, hown', hb', hs', _⟩ := app_ra (w1 := w5.alloc (.cells #[.int .i64 R.num, .int .i64 R.den] 25)) (hO5.below (by exact bel_of)) R (by simp; omega) (by simp; omega) (w0 := w3) (by exact bel_of) (w5.heap.size + 1) (by simp)
          rw [HMT.out] at hown'
          have HO := Lib.hid hown'; have HRUN := Lib.hid hrun; clear hown' hrun hO5
          go_wp2_with (at_builtin; refine wpList_append_run rfl (.tmp 41) (.tmp 43) 26 _ rfl HRUN.out ?_)
          go_roundw
          case rel => exact ⟨i + 1, by omega, by go_num, HO.out, by exact bel_of, fun j hj => by
            rcases Nat.lt_succ_iff_lt_or_eq.1 hj with h1 | rfl
            · exact HALL.out j h1
            · exact HBF.out⟩
          case measure => simp [intOf]; omega
      · have hie : i = l.length := by omega
        have hV1 : heightsErrP l = 0 := by
          rw [HE.out, if_neg]
          intro hx
          obtain ⟨j, hj, hb⟩ := List.any_eq_true.1 hx
          rw [HALL.out j (by rw [hie]; exact List.mem_range.1 hj)] at hb; cases hb
        have hV2 : heightsP l = (List.range l.length).map (hP l) := by unfold heightsP; rw [if_pos hV1]
        have HV1 := Lib.hid hV1; have HV2 := Lib.hid hV2
        have HIE := Lib.hid hie
        have HO := Lib.hid hown
        clear hie hown hV1 hV2
        go_wp2_with fail
        refine bodyPost_ret (v := .tuple #[u7, .int .i64 0]) (by simp [results, Try.results34, go_sem]) rfl ⟨_, by rw [HV1.out], ?_, hB3.trans (hbw.mono hB3s)⟩
        rw [HV2.out]
        have := HO.out.ri
        rw [HIE.out, List.take_of_length_le (by simp)] at this
        exact this
  · have hV1 : heightsErrP l = checkPair l := by unfold heightsErrP; rw [if_pos hp]
    have hV2 : heightsP l = [] := by unfold heightsP; rw [if_neg (by rw [hV1]; exact hp)]
    rw [hV1, hV2]
    obtain ⟨e0, he0⟩ : ∃ e0, checkPair l = e0 := ⟨_, rfl⟩
    rw [he0] at hcall hp ⊢
    have hpb : (e0 != 0) = true := by simpa using hp
    have HP := Lib.hid hcall
    clear hcall he0 hp h hV1 hV2
    go_enter Try.func34, Try.ntmps34
    go_wp2_with fail
    refine (HP.out _ (by exact bel_of)).mono ?_
    rintro e w1 ⟨rfl, hb1⟩
    have hB1 : Below w.heap.size w w1 := (Below.trans (a := w) (B := w.heap.size) (by exact bel_of) (hb1.mono (by first | omega | (simp; omega) | (simp; done))))
    clear hb1
    go_wp2_with fail
    exact bodyPost_ret (v := .tuple #[.slice none 0 0, .int .i64 e0]) (by simp [results, Try.results34, go_sem]) rfl ⟨_, rfl, rra_nil _ _, hB1⟩
end Go.Proofs.Ytbjmkmambmeifaa

namespace Go.Proofs.Ytbjmkmambmeifaa
open Go.RowKit
section
variable {P : Program} {ops : Array Oper} {Q : Exit → Act → World → Prop} {md : Region.Mode} {S : World → Prop} {E : List Nat}
theorem any_run3 {i j k : Nat} {o o' o'' : Oper} {fuel : Nat} {listed : Array Bool} {a : Act} {w : World} (hr : Region.ready md ops listed = [i, j, k]) (hi : ops[i]? = some o) (hj : ops[j]? = some o') (hk : ops[k]? = some o'')
    (hg : Region.wanted o (yielded ops a.tmps) = true) (hg' : Region.wanted o' (yielded ops a.tmps) = true) (hg'' : Region.wanted o'' (yielded ops a.tmps) = true)
    (h : ∀ K : Act → World → Prop, (∀ a' w', (waitsAll md ops E i = false → S w') → wpAnyF P md ops Q S E fuel (listed.setIfInBounds i true) a' w' → K a' w') → o.wp P a w K Q)
    (h' : ∀ K : Act → World → Prop, (∀ a' w', (waitsAll md ops E j = false → S w') → wpAnyF P md ops Q S E fuel (listed.setIfInBounds j true) a' w' → K a' w') → o'.wp P a w K Q)
    (h'' : ∀ K : Act → World → Prop, (∀ a' w', (waitsAll md ops E k = false → S w') → wpAnyF P md ops Q S E fuel (listed.setIfInBounds k true) a' w' → K a' w') → o''.wp P a w K Q) : wpAnyF P md ops Q S E (fuel + 1) listed a w := by
  refine ⟨fun he => (by rw [hr] at he; cases he), fun m hm => ?_⟩
  rw [hr] at hm
  have : m = i ∨ m = j ∨ m = k := by simpa using hm
  rcases this with rfl | rfl | rfl
  · unfold wpOp
    simp only [hi, hg]
    exact .inl (h _ fun a' w' h1 h2 => ⟨h1, h2⟩)
  · unfold wpOp
    simp only [hj, hg']
    exact .inl (h' _ fun a' w' h1 h2 => ⟨h1, h2⟩)
  · unfold wpOp
    simp only [hk, hg'']
    exact .inl (h'' _ fun a' w' h1 h2 => ⟨h1, h2⟩)
end
end Go.Proofs.Ytbjmkmambmeifaa
