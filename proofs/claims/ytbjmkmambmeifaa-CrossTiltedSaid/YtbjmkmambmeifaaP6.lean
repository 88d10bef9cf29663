/- span: two lists that grow while points are ranged over. -/
import Derived.Test.YtbjmkmambmeifaaP4
import Derived.Test.YtbjmkmambmeifaaP1
import Derived.Test.YtbjmkmambmeifaaP2
import Derived.Shelf.RegionOpen
import Derived.Deep.DrawnRows
set_option linter.all false
set_option linter.unnecessarySimpa false
set_option linter.unusedSimpArgs false
set_option linter.unusedVariables false
set_option linter.unusedSectionVars false

namespace Go.Proofs.Ytbjmkmambmeifaa
open Go.RowKit
attribute [local go_sem] Go.Oper.semAt_some
attribute [local go_sem ↓] Go.wp_at_zero Go.wp_at_succ

def los (l : List St) (hs : List Int) (s : Nat) (own : Int) : List Ra := (List.range s).map fun i => frac (own - nthI hs i) ((nthS l s).a - (nthS l i).a)
def loB (l : List St) (hs : List Int) (s : Nat) (own : Int) : Ra := bestF (fun y o => lessW o y) (⟨-10000, 1⟩ :: los l hs s own)
def his (l : List St) (hs : List Int) (s : Nat) (own : Int) : List Ra := (List.range (l.length - (s + 1))).map fun i => frac (nthI hs (s + 1 + i) - own) ((nthS l (s + 1 + i)).a - (nthS l s).a)

def hiB (l : List St) (hs : List Int) (s : Nat) (own : Int) : Ra := bestF (fun y o => lessW y o) (⟨10000, 1⟩ :: his l hs s own)
/-- What span returns. -/
def spanV (l : List St) (hs : List Int) (s : Nat) (own : Int) : Value :=
  if lessW (hiB l hs s own) (loB l hs s own) then .tuple #[.agg #[.int .i64 0, .int .i64 0, .int .i64 0, .int .i64 0], .int .i64 22]
  else .tuple #[.agg #[.int .i64 (loB l hs s own).num, .int .i64 (loB l hs s own).den, .int .i64 (hiB l hs s own).num, .int .i64 (hiB l hs s own).den], .int .i64 0]

/-- What the walk of span holds in mind. -/
def SpW (w : World) (l : List St) (s : Nat) (own : Int) (p1 p2 : Int) (L H : List Ra) (X : World) : Prop :=
  Below w.heap.size w X ∧ BK X w.heap.size #[.int .i64 (nthS l s).a, .int .i64 p1, .int .i64 p2, .int .i64 s, .int .i64 own] 85 ∧ BK X (w.heap.size + 1) #[.int .i64 0, .int .i64 0, .int .i64 0, .int .i64 0] 34 ∧
    Two X w.heap.size (w.heap.size + 1 + 1 + 1) (w.heap.size + 1 + 1 + 1 + 1 + 1) L H

theorem SpW.adm {w : World} {l : List St} {s : Nat} {own p1 p2 : Int} {L H : List Ra} {X Y : World} {B : Nat} (q : SpW w l s own p1 p2 L H X) (ha : Adm B X Y) (hB : w.heap.size ≤ B) : SpW w l s own p1 p2 L H Y := by
  obtain ⟨h1, h2, h3, h4⟩ := q
  exact ⟨ha.belowOf h1 (Nat.le_refl _) hB, ha.cells h2, ha.cells h3, h4.adm ha⟩

set_option maxRecDepth 100000 in
set_option maxHeartbeats 4000000 in
theorem span_any (l : List St) (hs : List Int) (s : Nat) (own p1 p2 : Int) (vb : Option Addr) (w : World) (hl : l.length ≤ 25) (hs1 : s < l.length) (h : RB w (.pointer vb) l hs)
    (ha : ∀ i j, i < j → j < l.length → (nthS l i).a < (nthS l j).a) (ha2 : ∀ i, i < l.length → 0 ≤ (nthS l i).a ∧ (nthS l i).a ≤ 1000) (hh : ∀ i, i < l.length → -1000 ≤ nthI hs i ∧ nthI hs i ≤ 1000) (ho : -1000 ≤ own ∧ own ≤ 1000) :
    Calls Try.prog 52 #[.pointer vb, .agg #[.int .i64 (nthS l s).a, .int .i64 p1, .int .i64 p2, .int .i64 s, .int .i64 own]] w fun e w' =>
      e = .returned (spanV l hs s own) ∧ Below w.heap.size w w' := by
  refine calls_of_wp_marks Try.func52 rfl ?_
  simp only [Try.ntmps52, List.size_toArray, List.length_cons, List.length_nil, Nat.reduceAdd, Nat.reduceSub, Array.replicate_succ, Array.replicate_zero, List.push_toArray, List.append_toArray, List.nil_append, List.cons_append]
  have HA := Lib.hid ha
  have HA2 := Lib.hid ha2
  have HH := Lib.hid hh
  clear ha ha2 hh
  go_wp2_with fail
  refine (others_any _ _ _ _).mono ?_
  rintro e w1 ⟨rfl, rfl⟩
  go_wp2_with fail
  obtain ⟨W0, hW0⟩ : ∃ W0, ((((((((w.alloc (.cells #[.int .i64 (nthS l s).a, .int .i64 p1, .int .i64 p2, .int .i64 s, .int .i64 own] 85)).alloc (.cells #[.int .i64 0, .int .i64 0, .int .i64 0, .int .i64 0] 34)).alloc (.cells #[.int .i64 (-10000), .int .i64 1] 25)).alloc (.cells #[.slice (some ⟨w.heap.size + 1 + 1, 0, none⟩) 1 1] 26)).alloc
      (.cells #[.int .i64 10000, .int .i64 1] 25)).alloc (.cells #[.slice (some ⟨w.heap.size + 1 + 1 + 1 + 1, 0, none⟩) 1 1] 26)).alloc (.cells #[.pointer vb] 80)).alloc (.cells #[.int .i64 s] 3)).alloc (.cells #[.bool false] 4) = W0 := ⟨_, rfl⟩
  have hB0 : Below w.heap.size w W0 := by rw [← hW0]; exact bel_of
  have b0 : BK W0 (w.heap.size) #[.int .i64 (nthS l s).a, .int .i64 p1, .int .i64 p2, .int .i64 s, .int .i64 own] 85 := by rw [← hW0]; (repeat (first | assumption | (refine BK.new' _ _ _ _ ?_; simp; done) | refine BK.alloc ?_ _))
  have b1 : BK W0 (w.heap.size + 1) #[.int .i64 0, .int .i64 0, .int .i64 0, .int .i64 0] 34 := by rw [← hW0]; (repeat (first | assumption | (refine BK.new' _ _ _ _ ?_; simp; done) | refine BK.alloc ?_ _))
  have b2 : BK W0 (w.heap.size + 1 + 1) #[.int .i64 (-10000), .int .i64 1] 25 := by rw [← hW0]; (repeat (first | assumption | (refine BK.new' _ _ _ _ ?_; simp; done) | refine BK.alloc ?_ _))
  have b3 : BK W0 (w.heap.size + 1 + 1 + 1) #[.slice (some ⟨w.heap.size + 1 + 1, 0, none⟩) 1 1] 26 := by rw [← hW0]; (repeat (first | assumption | (refine BK.new' _ _ _ _ ?_; simp; done) | refine BK.alloc ?_ _))
  have b4 : BK W0 (w.heap.size + 1 + 1 + 1 + 1) #[.int .i64 10000, .int .i64 1] 25 := by rw [← hW0]; (repeat (first | assumption | (refine BK.new' _ _ _ _ ?_; simp; done) | refine BK.alloc ?_ _))
  have b5 : BK W0 (w.heap.size + 1 + 1 + 1 + 1 + 1) #[.slice (some ⟨w.heap.size + 1 + 1 + 1 + 1, 0, none⟩) 1 1] 26 := by rw [← hW0]; (repeat (first | assumption | (refine BK.new' _ _ _ _ ?_; simp; done) | refine BK.alloc ?_ _))
  have b6 : BK W0 (w.heap.size + 1 + 1 + 1 + 1 + 1 + 1) #[.pointer vb] 80 := by rw [← hW0]; (repeat (first | assumption | (refine BK.new' _ _ _ _ ?_; simp; done) | refine BK.alloc ?_ _))
  have b7 : BK W0 (w.heap.size + 1 + 1 + 1 + 1 + 1 + 1 + 1) #[.int .i64 s] 3 := by rw [← hW0]; (repeat (first | assumption | (refine BK.new' _ _ _ _ ?_; simp; done) | refine BK.alloc ?_ _))
  have b8 : BK W0 (w.heap.size + 1 + 1 + 1 + 1 + 1 + 1 + 1 + 1) #[.bool false] 4 := by rw [← hW0]; (repeat (first | assumption | (refine BK.new' _ _ _ _ ?_; simp; done) | refine BK.alloc ?_ _))
  have hS : W0.heap.size = w.heap.size + 9 := by rw [← hW0]; simp
  rw [hW0]
  clear hW0
  have hRB := h.below hB0
  have hmx : Try.prog.follows .mixedOrders = true := by kernel_rfl
  refine wp_range (gf := 78) (lb := #[.pointer (some ⟨w.heap.size + 1 + 1 + 1 + 1 + 1 + 1, 0, none⟩), .pointer (some ⟨w.heap.size + 1 + 1 + 1 + 1 + 1 + 1 + 1, 0, none⟩), .pointer (some ⟨w.heap.size + 1 + 1 + 1 + 1 + 1 + 1 + 1 + 1, 0, none⟩)]) rfl eg78
    (before_iter (fun t => t = 25) (w.heap.size + 1 + 1 + 1 + 1 + 1 + 1) (w.heap.size + 1 + 1 + 1 + 1 + 1 + 1 + 1) (w.heap.size + 1 + 1 + 1 + 1 + 1 + 1 + 1 + 1) (.pointer vb) l hs s (by omega) hs1) (fun _ => rfl)
    (fun i X => SpW w l s own p1 p2 (⟨-10000, 1⟩ :: (los l hs s own).take i) [⟨10000, 1⟩] X ∧ BK X (w.heap.size + 1 + 1 + 1 + 1 + 1 + 1) #[.pointer vb] 80 ∧ BK X (w.heap.size + 1 + 1 + 1 + 1 + 1 + 1 + 1) #[.int .i64 s] 3 ∧ BK X (w.heap.size + 1 + 1 + 1 + 1 + 1 + 1 + 1 + 1) #[.bool false] 4 ∧ W0.heap.size ≤ X.heap.size)
    (fun _ _ _ => False)
    (fun i a' X => (SpW w l s own p1 p2 (⟨-10000, 1⟩ :: (los l hs s own).take i) [⟨10000, 1⟩] X ∧ BK X (w.heap.size + 1 + 1 + 1 + 1 + 1 + 1) #[.pointer vb] 80 ∧ BK X (w.heap.size + 1 + 1 + 1 + 1 + 1 + 1 + 1) #[.int .i64 s] 3 ∧ BK X (w.heap.size + 1 + 1 + 1 + 1 + 1 + 1 + 1 + 1) #[.bool false] 4 ∧ W0.heap.size ≤ X.heap.size) ∧
      ∃ bx, W0.heap.size ≤ bx ∧ BoxP X bx l hs i ∧ a' = { tmps := #[.pointer vb, .agg #[.int .i64 (nthS l s).a, .int .i64 p1, .int .i64 p2, .int .i64 s, .int .i64 own], undef, .pointer (some ⟨w.heap.size, 0, none⟩), .pointer (some ⟨w.heap.size + 1, 0, none⟩), .int .i64 0, .pointer (some ⟨w.heap.size + 1 + 1 + 1, 0, none⟩), .pointer (some ⟨w.heap.size + 1 + 1 + 1 + 1 + 1, 0, none⟩), .pointer (some ⟨bx, 0, none⟩), undef, undef, undef, .agg #[.int .i64 (-10000), .int .i64 1], .slice (some ⟨w.heap.size + 1 + 1, 0, none⟩) 1 1, .agg #[.int .i64 10000, .int .i64 1], .slice (some ⟨w.heap.size + 1 + 1 + 1 + 1, 0, none⟩) 1 1, .pointer vb, .pointer (some ⟨w.heap.size, 3, none⟩), .int .i64 s, .func (.func 78) #[] #[.pointer (some ⟨w.heap.size + 1 + 1 + 1 + 1 + 1 + 1, 0, none⟩), .pointer (some ⟨w.heap.size + 1 + 1 + 1 + 1 + 1 + 1 + 1, 0, none⟩), .pointer (some ⟨w.heap.size + 1 + 1 + 1 + 1 + 1 + 1 + 1 + 1, 0, none⟩)], ptV l hs i, undef, undef, undef, undef, undef, undef, undef, undef, undef, undef, undef, undef, undef, undef, undef, undef, undef, undef, undef, undef, undef, undef, undef, undef, undef, undef, undef, undef, undef, undef], defers := [] })
    ?rounds (fun i X hX => ⟨hX.2.1.cell 0, hX.2.2.1.cell 0, hX.2.2.2.1.cell 0, h.below hX.1.1⟩) ?start ?done ?stop
  case start =>
    refine ⟨⟨hB0, b0, b1, _, _, ⟨b3, by omega, ?_⟩, ⟨b5, by omega, ?_⟩, by simp [Value.ownBlock]⟩, b6, b7, b8, Nat.le_refl _⟩
    · exact ⟨rfl, .inr ⟨_, _, _, rfl, by omega, b2, Nat.le_refl _, by simp [maxLen], rfl, rfl⟩⟩
    · exact ⟨rfl, .inr ⟨_, _, _, rfl, by omega, b4, Nat.le_refl _, by simp [maxLen], rfl, rfl⟩⟩
  case stop => rintro D c i X hD hi hf; exact hf.elim
  case rounds =>
    refine ⟨?_, fun c i A A' h _ => h, ?_, fun i X h => h.2.2.2.2, ?_, ?_⟩
    · rintro i A A' ⟨h1, q6, q7, q8, h3⟩ ha
      exact ⟨h1.adm ha (by omega), ha.cells q6, ha.cells q7, ha.cells q8, Nat.le_trans h3 ha.size⟩
    · rintro i a A A' ⟨⟨h1, q6, q7, q8, h3⟩, bx, h4, h5, h6⟩ ha
      exact ⟨⟨h1.adm ha (by omega), ha.cells q6, ha.cells q7, ha.cells q8, Nat.le_trans h3 ha.size⟩, bx, h4, h5.adm ha, h6⟩
    · rintro lq i A hi ⟨h1, q6, q7, q8, h3⟩ K hK
      have hb1 : Below A.heap.size A (A.alloc (.cells #[.int .i64 (nthS l i).a, .int .i64 (nthS l i).lo, .int .i64 (nthS l i).hi, .int .i64 i, .int .i64 (nthI hs i)] 85)) := by exact bel_of
      have ha := Adm.below (B := W0.heap.size) hb1
      have hK2 := hK _ (A.alloc (.cells #[.int .i64 (nthS l i).a, .int .i64 (nthS l i).lo, .int .i64 (nthS l i).hi, .int .i64 i, .int .i64 (nthI hs i)] 85)) ((Kept.refl _ _ _).below hb1)
        ⟨⟨h1.adm ha (by omega), ha.cells q6, ha.cells q7, ha.cells q8, Nat.le_trans h3 ha.size⟩, A.heap.size, h3, heap_alloc_new A _, rfl⟩
      have HK := Lib.hid hK2; clear hK2 hK h1 q6 q7 q8
      unfold ptV
      gi_wp2_with fail
      exact HK.out
    · rintro lq i a' A hi hlq ⟨r, hr⟩ ⟨⟨⟨hbw, c0, c1, htw⟩, q6, q7, q8, hz⟩, bx, hbx, hbP, rfl⟩
      obtain ⟨x1, x2, x3, x4, x5⟩ := hbP.cells
      have y0 := c0.cell 0
      have y1 := c0.cell 1
      have y2 := c0.cell 2
      have y3 := c0.cell 3
      have y4 := c0.cell 4
      simp at y0 y1 y2 y3 y4
      have hbxl := hbP.lt
      have hi' : i < l.length := by omega
      have e1 := HA.out i s hi hs1
      have e2 := HA2.out i hi'
      have e3 := HA2.out s hs1
      have e4 := HH.out i hi'
      obtain ⟨F, hF⟩ : ∃ F, frac (own - nthI hs i) ((nthS l s).a - (nthS l i).a) = F := ⟨_, rfl⟩
      have hlos : (los l hs s own).take (i + 1) = (los l hs s own).take i ++ [F] := by
        rw [List.take_succ_eq_append_getElem (by simp [los]; exact hi)]; simp [los, hF]
      have HLO := Lib.hid hlos; clear hlos
      have hsl : Calls Try.prog 69 #[.agg #[.int .i64 (nthS l i).a, .int .i64 (nthS l i).lo, .int .i64 (nthS l i).hi, .int .i64 i, .int .i64 (nthI hs i)], .agg #[.int .i64 (nthS l s).a, .int .i64 p1, .int .i64 p2, .int .i64 s, .int .i64 own]] A.drew fun e w' =>
          e = .returned (.agg #[.int .i64 F.num, .int .i64 F.den]) ∧ Below A.heap.size A w' := by
        rw [← hF]
        refine (slope_any _ _ _ _ _ _ _ _ _ _ _ (by omega) (by omega) (by omega) (by omega) (by omega) (by omega) (by omega)).mono ?_
        rintro e w' ⟨h1, h2⟩
        exact ⟨h1, ⟨h2.os, h2.tape, h2.output, h2.size, h2.block⟩⟩
      have HSL := Lib.hid hsl; clear hsl hF
      have HTW := Lib.hid (fun w1 (hb1 : Below A.heap.size A w1) => two_grow (B0 := W0.heap.size) htw (by omega) hb1 F (by simp [los]; omega) (by omega) (by omega))
      obtain ⟨v, _, yL, _⟩ := htw
      have yv := yL.1.cell 0
      simp at yv
      gi_wp2_with fail
      refine round_early 3 (fun X => X.cell? ⟨w.heap.size + 1 + 1 + 1, 0, none⟩ = some v ∧ BK X bx #[.int .i64 (nthS l i).a, .int .i64 (nthS l i).lo, .int .i64 (nthS l i).hi, .int .i64 i, .int .i64 (nthI hs i)] 85 ∧ BK X w.heap.size #[.int .i64 (nthS l s).a, .int .i64 p1, .int .i64 p2, .int .i64 s, .int .i64 own] 85)
        hmx (by kernel_rfl) ?_ ?_ ⟨yv, hbP, c0⟩ ?_
      · rintro ⟨_, _, hx⟩; exact hx
      · intro c a d v w hx; exact hx
      · refine ⟨v, .inl ⟨rfl, fun X hX => ?_⟩, .agg #[.int .i64 (nthS l i).a, .int .i64 (nthS l i).lo, .int .i64 (nthS l i).hi, .int .i64 i, .int .i64 (nthI hs i)], .inl ⟨rfl, fun X hX => ?_⟩, .agg #[.int .i64 (nthS l s).a, .int .i64 p1, .int .i64 p2, .int .i64 s, .int .i64 own], .inl ⟨rfl, fun X hX => ?_⟩, ?_⟩
        · obtain ⟨z1, _, _⟩ := hX
          go_simp
        · obtain ⟨_, z1, _⟩ := hX
          have q0 := z1.cell 0
          have q1 := z1.cell 1
          have q2 := z1.cell 2
          have q3 := z1.cell 3
          have q4 := z1.cell 4
          simp at q0 q1 q2 q3 q4
          go_simp
        · obtain ⟨_, _, z1⟩ := hX
          have q0 := z1.cell 0
          have q1 := z1.cell 1
          have q2 := z1.cell 2
          have q3 := z1.cell 3
          have q4 := z1.cell 4
          simp at q0 q1 q2 q3 q4
          go_simp
        refine wpF_step rfl ?_
        intro K hK
        go_wp2_with fail
        refine HSL.out.mono ?_
        rintro e w1 ⟨rfl, hb1⟩
        obtain ⟨v', g', n', cap', w2, hv', hrun, r1, r2, hz2, hTw, hbel, hkp, hbk, hob⟩ := HTW.out w1 hb1
        obtain rfl : v' = v := by rw [yv] at hv'; injection hv' with hv'; exact hv'.symm
        have hb1s := hb1.size
        have hbK : BK A bx #[.int .i64 (nthS l i).a, .int .i64 (nthS l i).lo, .int .i64 (nthS l i).hi, .int .i64 i, .int .i64 (nthI hs i)] 85 := hbP
        refine hK _ _ (fun _ => ⟨by rw [hb1.cell (by simp; omega)]; exact yv, hbK.below hb1 (by omega), c0.below hb1 (by omega)⟩) ?_
        clear hK K
        refine wpF_step rfl ?_
        intro K hK
        go_wp2_with fail
        refine hK _ _ (fun _ => ⟨(World.cell?_alloc_old _ _ ⟨w.heap.size + 1 + 1 + 1, 0, none⟩ (by simp only; omega)).trans ((hb1.cell (by simp only; omega)).trans yv), (hbK.below hb1 (by omega)).alloc _, (c0.below hb1 (by omega)).alloc _⟩) ?_
        clear hK K
        refine wpF_step rfl ?_
        intro K hK
        refine wp_append_run (.tmp 21) (.tmp 25) 26 _ rfl hrun ?_
        refine hK _ _ (fun _ => ⟨r1, (hbk _ _ _ hbP (by omega) (by decide)).1, (hbk _ _ _ c0 (by omega) (by decide)).1⟩) ?_
        clear hK K
        refine wpF_step rfl ?_
        intro K hK
        go_wp2_with fail
        refine hK _ _ (fun hx => (Bool.false_ne_true (hx.symm.trans (by kernel_rfl))).elim) ?_
        refine ⟨hkp, ⟨hbel w hbw, (hbk _ _ _ c0 (by omega) (by decide)).2, (hbk _ _ _ c1 (by omega) (by decide)).2, by rw [HLO.out]; exact hTw⟩, (hbk _ _ _ q6 (by omega) (by decide)).2, (hbk _ _ _ q7 (by omega) (by decide)).2, (hbk _ _ _ q8 (by omega) (by decide)).2, ?_⟩
        simp only [World.setCell, Array.size_modify]
        omega
  case done =>
    rintro D X hD ⟨hsp, q6, q7, q8, hz⟩ hK
    have e0 : (los l hs s own).take s = los l hs s own := by rw [List.take_of_length_le]; simp [los]
    rw [e0] at hsp
    clear e0 q6 q7 q8 b6 b7 b8 b0 b1 b2 b3 b4 b5
    obtain ⟨hbX, c0, c1, htw⟩ := hsp
    have y0 := c0.cell 0
    have y1 := c0.cell 1
    have y2 := c0.cell 2
    have y3 := c0.cell 3
    have y4 := c0.cell 4
    simp at y0 y1 y2 y3 y4
    have hbs := hbX.size
    go_wp2_with fail
    refine (others_any _ _ _ _).mono ?_
    rintro e W1 ⟨rfl, hW1⟩
    have hB1 : Below X.heap.size X W1 := by rw [← hW1]; exact bel_of
    have b6 : BK W1 (X.heap.size) #[.pointer vb] 80 := by rw [← hW1]; (repeat (first | assumption | (refine BK.new' _ _ _ _ ?_; simp; done) | refine BK.alloc ?_ _))
    have b7 : BK W1 (X.heap.size + 1) #[.int .i64 s] 3 := by rw [← hW1]; (repeat (first | assumption | (refine BK.new' _ _ _ _ ?_; simp; done) | refine BK.alloc ?_ _))
    have b8 : BK W1 (X.heap.size + 1 + 1) #[.bool true] 4 := by rw [← hW1]; (repeat (first | assumption | (refine BK.new' _ _ _ _ ?_; simp; done) | refine BK.alloc ?_ _))
    have hS1 : W1.heap.size = X.heap.size + 3 := by rw [← hW1]; simp
    have hK1 : W1.heap[D]? = some (.deferred (some [])) := (hB1.block D (Array.getElem?_eq_some_iff.1 hK).1).trans hK
    have hDX := (Array.getElem?_eq_some_iff.1 hK).1
    have hSP : SpW w l s own p1 p2 (⟨-10000, 1⟩ :: los l hs s own) [⟨10000, 1⟩] W1 := SpW.adm (B := X.heap.size) ⟨hbX, c0, c1, htw⟩ (Adm.below hB1) hbs
    clear hW1 y0 y1 y2 y3 y4 c0 c1 htw hB1 hK hbX
    go_wp2_with fail
    refine wp_range (gf := 78) (lb := #[.pointer (some ⟨X.heap.size, 0, none⟩), .pointer (some ⟨X.heap.size + 1, 0, none⟩), .pointer (some ⟨X.heap.size + 1 + 1, 0, none⟩)]) rfl eg78
      (behind_iter (fun t => t = 25) (X.heap.size) (X.heap.size + 1) (X.heap.size + 1 + 1) (.pointer vb) l hs s (by omega) hs1) (fun _ => rfl)
      (fun i Y => SpW w l s own p1 p2 (⟨-10000, 1⟩ :: los l hs s own) (⟨10000, 1⟩ :: (his l hs s own).take i) Y ∧ BK Y (X.heap.size) #[.pointer vb] 80 ∧ BK Y (X.heap.size + 1) #[.int .i64 s] 3 ∧ BK Y (X.heap.size + 1 + 1) #[.bool true] 4 ∧ Y.heap[D]? = some (.deferred (some [])) ∧ W1.heap.size ≤ Y.heap.size)
      (fun _ _ _ => False)
      (fun i a' Y => (SpW w l s own p1 p2 (⟨-10000, 1⟩ :: los l hs s own) (⟨10000, 1⟩ :: (his l hs s own).take i) Y ∧ BK Y (X.heap.size) #[.pointer vb] 80 ∧ BK Y (X.heap.size + 1) #[.int .i64 s] 3 ∧ BK Y (X.heap.size + 1 + 1) #[.bool true] 4 ∧ Y.heap[D]? = some (.deferred (some [])) ∧ W1.heap.size ≤ Y.heap.size) ∧
        ∃ bx, W1.heap.size ≤ bx ∧ BoxP Y bx l hs (s + 1 + i) ∧ a' = { tmps := #[.pointer vb, .agg #[.int .i64 (nthS l s).a, .int .i64 p1, .int .i64 p2, .int .i64 s, .int .i64 own], undef, .pointer (some ⟨w.heap.size, 0, none⟩), .pointer (some ⟨w.heap.size + 1, 0, none⟩), .int .i64 0, .pointer (some ⟨w.heap.size + 1 + 1 + 1, 0, none⟩), .pointer (some ⟨w.heap.size + 1 + 1 + 1 + 1 + 1, 0, none⟩), undef, .pointer (some ⟨bx, 0, none⟩), undef, undef, .agg #[.int .i64 (-10000), .int .i64 1], .slice (some ⟨w.heap.size + 1 + 1, 0, none⟩) 1 1, .agg #[.int .i64 10000, .int .i64 1], .slice (some ⟨w.heap.size + 1 + 1 + 1 + 1, 0, none⟩) 1 1, .pointer vb, .pointer (some ⟨w.heap.size, 3, none⟩), .int .i64 s, .func (.func 78) #[] #[.pointer (some ⟨w.heap.size + 1 + 1 + 1 + 1 + 1 + 1, 0, none⟩), .pointer (some ⟨w.heap.size + 1 + 1 + 1 + 1 + 1 + 1 + 1, 0, none⟩), .pointer (some ⟨w.heap.size + 1 + 1 + 1 + 1 + 1 + 1 + 1 + 1, 0, none⟩)], undef, undef, undef, undef, undef, undef, undef, .pointer vb, .pointer (some ⟨w.heap.size, 3, none⟩), .int .i64 s, .func (.func 78) #[] #[.pointer (some ⟨X.heap.size, 0, none⟩), .pointer (some ⟨X.heap.size + 1, 0, none⟩), .pointer (some ⟨X.heap.size + 1 + 1, 0, none⟩)], ptV l hs (s + 1 + i), undef, undef, undef, undef, undef, undef, undef, undef, undef, undef, undef, undef, undef, undef, undef, undef, undef, undef, undef], defers := [] })
      ?rounds2 (fun i Y hX => ⟨hX.2.1.cell 0, hX.2.2.1.cell 0, hX.2.2.2.1.cell 0, h.below hX.1.1⟩) ?start2 ?done2 ?stop2
    case start2 => exact ⟨hSP, b6, b7, b8, hK1, Nat.le_refl _⟩
    case stop2 => rintro D2 c i Y hD2 hi hf; exact hf.elim
    case rounds2 =>
      refine ⟨?_, fun c i A A' h _ => h, ?_, fun i Y h => h.2.2.2.2.2, ?_, ?_⟩
      · rintro i A A' ⟨h1, q6, q7, q8, q9, h3⟩ ha
        exact ⟨h1.adm ha (by omega), ha.cells q6, ha.cells q7, ha.cells q8, ha.obj q9 (by omega), Nat.le_trans h3 ha.size⟩
      · rintro i a A A' ⟨⟨h1, q6, q7, q8, q9, h3⟩, bx, h4, h5, h6⟩ ha
        exact ⟨⟨h1.adm ha (by omega), ha.cells q6, ha.cells q7, ha.cells q8, ha.obj q9 (by omega), Nat.le_trans h3 ha.size⟩, bx, h4, h5.adm ha, h6⟩
      · rintro lq i A hi ⟨h1, q6, q7, q8, q9, h3⟩ K hK
        obtain ⟨k, hk⟩ : ∃ k, s + 1 + i = k := ⟨_, rfl⟩
        simp only [hk] at hK ⊢
        have hb1 : Below A.heap.size A (A.alloc (.cells #[.int .i64 (nthS l k).a, .int .i64 (nthS l k).lo, .int .i64 (nthS l k).hi, .int .i64 k, .int .i64 (nthI hs k)] 85)) := by exact bel_of
        have ha := Adm.below (B := W1.heap.size) hb1
        have hK2 := hK _ (A.alloc (.cells #[.int .i64 (nthS l k).a, .int .i64 (nthS l k).lo, .int .i64 (nthS l k).hi, .int .i64 k, .int .i64 (nthI hs k)] 85)) ((Kept.refl _ _ _).below hb1)
          ⟨⟨h1.adm ha (by omega), ha.cells q6, ha.cells q7, ha.cells q8, ha.obj q9 (by omega), Nat.le_trans h3 ha.size⟩, A.heap.size, h3, heap_alloc_new A _, rfl⟩
        have HK := Lib.hid hK2; clear hK2 hK h1 q6 q7 q8 q9
        unfold ptV
        gi_wp2_with fail
        exact HK.out
      · rintro lq i a' A hi hlq ⟨r, hr⟩ ⟨⟨⟨hbw, c0, c1, htw⟩, q6, q7, q8, q9, hz⟩, bx, hbx, hbP, rfl⟩
        obtain ⟨k, hk⟩ : ∃ k, s + 1 + i = k := ⟨_, rfl⟩
        have hi' : k < l.length := by omega
        have hsk : s < k := by omega
        have y0 := c0.cell 0
        have y1 := c0.cell 1
        have y2 := c0.cell 2
        have y3 := c0.cell 3
        have y4 := c0.cell 4
        simp at y0 y1 y2 y3 y4
        have e1 := HA.out s k hsk hi'
        have e2 := HA2.out k hi'
        have e3 := HA2.out s hs1
        have e4 := HH.out k hi'
        obtain ⟨F, hF⟩ : ∃ F, frac (nthI hs k - own) ((nthS l k).a - (nthS l s).a) = F := ⟨_, rfl⟩
        have hhis : (his l hs s own).take (i + 1) = (his l hs s own).take i ++ [F] := by
          rw [List.take_succ_eq_append_getElem (by simp [his]; omega)]; simp [his, hk, hF]
        have HLO := Lib.hid hhis; clear hhis
        rw [hk] at hbP
        rw [hk]
        clear hk
        obtain ⟨x1, x2, x3, x4, x5⟩ := hbP.cells
        have hbxl := hbP.lt
        have hsl : Calls Try.prog 69 #[.agg #[.int .i64 (nthS l s).a, .int .i64 p1, .int .i64 p2, .int .i64 s, .int .i64 own], .agg #[.int .i64 (nthS l k).a, .int .i64 (nthS l k).lo, .int .i64 (nthS l k).hi, .int .i64 k, .int .i64 (nthI hs k)]] A.drew fun e w' =>
            e = .returned (.agg #[.int .i64 F.num, .int .i64 F.den]) ∧ Below A.heap.size A w' := by
          rw [← hF]
          refine (slope_any _ _ _ _ _ _ _ _ _ _ _ (by omega) (by omega) (by omega) (by omega) (by omega) (by omega) (by omega)).mono ?_
          rintro e w' ⟨h1, h2⟩
          exact ⟨h1, ⟨h2.os, h2.tape, h2.output, h2.size, h2.block⟩⟩
        have HSL := Lib.hid hsl; clear hsl hF
        have HTW := Lib.hid (fun w1 (hb1 : Below A.heap.size A w1) => two_grow (B0 := W1.heap.size) htw.symm (by omega) hb1 F (by simp [his]; omega) (by omega) (by omega))
        obtain ⟨v, _, yL, _⟩ := htw.symm
        have yv := yL.1.cell 0
        simp at yv
        gi_wp2_with fail
        refine round_early 3 (fun X => X.cell? ⟨w.heap.size + 1 + 1 + 1 + 1 + 1, 0, none⟩ = some v ∧ BK X w.heap.size #[.int .i64 (nthS l s).a, .int .i64 p1, .int .i64 p2, .int .i64 s, .int .i64 own] 85 ∧ BK X bx #[.int .i64 (nthS l k).a, .int .i64 (nthS l k).lo, .int .i64 (nthS l k).hi, .int .i64 k, .int .i64 (nthI hs k)] 85)
          hmx (by kernel_rfl) ?_ ?_ ⟨yv, c0, hbP⟩ ?_
        · rintro ⟨_, _, hx⟩; exact hx
        · intro c a d v w hx; exact hx
        · refine ⟨v, .inl ⟨rfl, fun X hX => ?_⟩, .agg #[.int .i64 (nthS l s).a, .int .i64 p1, .int .i64 p2, .int .i64 s, .int .i64 own], .inl ⟨rfl, fun X hX => ?_⟩, .agg #[.int .i64 (nthS l k).a, .int .i64 (nthS l k).lo, .int .i64 (nthS l k).hi, .int .i64 k, .int .i64 (nthI hs k)], .inl ⟨rfl, fun X hX => ?_⟩, ?_⟩
          · obtain ⟨z1, _, _⟩ := hX
            go_simp
          · obtain ⟨_, z1, _⟩ := hX
            have q0 := z1.cell 0
            have q1 := z1.cell 1
            have q2 := z1.cell 2
            have q3 := z1.cell 3
            have q4 := z1.cell 4
            simp at q0 q1 q2 q3 q4
            go_simp
          · obtain ⟨_, _, z1⟩ := hX
            have q0 := z1.cell 0
            have q1 := z1.cell 1
            have q2 := z1.cell 2
            have q3 := z1.cell 3
            have q4 := z1.cell 4
            simp at q0 q1 q2 q3 q4
            go_simp
          refine wpF_step rfl ?_
          intro K hK
          go_wp2_with fail
          refine HSL.out.mono ?_
          rintro e w1 ⟨rfl, hb1⟩
          obtain ⟨v', g', n', cap', w2, hv', hrun, r1, r2, hz2, hTw, hbel, hkp, hbk, hob⟩ := HTW.out w1 hb1
          obtain rfl : v' = v := by rw [yv] at hv'; injection hv' with hv'; exact hv'.symm
          have hb1s := hb1.size
          have hbK : BK A bx #[.int .i64 (nthS l k).a, .int .i64 (nthS l k).lo, .int .i64 (nthS l k).hi, .int .i64 k, .int .i64 (nthI hs k)] 85 := hbP
          refine hK _ _ (fun _ => ⟨by rw [hb1.cell (by simp; omega)]; exact yv, c0.below hb1 (by omega), hbK.below hb1 (by omega)⟩) ?_
          clear hK K
          refine wpF_step rfl ?_
          intro K hK
          go_wp2_with fail
          refine hK _ _ (fun _ => ⟨(World.cell?_alloc_old _ _ ⟨w.heap.size + 1 + 1 + 1 + 1 + 1, 0, none⟩ (by simp only; omega)).trans ((hb1.cell (by simp only; omega)).trans yv), (c0.below hb1 (by omega)).alloc _, (hbK.below hb1 (by omega)).alloc _⟩) ?_
          clear hK K
          refine wpF_step rfl ?_
          intro K hK
          refine wp_append_run (.tmp 32) (.tmp 36) 26 _ rfl hrun ?_
          refine hK _ _ (fun _ => ⟨r1, (hbk _ _ _ c0 (by omega) (by decide)).1, (hbk _ _ _ hbP (by omega) (by decide)).1⟩) ?_
          clear hK K
          refine wpF_step rfl ?_
          intro K hK
          go_wp2_with fail
          refine hK _ _ (fun hx => (Bool.false_ne_true (hx.symm.trans (by kernel_rfl))).elim) ?_
          refine ⟨hkp, ⟨hbel w hbw, (hbk _ _ _ c0 (by omega) (by decide)).2, (hbk _ _ _ c1 (by omega) (by decide)).2, by rw [HLO.out]; exact hTw.symm⟩, (hbk _ _ _ q6 (by omega) (by decide)).2, (hbk _ _ _ q7 (by omega) (by decide)).2, (hbk _ _ _ q8 (by omega) (by decide)).2, hob _ _ q9 rfl, ?_⟩
          simp only [World.setCell, Array.size_modify]
          omega
    case done2 =>
      rintro D2 Y hD2 ⟨hsp, q6, q7, q8, hK1', hz⟩ hK2
      have e0 : (his l hs s own).take (l.length - (s + 1)) = his l hs s own := by rw [List.take_of_length_le]; simp [his]
      rw [e0] at hsp
      clear e0 q6 q7 q8 b6 b7 b8
      obtain ⟨hbY, c0, c1, htw⟩ := hsp
      obtain ⟨v, u, ⟨v1, _, v2⟩, ⟨u1, _, u2⟩, _⟩ := htw
      have yv := v1.cell 0
      have yu := u1.cell 0
      simp at yv yu
      have hbs2 := hbY.size
      have hv1l := v1.lt
      have hu1l := u1.lt
      obtain ⟨p, hp⟩ : ∃ p, bestF (fun y o => lessW o y) (⟨-10000, 1⟩ :: los l hs s own) = p := ⟨_, rfl⟩
      obtain ⟨q, hq⟩ : ∃ q, bestF (fun y o => lessW y o) (⟨10000, 1⟩ :: his l hs s own) = q := ⟨_, rfl⟩
      have hB1 : ∀ W, Below Y.heap.size Y W → Calls Try.prog 72 #[v, .func (.func 70) #[] #[]] W fun e w' => e = .returned (.agg #[.int .i64 p.num, .int .i64 p.den]) ∧ Below W.heap.size W w' := fun W hb => by
        rw [← hp]
        exact best_any _ (fun y o => lessW o y) (enters_of Try.func70 (by kernel_rfl) rfl) (fun a b c d w => (more1_any a b c d w).mono (by rintro e w' ⟨rfl, rfl⟩; exact ⟨rfl, by exact bel_of⟩)) _ v W (by simp) (by simp [los]; omega) (RS.of_own ((Adm.below (B := 0) hb).own v2))
      have hB2 : ∀ W, Below Y.heap.size Y W → Calls Try.prog 72 #[u, .func (.func 71) #[] #[]] W fun e w' => e = .returned (.agg #[.int .i64 q.num, .int .i64 q.den]) ∧ Below W.heap.size W w' := fun W hb => by
        rw [← hq]
        exact best_any _ (fun y o => lessW y o) (enters_of Try.func71 (by kernel_rfl) rfl) (fun a b c d w => (less_any a b c d w).mono (by rintro e w' ⟨rfl, rfl⟩; exact ⟨rfl, by exact bel_of⟩)) _ u W (by simp) (by simp [his]; omega) (RS.of_own ((Adm.below (B := 0) hb).own u2))
      have HB1 := Lib.hid hB1; have HB2 := Lib.hid hB2
      have HP := Lib.hid hp; have HQ := Lib.hid hq
      clear hB1 hB2 v2 u2 hp hq
      go_upto_region 10 with fail
      go_cut [11] from 38 to 43 (fun r wx => ∃ g, r = .pointer (some ⟨g, 0, none⟩) ∧ Y.heap.size ≤ g ∧ BK wx g #[.int .i64 p.num, .int .i64 p.den, .int .i64 q.num, .int .i64 q.den] 34 ∧ Below Y.heap.size Y wx)
      case first =>
        refine wp_region_noPanic (plain_any [0, 1, 3] (fun W' => W'.cell? ⟨w.heap.size + 1 + 1 + 1, 0, none⟩ = some v ∧ W'.cell? ⟨w.heap.size + 1 + 1 + 1 + 1 + 1, 0, none⟩ = some u) hmx ?_)
        refine any_take 0 v (by rfl) (by kernel_rfl) (fun _ _ _ _ _ hx => hx.elim) (.inl ⟨by rfl, fun Z hZ => ?_⟩) ⟨yv, yu⟩ ?_
        · obtain ⟨z1, z2⟩ := hZ
          go_simp
        refine any_take 1 (.func (.func 70) #[] #[]) (by rfl) (by kernel_rfl) (fun _ _ _ _ _ hx => hx.elim) (.inl ⟨by rfl, fun Z hZ => ?_⟩) ⟨yv, yu⟩ ?_
        · obtain ⟨z1, z2⟩ := hZ
          go_simp
        refine any_take 3 u (by rfl) (by kernel_rfl) (fun _ _ _ _ _ hx => hx.elim) (.inl ⟨by rfl, fun Z hZ => ?_⟩) ⟨yv, yu⟩ ?_
        · obtain ⟨z1, z2⟩ := hZ
          go_simp
        refine any_run2 (i := 2) (j := 6) (by kernel_rfl) (by rfl) (by rfl) (by rfl) (by rfl) ?_ ?_
        · intro K hK
          go_wp2_with fail
          refine (HB1.out _ (by exact bel_of)).mono ?_
          rintro e wn1 ⟨rfl, hb1⟩
          have hbq1 := Below.trans (a := Y) (B := Y.heap.size) (by exact bel_of) (hb1.mono (by first | omega | (simp; omega) | (simp; done)))
          have hsz1 := hb1.size
          try simp at hsz1
          clear hb1
          refine hK _ _ (fun _ => ⟨(Below.cell (B := Y.heap.size) (w := Y) (by exact bel_of) (by simp only; omega)).trans yv, (Below.cell (B := Y.heap.size) (w := Y) (by exact bel_of) (by simp only; omega)).trans yu⟩) ?_
          clear hK K
          refine any_run2 (i := 4) (j := 6) (by kernel_rfl) (by rfl) (by rfl) (by rfl) (by rfl) ?_ ?_
          · intro K hK
            go_wp2_with fail
            refine (HB2.out _ (by exact bel_of)).mono ?_
            rintro e wn2 ⟨rfl, hb1⟩
            have hbq2 := Below.trans (a := Y) (B := Y.heap.size) (by exact bel_of) (hb1.mono (by first | omega | (simp; omega) | (simp; done)))
            have hsz2 := hb1.size
            try simp at hsz2
            clear hb1
            refine hK _ _ (fun _ => ⟨(Below.cell (B := Y.heap.size) (w := Y) (by exact bel_of) (by simp only; omega)).trans yv, (Below.cell (B := Y.heap.size) (w := Y) (by exact bel_of) (by simp only; omega)).trans yu⟩) ?_
            clear hK K
            refine any_run2 (i := 5) (j := 6) (by kernel_rfl) (by rfl) (by rfl) (by rfl) (by rfl) ?_ ?_
            · intro K hK
              go_wp2_with fail
              refine hK _ _ (fun _ => ⟨(Below.cell (B := Y.heap.size) (w := Y) (by exact bel_of) (by simp only; omega)).trans yv, (Below.cell (B := Y.heap.size) (w := Y) (by exact bel_of) (by simp only; omega)).trans yu⟩) ?_
              clear hK K
              refine any_run1 (i := 6) (by kernel_rfl) (by rfl) (by rfl) ?_
              intro K hK
              go_wp2_with fail
              refine hK _ _ (fun _ => ⟨(Below.cell (B := Y.heap.size) (w := Y) (by exact bel_of) (by simp only; omega)).trans yv, (Below.cell (B := Y.heap.size) (w := Y) (by exact bel_of) (by simp only; omega)).trans yu⟩) ?_
              clear hK K
              have hA : BK (wn2.alloc (.cells #[.int .i64 0, .int .i64 0, .int .i64 0, .int .i64 0] 34)) wn2.heap.size #[.int .i64 0, .int .i64 0, .int .i64 0, .int .i64 0] 34 := BK.new _ _ _
              have hBA : Below Y.heap.size Y (wn2.alloc (.cells #[.int .i64 0, .int .i64 0, .int .i64 0, .int .i64 0] 34)) := by exact bel_of
              have hgA : Y.heap.size ≤ wn2.heap.size := by first | omega | (simp; done) | (have := hbq2.size; omega)
              generalize wn2.alloc (.cells #[.int .i64 0, .int .i64 0, .int .i64 0, .int .i64 0] 34) = WA at hA hBA ⊢
              generalize wn2.heap.size = gA at hA hgA ⊢
              have hsA := hBA.size
              refine any_run1 (i := 7) (by kernel_rfl) (by rfl) (by rfl) ?_
              intro K hK
              have ga0 := hA.cell 0
              have gf0 := hA.frozen 0
              have ga1 := hA.cell 1
              have gf1 := hA.frozen 1
              have ga2 := hA.cell 2
              have gf2 := hA.frozen 2
              have ga3 := hA.cell 3
              have gf3 := hA.frozen 3
              simp at ga0 ga1 ga2 ga3
              have gal := hA.lt
              go_wp2_with fail
              refine hK _ _ (fun hx => (Bool.false_ne_true (hx.symm.trans (by kernel_rfl))).elim) ?_
              refine any_done (by kernel_rfl) (NoPanic.normal ?_)
              go_wp2_with fail
              go_meet
              exact ⟨_, rfl, by omega, by simpa using (((hA.set 0 _).set 1 _).set 2 _).set 3 _, by exact bel_of⟩
            · intro K hK
              go_wp2_with fail
              refine hK _ _ (fun _ => ⟨(Below.cell (B := Y.heap.size) (w := Y) (by exact bel_of) (by simp only; omega)).trans yv, (Below.cell (B := Y.heap.size) (w := Y) (by exact bel_of) (by simp only; omega)).trans yu⟩) ?_
              clear hK K
              have hA : BK (wn2.alloc (.cells #[.int .i64 0, .int .i64 0, .int .i64 0, .int .i64 0] 34)) wn2.heap.size #[.int .i64 0, .int .i64 0, .int .i64 0, .int .i64 0] 34 := BK.new _ _ _
              have hBA : Below Y.heap.size Y (wn2.alloc (.cells #[.int .i64 0, .int .i64 0, .int .i64 0, .int .i64 0] 34)) := by exact bel_of
              have hgA : Y.heap.size ≤ wn2.heap.size := by first | omega | (simp; done) | (have := hbq2.size; omega)
              generalize wn2.alloc (.cells #[.int .i64 0, .int .i64 0, .int .i64 0, .int .i64 0] 34) = WA at hA hBA ⊢
              generalize wn2.heap.size = gA at hA hgA ⊢
              have hsA := hBA.size
              refine any_run1 (i := 5) (by kernel_rfl) (by rfl) (by rfl) ?_
              intro K hK
              go_wp2_with fail
              refine hK _ _ (fun _ => ⟨(Below.cell (B := Y.heap.size) (w := Y) (by exact bel_of) (by simp only; omega)).trans yv, (Below.cell (B := Y.heap.size) (w := Y) (by exact bel_of) (by simp only; omega)).trans yu⟩) ?_
              clear hK K
              refine any_run1 (i := 7) (by kernel_rfl) (by rfl) (by rfl) ?_
              intro K hK
              have ga0 := hA.cell 0
              have gf0 := hA.frozen 0
              have ga1 := hA.cell 1
              have gf1 := hA.frozen 1
              have ga2 := hA.cell 2
              have gf2 := hA.frozen 2
              have ga3 := hA.cell 3
              have gf3 := hA.frozen 3
              simp at ga0 ga1 ga2 ga3
              have gal := hA.lt
              go_wp2_with fail
              refine hK _ _ (fun hx => (Bool.false_ne_true (hx.symm.trans (by kernel_rfl))).elim) ?_
              refine any_done (by kernel_rfl) (NoPanic.normal ?_)
              go_wp2_with fail
              go_meet
              exact ⟨_, rfl, by omega, by simpa using (((hA.set 0 _).set 1 _).set 2 _).set 3 _, by exact bel_of⟩
          · intro K hK
            go_wp2_with fail
            refine hK _ _ (fun _ => ⟨(Below.cell (B := Y.heap.size) (w := Y) (by exact bel_of) (by simp only; omega)).trans yv, (Below.cell (B := Y.heap.size) (w := Y) (by exact bel_of) (by simp only; omega)).trans yu⟩) ?_
            clear hK K
            have hA : BK (wn1.alloc (.cells #[.int .i64 0, .int .i64 0, .int .i64 0, .int .i64 0] 34)) wn1.heap.size #[.int .i64 0, .int .i64 0, .int .i64 0, .int .i64 0] 34 := BK.new _ _ _
            have hBA : Below Y.heap.size Y (wn1.alloc (.cells #[.int .i64 0, .int .i64 0, .int .i64 0, .int .i64 0] 34)) := by exact bel_of
            have hgA : Y.heap.size ≤ wn1.heap.size := by first | omega | (simp; done) | (have := hbq1.size; omega)
            generalize wn1.alloc (.cells #[.int .i64 0, .int .i64 0, .int .i64 0, .int .i64 0] 34) = WA at hA hBA ⊢
            generalize wn1.heap.size = gA at hA hgA ⊢
            have hsA := hBA.size
            refine any_run1 (i := 4) (by kernel_rfl) (by rfl) (by rfl) ?_
            intro K hK
            go_wp2_with fail
            refine (HB2.out _ (by exact bel_of)).mono ?_
            rintro e wn2 ⟨rfl, hb1⟩
            have hbq2 := Below.trans (a := Y) (B := Y.heap.size) (by exact bel_of) (hb1.mono (by first | omega | (simp; omega) | (simp; done)))
            have hsz2 := hb1.size
            try simp at hsz2
            replace hA := BK.below (W := WA) hA hb1 hA.lt
            clear hb1
            refine hK _ _ (fun _ => ⟨(Below.cell (B := Y.heap.size) (w := Y) (by exact bel_of) (by simp only; omega)).trans yv, (Below.cell (B := Y.heap.size) (w := Y) (by exact bel_of) (by simp only; omega)).trans yu⟩) ?_
            clear hK K
            refine any_run1 (i := 5) (by kernel_rfl) (by rfl) (by rfl) ?_
            intro K hK
            go_wp2_with fail
            refine hK _ _ (fun _ => ⟨(Below.cell (B := Y.heap.size) (w := Y) (by exact bel_of) (by simp only; omega)).trans yv, (Below.cell (B := Y.heap.size) (w := Y) (by exact bel_of) (by simp only; omega)).trans yu⟩) ?_
            clear hK K
            refine any_run1 (i := 7) (by kernel_rfl) (by rfl) (by rfl) ?_
            intro K hK
            have ga0 := hA.cell 0
            have gf0 := hA.frozen 0
            have ga1 := hA.cell 1
            have gf1 := hA.frozen 1
            have ga2 := hA.cell 2
            have gf2 := hA.frozen 2
            have ga3 := hA.cell 3
            have gf3 := hA.frozen 3
            simp at ga0 ga1 ga2 ga3
            have gal := hA.lt
            go_wp2_with fail
            refine hK _ _ (fun hx => (Bool.false_ne_true (hx.symm.trans (by kernel_rfl))).elim) ?_
            refine any_done (by kernel_rfl) (NoPanic.normal ?_)
            go_wp2_with fail
            go_meet
            exact ⟨_, rfl, by omega, by simpa using (((hA.set 0 _).set 1 _).set 2 _).set 3 _, by exact bel_of⟩
        · intro K hK
          go_wp2_with fail
          refine hK _ _ (fun _ => ⟨(Below.cell (B := Y.heap.size) (w := Y) (by exact bel_of) (by simp only; omega)).trans yv, (Below.cell (B := Y.heap.size) (w := Y) (by exact bel_of) (by simp only; omega)).trans yu⟩) ?_
          clear hK K
          have hA : BK (Y.alloc (.cells #[.int .i64 0, .int .i64 0, .int .i64 0, .int .i64 0] 34)) Y.heap.size #[.int .i64 0, .int .i64 0, .int .i64 0, .int .i64 0] 34 := BK.new _ _ _
          have hBA : Below Y.heap.size Y (Y.alloc (.cells #[.int .i64 0, .int .i64 0, .int .i64 0, .int .i64 0] 34)) := by exact bel_of
          have hgA : Y.heap.size ≤ Y.heap.size := by first | omega | (simp; done) | (have := hbq0.size; omega)
          generalize Y.alloc (.cells #[.int .i64 0, .int .i64 0, .int .i64 0, .int .i64 0] 34) = WA at hA hBA ⊢
          have hsA := hBA.size
          refine any_run1 (i := 2) (by kernel_rfl) (by rfl) (by rfl) ?_
          intro K hK
          go_wp2_with fail
          refine (HB1.out _ (by exact bel_of)).mono ?_
          rintro e wn1 ⟨rfl, hb1⟩
          have hbq1 := Below.trans (a := Y) (B := Y.heap.size) (by exact bel_of) (hb1.mono (by first | omega | (simp; omega) | (simp; done)))
          have hsz1 := hb1.size
          try simp at hsz1
          replace hA := BK.below (W := WA.drew) hA hb1 hA.lt
          clear hb1
          refine hK _ _ (fun _ => ⟨(Below.cell (B := Y.heap.size) (w := Y) (by exact bel_of) (by simp only; omega)).trans yv, (Below.cell (B := Y.heap.size) (w := Y) (by exact bel_of) (by simp only; omega)).trans yu⟩) ?_
          clear hK K
          refine any_run1 (i := 4) (by kernel_rfl) (by rfl) (by rfl) ?_
          intro K hK
          go_wp2_with fail
          refine (HB2.out _ (by exact bel_of)).mono ?_
          rintro e wn2 ⟨rfl, hb1⟩
          have hbq2 := Below.trans (a := Y) (B := Y.heap.size) (by exact bel_of) (hb1.mono (by first | omega | (simp; omega) | (simp; done)))
          have hsz2 := hb1.size
          try simp at hsz2
          replace hA := BK.below (W := wn1) hA hb1 hA.lt
          clear hb1
          refine hK _ _ (fun _ => ⟨(Below.cell (B := Y.heap.size) (w := Y) (by exact bel_of) (by simp only; omega)).trans yv, (Below.cell (B := Y.heap.size) (w := Y) (by exact bel_of) (by simp only; omega)).trans yu⟩) ?_
          clear hK K
          refine any_run1 (i := 5) (by kernel_rfl) (by rfl) (by rfl) ?_
          intro K hK
          go_wp2_with fail
          refine hK _ _ (fun _ => ⟨(Below.cell (B := Y.heap.size) (w := Y) (by exact bel_of) (by simp only; omega)).trans yv, (Below.cell (B := Y.heap.size) (w := Y) (by exact bel_of) (by simp only; omega)).trans yu⟩) ?_
          clear hK K
          refine any_run1 (i := 7) (by kernel_rfl) (by rfl) (by rfl) ?_
          intro K hK
          have ga0 := hA.cell 0
          have gf0 := hA.frozen 0
          have ga1 := hA.cell 1
          have gf1 := hA.frozen 1
          have ga2 := hA.cell 2
          have gf2 := hA.frozen 2
          have ga3 := hA.cell 3
          have gf3 := hA.frozen 3
          simp at ga0 ga1 ga2 ga3
          have gal := hA.lt
          go_wp2_with fail
          refine hK _ _ (fun hx => (Bool.false_ne_true (hx.symm.trans (by kernel_rfl))).elim) ?_
          refine any_done (by kernel_rfl) (NoPanic.normal ?_)
          go_wp2_with fail
          go_meet
          exact ⟨_, rfl, by omega, by simpa using (((hA.set 0 _).set 1 _).set 2 _).set 3 _, by exact bel_of⟩
      case rest =>
        obtain ⟨g, rfl, hg, bg, hbc⟩ := hcut
        have g0 := bg.cell 0
        have g1 := bg.cell 1
        have g2 := bg.cell 2
        have g3 := bg.cell 3
        simp at g0 g1 g2 g3
        have hgl := bg.lt
        have d0 := c1.below hbc c1.lt
        have hKa : wc.heap[D]? = some (.deferred (some [])) := (hbc.block D (Array.getElem?_eq_some_iff.1 hK1').1).trans hK1'
        have hKb : wc.heap[D2]? = some (.deferred (some [])) := (hbc.block D2 (Array.getElem?_eq_some_iff.1 hK2).1).trans hK2
        have hbw := Below.trans hbY (hbc.mono hbs2)
        have hbs3 := hbw.size
        clear hbc
        go_wp2_with fail
        refine (less_any _ _ _ _ _).mono ?_
        rintro e w1 ⟨rfl, hw1⟩
        have hB3 : Below wc.heap.size wc w1 := by rw [← hw1]; exact bel_of
        clear hw1 g0 g1 g2 g3 c0 c1 v1 u1 yv yu
        replace d0 := d0.below hB3 d0.lt
        replace bg := bg.below hB3 bg.lt
        replace hKa := (hB3.block D (Array.getElem?_eq_some_iff.1 hKa).1).trans hKa
        replace hKb := (hB3.block D2 (Array.getElem?_eq_some_iff.1 hKb).1).trans hKb
        replace hbw := Below.trans hbw (hB3.mono hbs3)
        clear hB3
        have h0 := d0.cell 0
        have h1 := d0.cell 1
        have h2 := d0.cell 2
        have h3 := d0.cell 3
        simp at h0 h1 h2 h3
        have k0 := d0.frozen 0
        have k1 := d0.frozen 1
        have k2 := d0.frozen 2
        have k3 := d0.frozen 3
        have g0 := bg.cell 0
        have g1 := bg.cell 1
        have g2 := bg.cell 2
        have g3 := bg.cell 3
        simp at g0 g1 g2 g3
        have hDne : D2 ≠ D := by omega
        have hB1D : w.heap.size + 1 ≠ D := by rintro rfl; unfold BK at d0; rw [d0] at hKa; cases hKa
        have hB1D2 : w.heap.size + 1 ≠ D2 := by rintro rfl; unfold BK at d0; rw [d0] at hKb; cases hKb
        cases hlt : lessW ⟨q.num, q.den⟩ ⟨p.num, p.den⟩ with
        | true =>
          go_wp2_with fail
          have hfar : ∀ a b c d : Value, ∀ k, w.heap.size + 1 ≠ k → ((((w1.setCell ⟨w.heap.size + 1, 0, none⟩ a).setCell ⟨w.heap.size + 1, 1, none⟩ b).setCell ⟨w.heap.size + 1, 2, none⟩ c).setCell ⟨w.heap.size + 1, 3, none⟩ d).heap[k]? = w1.heap[k]? := fun a b c d k hk => by
            rw [Below.heap_setCell _ _ _ _ (Ne.symm hk), Below.heap_setCell _ _ _ _ (Ne.symm hk), Below.heap_setCell _ _ _ _ (Ne.symm hk), Below.heap_setCell _ _ _ _ (Ne.symm hk)]
          refine leave2_bk (w := w) (n := w.heap.size) hDne ((hfar _ _ _ _ _ hB1D2).trans hKb) ((hfar _ _ _ _ _ hB1D).trans hKa) ((((d0.set 0 _).set 1 _).set 2 _).set 3 _) hB1D2 hB1D (by exact bel_of) (by omega) (by omega) (v := spanV l hs s own) ?_ (fun W' hW => ⟨rfl, hW⟩)
          intro W' hb'
          have h0 := hb'.cell 0
          have h1 := hb'.cell 1
          have h2 := hb'.cell 2
          have h3 := hb'.cell 3
          simp at h0 h1 h2 h3
          have hsp : spanV l hs s own = .tuple #[.agg #[.int .i64 0, .int .i64 0, .int .i64 0, .int .i64 0], .int .i64 22] := by
            have hl' : lessW (hiB l hs s own) (loB l hs s own) = true := by rw [← hlt]; unfold hiB loB; rw [HP.out, HQ.out]
            unfold spanV
            rw [hl']
            simp only [if_true, Bool.false_eq_true, if_false]
          rw [hsp]
          simp [results, Try.results52, go_sem, h0, h1, h2, h3]
        | false =>
          go_wp2_with fail
          have hfar : ∀ a b c d : Value, ∀ k, w.heap.size + 1 ≠ k → ((((w1.setCell ⟨w.heap.size + 1, 0, none⟩ a).setCell ⟨w.heap.size + 1, 1, none⟩ b).setCell ⟨w.heap.size + 1, 2, none⟩ c).setCell ⟨w.heap.size + 1, 3, none⟩ d).heap[k]? = w1.heap[k]? := fun a b c d k hk => by
            rw [Below.heap_setCell _ _ _ _ (Ne.symm hk), Below.heap_setCell _ _ _ _ (Ne.symm hk), Below.heap_setCell _ _ _ _ (Ne.symm hk), Below.heap_setCell _ _ _ _ (Ne.symm hk)]
          refine leave2_bk (w := w) (n := w.heap.size) hDne ((hfar _ _ _ _ _ hB1D2).trans hKb) ((hfar _ _ _ _ _ hB1D).trans hKa) ((((d0.set 0 _).set 1 _).set 2 _).set 3 _) hB1D2 hB1D (by exact bel_of) (by omega) (by omega) (v := spanV l hs s own) ?_ (fun W' hW => ⟨rfl, hW⟩)
          intro W' hb'
          have h0 := hb'.cell 0
          have h1 := hb'.cell 1
          have h2 := hb'.cell 2
          have h3 := hb'.cell 3
          simp at h0 h1 h2 h3
          have hsp : spanV l hs s own = .tuple #[.agg #[.int .i64 p.num, .int .i64 p.den, .int .i64 q.num, .int .i64 q.den], .int .i64 0] := by
            have hl' : lessW (hiB l hs s own) (loB l hs s own) = false := by rw [← hlt]; unfold hiB loB; rw [HP.out, HQ.out]
            unfold spanV
            rw [hl']
            simp only [if_true, Bool.false_eq_true, if_false]
            unfold hiB loB; rw [HP.out, HQ.out]
          rw [hsp]
          simp [results, Try.results52, go_sem, h0, h1, h2, h3]
end Go.Proofs.Ytbjmkmambmeifaa
