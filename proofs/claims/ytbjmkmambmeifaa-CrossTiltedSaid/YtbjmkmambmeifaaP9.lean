/- IsWedge. The first wedge: the words, and the reference's Wedge. over. least, of the reference: the least line. -/
import Derived.Test.YtbjmkmambmeifaaP3
import Derived.Test.YtbjmkmambmeifaaP8
import Derived.Test.YtbjmkmambmeifaaP4
set_option linter.all false
set_option linter.unnecessarySimpa false
set_option linter.unusedSimpArgs false
set_option linter.unusedVariables false
set_option linter.unusedSectionVars false

namespace Go.Proofs.Ytbjmkmambmeifaa
open Go.RowKit

def isWedgeB (l : List St) (i k m : Nat) : Bool := decide ((nthS l i).hi * ((nthS l m).a - (nthS l k).a) + (nthS l m).hi * ((nthS l k).a - (nthS l i).a) < (nthS l k).lo * ((nthS l m).a - (nthS l i).a))

set_option maxRecDepth 100000 in
set_option maxHeartbeats 4000000 in
theorem isWedge_any (l : List St) (i k m : Nat) (vl : Value) (w : World) (hv : checkPair l = 0) (h : RSt w w.heap.size vl l) (hi : i < l.length) (hk : k < l.length) (hm : m < l.length) :
    Calls Try.prog 38 #[vl, .int .i64 i, .int .i64 k, .int .i64 m] w fun e w' => e = .returned (.bool (isWedgeB l i k m)) ∧ Below w.heap.size w w' := by
  have q1 := valid_at l hv i hi
  have q2 := valid_at l hv k hk
  have q3 := valid_at l hv m hm
  have hv1 := checkPair_len l hv
  obtain ⟨A, cap, b, off, rfl, hA, hc⟩ := h.cells
  obtain ⟨rfl, hb⟩ := hA (by omega)
  obtain ⟨c0, c1, c2⟩ := hc i hi
  obtain ⟨c3, c4, c5⟩ := hc k hk
  obtain ⟨c6, c7, c8⟩ := hc m hm
  clear hA hc h hv
  go_enter Try.func38, Try.ntmps38
  go_upto_region 1 with fail
  go_cut [9, 10, 11] (fun p q r wx => ∃ g0 g1 g2, p = .pointer (some ⟨g0, 0, none⟩) ∧ q = .pointer (some ⟨g1, 0, none⟩) ∧ r = .pointer (some ⟨g2, 0, none⟩) ∧ BK wx g0 #[.int .i64 (nthS l i).a, .int .i64 (nthS l i).lo, .int .i64 (nthS l i).hi] 62 ∧ BK wx g1 #[.int .i64 (nthS l k).a, .int .i64 (nthS l k).lo, .int .i64 (nthS l k).hi] 62 ∧ BK wx g2 #[.int .i64 (nthS l m).a, .int .i64 (nthS l m).lo, .int .i64 (nthS l m).hi] 62 ∧ Below w.heap.size w wx)
  case first =>
    refine plain_read 12 6 mixed (by kernel_rfl) rfl ?_
    simp only [List.take_succ_cons, List.take_zero]
    (repeat (first | (refine ⟨undef, .inr ⟨by rfl, rfl⟩, ?_⟩; simp only [Act.put, List.setIfInBounds_toArray, List.set_cons_succ, List.set_cons_zero]) | (refine ⟨?_, .inl ⟨by rfl, ?_⟩, ?_⟩; rotate_left; (intro X hX; obtain ⟨r1, r2⟩ := Below.rules hX; clear hX; go_simp; rfl); simp only [Act.put, List.setIfInBounds_toArray, List.set_cons_succ, List.set_cons_zero])))
    refine any_run3 (i := 12) (j := 13) (k := 14) (by kernel_rfl) (by rfl) (by rfl) (by rfl) (by rfl) (by rfl) (by rfl) ?_ ?_ ?_
    · intro K hK
      go_wp2_with fail
      refine hK _ _ (fun _ => by exact bel_of) ?_
      clear hK K
      refine any_run2 (i := 13) (j := 14) (by kernel_rfl) (by rfl) (by rfl) (by rfl) (by rfl) ?_ ?_
      · intro K hK
        go_wp2_with fail
        refine hK _ _ (fun _ => by exact bel_of) ?_
        clear hK K
        refine any_run1 (i := 14) (by kernel_rfl) (by rfl) (by rfl) ?_
        intro K hK
        go_wp2_with fail
        refine hK _ _ (fun _ => by exact bel_of) ?_
        clear hK K
        refine any_run1 (i := 15) (by kernel_rfl) (by rfl) (by rfl) ?_
        intro K hK
        go_wp2_with fail
        refine hK _ _ (fun _ => by exact bel_of) ?_
        clear hK K
        refine any_run1 (i := 16) (by kernel_rfl) (by rfl) (by rfl) ?_
        intro K hK
        go_wp2_with fail
        refine hK _ _ (fun _ => by exact bel_of) ?_
        clear hK K
        refine any_run1 (i := 17) (by kernel_rfl) (by rfl) (by rfl) ?_
        intro K hK
        go_wp2_with fail
        refine hK _ _ (fun hx => (Bool.false_ne_true (hx.symm.trans (by kernel_rfl))).elim) ?_
        clear hK K
        refine any_done (by kernel_rfl) (NoPanic.normal ?_)
        go_wp2_with fail
        go_meet
        exact ⟨_, _, _, rfl, rfl, rfl, by (repeat (first | assumption | (refine BK.new' _ _ _ _ ?_; simp; done) | refine BK.alloc ?_ _)), by (repeat (first | assumption | (refine BK.new' _ _ _ _ ?_; simp; done) | refine BK.alloc ?_ _)), by (repeat (first | assumption | (refine BK.new' _ _ _ _ ?_; simp; done) | refine BK.alloc ?_ _)), by exact bel_of⟩
      · intro K hK
        go_wp2_with fail
        refine hK _ _ (fun _ => by exact bel_of) ?_
        clear hK K
        refine any_run1 (i := 13) (by kernel_rfl) (by rfl) (by rfl) ?_
        intro K hK
        go_wp2_with fail
        refine hK _ _ (fun _ => by exact bel_of) ?_
        clear hK K
        refine any_run1 (i := 15) (by kernel_rfl) (by rfl) (by rfl) ?_
        intro K hK
        go_wp2_with fail
        refine hK _ _ (fun _ => by exact bel_of) ?_
        clear hK K
        refine any_run1 (i := 16) (by kernel_rfl) (by rfl) (by rfl) ?_
        intro K hK
        go_wp2_with fail
        refine hK _ _ (fun _ => by exact bel_of) ?_
        clear hK K
        refine any_run1 (i := 17) (by kernel_rfl) (by rfl) (by rfl) ?_
        intro K hK
        go_wp2_with fail
        refine hK _ _ (fun hx => (Bool.false_ne_true (hx.symm.trans (by kernel_rfl))).elim) ?_
        clear hK K
        refine any_done (by kernel_rfl) (NoPanic.normal ?_)
        go_wp2_with fail
        go_meet
        exact ⟨_, _, _, rfl, rfl, rfl, by (repeat (first | assumption | (refine BK.new' _ _ _ _ ?_; simp; done) | refine BK.alloc ?_ _)), by (repeat (first | assumption | (refine BK.new' _ _ _ _ ?_; simp; done) | refine BK.alloc ?_ _)), by (repeat (first | assumption | (refine BK.new' _ _ _ _ ?_; simp; done) | refine BK.alloc ?_ _)), by exact bel_of⟩
    · intro K hK
      go_wp2_with fail
      refine hK _ _ (fun _ => by exact bel_of) ?_
      clear hK K
      refine any_run2 (i := 12) (j := 14) (by kernel_rfl) (by rfl) (by rfl) (by rfl) (by rfl) ?_ ?_
      · intro K hK
        go_wp2_with fail
        refine hK _ _ (fun _ => by exact bel_of) ?_
        clear hK K
        refine any_run1 (i := 14) (by kernel_rfl) (by rfl) (by rfl) ?_
        intro K hK
        go_wp2_with fail
        refine hK _ _ (fun _ => by exact bel_of) ?_
        clear hK K
        refine any_run1 (i := 15) (by kernel_rfl) (by rfl) (by rfl) ?_
        intro K hK
        go_wp2_with fail
        refine hK _ _ (fun _ => by exact bel_of) ?_
        clear hK K
        refine any_run1 (i := 16) (by kernel_rfl) (by rfl) (by rfl) ?_
        intro K hK
        go_wp2_with fail
        refine hK _ _ (fun _ => by exact bel_of) ?_
        clear hK K
        refine any_run1 (i := 17) (by kernel_rfl) (by rfl) (by rfl) ?_
        intro K hK
        go_wp2_with fail
        refine hK _ _ (fun hx => (Bool.false_ne_true (hx.symm.trans (by kernel_rfl))).elim) ?_
        clear hK K
        refine any_done (by kernel_rfl) (NoPanic.normal ?_)
        go_wp2_with fail
        go_meet
        exact ⟨_, _, _, rfl, rfl, rfl, by (repeat (first | assumption | (refine BK.new' _ _ _ _ ?_; simp; done) | refine BK.alloc ?_ _)), by (repeat (first | assumption | (refine BK.new' _ _ _ _ ?_; simp; done) | refine BK.alloc ?_ _)), by (repeat (first | assumption | (refine BK.new' _ _ _ _ ?_; simp; done) | refine BK.alloc ?_ _)), by exact bel_of⟩
      · intro K hK
        go_wp2_with fail
        refine hK _ _ (fun _ => by exact bel_of) ?_
        clear hK K
        refine any_run1 (i := 12) (by kernel_rfl) (by rfl) (by rfl) ?_
        intro K hK
        go_wp2_with fail
        refine hK _ _ (fun _ => by exact bel_of) ?_
        clear hK K
        refine any_run1 (i := 15) (by kernel_rfl) (by rfl) (by rfl) ?_
        intro K hK
        go_wp2_with fail
        refine hK _ _ (fun _ => by exact bel_of) ?_
        clear hK K
        refine any_run1 (i := 16) (by kernel_rfl) (by rfl) (by rfl) ?_
        intro K hK
        go_wp2_with fail
        refine hK _ _ (fun _ => by exact bel_of) ?_
        clear hK K
        refine any_run1 (i := 17) (by kernel_rfl) (by rfl) (by rfl) ?_
        intro K hK
        go_wp2_with fail
        refine hK _ _ (fun hx => (Bool.false_ne_true (hx.symm.trans (by kernel_rfl))).elim) ?_
        clear hK K
        refine any_done (by kernel_rfl) (NoPanic.normal ?_)
        go_wp2_with fail
        go_meet
        exact ⟨_, _, _, rfl, rfl, rfl, by (repeat (first | assumption | (refine BK.new' _ _ _ _ ?_; simp; done) | refine BK.alloc ?_ _)), by (repeat (first | assumption | (refine BK.new' _ _ _ _ ?_; simp; done) | refine BK.alloc ?_ _)), by (repeat (first | assumption | (refine BK.new' _ _ _ _ ?_; simp; done) | refine BK.alloc ?_ _)), by exact bel_of⟩
    · intro K hK
      go_wp2_with fail
      refine hK _ _ (fun _ => by exact bel_of) ?_
      clear hK K
      refine any_run2 (i := 12) (j := 13) (by kernel_rfl) (by rfl) (by rfl) (by rfl) (by rfl) ?_ ?_
      · intro K hK
        go_wp2_with fail
        refine hK _ _ (fun _ => by exact bel_of) ?_
        clear hK K
        refine any_run1 (i := 13) (by kernel_rfl) (by rfl) (by rfl) ?_
        intro K hK
        go_wp2_with fail
        refine hK _ _ (fun _ => by exact bel_of) ?_
        clear hK K
        refine any_run1 (i := 15) (by kernel_rfl) (by rfl) (by rfl) ?_
        intro K hK
        go_wp2_with fail
        refine hK _ _ (fun _ => by exact bel_of) ?_
        clear hK K
        refine any_run1 (i := 16) (by kernel_rfl) (by rfl) (by rfl) ?_
        intro K hK
        go_wp2_with fail
        refine hK _ _ (fun _ => by exact bel_of) ?_
        clear hK K
        refine any_run1 (i := 17) (by kernel_rfl) (by rfl) (by rfl) ?_
        intro K hK
        go_wp2_with fail
        refine hK _ _ (fun hx => (Bool.false_ne_true (hx.symm.trans (by kernel_rfl))).elim) ?_
        clear hK K
        refine any_done (by kernel_rfl) (NoPanic.normal ?_)
        go_wp2_with fail
        go_meet
        exact ⟨_, _, _, rfl, rfl, rfl, by (repeat (first | assumption | (refine BK.new' _ _ _ _ ?_; simp; done) | refine BK.alloc ?_ _)), by (repeat (first | assumption | (refine BK.new' _ _ _ _ ?_; simp; done) | refine BK.alloc ?_ _)), by (repeat (first | assumption | (refine BK.new' _ _ _ _ ?_; simp; done) | refine BK.alloc ?_ _)), by exact bel_of⟩
      · intro K hK
        go_wp2_with fail
        refine hK _ _ (fun _ => by exact bel_of) ?_
        clear hK K
        refine any_run1 (i := 12) (by kernel_rfl) (by rfl) (by rfl) ?_
        intro K hK
        go_wp2_with fail
        refine hK _ _ (fun _ => by exact bel_of) ?_
        clear hK K
        refine any_run1 (i := 15) (by kernel_rfl) (by rfl) (by rfl) ?_
        intro K hK
        go_wp2_with fail
        refine hK _ _ (fun _ => by exact bel_of) ?_
        clear hK K
        refine any_run1 (i := 16) (by kernel_rfl) (by rfl) (by rfl) ?_
        intro K hK
        go_wp2_with fail
        refine hK _ _ (fun _ => by exact bel_of) ?_
        clear hK K
        refine any_run1 (i := 17) (by kernel_rfl) (by rfl) (by rfl) ?_
        intro K hK
        go_wp2_with fail
        refine hK _ _ (fun hx => (Bool.false_ne_true (hx.symm.trans (by kernel_rfl))).elim) ?_
        clear hK K
        refine any_done (by kernel_rfl) (NoPanic.normal ?_)
        go_wp2_with fail
        go_meet
        exact ⟨_, _, _, rfl, rfl, rfl, by (repeat (first | assumption | (refine BK.new' _ _ _ _ ?_; simp; done) | refine BK.alloc ?_ _)), by (repeat (first | assumption | (refine BK.new' _ _ _ _ ?_; simp; done) | refine BK.alloc ?_ _)), by (repeat (first | assumption | (refine BK.new' _ _ _ _ ?_; simp; done) | refine BK.alloc ?_ _)), by exact bel_of⟩
  case rest =>
    obtain ⟨g0, g1, g2, rfl, rfl, rfl, b0, b1, b2, hbx⟩ := hcut
    have x0 := b0.cell 0
    have x1 := b0.cell 1
    have x2 := b0.cell 2
    have y0 := b1.cell 0
    have y1 := b1.cell 1
    have y2 := b1.cell 2
    have z0 := b2.cell 0
    have z1 := b2.cell 1
    have z2 := b2.cell 2
    simp at x0 x1 x2 y0 y1 y2 z0 z1 z2
    have e1 := mul_bd (nthS l k).lo ((nthS l m).a - (nthS l i).a) 1000 1000 (by omega) (by omega)
    have e2 := mul_bd (nthS l i).hi ((nthS l m).a - (nthS l k).a) 1000 1000 (by omega) (by omega)
    have e3 := mul_bd (nthS l m).hi ((nthS l k).a - (nthS l i).a) 1000 1000 (by omega) (by omega)
    simp only [Nat.reduceMul] at e1 e2 e3
    go_wp2_with fail
    go_ret
    exact ⟨rfl, hbx⟩
end Go.Proofs.Ytbjmkmambmeifaa

namespace Go.Proofs.Ytbjmkmambmeifaa
open Go.RowKit

def wM (l : List St) (i k : Nat) : Option Nat := (List.range l.length).find? (fun m => decide (k < m) && isWedgeB l i k m)
def wK (l : List St) (i : Nat) : Option (Nat × Nat × Nat) := (List.range l.length).findSome? (fun k => if i < k then (wM l i k).map (fun m => (i, k, m)) else none)
/-- The first wedge. -/
def wedgeF (l : List St) : Option (Nat × Nat × Nat) := (List.range l.length).findSome? (wK l)
def wedgeO : Option (Nat × Nat × Nat) → Value
  | some (i, k, m) => .tuple #[.agg #[.int .i64 i, .int .i64 k, .int .i64 m], .int .i64 0]
  | none => .tuple #[.agg #[.int .i64 0, .int .i64 0, .int .i64 0], .int .i64 5]
def wedgeV (l : List St) : Value := if checkPair l ≠ 0 then .tuple #[.agg #[.int .i64 0, .int .i64 0, .int .i64 0], .int .i64 (checkPair l)] else wedgeO (wedgeF l)

theorem findSome_none {α : Type} {f : Nat → Option α} {n : Nat} (h : ∀ j, j < n → f j = none) : (List.range n).findSome? f = none := by
  rw [List.findSome?_eq_none_iff]
  exact fun x hx => h x (List.mem_range.1 hx)
theorem findSome_range {α : Type} {f : Nat → Option α} {x : α} : ∀ {n i : Nat}, i < n → f i = some x → (∀ j, j < i → f j = none) → (List.range n).findSome? f = some x
  | 0, i, h, _, _ => by omega
  | n + 1, i, h, hf, hl => by
    rw [List.range_succ, List.findSome?_append]
    rcases Nat.lt_succ_iff_lt_or_eq.1 h with h1 | rfl
    · rw [findSome_range h1 hf hl]; rfl
    · rw [findSome_none hl]; simp [hf]
theorem find_range' {p : Nat → Bool} {n i : Nat} (hi : i < n) (hp : p i = true) (hl : ∀ j, j < i → p j = false) : (List.range n).find? p = some i := by
  rw [List.find?_range_eq_some]
  exact ⟨hp, List.mem_range.2 hi, fun j hj => by rw [hl j hj]; rfl⟩

def wP1 (l : List St) (i : Nat) : Prop := ∀ i' k m, i' < i → i' < k → k < m → m < l.length → isWedgeB l i' k m = false
def wP2 (l : List St) (i k : Nat) : Prop := ∀ k' m, i < k' → k' < k → k' < m → m < l.length → isWedgeB l i k' m = false
def wP3 (l : List St) (i k m : Nat) : Prop := ∀ m', k < m' → m' < m → isWedgeB l i k m' = false
theorem wM_none {l : List St} {i k : Nat} (h : wP3 l i k l.length) : wM l i k = none := by
  unfold wM
  rw [List.find?_eq_none]
  intro m hm
  have hm' := List.mem_range.1 hm
  by_cases hk : k < m
  · simp [h m hk hm']
  · simp [hk]
theorem wK_none {l : List St} {i : Nat} (h : wP2 l i l.length) : wK l i = none := by
  refine findSome_none fun k hk => ?_
  by_cases hik : i < k
  · rw [if_pos hik, wM_none fun m h1 h2 => h k m hik hk h1 h2]; rfl
  · rw [if_neg hik]
theorem wedge_none {l : List St} (h : wP1 l l.length) : wedgeF l = none :=
  findSome_none fun i hi => wK_none fun k m h1 h2 h3 h4 => h i k m hi h1 h3 h4
theorem wedge_some {l : List St} {i k m : Nat} (h1 : wP1 l i) (h2 : wP2 l i k) (h3 : wP3 l i k m) (hik : i < k) (hkm : k < m) (hm : m < l.length) (hw : isWedgeB l i k m = true) : wedgeF l = some (i, k, m) := by
  have e3 : wM l i k = some m := by
    refine find_range' hm (by simp [hkm, hw]) fun m' hm' => ?_
    by_cases hk : k < m'
    · simp [h3 m' hk hm']
    · simp [hk]
  have e2 : wK l i = some (i, k, m) := by
    refine findSome_range (show k < l.length by omega) (by rw [if_pos hik, e3]; rfl) fun k' hk' => ?_
    by_cases hik' : i < k'
    · rw [if_pos hik', wM_none fun m' h4 h5 => h2 k' m' hik' hk' h4 h5]; rfl
    · rw [if_neg hik']
  exact findSome_range (show i < l.length by omega) e2 fun i' hi' => wK_none fun k' m' h4 h5 h6 h7 => h1 i' k' m' hi' h4 h6 h7

set_option maxRecDepth 100000 in
set_option maxHeartbeats 4000000 in
theorem refWedge_any (l : List St) (vl : Value) (w : World) (hl : l.length ≤ 1000) (h : RSt w w.heap.size vl l) :
    Calls Try.prog 33 #[vl] w fun e w' => e = .returned (wedgeV l) ∧ Below w.heap.size w w' := by
  have hcall := fun w1 (hb : Below w.heap.size w w1) => refCheckPair_any l vl w1 hl ((h.below hb).more hb.size)
  by_cases hp : checkPair l = 0
  · rw [hp] at hcall
    have hiw := fun w1 (hb : Below w.heap.size w w1) i k m (hi : i < l.length) (hk : k < l.length) (hm : m < l.length) => isWedge_any l i k m vl w1 hp ((h.below hb).more hb.size) hi hk hm
    have hn := checkPair_len l hp
    have hV : wedgeV l = wedgeO (wedgeF l) := by unfold wedgeV; rw [if_neg (by simpa using hp)]
    have HIW := Lib.hid hiw; have HP := Lib.hid hcall; have HV := Lib.hid hV
    obtain ⟨A, cap, b, off, rfl, _, _⟩ := h.cells
    clear hiw hcall hp h hV
    go_enter Try.func33, Try.ntmps33
    go_wp2_with fail
    refine (HP.out _ (by exact bel_of)).mono ?_
    rintro e w1 ⟨rfl, hb1⟩
    have hB1 : Below w.heap.size w w1 := (Below.trans (a := w) (B := w.heap.size) (by exact bel_of) (hb1.mono (by first | omega | (simp; omega) | (simp; done))))
    have b1 : BK w1 w.heap.size #[.int .i64 0, .int .i64 0, .int .i64 0] 44 := BK.below (BK.new _ _ _) hb1 (by simp)
    clear hb1
    go_wp2_with fail
    go_loopw [4] (fun iv wr => ∃ i : Nat, i ≤ l.length ∧ iv = .int .i64 i ∧ BK wr w.heap.size #[.int .i64 0, .int .i64 0, .int .i64 0] 44 ∧ Below w.heap.size w wr ∧ wP1 l i) (fun i _ => l.length - (intOf i).toNat)
    case atStart => exact ⟨0, Nat.zero_le _, rfl, b1, hB1, fun i' k m h1 => absurd h1 (by omega)⟩
    case round =>
      clear hB1 b1
      obtain ⟨i, hi, rfl, b1, hbw, hp1⟩ := hrel
      have HP1 := Lib.hid hp1; clear hp1
      by_cases hil : i < l.length
      · go_wp2_with fail
        go_loopw [5] (fun kv wr => ∃ k : Nat, i + 1 ≤ k ∧ k ≤ l.length ∧ kv = .int .i64 k ∧ BK wr w.heap.size #[.int .i64 0, .int .i64 0, .int .i64 0] 44 ∧ Below w.heap.size w wr ∧ wP2 l i k) (fun k _ => l.length - (intOf k).toNat)
        case atStart => exact ⟨i + 1, Nat.le_refl _, by omega, by go_num, b1, hbw, fun k' m h1 h2 => absurd h1 (by omega)⟩
        case round =>
          clear b1 hbw
          obtain ⟨k, hk0, hk, rfl, b1, hbw, hp2⟩ := hrel
          have HP2 := Lib.hid hp2; clear hp2
          by_cases hkl : k < l.length
          · go_wp2_with fail
            go_loopw [6] (fun mv wr => ∃ m : Nat, k + 1 ≤ m ∧ m ≤ l.length ∧ mv = .int .i64 m ∧ BK wr w.heap.size #[.int .i64 0, .int .i64 0, .int .i64 0] 44 ∧ Below w.heap.size w wr ∧ wP3 l i k m) (fun m _ => l.length - (intOf m).toNat)
            case atStart => exact ⟨k + 1, Nat.le_refl _, by omega, by go_num, b1, hbw, fun m' h1 h2 => absurd h1 (by omega)⟩
            case round =>
              clear b1 hbw
              obtain ⟨m, hm0, hm, rfl, b1, hbw, hp3⟩ := hrel
              have HP3 := Lib.hid hp3; clear hp3
              by_cases hml : m < l.length
              · obtain ⟨q, hq⟩ : ∃ q, isWedgeB l i k m = q := ⟨_, rfl⟩
                have hcw := HIW.out _ hbw i k m hil hkl hml
                rw [hq] at hcw
                have HCW := Lib.hid hcw; clear hcw
                have hsz := hbw.size
                have hlt1 := b1.lt
                cases q with
                | true =>
                  have HW := Lib.hid (wedge_some HP1.out HP2.out HP3.out (by omega) (by omega) hml hq)
                  clear hq
                  go_wp2_with fail
                  refine HCW.out.mono ?_
                  rintro e w2 ⟨rfl, hb2⟩
                  have hB2 : Below w.heap.size w w2 := hbw.trans (hb2.mono hsz)
                  have b2 := b1.below hb2 hlt1
                  clear hb2
                  have z0 := b2.cell 0
                  have z1 := b2.cell 1
                  have z2 := b2.cell 2
                  have f0 := b2.frozen 0
                  have f1 := b2.frozen 1
                  have f2 := b2.frozen 2
                  simp at z0 z1 z2
                  go_wp2_with fail
                  have b5 := ((b2.set 0 (.int .i64 i)).set 1 (.int .i64 k)).set 2 (.int .i64 m)
                  simp at b5
                  refine ret_bk (w := w) (n := w.heap.size) b5 (by exact bel_of) (v := .tuple #[.agg #[.int .i64 i, .int .i64 k, .int .i64 m], .int .i64 0]) ?_ ?_
                  · intro W' hb'
                    have z0 := hb'.cell 0
                    have z1 := hb'.cell 1
                    have z2 := hb'.cell 2
                    simp at z0 z1 z2
                    simp [results, Try.results33, go_sem, z0, z1, z2]
                  exact ⟨by rw [HV.out, HW.out]; rfl, by exact bel_of⟩
                | false =>
                  have HQ := Lib.hid hq
                  clear hq
                  go_wp2_with fail
                  refine HCW.out.mono ?_
                  rintro e w2 ⟨rfl, hb2⟩
                  have hB2 : Below w.heap.size w w2 := hbw.trans (hb2.mono hsz)
                  have b2 := b1.below hb2 hlt1
                  clear hb2
                  go_wp2_with fail
                  go_roundw
                  case rel => exact ⟨m + 1, by omega, by omega, by go_num, b2, hB2, fun m' h1 h2 => by
                    rcases Nat.lt_succ_iff_lt_or_eq.1 h2 with h3 | rfl
                    · exact HP3.out m' h1 h3
                    · exact HQ.out⟩
                  case measure => simp [intOf]; omega
              · have hme : m = l.length := by omega
                go_wp2_with fail
                go_roundw
                case rel => exact ⟨k + 1, by omega, by omega, by go_num, b1, hbw, fun k' m' h1 h2 h3 h4 => by
                  rcases Nat.lt_succ_iff_lt_or_eq.1 h2 with h5 | rfl
                  · exact HP2.out k' m' h1 h5 h3 h4
                  · exact HP3.out m' h3 (by omega)⟩
                case measure => simp [intOf]; omega
          · have hke : k = l.length := by omega
            go_wp2_with fail
            go_roundw
            case rel => exact ⟨i + 1, by omega, by go_num, b1, hbw, fun i' k' m' h1 h2 h3 h4 => by
              rcases Nat.lt_succ_iff_lt_or_eq.1 h1 with h5 | rfl
              · exact HP1.out i' k' m' h5 h2 h3 h4
              · exact HP2.out k' m' h2 (by omega) h3 h4⟩
            case measure => simp [intOf]; omega
      · have hie : i = l.length := by omega
        have HW := Lib.hid (wedge_none (hie ▸ HP1.out))
        clear hie
        have z0 := b1.cell 0
        have z1 := b1.cell 1
        have z2 := b1.cell 2
        have f0 := b1.frozen 0
        have f1 := b1.frozen 1
        have f2 := b1.frozen 2
        simp at z0 z1 z2
        go_wp2_with fail
        have b5 := ((b1.set 0 (.int .i64 0)).set 1 (.int .i64 0)).set 2 (.int .i64 0)
        simp at b5
        refine ret_bk (w := w) (n := w.heap.size) b5 (by exact bel_of) (v := .tuple #[.agg #[.int .i64 0, .int .i64 0, .int .i64 0], .int .i64 5]) ?_ ?_
        · intro W' hb'
          have z0 := hb'.cell 0
          have z1 := hb'.cell 1
          have z2 := hb'.cell 2
          simp at z0 z1 z2
          simp [results, Try.results33, go_sem, z0, z1, z2]
        exact ⟨by rw [HV.out, HW.out]; rfl, by exact bel_of⟩
  · obtain ⟨e0, he0⟩ : ∃ e0, checkPair l = e0 := ⟨_, rfl⟩
    have hV : wedgeV l = .tuple #[.agg #[.int .i64 0, .int .i64 0, .int .i64 0], .int .i64 (checkPair l)] := by unfold wedgeV; rw [if_pos hp]
    rw [he0] at hcall hp hV
    have hpb : (e0 != 0) = true := by simpa using hp
    have HV := Lib.hid hV; have HP := Lib.hid hcall
    clear hV hcall he0 hp h
    go_enter Try.func33, Try.ntmps33
    go_wp2_with fail
    refine (HP.out _ (by exact bel_of)).mono ?_
    rintro e w1 ⟨rfl, hb1⟩
    have hB1 : Below w.heap.size w w1 := (Below.trans (a := w) (B := w.heap.size) (by exact bel_of) (hb1.mono (by first | omega | (simp; omega) | (simp; done))))
    have b1 : BK w1 w.heap.size #[.int .i64 0, .int .i64 0, .int .i64 0] 44 := BK.below (BK.new _ _ _) hb1 (by simp)
    have hlt1 := b1.lt
    clear hb1
    go_wp2_with fail
    refine (HP.out _ hB1).mono ?_
    rintro e w2 ⟨rfl, hb2⟩
    have hB2 : Below w.heap.size w w2 := hB1.trans (hb2.mono hB1.size)
    have b2 := b1.below hb2 hlt1
    have hlt2 := b2.lt
    clear hb2 b1
    have z0 := b2.cell 0
    have z1 := b2.cell 1
    have z2 := b2.cell 2
    have f0 := b2.frozen 0
    have f1 := b2.frozen 1
    have f2 := b2.frozen 2
    simp at z0 z1 z2
    go_wp2_with fail
    have b5 := ((b2.set 0 (.int .i64 0)).set 1 (.int .i64 0)).set 2 (.int .i64 0)
    simp at b5
    refine ret_bk (w := w) (n := w.heap.size) b5 (by exact bel_of) (v := .tuple #[.agg #[.int .i64 0, .int .i64 0, .int .i64 0], .int .i64 e0]) ?_ ?_
    · intro W' hb'
      have z0 := hb'.cell 0
      have z1 := hb'.cell 1
      have z2 := hb'.cell 2
      simp at z0 z1 z2
      simp [results, Try.results33, go_sem, z0, z1, z2]
    exact ⟨by rw [HV.out], by exact bel_of⟩
end Go.Proofs.Ytbjmkmambmeifaa

namespace Go.Proofs.Ytbjmkmambmeifaa
open Go.RowKit
attribute [local go_sem] Go.Oper.semAt_some

/-- By how much the station s, at the height own, is above the line of the t-th pair round it. -/
def pairOver (l : List St) (hs : List Int) (s : Nat) (own : Int) (t : Nat) : Ra :=
  let i := t / (l.length - (s + 1)); let k := s + 1 + t % (l.length - (s + 1))
  frac (own * ((nthS l k).a - (nthS l i).a) - (nthI hs i * ((nthS l k).a - (nthS l s).a) + nthI hs k * ((nthS l s).a - (nthS l i).a))) ((nthS l k).a - (nthS l i).a)
def overs (l : List St) (hs : List Int) (s : Nat) (own : Int) (t : Nat) : List Ra := ((List.range t).map (pairOver l hs s own)).filter (· ≠ ⟨0, 1⟩)
def overR (l : List St) (hs : List Int) (s : Nat) (own : Int) : Ra := bestF (fun y o => lessW o y) (⟨0, 1⟩ :: overs l hs s own (s * (l.length - (s + 1))))
theorem overs_length (l : List St) (hs : List Int) (s : Nat) (own : Int) (t : Nat) : (overs l hs s own t).length ≤ t := by
  unfold overs
  refine Nat.le_trans (List.length_filter_le _ _) ?_
  simp
theorem overs_succ (l : List St) (hs : List Int) (s : Nat) (own : Int) (t : Nat) : overs l hs s own (t + 1) = if pairOver l hs s own t = ⟨0, 1⟩ then overs l hs s own t else overs l hs s own t ++ [pairOver l hs s own t] := by
  unfold overs
  rw [List.range_succ, List.map_append, List.filter_append]
  split
  · rename_i h; simp [h]
  · rename_i h; simp [h]

def OI (w : World) (l : List St) (s : Nat) (own p1 p2 : Int) (vb : Option Addr) (c : Nat) (N : Nat) (L : List Ra) (X : World) : Prop :=
  Below w.heap.size w X ∧ BK X w.heap.size #[.int .i64 (nthS l s).a, .int .i64 p1, .int .i64 p2, .int .i64 s, .int .i64 own] 85 ∧ BK X (w.heap.size + 1) #[.int .i64 0, .int .i64 0] 25 ∧ BK X (w.heap.size + 1 + 1) #[.int .i64 0, .int .i64 1] 25 ∧
    One X (w.heap.size + 1 + 1 + 1) (w.heap.size + 1 + 1 + 1 + 1) L ∧ BK X c #[.pointer vb] 80 ∧ BK X (c + 1) #[.int .i64 s] 3 ∧ N ≤ X.heap.size
theorem OI.adm {w : World} {l : List St} {s : Nat} {own p1 p2 : Int} {vb : Option Addr} {c N : Nat} {L : List Ra} {X Y : World} {B : Nat} (q : OI w l s own p1 p2 vb c N L X) (ha : Adm B X Y) (hB : w.heap.size ≤ B) : OI w l s own p1 p2 vb c N L Y :=
  ⟨ha.belowOf q.1 (Nat.le_refl _) hB, ha.cells q.2.1, ha.cells q.2.2.1, ha.cells q.2.2.2.1, q.2.2.2.2.1.adm ha, ha.cells q.2.2.2.2.2.1, ha.cells q.2.2.2.2.2.2.1, Nat.le_trans q.2.2.2.2.2.2.2 ha.size⟩

set_option maxRecDepth 100000 in
set_option maxHeartbeats 4000000 in
theorem over_any (l : List St) (hs : List Int) (s : Nat) (own p1 p2 : Int) (vb : Option Addr) (w : World) (hl : l.length ≤ 25) (hs1 : s < l.length) (h : RB w (.pointer vb) l hs)
    (ha : ∀ i j, i < j → j < l.length → (nthS l i).a < (nthS l j).a) (ha2 : ∀ i, i < l.length → 0 ≤ (nthS l i).a ∧ (nthS l i).a ≤ 1000) (hh : ∀ i, i < l.length → -1000 ≤ nthI hs i ∧ nthI hs i ≤ 1000) (ho : -1000 ≤ own ∧ own ≤ 1000) :
    Calls Try.prog 58 #[.pointer vb, .agg #[.int .i64 (nthS l s).a, .int .i64 p1, .int .i64 p2, .int .i64 s, .int .i64 own]] w fun e w' =>
      e = .returned (.agg #[.int .i64 (overR l hs s own).num, .int .i64 (overR l hs s own).den]) ∧ Below w.heap.size w w' := by
  refine calls_of_wp_marks Try.func58 rfl ?_
  simp only [Try.ntmps58, List.size_toArray, List.length_cons, List.length_nil, Nat.reduceAdd, Nat.reduceSub, Array.replicate_succ, Array.replicate_zero, List.push_toArray, List.append_toArray, List.nil_append, List.cons_append]
  have HA := Lib.hid ha
  have HA2 := Lib.hid ha2
  have HH := Lib.hid hh
  clear ha ha2 hh
  have hsN : s * (l.length - (s + 1)) ≤ 25 * 25 := Nat.mul_le_mul (by omega) (by omega)
  go_wp2_with fail
  refine (pairs_any _ _ _).mono ?_
  rintro e w1 ⟨rfl, hw1⟩
  have hB0 : Below w.heap.size w w1 := by rw [← hw1]; exact bel_of
  have b0 : BK w1 (w.heap.size) #[.int .i64 (nthS l s).a, .int .i64 p1, .int .i64 p2, .int .i64 s, .int .i64 own] 85 := by rw [← hw1]; (repeat (first | assumption | (refine BK.new' _ _ _ _ ?_; simp; done) | refine BK.alloc ?_ _))
  have b1 : BK w1 (w.heap.size + 1) #[.int .i64 0, .int .i64 0] 25 := by rw [← hw1]; (repeat (first | assumption | (refine BK.new' _ _ _ _ ?_; simp; done) | refine BK.alloc ?_ _))
  have b2 : BK w1 (w.heap.size + 1 + 1) #[.int .i64 0, .int .i64 1] 25 := by rw [← hw1]; (repeat (first | assumption | (refine BK.new' _ _ _ _ ?_; simp; done) | refine BK.alloc ?_ _))
  have b3 : BK w1 (w.heap.size + 1 + 1 + 1) #[.int .i64 0, .int .i64 1] 25 := by rw [← hw1]; (repeat (first | assumption | (refine BK.new' _ _ _ _ ?_; simp; done) | refine BK.alloc ?_ _))
  have b4 : BK w1 (w.heap.size + 1 + 1 + 1 + 1) #[.slice (some ⟨w.heap.size + 1 + 1 + 1, 0, none⟩) 1 1] 26 := by rw [← hw1]; (repeat (first | assumption | (refine BK.new' _ _ _ _ ?_; simp; done) | refine BK.alloc ?_ _))
  have b5 : BK w1 (w.heap.size + 1 + 1 + 1 + 1 + 1) #[.pointer vb] 80 := by rw [← hw1]; (repeat (first | assumption | (refine BK.new' _ _ _ _ ?_; simp; done) | refine BK.alloc ?_ _))
  have b6 : BK w1 (w.heap.size + 1 + 1 + 1 + 1 + 1 + 1) #[.int .i64 s] 3 := by rw [← hw1]; (repeat (first | assumption | (refine BK.new' _ _ _ _ ?_; simp; done) | refine BK.alloc ?_ _))
  have hS : w1.heap.size = w.heap.size + 7 := by rw [← hw1]; simp
  clear hw1
  go_wp2_with fail
  refine wp_range (gf := 79) (lb := #[.pointer (some ⟨w.heap.size + 1 + 1 + 1 + 1 + 1, 0, none⟩), .pointer (some ⟨w.heap.size + 1 + 1 + 1 + 1 + 1 + 1, 0, none⟩)]) rfl (enters_of Try.func79 (by kernel_rfl) rfl)
    (pairs_iter (fun t => t = 25) (by decide) (by decide) (by decide) (by decide) (by decide) (w.heap.size + 1 + 1 + 1 + 1 + 1) (w.heap.size + 1 + 1 + 1 + 1 + 1 + 1) (.pointer vb) l hs s (by omega) hs1) (fun _ => rfl)
    (fun t X => OI w l s own p1 p2 vb (w.heap.size + 1 + 1 + 1 + 1 + 1) w1.heap.size (⟨0, 1⟩ :: overs l hs s own t) X)
    (fun c t X => False)
    (fun t a' X => OI w l s own p1 p2 vb (w.heap.size + 1 + 1 + 1 + 1 + 1) w1.heap.size (⟨0, 1⟩ :: overs l hs s own t) X ∧
      ∃ bx by', w1.heap.size ≤ bx ∧ w1.heap.size ≤ by' ∧ BoxP X bx l hs (t / (l.length - (s + 1))) ∧ BoxP X by' l hs (s + 1 + t % (l.length - (s + 1))) ∧ a' = { tmps := #[.pointer vb, .agg #[.int .i64 (nthS l s).a, .int .i64 p1, .int .i64 p2, .int .i64 s, .int .i64 own], undef, .pointer (some ⟨w.heap.size, 0, none⟩), .pointer (some ⟨w.heap.size + 1, 0, none⟩), .pointer (some ⟨w.heap.size + 1 + 1, 0, none⟩), .pointer (some ⟨w.heap.size + 1 + 1 + 1 + 1, 0, none⟩), .pointer (some ⟨bx, 0, none⟩), .pointer (some ⟨by', 0, none⟩), undef, undef, undef, undef,
        .agg #[.int .i64 0, .int .i64 1], .agg #[.int .i64 0, .int .i64 1], .slice (some ⟨w.heap.size + 1 + 1 + 1, 0, none⟩) 1 1, .pointer vb, .pointer (some ⟨w.heap.size, 3, none⟩), .int .i64 s, .func (.func 79) #[] #[.pointer (some ⟨w.heap.size + 1 + 1 + 1 + 1 + 1, 0, none⟩), .pointer (some ⟨w.heap.size + 1 + 1 + 1 + 1 + 1 + 1, 0, none⟩)], ptV l hs (t / (l.length - (s + 1))), ptV l hs (s + 1 + t % (l.length - (s + 1))),
        undef, undef, undef, undef, undef, undef, undef, undef, undef, undef, undef, undef, undef, undef, undef, undef, undef, undef, undef, undef, undef, undef, undef, undef, undef, undef, undef, undef, undef, undef, undef, undef, undef, undef, undef, undef, undef, undef, undef, undef, undef, undef, undef, undef, undef, undef], defers := [] })
    ?rounds (fun i X hX => ⟨hX.2.2.2.2.2.1.cell 0, hX.2.2.2.2.2.2.1.cell 0, h.below hX.1⟩) ⟨hB0, b0, b1, b2, ⟨_, b4, by omega, rfl, .inr ⟨_, _, _, rfl, by omega, b3, Nat.le_refl _, by simp [maxLen], rfl, rfl⟩⟩, b5, b6, Nat.le_refl _⟩ ?done ?stop
  case rounds =>
    refine ⟨?_, ?_, ?_, fun i X h => h.2.2.2.2.2.2.2, ?_, ?_⟩
    · rintro i A A' h1 ha
      exact h1.adm ha (by omega)
    · rintro c i A A' h0 ha
      exact h0
    · rintro i a A A' ⟨h1, bx, by', h3, h4, h5, h6, h7⟩ ha
      exact ⟨h1.adm ha (by omega), bx, by', h3, h4, h5.adm ha, h6.adm ha, h7⟩
    · rintro lq i A hi h1 K hK
      obtain ⟨k, hk⟩ : ∃ k, i / (l.length - (s + 1)) = k := ⟨_, rfl⟩
      obtain ⟨m, hm⟩ : ∃ m, s + 1 + i % (l.length - (s + 1)) = m := ⟨_, rfl⟩
      simp only [hk, hm] at hK ⊢
      have hb1 : Below A.heap.size A ((A.alloc (.cells #[.int .i64 (nthS l k).a, .int .i64 (nthS l k).lo, .int .i64 (nthS l k).hi, .int .i64 k, .int .i64 (nthI hs k)] 85)).alloc (.cells #[.int .i64 (nthS l m).a, .int .i64 (nthS l m).lo, .int .i64 (nthS l m).hi, .int .i64 m, .int .i64 (nthI hs m)] 85)) := by exact bel_of
      have ha := Adm.below (B := w1.heap.size) hb1
      have h3 := h1.2.2.2.2.2.2.2
      have hK2 := hK _ _ ((Kept.refl _ _ _).below hb1)
        ⟨h1.adm ha (by omega), A.heap.size, A.heap.size + 1, h3, by omega, BK.alloc (BK.new _ _ _) _, BK.new' _ _ _ _ (by simp), rfl⟩
      have HK := Lib.hid hK2; clear hK2 hK h1
      unfold ptV
      gi_wp2_with fail
      exact HK.out
    · rintro lq i a' A hi hlq ⟨r, hr⟩ ⟨hOI, bx, by', hbx, hby, hP1, hP2, rfl⟩
      obtain ⟨hi1, hi2⟩ := pair_bounds hi
      obtain ⟨F, hF⟩ : ∃ F, pairOver l hs s own i = F := ⟨_, rfl⟩
      have hov := overs_succ l hs s own i
      have hol := overs_length l hs s own i
      rw [hF] at hov
      unfold pairOver at hF
      obtain ⟨k, hk⟩ : ∃ k, i / (l.length - (s + 1)) = k := ⟨_, rfl⟩
      obtain ⟨m, hm⟩ : ∃ m, s + 1 + i % (l.length - (s + 1)) = m := ⟨_, rfl⟩
      have hsm : s < m := by rw [← hm]; omega
      simp only [hk, hm] at hi1 hi2 hF hP1 hP2 ⊢
      clear hk hm
      obtain ⟨o1, c0, c1, c2, ⟨v, hv⟩, c3, c4, hN⟩ := hOI
      have y0 := c0.cell 0
      have y1 := c0.cell 1
      have y2 := c0.cell 2
      have y3 := c0.cell 3
      have y4 := c0.cell 4
      simp at y0 y1 y2 y3 y4
      have n0 := c2.cell 0
      have n1 := c2.cell 1
      simp at n0 n1
      have hv0 := hv.1.cell 0
      have hvf := hv.1.frozen 0
      simp at hv0
      obtain ⟨x1, x2, x3, x4, x5⟩ := hP1.cells
      obtain ⟨u1, u2, u3, u4, u5⟩ := hP2.cells
      have e1 := HA2.out k (by omega)
      have e2 := HA2.out s hs1
      have e3 := HA2.out m hi2
      have e4 := HH.out k (by omega)
      have e5 := HH.out m hi2
      have e6 := HA.out k s hi1 hs1
      have e7 := HA.out s m hsm hi2
      have q1 := mul_bd own ((nthS l m).a - (nthS l k).a) 1000 1000 (by omega) (by omega)
      have q2 := mul_bd (nthI hs k) ((nthS l m).a - (nthS l s).a) 1000 1000 (by omega) (by omega)
      have q3 := mul_bd (nthI hs m) ((nthS l s).a - (nthS l k).a) 1000 1000 (by omega) (by omega)
      simp only [Nat.reduceMul] at q1 q2 q3
      have hcl := c1.lt
      have hls : Calls Try.prog 75 #[.int .i64 (own * ((nthS l m).a - (nthS l k).a) - (nthI hs k * ((nthS l m).a - (nthS l s).a) + nthI hs m * ((nthS l s).a - (nthS l k).a))), .int .i64 ((nthS l m).a - (nthS l k).a)] A fun e w' => e = .returned (.agg #[.int .i64 F.num, .int .i64 F.den]) ∧ Below A.heap.size A w' := by
        rw [← hF]
        exact least_any _ _ _ (by omega) (by omega) (by omega) (by omega)
      have HLS := Lib.hid hls; clear hls hF
      have HOV := Lib.hid hov; clear hov
      gi_wp2_with fail
      refine ⟨trivial, CallsIn.mono (CallsIn.inRound lq (callsIn_wide.2 HLS.out)) ?_⟩
      rintro e w2 ⟨rfl, hb2⟩
      clear q1 q2 q3 e1 e3 e4 e5 e6 e7
      have hb2s := hb2.size
      have hAl := hv.1.lt
      have hc2l := c2.lt
      have hB3 : Below A.heap.size A (w2.alloc (.cells #[.int .i64 F.num, .int .i64 F.den] 25)) := by exact bel_of
      have n0' := (c2.below hb2 hc2l).cell 0
      have n1' := (c2.below hb2 hc2l).cell 1
      have v0' := (hv.1.below hb2 hAl).cell 0
      have hl2 : w.heap.size + 1 + 1 < w2.heap.size := by omega
      have hl4 : w.heap.size + 1 + 1 + 1 + 1 < w2.heap.size := by omega
      simp only [List.getElem?_toArray, List.getElem?_cons_zero, List.getElem?_cons_succ] at n0' n1' v0'
      obtain ⟨g', n', cap', w3, hrun, k1, k2, k3, hOne, hbel, hkp, hbk, hbase⟩ := one_grow (B0 := w1.heap.size) hv hB3 F (by simp; omega) (by omega) (by omega)
      have hR0 := BK.new' w2 #[.int .i64 F.num, .int .i64 F.den] 25 _ rfl
      have r0 := hR0.cell 0
      have r1 := hR0.cell 1
      simp only [List.getElem?_toArray, List.getElem?_cons_zero, List.getElem?_cons_succ] at r0 r1
      have hbkA := hbk; have HBK := Lib.hid hbkA; clear hbk hbkA
      obtain ⟨fn, fd⟩ := F
      by_cases hq : fn = 0 ∧ fd = 1
      · obtain ⟨rfl, rfl⟩ := hq
        have hOI2 := OI.adm (B := w1.heap.size) (L := ⟨0, 1⟩ :: overs l hs s own i) ⟨o1, c0, c1, c2, ⟨v, hv⟩, c3, c4, hN⟩ (Adm.below hB3) (by omega)
        have HOI2 := Lib.hid hOI2
        clear hOne hbel hkp hbase hrun k1 k2 k3 hOI2
        gi_wp2_with fail
        have hov := HOV.out
        simp only [if_true] at hov
        refine ⟨(Kept.refl _ _ _).below hB3, ?_⟩
        show OI w l s own p1 p2 vb _ w1.heap.size (⟨0, 1⟩ :: overs l hs s own (i + 1)) _
        rw [hov]; exact HOI2.out
      · have hcase : (fn = 0 ∧ (fd == 1) = false ∧ ¬ fd = 1) ∨ ((fn == 0) = false ∧ ¬ fn = 0) := by
          by_cases h0 : fn = 0
          · left; exact ⟨h0, by simpa using fun h1 => hq ⟨h0, h1⟩, fun h1 => hq ⟨h0, h1⟩⟩
          · right; exact ⟨by simpa using h0, h0⟩
        have HQ := Lib.hid hq; clear hq
        rw [World.size_alloc] at hrun
        have HRUN := Lib.hid hrun; clear hrun
        rcases hcase with ⟨rfl, hq1, hq2⟩ | ⟨hq1, hq2⟩
        all_goals gi_wp2_with (gi_at_builtin; refine wpListIn_append_run rfl (.tmp 61) (.tmp 63) 26 _ rfl HRUN.out ?_)
        all_goals
          have hov := HOV.out
          rw [if_neg (fun he => HQ.out (by cases he; simp))] at hov
          refine ⟨hkp, ?_⟩
          show OI w l s own p1 p2 vb _ w1.heap.size (⟨0, 1⟩ :: overs l hs s own (i + 1)) _
          rw [hov]
          exact ⟨hbel _ _ (by omega) o1, hbase _ _ _ c0 (by omega), hbase _ _ _ c1 (by omega), hbase _ _ _ c2 (by omega), hOne, (HBK.out _ _ _ c3 (by omega) (by decide)).2, (HBK.out _ _ _ c4 (by omega) (by decide)).2, by simp only [World.setCell, Array.size_modify]; omega⟩
  case stop => rintro D c i X hD hi hf; exact hf.elim
  case done =>
    rintro D X hD ⟨o1, c0, c1, c2, ⟨v, hv⟩, c3, c4, hN⟩ hK
    have hne : w.heap.size + 1 ≠ D := by rintro rfl; unfold BK at c1; rw [c1] at hK; cases hK
    have hv0 := hv.1.cell 0
    simp at hv0
    have hol := overs_length l hs s own (s * (l.length - (s + 1)))
    have hbst : Calls Try.prog 72 #[v, .func (.func 76) #[] #[]] X fun e w' => e = .returned (.agg #[.int .i64 (overR l hs s own).num, .int .i64 (overR l hs s own).den]) ∧ Below X.heap.size X w' :=
      best_any _ (fun y o => lessW o y) (enters_of Try.func76 (by kernel_rfl) rfl) (fun a b c d w => (more2_any a b c d w).mono (by rintro e w' ⟨rfl, rfl⟩; exact ⟨rfl, by exact bel_of⟩)) _ v X (by simp) (by simp; omega) (RS.of_own hv.2.2)
    have HB := Lib.hid hbst; clear hbst hv
    have hcl := c1.lt
    go_wp2_with fail
    refine HB.out.mono ?_
    rintro e w2 ⟨rfl, hb2⟩
    have d1 := c1.below hb2 hcl
    have hK2 := (hb2.block D (Array.getElem?_eq_some_iff.1 hK).1).trans hK
    have hbw := Below.trans o1 (hb2.mono o1.size)
    have z0 := d1.cell 0
    have z1 := d1.cell 1
    have f0 := d1.frozen 0
    have f1 := d1.frozen 1
    simp at z0 z1
    have hdl := d1.lt
    clear hb2 c0 c1 c2 c3 c4 hv0 hK o1
    go_wp2_with fail
    refine leave1_bk (w := w) (n := w.heap.size) (g := w.heap.size + 1) (((Below.heap_setCell _ _ _ _ (by exact Ne.symm hne)).trans (Below.heap_setCell _ _ _ _ (by exact Ne.symm hne))).trans hK2) (by simpa using (d1.set 0 (.int .i64 (overR l hs s own).num)).set 1 (.int .i64 (overR l hs s own).den)) hne (by exact bel_of) (by omega) (v := .agg #[.int .i64 (overR l hs s own).num, .int .i64 (overR l hs s own).den]) ?_ (fun W' hW => ⟨rfl, hW⟩)
    intro W' hb'
    have h0 := hb'.cell 0
    have h1 := hb'.cell 1
    simp at h0 h1
    simp [results, Try.results58, go_sem, h0, h1]
end Go.Proofs.Ytbjmkmambmeifaa

namespace Go.Proofs.Ytbjmkmambmeifaa
open Go.RowKit

def pairLine (l : List St) (hs : List Int) (s : Nat) (t : Nat) : Ra :=
  let i := t / (l.length - (s + 1)); let k := s + 1 + t % (l.length - (s + 1))
  frac (nthI hs i * ((nthS l k).a - (nthS l s).a) + nthI hs k * ((nthS l s).a - (nthS l i).a)) ((nthS l k).a - (nthS l i).a)
def leastT (l : List St) (hs : List Int) (s t : Nat) : Ra := bestF (fun y o => lessW y o) ((List.range t).map (pairLine l hs s))
/-- The least line at a station. -/
def leastR (l : List St) (hs : List Int) (s : Nat) : Ra := leastT l hs s (s * (l.length - (s + 1)))
theorem leastT_succ (l : List St) (hs : List Int) (s t : Nat) (h : 0 < t) : leastT l hs s (t + 1) = if lessW (pairLine l hs s t) (leastT l hs s t) then pairLine l hs s t else leastT l hs s t := by
  unfold leastT
  rw [List.range_succ, List.map_append, List.map_cons, List.map_nil, bestF_snoc]
  intro hx
  have : ((List.range t).map (pairLine l hs s)).length = 0 := by rw [hx]; rfl
  simp at this; omega
theorem leastT_one (l : List St) (hs : List Int) (s : Nat) : leastT l hs s 1 = pairLine l hs s 0 := rfl
theorem pairLine_at (l : List St) (hs : List Int) (s i k m : Nat) (hm : m = l.length - (s + 1)) (hk : s < k) (hk2 : k < l.length) :
    pairLine l hs s (i * m + (k - (s + 1))) = frac (nthI hs i * ((nthS l k).a - (nthS l s).a) + nthI hs k * ((nthS l s).a - (nthS l i).a)) ((nthS l k).a - (nthS l i).a) := by
  have hm0 : 0 < m := by omega
  have hlt : k - (s + 1) < m := by omega
  have e1 : (i * m + (k - (s + 1))) / m = i := by rw [Nat.add_comm, Nat.add_mul_div_right _ _ hm0, Nat.div_eq_of_lt hlt]; omega
  have e2 : (i * m + (k - (s + 1))) % m = k - (s + 1) := by rw [Nat.add_comm, Nat.add_mul_mod_self_right, Nat.mod_eq_of_lt hlt]
  unfold pairLine
  rw [← hm, e1, e2, show s + 1 + (k - (s + 1)) = k by omega]

set_option maxRecDepth 100000 in
set_option maxHeartbeats 4000000 in
theorem refLeast_any (l : List St) (hs : List Int) (s : Nat) (vl vh : Value) (w : World) (hl : l.length ≤ 25) (hs1 : s < l.length) (h : RSt w w.heap.size vl l) (h' : RI w w.heap.size vh hs) (hlen : hs.length = l.length)
    (ha : ∀ i j, i < j → j < l.length → (nthS l i).a < (nthS l j).a) (ha2 : ∀ i, i < l.length → 0 ≤ (nthS l i).a ∧ (nthS l i).a ≤ 1000) (hh : ∀ i, i < l.length → -1000 ≤ nthI hs i ∧ nthI hs i ≤ 1000) :
    Calls Try.prog 65 #[vl, vh, .int .i64 s] w fun e w' => e = .returned (.tuple #[.agg #[.int .i64 (leastR l hs s).num, .int .i64 (leastR l hs s).den], .bool (decide (0 < s * (l.length - (s + 1))))]) ∧ Below w.heap.size w w' := by
  obtain ⟨A, cap, b, off, rfl, hA, hc⟩ := h.cells
  obtain ⟨A', cap', b', off', rfl, hA', hc'⟩ := h'.cells
  obtain ⟨rfl, hb⟩ := hA (by omega)
  obtain ⟨rfl, hb'⟩ := hA' (by omega)
  clear hA'
  rw [hlen] at hc' ⊢
  clear hlen
  have HC := Lib.hid hc; have HC' := Lib.hid hc'; have HAt := Lib.hid ha; have HA2 := Lib.hid ha2; have HH := Lib.hid hh
  clear hc hc' hA h h' ha ha2 hh
  obtain ⟨m, hm⟩ : ∃ m, m = l.length - (s + 1) := ⟨_, rfl⟩
  unfold leastR
  rw [← hm]
  go_enter Try.func65, Try.ntmps65
  go_wp2_with fail
  go_loopw [9, 10] (fun fd iv wr => ∃ i : Nat, i ≤ s ∧ iv = .int .i64 i ∧ fd = .bool (decide (0 < i * m)) ∧ BK wr (w.heap.size + 1) #[.int .i64 (leastT l hs s (i * m)).num, .int .i64 (leastT l hs s (i * m)).den] 25 ∧
    BK wr w.heap.size #[.int .i64 0, .int .i64 0] 25 ∧ Below w.heap.size w wr) (fun _ i _ => s - (intOf i).toNat)
  case atStart => exact ⟨0, Nat.zero_le _, rfl, by simp, by rw [show leastT l hs s (0 * m) = ⟨0, 0⟩ by simp [leastT, bestF]]; exact BK.new' _ _ _ _ (by simp), BK.alloc (BK.new _ _ _) _, by exact bel_of⟩
  case round =>
    obtain ⟨i, hi, rfl, rfl, bo, b1, hbw⟩ := hrel
    have hsz := hbw.size
    have hol := bo.lt
    by_cases hlt : i < s
    · have d1 : decide ((i : Int) < (s : Int)) = true := by simpa using hlt
      go_wp2_with fail
      go_loopw [9, 11] (fun fd kv wr => ∃ k : Nat, s + 1 ≤ k ∧ k ≤ l.length ∧ kv = .int .i64 k ∧ fd = .bool (decide (0 < i * m + (k - (s + 1)))) ∧ BK wr (w.heap.size + 1) #[.int .i64 (leastT l hs s (i * m + (k - (s + 1)))).num, .int .i64 (leastT l hs s (i * m + (k - (s + 1)))).den] 25 ∧
        BK wr w.heap.size #[.int .i64 0, .int .i64 0] 25 ∧ Below w.heap.size w wr) (fun _ k _ => l.length - (intOf k).toNat)
      case atStart => exact ⟨s + 1, Nat.le_refl _, by omega, by go_num, by simp, by simpa using bo, b1, hbw⟩
      case round =>
        clear bo b1 hbw hsz hol
        obtain ⟨k, hk0, hk, rfl, rfl, bo, b1, hbw⟩ := hrel
        have hsz := hbw.size
        have hol := bo.lt
        by_cases hkl : k < l.length
        · have hci := HC.out i (by omega)
          have hcs := HC.out s hs1
          have hck := HC.out k hkl
          have hhi := HC'.out i (by omega)
          have hhk := HC'.out k hkl
          rw [← hbw.cell (by exact hb), ← hbw.cell (by exact hb), ← hbw.cell (by exact hb)] at hci hcs hck
          rw [← hbw.cell (by exact hb')] at hhi hhk
          obtain ⟨c0, _, _⟩ := hci
          obtain ⟨c3, _, _⟩ := hcs
          obtain ⟨c6, _, _⟩ := hck
          have hbr : b < wr.heap.size := by omega
          have hbr' : b' < wr.heap.size := by omega
          have q1 := HH.out i (by omega)
          have q2 := HH.out k hkl
          have q3 := HA2.out i (by omega)
          have q4 := HA2.out s hs1
          have q5 := HA2.out k hkl
          have q6 := HAt.out i s hlt hs1
          have q7 := HAt.out s k (by omega) hkl
          have e1 := mul_bd (nthI hs i) ((nthS l k).a - (nthS l s).a) 1000 1000 (by omega) (by omega)
          have e2 := mul_bd (nthI hs k) ((nthS l s).a - (nthS l i).a) 1000 1000 (by omega) (by omega)
          simp only [Nat.reduceMul] at e1 e2
          have hil : i < l.length := by omega
          have hF := fun W => fraction_any (nthI hs i * ((nthS l k).a - (nthS l s).a) + nthI hs k * ((nthS l s).a - (nthS l i).a)) ((nthS l k).a - (nthS l i).a) W (by omega) (by omega) (by omega) (by omega)
          have HF := Lib.hid hF; clear hF
          have HPL := Lib.hid (pairLine_at l hs s i k m hm (by omega) hkl)
          obtain ⟨t, ht⟩ : ∃ t, i * m + (k - (s + 1)) = t := ⟨_, rfl⟩
          have ht1 : i * m + (k + 1 - (s + 1)) = t + 1 := by omega
          rw [ht] at bo HPL ⊢
          clear ht
          go_upto_region 9 with fail
          go_cut [12] (fun p wx => ∃ g, p = .pointer (some ⟨g, 0, none⟩) ∧ BK wx g #[.int .i64 (frac (nthI hs i * ((nthS l k).a - (nthS l s).a) + nthI hs k * ((nthS l s).a - (nthS l i).a)) ((nthS l k).a - (nthS l i).a)).num, .int .i64 (frac (nthI hs i * ((nthS l k).a - (nthS l s).a) + nthI hs k * ((nthS l s).a - (nthS l i).a)) ((nthS l k).a - (nthS l i).a)).den] 25 ∧ wr.heap.size ≤ g ∧ Below wr.heap.size wr wx)
          case first =>
              refine plain_read 44 3 mixed (by kernel_rfl) rfl ?_
              simp only [List.take_succ_cons, List.take_zero]
              (repeat (first | (refine ⟨undef, .inr ⟨by rfl, rfl⟩, ?_⟩) | (refine ⟨?_, .inl ⟨by rfl, ?_⟩, ?_⟩; rotate_left; (intro X hX; obtain ⟨r1, r2⟩ := Below.rules hX; clear hX; go_simp; rfl))))
              refine any_run2 (i := 44) (j := 45) (by kernel_rfl) (by rfl) (by rfl) (by rfl) (by rfl) ?_ ?_
              · intro K hK
                go_wp2_with fail
                refine (HF.out _).mono ?_
                rintro e w1 ⟨rfl, hb1⟩
                refine hK _ _ (fun hx => (Bool.false_ne_true (hx.symm.trans (by kernel_rfl))).elim) ?_
                clear hK K
                have hbb : Below wr.heap.size wr w1 := Below.trans (b := wr.drew) (by exact bel_of) hb1
                have hbs := hbb.size
                clear hb1
                refine any_run1 (i := 45) (by kernel_rfl) (by rfl) (by rfl) ?_
                intro K hK
                go_wp2_with fail
                refine hK _ _ (fun hx => (by exact bel_of)) ?_
                clear hK K
                have b0 : BK (w1.alloc (.cells #[.int .i64 0, .int .i64 0] 25)) w1.heap.size #[.int .i64 0, .int .i64 0] 25 := BK.new _ _ _
                refine any_run1 (i := 46) (by kernel_rfl) (by rfl) (by rfl) ?_
                intro K hK
                go_wp2_with fail
                refine hK _ _ (fun hx => (Bool.false_ne_true (hx.symm.trans (by kernel_rfl))).elim) ?_
                clear hK K
                refine any_done (by kernel_rfl) (NoPanic.normal ?_)
                go_wp2_with fail
                go_meet
                exact ⟨_, rfl, BK.new _ _ _, by omega, by exact bel_of⟩
              · intro K hK
                go_wp2_with fail
                refine hK _ _ (fun hx => (by exact bel_of)) ?_
                clear hK K
                have b0 : BK (wr.drew.alloc (.cells #[.int .i64 0, .int .i64 0] 25)) wr.heap.size #[.int .i64 0, .int .i64 0] 25 := BK.new' _ _ _ _ rfl
                refine any_run1 (i := 44) (by kernel_rfl) (by rfl) (by rfl) ?_
                intro K hK
                go_wp2_with fail
                refine (HF.out _).mono ?_
                rintro e w1 ⟨rfl, hb1⟩
                refine hK _ _ (fun hx => (Bool.false_ne_true (hx.symm.trans (by kernel_rfl))).elim) ?_
                clear hK K
                have b1 := b0.below hb1 b0.lt
                have hbb : Below wr.heap.size wr w1 := Below.trans (b := wr.drew.alloc (.cells #[.int .i64 0, .int .i64 0] 25)) (by exact bel_of) (hb1.mono (by simp))
                have hbs := hb1.size
                simp at hbs
                clear b0 hb1
                have y0 := b1.cell 0
                have y1 := b1.cell 1
                have f0 := b1.frozen 0
                have f1 := b1.frozen 1
                simp at y0 y1
                refine any_run1 (i := 46) (by kernel_rfl) (by rfl) (by rfl) ?_
                intro K hK
                go_wp2_with fail
                refine hK _ _ (fun hx => (Bool.false_ne_true (hx.symm.trans (by kernel_rfl))).elim) ?_
                clear hK K
                refine any_done (by kernel_rfl) (NoPanic.normal ?_)
                go_wp2_with fail
                go_meet
                exact ⟨_, rfl, by simpa using (b1.set 0 (.int .i64 (frac (nthI hs i * ((nthS l k).a - (nthS l s).a) + nthI hs k * ((nthS l s).a - (nthS l i).a)) ((nthS l k).a - (nthS l i).a)).num)).set 1 (.int .i64 (frac (nthI hs i * ((nthS l k).a - (nthS l s).a) + nthI hs k * ((nthS l s).a - (nthS l i).a)) ((nthS l k).a - (nthS l i).a)).den), by omega, by exact bel_of⟩
          case rest =>
            obtain ⟨g, rfl, bg, hg, hbx⟩ := hcut
            have bo' := bo.below hbx hol
            have b1' := b1.below hbx (by omega)
            have hbx2 : Below w.heap.size w wc := hbw.trans (hbx.mono hsz)
            have hxs := hbx.size
            clear bo b1 hbx HF
            rw [← HPL.out] at bg
            have hone := leastT_one l hs s
            have hsucc := leastT_succ l hs s t
            obtain ⟨F, hFe⟩ : ∃ F, pairLine l hs s t = F := ⟨_, rfl⟩
            have hF0 : t = 0 → pairLine l hs s 0 = F := by rintro rfl; exact hFe
            obtain ⟨L, hL⟩ : ∃ L, leastT l hs s t = L := ⟨_, rfl⟩
            rw [hFe] at bg hsucc
            rw [hL] at bo' hsucc
            clear hFe hL HPL
            have x0 := bg.cell 0
            have x1 := bg.cell 1
            have y0 := bo'.cell 0
            have y1 := bo'.cell 1
            have f0 := bo'.frozen 0
            have f1 := bo'.frozen 1
            have hgl := bg.lt
            have hol2 : w.heap.size + 1 < wc.heap.size := by omega
            have hol3 : w.heap.size < wc.heap.size := by omega
            have hol4 : w.heap.size + 1 < wc.heap.size + 1 := by omega
            have hne : g ≠ w.heap.size + 1 := by omega
            simp at x0 x1 y0 y1
            by_cases ht0 : t = 0
            · have hr : leastT l hs s (t + 1) = F := by rw [ht0]; rw [hone]; exact hF0 ht0
              have HR := Lib.hid hr
              clear hr hone hsucc hF0
              have dt : decide (0 < t) = false := by simp [ht0]
              go_wp2_with fail
              go_roundw
              case rel => exact ⟨k + 1, by omega, by omega, by go_num, by rw [ht1]; simp, by rw [ht1, HR.out]; simpa using (bo'.set 0 (.int .i64 F.num)).set 1 (.int .i64 F.den), by (repeat (first | assumption | (refine BK.alloc ?_ _) | (refine BK.drew ?_) | (refine BK.drewN ?_ _) | (refine BK.far ?_ (by first | omega | (simp; omega) | (simp; done)) _))), by exact bel_of⟩
              case measure => simp [intOf]; omega
            · have ht2 : 0 < t := by omega
              have dt : decide (0 < t) = true := by simpa using ht2
              have hsucc := hsucc ht2
              obtain ⟨q, hq⟩ : ∃ q, lessW ⟨F.num, F.den⟩ ⟨L.num, L.den⟩ = q := ⟨_, rfl⟩
              have hr : leastT l hs s (t + 1) = if q then F else L := by rw [hsucc, ← hq]
              have HR := Lib.hid hr
              clear hr hone hsucc hF0
              go_wp2_with fail
              refine (refLess_any _ _ _ _ _).mono ?_
              rintro e w2 ⟨rfl, rfl⟩
              rw [hq]
              cases q with
              | true =>
                go_wp2_with fail
                go_roundw
                case rel => exact ⟨k + 1, by omega, by omega, by go_num, by rw [ht1]; simp, by rw [ht1, HR.out]; simpa using (((bo'.set 0 (.int .i64 F.num)).set 1 (.int .i64 F.den)).alloc _).alloc _, by (repeat (first | assumption | (refine BK.alloc ?_ _) | (refine BK.drew ?_) | (refine BK.drewN ?_ _) | (refine BK.far ?_ (by first | omega | (simp; omega) | (simp; done)) _))), by exact bel_of⟩
                case measure => simp [intOf]; omega
              | false =>
                go_wp2_with fail
                go_roundw
                case rel => exact ⟨k + 1, by omega, by omega, by go_num, by rw [ht1]; simp, by rw [ht1, HR.out]; simpa using (bo'.alloc _).alloc _, by (repeat (first | assumption | (refine BK.alloc ?_ _) | (refine BK.drew ?_) | (refine BK.drewN ?_ _) | (refine BK.far ?_ (by first | omega | (simp; omega) | (simp; done)) _))), by exact bel_of⟩
                case measure => simp [intOf]; omega
        · have hke : i * m + (k - (s + 1)) = (i + 1) * m := by rw [Nat.add_mul]; omega
          rw [hke] at bo ⊢
          clear hke
          go_wp2_with fail
          go_roundw
          case rel => exact ⟨i + 1, by omega, by go_num, rfl, bo, b1, hbw⟩
          case measure => simp [intOf]; omega
    · have d1 : decide ((i : Int) < (s : Int)) = false := by simp; omega
      have hie : i = s := by omega
      subst hie
      have y0 := bo.cell 0
      have y1 := bo.cell 1
      have z0 := b1.cell 0
      have z1 := b1.cell 1
      have f0 := b1.frozen 0
      have f1 := b1.frozen 1
      simp at y0 y1 z0 z1
      obtain ⟨L, hL⟩ : ∃ L, leastT l hs i (i * m) = L := ⟨_, rfl⟩
      rw [hL] at bo y0 y1
      go_wp2_with fail
      have b5 := (b1.set 0 (.int .i64 L.num)).set 1 (.int .i64 L.den)
      simp at b5
      refine ret_bk (w := w) (n := w.heap.size) b5 (by exact bel_of) (v := .tuple #[.agg #[.int .i64 L.num, .int .i64 L.den], .bool (decide (0 < i * m))]) ?_ ?_
      · intro W' hb'
        have z0 := hb'.cell 0
        have z1 := hb'.cell 1
        simp at z0 z1
        simp [results, Try.results65, go_sem, z0, z1]
      exact ⟨by rw [hL], by exact bel_of⟩
end Go.Proofs.Ytbjmkmambmeifaa
