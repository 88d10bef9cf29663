/- meet and borne: in which range strains can be. -/
import Derived.Test.YtgbegdjakadbbaaP18
set_option linter.all false
set_option linter.unnecessarySimpa false
set_option linter.unusedSimpArgs false
set_option linter.unusedVariables false
set_option linter.unusedSectionVars false

set_option linter.all false
attribute [local go_sem] Go.Oper.semAt_some
namespace Go.Proofs.Ytgbegdjakadbbaa
open Go.RowKit Vp

set_option maxHeartbeats 8000000 in
set_option maxRecDepth 100000 in
theorem meet_any (a b : Rg) (w : World) : Calls Try.prog 84 #[.agg #[.int .i64 a.lo, .int .i64 a.hi], .agg #[.int .i64 b.lo, .int .i64 b.hi]] w fun e w' => e = .returned (.agg #[.int .i64 (meet a b).lo, .int .i64 (meet a b).hi]) ∧ Below w.heap.size w w' := by
  obtain ⟨n, hn⟩ : ∃ n, w.heap.size = n := ⟨_, rfl⟩
  have h1 : (if a.lo < b.lo then b.lo else a.lo) = max a.lo b.lo := by omega
  have h2 : (if b.hi < a.hi then b.hi else a.hi) = min a.hi b.hi := by omega
  unfold meet
  show Calls _ _ _ _ fun e w' => e = .returned (.agg #[.int .i64 (max a.lo b.lo), .int .i64 (min a.hi b.hi)]) ∧ _
  generalize max a.lo b.lo = x at *
  generalize min a.hi b.hi = y at *
  go_enter Try.func84, Try.ntmps84
  go_wp2_with fail
  refine bodyPost_ret (v := .agg #[.int .i64 x, .int .i64 y]) (by simp [results, Try.results84, go_sem, *]) rfl ⟨rfl, by exact bel_of⟩

set_option maxHeartbeats 8000000 in
set_option maxRecDepth 100000 in
theorem borne_any (B g : Nat) (l : List St) (m : Int) (k : Nat) (d : Int) (w : World) (hB : Bn w B g l m) (ho : ∀ s ∈ l, okSB s = true) (hm : 0 ≤ m ∧ m ≤ 200) (hk : k < l.length) (hBs : B ≤ w.heap.size) (hn : l.length ≤ 20) :
    Calls Try.prog 85 #[.pointer (some ⟨g, 0, none⟩), .int .i64 k, .int .i64 d] w fun e w' => e = .returned (.agg #[.int .i64 (born (nthS l k) m d).lo, .int .i64 (born (nthS l k) m d).hi]) ∧ Below w.heap.size w w' := by
  obtain ⟨vs, vt, b, _, hT, _⟩ := hB
  obtain ⟨A, cap, bb, off, rfl, hA, hc⟩ := RT.cells hT
  obtain ⟨rfl, hbb⟩ := hA (by omega)
  obtain ⟨-, -, -, d3⟩ := hc k hk
  have hos := okS_at ho hk
  have hk' : (k : Int) < (l.length : Int) := by omega
  have lb := b.lt
  have c0 := b.cell 0
  have c1 := b.cell 1
  simp at c0 c1
  generalize nthS l k = s at *
  have wd : IntKind.i64.wrap (-m) = -m := by rw [IntKind.wrap_i64]; omega
  have wh : IntKind.i64.wrap (-s.hard) = -s.hard := by rw [IntKind.wrap_i64]; omega
  obtain ⟨n, hn2⟩ : ∃ n, w.heap.size = n := ⟨_, rfl⟩
  rw [hn2] at lb
  have hbn : bb < n := by rw [← hn2]; omega
  clear hos ho hT hA hc b
  obtain ⟨q1, hq1⟩ : ∃ q, decide (0 < d) = q := ⟨_, rfl⟩
  obtain ⟨q2, hq2⟩ : ∃ q, decide (d < 0) = q := ⟨_, rfl⟩
  obtain ⟨q3, hq3⟩ : ∃ q, (d == m) = q := ⟨_, rfl⟩
  obtain ⟨q4, hq4⟩ : ∃ q, (d == -m) = q := ⟨_, rfl⟩
  have HBO := Lib.hid (show (born s m d).lo = (if q4 = true then -9 else if q1 = true then s.hard else -s.hard) ∧ (born s m d).hi = (if q3 = true then 9 else if q2 = true then -s.hard else s.hard) by
    rw [← hq1, ← hq2, ← hq3, ← hq4]; simp [born])
  go_enter Try.func85, Try.ntmps85
  cases q1 <;> cases q2 <;> cases q3 <;> cases q4 <;> (go_wp2_with fail; refine bodyPost_ret (v := .agg #[.int .i64 (born s m d).lo, .int .i64 (born s m d).hi]) (by rw [HBO.out.1, HBO.out.2]; simp [results, Try.results85, go_sem, *]) rfl ⟨rfl, by exact bel_of⟩)
end Go.Proofs.Ytgbegdjakadbbaa
