/- Ranging over a function whose values lie in memory that it makes. Plain: how the recipes of a range are counted, way by way. -/
import Derived.Test.YtkibdciomheekaaP20
import Derived.Test.YtkibdciomheekaaP3
set_option linter.all false
set_option linter.unnecessarySimpa false
set_option linter.unusedSimpArgs false
set_option linter.unusedVariables false
set_option linter.unusedSectionVars false

set_option linter.all false
namespace Go.Proofs.Ytkibdciomheekaa
open Go.RowKit

/-- The iterator gf, its captured values lb: N rounds, the i-th one with values that En says; what it reads is R, which the rounds keep. -/
def IterE (P : Program) (gf : Nat) (lb : Array Value) (En : Nat → Array Value → World → Prop) (N : Nat) (R : World → Prop) (T : TypeId → Prop) : Prop :=
  ∀ (l : Nat) (J Jx : Nat → World → Prop) (W : World), (∀ i, Stab W.heap.size (J i)) → (∀ i, Stab W.heap.size (Jx i)) → (∀ i W1, J i W1 → R W1 ∧ W.heap.size ≤ W1.heap.size) →
    (∀ i W1 m args, i < N → J i W1 → En i args W1 → YieldAt Fence.wide m P l args W1 fun e W' => (e = .returned (.bool true) ∧ J (i + 1) W' ∧ Kept T W.heap.size W1 W') ∨ (e = .returned (.bool false) ∧ Jx i W' ∧ Kept T W.heap.size W1 W')) →
    J 0 W → Calls P gf (#[.func (.yield l) #[] #[]] ++ lb) W fun e W' => (∃ v, e = .returned v) ∧ (J N W' ∨ ∃ i, i < N ∧ Jx i W')

/-- What a caller owes: the assignment to the loop's left sides, and the body, each walked once in a round's frame. -/
structure RoundsE (P : Program) (T : TypeId → Prop) (B : Nat) (tmps : Array Value) (ps : Array Tmp) (assign body : Code) (En : Nat → Array Value → World → Prop) (N : Nat) (I : Nat → World → Prop) (Ix : Code → Nat → World → Prop) (Ax : Nat → Act → World → Prop) : Prop where
  stab : ∀ i, Stab B (I i)
  stabx : ∀ c i, Stab B (Ix c i)
  staba : ∀ i a, Stab B (Ax i a)
  size : ∀ i W, I i W → B ≤ W.heap.size
  assign : ∀ (l i : Nat) (args : Array Value) (W : World), i < N → I i W → En i args W → ∀ K : Act → World → Prop, (∀ a' Wa, Kept T B W Wa → Ax i a' Wa → K a' Wa) → assign.wpIn (Fence.wide.inRound l) 98 P (Exit.then K (fun _ _ _ => False))
    { tmps := (ps.zip args).foldl (fun t (p, v) => t.setIfInBounds p v) tmps, defers := [] } W
  body : ∀ (l i : Nat) (a' : Act) (W : World), i < N → B ≤ l → (∃ r, W.heap[l]? = some (.loop r)) → Ax i a' W → body.wpIn (Fence.wide.inRound l) 98 P (roundEnd T B I Ix i W) a' W

theorem yield_roundE {P : Program} {T : TypeId → Prop} {B : Nat} {tmps : Array Value} {ps : Array Tmp} {assign body : Code} {En : Nat → Array Value → World → Prop} {N : Nat} {I : Nat → World → Prop} {Ix : Code → Nat → World → Prop} {Ax : Nat → Act → World → Prop}
    (hr : RoundsE P T B tmps ps assign body En N I Ix Ax) (fn : FuncId) (D L : Nat) (hD : B ≤ L)
    (rec : LoopState → Option Code → Loop) (hrec : rec = fun st pe => { state := st, pending := pe, fn, tmps, params := ps, assign, body, defers := D })
    (i : Nat) (hi : i < N) (args : Array Value) (hsz : args.size = ps.size) (W : World) (hI : I i W) (hEn : En i args W) (hl : W.heap[L]? = some (.loop (rec .ready none))) (m : Nat) :
    YieldAt Fence.wide m P L args W fun e W' => (e = .returned (.bool true) ∧ (I (i + 1) W' ∧ W'.heap[L]? = some (.loop (rec .ready none))) ∧ Kept T (L + 1) W W' ∧ (∀ k o, B ≤ k → k ≠ L → W.heap[k]? = some o → o.isCells = false → W'.heap[k]? = some o)) ∨
      (e = .returned (.bool false) ∧ (∃ c, Ix c i W' ∧ W'.heap[L]? = some (.loop (rec .done (some c)))) ∧ Kept T (L + 1) W W' ∧ (∀ k o, B ≤ k → k ≠ L → W.heap[k]? = some o → o.isCells = false → W'.heap[k]? = some o)) := by
  have hy := run_yield (P := P) (args := args) hl (by rw [hrec]; exact hsz)
  rw [hrec] at hy
  refine ⟨fn, _, assign, body, hy, RoundIn.any (m := 98) (roundIn_of_wpIn trivial (wpIn_mono (hr.assign L i args W hi hI hEn (fun a' Wa => Kept T B W Wa ∧ Ax i a' Wa) (fun _ _ h1 h2 => ⟨h1, h2⟩)) ?_))⟩
  rintro e a' Wa hp
  cases e with
  | normal =>
    obtain ⟨hk, ha⟩ := hp
    have hla := hk.same hD hl rfl
    have hlt := (Array.getElem?_eq_some_iff.1 hla).1
    refine ⟨_, run_beginRound hla (by rw [hrec]), ?_⟩
    have hl2 : (Wa.putObj L (.loop { rec .ready none with state := .busy })).heap[L]? = some (.loop { rec .ready none with state := .busy }) := World.putObj_heap_same hlt
    refine wpIn_mono (hr.body L i a' _ hi hD ⟨_, hl2⟩ (hr.staba i a' _ _ ha (Adm.put _ hD hla rfl))) ?_
    have fin : ∀ (jump : Option Code) (W3 : World), Kept T B (Wa.putObj L (.loop { rec .ready none with state := .busy })) W3 →
        (Instr.endRound L jump).run P W3 = .ok (.bool jump.isNone) (W3.putObj L (.loop (rec (if jump.isNone then .ready else .done) jump))) ∧
        W3.heap[L]? = some (.loop { rec .ready none with state := .busy }) ∧
        (W3.putObj L (.loop (rec (if jump.isNone then .ready else .done) jump))).heap[L]? = some (.loop (rec (if jump.isNone then .ready else .done) jump)) ∧
        (Kept T (L + 1) W (W3.putObj L (.loop (rec (if jump.isNone then .ready else .done) jump))) ∧ (∀ k o, B ≤ k → k ≠ L → W.heap[k]? = some o → o.isCells = false → (W3.putObj L (.loop (rec (if jump.isNone then .ready else .done) jump))).heap[k]? = some o)) := fun jump W3 hk3 => by
      have hl3 := hk3.same hD hl2 rfl
      have := run_endRound (P := P) jump hl3
      rw [hrec] at this ⊢
      exact ⟨this, by rw [hrec] at hl3; exact hl3, World.putObj_heap_same (Array.getElem?_eq_some_iff.1 hl3).1, (((hk.more (by omega)).put (by omega) _).trans (hk3.more (by omega))).put (by omega) _, fun k o hb hne hk0 ho => by
        rw [World.putObj_heap_other hne]; exact hk3.same hb (by rw [World.putObj_heap_other hne]; exact hk.same hb hk0 ho) ho⟩
    rintro e a3 W3 hp
    cases e with
    | normal =>
      obtain ⟨hk3, hi3⟩ := hp
      obtain ⟨hr', hl3, hl4, hx4⟩ := fin none W3 hk3
      exact ⟨_, _, hr', .inl ⟨rfl, ⟨hr.stab _ _ _ hi3 (Adm.put _ hD hl3 rfl), hl4⟩, hx4⟩⟩
    | ret =>
      obtain ⟨hk3, hi3⟩ := hp
      obtain ⟨hr', hl3, hl4, hx4⟩ := fin (some .ret) W3 hk3
      exact ⟨_, _, hr', .inr ⟨rfl, ⟨.ret, hr.stabx _ _ _ _ hi3 (Adm.put _ hD hl3 rfl), hl4⟩, hx4⟩⟩
    | exit id =>
      obtain ⟨hk3, hi3⟩ := hp
      obtain ⟨hr', hl3, hl4, hx4⟩ := fin (some (.exit id)) W3 hk3
      exact ⟨_, _, hr', .inr ⟨rfl, ⟨.exit id, hr.stabx _ _ _ _ hi3 (Adm.put _ hD hl3 rfl), hl4⟩, hx4⟩⟩
    | goto t =>
      obtain ⟨hk3, hi3⟩ := hp
      obtain ⟨hr', hl3, hl4, hx4⟩ := fin (some (.goto t)) W3 hk3
      exact ⟨_, _, hr', .inr ⟨rfl, ⟨.goto t, hr.stabx _ _ _ _ hi3 (Adm.put _ hD hl3 rfl), hl4⟩, hx4⟩⟩
    | panic ch => exact hp.elim
    | outgrown => exact hp.elim
  | exit id => exact hp.elim
  | goto t => exact hp.elim
  | ret => exact hp.elim
  | panic ch => exact hp.elim
  | outgrown => exact hp.elim

/-- The statement, outside a round. -/
theorem wp_rangeE {P : Program} {g : Operand} {ps : Array Tmp} {assign body : Code} {Q : Exit → Act → World → Prop} {a : Act} {w : World}
    {gf : Nat} {lb : Array Value} (hg : a.eval g = .func (.func gf) #[] lb) (eg : ∀ args w, (callFunc gf args).run P w = .ok (.enter gf args) w)
    {En : Nat → Array Value → World → Prop} {N : Nat} {R : World → Prop} {T : TypeId → Prop} (hit : IterE P gf lb En N R T) (hps : ∀ i args W, En i args W → args.size = ps.size)
    (I : Nat → World → Prop) (Ix : Code → Nat → World → Prop) (Ax : Nat → Act → World → Prop) (hr : RoundsE P T w.heap.size a.tmps ps assign body En N I Ix Ax) (hR : ∀ i W, I i W → R W) (h0 : I 0 w)
    (hdone : ∀ (D : Nat) (W : World), w.heap.size ≤ D → I N W → W.heap[D]? = some (.deferred (some [])) → Q .normal { a with defers := { target := .collected D, args := #[] } :: a.defers } W)
    (hstop : ∀ (D : Nat) (c : Code) (i : Nat) (W : World), w.heap.size ≤ D → i < N → Ix c i W → W.heap[D]? = some (.deferred (some [])) → c.wp P Q { a with defers := { target := .collected D, args := #[] } :: a.defers } W) :
    (Code.rangeFunc g ps assign body).wp P Q a w := by
  refine (wpIn_wide (n := 100)).1 (wpIn_rangeFunc ?_)
  intro fn _
  obtain ⟨rec, hrec⟩ : ∃ rec : LoopState → Option Code → Loop, rec = fun st pe => { state := st, pending := pe, fn, tmps := a.tmps, params := ps, assign, body, defers := w.heap.size } := ⟨_, rfl⟩
  obtain ⟨W1, hW1⟩ : ∃ W1, (w.alloc (.deferred (some []))).alloc (.loop (rec .ready none)) = W1 := ⟨_, rfl⟩
  have hL1 : W1.heap[w.heap.size + 1]? = some (.loop (rec .ready none)) := by
    rw [← hW1]; have := World.alloc_heap_new (w.alloc (.deferred (some []))) (.loop (rec .ready none)); rwa [World.size_alloc] at this
  have hK1 : W1.heap[w.heap.size]? = some (.deferred (some [])) := by
    rw [← hW1]; exact (Below.heap_alloc _ _ _ (by simp)).trans (World.alloc_heap_new w _)
  have hI1 : I 0 W1 := by rw [← hW1]; exact hr.stab 0 _ _ (hr.stab 0 _ _ h0 (Adm.alloc _ _ _)) (Adm.alloc _ _ _)
  have hS1 : W1.heap.size = w.heap.size + 2 := by rw [← hW1]; simp
  refine ⟨w.heap.size + 1, [{ target := .collected w.heap.size, args := #[] }], W1, { target := .fn (.func gf) lb, args := #[.func (.yield (w.heap.size + 1)) #[] #[]] }, W1, gf,
    #[.func (.yield (w.heap.size + 1)) #[] #[]] ++ lb, W1, ?_, ?_, ?_, ?_, (fun h => by cases h), ?_⟩
  · rw [← hW1, hrec]; exact run_enterLoop_outer _ _ _ _ _
  · simp only [resolve, hg]; simp [go_sem]
  · intro f' _; trivial
  · simp [invoke, go_sem, eg]
  · refine callsIn_wide.2 ((hit (w.heap.size + 1)
      (fun i W => I i W ∧ W.heap[w.heap.size + 1]? = some (.loop (rec .ready none)) ∧ W.heap[w.heap.size]? = some (.deferred (some [])) ∧ W1.heap.size ≤ W.heap.size)
      (fun i W => ∃ c, Ix c i W ∧ W.heap[w.heap.size + 1]? = some (.loop (rec .done (some c))) ∧ W.heap[w.heap.size]? = some (.deferred (some [])) ∧ W1.heap.size ≤ W.heap.size)
      W1 ?_ ?_ (fun i W h => ⟨hR i W h.1, h.2.2.2⟩) ?_ ⟨hI1, hL1, hK1, Nat.le_refl _⟩).mono ?_)
    · rintro i A A' ⟨h1, h2, h3, h4⟩ ha
      exact ⟨hr.stab i _ _ h1 (ha.more (by omega)), ha.obj h2 (by omega), ha.obj h3 (by omega), Nat.le_trans h4 ha.size⟩
    · rintro i A A' ⟨c, h1, h2, h3, h4⟩ ha
      exact ⟨c, hr.stabx c i _ _ h1 (ha.more (by omega)), ha.obj h2 (by omega), ha.obj h3 (by omega), Nat.le_trans h4 ha.size⟩
    · rintro i W m args hi ⟨hI, hl, hk, hz⟩ hEn
      refine (yield_roundE hr fn w.heap.size (w.heap.size + 1) (by omega) rec hrec i hi args (hps i args W hEn) W hI hEn hl m).mono ?_
      rintro e W' (⟨rfl, ⟨a1, a2⟩, a3, a4⟩ | ⟨rfl, ⟨c, a1, a2⟩, a3, a4⟩)
      · exact .inl ⟨rfl, ⟨a1, a2, a4 _ _ (Nat.le_refl _) (by omega) hk rfl, Nat.le_trans hz a3.1⟩, a3.more (by omega)⟩
      · exact .inr ⟨rfl, ⟨c, a1, a2, a4 _ _ (Nat.le_refl _) (by omega) hk rfl, Nat.le_trans hz a3.1⟩, a3.more (by omega)⟩
    · rintro e W2 ⟨⟨v, rfl⟩, (⟨hi, hl, hk, _⟩ | ⟨i, hin, c, hi, hl, hk, _⟩)⟩
      · exact ⟨none, _, by have := run_endLoop (P := P) hl (by rw [hrec]; simp); rw [hrec] at this; exact this, hdone _ _ (Nat.le_refl _) (hr.stab _ _ _ hi (Adm.put _ (by omega) hl rfl)) ((World.putObj_heap_other (by omega)).trans hk)⟩
      · exact ⟨some c, _, by have := run_endLoop (P := P) hl (by rw [hrec]; simp); rw [hrec] at this; exact this,
          wpIn_wide.2 (hstop _ c i _ (Nat.le_refl _) hin (hr.stabx _ _ _ _ hi (Adm.put _ (by omega) hl rfl)) ((World.putObj_heap_other (by omega)).trans hk))⟩

end Go.Proofs.Ytkibdciomheekaa

namespace Hp
/-- The recipes by the first ways of a step. -/
def folK (m : Rg) (ss : List Stp) (s : Stp) (r : Rg) (k : Nat) : List (List Nat) := (List.range k).flatMap fun k => (follow m ss (via (nthW s k) r)).map (k :: ·)
theorem folK_zero (m : Rg) (ss : List Stp) (s : Stp) (r : Rg) : folK m ss s r 0 = [] := rfl
theorem folK_succ (m : Rg) (ss : List Stp) (s : Stp) (r : Rg) (k : Nat) : folK m ss s r (k + 1) = folK m ss s r k ++ (follow m ss (via (nthW s k) r)).map (k :: ·) := by
  unfold folK
  rw [List.range_succ, List.flatMap_append]
  simp
theorem folK_all (m : Rg) (ss : List Stp) (s : Stp) (r : Rg) : folK m ss s r s.length = follow m (s :: ss) r := (follow_cons m s ss r).symm
theorem folK_le (m : Rg) (ss : List Stp) (s : Stp) (r : Rg) {k : Nat} (h : k ≤ s.length) : ∃ l, follow m (s :: ss) r = folK m ss s r k ++ l := by
  rw [← folK_all]
  obtain ⟨n, hn⟩ : ∃ n, s.length = k + n := ⟨s.length - k, by omega⟩
  rw [hn]
  clear hn h
  induction n with
  | zero => exact ⟨[], by simp⟩
  | succ n ih =>
    obtain ⟨l, hl⟩ := ih
    exact ⟨l ++ (follow m ss (via (nthW s (k + n)) r)).map ((k + n) :: ·), by rw [← Nat.add_assoc, folK_succ, hl, List.append_assoc]⟩
/-- The recipe at a place. -/
theorem folK_at (m : Rg) (ss : List Stp) (s : Stp) (r : Rg) {k t : Nat} {ks : List Nat} (hk : k < s.length) (h : (follow m ss (via (nthW s k) r))[t]? = some ks) : (follow m (s :: ss) r)[(folK m ss s r k).length + t]? = some (k :: ks) := by
  obtain ⟨l, hl⟩ := folK_le m ss s r (k := k + 1) (by omega)
  have ht : t < (follow m ss (via (nthW s k) r)).length := (List.getElem?_eq_some_iff.1 h).1
  rw [hl, folK_succ, List.append_assoc, List.getElem?_append_right (by omega), Nat.add_sub_cancel_left, List.getElem?_append_left (by simpa using ht), List.getElem?_map, h]
  rfl
/-- Nothing follows just if the row behind does not meet the range. -/
theorem meets_follow {m : Rg} (hm : OkR m) {ss : List Stp} (ok : OkS ss) {r : Rg} (hr : OkR r) : mtR (rearF m ss) r = true ↔ follow m ss r ≠ [] := by
  rw [← rear_follow hm.1 ok hr, mtR_iff]
  have h2 := hr.2
  constructor
  · rintro ⟨h, h1, h3, h4⟩
    exact ⟨h, h3, (rear_row hm ok h1).2 h4⟩
  · rintro ⟨h, h3, h4⟩
    have h5 := inR_iff.1 h3
    obtain ⟨h', rfl⟩ : ∃ h' : Nat, h = h' := ⟨h.toNat, by omega⟩
    exact ⟨h', by omega, h3, (rear_row hm ok (by omega)).1 h4⟩
theorem follow_one {m r : Rg} (h : follow m [] r ≠ []) : follow m [] r = [[]] := by
  rw [follow_nil] at h ⊢
  split
  · rfl
  · rename_i h2; rw [if_neg h2] at h; exact absurd rfl h
/-- All recipes that can have made it, in the program's order. -/
def mkL (bars : List Rg) (m : Rg) (ss : List Stp) : List (List Int) := (makers bars ss m).map fun r => Int.ofNat r.1 :: r.2.map Int.ofNat
def mkK (bars : List Rg) (m : Rg) (ss : List Stp) (b : Nat) : List (List Int) := ((List.range b).flatMap fun b => (follow m ss (nthB bars b)).map fun ks => (b, ks)).map fun r : Nat × List Nat => Int.ofNat r.1 :: r.2.map Int.ofNat
theorem mkK_zero (bars : List Rg) (m : Rg) (ss : List Stp) : mkK bars m ss 0 = [] := rfl
theorem mkK_succ (bars : List Rg) (m : Rg) (ss : List Stp) (b : Nat) : mkK bars m ss (b + 1) = mkK bars m ss b ++ (follow m ss (nthB bars b)).map fun ks => Int.ofNat b :: ks.map Int.ofNat := by
  unfold mkK
  rw [List.range_succ, List.flatMap_append, List.map_append]
  simp
theorem mkK_all (bars : List Rg) (m : Rg) (ss : List Stp) : mkK bars m ss bars.length = mkL bars m ss := by
  unfold mkK mkL
  rw [makers_eq]
theorem mkK_le (bars : List Rg) (m : Rg) (ss : List Stp) {b : Nat} (h : b ≤ bars.length) : ∃ l, mkL bars m ss = mkK bars m ss b ++ l := by
  rw [← mkK_all]
  obtain ⟨n, hn⟩ : ∃ n, bars.length = b + n := ⟨bars.length - b, by omega⟩
  rw [hn]
  clear hn h
  induction n with
  | zero => exact ⟨[], by simp⟩
  | succ n ih =>
    obtain ⟨l, hl⟩ := ih
    exact ⟨l ++ (follow m ss (nthB bars (b + n))).map fun ks => Int.ofNat (b + n) :: ks.map Int.ofNat, by rw [← Nat.add_assoc, mkK_succ, hl, List.append_assoc]⟩
theorem mkK_at (bars : List Rg) (m : Rg) (ss : List Stp) {b t : Nat} {ks : List Nat} (hb : b < bars.length) (h : (follow m ss (nthB bars b))[t]? = some ks) : (mkL bars m ss)[(mkK bars m ss b).length + t]? = some (Int.ofNat b :: ks.map Int.ofNat) := by
  obtain ⟨l, hl⟩ := mkK_le bars m ss (b := b + 1) (by omega)
  have ht : t < (follow m ss (nthB bars b)).length := (List.getElem?_eq_some_iff.1 h).1
  rw [hl, mkK_succ, List.append_assoc, List.getElem?_append_right (by omega), Nat.add_sub_cancel_left, List.getElem?_append_left (by simpa using ht), List.getElem?_map, h]
  rfl
end Hp
