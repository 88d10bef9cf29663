/- Contracts of the small functions. Ranging over a function, at the fence that asks nothing: an iterator's contract by the number of rounds that are over, and the law for the statement, outside a round and within one. A region in a round, by the walk of the plain mode; a region that draws its order: reads first, then one operation after another, 'S' holding wherever a read may still be to come. A region that draws its order, taken step by step: reads first, then each operation that may come. -/
import Derived.Test.YtgbegdjakadbbaaRows
import Derived.Test.YtgbegdjakadbbaaP1
import Derived.RangeFuncNested
import Derived.RangeFuncBound
import Derived.RangeFuncCalls
import Derived.RangeFuncLeaves
import Derived.Shelf.Abstract
import Derived.OwnWalkIn
import Derived.TacticsInMore
import Derived.LoopNIn
import Derived.LoopIn
import Derived.OrdersHeld
import Derived.StillTail
set_option linter.all false
set_option linter.unnecessarySimpa false
set_option linter.unusedSimpArgs false
set_option linter.unusedVariables false
set_option linter.unusedSectionVars false

namespace Go.Proofs.Ytgbegdjakadbbaa
open Go.RowKit

def inB (lo hi n : Int) : Bool := decide (lo ≤ n) && decide (n ≤ hi)
theorem inB_iff (lo hi n : Int) : inB lo hi n = true ↔ lo ≤ n ∧ n ≤ hi := by simp [inB]

theorem inB_not (lo hi n : Int) : (!inB lo hi n) = (decide (n < lo) || decide (hi < n)) := by
  by_cases h : lo ≤ n <;> by_cases h2 : n ≤ hi <;> simp [inB, h, h2] <;> omega

theorem within1_any (n lo hi : Int) (a b : Addr) (w : World) (h1 : w.cell? a = some (.int .i64 lo)) (h2 : w.cell? b = some (.int .i64 hi)) :
    Calls Try.prog 69 #[.int .i64 n, .pointer (some a), .pointer (some b)] w fun e w' => e = .returned (.bool (!inB lo hi n)) ∧ w = w' := by
  go_enter Try.func69, Try.ntmps69
  go_wp2
  all_goals (go_ret; refine ⟨?_, rfl⟩; rw [inB_not]; simp [*])

def idxOut (lo hi : Int) (l : List Int) : Nat → Option Nat
  | 0 => none
  | k + 1 => match idxOut lo hi l k with
    | some i => some i
    | none => if inB lo hi (nthI l k) then none else some k

theorem indexFunc_any (lo hi : Int) (l : List Int) (v : Value) (B : Nat) (a b : Addr) (w : World) (hl : l.length ≤ 1000) (h : RI w B v l) (h1 : w.cell? a = some (.int .i64 lo)) (h2 : w.cell? b = some (.int .i64 hi)) :
    Calls Try.prog 86 #[v, .func (.func 69) #[] #[.pointer (some a), .pointer (some b)]] w fun e w' =>
      (∃ r : Int, e = .returned (.int .i64 r) ∧ (0 ≤ r ↔ ¬ ∀ k, k < l.length → inB lo hi (nthI l k) = true)) ∧ w = w' := by
  obtain ⟨A, cap, bb, off, rfl, hA, hc⟩ := h.cells
  go_enter Try.func86, Try.ntmps86
  go_wp2_with fail
  go_loop [8] (fun i => ∃ k : Nat, k ≤ l.length ∧ i = .int .i64 k ∧ ∀ j, j < k → inB lo hi (nthI l j) = true) (fun i => l.length - (intOf i).toNat)
  case atStart => exact ⟨0, Nat.zero_le _, rfl, fun j hj => absurd hj (by omega)⟩
  case round =>
    obtain ⟨k, hk, rfl, hall⟩ := hrel
    have HA := Lib.hid hall; clear hall
    by_cases hlt : k < l.length
    · obtain ⟨rfl, hb⟩ := hA (by omega)
      have hck := hc k hlt
      clear hc
      by_cases hin : inB lo hi (nthI l k) = true
      · go_wp2_with (go_at_call 69; refine (within1_any _ _ _ _ _ _ h1 h2).mono ?_; rintro e w' ⟨rfl, rfl⟩)
        go_round
        case rel => exact ⟨k + 1, by omega, by go_num, fun j hj => by
          rcases Nat.lt_succ_iff_lt_or_eq.1 hj with h | rfl
          · exact HA.out j h
          · exact hin⟩
        case measure => simp [intOf]; omega
      · go_wp2_with (go_at_call 69; refine (within1_any _ _ _ _ _ _ h1 h2).mono ?_; rintro e w' ⟨rfl, rfl⟩)
        go_ret
        exact ⟨⟨k, rfl, by simp; exact ⟨k, hlt, by simpa using hin⟩⟩, rfl⟩
    · go_wp2
      go_ret
      refine ⟨⟨-1, rfl, ?_⟩, rfl⟩
      simp
      intro j hj; exact HA.out j (by omega)

theorem bnot_inj {a b : Bool} (h : (!a) = b) : a = !b := by cases a <;> cases b <;> simp_all

def allIn (lo hi : Int) (l : List Int) : Bool := l.all (inB lo hi)
theorem allIn_iff (lo hi : Int) (l : List Int) : allIn lo hi l = true ↔ ∀ k, k < l.length → inB lo hi (nthI l k) = true := by
  unfold allIn
  rw [List.all_eq_true]
  constructor
  · intro h k hk
    exact h _ (by unfold nthI; rw [List.getD_eq_getElem?_getD, List.getElem?_eq_getElem hk]; exact List.getElem_mem hk)
  · intro h x hx
    obtain ⟨k, hk, rfl⟩ := List.mem_iff_getElem.1 hx
    have := h k hk
    unfold nthI at this; rw [List.getD_eq_getElem?_getD, List.getElem?_eq_getElem hk] at this; exact this

theorem containsFunc_any (lo hi : Int) (l : List Int) (v : Value) (B : Nat) (a b : Addr) (w : World) (hl : l.length ≤ 1000) (h : RI w B v l) (h1 : w.cell? a = some (.int .i64 lo)) (h2 : w.cell? b = some (.int .i64 hi)) :
    Calls Try.prog 68 #[v, .func (.func 69) #[] #[.pointer (some a), .pointer (some b)]] w fun e w' =>
      e = .returned (.bool (!allIn lo hi l)) ∧ w = w' := by
  go_enter Try.func68, Try.ntmps68
  go_wp2_with (go_at_call 86; refine (indexFunc_any lo hi l _ B a b _ hl h h1 h2).mono ?_; rintro e w' ⟨⟨r, rfl, hr⟩, rfl⟩; have Hr := Lib.hid hr; clear hr)
  go_ret
  refine ⟨?_, rfl⟩
  have : decide (0 ≤ r) = !allIn lo hi l := by rw [Bool.eq_iff_iff]; simp [Hr.out, ← Bool.not_eq_true, allIn_iff]
  show Ending.returned (.bool (decide (0 ≤ r))) = _
  rw [this]

theorem within_any (lo hi : Int) (l : List Int) (v : Value) (B : Nat) (w : World) (hB : B ≤ w.heap.size) (hl : l.length ≤ 1000) (h : RI w B v l) :
    Calls Try.prog 46 #[.int .i64 lo, .int .i64 hi, v] w fun e w' =>
      e = .returned (.bool (allIn lo hi l)) ∧ (w.alloc (.cells #[.int .i64 lo] 2)).alloc (.cells #[.int .i64 hi] 2) = w' := by
  have h' : RI ((w.alloc (.cells #[.int .i64 lo] 2)).alloc (.cells #[.int .i64 hi] 2)) B v l := h.keep fun p hp => by
    rw [World.cell?_alloc_lt _ _ _ (by simp; omega), World.cell?_alloc_lt _ _ _ (by omega)]
  go_enter Try.func46, Try.ntmps46
  go_wp2_with fail
  refine (containsFunc_any lo hi l _ B ⟨w.heap.size, 0, none⟩ ⟨w.heap.size + 1, 0, none⟩ _ hl h' (by simp) (by simp)).mono ?_
  rintro e w' ⟨rfl, rfl⟩
  go_wp2
  go_ret
  exact ⟨by simp, rfl⟩
theorem within_1 (lo hi x : Int) (w : World) (n : Nat) (hn : w.heap.size = n) :
    Calls Try.prog 46 #[.int .i64 lo, .int .i64 hi, .slice (some ⟨n, 0, none⟩) 1 1] (w.alloc (.cells #[.int .i64 x] 2)) fun e w' =>
      e = .returned (.bool (inB lo hi x)) ∧ ((w.alloc (.cells #[.int .i64 x] 2)).alloc (.cells #[.int .i64 lo] 2)).alloc (.cells #[.int .i64 hi] 2) = w' := by
  subst hn
  refine (within_any lo hi [x] _ (w.heap.size + 1) _ (by simp) (by simp) ⟨_, _, w.heap.size, 0, rfl, ⟨rfl, Nat.le_refl _⟩, fun _ => ⟨rfl, by omega⟩, fun j hj => ?_⟩).mono ?_
  · obtain rfl : j = 0 := by simpa [ofI] using hj
    simp [ofI]
  · rintro e w' ⟨rfl, rfl⟩; exact ⟨by simp [allIn], rfl⟩
theorem within_2 (lo hi x y : Int) (w : World) (n : Nat) (hn : w.heap.size = n) :
    Calls Try.prog 46 #[.int .i64 lo, .int .i64 hi, .slice (some ⟨n, 0, none⟩) 2 2] (w.alloc (.cells #[.int .i64 x, .int .i64 y] 2)) fun e w' =>
      e = .returned (.bool (inB lo hi x && inB lo hi y)) ∧ ((w.alloc (.cells #[.int .i64 x, .int .i64 y] 2)).alloc (.cells #[.int .i64 lo] 2)).alloc (.cells #[.int .i64 hi] 2) = w' := by
  subst hn
  refine (within_any lo hi [x, y] _ (w.heap.size + 1) _ (by simp) (by simp) ⟨_, _, w.heap.size, 0, rfl, ⟨rfl, Nat.le_refl _⟩, fun _ => ⟨rfl, by omega⟩, fun j hj => ?_⟩).mono ?_
  · have : j = 0 ∨ j = 1 := by
      have : j < 2 := by simpa [ofI] using hj
      omega
    rcases this with rfl | rfl <;> simp [ofI]
  · rintro e w' ⟨rfl, rfl⟩; exact ⟨by simp [allIn], rfl⟩
end Go.Proofs.Ytgbegdjakadbbaa

namespace Go.Proofs.Ytgbegdjakadbbaa
open Go.RowKit

/-- A step that a caller's own words abide: blocks are new, or one block that is no cells, from B on, turns. -/
def Adm (B : Nat) (W W' : World) : Prop := ∃ row, W.grownBy W' row ∧ ∀ r, row = some r → B ≤ r ∧ ∃ o : Obj, W.heap[r]? = some o ∧ o.isCells = false
def Stab (B : Nat) (I : World → Prop) : Prop := ∀ W W', I W → Adm B W W' → I W'

theorem Adm.more {B B' : Nat} {W W' : World} (h : Adm B W W') (hB : B' ≤ B) : Adm B' W W' := by
  obtain ⟨row, hg, hr⟩ := h
  exact ⟨row, hg, fun r e => ⟨Nat.le_trans hB (hr r e).1, (hr r e).2⟩⟩
theorem Stab.more {B B' : Nat} {I : World → Prop} (h : Stab B I) (hB : B ≤ B') : Stab B' I := fun W W' hI ha => h W W' hI (ha.more hB)
theorem Adm.size {B : Nat} {W W' : World} (h : Adm B W W') : W.heap.size ≤ W'.heap.size := by obtain ⟨row, hg, _⟩ := h; exact hg.size
theorem Adm.cell {B : Nat} {W W' : World} (h : Adm B W W') {a : Addr} {v : Value} (hc : W.cell? a = some v) : W'.cell? a = some v := by
  obtain ⟨row, hg, hr⟩ := h
  exact cell_kept hc hg fun r e => (hr r e).2
theorem Adm.frozen {B : Nat} {W W' : World} (h : Adm B W W') {a : Addr} {v : Value} (hc : W.cell? a = some v) : W'.frozen? a = W.frozen? a := by
  obtain ⟨row, hg, hr⟩ := h
  exact frozen_kept hc hg fun r e => (hr r e).2
theorem Adm.alloc (B : Nat) (W : World) (o : Obj) : Adm B W (W.alloc o) := ⟨none, World.grownBy_alloc W o none, fun r e => by cases e⟩
theorem Adm.put {B : Nat} {W : World} {l : Nat} {o : Obj} (o' : Obj) (hB : B ≤ l) (hl : W.heap[l]? = some o) (ho : o.isCells = false) : Adm B W (W.putObj l o') :=
  ⟨some l, grownBy_putObj' W l o', fun r e => by cases e; exact ⟨hB, o, hl, ho⟩⟩
theorem Adm.below {B : Nat} {W W' : World} (h : Below W.heap.size W W') : Adm B W W' :=
  ⟨none, ⟨h.os, h.tape, h.output, h.size, fun k hk _ => h.block k hk⟩, fun r e => by cases e⟩
/-- A block that is no cells and lies below B lies on. -/
theorem Adm.obj {B : Nat} {W W' : World} (h : Adm B W W') {k : Nat} {o : Obj} (hk : W.heap[k]? = some o) (hB : k < B) : W'.heap[k]? = some o := by
  obtain ⟨row, hg, hr⟩ := h
  rw [hg.block k (Array.getElem?_eq_some_iff.1 hk).1 (fun e => by have := (hr k e.symm).1; omega)]; exact hk
theorem Adm.cells {B : Nat} {W W' : World} (h : Adm B W W') {k : Nat} {c : Array Value} {t : TypeId} {z : Nat × Nat} (hk : W.heap[k]? = some (.cells c t z)) : W'.heap[k]? = some (.cells c t z) := by
  obtain ⟨row, hg, hr⟩ := h
  rw [hg.block k (Array.getElem?_eq_some_iff.1 hk).1 (fun e => by obtain ⟨_, o, ho, hc⟩ := hr k e.symm; rw [hk] at ho; cases ho; cases hc)]; exact hk
theorem Adm.belowOf {B n₀ : Nat} {w W W' : World} (h : Adm B W W') (hb : Below n₀ w W) (hn : n₀ ≤ w.heap.size) (hB : n₀ ≤ B) : Below n₀ w W' := by
  obtain ⟨row, hg, hr⟩ := h
  exact hb.grown hg (Nat.le_trans hn hb.size) fun k e => Nat.le_trans hB (hr k e).1
theorem Adm.rs {B B' sz : Nat} {W W' : World} {v : Value} {n : Nat} {cs : List Value} (h : Adm B W W') (hr : RS W B' sz v n cs) : RS W' B' sz v n cs := by
  obtain ⟨A, cap, b, off, hv, hl, hA, hc⟩ := hr
  refine ⟨A, cap, b, off, hv, hl, hA, fun j hj => ?_⟩
  rw [h.cell (v := cs[j]) (by rw [hc j hj]; exact List.getElem?_eq_getElem hj)]; exact (List.getElem?_eq_getElem hj).symm
theorem Adm.own {B base e sz : Nat} {W W' : World} {v : Value} {n : Nat} {cs : List Value} (h : Adm B W W') (hr : W.ownsRow base e sz v n cs) : W'.ownsRow base e sz v n cs := by
  obtain ⟨hl, h2⟩ := hr
  refine ⟨hl, ?_⟩
  rcases h2 with h2 | ⟨g, cap, cur, hv, hb, hg, r⟩
  · exact .inl h2
  · exact .inr ⟨g, cap, cur, hv, hb, h.cells hg, r⟩

/-- A round's word: whatever lay from B on lies as it lay, but for blocks of cells of a type in T. -/
def Kept (T : TypeId → Prop) (B : Nat) (W W' : World) : Prop :=
  W.heap.size ≤ W'.heap.size ∧ ∀ (k : Nat) (o : Obj), B ≤ k → W.heap[k]? = some o → (∀ c t z, o = .cells c t z → ¬ T t) → W'.heap[k]? = some o
section
variable {T : TypeId → Prop} {B B' : Nat} {W W' W'' : World}
theorem Kept.refl (T : TypeId → Prop) (B : Nat) (W : World) : Kept T B W W := ⟨Nat.le_refl _, fun _ _ _ h _ => h⟩
theorem Kept.trans (h : Kept T B W W') (k : Kept T B W' W'') : Kept T B W W'' := ⟨Nat.le_trans h.1 k.1, fun i o hb hi ho => k.2 i o hb (h.2 i o hb hi ho) ho⟩
theorem Kept.more (h : Kept T B W W') (hB : B ≤ B') : Kept T B' W W' := ⟨h.1, fun i o hb => h.2 i o (Nat.le_trans hB hb)⟩
theorem Kept.same (h : Kept T B W W') {k : Nat} {o : Obj} (hB : B ≤ k) (hk : W.heap[k]? = some o) (ho : o.isCells = false) : W'.heap[k]? = some o := h.2 k o hB hk (fun c t z e => by subst e; cases ho)
theorem Kept.cells (h : Kept T B W W') {k : Nat} {c : Array Value} {t : TypeId} {z : Nat × Nat} (hB : B ≤ k) (hk : W.heap[k]? = some (.cells c t z)) (ht : ¬ T t) : W'.heap[k]? = some (.cells c t z) :=
  h.2 k _ hB hk (fun c' t' z' e => by cases e; exact ht)
theorem Kept.below (h : Kept T B W W') (hb : Below W'.heap.size W' W'') : Kept T B W W'' :=
  h.trans ⟨hb.size, fun k o _ hk _ => by rw [hb.block k (Array.getElem?_eq_some_iff.1 hk).1]; exact hk⟩
theorem Kept.alloc (h : Kept T B W W') (o : Obj) : Kept T B W (W'.alloc o) := h.below ((Below.refl _ _).alloc (Nat.le_refl _) o)
theorem Kept.drew (h : Kept T B W W') : Kept T B W W'.drew := h.below (Below.refl _ _).drew
theorem Kept.drewN (h : Kept T B W W') (n : Nat) : Kept T B W (W'.drewN n) := h.below (belowN (Below.refl _ _) n)
theorem Kept.put (h : Kept T B W W') {l : Nat} (hl : l < B) (o : Obj) : Kept T B W (W'.putObj l o) :=
  h.trans ⟨by simp, fun k o' hb hk _ => by rw [World.putObj_heap_other (by omega)]; exact hk⟩
theorem Kept.adm (h : Kept T B W W') (ha : Adm B' W' W'') (hB : W.heap.size ≤ B') : Kept T B W W'' := by
  obtain ⟨row, hg, hr⟩ := ha
  refine ⟨Nat.le_trans h.1 hg.size, fun k o hb hk ho => ?_⟩
  have h1 := h.2 k o hb hk ho
  rw [hg.block k (Array.getElem?_eq_some_iff.1 h1).1 (fun e => by have := (hr k e.symm).1; have := (Array.getElem?_eq_some_iff.1 hk).1; omega)]
  exact h1
theorem Kept.setCell (h : Kept T B W W') {p : Addr} (hp : p.block < B ∨ W.heap.size ≤ p.block) (u : Value) : Kept T B W (W'.setCell p u) := by
  refine ⟨by simpa [World.setCell] using h.1, fun k o hb hk ho => ?_⟩
  rw [Below.heap_setCell _ _ _ _ (by have := (Array.getElem?_eq_some_iff.1 hk).1; omega)]
  exact h.2 k o hb hk ho
theorem Kept.grown (h : Kept T B W W') {row : Option Nat} (hg : W'.grownBy W'' row) (hr : ∀ r, row = some r → r < B ∨ W.heap.size ≤ r ∨ ∃ c t z, W'.heap[r]? = some (.cells c t z) ∧ T t) : Kept T B W W'' := by
  refine ⟨Nat.le_trans h.1 hg.size, fun k o hb hk ho => ?_⟩
  have h1 := h.2 k o hb hk ho
  rw [hg.block k (Array.getElem?_eq_some_iff.1 h1).1 (fun e => ?_)]
  · exact h1
  · rcases hr k e.symm with h2 | h2 | ⟨c, t, z, h2, ht⟩
    · omega
    · have := (Array.getElem?_eq_some_iff.1 hk).1; omega
    · rw [h1] at h2; injection h2 with h2; exact ho c t z h2 ht
end

theorem RoundIn.any {m m' : Nat} {P : Program} {l : Nat} {f : FuncId} {tmps : Array Value} {assign body : Code} {w : World} {R : Ending → World → Prop}
    (h : RoundIn Fence.wide m P l f tmps assign body w R) : RoundIn Fence.wide m' P l f tmps assign body w R := ⟨h.1, fun c cs _ => h.2 c cs (room_wide _)⟩

/-- The iterator gf, its captured values lb: N rounds, the i-th one with the values enc i; what it reads is R, which the rounds keep. -/
def Iter (P : Program) (gf : Nat) (lb : Array Value) (enc : Nat → Array Value) (N : Nat) (R : World → Prop) (T : TypeId → Prop) : Prop :=
  ∀ (l : Nat) (J Jx : Nat → World → Prop) (W : World), (∀ i, Stab W.heap.size (J i)) → (∀ i, Stab W.heap.size (Jx i)) → (∀ i W1, J i W1 → R W1 ∧ W.heap.size ≤ W1.heap.size) →
    (∀ i W1 m, i < N → J i W1 → YieldAt Fence.wide m P l (enc i) W1 fun e W' => (e = .returned (.bool true) ∧ J (i + 1) W' ∧ Kept T W.heap.size W1 W') ∨ (e = .returned (.bool false) ∧ Jx i W' ∧ Kept T W.heap.size W1 W')) →
    J 0 W → Calls P gf (#[.func (.yield l) #[] #[]] ++ lb) W fun e W' => (∃ v, e = .returned v) ∧ (J N W' ∨ ∃ i, i < N ∧ Jx i W')

/-- How a round's body is left. -/
def roundEnd (T : TypeId → Prop) (B : Nat) (I : Nat → World → Prop) (Ix : Code → Nat → World → Prop) (i : Nat) (W : World) : Exit → Act → World → Prop
  | .normal, _, W' => Kept T B W W' ∧ I (i + 1) W'
  | .ret, _, W' => Kept T B W W' ∧ Ix .ret i W'
  | .exit id, _, W' => Kept T B W W' ∧ Ix (.exit id) i W'
  | .goto t, _, W' => Kept T B W W' ∧ Ix (.goto t) i W'
  | .panic _, _, _ => False
  | .outgrown, _, _ => False

/-- What a caller owes: the assignment to the loop's left sides, and the body, each walked once in a round's frame. -/
structure Rounds (P : Program) (T : TypeId → Prop) (B : Nat) (tmps : Array Value) (ps : Array Tmp) (assign body : Code) (enc : Nat → Array Value) (N : Nat) (I : Nat → World → Prop) (Ix : Code → Nat → World → Prop) (Ax : Nat → Act → World → Prop) : Prop where
  stab : ∀ i, Stab B (I i)
  stabx : ∀ c i, Stab B (Ix c i)
  staba : ∀ i a, Stab B (Ax i a)
  size : ∀ i W, I i W → B ≤ W.heap.size
  assign : ∀ (l i : Nat) (W : World), i < N → I i W → ∀ K : Act → World → Prop, (∀ a' Wa, Kept T B W Wa → Ax i a' Wa → K a' Wa) → assign.wpIn (Fence.wide.inRound l) 98 P (Exit.then K (fun _ _ _ => False))
    { tmps := (ps.zip (enc i)).foldl (fun t (p, v) => t.setIfInBounds p v) tmps, defers := [] } W
  body : ∀ (l i : Nat) (a' : Act) (W : World), i < N → B ≤ l → (∃ r, W.heap[l]? = some (.loop r)) → Ax i a' W → body.wpIn (Fence.wide.inRound l) 98 P (roundEnd T B I Ix i W) a' W

theorem yield_round {P : Program} {T : TypeId → Prop} {B : Nat} {tmps : Array Value} {ps : Array Tmp} {assign body : Code} {enc : Nat → Array Value} {N : Nat} {I : Nat → World → Prop} {Ix : Code → Nat → World → Prop} {Ax : Nat → Act → World → Prop}
    (hr : Rounds P T B tmps ps assign body enc N I Ix Ax) (hps : ∀ i, (enc i).size = ps.size) (fn : FuncId) (D L : Nat) (hD : B ≤ L)
    (rec : LoopState → Option Code → Loop) (hrec : rec = fun st pe => { state := st, pending := pe, fn, tmps, params := ps, assign, body, defers := D })
    (i : Nat) (hi : i < N) (W : World) (hI : I i W) (hl : W.heap[L]? = some (.loop (rec .ready none))) (m : Nat) :
    YieldAt Fence.wide m P L (enc i) W fun e W' => (e = .returned (.bool true) ∧ (I (i + 1) W' ∧ W'.heap[L]? = some (.loop (rec .ready none))) ∧ Kept T (L + 1) W W' ∧ (∀ k o, B ≤ k → k ≠ L → W.heap[k]? = some o → o.isCells = false → W'.heap[k]? = some o)) ∨
      (e = .returned (.bool false) ∧ (∃ c, Ix c i W' ∧ W'.heap[L]? = some (.loop (rec .done (some c)))) ∧ Kept T (L + 1) W W' ∧ (∀ k o, B ≤ k → k ≠ L → W.heap[k]? = some o → o.isCells = false → W'.heap[k]? = some o)) := by
  have hy := run_yield (P := P) (args := enc i) hl (by rw [hrec]; exact hps i)
  rw [hrec] at hy
  refine ⟨fn, _, assign, body, hy, RoundIn.any (m := 98) (roundIn_of_wpIn trivial (wpIn_mono (hr.assign L i W hi hI (fun a' Wa => Kept T B W Wa ∧ Ax i a' Wa) (fun _ _ h1 h2 => ⟨h1, h2⟩)) ?_))⟩
  rintro e a' Wa hp
  cases e with
  | normal =>
    obtain ⟨hk, ha⟩ := hp
    have hla := hk.same hD hl rfl
    have hlt := (Array.getElem?_eq_some_iff.1 hla).1
    refine ⟨_, run_beginRound hla (by rw [hrec]), ?_⟩
    have hl2 : (Wa.putObj L (.loop { rec .ready none with state := .busy })).heap[L]? = some (.loop { rec .ready none with state := .busy }) := World.putObj_heap_same hlt
    refine wpIn_mono (hr.body L i a' _ hi hD ⟨_, hl2⟩ (hr.staba i a' _ _ ha (Adm.put _ hD hla rfl))) ?_
    have fin : ∀ (jump : Option Code) (W3 : World), Kept T B (Wa.putObj L (.loop { rec .ready none with state := .busy })) W3 →
        (Instr.endRound L jump).run P W3 = .ok (.bool jump.isNone) (W3.putObj L (.loop (rec (if jump.isNone then .ready else .done) jump))) ∧
        W3.heap[L]? = some (.loop { rec .ready none with state := .busy }) ∧
        (W3.putObj L (.loop (rec (if jump.isNone then .ready else .done) jump))).heap[L]? = some (.loop (rec (if jump.isNone then .ready else .done) jump)) ∧
        (Kept T (L + 1) W (W3.putObj L (.loop (rec (if jump.isNone then .ready else .done) jump))) ∧ (∀ k o, B ≤ k → k ≠ L → W.heap[k]? = some o → o.isCells = false → (W3.putObj L (.loop (rec (if jump.isNone then .ready else .done) jump))).heap[k]? = some o)) := fun jump W3 hk3 => by
      have hl3 := hk3.same hD hl2 rfl
      have := run_endRound (P := P) jump hl3
      rw [hrec] at this ⊢
      exact ⟨this, by rw [hrec] at hl3; exact hl3, World.putObj_heap_same (Array.getElem?_eq_some_iff.1 hl3).1, (((hk.more (by omega)).put (by omega) _).trans (hk3.more (by omega))).put (by omega) _, fun k o hb hne hk0 ho => by
        rw [World.putObj_heap_other hne]; exact hk3.same hb (by rw [World.putObj_heap_other hne]; exact hk.same hb hk0 ho) ho⟩
    rintro e a3 W3 hp
    cases e with
    | normal =>
      obtain ⟨hk3, hi3⟩ := hp
      obtain ⟨hr', hl3, hl4, hx4⟩ := fin none W3 hk3
      exact ⟨_, _, hr', .inl ⟨rfl, ⟨hr.stab _ _ _ hi3 (Adm.put _ hD hl3 rfl), hl4⟩, hx4⟩⟩
    | ret =>
      obtain ⟨hk3, hi3⟩ := hp
      obtain ⟨hr', hl3, hl4, hx4⟩ := fin (some .ret) W3 hk3
      exact ⟨_, _, hr', .inr ⟨rfl, ⟨.ret, hr.stabx _ _ _ _ hi3 (Adm.put _ hD hl3 rfl), hl4⟩, hx4⟩⟩
    | exit id =>
      obtain ⟨hk3, hi3⟩ := hp
      obtain ⟨hr', hl3, hl4, hx4⟩ := fin (some (.exit id)) W3 hk3
      exact ⟨_, _, hr', .inr ⟨rfl, ⟨.exit id, hr.stabx _ _ _ _ hi3 (Adm.put _ hD hl3 rfl), hl4⟩, hx4⟩⟩
    | goto t =>
      obtain ⟨hk3, hi3⟩ := hp
      obtain ⟨hr', hl3, hl4, hx4⟩ := fin (some (.goto t)) W3 hk3
      exact ⟨_, _, hr', .inr ⟨rfl, ⟨.goto t, hr.stabx _ _ _ _ hi3 (Adm.put _ hD hl3 rfl), hl4⟩, hx4⟩⟩
    | panic ch => exact hp.elim
    | outgrown => exact hp.elim
  | exit id => exact hp.elim
  | goto t => exact hp.elim
  | ret => exact hp.elim
  | panic ch => exact hp.elim
  | outgrown => exact hp.elim

/-- The statement, outside a round. -/
theorem wp_range {P : Program} {g : Operand} {ps : Array Tmp} {assign body : Code} {Q : Exit → Act → World → Prop} {a : Act} {w : World}
    {gf : Nat} {lb : Array Value} (hg : a.eval g = .func (.func gf) #[] lb) (eg : ∀ args w, (callFunc gf args).run P w = .ok (.enter gf args) w)
    {enc : Nat → Array Value} {N : Nat} {R : World → Prop} {T : TypeId → Prop} (hit : Iter P gf lb enc N R T) (hps : ∀ i, (enc i).size = ps.size)
    (I : Nat → World → Prop) (Ix : Code → Nat → World → Prop) (Ax : Nat → Act → World → Prop) (hr : Rounds P T w.heap.size a.tmps ps assign body enc N I Ix Ax) (hR : ∀ i W, I i W → R W) (h0 : I 0 w)
    (hdone : ∀ (D : Nat) (W : World), w.heap.size ≤ D → I N W → W.heap[D]? = some (.deferred (some [])) → Q .normal { a with defers := { target := .collected D, args := #[] } :: a.defers } W)
    (hstop : ∀ (D : Nat) (c : Code) (i : Nat) (W : World), w.heap.size ≤ D → i < N → Ix c i W → W.heap[D]? = some (.deferred (some [])) → c.wp P Q { a with defers := { target := .collected D, args := #[] } :: a.defers } W) :
    (Code.rangeFunc g ps assign body).wp P Q a w := by
  refine (wpIn_wide (n := 100)).1 (wpIn_rangeFunc ?_)
  intro fn _
  obtain ⟨rec, hrec⟩ : ∃ rec : LoopState → Option Code → Loop, rec = fun st pe => { state := st, pending := pe, fn, tmps := a.tmps, params := ps, assign, body, defers := w.heap.size } := ⟨_, rfl⟩
  obtain ⟨W1, hW1⟩ : ∃ W1, (w.alloc (.deferred (some []))).alloc (.loop (rec .ready none)) = W1 := ⟨_, rfl⟩
  have hL1 : W1.heap[w.heap.size + 1]? = some (.loop (rec .ready none)) := by
    rw [← hW1]; have := World.alloc_heap_new (w.alloc (.deferred (some []))) (.loop (rec .ready none)); rwa [World.size_alloc] at this
  have hK1 : W1.heap[w.heap.size]? = some (.deferred (some [])) := by
    rw [← hW1]; exact (Below.heap_alloc _ _ _ (by simp)).trans (World.alloc_heap_new w _)
  have hI1 : I 0 W1 := by rw [← hW1]; exact hr.stab 0 _ _ (hr.stab 0 _ _ h0 (Adm.alloc _ _ _)) (Adm.alloc _ _ _)
  have hS1 : W1.heap.size = w.heap.size + 2 := by rw [← hW1]; simp
  refine ⟨w.heap.size + 1, [{ target := .collected w.heap.size, args := #[] }], W1, { target := .fn (.func gf) lb, args := #[.func (.yield (w.heap.size + 1)) #[] #[]] }, W1, gf,
    #[.func (.yield (w.heap.size + 1)) #[] #[]] ++ lb, W1, ?_, ?_, ?_, ?_, (fun h => by cases h), ?_⟩
  · rw [← hW1, hrec]; exact run_enterLoop_outer _ _ _ _ _
  · simp only [resolve, hg]; simp [go_sem]
  · intro f' _; trivial
  · simp [invoke, go_sem, eg]
  · refine callsIn_wide.2 ((hit (w.heap.size + 1)
      (fun i W => I i W ∧ W.heap[w.heap.size + 1]? = some (.loop (rec .ready none)) ∧ W.heap[w.heap.size]? = some (.deferred (some [])) ∧ W1.heap.size ≤ W.heap.size)
      (fun i W => ∃ c, Ix c i W ∧ W.heap[w.heap.size + 1]? = some (.loop (rec .done (some c))) ∧ W.heap[w.heap.size]? = some (.deferred (some [])) ∧ W1.heap.size ≤ W.heap.size)
      W1 ?_ ?_ (fun i W h => ⟨hR i W h.1, h.2.2.2⟩) ?_ ⟨hI1, hL1, hK1, Nat.le_refl _⟩).mono ?_)
    · rintro i A A' ⟨h1, h2, h3, h4⟩ ha
      exact ⟨hr.stab i _ _ h1 (ha.more (by omega)), ha.obj h2 (by omega), ha.obj h3 (by omega), Nat.le_trans h4 ha.size⟩
    · rintro i A A' ⟨c, h1, h2, h3, h4⟩ ha
      exact ⟨c, hr.stabx c i _ _ h1 (ha.more (by omega)), ha.obj h2 (by omega), ha.obj h3 (by omega), Nat.le_trans h4 ha.size⟩
    · rintro i W m hi ⟨hI, hl, hk, hz⟩
      refine (yield_round hr hps fn w.heap.size (w.heap.size + 1) (by omega) rec hrec i hi W hI hl m).mono ?_
      rintro e W' (⟨rfl, ⟨a1, a2⟩, a3, a4⟩ | ⟨rfl, ⟨c, a1, a2⟩, a3, a4⟩)
      · exact .inl ⟨rfl, ⟨a1, a2, a4 _ _ (Nat.le_refl _) (by omega) hk rfl, Nat.le_trans hz a3.1⟩, a3.more (by omega)⟩
      · exact .inr ⟨rfl, ⟨c, a1, a2, a4 _ _ (Nat.le_refl _) (by omega) hk rfl, Nat.le_trans hz a3.1⟩, a3.more (by omega)⟩
    · rintro e W2 ⟨⟨v, rfl⟩, (⟨hi, hl, hk, _⟩ | ⟨i, hin, c, hi, hl, hk, _⟩)⟩
      · exact ⟨none, _, by have := run_endLoop (P := P) hl (by rw [hrec]; simp); rw [hrec] at this; exact this, hdone _ _ (Nat.le_refl _) (hr.stab _ _ _ hi (Adm.put _ (by omega) hl rfl)) ((World.putObj_heap_other (by omega)).trans hk)⟩
      · exact ⟨some c, _, by have := run_endLoop (P := P) hl (by rw [hrec]; simp); rw [hrec] at this; exact this,
          wpIn_wide.2 (hstop _ c i _ (Nat.le_refl _) hin (hr.stabx _ _ _ _ hi (Adm.put _ (by omega) hl rfl)) ((World.putObj_heap_other (by omega)).trans hk))⟩

/-- The statement, in a round of the loop l₀. -/
theorem wp_range_in {P : Program} {l₀ : Nat} {r₀ : Loop} {g : Operand} {ps : Array Tmp} {assign body : Code} {Q : Exit → Act → World → Prop} {a : Act} {w : World} {n : Nat} (hl₀ : w.heap[l₀]? = some (.loop r₀))
    {gf : Nat} {lb : Array Value} (hg : a.eval g = .func (.func gf) #[] lb) (eg : ∀ args w, (callFunc gf args).run P w = .ok (.enter gf args) w)
    {enc : Nat → Array Value} {N : Nat} {R : World → Prop} {T : TypeId → Prop} (hit : Iter P gf lb enc N R T) (hps : ∀ i, (enc i).size = ps.size)
    (I : Nat → World → Prop) (Ix : Code → Nat → World → Prop) (Ax : Nat → Act → World → Prop) (hr : Rounds P T w.heap.size a.tmps ps assign body enc N I Ix Ax) (hR : ∀ i W, I i W → R W) (h0 : I 0 w)
    (hdone : ∀ (W : World), I N W → Q .normal a W)
    (hstop : ∀ (c : Code) (i : Nat) (W : World), i < N → Ix c i W → c.wpIn (Fence.wide.inRound l₀) n P Q a W) :
    (Code.rangeFunc g ps assign body).wpIn (Fence.wide.inRound l₀) n P Q a w := by
  refine wpIn_rangeFunc ?_
  intro fn _
  obtain ⟨rec, hrec⟩ : ∃ rec : LoopState → Option Code → Loop, rec = fun st pe => { state := st, pending := pe, fn, tmps := a.tmps, params := ps, assign, body, defers := r₀.defers } := ⟨_, rfl⟩
  obtain ⟨W1, hW1⟩ : ∃ W1, w.alloc (.loop (rec .ready none)) = W1 := ⟨_, rfl⟩
  have hL1 : W1.heap[w.heap.size]? = some (.loop (rec .ready none)) := by rw [← hW1]; exact World.alloc_heap_new w _
  have hI1 : I 0 W1 := by rw [← hW1]; exact hr.stab 0 _ _ h0 (Adm.alloc _ _ _)
  have hS1 : W1.heap.size = w.heap.size + 1 := by rw [← hW1]; simp
  refine ⟨w.heap.size, [], W1, { target := .fn (.func gf) lb, args := #[.func (.yield w.heap.size) #[] #[]] }, W1, gf,
    #[.func (.yield w.heap.size) #[] #[]] ++ lb, W1, ?_, ?_, ?_, ?_, (fun h => by cases h), ?_⟩
  · rw [← hW1, hrec]; exact run_enterLoop_inner hl₀ _ _ _ _ _
  · simp only [resolve, hg]; simp [go_sem]
  · intro f' _; trivial
  · simp [invoke, go_sem, eg]
  · refine CallsIn.inRound l₀ (callsIn_wide.2 ((hit w.heap.size
      (fun i W => I i W ∧ W.heap[w.heap.size]? = some (.loop (rec .ready none)) ∧ W1.heap.size ≤ W.heap.size)
      (fun i W => ∃ c, Ix c i W ∧ W.heap[w.heap.size]? = some (.loop (rec .done (some c))) ∧ W1.heap.size ≤ W.heap.size)
      W1 ?_ ?_ (fun i W h => ⟨hR i W h.1, h.2.2⟩) ?_ ⟨hI1, hL1, Nat.le_refl _⟩).mono ?_))
    · rintro i A A' ⟨h1, h2, h4⟩ ha
      exact ⟨hr.stab i _ _ h1 (ha.more (by omega)), ha.obj h2 (by omega), Nat.le_trans h4 ha.size⟩
    · rintro i A A' ⟨c, h1, h2, h4⟩ ha
      exact ⟨c, hr.stabx c i _ _ h1 (ha.more (by omega)), ha.obj h2 (by omega), Nat.le_trans h4 ha.size⟩
    · rintro i W m hi ⟨hI, hl, hz⟩
      refine (yield_round hr hps fn r₀.defers w.heap.size (Nat.le_refl _) rec hrec i hi W hI hl m).mono ?_
      rintro e W' (⟨rfl, ⟨a1, a2⟩, a3, _⟩ | ⟨rfl, ⟨c, a1, a2⟩, a3, _⟩)
      · exact .inl ⟨rfl, ⟨a1, a2, Nat.le_trans hz a3.1⟩, a3.more (by omega)⟩
      · exact .inr ⟨rfl, ⟨c, a1, a2, Nat.le_trans hz a3.1⟩, a3.more (by omega)⟩
    · rintro e W2 ⟨⟨v, rfl⟩, (⟨hi, hl, _⟩ | ⟨i, hin, c, hi, hl, _⟩)⟩
      · exact ⟨none, _, by have := run_endLoop (P := P) hl (by rw [hrec]; simp); rw [hrec] at this; exact this, hdone _ (hr.stab _ _ _ hi (Adm.put _ (Nat.le_refl _) hl rfl))⟩
      · exact ⟨some c, _, by have := run_endLoop (P := P) hl (by rw [hrec]; simp); rw [hrec] at this; exact this,
          hstop c i _ hin (hr.stabx _ _ _ _ hi (Adm.put _ (Nat.le_refl _) hl rfl))⟩

/-- A function that holds such statements. -/
theorem calls_of_wp_marks {P : Program} {f : FuncId} {fn : Func} {c : Code} {args : Array Value} {w : World} {R : Ending → World → Prop} (hf : P.funcs[f]? = some fn) (hb : fn.body = some c)
    (h : c.wp P (bodyPostM Fence.wide 100 P fn R) { tmps := args ++ Array.replicate (fn.ntmps - args.size) undef, defers := [] } w) : Calls P f args w R :=
  (callsIn_wide (n := 100)).1 (callsIn_of_wp_marks hf hb trivial (wpIn_wide.2 h))

theorem leave1 {P : Program} {fn : Func} {R : Ending → World → Prop} {tmps : Array Value} {W : World} {D : Nat} {v : Value} (hK : W.heap[D]? = some (.deferred (some [])))
    (hv : (results fn tmps).run P (W.putObj D (.deferred none)) = .ok v (W.putObj D (.deferred none))) (hR : R (.returned v) (W.putObj D (.deferred none))) :
    bodyPostM Fence.wide 100 P fn R .ret { tmps, defers := [{ target := .collected D, args := #[] }] } W :=
  ⟨by simp, .inl ⟨_, _, rfl, run_takeDeferred hK, ⟨v, hv, hR⟩⟩⟩
theorem leave1n {P : Program} {fn : Func} {R : Ending → World → Prop} {tmps : Array Value} {W : World} {D : Nat} {v : Value} (hK : W.heap[D]? = some (.deferred (some [])))
    (hv : (results fn tmps).run P (W.putObj D (.deferred none)) = .ok v (W.putObj D (.deferred none))) (hR : R (.returned v) (W.putObj D (.deferred none))) :
    bodyPostM Fence.wide 100 P fn R .normal { tmps, defers := [{ target := .collected D, args := #[] }] } W := leave1 (fn := fn) hK hv hR
theorem leave2 {P : Program} {fn : Func} {R : Ending → World → Prop} {tmps : Array Value} {W : World} {D D' : Nat} {v : Value} (hne : D ≠ D') (hK : W.heap[D]? = some (.deferred (some []))) (hK' : W.heap[D']? = some (.deferred (some [])))
    (hv : (results fn tmps).run P ((W.putObj D (.deferred none)).putObj D' (.deferred none)) = .ok v ((W.putObj D (.deferred none)).putObj D' (.deferred none))) (hR : R (.returned v) ((W.putObj D (.deferred none)).putObj D' (.deferred none))) :
    bodyPostM Fence.wide 100 P fn R .ret { tmps, defers := [{ target := .collected D, args := #[] }, { target := .collected D', args := #[] }] } W :=
  ⟨by simp, .inl ⟨_, _, rfl, run_takeDeferred hK, ⟨by simp, .inl ⟨_, _, rfl, run_takeDeferred ((World.putObj_heap_other (by omega)).trans hK'), ⟨v, hv, hR⟩⟩⟩⟩⟩
end Go.Proofs.Ytgbegdjakadbbaa

namespace Go.Proofs.Ytgbegdjakadbbaa
open Go.RowKit

section
variable {P : Program} {ops : Array Oper} {Q : Exit → Act → World → Prop} {l m : Nat}

theorem wpOpsIn_of_wpOps (hq : ¬ LetsOut Q) (hd : ops.all (fun o => match o.op with | .defer _ => false | _ => true) = true) :
    ∀ (is : List Nat) (a : Act) (w : World), wpOps P ops Q is a w → wpOpsIn (Fence.wide.inRound l) m P ops Q is a w := by
  intro is
  induction is with
  | nil => intro a w h; exact h
  | cons i rest ih =>
    intro a w h
    simp only [wpOps, wpOpsIn] at h ⊢
    cases ho : ops[i]? with
    | none => simp only [ho] at h ⊢; exact ih _ _ h
    | some o =>
      simp only [ho] at h ⊢
      have hnd : ∀ c, o.op ≠ .defer c := by
        intro c hc
        have := Array.all_eq_true_iff_forall_mem.1 hd o (Array.mem_of_getElem? ho)
        simp [hc] at this
      by_cases hw : Region.wanted o (yielded ops a.tmps) = true
      · simp only [hw, if_true] at h ⊢
        rcases h with h | ⟨_, h⟩
        case inr => exact absurd h hq
        refine ⟨fun _ _ => trivial, ?_⟩
        rw [Oper.semAt_eq _ _ _ hnd]
        unfold Oper.wp at h
        generalize (execOp a.eval o).run P w = r at *
        cases r with
        | ok n w' =>
          cases n <;> simp only [Oper.upon, Oper.uponIn] at h ⊢ <;> first
            | exact ih _ _ h
            | exact h.elim
            | (refine ⟨(fun hh => by cases hh), CallsIn.inRound l (callsIn_wide.2 (Calls.mono h ?_))⟩
               intro e w'' he
               cases e <;> first | exact ih _ _ he | exact he)
            | (refine ⟨(fun hh => by cases hh), ?_⟩
               intro c cs _
               obtain ⟨v, w'', hr, hs⟩ := h c cs
               exact ⟨v, w'', ih _ _ hr, stepsIn_wide.2 hs⟩)
        | halt x w' => cases x <;> simp only [Oper.upon, Oper.uponIn] at h ⊢ <;> exact h
      · simp only [hw] at h ⊢
        exact ⟨fun _ _ => trivial, ih _ _ h⟩

/-- A region of a round that does not draw. -/
theorem round_region {id n : Nat} {a : Act} {w : World} {os : List Oper} (hq : ¬ LetsOut Q) (hd : os.toArray.all (fun o => match o.op with | .defer _ => false | _ => true) = true)
    (h : wpList P os.toArray Q os a w) : (Code.region id os.toArray false).wpIn (Fence.wide.inRound l) n P Q a w :=
  wpIn_region (wpOpsIn_of_wpOps hq hd _ _ _ (by
    rw [List.range_eq_range', ← Array.length_toList, wpOps_eq_wpList os.toArray.toList 0 (by simp)]; simpa using h))

variable {md : Region.Mode} {S : World → Prop} {E : List Nat}
def waitsT (md : Region.Mode) (ops : Array Oper) : Nat → Nat → Nat → Bool
  | 0, _, _ => false
  | f + 1, j, i => match ops[j]? with
    | some oj => oj.after.any fun e => Region.binds md e && (e.on == i || waitsT md ops f e.on i)
    | none => false
def waitsAll (md : Region.Mode) (ops : Array Oper) (E : List Nat) (i : Nat) : Bool := E.all fun e => waitsT md ops ops.size i e
theorem getD_both' {listed : Array Bool} {i : Nat} (h : listed.getD i false = true) : listed.getD i true = true := by
  rcases Nat.lt_or_ge i listed.size with h' | h'
  · simp [h'] at h ⊢; exact h
  · simp [Array.getElem?_eq_none h'] at h
/-- What is listed has what it waits for listed, too. -/
def Inv (md : Region.Mode) (ops : Array Oper) (listed : Array Bool) : Prop := ∀ (j : Nat) (oj : Oper), ops[j]? = some oj → listed.getD j true = true → ∀ e ∈ oj.after, Region.binds md e = true → listed.getD e.on true = true
theorem waitsT_listed {listed : Array Bool} (h : Inv md ops listed) {i : Nat} : ∀ (f j : Nat), (∀ oj, ops[j]? = some oj → ∀ e ∈ oj.after, Region.binds md e = true → listed.getD e.on true = true) → waitsT md ops f j i = true → listed.getD i true = true
  | 0, _, _, hw => by cases hw
  | f + 1, j, hj, hw => by
    unfold waitsT at hw
    split at hw
    · rename_i oj hoj
      obtain ⟨e, he, hb⟩ := Array.any_eq_true'.1 hw
      simp only [Bool.and_eq_true, Bool.or_eq_true, beq_iff_eq] at hb
      have h1 := hj oj hoj e he hb.1
      rcases hb.2 with rfl | h2
      · exact h1
      · exact waitsT_listed h f e.on (fun o ho e' he' hb' => h _ o ho h1 e' he' hb') h2
    · cases hw
theorem Inv.none (md : Region.Mode) (ops : Array Oper) : Inv md ops (Array.replicate ops.size false) := by
  intro j oj hoj hj
  have := (Array.getElem?_eq_some_iff.1 hoj).1
  simp [this] at hj
theorem Inv.set {listed : Array Bool} (h : Inv md ops listed) {i : Nat} (hi : i ∈ Region.ready md ops listed) : Inv md ops (listed.setIfInBounds i true) := by
  obtain ⟨hun, oi, hoi, hall⟩ := mem_ready.1 hi
  have up : ∀ k, listed.getD k true = true → (listed.setIfInBounds i true).getD k true = true := fun k hk => by
    by_cases hik : i = k
    · subst hik; rw [hk] at hun; cases hun
    · rw [getD_set_ne true hik]; exact hk
  intro j oj hoj hj e he hb
  by_cases hij : i = j
  · subst hij
    rw [hoi] at hoj; cases hoj
    refine up _ ?_
    have h1 := hall e he hb
    exact getD_both' h1
  · rw [getD_set_ne true hij] at hj
    exact up _ (h j oj hoj hj e he hb)

def wpAnyF (P : Program) (md : Region.Mode) (ops : Array Oper) (Q : Exit → Act → World → Prop) (S : World → Prop) (E : List Nat) : Nat → Array Bool → Act → World → Prop
  | 0, listed, a, w => Region.ready md ops listed = [] ∧ Q .normal a w
  | fuel + 1, listed, a, w =>
    (Region.ready md ops listed = [] → Q .normal a w) ∧
    ∀ i ∈ Region.ready md ops listed, wpOp P ops Q i (fun a' w' => (waitsAll md ops E i = false → S w') ∧ wpAnyF P md ops Q S E fuel (listed.setIfInBounds i true) a' w') a w

theorem wpAny_of_F : ∀ (fuel : Nat) (listed : Array Bool) (a : Act) (w : World), wpAnyF P md ops Q S E fuel listed a w → wpAny P md ops Q fuel listed a w
  | 0, _, _, _, h => h
  | fuel + 1, _, _, _, h => ⟨h.1, fun i hi => wpOp_mono (fun a' w' h' => wpAny_of_F fuel _ a' w' h'.2) (h.2 i hi)⟩

theorem wpAnyF_first {i : Nat} {oi : Oper} {v : Value} (hiE : i ∈ E) (hi : ops[i]? = some oi) (hsel : ∀ (j : Nat) (o : Oper) cs b, ops[j]? = some o → o.op ≠ .select cs b)
    (hQ : ∀ c a w, Q (.panic c) (a.put oi.dst v) w → Q (.panic c) a w) :
    ∀ (fuel : Nat) (listed : Array Bool) (a : Act) (w : World),
      (∀ j oj, ops[j]? = some oj → j ≠ i → listed.getD j true = false → (∀ e ∈ oj.after, Region.binds md e = true → e.on ≠ i) → oi.apart ops oj = true) →
      Inv md ops listed → i ∈ Region.ready md ops listed → YieldsIf P ops S oi v a → S w →
      wpAnyF P md ops Q S E fuel (listed.setIfInBounds i true) (a.put oi.dst v) w → wpAnyF P md ops Q S E (fuel + 1) listed a w := by
  intro fuel
  induction fuel with
  | zero =>
    intro listed a w _ _ hr hy hS H
    refine ⟨fun h => (by rw [h] at hr; cases hr), fun j hj => ?_⟩
    by_cases hji : j = i
    · subst hji; exact hy.wpOp hi hS ⟨fun _ => hS, H⟩
    · have := ready_mono hj hji
      rw [H.1] at this
      cases this
  | succ fuel ih =>
    intro listed a w hfree hinv hr hy hS H
    refine ⟨fun h => (by rw [h] at hr; cases hr), fun j hj => ?_⟩
    by_cases hji : j = i
    · subst hji; exact hy.wpOp hi hS ⟨fun _ => hS, H⟩
    · have h1 := H.2 j (ready_mono hj hji)
      obtain ⟨hjun, oj, hoj, hall⟩ := mem_ready.1 hj
      have hnot : ∀ e ∈ oj.after, Region.binds md e = true → e.on ≠ i := fun e he hb heq => by
        have h1 := hall e he hb
        have h0 := (mem_ready.1 hr).1
        rw [heq, getD_both h0] at h1
        cases h1
      have hflag : waitsAll md ops E j = false := by
        rw [← Bool.not_eq_true]
        intro hw
        have h5 := waitsT_listed hinv _ j (fun o ho e he hb => by
          rw [hoj] at ho; cases ho
          exact getD_both' (hall e he hb)) (List.all_eq_true.1 hw i hiE)
        rw [(mem_ready.1 hr).1] at h5; cases h5
      have h2 := wpOp_putIf hoj (hfree j oj hoj hji hjun hnot) (fun cs b => hsel i oi cs b hi) (fun cs b => hsel j oj cs b hoj) hQ hy h1
      have hfree' : ∀ k ok, ops[k]? = some ok → k ≠ i → (listed.setIfInBounds j true).getD k true = false →
          (∀ e ∈ ok.after, Region.binds md e = true → e.on ≠ i) → oi.apart ops ok = true := fun k ok hk hki hun hno => by
        refine hfree k ok hk hki ?_ hno
        by_cases hjk : j = k
        · subst hjk; exact hjun
        · rw [getD_set_ne true hjk] at hun; exact hun
      refine wpOp_mono (fun a' w' h3 => ⟨h3.2.1, ih (listed.setIfInBounds j true) a' w' hfree' (hinv.set hj) (ready_mono hr (Ne.symm hji)) h3.1 (h3.2.1 hflag) ?_⟩) h2
      rw [Array.setIfInBounds_comm _ _ hji]
      exact h3.2.2

/-- The reads, one after another. -/
def wpY (P : Program) (ops : Array Oper) (S : World → Prop) (L : Act → Prop) : List Oper → Act → Prop
  | [], a => L a
  | o :: r, a => ∃ v, YieldsIf P ops S o v a ∧ wpY P ops S L r (a.put o.dst v)
/-- The others, one after another; behind one that does not wait for all reads S is to be shown. -/
def wpF (P : Program) (md : Region.Mode) (ops : Array Oper) (Q : Exit → Act → World → Prop) (S : World → Prop) (E : List Nat) : Nat → List Oper → Act → World → Prop
  | _, [], a, w => Q .normal a w
  | k, o :: r, a, w => if Region.wanted o (yielded ops a.tmps) then o.wp P a w (fun a' w' => (waitsAll md ops E k = false → S w') ∧ wpF P md ops Q S E (k + 1) r a' w') Q
    else (waitsAll md ops E k = false → S w) ∧ wpF P md ops Q S E (k + 1) r (a.put o.dst undef) w

theorem wpF_step {k : Nat} {o : Oper} {r : List Oper} {a : Act} {w : World} (hg : o.guard = none)
    (h : ∀ K : Act → World → Prop, (∀ a' w', (waitsAll md ops E k = false → S w') → wpF P md ops Q S E (k + 1) r a' w' → K a' w') → o.wp P a w K Q) : wpF P md ops Q S E k (o :: r) a w := by
  unfold wpF
  rw [if_pos (by simp [Region.wanted, hg])]
  exact h _ fun a' w' h1 h2 => ⟨h1, h2⟩

theorem wpAnyF_of_seq : ∀ (os : List Oper) (k : Nat) (listed : Array Bool) (a : Act) (w : World), (∀ j, os[j]? = ops[k + j]?) →
    Region.seqB md ops os.length k listed = true → wpF P md ops Q S E k os a w → wpAnyF P md ops Q S E os.length listed a w
  | [], _, _, _, _, _, hB, h => ⟨by simpa [Region.seqB] using hB, h⟩
  | o :: os, k, listed, a, w, hl, hB, h => by
    have h0 : ops[k]? = some o := by simpa using (hl 0).symm
    simp only [List.length_cons, Region.seqB, Bool.and_eq_true, decide_eq_true_eq] at hB
    refine ⟨fun h1 => (by rw [hB.1] at h1; cases h1), fun i hi => ?_⟩
    rw [hB.1] at hi
    have hik : i = k := by simpa using hi
    subst hik
    have hnext : ∀ a' w', ((waitsAll md ops E i = false → S w') ∧ wpF P md ops Q S E (i + 1) os a' w') → ((waitsAll md ops E i = false → S w') ∧ wpAnyF P md ops Q S E os.length (listed.setIfInBounds i true) a' w') :=
      fun a' w' h' => ⟨h'.1, wpAnyF_of_seq os (i + 1) _ a' w' (fun j => by have := hl (j + 1); simpa [Nat.add_assoc, Nat.add_comm 1 j] using this) hB.2 h'.2⟩
    unfold wpF at h
    unfold wpOp
    simp only [h0]
    by_cases hw : Region.wanted o (yielded ops a.tmps) = true
    · simp only [hw, if_true] at h ⊢
      exact .inl (Oper.wp_mono hnext h)
    · simp only [hw] at h ⊢
      exact hnext _ _ h

theorem wpAnyF_lex {n g : Nat} {tail : List Oper} (hsel : Region.noSelect ops = true) (hE : ∀ k, k < n → k ∈ E) (hQ : ∀ c (a : Act) d (v : Value) w, Q (.panic c) (a.put d v) w → Q (.panic c) a w) (htl : tail.length = g) (hta : ∀ j, tail[j]? = ops[n + j]?) :
    ∀ (os : List Oper) (k : Nat) (listed : Array Bool) (a : Act) (w : World), (∀ j, j < os.length → os[j]? = ops[k + j]?) → k + os.length = n → S w → Inv md ops listed →
    Region.lexHead md ops g os.length k listed = true → wpY P ops S (fun a' => wpF P md ops Q S E n tail a' w) os a →
    wpAnyF P md ops Q S E (os.length + g) listed a w
  | [], k, listed, a, w, _, hk, _, _, hB, h => by
    have : k = n := by simpa using hk
    subst this
    rw [List.length_nil, Nat.zero_add, ← htl]
    exact wpAnyF_of_seq tail k listed a w hta (by rw [htl]; simpa [Region.lexHead] using hB) h
  | o :: os, k, listed, a, w, hl, hk, hS, hinv, hB, h => by
    have h0 : ops[k]? = some o := by simpa using (hl 0 (by simp)).symm
    simp only [List.length_cons, Region.lexHead, Bool.and_eq_true] at hB
    obtain ⟨⟨hr, hf⟩, hB'⟩ := hB
    have hkn : k < n := by simp only [List.length_cons] at hk; omega
    obtain ⟨v, hy, hK⟩ := h
    rw [List.length_cons, show os.length + 1 + g = (os.length + g) + 1 by omega]
    exact wpAnyF_first (hE k hkn) h0 (Region.noSelect_spec hsel) (fun c a w => hQ c a _ _ w) _ listed a w (Region.free_spec h0 hf) hinv (by simpa using hr) hy hS
      (wpAnyF_lex hsel hE hQ htl hta os (k + 1) _ _ w (fun j hj => by have := hl (j + 1) (by simp; omega); simpa [Nat.add_assoc, Nat.add_comm 1 j] using this) (by simp only [List.length_cons] at hk; omega) hS (hinv.set (by simpa using hr)) hB' hK)

/-- The Bool that the kernel reckons. -/
def earlyB (ops : Array Oper) (n : Nat) : Bool := Region.noSelect ops && decide (n ≤ ops.size) && Region.lexHead .any ops (ops.size - n) n 0 (Array.replicate ops.size false) && ops.all (fun o => match o.op with | .defer _ => false | _ => true)

/-- A region of a round that draws its order: its first n operations read; the others come one after another. -/
theorem round_early {id m : Nat} {a : Act} {w : World} {os : List Oper} (n : Nat) (S : World → Prop) (hm : P.follows .mixedOrders = true) (hB : earlyB os.toArray n = true) (hq : ¬ LetsOut Q)
    (hQ : ∀ c (a : Act) d (v : Value) w, Q (.panic c) (a.put d v) w → Q (.panic c) a w) (hS : S w.drew)
    (h : wpY P os.toArray S (fun a' => wpF P .any os.toArray Q S (List.range n) n (os.drop n) a' w.drew) (os.take n) a) : (Code.region id os.toArray true).wpIn (Fence.wide.inRound l) m P Q a w := by
  simp only [earlyB, Bool.and_eq_true, decide_eq_true_eq] at hB
  obtain ⟨⟨⟨hsel, hn⟩, hlex⟩, hd⟩ := hB
  have hn' : n ≤ os.length := by simpa using hn
  have htl : (os.take n).length = n := by simp; omega
  have H := wpAnyF_lex (md := .any) (E := List.range n) (tail := os.drop n) (g := os.toArray.size - n) hsel (fun k hk => List.mem_range.2 hk) hQ (by simp) (fun j => by simp [List.getElem?_drop]) (os.take n) 0 _ a w.drew
    (fun j hj => by
      have hj' : j < n := by rw [htl] at hj; exact hj
      simp [hj']) (by simpa using htl) hS (Inv.none _ _) (by rw [htl]; exact hlex) h
  refine wpIn_region_draw fun t => wpOpsIn_of_wpOps hq hd _ _ _ ?_
  simp only [Region.schedule, hm, Bool.true_or, if_true]
  rw [htl, show n + (os.toArray.size - n) = os.toArray.size by simp; omega] at H
  exact wpAny_sound _ t _ a _ (wpAny_of_F _ _ _ _ H)

/-- The like outside a round. -/
theorem plain_early {id : Nat} {a : Act} {w : World} {os : List Oper} (n : Nat) (S : World → Prop) (hm : P.follows .mixedOrders = true) (hB : earlyB os.toArray n = true)
    (hQ : ∀ c (a : Act) d (v : Value) w, Q (.panic c) (a.put d v) w → Q (.panic c) a w) (hS : S w.drew)
    (h : wpY P os.toArray S (fun a' => wpF P .any os.toArray Q S (List.range n) n (os.drop n) a' w.drew) (os.take n) a) : (Code.region id os.toArray true).wp P Q a w := by
  simp only [earlyB, Bool.and_eq_true, decide_eq_true_eq] at hB
  obtain ⟨⟨⟨hsel, hn⟩, hlex⟩, _⟩ := hB
  have hn' : n ≤ os.length := by simpa using hn
  have htl : (os.take n).length = n := by simp; omega
  have H := wpAnyF_lex (md := .any) (E := List.range n) (tail := os.drop n) (g := os.toArray.size - n) hsel (fun k hk => List.mem_range.2 hk) hQ (by simp) (fun j => by simp [List.getElem?_drop]) (os.take n) 0 _ a w.drew
    (fun j hj => by
      have hj' : j < n := by rw [htl] at hj; exact hj
      simp [hj']) (by simpa using htl) hS (Inv.none _ _) (by rw [htl]; exact hlex) h
  rw [htl, show n + (os.toArray.size - n) = os.toArray.size by simp; omega] at H
  exact wp_region_any hm (wpAny_of_F _ _ _ _ H)

/-- An operation that appends, its run being known. -/
theorem wp_append_run {o : Oper} {a : Act} {w w' : World} {K : Act → World → Prop} (s x : Operand) (t : TypeId) (v : Value)
    (ho : o.op = .call { callee := .builtin .append, args := #[s, x], argTypes := #[t, t] })
    (hrun : (Builtin.append_ #[t, t] o.type #[a.eval s, a.eval x]).run P w = .ok v w') (h : K (a.put o.dst v) w') : o.wp P a w K Q := by
  unfold Oper.wp execOp
  simp only [ho, resolve, invoke, builtin, Sem.run_bind, Sem.run_pure, Result.andThen_ok, List.map_toArray, List.map_cons, List.map_nil, hrun]
  exact h
end
end Go.Proofs.Ytgbegdjakadbbaa

namespace Go.Proofs.Ytgbegdjakadbbaa
open Go.RowKit
section
variable {P : Program} {ops : Array Oper} {Q : Exit → Act → World → Prop} {l m : Nat} {md : Region.Mode} {S : World → Prop} {E : List Nat}

def invB (md : Region.Mode) (ops : Array Oper) (listed : Array Bool) : Bool := (List.range ops.size).all fun j => !listed.getD j true || ((ops[j]?).map fun o => o.after.all fun e => !Region.binds md e || listed.getD e.on true).getD true
theorem inv_of {listed : Array Bool} (h : invB md ops listed = true) : Inv md ops listed := by
  intro j oj hoj hj e he hb
  have hlt := (Array.getElem?_eq_some_iff.1 hoj).1
  have h1 := List.all_eq_true.1 h j (List.mem_range.2 hlt)
  rw [hj, hoj] at h1
  simp only [Bool.not_true, Bool.false_or, Option.map_some, Option.getD_some] at h1
  have h2 := Array.all_eq_true_iff_forall_mem.1 h1 e he
  rw [hb] at h2
  simpa using h2

/-- Whether the read i may be taken ahead of all that may come. -/
def takeB (md : Region.Mode) (ops : Array Oper) (E : List Nat) (listed : Array Bool) (i : Nat) : Bool :=
  Region.noSelect ops && E.contains i && Region.free md ops listed i && invB md ops listed && (Region.ready md ops listed).contains i

theorem any_take (i : Nat) (v : Value) {oi : Oper} {fuel : Nat} {listed : Array Bool} {a : Act} {w : World} (hi : ops[i]? = some oi) (hB : takeB md ops E listed i = true)
    (hQ : ∀ c (a : Act) d (v : Value) w, Q (.panic c) (a.put d v) w → Q (.panic c) a w) (hy : YieldsIf P ops S oi v a) (hS : S w)
    (h : wpAnyF P md ops Q S E fuel (listed.setIfInBounds i true) (a.put oi.dst v) w) : wpAnyF P md ops Q S E (fuel + 1) listed a w := by
  simp only [takeB, Bool.and_eq_true] at hB
  obtain ⟨⟨⟨⟨h1, h2⟩, h3⟩, h4⟩, h5⟩ := hB
  exact wpAnyF_first (by simpa using h2) hi (Region.noSelect_spec h1) (fun c a w => hQ c a _ _ w) fuel listed a w (Region.free_spec hi h3) (inv_of h4) (by simpa using h5) hy hS h

/-- A read is taken; its value by the walk, and the frame in its literal form. -/
theorem any_tk {W0 : World} (i : Nat) {v : Value} {oi : Oper} {fuel : Nat} {listed : Array Bool} {a a' : Act} {w : World}
    (h : wpAnyF P md ops Q (Below W0.heap.size W0) E fuel (listed.setIfInBounds i true) a' w)
    (hi : ops[i]? = some oi := by rfl)
    (hB : takeB md ops E listed i = true := by kernel_rfl)
    (hQ : ∀ c (a : Act) d (v : Value) w, Q (.panic c) (a.put d v) w → Q (.panic c) a w := by exact fun _ _ _ _ _ hx => hx.elim)
    (hw : Region.wanted oi (yielded ops a.tmps) = true := by rfl)
    (hS : Below W0.heap.size W0 w := by exact bel_of)
    (hy : ∀ X, Below W0.heap.size W0 X → (execOp a.eval oi).run P X = .ok (.value v) X := by (intro X hX; obtain ⟨r1, r2⟩ := Below.rules hX; clear hX; go_simp; rfl))
    (ha : a.put oi.dst v = a' := by (simp only [List.getElem_toArray, List.getElem_cons_succ, List.getElem_cons_zero, Act.put, List.setIfInBounds_toArray, List.set_cons_succ, List.set_cons_zero]; rfl)) :
    wpAnyF P md ops Q (Below W0.heap.size W0) E (fuel + 1) listed a w := any_take i v hi hB hQ (.inl ⟨hw, hy⟩) hS (ha ▸ h)

theorem any_run1 {i : Nat} {o : Oper} {fuel : Nat} {listed : Array Bool} {a : Act} {w : World} (hr : Region.ready md ops listed = [i]) (hi : ops[i]? = some o) (hg : Region.wanted o (yielded ops a.tmps) = true)
    (h : ∀ K : Act → World → Prop, (∀ a' w', (waitsAll md ops E i = false → S w') → wpAnyF P md ops Q S E fuel (listed.setIfInBounds i true) a' w' → K a' w') → o.wp P a w K Q) : wpAnyF P md ops Q S E (fuel + 1) listed a w := by
  refine ⟨fun he => (by rw [hr] at he; cases he), fun j hj => ?_⟩
  rw [hr] at hj
  have : j = i := by simpa using hj
  subst this
  unfold wpOp
  simp only [hi, hg]
  exact .inl (h _ fun a' w' h1 h2 => ⟨h1, h2⟩)

theorem any_skip1 {i : Nat} {o : Oper} {fuel : Nat} {listed : Array Bool} {a : Act} {w : World} (hr : Region.ready md ops listed = [i]) (hi : ops[i]? = some o) (hg : Region.wanted o (yielded ops a.tmps) = false) (hS : S w)
    (h : wpAnyF P md ops Q S E fuel (listed.setIfInBounds i true) (a.put o.dst undef) w) : wpAnyF P md ops Q S E (fuel + 1) listed a w := by
  refine ⟨fun he => (by rw [hr] at he; cases he), fun j hj => ?_⟩
  rw [hr] at hj
  have : j = i := by simpa using hj
  subst this
  unfold wpOp
  simp only [hi, hg]
  exact ⟨fun _ => hS, h⟩

theorem any_run2 {i j : Nat} {o o' : Oper} {fuel : Nat} {listed : Array Bool} {a : Act} {w : World} (hr : Region.ready md ops listed = [i, j]) (hi : ops[i]? = some o) (hj : ops[j]? = some o')
    (hg : Region.wanted o (yielded ops a.tmps) = true) (hg' : Region.wanted o' (yielded ops a.tmps) = true)
    (h : ∀ K : Act → World → Prop, (∀ a' w', (waitsAll md ops E i = false → S w') → wpAnyF P md ops Q S E fuel (listed.setIfInBounds i true) a' w' → K a' w') → o.wp P a w K Q)
    (h' : ∀ K : Act → World → Prop, (∀ a' w', (waitsAll md ops E j = false → S w') → wpAnyF P md ops Q S E fuel (listed.setIfInBounds j true) a' w' → K a' w') → o'.wp P a w K Q) : wpAnyF P md ops Q S E (fuel + 1) listed a w := by
  refine ⟨fun he => (by rw [hr] at he; cases he), fun k hk => ?_⟩
  rw [hr] at hk
  have : k = i ∨ k = j := by simpa using hk
  rcases this with rfl | rfl
  · unfold wpOp
    simp only [hi, hg]
    exact .inl (h _ fun a' w' h1 h2 => ⟨h1, h2⟩)
  · unfold wpOp
    simp only [hj, hg']
    exact .inl (h' _ fun a' w' h1 h2 => ⟨h1, h2⟩)

theorem any_done {listed : Array Bool} {a : Act} {w : World} (hr : Region.ready md ops listed = []) (h : Q .normal a w) : wpAnyF P md ops Q S E 0 listed a w := ⟨hr, h⟩

theorem plain_any {id : Nat} {a : Act} {w : World} {os : List Oper} (E : List Nat) (S : World → Prop) (hm : P.follows .mixedOrders = true)
    (h : wpAnyF P .any os.toArray Q S E os.length (Array.replicate os.length false) a w.drew) : (Code.region id os.toArray true).wp P Q a w :=
  wp_region_any hm (by have := wpAny_of_F _ _ _ _ h; simpa using this)

theorem round_any {id : Nat} {a : Act} {w : World} {os : List Oper} (E : List Nat) (S : World → Prop) (hm : P.follows .mixedOrders = true) (hd : os.toArray.all (fun o => match o.op with | .defer _ => false | _ => true) = true) (hq : ¬ LetsOut Q)
    (h : wpAnyF P .any os.toArray Q S E os.length (Array.replicate os.length false) a w.drew) : (Code.region id os.toArray true).wpIn (Fence.wide.inRound l) m P Q a w := by
  refine wpIn_region_draw fun t => wpOpsIn_of_wpOps hq hd _ _ _ ?_
  simp only [Region.schedule, hm, Bool.true_or, if_true]
  have h' := wpAny_of_F _ _ _ _ h
  exact wpAny_sound _ t _ a _ (by simpa using h')

theorem BK.put {W : World} {g D : Nat} {cs : Array Value} {t : TypeId} (h : BK W g cs t) (hne : g ≠ D) (o : Obj) : BK (W.putObj D o) g cs t := (World.putObj_heap_other hne).trans h
theorem below_put {n D : Nat} {w W : World} (h : Below n w W) (hn : n ≤ D) (o : Obj) : Below n w (W.putObj D o) :=
  h.trans ⟨rfl, rfl, rfl, by simp, fun k hk => World.putObj_heap_other (by omega)⟩
theorem leave2_bk {fn : Func} {R : Ending → World → Prop} {tmps : Array Value} {w W : World} {D D' n g : Nat} {cs : Array Value} {t : TypeId} {v : Value} (hne : D ≠ D') (hK : W.heap[D]? = some (.deferred (some []))) (hK' : W.heap[D']? = some (.deferred (some [])))
    (hb : BK W g cs t) (h1 : g ≠ D) (h2 : g ≠ D') (hB : Below n w W) (hn : n ≤ D) (hn' : n ≤ D') (hv : ∀ W', BK W' g cs t → (results fn tmps).run P W' = .ok v W') (hR : ∀ W', Below n w W' → R (.returned v) W') :
    bodyPostM Fence.wide 100 P fn R .ret { tmps, defers := [{ target := .collected D, args := #[] }, { target := .collected D', args := #[] }] } W :=
  leave2 hne hK hK' (hv _ ((hb.put h1 _).put h2 _)) (hR _ (below_put (below_put hB hn _) hn' _))
theorem leave1_bk {fn : Func} {R : Ending → World → Prop} {tmps : Array Value} {w W : World} {D n g : Nat} {cs : Array Value} {t : TypeId} {v : Value} (hK : W.heap[D]? = some (.deferred (some [])))
    (hb : BK W g cs t) (h1 : g ≠ D) (hB : Below n w W) (hn : n ≤ D) (hv : ∀ W', BK W' g cs t → (results fn tmps).run P W' = .ok v W') (hR : ∀ W', Below n w W' → R (.returned v) W') :
    bodyPostM Fence.wide 100 P fn R .ret { tmps, defers := [{ target := .collected D, args := #[] }] } W :=
  leave1 hK (hv _ (hb.put h1 _)) (hR _ (below_put hB hn _))
end
end Go.Proofs.Ytgbegdjakadbbaa
