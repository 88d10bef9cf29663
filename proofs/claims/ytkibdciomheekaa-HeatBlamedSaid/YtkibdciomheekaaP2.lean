/- Words for memory: a slice that reads as a list, whatever its element type. Ranging over a function, at the fence that asks nothing: an iterator's contract by the number of rounds that are over, and the law for the statement, outside a round and within one. A list in a box that grows by one element: the append and the store behind it, and what of the memory they leave. Contracts of the small functions. -/
import Derived.WalkKit
import Derived.WalkSpells
import Derived.WalkLawsBesides
import Derived.Outline
import Derived.Lib.Hide
import Derived.Test.YtkibdciomheekaaP1
import Derived.RangeFuncNested
import Derived.RangeFuncBound
import Derived.RangeFuncCalls
import Derived.RangeFuncLeaves
import Derived.Shelf.Abstract
import Derived.OwnWalkIn
import Derived.TacticsInMore
import Derived.LoopNIn
import Derived.LoopIn
import Derived.Maps.AppendAt
import Derived.Test.YtkibdciomheekaaRows
set_option linter.all false
set_option linter.unnecessarySimpa false
set_option linter.unusedSimpArgs false
set_option linter.unusedVariables false
set_option linter.unusedSectionVars false

namespace Go.Proofs.Ytkibdciomheekaa
open Go.RowKit Hp

theorem belowN {B : Nat} {a w : World} (h : Below B a w) (n : Nat) : Below B a (w.drewN n) := ⟨h.os, h.tape, h.output, h.size, h.block⟩

/-- What lies below block B stays: shown by the text of the world. -/
theorem bel_of {B : Nat} {w W : World} (h : Below B w W := by (repeat (first | with_reducible assumption | with_reducible exact Below.refl _ _ | (with_reducible refine Below.setCell ?_ (by first | omega | (simp; omega) | (simp; done)) _) | (with_reducible refine Below.alloc ?_ (by first | omega | (simp; omega) | (simp; done)) _) | (with_reducible refine Below.drew ?_) | (with_reducible refine belowN ?_ _) | assumption | exact Below.refl _ _ | (refine Below.alloc ?_ (by first | omega | (simp; omega) | (simp; done)) _) | (refine Below.drew ?_) | (refine belowN ?_ _) | (refine Below.setCell ?_ (by first | omega | (simp; omega) | (simp; done)) _)))) : Below B w W := h

/-- Behind a contract that makes memory: what lay reads as it did. -/
theorem Below.rules {W w1 : World} (hb : Below W.heap.size W w1) : (∀ b o, b < W.heap.size → w1.cell? ⟨b, o, none⟩ = W.cell? ⟨b, o, none⟩) ∧ (∀ b o, b < W.heap.size → w1.frozen? ⟨b, o, none⟩ = W.frozen? ⟨b, o, none⟩) :=
  ⟨fun b o h => hb.cell (p := ⟨b, o, none⟩) h, fun b o h => hb.frozen (p := ⟨b, o, none⟩) h⟩

/-- The slice value v, of n elements of sz cells each, reads as the cells cs; its row lies below block B. -/
def RS (w : World) (B sz : Nat) (v : Value) (n : Nat) (cs : List Value) : Prop :=
  ∃ A cap b off, v = .slice A n cap ∧ (cs.length = n * sz ∧ n ≤ cap) ∧ (n ≠ 0 → A = some ⟨b, off, none⟩ ∧ b < B) ∧ ∀ j, j < cs.length → w.cell? ⟨b, off + j, none⟩ = cs[j]?

theorem RS.keep {w w' : World} {B sz : Nat} {v : Value} {n : Nat} {cs : List Value} (h : RS w B sz v n cs) (hk : ∀ p : Addr, p.block < B → w'.cell? p = w.cell? p) : RS w' B sz v n cs := by
  obtain ⟨A, cap, b, off, hv, hl, hA, hc⟩ := h
  refine ⟨A, cap, b, off, hv, hl, hA, fun j hj => ?_⟩
  have hn : n ≠ 0 := by rintro rfl; simp at hl; rw [hl] at hj; simp at hj
  rw [hk _ (hA hn).2]; exact hc j hj
theorem RS.more {w : World} {B B' sz : Nat} {v : Value} {n : Nat} {cs : List Value} (h : RS w B sz v n cs) (hB : B ≤ B') : RS w B' sz v n cs := by
  obtain ⟨A, cap, b, off, hv, hl, hA, hc⟩ := h
  exact ⟨A, cap, b, off, hv, hl, fun hn => ⟨(hA hn).1, Nat.lt_of_lt_of_le (hA hn).2 hB⟩, hc⟩
theorem RS.below {w w' : World} {B sz : Nat} {v : Value} {n : Nat} {cs : List Value} (h : RS w B sz v n cs) (hb : Below B w w') : RS w' B sz v n cs :=
  h.keep fun _ hp => hb.cell hp
theorem RS.of_own {w : World} {base e sz : Nat} {v : Value} {n : Nat} {cs : List Value} (h : w.ownsRow base e sz v n cs) : RS w w.heap.size sz v n cs := by
  obtain ⟨hl, h2⟩ := h
  rcases h2 with ⟨rfl, rfl⟩ | ⟨g, cap, cur, rfl, _, hg, hcp, _, _, ht⟩
  · exact ⟨none, 0, 0, 0, rfl, ⟨hl, Nat.le_refl _⟩, fun h => absurd rfl h, fun j hj => by simp at hl; subst hl; simp at hj⟩
  · refine ⟨_, cap, g, 0, rfl, ⟨hl, hcp⟩, fun _ => ⟨rfl, (Array.getElem?_eq_some_iff.1 hg).1⟩, fun j hj => ?_⟩
    rw [Nat.zero_add, cell_of_row w g j cur e (0, 0) hg, ← ht, List.getElem?_take_of_lt (by omega)]
    simp

theorem RS.cap {w : World} {B sz : Nat} {A : Option Addr} {n n' c : Nat} {cs : List Value} (h : RS w B sz (.slice A n c) n' cs) : n = n' ∧ n ≤ c := by
  obtain ⟨A', cap, b, off, hv, hl, hA, hc⟩ := h
  injection hv with h1 h2 h3
  omega
/-- A block of cells, known whole. -/
def BK (W : World) (g : Nat) (cs : Array Value) (t : TypeId) : Prop := W.heap[g]? = some (.cells cs t (0, 0))
section
variable {W W' : World} {g : Nat} {cs : Array Value} {t : TypeId}
theorem BK.lt (h : BK W g cs t) : g < W.heap.size := (Array.getElem?_eq_some_iff.1 h).1
theorem BK.cell (h : BK W g cs t) (i : Nat) : W.cell? ⟨g, i, none⟩ = cs[i]? := cell_of_row W g i cs t (0, 0) h
theorem BK.frozen (h : BK W g cs t) (i : Nat) : W.frozen? ⟨g, i, none⟩ = false := by unfold BK at h; simp [World.frozen?, h]
theorem BK.new (W : World) (cs : Array Value) (t : TypeId) : BK (W.alloc (.cells cs t)) W.heap.size cs t := heap_alloc_new W _
theorem BK.new' (W : World) (cs : Array Value) (t : TypeId) (n : Nat) (hn : W.heap.size = n) : BK (W.alloc (.cells cs t)) n cs t := by subst hn; exact heap_alloc_new W _
theorem BK.alloc (h : BK W g cs t) (o : Obj) : BK (W.alloc o) g cs t := (Below.heap_alloc W o g h.lt).trans h
theorem BK.drew (h : BK W g cs t) : BK W.drew g cs t := h
theorem BK.drewN (h : BK W g cs t) (n : Nat) : BK (W.drewN n) g cs t := h
theorem BK.below {B : Nat} (h : BK W g cs t) (hb : Below B W W') (hg : g < B) : BK W' g cs t := (hb.block g hg).trans h
theorem BK.far (h : BK W g cs t) {p : Addr} (hp : g ≠ p.block) (u : Value) : BK (W.setCell p u) g cs t := (Below.heap_setCell W p u g hp).trans h
theorem BK.set (h : BK W g cs t) (i : Nat) (u : Value) : BK (W.setCell ⟨g, i, none⟩ u) g (cs.setIfInBounds i u) t := by
  unfold BK at h ⊢
  simp [World.setCell, Array.getElem?_modify, h]
theorem BK.grown {row : Option Nat} (h : BK W g cs t) (hb : W.grownBy W' row) (hg : some g ≠ row) : BK W' g cs t := (hb.block g h.lt hg).trans h
end

def ofI (l : List Int) : List Value := l.map (.int .i64)
def RI (w : World) (B : Nat) (v : Value) (l : List Int) : Prop := RS w B 1 v l.length (ofI l)
theorem RI.cells {w : World} {B : Nat} {v : Value} {l : List Int} (h : RI w B v l) : ∃ A cap b off, v = .slice A l.length cap ∧ (l.length ≠ 0 → A = some ⟨b, off, none⟩ ∧ b < B) ∧
    ∀ k, k < l.length → w.cell? ⟨b, off + k, none⟩ = some (.int .i64 (nthI l k)) := by
  obtain ⟨A, cap, b, off, hv, hl, hA, hc⟩ := h
  refine ⟨A, cap, b, off, hv, hA, fun k hk => ?_⟩
  rw [hc k (by simpa [ofI] using hk)]
  simp [ofI, nthI, hk]


/-- Structs of so many cells, one after another. -/
def ofG {α : Type} (enc : α → List Value) (l : List α) : List Value := l.flatMap enc
theorem ofG_length {α : Type} {enc : α → List Value} {s : Nat} (he : ∀ x, (enc x).length = s) (l : List α) : (ofG enc l).length = l.length * s := by
  induction l with
  | nil => simp [ofG]
  | cons a t ih =>
    have := he a
    simp only [ofG, List.flatMap_cons, List.length_append, List.length_cons, Nat.succ_mul] at *
    omega
theorem ofG_at {α : Type} {enc : α → List Value} {s : Nat} (he : ∀ x, (enc x).length = s) : ∀ (l : List α) (k j : Nat) (x : α), l[k]? = some x → j < s → (ofG enc l)[k * s + j]? = (enc x)[j]?
  | [], k, j, x, h, _ => by simp at h
  | a :: t, 0, j, x, h, hj => by
    have ha := he a
    simp only [List.getElem?_cons_zero, Option.some.injEq] at h
    subst h
    simp only [ofG, List.flatMap_cons, Nat.zero_mul, Nat.zero_add]
    rw [List.getElem?_append_left (by omega)]
  | a :: t, k + 1, j, x, h, hj => by
    have ha := he a
    have ih := ofG_at he t k j x (by simpa using h) hj
    simp only [ofG, List.flatMap_cons] at ih ⊢
    rw [List.getElem?_append_right (by rw [ha, Nat.succ_mul]; omega), ha, show (k + 1) * s + j - s = k * s + j by rw [Nat.succ_mul]; omega]
    exact ih
theorem ofG_app {α : Type} (enc : α → List Value) (l : List α) (x : α) : ofG enc l ++ enc x = ofG enc (l ++ [x]) := by simp [ofG]
/-- A list of ranges; of kinks. -/
def encR (r : Rg) : List Value := [.int .i64 r.lo, .int .i64 r.hi]
def encK (k : Kk) : List Value := [.int .i64 k.src, .int .i64 k.lo, .int .i64 k.hi]
theorem encR_len (r : Rg) : (encR r).length = 2 := rfl
theorem encK_len (k : Kk) : (encK k).length = 3 := rfl
def RR (w : World) (B : Nat) (v : Value) (l : List Rg) : Prop := RS w B 2 v l.length (ofG encR l)
def RK (w : World) (B : Nat) (v : Value) (l : Wy) : Prop := RS w B 3 v l.length (ofG encK l)
theorem nthB_eq {l : List Rg} {i : Nat} (h : i < l.length) : nthB l i = l[i] := by simp [nthB, h]
theorem RR.cells {w : World} {B : Nat} {v : Value} {l : List Rg} (h : RR w B v l) : ∃ A cap b off, v = .slice A l.length cap ∧ (l.length ≠ 0 → A = some ⟨b, off, none⟩ ∧ b < B) ∧
    ∀ k, k < l.length → w.cell? ⟨b, off + k * 2, none⟩ = some (.int .i64 (nthB l k).lo) ∧ w.cell? ⟨b, off + k * 2 + 1, none⟩ = some (.int .i64 (nthB l k).hi) := by
  obtain ⟨A, cap, b, off, hv, hl, hA, hc⟩ := h
  refine ⟨A, cap, b, off, hv, hA, fun k hk => ?_⟩
  have hg : l[k]? = some (nthB l k) := by unfold nthB; simp [hk]
  have h0 := fun j hj => ofG_at encR_len l k j _ hg hj
  have hlen := ofG_length encR_len l
  have e0 := h0 0 (by omega); have e1 := h0 1 (by omega)
  rw [Nat.add_zero] at e0
  rw [hc (k * 2) (by omega), Nat.add_assoc, hc (k * 2 + 1) (by omega)]
  exact ⟨e0, e1⟩
theorem RK.cells {w : World} {B : Nat} {v : Value} {l : Wy} (h : RK w B v l) : ∃ A cap b off, v = .slice A l.length cap ∧ (l.length ≠ 0 → A = some ⟨b, off, none⟩ ∧ b < B) ∧
    ∀ k, k < l.length → w.cell? ⟨b, off + k * 3, none⟩ = some (.int .i64 (nthK l k).src) ∧ w.cell? ⟨b, off + k * 3 + 1, none⟩ = some (.int .i64 (nthK l k).lo) ∧ w.cell? ⟨b, off + k * 3 + 2, none⟩ = some (.int .i64 (nthK l k).hi) := by
  obtain ⟨A, cap, b, off, hv, hl, hA, hc⟩ := h
  refine ⟨A, cap, b, off, hv, hA, fun k hk => ?_⟩
  have hg : l[k]? = some (nthK l k) := by unfold nthK; simp [hk]
  have h0 := fun j hj => ofG_at encK_len l k j _ hg hj
  have hlen := ofG_length encK_len l
  have e0 := h0 0 (by omega); have e1 := h0 1 (by omega); have e2 := h0 2 (by omega)
  rw [Nat.add_zero] at e0
  rw [hc (k * 3) (by omega), Nat.add_assoc, hc (k * 3 + 1) (by omega), Nat.add_assoc, hc (k * 3 + 2) (by omega)]
  exact ⟨e0, e1, e2⟩
/-- A slice of n cells, each of which reads as something in turn. -/
def RN {α : Type} (R : World → Nat → Value → α → Prop) (w : World) (B : Nat) (v : Value) (l : List α) : Prop :=
  ∃ A cap b off, v = .slice A l.length cap ∧ l.length ≤ cap ∧ (l.length ≠ 0 → A = some ⟨b, off, none⟩ ∧ b < B) ∧ ∀ k x, l[k]? = some x → ∃ u, w.cell? ⟨b, off + k, none⟩ = some u ∧ R w B u x
section
variable {α : Type} {R : World → Nat → Value → α → Prop} {w w' : World} {B B' : Nat} {v : Value} {l : List α}
theorem RN.below (hR : ∀ u x, R w B u x → R w' B u x) (h : RN R w B v l) (hb : Below B w w') : RN R w' B v l := by
  obtain ⟨A, cap, b, off, hv, hl, hA, hc⟩ := h
  refine ⟨A, cap, b, off, hv, hl, hA, fun k x hx => ?_⟩
  obtain ⟨u, h1, h2⟩ := hc k x hx
  have hn : l.length ≠ 0 := by intro h0; rw [List.eq_nil_of_length_eq_zero h0] at hx; simp at hx
  exact ⟨u, (hb.cell (p := ⟨b, off + k, none⟩) (hA hn).2).trans h1, hR u x h2⟩
theorem RN.more (hR : ∀ u x, R w B u x → R w B' u x) (h : RN R w B v l) (hB : B ≤ B') : RN R w B' v l := by
  obtain ⟨A, cap, b, off, hv, hl, hA, hc⟩ := h
  refine ⟨A, cap, b, off, hv, hl, fun hn => ⟨(hA hn).1, Nat.lt_of_lt_of_le (hA hn).2 hB⟩, fun k x hx => ?_⟩
  obtain ⟨u, h1, h2⟩ := hc k x hx
  exact ⟨u, h1, hR u x h2⟩
theorem RN.slice (h : RN R w B v l) : ∃ A c, v = .slice A l.length c := by
  obtain ⟨A, cap, b, off, hv, hl, hA, hc⟩ := h
  exact ⟨A, cap, hv⟩
end
/-- The ways of a step; the steps of a works. -/
def RW (w : World) (B : Nat) (v : Value) (l : Stp) : Prop := RN RK w B v l
def RP (w : World) (B : Nat) (v : Value) (l : List Stp) : Prop := RN RW w B v l
theorem RK.below {w w' : World} {B : Nat} {v : Value} {l : Wy} (h : RK w B v l) (hb : Below B w w') : RK w' B v l := RS.below h hb
theorem RK.more {w : World} {B B' : Nat} {v : Value} {l : Wy} (h : RK w B v l) (hB : B ≤ B') : RK w B' v l := RS.more h hB
theorem RW.below {w w' : World} {B : Nat} {v : Value} {l : Stp} (h : RW w B v l) (hb : Below B w w') : RW w' B v l := RN.below (fun _ _ h => RK.below h hb) h hb
theorem RW.more {w : World} {B B' : Nat} {v : Value} {l : Stp} (h : RW w B v l) (hB : B ≤ B') : RW w B' v l := RN.more (fun _ _ h => RK.more h hB) h hB
theorem RP.below {w w' : World} {B : Nat} {v : Value} {l : List Stp} (h : RP w B v l) (hb : Below B w w') : RP w' B v l := RN.below (fun _ _ h => RW.below h hb) h hb
theorem RP.more {w : World} {B B' : Nat} {v : Value} {l : List Stp} (h : RP w B v l) (hB : B ≤ B') : RP w B' v l := RN.more (fun _ _ h => RW.more h hB) h hB
end Go.Proofs.Ytkibdciomheekaa

namespace Go.Proofs.Ytkibdciomheekaa
open Go.RowKit

/-- A step that a caller's own words abide: blocks are new, or one block that is no cells, from B on, turns. -/
def Adm (B : Nat) (W W' : World) : Prop := ∃ row, W.grownBy W' row ∧ ∀ r, row = some r → B ≤ r ∧ ∃ o : Obj, W.heap[r]? = some o ∧ o.isCells = false
def Stab (B : Nat) (I : World → Prop) : Prop := ∀ W W', I W → Adm B W W' → I W'

theorem Adm.more {B B' : Nat} {W W' : World} (h : Adm B W W') (hB : B' ≤ B) : Adm B' W W' := by
  obtain ⟨row, hg, hr⟩ := h
  exact ⟨row, hg, fun r e => ⟨Nat.le_trans hB (hr r e).1, (hr r e).2⟩⟩
theorem Stab.more {B B' : Nat} {I : World → Prop} (h : Stab B I) (hB : B ≤ B') : Stab B' I := fun W W' hI ha => h W W' hI (ha.more hB)
theorem Adm.size {B : Nat} {W W' : World} (h : Adm B W W') : W.heap.size ≤ W'.heap.size := by obtain ⟨row, hg, _⟩ := h; exact hg.size
theorem Adm.cell {B : Nat} {W W' : World} (h : Adm B W W') {a : Addr} {v : Value} (hc : W.cell? a = some v) : W'.cell? a = some v := by
  obtain ⟨row, hg, hr⟩ := h
  exact cell_kept hc hg fun r e => (hr r e).2
theorem Adm.frozen {B : Nat} {W W' : World} (h : Adm B W W') {a : Addr} {v : Value} (hc : W.cell? a = some v) : W'.frozen? a = W.frozen? a := by
  obtain ⟨row, hg, hr⟩ := h
  exact frozen_kept hc hg fun r e => (hr r e).2
theorem Adm.alloc (B : Nat) (W : World) (o : Obj) : Adm B W (W.alloc o) := ⟨none, World.grownBy_alloc W o none, fun r e => by cases e⟩
theorem Adm.put {B : Nat} {W : World} {l : Nat} {o : Obj} (o' : Obj) (hB : B ≤ l) (hl : W.heap[l]? = some o) (ho : o.isCells = false) : Adm B W (W.putObj l o') :=
  ⟨some l, grownBy_putObj' W l o', fun r e => by cases e; exact ⟨hB, o, hl, ho⟩⟩
theorem Adm.below {B : Nat} {W W' : World} (h : Below W.heap.size W W') : Adm B W W' :=
  ⟨none, ⟨h.os, h.tape, h.output, h.size, fun k hk _ => h.block k hk⟩, fun r e => by cases e⟩
/-- A block that is no cells and lies below B lies on. -/
theorem Adm.obj {B : Nat} {W W' : World} (h : Adm B W W') {k : Nat} {o : Obj} (hk : W.heap[k]? = some o) (hB : k < B) : W'.heap[k]? = some o := by
  obtain ⟨row, hg, hr⟩ := h
  rw [hg.block k (Array.getElem?_eq_some_iff.1 hk).1 (fun e => by have := (hr k e.symm).1; omega)]; exact hk
theorem Adm.cells {B : Nat} {W W' : World} (h : Adm B W W') {k : Nat} {c : Array Value} {t : TypeId} {z : Nat × Nat} (hk : W.heap[k]? = some (.cells c t z)) : W'.heap[k]? = some (.cells c t z) := by
  obtain ⟨row, hg, hr⟩ := h
  rw [hg.block k (Array.getElem?_eq_some_iff.1 hk).1 (fun e => by obtain ⟨_, o, ho, hc⟩ := hr k e.symm; rw [hk] at ho; cases ho; cases hc)]; exact hk
theorem Adm.belowOf {B n₀ : Nat} {w W W' : World} (h : Adm B W W') (hb : Below n₀ w W) (hn : n₀ ≤ w.heap.size) (hB : n₀ ≤ B) : Below n₀ w W' := by
  obtain ⟨row, hg, hr⟩ := h
  exact hb.grown hg (Nat.le_trans hn hb.size) fun k e => Nat.le_trans hB (hr k e).1
theorem Adm.rs {B B' sz : Nat} {W W' : World} {v : Value} {n : Nat} {cs : List Value} (h : Adm B W W') (hr : RS W B' sz v n cs) : RS W' B' sz v n cs := by
  obtain ⟨A, cap, b, off, hv, hl, hA, hc⟩ := hr
  refine ⟨A, cap, b, off, hv, hl, hA, fun j hj => ?_⟩
  rw [h.cell (v := cs[j]) (by rw [hc j hj]; exact List.getElem?_eq_getElem hj)]; exact (List.getElem?_eq_getElem hj).symm
theorem Adm.own {B base e sz : Nat} {W W' : World} {v : Value} {n : Nat} {cs : List Value} (h : Adm B W W') (hr : W.ownsRow base e sz v n cs) : W'.ownsRow base e sz v n cs := by
  obtain ⟨hl, h2⟩ := hr
  refine ⟨hl, ?_⟩
  rcases h2 with h2 | ⟨g, cap, cur, hv, hb, hg, r⟩
  · exact .inl h2
  · exact .inr ⟨g, cap, cur, hv, hb, h.cells hg, r⟩

/-- A round's word: whatever lay from B on lies as it lay, but for blocks of cells of a type in T. -/
def Kept (T : TypeId → Prop) (B : Nat) (W W' : World) : Prop :=
  W.heap.size ≤ W'.heap.size ∧ ∀ (k : Nat) (o : Obj), B ≤ k → W.heap[k]? = some o → (∀ c t z, o = .cells c t z → ¬ T t) → W'.heap[k]? = some o
section
variable {T : TypeId → Prop} {B B' : Nat} {W W' W'' : World}
theorem Kept.refl (T : TypeId → Prop) (B : Nat) (W : World) : Kept T B W W := ⟨Nat.le_refl _, fun _ _ _ h _ => h⟩
theorem Kept.trans (h : Kept T B W W') (k : Kept T B W' W'') : Kept T B W W'' := ⟨Nat.le_trans h.1 k.1, fun i o hb hi ho => k.2 i o hb (h.2 i o hb hi ho) ho⟩
theorem Kept.more (h : Kept T B W W') (hB : B ≤ B') : Kept T B' W W' := ⟨h.1, fun i o hb => h.2 i o (Nat.le_trans hB hb)⟩
theorem Kept.same (h : Kept T B W W') {k : Nat} {o : Obj} (hB : B ≤ k) (hk : W.heap[k]? = some o) (ho : o.isCells = false) : W'.heap[k]? = some o := h.2 k o hB hk (fun c t z e => by subst e; cases ho)
theorem Kept.cells (h : Kept T B W W') {k : Nat} {c : Array Value} {t : TypeId} {z : Nat × Nat} (hB : B ≤ k) (hk : W.heap[k]? = some (.cells c t z)) (ht : ¬ T t) : W'.heap[k]? = some (.cells c t z) :=
  h.2 k _ hB hk (fun c' t' z' e => by cases e; exact ht)
theorem Kept.below (h : Kept T B W W') (hb : Below W'.heap.size W' W'') : Kept T B W W'' :=
  h.trans ⟨hb.size, fun k o _ hk _ => by rw [hb.block k (Array.getElem?_eq_some_iff.1 hk).1]; exact hk⟩
theorem Kept.alloc (h : Kept T B W W') (o : Obj) : Kept T B W (W'.alloc o) := h.below ((Below.refl _ _).alloc (Nat.le_refl _) o)
theorem Kept.drew (h : Kept T B W W') : Kept T B W W'.drew := h.below (Below.refl _ _).drew
theorem Kept.drewN (h : Kept T B W W') (n : Nat) : Kept T B W (W'.drewN n) := h.below (belowN (Below.refl _ _) n)
theorem Kept.put (h : Kept T B W W') {l : Nat} (hl : l < B) (o : Obj) : Kept T B W (W'.putObj l o) :=
  h.trans ⟨by simp, fun k o' hb hk _ => by rw [World.putObj_heap_other (by omega)]; exact hk⟩
theorem Kept.adm (h : Kept T B W W') (ha : Adm B' W' W'') (hB : W.heap.size ≤ B') : Kept T B W W'' := by
  obtain ⟨row, hg, hr⟩ := ha
  refine ⟨Nat.le_trans h.1 hg.size, fun k o hb hk ho => ?_⟩
  have h1 := h.2 k o hb hk ho
  rw [hg.block k (Array.getElem?_eq_some_iff.1 h1).1 (fun e => by have := (hr k e.symm).1; have := (Array.getElem?_eq_some_iff.1 hk).1; omega)]
  exact h1
theorem Kept.setCell (h : Kept T B W W') {p : Addr} (hp : p.block < B ∨ W.heap.size ≤ p.block) (u : Value) : Kept T B W (W'.setCell p u) := by
  refine ⟨by simpa [World.setCell] using h.1, fun k o hb hk ho => ?_⟩
  rw [Below.heap_setCell _ _ _ _ (by have := (Array.getElem?_eq_some_iff.1 hk).1; omega)]
  exact h.2 k o hb hk ho
theorem Kept.grown (h : Kept T B W W') {row : Option Nat} (hg : W'.grownBy W'' row) (hr : ∀ r, row = some r → r < B ∨ W.heap.size ≤ r ∨ ∃ c t z, W'.heap[r]? = some (.cells c t z) ∧ T t) : Kept T B W W'' := by
  refine ⟨Nat.le_trans h.1 hg.size, fun k o hb hk ho => ?_⟩
  have h1 := h.2 k o hb hk ho
  rw [hg.block k (Array.getElem?_eq_some_iff.1 h1).1 (fun e => ?_)]
  · exact h1
  · rcases hr k e.symm with h2 | h2 | ⟨c, t, z, h2, ht⟩
    · omega
    · have := (Array.getElem?_eq_some_iff.1 hk).1; omega
    · rw [h1] at h2; injection h2 with h2; exact ho c t z h2 ht
end

theorem RoundIn.any {m m' : Nat} {P : Program} {l : Nat} {f : FuncId} {tmps : Array Value} {assign body : Code} {w : World} {R : Ending → World → Prop}
    (h : RoundIn Fence.wide m P l f tmps assign body w R) : RoundIn Fence.wide m' P l f tmps assign body w R := ⟨h.1, fun c cs _ => h.2 c cs (room_wide _)⟩

/-- The iterator gf, its captured values lb: N rounds, the i-th one with the values enc i; what it reads is R, which the rounds keep. -/
def Iter (P : Program) (gf : Nat) (lb : Array Value) (enc : Nat → Array Value) (N : Nat) (R : World → Prop) (T : TypeId → Prop) : Prop :=
  ∀ (l : Nat) (J Jx : Nat → World → Prop) (W : World), (∀ i, Stab W.heap.size (J i)) → (∀ i, Stab W.heap.size (Jx i)) → (∀ i W1, J i W1 → R W1 ∧ W.heap.size ≤ W1.heap.size) →
    (∀ i W1 m, i < N → J i W1 → YieldAt Fence.wide m P l (enc i) W1 fun e W' => (e = .returned (.bool true) ∧ J (i + 1) W' ∧ Kept T W.heap.size W1 W') ∨ (e = .returned (.bool false) ∧ Jx i W' ∧ Kept T W.heap.size W1 W')) →
    J 0 W → Calls P gf (#[.func (.yield l) #[] #[]] ++ lb) W fun e W' => (∃ v, e = .returned v) ∧ (J N W' ∨ ∃ i, i < N ∧ Jx i W')

/-- How a round's body is left. -/
def roundEnd (T : TypeId → Prop) (B : Nat) (I : Nat → World → Prop) (Ix : Code → Nat → World → Prop) (i : Nat) (W : World) : Exit → Act → World → Prop
  | .normal, _, W' => Kept T B W W' ∧ I (i + 1) W'
  | .ret, _, W' => Kept T B W W' ∧ Ix .ret i W'
  | .exit id, _, W' => Kept T B W W' ∧ Ix (.exit id) i W'
  | .goto t, _, W' => Kept T B W W' ∧ Ix (.goto t) i W'
  | .panic _, _, _ => False
  | .outgrown, _, _ => False

/-- What a caller owes: the assignment to the loop's left sides, and the body, each walked once in a round's frame. -/
structure Rounds (P : Program) (T : TypeId → Prop) (B : Nat) (tmps : Array Value) (ps : Array Tmp) (assign body : Code) (enc : Nat → Array Value) (N : Nat) (I : Nat → World → Prop) (Ix : Code → Nat → World → Prop) (Ax : Nat → Act → World → Prop) : Prop where
  stab : ∀ i, Stab B (I i)
  stabx : ∀ c i, Stab B (Ix c i)
  staba : ∀ i a, Stab B (Ax i a)
  size : ∀ i W, I i W → B ≤ W.heap.size
  assign : ∀ (l i : Nat) (W : World), i < N → I i W → ∀ K : Act → World → Prop, (∀ a' Wa, Kept T B W Wa → Ax i a' Wa → K a' Wa) → assign.wpIn (Fence.wide.inRound l) 98 P (Exit.then K (fun _ _ _ => False))
    { tmps := (ps.zip (enc i)).foldl (fun t (p, v) => t.setIfInBounds p v) tmps, defers := [] } W
  body : ∀ (l i : Nat) (a' : Act) (W : World), i < N → B ≤ l → (∃ r, W.heap[l]? = some (.loop r)) → Ax i a' W → body.wpIn (Fence.wide.inRound l) 98 P (roundEnd T B I Ix i W) a' W

theorem yield_round {P : Program} {T : TypeId → Prop} {B : Nat} {tmps : Array Value} {ps : Array Tmp} {assign body : Code} {enc : Nat → Array Value} {N : Nat} {I : Nat → World → Prop} {Ix : Code → Nat → World → Prop} {Ax : Nat → Act → World → Prop}
    (hr : Rounds P T B tmps ps assign body enc N I Ix Ax) (hps : ∀ i, (enc i).size = ps.size) (fn : FuncId) (D L : Nat) (hD : B ≤ L)
    (rec : LoopState → Option Code → Loop) (hrec : rec = fun st pe => { state := st, pending := pe, fn, tmps, params := ps, assign, body, defers := D })
    (i : Nat) (hi : i < N) (W : World) (hI : I i W) (hl : W.heap[L]? = some (.loop (rec .ready none))) (m : Nat) :
    YieldAt Fence.wide m P L (enc i) W fun e W' => (e = .returned (.bool true) ∧ (I (i + 1) W' ∧ W'.heap[L]? = some (.loop (rec .ready none))) ∧ Kept T (L + 1) W W' ∧ (∀ k o, B ≤ k → k ≠ L → W.heap[k]? = some o → o.isCells = false → W'.heap[k]? = some o)) ∨
      (e = .returned (.bool false) ∧ (∃ c, Ix c i W' ∧ W'.heap[L]? = some (.loop (rec .done (some c)))) ∧ Kept T (L + 1) W W' ∧ (∀ k o, B ≤ k → k ≠ L → W.heap[k]? = some o → o.isCells = false → W'.heap[k]? = some o)) := by
  have hy := run_yield (P := P) (args := enc i) hl (by rw [hrec]; exact hps i)
  rw [hrec] at hy
  refine ⟨fn, _, assign, body, hy, RoundIn.any (m := 98) (roundIn_of_wpIn trivial (wpIn_mono (hr.assign L i W hi hI (fun a' Wa => Kept T B W Wa ∧ Ax i a' Wa) (fun _ _ h1 h2 => ⟨h1, h2⟩)) ?_))⟩
  rintro e a' Wa hp
  cases e with
  | normal =>
    obtain ⟨hk, ha⟩ := hp
    have hla := hk.same hD hl rfl
    have hlt := (Array.getElem?_eq_some_iff.1 hla).1
    refine ⟨_, run_beginRound hla (by rw [hrec]), ?_⟩
    have hl2 : (Wa.putObj L (.loop { rec .ready none with state := .busy })).heap[L]? = some (.loop { rec .ready none with state := .busy }) := World.putObj_heap_same hlt
    refine wpIn_mono (hr.body L i a' _ hi hD ⟨_, hl2⟩ (hr.staba i a' _ _ ha (Adm.put _ hD hla rfl))) ?_
    have fin : ∀ (jump : Option Code) (W3 : World), Kept T B (Wa.putObj L (.loop { rec .ready none with state := .busy })) W3 →
        (Instr.endRound L jump).run P W3 = .ok (.bool jump.isNone) (W3.putObj L (.loop (rec (if jump.isNone then .ready else .done) jump))) ∧
        W3.heap[L]? = some (.loop { rec .ready none with state := .busy }) ∧
        (W3.putObj L (.loop (rec (if jump.isNone then .ready else .done) jump))).heap[L]? = some (.loop (rec (if jump.isNone then .ready else .done) jump)) ∧
        (Kept T (L + 1) W (W3.putObj L (.loop (rec (if jump.isNone then .ready else .done) jump))) ∧ (∀ k o, B ≤ k → k ≠ L → W.heap[k]? = some o → o.isCells = false → (W3.putObj L (.loop (rec (if jump.isNone then .ready else .done) jump))).heap[k]? = some o)) := fun jump W3 hk3 => by
      have hl3 := hk3.same hD hl2 rfl
      have := run_endRound (P := P) jump hl3
      rw [hrec] at this ⊢
      exact ⟨this, by rw [hrec] at hl3; exact hl3, World.putObj_heap_same (Array.getElem?_eq_some_iff.1 hl3).1, (((hk.more (by omega)).put (by omega) _).trans (hk3.more (by omega))).put (by omega) _, fun k o hb hne hk0 ho => by
        rw [World.putObj_heap_other hne]; exact hk3.same hb (by rw [World.putObj_heap_other hne]; exact hk.same hb hk0 ho) ho⟩
    rintro e a3 W3 hp
    cases e with
    | normal =>
      obtain ⟨hk3, hi3⟩ := hp
      obtain ⟨hr', hl3, hl4, hx4⟩ := fin none W3 hk3
      exact ⟨_, _, hr', .inl ⟨rfl, ⟨hr.stab _ _ _ hi3 (Adm.put _ hD hl3 rfl), hl4⟩, hx4⟩⟩
    | ret =>
      obtain ⟨hk3, hi3⟩ := hp
      obtain ⟨hr', hl3, hl4, hx4⟩ := fin (some .ret) W3 hk3
      exact ⟨_, _, hr', .inr ⟨rfl, ⟨.ret, hr.stabx _ _ _ _ hi3 (Adm.put _ hD hl3 rfl), hl4⟩, hx4⟩⟩
    | exit id =>
      obtain ⟨hk3, hi3⟩ := hp
      obtain ⟨hr', hl3, hl4, hx4⟩ := fin (some (.exit id)) W3 hk3
      exact ⟨_, _, hr', .inr ⟨rfl, ⟨.exit id, hr.stabx _ _ _ _ hi3 (Adm.put _ hD hl3 rfl), hl4⟩, hx4⟩⟩
    | goto t =>
      obtain ⟨hk3, hi3⟩ := hp
      obtain ⟨hr', hl3, hl4, hx4⟩ := fin (some (.goto t)) W3 hk3
      exact ⟨_, _, hr', .inr ⟨rfl, ⟨.goto t, hr.stabx _ _ _ _ hi3 (Adm.put _ hD hl3 rfl), hl4⟩, hx4⟩⟩
    | panic ch => exact hp.elim
    | outgrown => exact hp.elim
  | exit id => exact hp.elim
  | goto t => exact hp.elim
  | ret => exact hp.elim
  | panic ch => exact hp.elim
  | outgrown => exact hp.elim

/-- The statement, outside a round. -/
theorem wp_range {P : Program} {g : Operand} {ps : Array Tmp} {assign body : Code} {Q : Exit → Act → World → Prop} {a : Act} {w : World}
    {gf : Nat} {lb : Array Value} (hg : a.eval g = .func (.func gf) #[] lb) (eg : ∀ args w, (callFunc gf args).run P w = .ok (.enter gf args) w)
    {enc : Nat → Array Value} {N : Nat} {R : World → Prop} {T : TypeId → Prop} (hit : Iter P gf lb enc N R T) (hps : ∀ i, (enc i).size = ps.size)
    (I : Nat → World → Prop) (Ix : Code → Nat → World → Prop) (Ax : Nat → Act → World → Prop) (hr : Rounds P T w.heap.size a.tmps ps assign body enc N I Ix Ax) (hR : ∀ i W, I i W → R W) (h0 : I 0 w)
    (hdone : ∀ (D : Nat) (W : World), w.heap.size ≤ D → I N W → W.heap[D]? = some (.deferred (some [])) → Q .normal { a with defers := { target := .collected D, args := #[] } :: a.defers } W)
    (hstop : ∀ (D : Nat) (c : Code) (i : Nat) (W : World), w.heap.size ≤ D → i < N → Ix c i W → W.heap[D]? = some (.deferred (some [])) → c.wp P Q { a with defers := { target := .collected D, args := #[] } :: a.defers } W) :
    (Code.rangeFunc g ps assign body).wp P Q a w := by
  refine (wpIn_wide (n := 100)).1 (wpIn_rangeFunc ?_)
  intro fn _
  obtain ⟨rec, hrec⟩ : ∃ rec : LoopState → Option Code → Loop, rec = fun st pe => { state := st, pending := pe, fn, tmps := a.tmps, params := ps, assign, body, defers := w.heap.size } := ⟨_, rfl⟩
  obtain ⟨W1, hW1⟩ : ∃ W1, (w.alloc (.deferred (some []))).alloc (.loop (rec .ready none)) = W1 := ⟨_, rfl⟩
  have hL1 : W1.heap[w.heap.size + 1]? = some (.loop (rec .ready none)) := by
    rw [← hW1]; have := World.alloc_heap_new (w.alloc (.deferred (some []))) (.loop (rec .ready none)); rwa [World.size_alloc] at this
  have hK1 : W1.heap[w.heap.size]? = some (.deferred (some [])) := by
    rw [← hW1]; exact (Below.heap_alloc _ _ _ (by simp)).trans (World.alloc_heap_new w _)
  have hI1 : I 0 W1 := by rw [← hW1]; exact hr.stab 0 _ _ (hr.stab 0 _ _ h0 (Adm.alloc _ _ _)) (Adm.alloc _ _ _)
  have hS1 : W1.heap.size = w.heap.size + 2 := by rw [← hW1]; simp
  refine ⟨w.heap.size + 1, [{ target := .collected w.heap.size, args := #[] }], W1, { target := .fn (.func gf) lb, args := #[.func (.yield (w.heap.size + 1)) #[] #[]] }, W1, gf,
    #[.func (.yield (w.heap.size + 1)) #[] #[]] ++ lb, W1, ?_, ?_, ?_, ?_, (fun h => by cases h), ?_⟩
  · rw [← hW1, hrec]; exact run_enterLoop_outer _ _ _ _ _
  · simp only [resolve, hg]; simp [go_sem]
  · intro f' _; trivial
  · simp [invoke, go_sem, eg]
  · refine callsIn_wide.2 ((hit (w.heap.size + 1)
      (fun i W => I i W ∧ W.heap[w.heap.size + 1]? = some (.loop (rec .ready none)) ∧ W.heap[w.heap.size]? = some (.deferred (some [])) ∧ W1.heap.size ≤ W.heap.size)
      (fun i W => ∃ c, Ix c i W ∧ W.heap[w.heap.size + 1]? = some (.loop (rec .done (some c))) ∧ W.heap[w.heap.size]? = some (.deferred (some [])) ∧ W1.heap.size ≤ W.heap.size)
      W1 ?_ ?_ (fun i W h => ⟨hR i W h.1, h.2.2.2⟩) ?_ ⟨hI1, hL1, hK1, Nat.le_refl _⟩).mono ?_)
    · rintro i A A' ⟨h1, h2, h3, h4⟩ ha
      exact ⟨hr.stab i _ _ h1 (ha.more (by omega)), ha.obj h2 (by omega), ha.obj h3 (by omega), Nat.le_trans h4 ha.size⟩
    · rintro i A A' ⟨c, h1, h2, h3, h4⟩ ha
      exact ⟨c, hr.stabx c i _ _ h1 (ha.more (by omega)), ha.obj h2 (by omega), ha.obj h3 (by omega), Nat.le_trans h4 ha.size⟩
    · rintro i W m hi ⟨hI, hl, hk, hz⟩
      refine (yield_round hr hps fn w.heap.size (w.heap.size + 1) (by omega) rec hrec i hi W hI hl m).mono ?_
      rintro e W' (⟨rfl, ⟨a1, a2⟩, a3, a4⟩ | ⟨rfl, ⟨c, a1, a2⟩, a3, a4⟩)
      · exact .inl ⟨rfl, ⟨a1, a2, a4 _ _ (Nat.le_refl _) (by omega) hk rfl, Nat.le_trans hz a3.1⟩, a3.more (by omega)⟩
      · exact .inr ⟨rfl, ⟨c, a1, a2, a4 _ _ (Nat.le_refl _) (by omega) hk rfl, Nat.le_trans hz a3.1⟩, a3.more (by omega)⟩
    · rintro e W2 ⟨⟨v, rfl⟩, (⟨hi, hl, hk, _⟩ | ⟨i, hin, c, hi, hl, hk, _⟩)⟩
      · exact ⟨none, _, by have := run_endLoop (P := P) hl (by rw [hrec]; simp); rw [hrec] at this; exact this, hdone _ _ (Nat.le_refl _) (hr.stab _ _ _ hi (Adm.put _ (by omega) hl rfl)) ((World.putObj_heap_other (by omega)).trans hk)⟩
      · exact ⟨some c, _, by have := run_endLoop (P := P) hl (by rw [hrec]; simp); rw [hrec] at this; exact this,
          wpIn_wide.2 (hstop _ c i _ (Nat.le_refl _) hin (hr.stabx _ _ _ _ hi (Adm.put _ (by omega) hl rfl)) ((World.putObj_heap_other (by omega)).trans hk))⟩

/-- A function that holds such statements. -/
theorem calls_of_wp_marks {P : Program} {f : FuncId} {fn : Func} {c : Code} {args : Array Value} {w : World} {R : Ending → World → Prop} (hf : P.funcs[f]? = some fn) (hb : fn.body = some c)
    (h : c.wp P (bodyPostM Fence.wide 100 P fn R) { tmps := args ++ Array.replicate (fn.ntmps - args.size) undef, defers := [] } w) : Calls P f args w R :=
  (callsIn_wide (n := 100)).1 (callsIn_of_wp_marks hf hb trivial (wpIn_wide.2 h))

end Go.Proofs.Ytkibdciomheekaa

namespace Go.Proofs.Ytkibdciomheekaa
open Go.RowKit

theorem own_block {W : World} {base e size n : Nat} {v : Value} {xs : List Value} (h : W.ownsRow base e size v n xs) {g : Nat} (hg : v.ownBlock = some g) : ∃ c, W.heap[g]? = some (.cells c e (0, 0)) := by
  rcases h.2 with ⟨rfl, _⟩ | ⟨g', cap, cur, rfl, _, hh, _⟩
  · cases hg
  · simp [Value.ownBlock] at hg; subst hg; exact ⟨_, hh⟩

/-- 'append(s, x)', x lying in a block of its own. -/
theorem app1 {P : Program} (t ty e : TypeId) (i : TypeInfo) (z : Value) (size bytes : Nat) (ht : P.underlying t = some (.slice e)) (hi : P.info? e = some i) (hz : i.zero = some z) (hsize : i.size = size) (hby : i.bytes = bytes) (hzs : z.cells.size = size) (hsz : 0 < size) (hb1 : bytes ≤ 1000)
    (base : Nat) (w : World) (v : Value) (n : Nat) (xs : List Value) (hown : w.ownsRow base e size v n xs) (g : Nat) (news : List Value) (tn : TypeId) (hg : BK w g news.toArray tn) (hl : news.length = size) (h1 : ∀ u ∈ news, u.oneCell' = true) (hn : n ≤ 100000) (hbase : base ≤ w.heap.size) :
    ∃ g' cap' w', (Builtin.append_ #[t, t] ty #[v, .slice (some ⟨g, 0, none⟩) 1 1]).run P w = .ok (.slice (some ⟨g', 0, none⟩) (n + 1) cap') w' ∧ w'.ownsRow base e size (.slice (some ⟨g', 0, none⟩) (n + 1) cap') (n + 1) (xs ++ news) ∧ w.grownBy w' v.ownBlock ∧
      (v.ownBlock = some g' ∨ g' = w.heap.size) := by
  obtain ⟨v', w', hrun, hown', hgr, _, hat⟩ := run_append_own_at (P := P) w base t ty e i z size bytes ht hi hz hsize hby hzs hsz v n xs hown ⟨g, 0, none⟩ 1 1 news (by omega)
    (fun j u hu => by
      have : (⟨g, 0, none⟩ : Addr).add j = ⟨g, j, none⟩ := by unfold Addr.add; split <;> simp_all
      rw [this, hg.cell j]; simpa using hu) h1 (by unfold maxLen; omega) (by
        have : (n + 1) * bytes ≤ 100001 * 1000 := Nat.mul_le_mul (by omega) hb1
        omega) hbase
  obtain ⟨g', cap', rfl⟩ := ownsRow_succ hown'
  refine ⟨g', cap', w', hrun, hown', hgr, ?_⟩
  rcases hat with h | h
  · left; rw [← h]; rfl
  · right; simpa [Value.ownBlock] using h

/-- A growing list in the box B (of type t, elements of type e, of sz cells each). -/
def Lst (t e sz : Nat) (X : World) (base B n : Nat) (xs : List Value) (v : Value) : Prop := BK X B #[v] t ∧ base ≤ B ∧ X.ownsRow base e sz v n xs
section
variable {t e sz : Nat} {X Y : World} {base B n k : Nat} {xs : List Value} {v : Value}
theorem Lst.adm (h : Lst t e sz X base B n xs v) (ha : Adm k X Y) : Lst t e sz Y base B n xs v := ⟨ha.cells h.1, h.2.1, ha.own h.2.2⟩
theorem Lst.kept {r : Option Nat} (h : Lst t e sz X base B n xs v) (hg : X.grownBy Y r) (h1 : r ≠ some B) (h2 : v.ownBlock = none ∨ v.ownBlock ≠ r) : Lst t e sz Y base B n xs v :=
  ⟨h.1.grown hg (fun he => h1 he.symm), h.2.1, h.2.2.kept hg h2⟩
end

end Go.Proofs.Ytkibdciomheekaa

namespace Go.Proofs.Ytkibdciomheekaa
open Go.RowKit

def inB (lo hi n : Int) : Bool := decide (lo ≤ n) && decide (n ≤ hi)
theorem inB_iff (lo hi n : Int) : inB lo hi n = true ↔ lo ≤ n ∧ n ≤ hi := by simp [inB]

theorem inB_not (lo hi n : Int) : (!inB lo hi n) = (decide (n < lo) || decide (hi < n)) := by
  by_cases h : lo ≤ n <;> by_cases h2 : n ≤ hi <;> simp [inB, h, h2] <;> omega

theorem within1_any (n lo hi : Int) (a b : Addr) (w : World) (h1 : w.cell? a = some (.int .i64 lo)) (h2 : w.cell? b = some (.int .i64 hi)) :
    Calls Try.prog 82 #[.int .i64 n, .pointer (some a), .pointer (some b)] w fun e w' => e = .returned (.bool (!inB lo hi n)) ∧ w = w' := by
  go_enter Try.func82, Try.ntmps82
  go_wp2
  all_goals (go_ret; refine ⟨?_, rfl⟩; rw [inB_not]; simp [*])

def idxOut (lo hi : Int) (l : List Int) : Nat → Option Nat
  | 0 => none
  | k + 1 => match idxOut lo hi l k with
    | some i => some i
    | none => if inB lo hi (nthI l k) then none else some k

theorem indexFunc_any (lo hi : Int) (l : List Int) (v : Value) (B : Nat) (a b : Addr) (w : World) (hl : l.length ≤ 1000) (h : RI w B v l) (h1 : w.cell? a = some (.int .i64 lo)) (h2 : w.cell? b = some (.int .i64 hi)) :
    Calls Try.prog 93 #[v, .func (.func 82) #[] #[.pointer (some a), .pointer (some b)]] w fun e w' =>
      (∃ r : Int, e = .returned (.int .i64 r) ∧ (0 ≤ r ↔ ¬ ∀ k, k < l.length → inB lo hi (nthI l k) = true)) ∧ w = w' := by
  obtain ⟨A, cap, bb, off, rfl, hA, hc⟩ := h.cells
  go_enter Try.func93, Try.ntmps93
  go_wp2_with fail
  go_loop [8] (fun i => ∃ k : Nat, k ≤ l.length ∧ i = .int .i64 k ∧ ∀ j, j < k → inB lo hi (nthI l j) = true) (fun i => l.length - (intOf i).toNat)
  case atStart => exact ⟨0, Nat.zero_le _, rfl, fun j hj => absurd hj (by omega)⟩
  case round =>
    obtain ⟨k, hk, rfl, hall⟩ := hrel
    have HA := Lib.hid hall; clear hall
    by_cases hlt : k < l.length
    · obtain ⟨rfl, hb⟩ := hA (by omega)
      have hck := hc k hlt
      clear hc
      by_cases hin : inB lo hi (nthI l k) = true
      · go_wp2_with (go_at_call 82; refine (within1_any _ _ _ _ _ _ h1 h2).mono ?_; rintro e w' ⟨rfl, rfl⟩)
        go_round
        case rel => exact ⟨k + 1, by omega, by go_num, fun j hj => by
          rcases Nat.lt_succ_iff_lt_or_eq.1 hj with h | rfl
          · exact HA.out j h
          · exact hin⟩
        case measure => simp [intOf]; omega
      · go_wp2_with (go_at_call 82; refine (within1_any _ _ _ _ _ _ h1 h2).mono ?_; rintro e w' ⟨rfl, rfl⟩)
        go_ret
        exact ⟨⟨k, rfl, by simp; exact ⟨k, hlt, by simpa using hin⟩⟩, rfl⟩
    · go_wp2
      go_ret
      refine ⟨⟨-1, rfl, ?_⟩, rfl⟩
      simp
      intro j hj; exact HA.out j (by omega)

def allIn (lo hi : Int) (l : List Int) : Bool := l.all (inB lo hi)
theorem allIn_iff (lo hi : Int) (l : List Int) : allIn lo hi l = true ↔ ∀ k, k < l.length → inB lo hi (nthI l k) = true := by
  unfold allIn
  rw [List.all_eq_true]
  constructor
  · intro h k hk
    exact h _ (by unfold nthI; rw [List.getD_eq_getElem?_getD, List.getElem?_eq_getElem hk]; exact List.getElem_mem hk)
  · intro h x hx
    obtain ⟨k, hk, rfl⟩ := List.mem_iff_getElem.1 hx
    have := h k hk
    unfold nthI at this; rw [List.getD_eq_getElem?_getD, List.getElem?_eq_getElem hk] at this; exact this

theorem containsFunc_any (lo hi : Int) (l : List Int) (v : Value) (B : Nat) (a b : Addr) (w : World) (hl : l.length ≤ 1000) (h : RI w B v l) (h1 : w.cell? a = some (.int .i64 lo)) (h2 : w.cell? b = some (.int .i64 hi)) :
    Calls Try.prog 81 #[v, .func (.func 82) #[] #[.pointer (some a), .pointer (some b)]] w fun e w' =>
      e = .returned (.bool (!allIn lo hi l)) ∧ w = w' := by
  go_enter Try.func81, Try.ntmps81
  go_wp2_with (go_at_call 93; refine (indexFunc_any lo hi l _ B a b _ hl h h1 h2).mono ?_; rintro e w' ⟨⟨r, rfl, hr⟩, rfl⟩; have Hr := Lib.hid hr; clear hr)
  go_ret
  refine ⟨?_, rfl⟩
  have : decide (0 ≤ r) = !allIn lo hi l := by rw [Bool.eq_iff_iff]; simp [Hr.out, ← Bool.not_eq_true, allIn_iff]
  show Ending.returned (.bool (decide (0 ≤ r))) = _
  rw [this]

theorem within_any (lo hi : Int) (l : List Int) (v : Value) (B : Nat) (w : World) (hB : B ≤ w.heap.size) (hl : l.length ≤ 1000) (h : RI w B v l) :
    Calls Try.prog 53 #[.int .i64 lo, .int .i64 hi, v] w fun e w' =>
      e = .returned (.bool (allIn lo hi l)) ∧ (w.alloc (.cells #[.int .i64 lo] 2)).alloc (.cells #[.int .i64 hi] 2) = w' := by
  have h' : RI ((w.alloc (.cells #[.int .i64 lo] 2)).alloc (.cells #[.int .i64 hi] 2)) B v l := h.keep fun p hp => by
    rw [World.cell?_alloc_lt _ _ _ (by simp; omega), World.cell?_alloc_lt _ _ _ (by omega)]
  go_enter Try.func53, Try.ntmps53
  go_wp2_with fail
  refine (containsFunc_any lo hi l _ B ⟨w.heap.size, 0, none⟩ ⟨w.heap.size + 1, 0, none⟩ _ hl h' (by simp) (by simp)).mono ?_
  rintro e w' ⟨rfl, rfl⟩
  go_wp2
  go_ret
  exact ⟨by simp, rfl⟩
theorem within_1 (lo hi x : Int) (w : World) (n : Nat) (hn : w.heap.size = n) :
    Calls Try.prog 53 #[.int .i64 lo, .int .i64 hi, .slice (some ⟨n, 0, none⟩) 1 1] (w.alloc (.cells #[.int .i64 x] 2)) fun e w' =>
      e = .returned (.bool (inB lo hi x)) ∧ ((w.alloc (.cells #[.int .i64 x] 2)).alloc (.cells #[.int .i64 lo] 2)).alloc (.cells #[.int .i64 hi] 2) = w' := by
  subst hn
  refine (within_any lo hi [x] _ (w.heap.size + 1) _ (by simp) (by simp) ⟨_, _, w.heap.size, 0, rfl, ⟨rfl, Nat.le_refl _⟩, fun _ => ⟨rfl, by omega⟩, fun j hj => ?_⟩).mono ?_
  · obtain rfl : j = 0 := by simpa [ofI] using hj
    simp [ofI]
  · rintro e w' ⟨rfl, rfl⟩; exact ⟨by simp [allIn], rfl⟩
theorem within_2 (lo hi x y : Int) (w : World) (n : Nat) (hn : w.heap.size = n) :
    Calls Try.prog 53 #[.int .i64 lo, .int .i64 hi, .slice (some ⟨n, 0, none⟩) 2 2] (w.alloc (.cells #[.int .i64 x, .int .i64 y] 2)) fun e w' =>
      e = .returned (.bool (inB lo hi x && inB lo hi y)) ∧ ((w.alloc (.cells #[.int .i64 x, .int .i64 y] 2)).alloc (.cells #[.int .i64 lo] 2)).alloc (.cells #[.int .i64 hi] 2) = w' := by
  subst hn
  refine (within_any lo hi [x, y] _ (w.heap.size + 1) _ (by simp) (by simp) ⟨_, _, w.heap.size, 0, rfl, ⟨rfl, Nat.le_refl _⟩, fun _ => ⟨rfl, by omega⟩, fun j hj => ?_⟩).mono ?_
  · have : j = 0 ∨ j = 1 := by
      have : j < 2 := by simpa [ofI] using hj
      omega
    rcases this with rfl | rfl <;> simp [ofI]
  · rintro e w' ⟨rfl, rfl⟩; exact ⟨by simp [allIn], rfl⟩
end Go.Proofs.Ytkibdciomheekaa
