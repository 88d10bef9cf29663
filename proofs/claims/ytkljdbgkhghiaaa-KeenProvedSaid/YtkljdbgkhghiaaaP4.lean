/- The reads of a region that draws, first, all at once; what is left comes step by step. A list in a box that grows by one element: the append and the store behind it, and what of the memory they leave. One list of ratios in a box, which grows; the laws at the operation that appends. Three operations that may come in any order. Books: which are valid. The reference's books. -/
import Derived.Test.YtkljdbgkhghiaaaP3
import Derived.Test.YtkljdbgkhghiaaaRows
import Derived.Deep.RegionHeld3
import Derived.Maps.AppendAt
set_option linter.all false
set_option linter.unnecessarySimpa false
set_option linter.unusedSimpArgs false
set_option linter.unusedVariables false
set_option linter.unusedSectionVars false

namespace Go.Proofs.Ytkljdbgkhghiaaa
open Go.RowKit
section
variable {P : Program} {ops : Array Oper} {Q : Exit → Act → World → Prop} {l m : Nat} {md : Region.Mode} {S : World → Prop} {E : List Nat}

def lexOnly (md : Region.Mode) (ops : Array Oper) : Nat → Nat → Array Bool → Bool
  | 0, _, _ => true
  | f + 1, k, listed => (Region.ready md ops listed).contains k && Region.free md ops listed k && lexOnly md ops f (k + 1) (listed.setIfInBounds k true)
def setN : Nat → Nat → Array Bool → Array Bool
  | 0, _, l => l
  | f + 1, k, l => setN f (k + 1) (l.setIfInBounds k true)

theorem any_lex {g : Nat} {w : World} (hsel : Region.noSelect ops = true) (hQ : ∀ c (a : Act) d (v : Value) w, Q (.panic c) (a.put d v) w → Q (.panic c) a w) (hS : S w) :
    ∀ (os : List Oper) (k : Nat) (listed : Array Bool) (a : Act), (∀ j, j < os.length → os[j]? = ops[k + j]?) → (∀ j, k ≤ j → j < k + os.length → j ∈ E) → Inv md ops listed →
    lexOnly md ops os.length k listed = true → wpY P ops S (fun a' => wpAnyF P md ops Q S E g (setN os.length k listed) a' w) os a →
    wpAnyF P md ops Q S E (os.length + g) listed a w
  | [], k, listed, a, _, _, _, _, h => by
    have h' : wpAnyF P md ops Q S E g listed a w := h
    simpa using h'
  | o :: os, k, listed, a, hl, hE, hinv, hB, h => by
    have h0 : ops[k]? = some o := by simpa using (hl 0 (by simp)).symm
    simp only [List.length_cons, lexOnly, Bool.and_eq_true] at hB
    obtain ⟨⟨hr, hf⟩, hB'⟩ := hB
    obtain ⟨v, hy, hK⟩ := h
    rw [List.length_cons, show os.length + 1 + g = (os.length + g) + 1 by omega]
    have hr' : k ∈ Region.ready md ops listed := by simpa using hr
    exact wpAnyF_first (hE k (Nat.le_refl _) (by simp)) h0 (Region.noSelect_spec hsel) (fun c a w => hQ c a _ _ w) _ listed a w (Region.free_spec h0 hf) hinv hr' hy hS
      (any_lex hsel hQ hS os (k + 1) _ _ (fun j hj => by have := hl (j + 1) (by simp; omega); simpa [Nat.add_assoc, Nat.add_comm 1 j] using this) (fun j h1 h2 => hE j (by omega) (by simp; omega)) (hinv.set hr') hB' hK)

def lexAB (ops : Array Oper) (n : Nat) : Bool := Region.noSelect ops && decide (n ≤ ops.size) && lexOnly .any ops n 0 (Array.replicate ops.size false)

theorem plain_lex {id : Nat} {a : Act} {w : World} {os : List Oper} (n g : Nat) (S : World → Prop) (hm : P.follows .mixedOrders = true) (hB : lexAB os.toArray n = true) (hg : os.length = n + g) (hS : S w.drew)
    (h : wpY P os.toArray S (fun a' => wpAnyF P .any os.toArray (NoPanic Q) S (List.range n) g (setN n 0 (Array.replicate os.length false)) a' w.drew) (os.take n) a) : (Code.region id os.toArray true).wp P Q a w := by
  simp only [lexAB, Bool.and_eq_true, decide_eq_true_eq] at hB
  obtain ⟨⟨hsel, hn⟩, hlex⟩ := hB
  have hn' : n ≤ os.length := by simpa using hn
  have htl : (os.take n).length = n := by simp; omega
  refine wp_region_noPanic (plain_any (List.range n) S hm ?_)
  have H := any_lex (md := .any) (E := List.range n) (g := g) (P := P) (Q := NoPanic Q) (w := w.drew) hsel (fun c a d v w hx => hx) hS (os.take n) 0 (Array.replicate os.length false) a
    (fun j hj => by
      have hj' : j < n := by rw [htl] at hj; exact hj
      simp [hj']) (fun j _ h2 => List.mem_range.2 (by omega)) (by have := Inv.none .any os.toArray; simpa using this) (by rw [htl]; simpa using hlex) (by rw [htl]; exact h)
  rw [htl, ← hg] at H
  exact H

/-- The like, the reads being of what lay when the region began. -/
theorem plain_read {id : Nat} {a : Act} {w : World} {os : List Oper} (n g : Nat) (hm : P.follows .mixedOrders = true) (hB : lexAB os.toArray n = true) (hg : os.length = n + g)
    (h : wpY P os.toArray (Below w.heap.size w) (fun a' => wpAnyF P .any os.toArray (NoPanic Q) (Below w.heap.size w) (List.range n) g (setN n 0 (Array.replicate os.length false)) a' w.drew) (os.take n) a) : (Code.region id os.toArray true).wp P Q a w :=
  plain_lex n g _ hm hB hg (Below.refl _ _).drew h
end
theorem mixed : Try.prog.follows .mixedOrders = true := by kernel_rfl
end Go.Proofs.Ytkljdbgkhghiaaa

namespace Go.Proofs.Ytkljdbgkhghiaaa
open Go.RowKit

theorem own_block {W : World} {base e size n : Nat} {v : Value} {xs : List Value} (h : W.ownsRow base e size v n xs) {g : Nat} (hg : v.ownBlock = some g) : ∃ c, W.heap[g]? = some (.cells c e (0, 0)) := by
  rcases h.2 with ⟨rfl, _⟩ | ⟨g', cap, cur, rfl, _, hh, _⟩
  · cases hg
  · simp [Value.ownBlock] at hg; subst hg; exact ⟨_, hh⟩

/-- 'append(s, x)', x lying in a block of its own. -/
theorem app1 {P : Program} (t ty e : TypeId) (i : TypeInfo) (z : Value) (size bytes : Nat) (ht : P.underlying t = some (.slice e)) (hi : P.info? e = some i) (hz : i.zero = some z) (hsize : i.size = size) (hby : i.bytes = bytes) (hzs : z.cells.size = size) (hsz : 0 < size) (hb1 : bytes ≤ 1000)
    (base : Nat) (w : World) (v : Value) (n : Nat) (xs : List Value) (hown : w.ownsRow base e size v n xs) (g : Nat) (news : List Value) (tn : TypeId) (hg : BK w g news.toArray tn) (hl : news.length = size) (h1 : ∀ u ∈ news, u.oneCell' = true) (hn : n ≤ 100000) (hbase : base ≤ w.heap.size) :
    ∃ g' cap' w', (Builtin.append_ #[t, t] ty #[v, .slice (some ⟨g, 0, none⟩) 1 1]).run P w = .ok (.slice (some ⟨g', 0, none⟩) (n + 1) cap') w' ∧ w'.ownsRow base e size (.slice (some ⟨g', 0, none⟩) (n + 1) cap') (n + 1) (xs ++ news) ∧ w.grownBy w' v.ownBlock ∧
      (v.ownBlock = some g' ∨ g' = w.heap.size) := by
  obtain ⟨v', w', hrun, hown', hgr, _, hat⟩ := run_append_own_at (P := P) w base t ty e i z size bytes ht hi hz hsize hby hzs hsz v n xs hown ⟨g, 0, none⟩ 1 1 news (by omega)
    (fun j u hu => by
      have : (⟨g, 0, none⟩ : Addr).add j = ⟨g, j, none⟩ := by unfold Addr.add; split <;> simp_all
      rw [this, hg.cell j]; simpa using hu) h1 (by unfold maxLen; omega) (by
        have : (n + 1) * bytes ≤ 100001 * 1000 := Nat.mul_le_mul (by omega) hb1
        omega) hbase
  obtain ⟨g', cap', rfl⟩ := ownsRow_succ hown'
  refine ⟨g', cap', w', hrun, hown', hgr, ?_⟩
  rcases hat with h | h
  · left; rw [← h]; rfl
  · right; simpa [Value.ownBlock] using h

/-- A growing list in the box B (of type t, elements of type e, of sz cells each). -/
def Lst (t e sz : Nat) (X : World) (base B n : Nat) (xs : List Value) (v : Value) : Prop := BK X B #[v] t ∧ base ≤ B ∧ X.ownsRow base e sz v n xs
section
variable {t e sz : Nat} {X Y : World} {base B n k : Nat} {xs : List Value} {v : Value}
theorem Lst.adm (h : Lst t e sz X base B n xs v) (ha : Adm k X Y) : Lst t e sz Y base B n xs v := ⟨ha.cells h.1, h.2.1, ha.own h.2.2⟩
theorem Lst.kept {r : Option Nat} (h : Lst t e sz X base B n xs v) (hg : X.grownBy Y r) (h1 : r ≠ some B) (h2 : v.ownBlock = none ∨ v.ownBlock ≠ r) : Lst t e sz Y base B n xs v :=
  ⟨h.1.grown hg (fun he => h1 he.symm), h.2.1, h.2.2.kept hg h2⟩
theorem Lst.own_ne {B' : Nat} {cs : Array Value} {t' : Nat} (h : Lst t e sz X base B n xs v) (hb : BK X B' cs t') (ht : t' ≠ e) : v.ownBlock ≠ some B' := fun hq => by
  obtain ⟨c, hc⟩ := own_block h.2.2 hq
  rw [hb] at hc
  injection hc with hc
  injection hc with _ hc
  exact ht hc
end

/-- What grows in the box B by news: the run of the append, and the state behind the store. -/
theorem grow1 {P : Program} {t e size bytes : Nat} {z : Value} (hinf : (P.info? e).map (fun i => (i.zero, i.size, i.bytes)) = some (some z, size, bytes)) (ht : P.underlying t = some (.slice e)) (hzs : z.cells.size = size) (hsz : 0 < size) (hb1 : bytes ≤ 1000) (hte : t ≠ e)
    {base B n : Nat} {A w1 : World} {xs news : List Value} {v : Value} (h : Lst t e size A base B n xs v) (hbw : Below A.heap.size A w1) (hl : news.length = size) (h1 : ∀ u ∈ news, u.oneCell' = true) (hn : n ≤ 100000) (hbase : base ≤ A.heap.size) (ty tn : Nat) :
    ∃ g' cap' w2, (Builtin.append_ #[t, t] ty #[v, .slice (some ⟨w1.heap.size, 0, none⟩) 1 1]).run P (w1.alloc (.cells news.toArray tn)) = .ok (.slice (some ⟨g', 0, none⟩) (n + 1) cap') w2 ∧
      w1.cell? ⟨B, 0, none⟩ = some v ∧ w2.cell? ⟨B, 0, none⟩ = some v ∧ w2.frozen? ⟨B, 0, none⟩ = false ∧
      Lst t e size (w2.setCell ⟨B, 0, none⟩ (.slice (some ⟨g', 0, none⟩) (n + 1) cap')) base B (n + 1) (xs ++ news) (.slice (some ⟨g', 0, none⟩) (n + 1) cap') ∧
      A.heap.size ≤ w2.heap.size ∧ (v.ownBlock = some g' ∨ A.heap.size ≤ g') ∧
      (∀ n' w, n' ≤ base → Below n' w A → Below n' w (w2.setCell ⟨B, 0, none⟩ (.slice (some ⟨g', 0, none⟩) (n + 1) cap'))) ∧
      (∀ k o, A.heap[k]? = some o → k ≠ B → v.ownBlock ≠ some k → (w2.setCell ⟨B, 0, none⟩ (.slice (some ⟨g', 0, none⟩) (n + 1) cap')).heap[k]? = some o) := by
  obtain ⟨i0, hi0, hz0, hz1, hz2⟩ := info_parts hinf
  obtain ⟨hB, hBb, hO⟩ := h
  have hO1 : w1.ownsRow base e size v n xs := (Adm.below (B := 0) hbw).own hO
  have hB1 := hB.below hbw hB.lt
  have hs1 := hbw.size
  obtain ⟨g', cap', w2, hrun, hown', hgr, hg'⟩ := app1 (P := P) t ty e i0 z size bytes ht hi0 hz0 hz1 hz2 hzs hsz hb1 base (w1.alloc (.cells news.toArray tn)) v n xs (hO1.alloc _) w1.heap.size news tn (BK.new _ _ _) hl h1 hn (by simp; omega)
  have hvB : v.ownBlock ≠ some B := fun hq => by
    obtain ⟨c, hc⟩ := own_block hO hq
    rw [hB] at hc; injection hc with hc; injection hc with _ hc; exact hte hc
  have hB2 := (hB1.alloc (.cells news.toArray tn)).grown hgr (fun he => hvB he.symm)
  have hs2 := hgr.size
  simp at hs2
  have hBlt := hB.lt
  have hown3 : (w2.setCell ⟨B, 0, none⟩ (.slice (some ⟨g', 0, none⟩) (n + 1) cap')).ownsRow base e size (.slice (some ⟨g', 0, none⟩) (n + 1) cap') (n + 1) (xs ++ news) := by
    obtain ⟨hx, hy⟩ := hown'
    refine ⟨hx, ?_⟩
    rcases hy with hy | ⟨g2, c2, cur, hv, hb, hh, hr⟩
    · exact .inl hy
    · refine .inr ⟨g2, c2, cur, hv, hb, ?_, hr⟩
      rw [Below.heap_setCell]
      · exact hh
      · rintro rfl
        have hx := hB2
        unfold BK at hx
        rw [hh] at hx; injection hx with hx; injection hx with _ hx; exact hte hx.symm
  refine ⟨g', cap', w2, hrun, hB1.cell 0, hB2.cell 0, hB2.frozen 0, ⟨?_, hBb, hown3⟩, by omega, ?_, ?_, ?_⟩
  · simpa using hB2.set 0 (.slice (some ⟨g', 0, none⟩) (n + 1) cap')
  · rcases hg' with h | h
    · exact .inl h
    · right; simp at h; omega
  · intro n' w hn' hb
    refine Below.setCell ?_ (Nat.le_trans hn' hBb) _
    refine Below.grown (B := n') (Below.alloc (Below.trans (a := w) hb (hbw.mono (by omega))) (by omega) _) hgr (by simp; omega) ?_
    intro k hk
    exact Nat.le_trans hn' (hO.lt k hk).1
  · intro k o hk hkB hkv
    have hlt := (Array.getElem?_eq_some_iff.1 hk).1
    rw [Below.heap_setCell _ _ _ _ (by exact hkB), hgr.block k (by simp; omega) (fun he => hkv he.symm), Below.heap_alloc _ _ _ (by omega), hbw.block k hlt]
    exact hk
end Go.Proofs.Ytkljdbgkhghiaaa

namespace Go.Proofs.Ytkljdbgkhghiaaa
open Go.RowKit

section
variable {P : Program} {ops : Array Oper} {Q : Exit → Act → World → Prop}
theorem wpList_append_run {rest : List Oper} {o : Oper} {a : Act} {w w' : World} (hgd : o.guard = none) (s x : Operand) (t : TypeId) (v : Value)
    (ho : o.op = .call { callee := .builtin .append, args := #[s, x], argTypes := #[t, t] })
    (hrun : (Builtin.append_ #[t, t] o.type #[a.eval s, a.eval x]).run P w = .ok v w') (h : wpList P ops Q rest (a.put o.dst v) w') : wpList P ops Q (o :: rest) a w := by
  refine wpList_plain hgd fun K hK => ?_
  exact wp_append_run s x t v ho hrun (hK _ _ h)
theorem wpListIn_append_run {F : Fence} {n : Nat} {rest : List Oper} {o : Oper} {a : Act} {w w' : World} (hgd : o.guard = none) (s x : Operand) (t : TypeId) (v : Value)
    (ho : o.op = .call { callee := .builtin .append, args := #[s, x], argTypes := #[t, t] })
    (hrun : (Builtin.append_ #[t, t] o.type #[a.eval s, a.eval x]).run P w = .ok v w') (h : wpListIn F n P ops Q rest (a.put o.dst v) w') : wpListIn F n P ops Q (o :: rest) a w := by
  refine wpListIn_plain hgd fun K hK' => ?_
  unfold Oper.wpIn
  refine ⟨?_, ?_⟩
  · simp [Oper.about, ho, resolve, Target.leads, Sem.run_pure]
  · rw [Oper.semAt_plain F _ _ (by rw [ho]; intro c hc'; cases hc')]
    unfold execOp
    simp only [ho, resolve, invoke, builtin, Sem.run_bind, Sem.run_pure, Result.andThen_ok, List.map_toArray, List.map_cons, List.map_nil, hrun]
    exact hK' _ _ h
end

end Go.Proofs.Ytkljdbgkhghiaaa

namespace Go.Proofs.Ytkljdbgkhghiaaa
open Go.RowKit
section
variable {P : Program} {ops : Array Oper} {Q : Exit → Act → World → Prop} {md : Region.Mode} {S : World → Prop} {E : List Nat}
theorem any_run3 {i j k : Nat} {o o' o'' : Oper} {fuel : Nat} {listed : Array Bool} {a : Act} {w : World} (hr : Region.ready md ops listed = [i, j, k]) (hi : ops[i]? = some o) (hj : ops[j]? = some o') (hk : ops[k]? = some o'')
    (hg : Region.wanted o (yielded ops a.tmps) = true) (hg' : Region.wanted o' (yielded ops a.tmps) = true) (hg'' : Region.wanted o'' (yielded ops a.tmps) = true)
    (h : ∀ K : Act → World → Prop, (∀ a' w', (waitsAll md ops E i = false → S w') → wpAnyF P md ops Q S E fuel (listed.setIfInBounds i true) a' w' → K a' w') → o.wp P a w K Q)
    (h' : ∀ K : Act → World → Prop, (∀ a' w', (waitsAll md ops E j = false → S w') → wpAnyF P md ops Q S E fuel (listed.setIfInBounds j true) a' w' → K a' w') → o'.wp P a w K Q)
    (h'' : ∀ K : Act → World → Prop, (∀ a' w', (waitsAll md ops E k = false → S w') → wpAnyF P md ops Q S E fuel (listed.setIfInBounds k true) a' w' → K a' w') → o''.wp P a w K Q) : wpAnyF P md ops Q S E (fuel + 1) listed a w := by
  refine ⟨fun he => (by rw [hr] at he; cases he), fun m hm => ?_⟩
  rw [hr] at hm
  have : m = i ∨ m = j ∨ m = k := by simpa using hm
  rcases this with rfl | rfl | rfl
  · unfold wpOp
    simp only [hi, hg]
    exact .inl (h _ fun a' w' h1 h2 => ⟨h1, h2⟩)
  · unfold wpOp
    simp only [hj, hg']
    exact .inl (h' _ fun a' w' h1 h2 => ⟨h1, h2⟩)
  · unfold wpOp
    simp only [hk, hg'']
    exact .inl (h'' _ fun a' w' h1 h2 => ⟨h1, h2⟩)
end
end Go.Proofs.Ytkljdbgkhghiaaa

namespace Go.Proofs.Ytkljdbgkhghiaaa
open Go.RowKit Kp

def anyB (P : Kt → Bool) (l : List Kt) : Bool := l.any P
theorem anyB_iff (P : Kt → Bool) (l : List Kt) : anyB P l = true ↔ ∃ k, k < l.length ∧ P (nthT l k) = true := by
  unfold anyB
  rw [List.any_eq_true]
  constructor
  · rintro ⟨t, ht, hp⟩
    obtain ⟨j, hj, rfl⟩ := List.getElem_of_mem ht
    exact ⟨j, hj, by unfold nthT; rw [List.getD_eq_getElem?_getD, List.getElem?_eq_getElem hj]; exact hp⟩
  · rintro ⟨k, hk, hp⟩
    exact ⟨_, List.getElem_mem hk, by unfold nthT at hp; rw [List.getD_eq_getElem?_getD, List.getElem?_eq_getElem hk] at hp; exact hp⟩

set_option maxHeartbeats 1000000 in
theorem clo_book (E e : Int) (t : Kt) (g1 g2 : Nat) (w : World) (hE : 0 ≤ E ∧ E ≤ 100) (c1 : w.cell? ⟨g1, 0, none⟩ = some (.int .i64 E)) (c2 : w.cell? ⟨g2, 0, none⟩ = some (.int .i64 e)) :
    Calls Try.prog 75 #[tV t, .pointer (some ⟨g1, 0, none⟩), .pointer (some ⟨g2, 0, none⟩)] w fun x w' => x = .returned (.bool (testE E t == e)) ∧ Below w.heap.size w w' := by
  have l1 : g1 < w.heap.size := World.block_lt_of_cell? w _ c1
  have l2 : g2 < w.heap.size := World.block_lt_of_cell? w _ c2
  unfold tV
  have hC : Below w.heap.size w w := Below.refl _ _
  go_enter Try.func75, Try.ntmps75
  go_upto_region 1 with fail
  have bt : BK (w.alloc (.cells #[.int .i64 t.one, .int .i64 t.two, .int .i64 t.lo, .int .i64 t.hi] 56)) w.heap.size #[.int .i64 t.one, .int .i64 t.two, .int .i64 t.lo, .int .i64 t.hi] 56 := BK.new _ _ _
  replace hC : Below w.heap.size w (w.alloc (.cells #[.int .i64 t.one, .int .i64 t.two, .int .i64 t.lo, .int .i64 t.hi] 56)) := Below.alloc hC hC.size _
  generalize (w.alloc (.cells #[.int .i64 t.one, .int .i64 t.two, .int .i64 t.lo, .int .i64 t.hi] 56)) = Wbt at *
  obtain ⟨gbt, hgbt⟩ : ∃ g, w.heap.size = g := ⟨_, rfl⟩
  rw [hgbt] at bt
  try rw [hgbt]
  clear hgbt
  rw [← hC.cell (by exact l1)] at c1
  rw [← hC.cell (by exact l2)] at c2
  have s1 := hC.size
  have m1 : g1 < Wbt.heap.size := by omega
  have m2 : g2 < Wbt.heap.size := by omega
  have lbt := bt.lt
  have btc0 := bt.cell 0
  have btc1 := bt.cell 1
  have btc2 := bt.cell 2
  have btc3 := bt.cell 3
  simp at btc0 btc1 btc2 btc3
  refine wp_region_noPanic (plain_any [0, 1, 2, 4, 5] (Below Wbt.heap.size Wbt) mixed ?_)
  (refine any_take 0 ?_ (by rfl) (by kernel_rfl) (fun _ _ _ _ _ hx => hx.elim) (.inl ⟨by rfl, ?_⟩) (by exact bel_of) ?_; rotate_left; (intro X hX; obtain ⟨r1, r2⟩ := Below.rules hX; clear hX; go_simp; rfl); simp only [List.getElem_toArray, List.getElem_cons_succ, List.getElem_cons_zero, Act.put, List.setIfInBounds_toArray, List.set_cons_succ, List.set_cons_zero])
  (refine any_take 1 ?_ (by rfl) (by kernel_rfl) (fun _ _ _ _ _ hx => hx.elim) (.inl ⟨by rfl, ?_⟩) (by exact bel_of) ?_; rotate_left; (intro X hX; obtain ⟨r1, r2⟩ := Below.rules hX; clear hX; go_simp; rfl); simp only [List.getElem_toArray, List.getElem_cons_succ, List.getElem_cons_zero, Act.put, List.setIfInBounds_toArray, List.set_cons_succ, List.set_cons_zero])
  (refine any_take 2 ?_ (by rfl) (by kernel_rfl) (fun _ _ _ _ _ hx => hx.elim) (.inl ⟨by rfl, ?_⟩) (by exact bel_of) ?_; rotate_left; (intro X hX; obtain ⟨r1, r2⟩ := Below.rules hX; clear hX; go_simp; rfl); simp only [List.getElem_toArray, List.getElem_cons_succ, List.getElem_cons_zero, Act.put, List.setIfInBounds_toArray, List.set_cons_succ, List.set_cons_zero])
  (refine any_take 4 ?_ (by rfl) (by kernel_rfl) (fun _ _ _ _ _ hx => hx.elim) (.inl ⟨by rfl, ?_⟩) (by exact bel_of) ?_; rotate_left; (intro X hX; obtain ⟨r1, r2⟩ := Below.rules hX; clear hX; go_simp; rfl); simp only [List.getElem_toArray, List.getElem_cons_succ, List.getElem_cons_zero, Act.put, List.setIfInBounds_toArray, List.set_cons_succ, List.set_cons_zero])
  have d0z : Below Wbt.heap.size Wbt Wbt.drew := by exact bel_of
  have qz1 := d0z.size
  refine any_run1 (i := 3) (by kernel_rfl) (by rfl) (by kernel_rfl) ?_
  intro K hK
  go_wp2_with fail
  refine (checkTest_any E t _ hE).mono ?_
  rintro e vz1 ⟨rfl, hb⟩
  have ez1 : Below Wbt.heap.size Wbt vz1 := d0z.trans (hb.mono d0z.size)
  clear hb
  refine hK _ _ (fun _ => ez1) ?_
  clear hK K
  (refine any_take 5 ?_ (by rfl) (by kernel_rfl) (fun _ _ _ _ _ hx => hx.elim) (.inl ⟨by rfl, ?_⟩) (by exact bel_of) ?_; rotate_left; (intro X hX; obtain ⟨r1, r2⟩ := Below.rules hX; clear hX; go_simp; rfl); simp only [List.getElem_toArray, List.getElem_cons_succ, List.getElem_cons_zero, Act.put, List.setIfInBounds_toArray, List.set_cons_succ, List.set_cons_zero])
  refine any_run1 (i := 6) (by kernel_rfl) (by rfl) (by kernel_rfl) ?_
  intro K hK
  go_wp2_with fail
  refine hK _ _ (fun _ => ez1) ?_
  clear hK K
  refine any_done (by kernel_rfl) (NoPanic.normal ?_)
  go_wp2_with fail
  go_ret
  exact ⟨rfl, hC.trans (ez1.mono s1)⟩

/-- The first place of a test for which it holds, -1 if there is none. -/
theorem idx_book (E e : Int) (g1 g2 : Nat) (ts : List Kt) (v : Value) (w : World) (hl : ts.length ≤ 1000) (h : RT w w.heap.size v ts) (hE : 0 ≤ E ∧ E ≤ 100) (c1 : w.cell? ⟨g1, 0, none⟩ = some (.int .i64 E)) (c2 : w.cell? ⟨g2, 0, none⟩ = some (.int .i64 e)) :
    Calls Try.prog 82 #[v, .func (.func 75) #[] #[.pointer (some ⟨g1, 0, none⟩), .pointer (some ⟨g2, 0, none⟩)]] w fun x w' => (∃ r : Int, x = .returned (.int .i64 r) ∧ (0 ≤ r ↔ anyB (fun t => testE E t == e) ts = true)) ∧ Below w.heap.size w w' := by
  obtain ⟨A, cap, b, off, rfl, hA, hc⟩ := h.cells
  go_enter Try.func82, Try.ntmps82
  go_wp2_with fail
  go_loopw [8] (fun i wr => ∃ k : Nat, k ≤ ts.length ∧ i = .int .i64 k ∧ Below w.heap.size w wr ∧ ∀ j, j < k → (fun t => testE E t == e) (nthT ts j) = false) (fun i _ => ts.length - (intOf i).toNat)
  case atStart => exact ⟨0, Nat.zero_le _, rfl, Below.refl _ _, fun j hj => absurd hj (by omega)⟩
  case round =>
    obtain ⟨k, hk, rfl, hbw, hall⟩ := hrel
    have HA := Lib.hid hall; clear hall
    by_cases hlt : k < ts.length
    · obtain ⟨rfl, hb⟩ := hA (by omega)
      have hck := hc k hlt
      rw [← hbw.cell (by exact hb), ← hbw.cell (by exact hb), ← hbw.cell (by exact hb), ← hbw.cell (by exact hb)] at hck
      obtain ⟨d1, d2, d3, d4⟩ := hck
      have hbb : b < wr.heap.size := Nat.lt_of_lt_of_le hb hbw.size
      have HCl := fun W (hW : Below wr.heap.size wr W) => clo_book E e (nthT ts k) g1 g2 W hE (by rw [(hbw.trans (hW.mono hbw.size)).cell (by exact World.block_lt_of_cell? w _ c1)]; exact c1) (by rw [(hbw.trans (hW.mono hbw.size)).cell (by exact World.block_lt_of_cell? w _ c2)]; exact c2)
      have HCL := Lib.hid HCl; clear HCl
      clear hc c1 c2
      unfold tV at HCL
      cases e1 : (fun t => testE E t == e) (nthT ts k) with
      | false =>
        have E1 := Lib.hid e1
        dsimp only at e1
        rw [e1] at HCL
        clear e1
        go_wp2_with fail
        refine (HCL.out _ (by exact bel_of)).mono ?_
        rintro e w1 ⟨rfl, hb1⟩
        have hb2 : Below w.heap.size w w1 := hbw.trans (hb1.mono hbw.size)
        clear hb1
        go_wp2_with fail
        go_roundw
        case rel => exact ⟨k + 1, by omega, by go_num, hb2, fun j hj => by
          rcases Nat.lt_succ_iff_lt_or_eq.1 hj with h | rfl
          · exact HA.out j h
          · exact E1.out⟩
        case measure => simp [intOf]; omega
      | true =>
        have E1 := Lib.hid e1
        dsimp only at e1
        rw [e1] at HCL
        clear e1
        go_wp2_with fail
        refine (HCL.out _ (by exact bel_of)).mono ?_
        rintro e w1 ⟨rfl, hb1⟩
        have hb2 : Below w.heap.size w w1 := hbw.trans (hb1.mono hbw.size)
        clear hb1
        go_wp2_with fail
        go_ret
        refine ⟨⟨k, rfl, ⟨fun _ => ?_, fun _ => by omega⟩⟩, hb2⟩
        exact (anyB_iff _ ts).2 ⟨k, hlt, E1.out⟩
    · go_wp2
      go_ret
      refine ⟨⟨-1, rfl, ⟨fun h => absurd h (by omega), fun h => ?_⟩⟩, hbw⟩
      exfalso
      obtain ⟨j, hj, hp⟩ := (anyB_iff _ ts).1 h
      have := HA.out j (by omega)
      rw [this] at hp
      cases hp

theorem has_book (E e : Int) (g1 g2 : Nat) (ts : List Kt) (v : Value) (w : World) (hl : ts.length ≤ 1000) (h : RT w w.heap.size v ts) (hE : 0 ≤ E ∧ E ≤ 100) (c1 : w.cell? ⟨g1, 0, none⟩ = some (.int .i64 E)) (c2 : w.cell? ⟨g2, 0, none⟩ = some (.int .i64 e)) :
    Calls Try.prog 74 #[v, .func (.func 75) #[] #[.pointer (some ⟨g1, 0, none⟩), .pointer (some ⟨g2, 0, none⟩)]] w fun x w' => x = .returned (.bool (anyB (fun t => testE E t == e) ts)) ∧ Below w.heap.size w w' := by
  go_enter Try.func74, Try.ntmps74
  go_wp2_with fail
  refine (idx_book E e g1 g2 ts v _ hl h hE c1 c2).mono ?_
  rintro e w1 ⟨⟨r, rfl, hr⟩, hb⟩
  have Hr := Lib.hid hr; clear hr
  go_wp2_with fail
  go_ret
  refine ⟨?_, hb⟩
  have : decide (0 ≤ r) = anyB (fun t => testE E t == e) ts := by rw [Bool.eq_iff_iff, decide_eq_true_eq]; exact Hr.out
  show Ending.returned (.bool (decide (0 ≤ r))) = _
  rw [this]

theorem bookE_eq (E : Int) (ts : List Kt) : bookE E ts = if E < 1 ∨ 16 < E ∨ 40 < ts.length then 6 else if anyB (fun t => testE E t == 2) ts = true then 2 else if anyB (fun t => testE E t == 3) ts = true then 3 else 0 := rfl

set_option maxHeartbeats 1000000 in
theorem checkBook_any (E : Int) (ts : List Kt) (v : Value) (w : World) (hl : ts.length ≤ 1000) (h : RT w w.heap.size v ts) :
    Calls Try.prog 52 #[.agg #[.int .i64 E, v]] w fun x w' => x = .returned (.int .i64 (bookE E ts)) ∧ Below w.heap.size w w' := by
  have HG := Lib.hid (bookE_eq E ts)
  have hs := h.cells
  obtain ⟨A, cap, b, off, rfl, _, _⟩ := hs
  by_cases h0 : E < 1 ∨ 16 < E ∨ 40 < ts.length
  · have HB := Lib.hid (HG.out.trans (if_pos h0)); clear HG
    rcases (show E < 1 ∨ (¬ E < 1 ∧ 16 < E) ∨ (¬ E < 1 ∧ ¬ 16 < E ∧ 40 < ts.length) by omega) with q | ⟨q1, q2⟩ | ⟨q1, q2, q3⟩
    all_goals
      clear h0
      go_enter Try.func52, Try.ntmps52
      go_wp2_with fail
      go_ret
      exact ⟨ret_int HB.out.symm, by exact bel_of⟩
  · have HB := Lib.hid (HG.out.trans (if_neg h0)); clear HG
    have q1 : ¬ E < 1 := by omega
    have q2 : ¬ 16 < E := by omega
    have q3 : ¬ 40 < ts.length := by omega
    have hE : 0 ≤ E ∧ E ≤ 100 := by omega
    clear h0
    have HR := Lib.hid h
    have hC : Below w.heap.size w w := Below.refl _ _
    go_enter Try.func52, Try.ntmps52
    go_wp2_with fail
    have hC2 : Below w.heap.size w ((w.alloc (.cells #[.int .i64 E, .slice A ts.length cap] 24)).alloc (.cells #[.int .i64 2, .int .i64 3] 28)) := by exact bel_of
    obtain ⟨gbB, hn⟩ : ∃ n, w.heap.size = n := ⟨_, rfl⟩
    have bB : BK ((w.alloc (.cells #[.int .i64 E, .slice A ts.length cap] 24)).alloc (.cells #[.int .i64 2, .int .i64 3] 28)) gbB #[.int .i64 E, .slice A ts.length cap] 24 := (BK.new' _ _ _ gbB hn).alloc _
    have bE : BK ((w.alloc (.cells #[.int .i64 E, .slice A ts.length cap] 24)).alloc (.cells #[.int .i64 2, .int .i64 3] 28)) (gbB + 1) #[.int .i64 2, .int .i64 3] 28 := BK.new' _ _ _ (gbB + 1) (by simp [hn])
    rw [hn]
    generalize (w.alloc (.cells #[.int .i64 E, .slice A ts.length cap] 24)).alloc (.cells #[.int .i64 2, .int .i64 3] 28) = WbE at *
    replace hC := hC2
    clear hC2 hn
    go_loopw [21] (fun i wr => ∃ k : Nat, k ≤ 2 ∧ i = .int .i64 k ∧ Below WbE.heap.size WbE wr ∧ (1 ≤ k → anyB (fun t => testE E t == 2) ts = false) ∧ (2 ≤ k → anyB (fun t => testE E t == 3) ts = false)) (fun i _ => 2 - (intOf i).toNat)
    case atStart => exact ⟨0, by omega, rfl, Below.refl _ _, fun h => by omega, fun h => by omega⟩
    case round =>
      obtain ⟨k, hk, rfl, hbr, ha2, ha3⟩ := hrel
      have H2 := Lib.hid ha2
      have H3 := Lib.hid ha3
      clear ha2 ha3
      by_cases hlt : k < 2
      · have bB' := bB.below hbr bB.lt
        have bE' := bE.below hbr bE.lt
        have lB := bB'.lt
        have lE := bE'.lt
        have y0 := bB'.cell 0
        have y1 := bB'.cell 1
        have z0 : wr.cell? ⟨gbB + 1, k, none⟩ = some (.int .i64 (if k = 0 then 2 else 3)) := by
          rw [bE'.cell k]
          rcases (show k = 0 ∨ k = 1 by omega) with rfl | rfl <;> rfl
        obtain ⟨e, he⟩ : ∃ e : Int, (if k = 0 then (2 : Int) else 3) = e := ⟨_, rfl⟩
        rw [he] at z0
        have HE := Lib.hid he
        clear he
        simp at y0 y1
        have hCw : Below w.heap.size w wr := hC.trans (hbr.mono hC.size)
        go_wp2_with fail
        have hn1 : Below wr.heap.size wr (wr.alloc (.cells #[.int .i64 e] 28)) := by exact bel_of
        have hR2 := (RS.below HR.out (hCw.trans (hn1.mono hCw.size))).more (hCw.trans (hn1.mono hCw.size)).size
        refine (has_book E e gbB wr.heap.size ts _ _ hl hR2 hE (by rw [hn1.cell (by exact lB)]; exact y0) (by simp)).mono ?_
        rintro x w1 ⟨rfl, hb1⟩
        have hb2 : Below wr.heap.size wr w1 := hn1.trans (hb1.mono hn1.size)
        have hb3 : Below WbE.heap.size WbE w1 := hbr.trans (hb2.mono hbr.size)
        have hd : w1.cell? ⟨wr.heap.size, 0, none⟩ = some (.int .i64 e) := by rw [hb1.cell (by simp)]; simp
        have hsz : wr.heap.size < w1.heap.size := by have := hb1.size; simp at this; omega
        clear hb1 hn1 hR2 z0
        cases ea : anyB (fun t => testE E t == e) ts with
        | true =>
          have HA := Lib.hid ea
          clear ea
          have hres : bookE E ts = e := by
            have := HE.out
            rcases (show k = 0 ∨ k = 1 by omega) with hk0 | hk0
            · subst hk0
              rw [if_pos rfl] at this
              subst this
              rw [HB.out, if_pos HA.out]
            · subst hk0
              rw [if_neg (by omega)] at this
              subst this
              rw [HB.out, if_neg (by rw [H2.out (Nat.le_refl _)]; simp), if_pos HA.out]
          have HS := Lib.hid hres
          clear hres
          go_wp2_with fail
          go_ret
          exact ⟨ret_int HS.out.symm, hC.trans (hb3.mono hC.size)⟩
        | false =>
          have HA := Lib.hid ea
          clear ea
          go_wp2_with fail
          go_roundw
          case rel =>
            refine ⟨k + 1, by omega, by go_num, hb3, fun h => ?_, fun h => ?_⟩
            · have := HE.out
              rcases (show k = 0 ∨ k = 1 by omega) with hk0 | hk0
              · subst hk0
                rw [if_pos rfl] at this
                subst this
                exact HA.out
              · exact H2.out (by omega)
            · have := HE.out
              rw [if_neg (by omega)] at this
              subst this
              exact HA.out
          case measure => simp [intOf]; omega
      · have hk2 : k = 2 := by omega
        subst hk2
        have HS := Lib.hid (show bookE E ts = 0 by rw [HB.out, if_neg (by rw [H2.out (by omega)]; simp), if_neg (by rw [H3.out (by omega)]; simp)])
        go_wp2_with fail
        go_ret
        exact ⟨ret_int HS.out.symm, hC.trans (hbr.mono hC.size)⟩

end Go.Proofs.Ytkljdbgkhghiaaa

namespace Go.Proofs.Ytkljdbgkhghiaaa
open Go.RowKit Kp

theorem testE_cases (E : Int) (t : Kt) : testE E t = 0 ∨ testE E t = 2 ∨ testE E t = 3 := by
  unfold testE
  split
  · exact .inr (.inl rfl)
  · split
    · exact .inr (.inr rfl)
    · exact .inl rfl
theorem anyB_not {P : Kt → Bool} {l : List Kt} (h : ∀ k, k < l.length → P (nthT l k) = false) : anyB P l = false := by
  rw [← Bool.not_eq_true, anyB_iff]
  rintro ⟨k, hk, hp⟩
  rw [h k hk] at hp; cases hp

set_option maxHeartbeats 2000000 in
theorem refBook_any (E : Int) (ts : List Kt) (v : Value) (w : World) (hl : ts.length ≤ 1000) (h : RT w w.heap.size v ts) :
    Calls Try.prog 21 #[.agg #[.int .i64 E, v]] w fun x w' => x = .returned (.int .i64 (bookE E ts)) ∧ Below w.heap.size w w' := by
  have HG := Lib.hid (bookE_eq E ts)
  have hs := h.cells
  obtain ⟨A, cap, b, off, rfl, hA, hc⟩ := hs
  by_cases h0 : E < 1 ∨ 16 < E ∨ 40 < ts.length
  · have HB := Lib.hid (HG.out.trans (if_pos h0)); clear HG
    clear hA hc
    rcases (show E < 1 ∨ (¬ E < 1 ∧ 16 < E) ∨ (¬ E < 1 ∧ ¬ 16 < E ∧ 40 < ts.length) by omega) with q | ⟨q1, q2⟩ | ⟨q1, q2, q3⟩
    all_goals
      clear h0
      go_enter Try.func21, Try.ntmps21
      go_wp2_with fail
      go_ret
      exact ⟨ret_int HB.out.symm, by exact bel_of⟩
  · have HB := Lib.hid (HG.out.trans (if_neg h0)); clear HG
    have q1 : ¬ E < 1 := by omega
    have q2 : ¬ 16 < E := by omega
    have q3 : ¬ 40 < ts.length := by omega
    have hE : 0 ≤ E ∧ E ≤ 100 := by omega
    clear h0
    have HA := Lib.hid hA
    have HC := Lib.hid hc
    clear hA hc
    have hC : Below w.heap.size w w := Below.refl _ _
    go_enter Try.func21, Try.ntmps21
    go_wp2_with fail
    have bB : BK (w.alloc (.cells #[.int .i64 E, .slice A ts.length cap] 24)) w.heap.size #[.int .i64 E, .slice A ts.length cap] 24 := BK.new _ _ _
    replace hC : Below w.heap.size w (w.alloc (.cells #[.int .i64 E, .slice A ts.length cap] 24)) := Below.alloc hC hC.size _
    generalize (w.alloc (.cells #[.int .i64 E, .slice A ts.length cap] 24)) = WbB at *
    obtain ⟨gbB, hgbB⟩ : ∃ g, w.heap.size = g := ⟨_, rfl⟩
    rw [hgbB] at bB
    try rw [hgbB]
    clear hgbB
    go_loopw [3] (fun i wr => ∃ k : Nat, k ≤ ts.length ∧ i = .int .i64 k ∧ Below WbB.heap.size WbB wr ∧ ∀ j, j < k → (testE E (nthT ts j) == 2) = false) (fun i _ => ts.length - (intOf i).toNat)
    case atStart => exact ⟨0, Nat.zero_le _, rfl, Below.refl _ _, fun j hj => absurd hj (by omega)⟩
    case round =>
      obtain ⟨k, hk, rfl, hbr, hall⟩ := hrel
      have HAL := Lib.hid hall; clear hall
      have hCw : Below w.heap.size w wr := hC.trans (hbr.mono hC.size)
      have bB' := bB.below hbr bB.lt
      have lB := bB'.lt
      have y0 := bB'.cell 0
      have y1 := bB'.cell 1
      simp at y0 y1
      by_cases hlt : k < ts.length
      · obtain ⟨rfl, hb⟩ := HA.out (by omega)
        have hck := HC.out k hlt
        rw [← hCw.cell (by exact hb), ← hCw.cell (by exact hb), ← hCw.cell (by exact hb), ← hCw.cell (by exact hb)] at hck
        obtain ⟨d1, d2, d3, d4⟩ := hck
        have hbb : b < wr.heap.size := Nat.lt_of_lt_of_le hb hCw.size
        go_upto_region 6 with fail
        refine wp_region_noPanic (plain_any [0, 1, 2, 3, 4, 5, 6, 8] (Below wr.heap.size wr) mixed ?_)
        (refine any_take 0 ?_ (by rfl) (by kernel_rfl) (fun _ _ _ _ _ hx => hx.elim) (.inl ⟨by rfl, ?_⟩) (by exact bel_of) ?_; rotate_left; (intro X hX; obtain ⟨r1, r2⟩ := Below.rules hX; clear hX; go_simp; rfl); simp only [List.getElem_toArray, List.getElem_cons_succ, List.getElem_cons_zero, Act.put, List.setIfInBounds_toArray, List.set_cons_succ, List.set_cons_zero])
        (refine any_take 1 ?_ (by rfl) (by kernel_rfl) (fun _ _ _ _ _ hx => hx.elim) (.inl ⟨by rfl, ?_⟩) (by exact bel_of) ?_; rotate_left; (intro X hX; obtain ⟨r1, r2⟩ := Below.rules hX; clear hX; go_simp; rfl); simp only [List.getElem_toArray, List.getElem_cons_succ, List.getElem_cons_zero, Act.put, List.setIfInBounds_toArray, List.set_cons_succ, List.set_cons_zero])
        (refine any_take 2 ?_ (by rfl) (by kernel_rfl) (fun _ _ _ _ _ hx => hx.elim) (.inl ⟨by rfl, ?_⟩) (by exact bel_of) ?_; rotate_left; (intro X hX; obtain ⟨r1, r2⟩ := Below.rules hX; clear hX; go_simp; rfl); simp only [List.getElem_toArray, List.getElem_cons_succ, List.getElem_cons_zero, Act.put, List.setIfInBounds_toArray, List.set_cons_succ, List.set_cons_zero])
        (refine any_take 3 ?_ (by rfl) (by kernel_rfl) (fun _ _ _ _ _ hx => hx.elim) (.inl ⟨by rfl, ?_⟩) (by exact bel_of) ?_; rotate_left; (intro X hX; obtain ⟨r1, r2⟩ := Below.rules hX; clear hX; go_simp; rfl); simp only [List.getElem_toArray, List.getElem_cons_succ, List.getElem_cons_zero, Act.put, List.setIfInBounds_toArray, List.set_cons_succ, List.set_cons_zero])
        (refine any_take 4 ?_ (by rfl) (by kernel_rfl) (fun _ _ _ _ _ hx => hx.elim) (.inl ⟨by rfl, ?_⟩) (by exact bel_of) ?_; rotate_left; (intro X hX; obtain ⟨r1, r2⟩ := Below.rules hX; clear hX; go_simp; rfl); simp only [List.getElem_toArray, List.getElem_cons_succ, List.getElem_cons_zero, Act.put, List.setIfInBounds_toArray, List.set_cons_succ, List.set_cons_zero])
        (refine any_take 5 ?_ (by rfl) (by kernel_rfl) (fun _ _ _ _ _ hx => hx.elim) (.inl ⟨by rfl, ?_⟩) (by exact bel_of) ?_; rotate_left; (intro X hX; obtain ⟨r1, r2⟩ := Below.rules hX; clear hX; go_simp; rfl); simp only [List.getElem_toArray, List.getElem_cons_succ, List.getElem_cons_zero, Act.put, List.setIfInBounds_toArray, List.set_cons_succ, List.set_cons_zero])
        (refine any_take 6 ?_ (by rfl) (by kernel_rfl) (fun _ _ _ _ _ hx => hx.elim) (.inl ⟨by rfl, ?_⟩) (by exact bel_of) ?_; rotate_left; (intro X hX; obtain ⟨r1, r2⟩ := Below.rules hX; clear hX; go_simp; rfl); simp only [List.getElem_toArray, List.getElem_cons_succ, List.getElem_cons_zero, Act.put, List.setIfInBounds_toArray, List.set_cons_succ, List.set_cons_zero])
        have d0z6 : Below wr.heap.size wr wr.drew := by exact bel_of
        have qz61 := d0z6.size
        refine any_run1 (i := 7) (by kernel_rfl) (by rfl) (by kernel_rfl) ?_
        intro K hK
        go_wp2_with fail
        refine (isTest_any E (nthT ts k) _ hE).mono ?_
        rintro e vz61 ⟨rfl, hb⟩
        have ez61 : Below wr.heap.size wr vz61 := d0z6.trans (hb.mono d0z6.size)
        clear hb
        refine hK _ _ (fun _ => ez61) ?_
        clear hK K
        (refine any_take 8 ?_ (by rfl) (by kernel_rfl) (fun _ _ _ _ _ hx => hx.elim) (.inl ⟨by rfl, ?_⟩) (by exact bel_of) ?_; rotate_left; (intro X hX; obtain ⟨r1, r2⟩ := Below.rules hX; clear hX; go_simp; rfl); simp only [List.getElem_toArray, List.getElem_cons_succ, List.getElem_cons_zero, Act.put, List.setIfInBounds_toArray, List.set_cons_succ, List.set_cons_zero])
        cases e1 : (testE E (nthT ts k) == 2) with
        | true =>
          have E1 := Lib.hid e1
          clear e1
          have hres : bookE E ts = 2 := by
            rw [HB.out, if_pos ((anyB_iff _ ts).2 ⟨k, hlt, E1.out⟩)]
          have HS := Lib.hid hres
          clear hres
          refine any_done (by kernel_rfl) (NoPanic.normal ?_)
          have B1 := E1.out
          go_wp2_with fail
          go_ret
          exact ⟨ret_int HS.out.symm, hCw.trans (ez61.mono hCw.size)⟩
        | false =>
          have E1 := Lib.hid e1
          clear e1
          refine any_done (by kernel_rfl) (NoPanic.normal ?_)
          have B1 := E1.out
          go_wp2_with fail
          go_roundw
          case rel => exact ⟨k + 1, by omega, by go_num, hbr.trans (ez61.mono hbr.size), fun j hj => by
            rcases Nat.lt_succ_iff_lt_or_eq.1 hj with h | rfl
            · exact HAL.out j h
            · exact E1.out⟩
          case measure => simp [intOf]; omega
      · have HN := Lib.hid (anyB_not (P := fun t => testE E t == 2) (l := ts) fun j hj => HAL.out j (by omega))
        have hC3 := hCw
        clear hCw
        replace bB := bB'
        clear bB' HAL hbr hC
        have hC := hC3
        clear hC3
        have HB2 := Lib.hid (HB.out.trans (if_neg (by rw [HN.out]; simp)))
        clear HB
        obtain ⟨W1, hW1⟩ : ∃ W1, wr = W1 := ⟨_, rfl⟩
        rw [hW1] at bB hC y0 y1 lB ⊢
        clear hW1
        go_wp2_with fail
        clear hlt y0 y1 lB
        go_loopw [4] (fun i wr => ∃ k : Nat, k ≤ ts.length ∧ i = .int .i64 k ∧ Below W1.heap.size W1 wr ∧ ∀ j, j < k → (testE E (nthT ts j) != 0) = false) (fun i _ => ts.length - (intOf i).toNat)
        case atStart => exact ⟨0, Nat.zero_le _, rfl, Below.refl _ _, fun j hj => absurd hj (by omega)⟩
        case round =>
          obtain ⟨k, hk, rfl, hbr, hall⟩ := hrel
          have HAL := Lib.hid hall; clear hall
          have hCw : Below w.heap.size w wr := hC.trans (hbr.mono hC.size)
          have bB' := bB.below hbr bB.lt
          have lB := bB'.lt
          have y0 := bB'.cell 0
          have y1 := bB'.cell 1
          simp at y0 y1
          by_cases hlt : k < ts.length
          · obtain ⟨rfl, hb⟩ := HA.out (by omega)
            have hck := HC.out k hlt
            rw [← hCw.cell (by exact hb), ← hCw.cell (by exact hb), ← hCw.cell (by exact hb), ← hCw.cell (by exact hb)] at hck
            obtain ⟨d1, d2, d3, d4⟩ := hck
            have hbb : b < wr.heap.size := Nat.lt_of_lt_of_le hb hCw.size
            go_upto_region 11 with fail
            refine wp_region_noPanic (plain_any [0, 1, 2, 3, 4, 5, 6, 8] (Below wr.heap.size wr) mixed ?_)
            (refine any_take 0 ?_ (by rfl) (by kernel_rfl) (fun _ _ _ _ _ hx => hx.elim) (.inl ⟨by rfl, ?_⟩) (by exact bel_of) ?_; rotate_left; (intro X hX; obtain ⟨r1, r2⟩ := Below.rules hX; clear hX; go_simp; rfl); simp only [List.getElem_toArray, List.getElem_cons_succ, List.getElem_cons_zero, Act.put, List.setIfInBounds_toArray, List.set_cons_succ, List.set_cons_zero])
            (refine any_take 1 ?_ (by rfl) (by kernel_rfl) (fun _ _ _ _ _ hx => hx.elim) (.inl ⟨by rfl, ?_⟩) (by exact bel_of) ?_; rotate_left; (intro X hX; obtain ⟨r1, r2⟩ := Below.rules hX; clear hX; go_simp; rfl); simp only [List.getElem_toArray, List.getElem_cons_succ, List.getElem_cons_zero, Act.put, List.setIfInBounds_toArray, List.set_cons_succ, List.set_cons_zero])
            (refine any_take 2 ?_ (by rfl) (by kernel_rfl) (fun _ _ _ _ _ hx => hx.elim) (.inl ⟨by rfl, ?_⟩) (by exact bel_of) ?_; rotate_left; (intro X hX; obtain ⟨r1, r2⟩ := Below.rules hX; clear hX; go_simp; rfl); simp only [List.getElem_toArray, List.getElem_cons_succ, List.getElem_cons_zero, Act.put, List.setIfInBounds_toArray, List.set_cons_succ, List.set_cons_zero])
            (refine any_take 3 ?_ (by rfl) (by kernel_rfl) (fun _ _ _ _ _ hx => hx.elim) (.inl ⟨by rfl, ?_⟩) (by exact bel_of) ?_; rotate_left; (intro X hX; obtain ⟨r1, r2⟩ := Below.rules hX; clear hX; go_simp; rfl); simp only [List.getElem_toArray, List.getElem_cons_succ, List.getElem_cons_zero, Act.put, List.setIfInBounds_toArray, List.set_cons_succ, List.set_cons_zero])
            (refine any_take 4 ?_ (by rfl) (by kernel_rfl) (fun _ _ _ _ _ hx => hx.elim) (.inl ⟨by rfl, ?_⟩) (by exact bel_of) ?_; rotate_left; (intro X hX; obtain ⟨r1, r2⟩ := Below.rules hX; clear hX; go_simp; rfl); simp only [List.getElem_toArray, List.getElem_cons_succ, List.getElem_cons_zero, Act.put, List.setIfInBounds_toArray, List.set_cons_succ, List.set_cons_zero])
            (refine any_take 5 ?_ (by rfl) (by kernel_rfl) (fun _ _ _ _ _ hx => hx.elim) (.inl ⟨by rfl, ?_⟩) (by exact bel_of) ?_; rotate_left; (intro X hX; obtain ⟨r1, r2⟩ := Below.rules hX; clear hX; go_simp; rfl); simp only [List.getElem_toArray, List.getElem_cons_succ, List.getElem_cons_zero, Act.put, List.setIfInBounds_toArray, List.set_cons_succ, List.set_cons_zero])
            (refine any_take 6 ?_ (by rfl) (by kernel_rfl) (fun _ _ _ _ _ hx => hx.elim) (.inl ⟨by rfl, ?_⟩) (by exact bel_of) ?_; rotate_left; (intro X hX; obtain ⟨r1, r2⟩ := Below.rules hX; clear hX; go_simp; rfl); simp only [List.getElem_toArray, List.getElem_cons_succ, List.getElem_cons_zero, Act.put, List.setIfInBounds_toArray, List.set_cons_succ, List.set_cons_zero])
            have d0z11 : Below wr.heap.size wr wr.drew := by exact bel_of
            have qz111 := d0z11.size
            refine any_run1 (i := 7) (by kernel_rfl) (by rfl) (by kernel_rfl) ?_
            intro K hK
            go_wp2_with fail
            refine (isTest_any E (nthT ts k) _ hE).mono ?_
            rintro e vz111 ⟨rfl, hb⟩
            have ez111 : Below wr.heap.size wr vz111 := d0z11.trans (hb.mono d0z11.size)
            clear hb
            refine hK _ _ (fun _ => ez111) ?_
            clear hK K
            (refine any_take 8 ?_ (by rfl) (by kernel_rfl) (fun _ _ _ _ _ hx => hx.elim) (.inl ⟨by rfl, ?_⟩) (by exact bel_of) ?_; rotate_left; (intro X hX; obtain ⟨r1, r2⟩ := Below.rules hX; clear hX; go_simp; rfl); simp only [List.getElem_toArray, List.getElem_cons_succ, List.getElem_cons_zero, Act.put, List.setIfInBounds_toArray, List.set_cons_succ, List.set_cons_zero])
            cases e1 : (testE E (nthT ts k) != 0) with
            | true =>
              have E1 := Lib.hid e1
              clear e1
              have hres : bookE E ts = 3 := by
                rw [HB2.out, if_pos ((anyB_iff _ ts).2 ⟨k, hlt, ?_⟩)]
                have h2 : (testE E (nthT ts k) == 2) = false := by
                  have := HN.out
                  refine Bool.eq_false_iff.2 fun hq => ?_
                  rw [(anyB_iff (fun t => testE E t == 2) ts).2 ⟨k, hlt, hq⟩] at this
                  cases this
                rcases testE_cases E (nthT ts k) with q | q | q
                · have := E1.out; rw [q] at this; cases this
                · rw [q] at h2; cases h2
                · rw [q]; rfl
              have HS := Lib.hid hres
              clear hres
              refine any_done (by kernel_rfl) (NoPanic.normal ?_)
              have B1 := E1.out
              go_wp2_with fail
              go_ret
              exact ⟨ret_int HS.out.symm, hCw.trans (ez111.mono hCw.size)⟩
            | false =>
              have E1 := Lib.hid e1
              clear e1
              refine any_done (by kernel_rfl) (NoPanic.normal ?_)
              have B1 := E1.out
              go_wp2_with fail
              go_roundw
              case rel => exact ⟨k + 1, by omega, by go_num, hbr.trans (ez111.mono hbr.size), fun j hj => by
                rcases Nat.lt_succ_iff_lt_or_eq.1 hj with h | rfl
                · exact HAL.out j h
                · exact E1.out⟩
              case measure => simp [intOf]; omega
          · have HS := Lib.hid (show bookE E ts = 0 by
              rw [HB2.out, if_neg]
              rw [anyB_not (P := fun t => testE E t == 3) (l := ts) fun j hj => ?_]
              · simp
              · have := HAL.out j (by omega)
                rcases testE_cases E (nthT ts j) with q | q | q
                · rw [q]; rfl
                · rw [q] at this; cases this
                · rw [q] at this; cases this)
            go_wp2_with fail
            go_ret
            exact ⟨ret_int HS.out.symm, hCw⟩
end Go.Proofs.Ytkljdbgkhghiaaa
