/- The reads of a region that draws, first, all at once; what is left comes step by step. Three operations that may come in any order. A list in a box that grows by one element: the append and the store behind it, and what of the memory they leave. Lists in a temporary that grow, and that are cut short. Appends: of an element in a block that is known; of a whole slice to an empty one; to a slice that is cut at its length. One list of ratios in a box, which grows; the laws at the operation that appends. Which blades are valid, for the program and for the reference; tubes. CheckBlade of both sides; tubes of the reference. CheckBlade of the reference. -/
import Derived.Test.YtgbegdjakadbbaaP2
import Derived.Test.YtgbegdjakadbbaaRows
import Derived.Deep.RegionHeld3
import Derived.Maps.AppendAt
import Derived.ArgAppend
import Derived.Deep.QuietTactic
import Derived.BigQuiet
import Derived.Deep.DeepCutAuto
import Derived.WalkMore
set_option linter.all false
set_option linter.unnecessarySimpa false
set_option linter.unusedSimpArgs false
set_option linter.unusedVariables false
set_option linter.unusedSectionVars false

namespace Go.Proofs.Ytgbegdjakadbbaa
open Go.RowKit
section
variable {P : Program} {ops : Array Oper} {Q : Exit → Act → World → Prop} {l m : Nat} {md : Region.Mode} {S : World → Prop} {E : List Nat}

def lexOnly (md : Region.Mode) (ops : Array Oper) : Nat → Nat → Array Bool → Bool
  | 0, _, _ => true
  | f + 1, k, listed => (Region.ready md ops listed).contains k && Region.free md ops listed k && lexOnly md ops f (k + 1) (listed.setIfInBounds k true)
def setN : Nat → Nat → Array Bool → Array Bool
  | 0, _, l => l
  | f + 1, k, l => setN f (k + 1) (l.setIfInBounds k true)

theorem any_lex {g : Nat} {w : World} (hsel : Region.noSelect ops = true) (hQ : ∀ c (a : Act) d (v : Value) w, Q (.panic c) (a.put d v) w → Q (.panic c) a w) (hS : S w) :
    ∀ (os : List Oper) (k : Nat) (listed : Array Bool) (a : Act), (∀ j, j < os.length → os[j]? = ops[k + j]?) → (∀ j, k ≤ j → j < k + os.length → j ∈ E) → Inv md ops listed →
    lexOnly md ops os.length k listed = true → wpY P ops S (fun a' => wpAnyF P md ops Q S E g (setN os.length k listed) a' w) os a →
    wpAnyF P md ops Q S E (os.length + g) listed a w
  | [], k, listed, a, _, _, _, _, h => by
    have h' : wpAnyF P md ops Q S E g listed a w := h
    simpa using h'
  | o :: os, k, listed, a, hl, hE, hinv, hB, h => by
    have h0 : ops[k]? = some o := by simpa using (hl 0 (by simp)).symm
    simp only [List.length_cons, lexOnly, Bool.and_eq_true] at hB
    obtain ⟨⟨hr, hf⟩, hB'⟩ := hB
    obtain ⟨v, hy, hK⟩ := h
    rw [List.length_cons, show os.length + 1 + g = (os.length + g) + 1 by omega]
    have hr' : k ∈ Region.ready md ops listed := by simpa using hr
    exact wpAnyF_first (hE k (Nat.le_refl _) (by simp)) h0 (Region.noSelect_spec hsel) (fun c a w => hQ c a _ _ w) _ listed a w (Region.free_spec h0 hf) hinv hr' hy hS
      (any_lex hsel hQ hS os (k + 1) _ _ (fun j hj => by have := hl (j + 1) (by simp; omega); simpa [Nat.add_assoc, Nat.add_comm 1 j] using this) (fun j h1 h2 => hE j (by omega) (by simp; omega)) (hinv.set hr') hB' hK)

def lexAB (ops : Array Oper) (n : Nat) : Bool := Region.noSelect ops && decide (n ≤ ops.size) && lexOnly .any ops n 0 (Array.replicate ops.size false)

theorem plain_lex {id : Nat} {a : Act} {w : World} {os : List Oper} (n g : Nat) (S : World → Prop) (hm : P.follows .mixedOrders = true) (hB : lexAB os.toArray n = true) (hg : os.length = n + g) (hS : S w.drew)
    (h : wpY P os.toArray S (fun a' => wpAnyF P .any os.toArray (NoPanic Q) S (List.range n) g (setN n 0 (Array.replicate os.length false)) a' w.drew) (os.take n) a) : (Code.region id os.toArray true).wp P Q a w := by
  simp only [lexAB, Bool.and_eq_true, decide_eq_true_eq] at hB
  obtain ⟨⟨hsel, hn⟩, hlex⟩ := hB
  have hn' : n ≤ os.length := by simpa using hn
  have htl : (os.take n).length = n := by simp; omega
  refine wp_region_noPanic (plain_any (List.range n) S hm ?_)
  have H := any_lex (md := .any) (E := List.range n) (g := g) (P := P) (Q := NoPanic Q) (w := w.drew) hsel (fun c a d v w hx => hx) hS (os.take n) 0 (Array.replicate os.length false) a
    (fun j hj => by
      have hj' : j < n := by rw [htl] at hj; exact hj
      simp [hj']) (fun j _ h2 => List.mem_range.2 (by omega)) (by have := Inv.none .any os.toArray; simpa using this) (by rw [htl]; simpa using hlex) (by rw [htl]; exact h)
  rw [htl, ← hg] at H
  exact H

/-- The like, the reads being of what lay when the region began. -/
theorem plain_read {id : Nat} {a : Act} {w : World} {os : List Oper} (n g : Nat) (hm : P.follows .mixedOrders = true) (hB : lexAB os.toArray n = true) (hg : os.length = n + g)
    (h : wpY P os.toArray (Below w.heap.size w) (fun a' => wpAnyF P .any os.toArray (NoPanic Q) (Below w.heap.size w) (List.range n) g (setN n 0 (Array.replicate os.length false)) a' w.drew) (os.take n) a) : (Code.region id os.toArray true).wp P Q a w :=
  plain_lex n g _ hm hB hg (Below.refl _ _).drew h
end
theorem mixed : Try.prog.follows .mixedOrders = true := by kernel_rfl
end Go.Proofs.Ytgbegdjakadbbaa

namespace Go.Proofs.Ytgbegdjakadbbaa
open Go.RowKit
section
variable {P : Program} {ops : Array Oper} {Q : Exit → Act → World → Prop} {md : Region.Mode} {S : World → Prop} {E : List Nat}
theorem any_run3 {i j k : Nat} {o o' o'' : Oper} {fuel : Nat} {listed : Array Bool} {a : Act} {w : World} (hr : Region.ready md ops listed = [i, j, k]) (hi : ops[i]? = some o) (hj : ops[j]? = some o') (hk : ops[k]? = some o'')
    (hg : Region.wanted o (yielded ops a.tmps) = true) (hg' : Region.wanted o' (yielded ops a.tmps) = true) (hg'' : Region.wanted o'' (yielded ops a.tmps) = true)
    (h : ∀ K : Act → World → Prop, (∀ a' w', (waitsAll md ops E i = false → S w') → wpAnyF P md ops Q S E fuel (listed.setIfInBounds i true) a' w' → K a' w') → o.wp P a w K Q)
    (h' : ∀ K : Act → World → Prop, (∀ a' w', (waitsAll md ops E j = false → S w') → wpAnyF P md ops Q S E fuel (listed.setIfInBounds j true) a' w' → K a' w') → o'.wp P a w K Q)
    (h'' : ∀ K : Act → World → Prop, (∀ a' w', (waitsAll md ops E k = false → S w') → wpAnyF P md ops Q S E fuel (listed.setIfInBounds k true) a' w' → K a' w') → o''.wp P a w K Q) : wpAnyF P md ops Q S E (fuel + 1) listed a w := by
  refine ⟨fun he => (by rw [hr] at he; cases he), fun m hm => ?_⟩
  rw [hr] at hm
  have : m = i ∨ m = j ∨ m = k := by simpa using hm
  rcases this with rfl | rfl | rfl
  · unfold wpOp
    simp only [hi, hg]
    exact .inl (h _ fun a' w' h1 h2 => ⟨h1, h2⟩)
  · unfold wpOp
    simp only [hj, hg']
    exact .inl (h' _ fun a' w' h1 h2 => ⟨h1, h2⟩)
  · unfold wpOp
    simp only [hk, hg'']
    exact .inl (h'' _ fun a' w' h1 h2 => ⟨h1, h2⟩)
end
end Go.Proofs.Ytgbegdjakadbbaa

namespace Go.Proofs.Ytgbegdjakadbbaa
open Go.RowKit

theorem own_block {W : World} {base e size n : Nat} {v : Value} {xs : List Value} (h : W.ownsRow base e size v n xs) {g : Nat} (hg : v.ownBlock = some g) : ∃ c, W.heap[g]? = some (.cells c e (0, 0)) := by
  rcases h.2 with ⟨rfl, _⟩ | ⟨g', cap, cur, rfl, _, hh, _⟩
  · cases hg
  · simp [Value.ownBlock] at hg; subst hg; exact ⟨_, hh⟩

/-- 'append(s, x)', x lying in a block of its own. -/
theorem app1 {P : Program} (t ty e : TypeId) (i : TypeInfo) (z : Value) (size bytes : Nat) (ht : P.underlying t = some (.slice e)) (hi : P.info? e = some i) (hz : i.zero = some z) (hsize : i.size = size) (hby : i.bytes = bytes) (hzs : z.cells.size = size) (hsz : 0 < size) (hb1 : bytes ≤ 1000)
    (base : Nat) (w : World) (v : Value) (n : Nat) (xs : List Value) (hown : w.ownsRow base e size v n xs) (g : Nat) (news : List Value) (tn : TypeId) (hg : BK w g news.toArray tn) (hl : news.length = size) (h1 : ∀ u ∈ news, u.oneCell' = true) (hn : n ≤ 100000) (hbase : base ≤ w.heap.size) :
    ∃ g' cap' w', (Builtin.append_ #[t, t] ty #[v, .slice (some ⟨g, 0, none⟩) 1 1]).run P w = .ok (.slice (some ⟨g', 0, none⟩) (n + 1) cap') w' ∧ w'.ownsRow base e size (.slice (some ⟨g', 0, none⟩) (n + 1) cap') (n + 1) (xs ++ news) ∧ w.grownBy w' v.ownBlock ∧
      (v.ownBlock = some g' ∨ g' = w.heap.size) := by
  obtain ⟨v', w', hrun, hown', hgr, _, hat⟩ := run_append_own_at (P := P) w base t ty e i z size bytes ht hi hz hsize hby hzs hsz v n xs hown ⟨g, 0, none⟩ 1 1 news (by omega)
    (fun j u hu => by
      have : (⟨g, 0, none⟩ : Addr).add j = ⟨g, j, none⟩ := by unfold Addr.add; split <;> simp_all
      rw [this, hg.cell j]; simpa using hu) h1 (by unfold maxLen; omega) (by
        have : (n + 1) * bytes ≤ 100001 * 1000 := Nat.mul_le_mul (by omega) hb1
        omega) hbase
  obtain ⟨g', cap', rfl⟩ := ownsRow_succ hown'
  refine ⟨g', cap', w', hrun, hown', hgr, ?_⟩
  rcases hat with h | h
  · left; rw [← h]; rfl
  · right; simpa [Value.ownBlock] using h

/-- A growing list in the box B (of type t, elements of type e, of sz cells each). -/
def Lst (t e sz : Nat) (X : World) (base B n : Nat) (xs : List Value) (v : Value) : Prop := BK X B #[v] t ∧ base ≤ B ∧ X.ownsRow base e sz v n xs
section
variable {t e sz : Nat} {X Y : World} {base B n k : Nat} {xs : List Value} {v : Value}
theorem Lst.adm (h : Lst t e sz X base B n xs v) (ha : Adm k X Y) : Lst t e sz Y base B n xs v := ⟨ha.cells h.1, h.2.1, ha.own h.2.2⟩
theorem Lst.kept {r : Option Nat} (h : Lst t e sz X base B n xs v) (hg : X.grownBy Y r) (h1 : r ≠ some B) (h2 : v.ownBlock = none ∨ v.ownBlock ≠ r) : Lst t e sz Y base B n xs v :=
  ⟨h.1.grown hg (fun he => h1 he.symm), h.2.1, h.2.2.kept hg h2⟩
theorem Lst.own_ne {B' : Nat} {cs : Array Value} {t' : Nat} (h : Lst t e sz X base B n xs v) (hb : BK X B' cs t') (ht : t' ≠ e) : v.ownBlock ≠ some B' := fun hq => by
  obtain ⟨c, hc⟩ := own_block h.2.2 hq
  rw [hb] at hc
  injection hc with hc
  injection hc with _ hc
  exact ht hc
end

/-- What grows in the box B by news: the run of the append, and the state behind the store. -/
theorem grow1 {P : Program} {t e size bytes : Nat} {z : Value} (hinf : (P.info? e).map (fun i => (i.zero, i.size, i.bytes)) = some (some z, size, bytes)) (ht : P.underlying t = some (.slice e)) (hzs : z.cells.size = size) (hsz : 0 < size) (hb1 : bytes ≤ 1000) (hte : t ≠ e)
    {base B n : Nat} {A w1 : World} {xs news : List Value} {v : Value} (h : Lst t e size A base B n xs v) (hbw : Below A.heap.size A w1) (hl : news.length = size) (h1 : ∀ u ∈ news, u.oneCell' = true) (hn : n ≤ 100000) (hbase : base ≤ A.heap.size) (ty tn : Nat) :
    ∃ g' cap' w2, (Builtin.append_ #[t, t] ty #[v, .slice (some ⟨w1.heap.size, 0, none⟩) 1 1]).run P (w1.alloc (.cells news.toArray tn)) = .ok (.slice (some ⟨g', 0, none⟩) (n + 1) cap') w2 ∧
      w1.cell? ⟨B, 0, none⟩ = some v ∧ w2.cell? ⟨B, 0, none⟩ = some v ∧ w2.frozen? ⟨B, 0, none⟩ = false ∧
      Lst t e size (w2.setCell ⟨B, 0, none⟩ (.slice (some ⟨g', 0, none⟩) (n + 1) cap')) base B (n + 1) (xs ++ news) (.slice (some ⟨g', 0, none⟩) (n + 1) cap') ∧
      A.heap.size ≤ w2.heap.size ∧ (v.ownBlock = some g' ∨ A.heap.size ≤ g') ∧
      (∀ n' w, n' ≤ base → Below n' w A → Below n' w (w2.setCell ⟨B, 0, none⟩ (.slice (some ⟨g', 0, none⟩) (n + 1) cap'))) ∧
      (∀ k o, A.heap[k]? = some o → k ≠ B → v.ownBlock ≠ some k → (w2.setCell ⟨B, 0, none⟩ (.slice (some ⟨g', 0, none⟩) (n + 1) cap')).heap[k]? = some o) := by
  obtain ⟨i0, hi0, hz0, hz1, hz2⟩ := info_parts hinf
  obtain ⟨hB, hBb, hO⟩ := h
  have hO1 : w1.ownsRow base e size v n xs := (Adm.below (B := 0) hbw).own hO
  have hB1 := hB.below hbw hB.lt
  have hs1 := hbw.size
  obtain ⟨g', cap', w2, hrun, hown', hgr, hg'⟩ := app1 (P := P) t ty e i0 z size bytes ht hi0 hz0 hz1 hz2 hzs hsz hb1 base (w1.alloc (.cells news.toArray tn)) v n xs (hO1.alloc _) w1.heap.size news tn (BK.new _ _ _) hl h1 hn (by simp; omega)
  have hvB : v.ownBlock ≠ some B := fun hq => by
    obtain ⟨c, hc⟩ := own_block hO hq
    rw [hB] at hc; injection hc with hc; injection hc with _ hc; exact hte hc
  have hB2 := (hB1.alloc (.cells news.toArray tn)).grown hgr (fun he => hvB he.symm)
  have hs2 := hgr.size
  simp at hs2
  have hBlt := hB.lt
  have hown3 : (w2.setCell ⟨B, 0, none⟩ (.slice (some ⟨g', 0, none⟩) (n + 1) cap')).ownsRow base e size (.slice (some ⟨g', 0, none⟩) (n + 1) cap') (n + 1) (xs ++ news) := by
    obtain ⟨hx, hy⟩ := hown'
    refine ⟨hx, ?_⟩
    rcases hy with hy | ⟨g2, c2, cur, hv, hb, hh, hr⟩
    · exact .inl hy
    · refine .inr ⟨g2, c2, cur, hv, hb, ?_, hr⟩
      rw [Below.heap_setCell]
      · exact hh
      · rintro rfl
        have hx := hB2
        unfold BK at hx
        rw [hh] at hx; injection hx with hx; injection hx with _ hx; exact hte hx.symm
  refine ⟨g', cap', w2, hrun, hB1.cell 0, hB2.cell 0, hB2.frozen 0, ⟨?_, hBb, hown3⟩, by omega, ?_, ?_, ?_⟩
  · simpa using hB2.set 0 (.slice (some ⟨g', 0, none⟩) (n + 1) cap')
  · rcases hg' with h | h
    · exact .inl h
    · right; simp at h; omega
  · intro n' w hn' hb
    refine Below.setCell ?_ (Nat.le_trans hn' hBb) _
    refine Below.grown (B := n') (Below.alloc (Below.trans (a := w) hb (hbw.mono (by omega))) (by omega) _) hgr (by simp; omega) ?_
    intro k hk
    exact Nat.le_trans hn' (hO.lt k hk).1
  · intro k o hk hkB hkv
    have hlt := (Array.getElem?_eq_some_iff.1 hk).1
    rw [Below.heap_setCell _ _ _ _ (by exact hkB), hgr.block k (by simp; omega) (fun he => hkv he.symm), Below.heap_alloc _ _ _ (by omega), hbw.block k hlt]
    exact hk
end Go.Proofs.Ytgbegdjakadbbaa

namespace Go.Proofs.Ytgbegdjakadbbaa
open Go.RowKit Vp

/-- What is appended (the element lies in the block made last), the list lying in a temporary. -/
theorem app_t {P : Program} {t e size bytes : Nat} {z : Value} (hinf : (P.info? e).map (fun i => (i.zero, i.size, i.bytes)) = some (some z, size, bytes)) (ht : P.underlying t = some (.slice e)) (hzs : z.cells.size = size) (hsz : 0 < size) (hb1 : bytes ≤ 1000)
    {base n : Nat} {w0 w1 : World} {xs news : List Value} {v : Value} (hown : w1.ownsRow base e size v n xs) (hl : news.length = size) (h1 : ∀ u ∈ news, u.oneCell' = true) (hn : n ≤ 100000) (hbase : base ≤ w1.heap.size) (hbw : Below base w0 w1) (ty tn : Nat) (B : Nat) (hB : w1.heap.size = B) :
    ∃ g' cap' w2, (Builtin.append_ #[t, t] ty #[v, .slice (some ⟨B, 0, none⟩) 1 1]).run P (w1.alloc (.cells news.toArray tn)) = .ok (.slice (some ⟨g', 0, none⟩) (n + 1) cap') w2 ∧
      w2.ownsRow base e size (.slice (some ⟨g', 0, none⟩) (n + 1) cap') (n + 1) (xs ++ news) ∧ Below base w0 w2 ∧ w1.heap.size ≤ w2.heap.size ∧ (∀ k cs t, BK w1 k cs t → t ≠ e → BK w2 k cs t) := by
  subst hB
  obtain ⟨i0, hi0, hz0, hz1, hz2⟩ := info_parts hinf
  obtain ⟨g', cap', w2, hrun, hown', hgr, hg'⟩ := app1 (P := P) t ty e i0 z size bytes ht hi0 hz0 hz1 hz2 hzs hsz hb1 base (w1.alloc (.cells news.toArray tn)) v n xs (hown.alloc _) w1.heap.size news tn (BK.new _ _ _) hl h1 hn (by simp; omega)
  have hs2 := hgr.size
  simp at hs2
  refine ⟨g', cap', w2, hrun, hown', ?_, by omega, ?_⟩
  · exact Below.grown (hbw.alloc hbase _) hgr (by simp; omega) fun k hk => (hown.lt k hk).1
  · intro k cs t hk hte
    refine (hk.alloc _).grown hgr ?_
    intro hq
    obtain ⟨c, hc⟩ := own_block hown hq.symm
    unfold BK at hk
    rw [hk] at hc; injection hc with hc; injection hc with _ hc; exact hte hc

theorem own_cut {W : World} {base e size n : Nat} {xs : List Value} {g cap : Nat} (h : W.ownsRow base e size (.slice (some ⟨g, 0, none⟩) n cap) n xs) {m : Nat} (hm : m ≤ n) :
    W.ownsRow base e size (.slice (some ⟨g, 0, none⟩) m cap) m (xs.take (m * size)) := by
  obtain ⟨hl, h2⟩ := h
  have hms : m * size ≤ n * size := Nat.mul_le_mul_right _ hm
  refine ⟨by rw [List.length_take, hl, Nat.min_eq_left hms], .inr ?_⟩
  rcases h2 with ⟨hv, _⟩ | ⟨g2, c2, cur, hv, hb, hh, h3, h4, h5, h6⟩
  · cases hv
  · injection hv with hv1 hv2 hv3
    injection hv1 with hv1; injection hv1 with hv1
    subst hv1; subst hv3
    refine ⟨g, cap, cur, rfl, hb, hh, by omega, h4, h5, ?_⟩
    rw [← h6, List.take_take, Nat.min_eq_left hms]

theorem i64_info : (Try.prog.info? 2).map (fun i => (i.zero, i.size, i.bytes)) = some (some (.int .i64 0), 1, 8) := by kernel_rfl
theorem i64_slice : Try.prog.underlying 25 = some (.slice 2) := by kernel_rfl
theorem rg_info : (Try.prog.info? 42).map (fun i => (i.zero, i.size, i.bytes)) = some (some (.agg #[.int .i64 0, .int .i64 0]), 2, 16) := by kernel_rfl
theorem rg_slice : Try.prog.underlying 67 = some (.slice 42) := by kernel_rfl
theorem st_info : (Try.prog.info? 60).map (fun i => (i.zero, i.size, i.bytes)) = some (some (.agg #[.int .i64 0, .int .i64 0, .int .i64 0, .int .i64 0]), 4, 32) := by kernel_rfl
theorem st_slice : Try.prog.underlying 22 = some (.slice 60) := by kernel_rfl

theorem ofI_app (l : List Int) (x : Int) : ofI l ++ [.int .i64 x] = ofI (l ++ [x]) := by simp [ofI]
theorem ofI_length (l : List Int) : (ofI l).length = l.length := by simp [ofI]

/-- A list of numbers (of type int, int64), of ratios, of stations, that grows. -/
def OwnI (T : Nat) (W : World) (base : Nat) (v : Value) (l : List Int) : Prop := W.ownsRow base T 1 v l.length (ofI l)
def OwnR (W : World) (base : Nat) (v : Value) (l : List Rg) : Prop := W.ownsRow base 42 2 v l.length (ofG encR l)
def OwnS (W : World) (base : Nat) (v : Value) (l : List St) : Prop := W.ownsRow base 60 4 v l.length (ofG encS l)
theorem OwnI.nil (T : Nat) (W : World) (base : Nat) : OwnI T W base (.slice none 0 0) [] := ⟨by simp [ofI], .inl ⟨rfl, rfl⟩⟩
theorem own_below {W W' : World} {base e sz n : Nat} {v : Value} {cs : List Value} (h : W.ownsRow base e sz v n cs) (hb : Below W.heap.size W W') : W'.ownsRow base e sz v n cs := (Adm.below (B := 0) hb).own h
theorem OwnI.below {T : Nat} {W W' : World} {base : Nat} {v : Value} {l : List Int} (h : OwnI T W base v l) (hb : Below W.heap.size W W') : OwnI T W' base v l := own_below h hb
theorem OwnI.ri {T : Nat} {W : World} {base : Nat} {v : Value} {l : List Int} (h : OwnI T W base v l) : RI W W.heap.size v l := RS.of_own h

theorem app_i64 {base : Nat} {w0 w1 : World} {l : List Int} {v : Value} (hown : OwnI 2 w1 base v l) (x : Int) (hn : l.length ≤ 100000) (hbase : base ≤ w1.heap.size) (hbw : Below base w0 w1) (B : Nat) (hB : w1.heap.size = B) :
    ∃ v' w2, (Builtin.append_ #[25, 25] 25 #[v, .slice (some ⟨B, 0, none⟩) 1 1]).run Try.prog (w1.alloc (.cells #[.int .i64 x] 2)) = .ok v' w2 ∧
      OwnI 2 w2 base v' (l ++ [x]) ∧ Below base w0 w2 ∧ w1.heap.size ≤ w2.heap.size ∧ (∀ k cs t, BK w1 k cs t → t ≠ 2 → BK w2 k cs t) := by
  obtain ⟨g', cap', w2, h1, h2, h3, h4, h5⟩ := app_t i64_info i64_slice rfl (by decide) (by decide) hown (news := [.int .i64 x]) rfl (by intro u hu; simp at hu; subst hu; rfl) hn hbase hbw 25 2 B hB
  exact ⟨_, w2, h1, by rw [ofI_app] at h2; unfold OwnI; simpa using h2, h3, h4, h5⟩
theorem OwnR.nil (W : World) (base : Nat) : OwnR W base (.slice none 0 0) [] := ⟨by simp [ofG], .inl ⟨rfl, rfl⟩⟩
theorem OwnR.below {W W' : World} {base : Nat} {v : Value} {l : List Rg} (h : OwnR W base v l) (hb : Below W.heap.size W W') : OwnR W' base v l := own_below h hb
theorem OwnR.ri {W : World} {base : Nat} {v : Value} {l : List Rg} (h : OwnR W base v l) : RR W W.heap.size v l := RS.of_own h
theorem app_rg {base : Nat} {w0 w1 : World} {l : List Rg} {v : Value} (hown : OwnR w1 base v l) (x : Rg) (hn : l.length ≤ 100000) (hbase : base ≤ w1.heap.size) (hbw : Below base w0 w1) (B : Nat) (hB : w1.heap.size = B) :
    ∃ v' w2, (Builtin.append_ #[67, 67] 67 #[v, .slice (some ⟨B, 0, none⟩) 1 1]).run Try.prog (w1.alloc (.cells #[.int .i64 x.lo, .int .i64 x.hi] 42)) = .ok v' w2 ∧
      OwnR w2 base v' (l ++ [x]) ∧ Below base w0 w2 ∧ w1.heap.size ≤ w2.heap.size ∧ (∀ k cs t, BK w1 k cs t → t ≠ 42 → BK w2 k cs t) := by
  obtain ⟨g', cap', w2, h1, h2, h3, h4, h5⟩ := app_t rg_info rg_slice rfl (by decide) (by decide) hown (news := encR x) rfl (by intro u hu; simp [encR] at hu; rcases hu with rfl | rfl <;> rfl) hn hbase hbw 67 42 B hB
  exact ⟨_, w2, h1, by rw [ofG_app] at h2; unfold OwnR; simpa using h2, h3, h4, h5⟩
theorem OwnS.nil (W : World) (base : Nat) : OwnS W base (.slice none 0 0) [] := ⟨by simp [ofG], .inl ⟨rfl, rfl⟩⟩
theorem OwnS.below {W W' : World} {base : Nat} {v : Value} {l : List St} (h : OwnS W base v l) (hb : Below W.heap.size W W') : OwnS W' base v l := own_below h hb
theorem OwnS.rt {W : World} {base : Nat} {v : Value} {l : List St} (h : OwnS W base v l) : RT W W.heap.size v l := RS.of_own h
end Go.Proofs.Ytgbegdjakadbbaa

set_option linter.all false
namespace Go.Proofs.Ytgbegdjakadbbaa
open Go.RowKit Vp

theorem own_keep {W W' : World} {base e e' sz n : Nat} {v : Value} {xs : List Value} (h : W.ownsRow base e sz v n xs) (hk : ∀ k cs t, BK W k cs t → t ≠ e' → BK W' k cs t) (hne : e ≠ e') : W'.ownsRow base e sz v n xs := by
  obtain ⟨hl, h2⟩ := h
  refine ⟨hl, ?_⟩
  rcases h2 with h2 | ⟨g, cap, cur, h3, h4, h5, h6⟩
  · exact .inl h2
  · exact .inr ⟨g, cap, cur, h3, h4, hk _ _ _ h5 hne, h6⟩
/-- What is appended, the element lying in a block that is known. -/
theorem app_b {P : Program} {t e size bytes : Nat} {z : Value} (hinf : (P.info? e).map (fun i => (i.zero, i.size, i.bytes)) = some (some z, size, bytes)) (ht : P.underlying t = some (.slice e)) (hzs : z.cells.size = size) (hsz : 0 < size) (hb1 : bytes ≤ 1000)
    {base n : Nat} {W : World} {xs news : List Value} {v : Value} (hown : W.ownsRow base e size v n xs) {g tn : Nat} (hg : BK W g news.toArray tn) (hl : news.length = size) (h1 : ∀ u ∈ news, u.oneCell' = true) (hn : n ≤ 100000) (hbase : base ≤ W.heap.size) (ty : Nat) :
    ∃ v' w2, (Builtin.append_ #[t, t] ty #[v, .slice (some ⟨g, 0, none⟩) 1 1]).run P W = .ok v' w2 ∧ w2.ownsRow base e size v' (n + 1) (xs ++ news) ∧ (∀ w0, Below base w0 W → Below base w0 w2) ∧ W.heap.size ≤ w2.heap.size ∧ (∀ k cs t, BK W k cs t → t ≠ e → BK w2 k cs t) := by
  obtain ⟨i0, hi0, hz0, hz1, hz2⟩ := info_parts hinf
  obtain ⟨g', cap', w2, hrun, hown', hgr, _⟩ := app1 (P := P) t ty e i0 z size bytes ht hi0 hz0 hz1 hz2 hzs hsz hb1 base W v n xs hown g news tn hg hl h1 hn hbase
  refine ⟨_, w2, hrun, hown', fun w0 hbw => Below.grown hbw hgr hbase fun k hk => (hown.lt k hk).1, hgr.size, ?_⟩
  intro k cs t hk hte
  refine hk.grown hgr ?_
  intro hq
  obtain ⟨c, hc⟩ := own_block hown hq.symm
  unfold BK at hk
  rw [hk] at hc; injection hc with hc; injection hc with _ hc; exact hte hc
theorem app_b_i {T TS : Nat} (hinf : (Try.prog.info? T).map (fun i => (i.zero, i.size, i.bytes)) = some (some (.int .i64 0), 1, 8)) (ht : Try.prog.underlying TS = some (.slice T)) {W : World} {base g tn : Nat} {v : Value} {l : List Int} {x : Int} (h : OwnI T W base v l) (hg : BK W g #[.int .i64 x] tn) (hn : l.length ≤ 100000) (hbase : base ≤ W.heap.size) :
    ∃ v' w2, (Builtin.append_ #[TS, TS] TS #[v, .slice (some ⟨g, 0, none⟩) 1 1]).run Try.prog W = .ok v' w2 ∧ OwnI T w2 base v' (l ++ [x]) ∧ (∀ w0, Below base w0 W → Below base w0 w2) ∧ W.heap.size ≤ w2.heap.size ∧ (∀ k cs t, BK W k cs t → t ≠ T → BK w2 k cs t) := by
  obtain ⟨v', w2, h1, h2, h3⟩ := app_b (news := [.int .i64 x]) hinf ht rfl (by decide) (by decide) h hg rfl (by simp [Value.oneCell']) hn hbase TS
  refine ⟨v', w2, h1, ?_, h3⟩
  unfold OwnI
  rw [← ofI_app, List.length_append]
  exact h2
theorem app_b_rg {W : World} {base g tn : Nat} {v : Value} {l : List Rg} {x : Rg} (h : OwnR W base v l) (hg : BK W g #[.int .i64 x.lo, .int .i64 x.hi] tn) (hn : l.length ≤ 100000) (hbase : base ≤ W.heap.size) :
    ∃ v' w2, (Builtin.append_ #[67, 67] 67 #[v, .slice (some ⟨g, 0, none⟩) 1 1]).run Try.prog W = .ok v' w2 ∧ OwnR w2 base v' (l ++ [x]) ∧ (∀ w0, Below base w0 W → Below base w0 w2) ∧ W.heap.size ≤ w2.heap.size ∧ (∀ k cs t, BK W k cs t → t ≠ 42 → BK w2 k cs t) := by
  obtain ⟨v', w2, h1, h2, h3⟩ := app_b (news := encR x) rg_info rg_slice rfl (by decide) (by decide) h hg rfl (by intro u hu; simp [encR] at hu; rcases hu with rfl | rfl <;> rfl) hn hbase 67
  refine ⟨v', w2, h1, ?_, h3⟩
  unfold OwnR
  rw [← ofG_app, List.length_append]
  exact h2
/-- A list that came in is appended to an empty one in a block. -/
theorem app_src {P : Program} {t e size bytes : Nat} {z : Value} (hinf : (P.info? e).map (fun i => (i.zero, i.size, i.bytes)) = some (some z, size, bytes)) (ht : P.underlying t = some (.slice e)) (hzs : z.cells.size = size) (hsz : 0 < size) (hb1 : bytes ≤ 1000)
    {base B m g : Nat} {W : World} {news : List Value} {src : Value} (hg : BK W g #[] e) (hbg : base ≤ g) (hs : RS W B size src m news) (h1 : ∀ u ∈ news, u.oneCell' = true) (hm : m ≤ 100000) (hbase : base ≤ W.heap.size) (ty : Nat) :
    ∃ v' w2, (Builtin.append_ #[t, t] ty #[.slice (some ⟨g, 0, none⟩) 0 0, src]).run P W = .ok v' w2 ∧ w2.ownsRow base e size v' m news ∧ (∀ w0, Below base w0 W → Below base w0 w2) ∧ W.heap.size ≤ w2.heap.size ∧ (∀ k cs t, BK W k cs t → 0 < cs.size → BK w2 k cs t) := by
  obtain ⟨i0, hi0, hz0, hz1, hz2⟩ := info_parts hinf
  have hown : W.ownsRow base e size (.slice (some ⟨g, 0, none⟩) 0 0) 0 [] := ⟨by simp, .inr ⟨g, 0, #[], rfl, hbg, hg, Nat.le_refl _, by unfold maxLen; omega, by simp, by simp⟩⟩
  have hne : ∀ (k : Nat) (cs : Array Value) (t' : TypeId), BK W k cs t' → 0 < cs.size → some k ≠ (Value.slice (some ⟨g, 0, none⟩) 0 0).ownBlock := by
    intro k cs t' hk hc hq
    have : k = g := by simpa [Value.ownBlock] using hq
    subst this
    unfold BK at hk hg
    rw [hg] at hk
    injection hk with hk
    injection hk with hk _
    subst hk
    simp at hc
  obtain ⟨A, c, b, off, rfl, hl, hA, hc⟩ := hs
  rcases Nat.eq_zero_or_pos m with h0 | h0
  · subst h0
    have hn : news = [] := List.eq_nil_of_length_eq_zero (by simpa using hl.1)
    subst hn
    cases A with
    | none =>
      refine ⟨.slice (some ⟨g, 0, none⟩) 0 0, W, ?_, hown, fun _ h => h, Nat.le_refl _, fun _ _ _ h _ => h⟩
      simp [Builtin.append_, run_underlying ht, sizeOf, typeInfo, hi0, Builtin.lenOf, Builtin.firstCells, storeCells]
    | some ad =>
      obtain ⟨v', w2, hrun, hown', hgr, _, _⟩ := run_append_own_at (P := P) (w := W) base t ty e i0 z size bytes ht hi0 hz0 hz1 hz2 hzs hsz _ 0 [] hown ad 0 c [] (by simp) (fun j u hu => by simp at hu) h1 (by unfold maxLen; omega) (by omega) hbase
      exact ⟨v', w2, hrun, by simpa using hown', fun w0 hbw => Below.grown hbw hgr hbase fun k hk => (hown.lt k hk).1, hgr.size, fun k cs t' hk hcs => hk.grown hgr (hne k cs t' hk hcs)⟩
  · obtain ⟨rfl, hb⟩ := hA (by omega)
    obtain ⟨v', w2, hrun, hown', hgr, _, _⟩ := run_append_own_at (P := P) (w := W) base t ty e i0 z size bytes ht hi0 hz0 hz1 hz2 hzs hsz _ 0 [] hown ⟨b, off, none⟩ m c news hl.1 (fun j u hu => by
      have hj : j < news.length := (List.getElem?_eq_some_iff.1 hu).1
      have e : (⟨b, off, none⟩ : Addr).add j = ⟨b, off + j, none⟩ := by unfold Addr.add; split <;> simp_all
      rw [e, hc j hj]; exact hu) h1 (by unfold maxLen; omega) (by
        have : (0 + m) * bytes ≤ 100000 * 1000 := Nat.mul_le_mul (by omega) hb1
        omega) hbase
    exact ⟨v', w2, hrun, by simpa using hown', fun w0 hbw => Below.grown hbw hgr hbase fun k hk => (hown.lt k hk).1, hgr.size, fun k cs t' hk hcs => hk.grown hgr (hne k cs t' hk hcs)⟩
theorem own_more {W : World} {base base' e sz n : Nat} {v : Value} {xs : List Value} (h : W.ownsRow base e sz v n xs) (hb : base' ≤ base) : W.ownsRow base' e sz v n xs := by
  obtain ⟨hl, h2⟩ := h
  refine ⟨hl, ?_⟩
  rcases h2 with h2 | ⟨g, cap, cur, h3, h4, h5⟩
  · exact .inl h2
  · exact .inr ⟨g, cap, cur, h3, Nat.le_trans hb h4, h5⟩
theorem own_slice {W : World} {base e sz n : Nat} {v : Value} {xs : List Value} (h : W.ownsRow base e sz v n xs) : ∃ A c, v = .slice A n c := by
  rcases h.2 with ⟨rfl, rfl⟩ | ⟨g, cap, cur, rfl, _⟩
  · exact ⟨_, _, rfl⟩
  · exact ⟨_, _, rfl⟩

/-- What is appended to a slice that is cut at its length: a new row. -/
theorem app_full {P : Program} {t e size bytes : Nat} {z : Value} (hinf : (P.info? e).map (fun i => (i.zero, i.size, i.bytes)) = some (some z, size, bytes)) (ht : P.underlying t = some (.slice e)) (hzs : z.cells.size = size) (hsz : 0 < size) (hb1 : bytes ≤ 1000)
    {base n : Nat} {W : World} {xs news : List Value} {v : Value} (hown : W.ownsRow base e size v n xs) {g tn : Nat} (hg : BK W g news.toArray tn) (hl : news.length = size) (h1 : ∀ u ∈ news, u.oneCell' = true) (hn : n ≤ 100000) (hbase : base ≤ W.heap.size) (ty : Nat) :
    ∃ A c, v = .slice A n c ∧ n ≤ c ∧ (A = none → c = 0) ∧ ∃ v' w2, (Builtin.append_ #[t, t] ty #[.slice A n n, .slice (some ⟨g, 0, none⟩) 1 1]).run P W = .ok v' w2 ∧ w2.ownsRow base e size v' (n + 1) (xs ++ news) ∧ (∀ w0, Below base w0 W → Below base w0 w2) ∧ Below W.heap.size W w2 := by
  obtain ⟨i0, hi0, hz0, hz1, hz2⟩ := info_parts hinf
  have hb2 : (n + 1) * bytes ≤ 100001 * 1000 := Nat.mul_le_mul (by omega) hb1
  rcases hown.2 with ⟨rfl, rfl⟩ | ⟨g1, cap, cur, rfl, hbg, hh, hc, hm, hs, htk⟩
  · obtain ⟨g', cap', w2, hrun, hown', hgr, _⟩ := app1 (P := P) t ty e i0 z size bytes ht hi0 hz0 hz1 hz2 hzs hsz hb1 base W (.slice none 0 0) 0 xs hown g news tn hg hl h1 hn hbase
    refine ⟨none, 0, rfl, Nat.le_refl _, fun _ => rfl, _, w2, hrun, hown', fun w0 hbw => Below.grown hbw hgr hbase fun k hk => (by cases hk), Below.grown (Below.refl _ _) hgr (Nat.le_refl _) fun k hk => (by cases hk)⟩
  · refine ⟨some ⟨g1, 0, none⟩, cap, rfl, hc, (by intro h; cases h), ?_⟩
    obtain ⟨v', w2, hrun, hown', hgr⟩ := run_append_arg_grows (P := P) W t ty e i0 z size bytes ht hi0 hz0 hz1 hz2 hzs hsz ⟨g1, 0, none⟩ n n xs hown.1
      (fun j u hj => by
        have hjl : j < xs.length := (List.getElem?_eq_some_iff.1 hj).1
        have e' : (⟨g1, 0, none⟩ : Addr).add j = ⟨g1, j, none⟩ := by unfold Addr.add; split <;> simp_all
        rw [e', cell_of_row W g1 j cur _ (0, 0) hh, ← hj]
        conv => rhs; rw [← htk]
        have := hown.1
        rw [List.getElem?_take_of_lt (by omega)]
        simp) ⟨g, 0, none⟩ 1 1 news (by omega)
      (fun j u hj => by
        have e' : (⟨g, 0, none⟩ : Addr).add j = ⟨g, j, none⟩ := by unfold Addr.add; split <;> simp_all
        rw [e', hg.cell j]; simpa using hj) (by omega) (by unfold maxLen; omega) (by omega)
    exact ⟨v', w2, hrun, own_more hown' hbase, fun w0 hbw => Below.grown hbw hgr hbase fun k hk => (by cases hk), Below.grown (Below.refl _ _) hgr (Nat.le_refl _) fun k hk => (by cases hk)⟩
theorem app_full_i {T TS : Nat} (hinf : (Try.prog.info? T).map (fun i => (i.zero, i.size, i.bytes)) = some (some (.int .i64 0), 1, 8)) (ht : Try.prog.underlying TS = some (.slice T)) {base g tn : Nat} {W : World} {l : List Int} {v : Value} {x : Int} (hown : OwnI T W base v l) (hg : BK W g #[.int .i64 x] tn) (hn : l.length ≤ 100000) (hbase : base ≤ W.heap.size) :
    ∃ A c, v = .slice A l.length c ∧ l.length ≤ c ∧ (A = none → c = 0) ∧ ∃ v' w2, (Builtin.append_ #[TS, TS] TS #[.slice A l.length l.length, .slice (some ⟨g, 0, none⟩) 1 1]).run Try.prog W = .ok v' w2 ∧ OwnI T w2 base v' (l ++ [x]) ∧ (∀ w0, Below base w0 W → Below base w0 w2) ∧ Below W.heap.size W w2 := by
  obtain ⟨A, c, h1, h2, h3, v', w2, h4, h5, h6⟩ := app_full (news := [.int .i64 x]) hinf ht rfl (by decide) (by decide) hown hg rfl (by simp [Value.oneCell']) hn hbase TS
  refine ⟨A, c, h1, h2, h3, v', w2, h4, ?_, h6⟩
  unfold OwnI
  rw [← ofI_app, List.length_append]
  exact h5
theorem app_b_st {W : World} {base g tn : Nat} {v : Value} {l : List St} {x : St} (h : OwnS W base v l) (hg : BK W g #[.int .i64 x.ang, .int .i64 x.lo, .int .i64 x.hi, .int .i64 x.hard] tn) (hn : l.length ≤ 100000) (hbase : base ≤ W.heap.size) :
    ∃ v' w2, (Builtin.append_ #[22, 22] 22 #[v, .slice (some ⟨g, 0, none⟩) 1 1]).run Try.prog W = .ok v' w2 ∧ OwnS w2 base v' (l ++ [x]) ∧ (∀ w0, Below base w0 W → Below base w0 w2) ∧ W.heap.size ≤ w2.heap.size ∧ (∀ k cs t, BK W k cs t → t ≠ 60 → BK w2 k cs t) := by
  obtain ⟨v', w2, h1, h2, h3⟩ := app_b (news := encS x) st_info st_slice rfl (by decide) (by decide) h hg rfl (by intro u hu; simp [encS] at hu; rcases hu with rfl | rfl | rfl | rfl <;> rfl) hn hbase 22
  refine ⟨v', w2, h1, ?_, h3⟩
  unfold OwnS
  rw [← ofG_app, List.length_append]
  exact h2
end Go.Proofs.Ytgbegdjakadbbaa

namespace Go.Proofs.Ytgbegdjakadbbaa
open Go.RowKit

section
variable {P : Program} {ops : Array Oper} {Q : Exit → Act → World → Prop}
theorem wpList_append_run {rest : List Oper} {o : Oper} {a : Act} {w w' : World} (hgd : o.guard = none) (s x : Operand) (t : TypeId) (v : Value)
    (ho : o.op = .call { callee := .builtin .append, args := #[s, x], argTypes := #[t, t] })
    (hrun : (Builtin.append_ #[t, t] o.type #[a.eval s, a.eval x]).run P w = .ok v w') (h : wpList P ops Q rest (a.put o.dst v) w') : wpList P ops Q (o :: rest) a w := by
  refine wpList_plain hgd fun K hK => ?_
  exact wp_append_run s x t v ho hrun (hK _ _ h)
theorem wpListIn_append_run {F : Fence} {n : Nat} {rest : List Oper} {o : Oper} {a : Act} {w w' : World} (hgd : o.guard = none) (s x : Operand) (t : TypeId) (v : Value)
    (ho : o.op = .call { callee := .builtin .append, args := #[s, x], argTypes := #[t, t] })
    (hrun : (Builtin.append_ #[t, t] o.type #[a.eval s, a.eval x]).run P w = .ok v w') (h : wpListIn F n P ops Q rest (a.put o.dst v) w') : wpListIn F n P ops Q (o :: rest) a w := by
  refine wpListIn_plain hgd fun K hK' => ?_
  unfold Oper.wpIn
  refine ⟨?_, ?_⟩
  · simp [Oper.about, ho, resolve, Target.leads, Sem.run_pure]
  · rw [Oper.semAt_plain F _ _ (by rw [ho]; intro c hc'; cases hc')]
    unfold execOp
    simp only [ho, resolve, invoke, builtin, Sem.run_bind, Sem.run_pure, Result.andThen_ok, List.map_toArray, List.map_cons, List.map_nil, hrun]
    exact hK' _ _ h
end

end Go.Proofs.Ytgbegdjakadbbaa

set_option linter.all false
namespace Go.Proofs.Ytgbegdjakadbbaa
open Go.RowKit Vp

theorem within_3 (lo hi x y z : Int) (w : World) (n : Nat) (hn : w.heap.size = n) :
    Calls Try.prog 46 #[.int .i64 lo, .int .i64 hi, .slice (some ⟨n, 0, none⟩) 3 3] (w.alloc (.cells #[.int .i64 x, .int .i64 y, .int .i64 z] 2)) fun e w' =>
      e = .returned (.bool (inB lo hi x && inB lo hi y && inB lo hi z)) ∧ ((w.alloc (.cells #[.int .i64 x, .int .i64 y, .int .i64 z] 2)).alloc (.cells #[.int .i64 lo] 2)).alloc (.cells #[.int .i64 hi] 2) = w' := by
  subst hn
  refine (within_any lo hi [x, y, z] _ (w.heap.size + 1) _ (by simp) (by simp) ⟨_, _, w.heap.size, 0, rfl, ⟨rfl, Nat.le_refl _⟩, fun _ => ⟨rfl, by omega⟩, fun j hj => ?_⟩).mono ?_
  · have : j = 0 ∨ j = 1 ∨ j = 2 := by
      have : j < 3 := by simpa [ofI] using hj
      omega
    rcases this with rfl | rfl | rfl <;> simp [ofI]
  · rintro e w' ⟨rfl, rfl⟩; exact ⟨by simp [allIn, Bool.and_assoc], rfl⟩
/-- One number in a block that is known. -/
theorem within_1c (lo hi x : Int) (W : World) (n : Nat) (hn : n < W.heap.size) (hc : W.cell? ⟨n, 0, none⟩ = some (.int .i64 x)) :
    Calls Try.prog 46 #[.int .i64 lo, .int .i64 hi, .slice (some ⟨n, 0, none⟩) 1 1] W fun e w' => e = .returned (.bool (inB lo hi x)) ∧ Below W.heap.size W w' := by
  refine (within_any lo hi [x] _ W.heap.size _ (Nat.le_refl _) (by simp) ⟨_, _, n, 0, rfl, ⟨rfl, Nat.le_refl _⟩, fun _ => ⟨rfl, hn⟩, fun j hj => ?_⟩).mono ?_
  · obtain rfl : j = 0 := by simpa [ofI] using hj
    simpa [ofI] using hc
  · rintro e w' ⟨rfl, rfl⟩; exact ⟨by simp [allIn], by exact bel_of⟩
theorem okSB_eq (s : St) : okSB s = ((inB (-100) 100 s.ang && inB (-100) 100 s.lo && inB (-100) 100 s.hi) && (!decide (s.hi < s.lo) && inB 1 9 s.hard)) := by
  unfold okSB inB
  rw [Bool.eq_iff_iff]
  simp
  omega
set_option maxHeartbeats 1000000 in
theorem bad_any (s : St) (w : World) :
    Calls Try.prog 50 #[sV s] w fun e w' => e = .returned (.bool (!okSB s)) ∧ Below w.heap.size w w' := by
  have HG := Lib.hid (okSB_eq s)
  obtain ⟨a, lo, hi, hd⟩ := s
  unfold sV
  dsimp only at HG ⊢
  go_enter Try.func50, Try.ntmps50
  go_wp2_with fail
  refine (within_3 _ _ _ _ _ _ _ (by simp)).mono ?_
  rintro e w' ⟨rfl, rfl⟩
  cases e1 : (inB (-100) 100 a && inB (-100) 100 lo && inB (-100) 100 hi) with
  | false =>
    have HB := Lib.hid (HG.out.trans (by rw [e1])); clear HG
    go_wp2_with fail
    go_ret
    exact ⟨by rw [HB.out]; rfl, by exact bel_of⟩
  | true =>
    by_cases e2 : hi < lo
    · have HB := Lib.hid (HG.out.trans (by rw [e1, decide_eq_true e2])); clear HG
      go_wp2_with fail
      go_ret
      exact ⟨by rw [HB.out]; rfl, by exact bel_of⟩
    · have b2 : decide (hi < lo) = false := decide_eq_false e2
      have HG2 := Lib.hid (HG.out.trans (by rw [e1, decide_eq_false e2])); clear HG
      go_wp2_with fail
      refine (within_1 _ _ _ _ _ (by simp)).mono ?_
      rintro e w' ⟨rfl, rfl⟩
      go_wp2_with fail
      go_ret
      exact ⟨by rw [HG2.out]; simp, by exact bel_of⟩
theorem allS_iff {l : List St} : l.all okSB = true ↔ ∀ k, k < l.length → okSB (nthS l k) = true := by
  rw [List.all_eq_true]
  constructor
  · intro h k hk; exact h _ (nthS_mem hk)
  · intro h s hs
    obtain ⟨i, hi, rfl⟩ := mem_nthS hs
    exact h i hi
theorem idx_bad (l : List St) (v : Value) (w : World) (hl : l.length ≤ 1000) (h : RT w w.heap.size v l) :
    Calls Try.prog 71 #[v, .func (.func 50) #[] #[]] w fun x w' => (∃ r : Int, x = .returned (.int .i64 r) ∧ (0 ≤ r ↔ l.all okSB = false)) ∧ Below w.heap.size w w' := by
  obtain ⟨A, cap, b, off, rfl, hA, hc⟩ := h.cells
  go_enter Try.func71, Try.ntmps71
  go_wp2_with fail
  go_loopw [8] (fun i wr => ∃ k : Nat, k ≤ l.length ∧ i = .int .i64 k ∧ Below w.heap.size w wr ∧ ∀ j, j < k → okSB (nthS l j) = true) (fun i _ => l.length - (intOf i).toNat)
  case atStart => exact ⟨0, Nat.zero_le _, rfl, Below.refl _ _, fun j hj => absurd hj (by omega)⟩
  case round =>
    obtain ⟨k, hk, rfl, hbw, hall⟩ := hrel
    have HA := Lib.hid hall; clear hall
    by_cases hlt : k < l.length
    · obtain ⟨rfl, hb⟩ := hA (by omega)
      have hck := hc k hlt
      rw [← hbw.cell (by exact hb), ← hbw.cell (by exact hb), ← hbw.cell (by exact hb), ← hbw.cell (by exact hb)] at hck
      obtain ⟨d1, d2, d3, d4⟩ := hck
      have hbb : b < wr.heap.size := Nat.lt_of_lt_of_le hb hbw.size
      have HCL := Lib.hid (bad_any (nthS l k) wr)
      clear hc
      unfold sV at HCL
      cases e1 : okSB (nthS l k) with
      | true =>
        have E1 := Lib.hid e1
        rw [e1] at HCL
        clear e1
        go_wp2_with fail
        refine HCL.out.mono ?_
        rintro e w1 ⟨rfl, hb1⟩
        have hb2 : Below w.heap.size w w1 := hbw.trans (hb1.mono hbw.size)
        clear hb1
        go_wp2_with fail
        go_roundw
        case rel => exact ⟨k + 1, by omega, by go_num, hb2, fun j hj => by
          rcases Nat.lt_succ_iff_lt_or_eq.1 hj with h | rfl
          · exact HA.out j h
          · exact E1.out⟩
        case measure => simp [intOf]; omega
      | false =>
        have E1 := Lib.hid e1
        rw [e1] at HCL
        clear e1
        go_wp2_with fail
        refine HCL.out.mono ?_
        rintro e w1 ⟨rfl, hb1⟩
        have hb2 : Below w.heap.size w w1 := hbw.trans (hb1.mono hbw.size)
        clear hb1
        go_wp2_with fail
        go_ret
        refine ⟨⟨k, rfl, ⟨fun _ => ?_, fun _ => by omega⟩⟩, hb2⟩
        rw [← Bool.not_eq_true, allS_iff]
        intro h
        rw [h k hlt] at E1
        cases E1.out
    · go_wp2
      go_ret
      refine ⟨⟨-1, rfl, ⟨fun h => absurd h (by omega), fun h => ?_⟩⟩, hbw⟩
      exfalso
      rw [← Bool.not_eq_true, allS_iff] at h
      exact h fun j hj => HA.out j (by omega)
theorem has_bad (l : List St) (v : Value) (w : World) (hl : l.length ≤ 1000) (h : RT w w.heap.size v l) :
    Calls Try.prog 51 #[v, .func (.func 50) #[] #[]] w fun x w' => x = .returned (.bool (!l.all okSB)) ∧ Below w.heap.size w w' := by
  go_enter Try.func51, Try.ntmps51
  go_wp2_with fail
  refine (idx_bad l v _ hl h).mono ?_
  rintro e w1 ⟨⟨r, rfl, hr⟩, hb⟩
  have Hr := Lib.hid hr; clear hr
  go_wp2_with fail
  go_ret
  refine ⟨?_, hb⟩
  have : decide (0 ≤ r) = !l.all okSB := by rw [Bool.eq_iff_iff, decide_eq_true_eq, Hr.out]; simp
  show Ending.returned (.bool (decide (0 ≤ r))) = _
  rw [this]
/-- A blade as an argument. -/
def bV (v : Value) (m : Int) : Value := .agg #[v, .int .i64 m]
theorem inside_any (n lo hi : Int) (w : World) :
    Calls Try.prog 47 #[.int .i64 n, .int .i64 lo, .int .i64 hi] w fun e w' => e = .returned (.bool (inB lo hi n)) ∧ w = w' := by
  by_cases h1 : lo ≤ n
  · have hE := Lib.hid (show inB lo hi n = decide (n ≤ hi) by unfold inB; simp [h1])
    go_enter Try.func47, Try.ntmps47
    go_wp2_with fail
    go_ret
    exact ⟨by rw [hE.out]; rfl, rfl⟩
  · have hE := Lib.hid (show inB lo hi n = false by unfold inB; simp [h1])
    go_enter Try.func47, Try.ntmps47
    go_wp2_with fail
    go_ret
    exact ⟨by rw [hE.out]; rfl, rfl⟩
def okI (n : Int) : Prop := -9223372036854775808 ≤ n ∧ n ≤ 9223372036854775807
theorem amount_any (n : Int) (w : World) (hn : -9223372036854775807 ≤ n ∧ n ≤ 9223372036854775807) :
    Calls Try.prog 48 #[.int .i64 n] w fun e w' => e = .returned (.int .i64 (max n (-n))) ∧ w = w' := by
  have ww : IntKind.i64.wrap (-n) = -n := by rw [IntKind.wrap_i64]; omega
  by_cases h1 : n < 0
  · have hE := Lib.hid (show max n (-n) = -n by omega)
    go_enter Try.func48, Try.ntmps48
    go_wp2_with fail
    go_ret
    exact ⟨ret_int (by rw [hE.out]), rfl⟩
  · have hE := Lib.hid (show max n (-n) = n by omega)
    go_enter Try.func48, Try.ntmps48
    go_wp2_with fail
    go_ret
    exact ⟨ret_int (by rw [hE.out]), rfl⟩
end Go.Proofs.Ytgbegdjakadbbaa

set_option linter.all false
namespace Go.Proofs.Ytgbegdjakadbbaa
open Go.RowKit Vp

theorem blaE_many {l : List St} {m : Int} (h : l.length = 0 ∨ 20 < l.length) : blaE l m = 6 := by unfold blaE; rw [if_pos h]
theorem blaE_bad {l : List St} {m : Int} (h : ¬ (l.length = 0 ∨ 20 < l.length)) (h2 : l.all okSB = false) : blaE l m = 3 := by unfold blaE; rw [if_neg h, if_neg (by rw [h2]; simp)]
theorem blaE_bad1 {l : List St} {m : Int} (h : ¬ (l.length = 0 ∨ 20 < l.length)) {k : Nat} (hk : k < l.length) (h2 : okSB (nthS l k) = false) : blaE l m = 3 :=
  blaE_bad h (by rw [← Bool.not_eq_true, allS_iff]; intro ha; rw [ha k hk] at h2; cases h2)
theorem blaE_most {l : List St} {m : Int} (h : ¬ (l.length = 0 ∨ 20 < l.length)) (h2 : l.all okSB = true) : blaE l m = if inB 0 200 m = true then 0 else 2 := by
  unfold blaE; rw [if_neg h, if_pos h2]; simp only [inB_iff]
theorem inside_q {n lo hi : Int} {q : Bool} (h : inB lo hi n = q) (w : World) :
    Calls Try.prog 47 #[.int .i64 n, .int .i64 lo, .int .i64 hi] w fun e w' => e = .returned (.bool q) ∧ w = w' := by
  subst h; exact inside_any n lo hi w

set_option maxHeartbeats 8000000 in
set_option maxRecDepth 100000 in
theorem check_any (l : List St) (v : Value) (m : Int) (w : World) (hl : l.length ≤ 1000) (hT : RT w w.heap.size v l) :
    Calls Try.prog 22 #[bV v m] w fun e w' => e = .returned (.int .i64 (blaE l m)) ∧ Below w.heap.size w w' := by
  unfold bV
  obtain ⟨b, off, cap, A, rfl, -, hcap⟩ := hT.slice
  obtain ⟨n0, hn0⟩ : ∃ n, w.heap.size = n := ⟨_, rfl⟩
  have hC : Below n0 w w := Below.refl _ _
  go_enter Try.func22, Try.ntmps22
  go_upto_region 1 with fail
  have hqbx : n0 ≤ n0 := by have := hC.size; omega
  have bx : BK (w.alloc (.cells #[.slice A l.length cap, .int .i64 m] 24)) (n0) #[.slice A l.length cap, .int .i64 m] 24 := BK.new' _ _ _ (n0) hn0
  have hsbx : (w.alloc (.cells #[.slice A l.length cap, .int .i64 m] 24)).heap.size = n0 + 1 := by simp [hn0]
  replace hC : Below n0 w (w.alloc (.cells #[.slice A l.length cap, .int .i64 m] 24)) := Below.alloc hC (by have := hC.size; omega) _
  replace hT := (RS.below hT (w' := (w.alloc (.cells #[.slice A l.length cap, .int .i64 m] 24))) (Below.alloc (Below.refl _ _) (Nat.le_refl _) _)).more (B' := (w.alloc (.cells #[.slice A l.length cap, .int .i64 m] 24)).heap.size) (by simp)
  generalize (w.alloc (.cells #[.slice A l.length cap, .int .i64 m] 24)) = Wbx at *
  by_cases h1 : l.length = 0
  case pos =>
    have HE := Lib.hid (blaE_many (l := l) (m := m) (by omega))
    have z1 : (l.length : Int) = 0 := by omega
    clear h1
    have lbx := bx.lt
    have bxc0 := bx.cell 0
    have bxc1 := bx.cell 1
    simp at bxc0 bxc1
    go_wp2_with fail
    go_ret
    exact ⟨ret_int HE.out.symm, by (try rw [hn0]); exact hC⟩
  have z1 : ((l.length : Int) == 0) = false := beq_eq_false_iff_ne.2 (by omega)
  by_cases h2 : 20 < l.length
  case pos =>
    have HE := Lib.hid (blaE_many (l := l) (m := m) (by omega))
    have z2 : decide ((20 : Int) < (l.length : Int)) = true := decide_eq_true (by omega)
    have lbx := bx.lt
    have bxc0 := bx.cell 0
    have bxc1 := bx.cell 1
    simp at bxc0 bxc1
    go_wp2_with fail
    go_ret
    exact ⟨ret_int HE.out.symm, by (try rw [hn0]); exact hC⟩
  have z2 : decide ((20 : Int) < (l.length : Int)) = false := decide_eq_false (by omega)
  have HM := Lib.hid (show ¬ (l.length = 0 ∨ 20 < l.length) by omega)
  clear h1 h2
  have lbx := bx.lt
  have bxc0 := bx.cell 0
  have bxc1 := bx.cell 1
  simp at bxc0 bxc1
  go_wp2_with fail
  clear lbx bxc0 bxc1
  clear hsbx
  refine (has_bad l _ _ hl hT).mono ?_
  rintro e w1 ⟨rfl, hb⟩
  replace hC : Below n0 w w1 := hC.trans (hb.mono (by have := hC.size; omega))
  replace hT := (RS.below hT hb).more hb.size
  replace bx := bx.below hb bx.lt
  clear hb
  obtain ⟨q, hq⟩ : ∃ q, l.all okSB = q := ⟨_, rfl⟩
  rw [hq]
  cases q
  case false =>
    have HE := Lib.hid (blaE_bad (m := m) HM.out hq)
    clear hq
    go_wp2_with fail
    go_ret
    exact ⟨ret_int HE.out.symm, by (try rw [hn0]); exact hC⟩
  have HO := Lib.hid (blaE_most (m := m) HM.out hq)
  clear hq z1 z2
  have lbx := bx.lt
  have bxc0 := bx.cell 0
  have bxc1 := bx.cell 1
  simp at bxc0 bxc1
  go_wp2_with fail
  refine (within_1 _ _ _ _ _ rfl).mono ?_
  rintro e w5 ⟨rfl, hw5⟩
  have hb : Below w1.heap.size w1 w5 := by rw [← hw5]; exact bel_of
  clear hw5
  clear lbx bxc0 bxc1
  replace hC : Below n0 w w5 := hC.trans (hb.mono (by have := hC.size; omega))
  replace hT := (RS.below hT hb).more hb.size
  replace bx := bx.below hb bx.lt
  clear hb
  cases hq : inB 0 200 m with
  | false =>
    have HE := Lib.hid (show blaE l m = 2 by rw [HO.out, hq]; rfl)
    clear hq
    go_wp2_with fail
    go_ret
    exact ⟨ret_int HE.out.symm, by (try rw [hn0]); exact hC⟩
  | true =>
    have HE := Lib.hid (show blaE l m = 0 by rw [HO.out, hq]; rfl)
    clear hq
    go_wp2_with fail
    go_ret
    exact ⟨ret_int HE.out.symm, by (try rw [hn0]); exact hC⟩

end Go.Proofs.Ytgbegdjakadbbaa

set_option linter.all false
namespace Go.Proofs.Ytgbegdjakadbbaa
open Go.RowKit Vp

set_option maxHeartbeats 8000000 in
set_option maxRecDepth 100000 in
theorem checkR_any (l : List St) (v : Value) (m : Int) (w : World) (hl : l.length ≤ 1000) (hT : RT w w.heap.size v l) :
    Calls Try.prog 23 #[bV v m] w fun e w' => e = .returned (.int .i64 (blaE l m)) ∧ Below w.heap.size w w' := by
  unfold bV
  obtain ⟨b, off, cap, A, rfl, -, hcap⟩ := hT.slice
  obtain ⟨n0, hn0⟩ : ∃ n, w.heap.size = n := ⟨_, rfl⟩
  have hC : Below n0 w w := Below.refl _ _
  go_enter Try.func23, Try.ntmps23
  go_upto_region 1 with fail
  have hqbx : n0 ≤ n0 := by have := hC.size; omega
  have bx : BK (w.alloc (.cells #[.slice A l.length cap, .int .i64 m] 24)) (n0) #[.slice A l.length cap, .int .i64 m] 24 := BK.new' _ _ _ (n0) hn0
  have hsbx : (w.alloc (.cells #[.slice A l.length cap, .int .i64 m] 24)).heap.size = n0 + 1 := by simp [hn0]
  replace hC : Below n0 w (w.alloc (.cells #[.slice A l.length cap, .int .i64 m] 24)) := Below.alloc hC (by have := hC.size; omega) _
  replace hT := (RS.below hT (w' := (w.alloc (.cells #[.slice A l.length cap, .int .i64 m] 24))) (Below.alloc (Below.refl _ _) (Nat.le_refl _) _)).more (B' := (w.alloc (.cells #[.slice A l.length cap, .int .i64 m] 24)).heap.size) (by simp)
  generalize (w.alloc (.cells #[.slice A l.length cap, .int .i64 m] 24)) = Wbx at *
  by_cases h1 : l.length = 0
  case pos =>
    have HE := Lib.hid (blaE_many (l := l) (m := m) (by omega))
    have z1 : (l.length : Int) = 0 := by omega
    clear h1
    have lbx := bx.lt
    have bxc0 := bx.cell 0
    have bxc1 := bx.cell 1
    simp at bxc0 bxc1
    go_wp2_with fail
    go_ret
    exact ⟨ret_int HE.out.symm, by (try rw [hn0]); exact hC⟩
  have z1 : decide ((l.length : Int) < 1) = false := decide_eq_false (by omega)
  by_cases h2 : 20 < l.length
  case pos =>
    have HE := Lib.hid (blaE_many (l := l) (m := m) (by omega))
    have z2 : decide ((20 : Int) < (l.length : Int)) = true := decide_eq_true (by omega)
    have lbx := bx.lt
    have bxc0 := bx.cell 0
    have bxc1 := bx.cell 1
    simp at bxc0 bxc1
    go_wp2_with fail
    go_ret
    exact ⟨ret_int HE.out.symm, by (try rw [hn0]); exact hC⟩
  have z2 : decide ((20 : Int) < (l.length : Int)) = false := decide_eq_false (by omega)
  have HM := Lib.hid (show ¬ (l.length = 0 ∨ 20 < l.length) by omega)
  have h20 : l.length ≤ 20 := by omega
  clear h1 h2
  have lbx := bx.lt
  have bxc0 := bx.cell 0
  have bxc1 := bx.cell 1
  simp at bxc0 bxc1
  go_wp2_with fail
  clear lbx bxc0 bxc1
  clear z1 z2
  clear hsbx
  go_loopw [3] (fun i wr => ∃ k : Nat, k ≤ l.length ∧ i = .int .i64 k ∧ (∀ j, j < k → okSB (nthS l j) = true) ∧ Below Wbx.heap.size Wbx wr) (fun i _ => l.length - (intOf i).toNat)
  case atStart => exact ⟨0, Nat.zero_le _, rfl, fun j hj => absurd hj (by omega), Below.refl _ _⟩
  case round =>
    obtain ⟨k, hk, rfl, hall, hb⟩ := hrel
    have HALL := Lib.hid hall
    have hbr := Lib.hid hb
    clear hall
    replace hC : Below n0 w wr := hC.trans (hb.mono (by have := hC.size; omega))
    replace hT := (RS.below hT hb).more hb.size
    replace bx := bx.below hb bx.lt
    clear hb
    by_cases hlt : k < l.length
    case neg =>
      have hlt' : ¬ (k : Int) < (l.length : Int) := by omega
      have HO := Lib.hid (blaE_most (m := m) HM.out (allS_iff.2 fun j hj => HALL.out j (by omega)))
      have lbx := bx.lt
      have bxc0 := bx.cell 0
      have bxc1 := bx.cell 1
      simp at bxc0 bxc1
      cases hq : inB 0 200 m with
      | false =>
        have HE := Lib.hid (show blaE l m = 2 by rw [HO.out, hq]; rfl)
        go_wp2_with (go_at_call 47; refine (inside_q (by assumption) _).mono ?_; rintro e w5 ⟨rfl, rfl⟩)
        skip
        go_ret
        exact ⟨ret_int HE.out.symm, by (try rw [hn0]); exact hC⟩
      | true =>
        have HE := Lib.hid (show blaE l m = 0 by rw [HO.out, hq]; rfl)
        go_wp2_with (go_at_call 47; refine (inside_q (by assumption) _).mono ?_; rintro e w5 ⟨rfl, rfl⟩)
        skip
        go_ret
        exact ⟨ret_int HE.out.symm, by (try rw [hn0]); exact hC⟩
    have hlt' : (k : Int) < (l.length : Int) := by omega
    obtain ⟨A', cap', bb, off', hve, hA, hc⟩ := RT.cells hT
    obtain ⟨rfl, hbb⟩ := hA (by omega)
    injection hve with q1 q2 q3
    subst q1 q3
    obtain ⟨d0, d1, d2, d3⟩ := hc k hlt
    have HBAD := Lib.hid (fun (h : okSB (nthS l k) = false) => blaE_bad1 (m := m) HM.out hlt h)
    have HNEXT := Lib.hid (fun (h : okSB (nthS l k) = true) => show ∀ j, j < k + 1 → okSB (nthS l j) = true from fun j hj => by
      rcases Nat.lt_succ_iff_lt_or_eq.1 hj with h1 | rfl
      · exact HALL.out j h1
      · exact h)
    have hq := okSB_eq (nthS l k)
    obtain ⟨⟨a, lo, hi, hd⟩, hs⟩ : ∃ s, nthS l k = s := ⟨_, rfl⟩
    rw [hs] at d0 d1 d2 d3 HBAD HNEXT hq
    dsimp only at d0 d1 d2 d3 hq
    clear hA hc q2 hs
    have lbx := bx.lt
    have bxc0 := bx.cell 0
    have bxc1 := bx.cell 1
    simp at bxc0 bxc1
    go_upto_region 7 with fail
    clear lbx bxc0 bxc1
    obtain ⟨m1, hm1⟩ : ∃ n, wr.heap.size = n := ⟨_, rfl⟩
    try rw [hm1]
    have hqsx : n0 ≤ m1 := by have := hC.size; omega
    have sx : BK (wr.alloc (.cells #[.int .i64 a, .int .i64 lo, .int .i64 hi, .int .i64 hd] 60)) (m1) #[.int .i64 a, .int .i64 lo, .int .i64 hi, .int .i64 hd] 60 := BK.new' _ _ _ (m1) hm1
    have hssx : (wr.alloc (.cells #[.int .i64 a, .int .i64 lo, .int .i64 hi, .int .i64 hd] 60)).heap.size = m1 + 1 := by simp [hm1]
    replace hC : Below n0 w (wr.alloc (.cells #[.int .i64 a, .int .i64 lo, .int .i64 hi, .int .i64 hd] 60)) := Below.alloc hC (by have := hC.size; omega) _
    replace hT := (RS.below hT (w' := (wr.alloc (.cells #[.int .i64 a, .int .i64 lo, .int .i64 hi, .int .i64 hd] 60))) (Below.alloc (Below.refl _ _) (Nat.le_refl _) _)).more (B' := (wr.alloc (.cells #[.int .i64 a, .int .i64 lo, .int .i64 hi, .int .i64 hd] 60)).heap.size) (by simp)
    replace bx := bx.alloc (.cells #[.int .i64 a, .int .i64 lo, .int .i64 hi, .int .i64 hd] 60)
    have hbo := Lib.hid (hbr.out.trans ((Below.alloc (Below.refl _ _) (Nat.le_refl _) _ : Below wr.heap.size wr (wr.alloc (.cells #[.int .i64 a, .int .i64 lo, .int .i64 hi, .int .i64 hd] 60))).mono hbr.out.size))
    generalize (wr.alloc (.cells #[.int .i64 a, .int .i64 lo, .int .i64 hi, .int .i64 hd] 60)) = Wsx at *
    clear hm1
    clear d0 d1 d2 d3
    clear hssx
    have lsx := sx.lt
    have sxc0 := sx.cell 0
    have sxc1 := sx.cell 1
    have sxc2 := sx.cell 2
    have sxc3 := sx.cell 3
    simp at sxc0 sxc1 sxc2 sxc3
    cases e1 : inB (-100) 100 a
    case false =>
      have HE := Lib.hid (HBAD.out (hq.trans (by simp [e1])))
      clear hq
      go_wp2_with (go_at_call 47; refine (inside_q (by assumption) _).mono ?_; rintro e w5 ⟨rfl, rfl⟩)
      go_ret
      exact ⟨ret_int HE.out.symm, by (try rw [hn0]); exact hC⟩
    cases e2 : inB (-100) 100 lo
    case false =>
      have HE := Lib.hid (HBAD.out (hq.trans (by simp [e1, e2])))
      clear hq
      go_wp2_with (go_at_call 47; refine (inside_q (by assumption) _).mono ?_; rintro e w5 ⟨rfl, rfl⟩)
      go_ret
      exact ⟨ret_int HE.out.symm, by (try rw [hn0]); exact hC⟩
    cases e3 : inB (-100) 100 hi
    case false =>
      have HE := Lib.hid (HBAD.out (hq.trans (by simp [e1, e2, e3])))
      clear hq
      go_wp2_with (go_at_call 47; refine (inside_q (by assumption) _).mono ?_; rintro e w5 ⟨rfl, rfl⟩)
      go_ret
      exact ⟨ret_int HE.out.symm, by (try rw [hn0]); exact hC⟩
    cases e4 : decide (hi < lo)
    case true =>
      have HE := Lib.hid (HBAD.out (hq.trans (by simp [e1, e2, e3, e4])))
      clear hq
      go_wp2_with (go_at_call 47; refine (inside_q (by assumption) _).mono ?_; rintro e w5 ⟨rfl, rfl⟩)
      go_ret
      exact ⟨ret_int HE.out.symm, by (try rw [hn0]); exact hC⟩
    cases e5 : inB 1 9 hd
    case false =>
      have HE := Lib.hid (HBAD.out (hq.trans (by simp [e1, e2, e3, e4, e5])))
      clear hq
      go_wp2_with (go_at_call 47; refine (inside_q (by assumption) _).mono ?_; rintro e w5 ⟨rfl, rfl⟩)
      go_ret
      exact ⟨ret_int HE.out.symm, by (try rw [hn0]); exact hC⟩
    have HN := Lib.hid (HNEXT.out (hq.trans (by simp [e1, e2, e3, e4, e5])))
    clear hq
    go_wp2_with (go_at_call 47; refine (inside_q (by assumption) _).mono ?_; rintro e w5 ⟨rfl, rfl⟩)
    go_roundw
    case rel => exact ⟨k + 1, by omega, by go_num, HN.out, hbo.out⟩
    case measure => simp [intOf]; omega

end Go.Proofs.Ytgbegdjakadbbaa
