/- The arguments of a law as lists: words for any program. The arguments of a law as lists; and the last step of a law's row: it returned true, and below the old heap nothing has turned. Plain: between two ways of blows there are others, that cost no more; so the least cost is convex. Plain: wider, turned and greater blades; lazy blows. Blows of a blade, by numbers. -/
import Derived.Test.YtgbegdjakadbbaaP1
import Derived.Test.YtgbegdjakadbbaaP5
import Derived.WalkKit
import Derived.ProofKit
import Derived.OpenShut
import Derived.Deep.Slices
import Derived.Carry
import Derived.Test.YtgbegdjakadbbaaRows
import Derived.Test.YtgbegdjakadbbaaP6
import Derived.Test.YtgbegdjakadbbaaP7
set_option linter.all false
set_option linter.unnecessarySimpa false
set_option linter.unusedSimpArgs false
set_option linter.unusedVariables false
set_option linter.unusedSectionVars false

namespace Go.Proofs.Ytgbegdjakadbbaa
open Go.ChangeShapes Go.WideShapes Go.ChangeAt Go.RowKit Go.Deep Vp
set_option linter.all false

theorem spot_none {w : World} {a : Addr} {v : Value} (h : w.cell? a = some v) : a = ⟨a.block, a.off, none⟩ ∧ a.block < w.heap.size := by
  unfold World.cell? at h
  split at h
  · rename_i c t r hb
    split at h
    · cases h
    · rename_i hs
      refine ⟨?_, (Array.getElem?_eq_some_iff.1 hb).1⟩
      obtain ⟨b, o, s⟩ := a
      cases s with
      | none => rfl
      | some _ => simp at hs
  · cases h
theorem flat_at {α : Type} (f : α → List Value) (sz : Nat) (hf : ∀ z, (f z).length = sz) : ∀ (L : List α) (i r : Nat) (hi : i < L.length), r < sz → (L.flatMap f)[i * sz + r]? = (f L[i])[r]?
  | [], i, r, hi, _ => by simp at hi
  | z :: L, 0, r, _, hr => by
    simp only [List.flatMap_cons, Nat.zero_mul, Nat.zero_add, List.getElem_cons_zero]
    rw [List.getElem?_append_left (by rw [hf]; exact hr)]
  | z :: L, i + 1, r, hi, hr => by
    have := flat_at f sz hf L i r (by simpa using hi) hr
    simp only [List.flatMap_cons, List.getElem_cons_succ]
    rw [List.getElem?_append_right (by rw [hf, Nat.succ_mul]; omega), hf, show (i + 1) * sz + r - sz = i * sz + r by rw [Nat.succ_mul]; omega]
    exact this
theorem flat_len {α : Type} (f : α → List Value) (sz : Nat) (hf : ∀ z, (f z).length = sz) : ∀ L : List α, (L.flatMap f).length = L.length * sz
  | [] => by simp
  | z :: L => by rw [List.flatMap_cons, List.length_append, hf, flat_len f sz hf L, List.length_cons, Nat.succ_mul]; omega

section
variable {H : Type} {enc : TypeId × Value → H} {w : World} {base : Nat} {spare : Nat → Bool} {held : Bool}
theorem open_rs {P : Program} {α : Type} [Inhabited α] (f : α → List Value) (G : α → Prop) {t e sz : Nat} {v : Value} {d : DataW H} {ps : List MemPlace} {r : Reach} {b0 : Nat} (ht : P.underlying t = some (.slice e)) (hC : P.cellsOf e = sz) (h0 : 0 < sz) (hf : ∀ z, (f z).length = sz)
    (he : ∀ n cs' y, DataW.trod enc P w base spare held n e cs' = some y → ∃ z, cs' = f z ∧ G z) (hval : Value.okWide P w r b0 t v) (hd : DataW.Trod enc P w base spare held t v d ps) :
    ∃ L : List α, RS w w.heap.size sz v L.length (L.flatMap f) ∧ (∀ z ∈ L, G z) ∧ L.length ≤ maxLen := by
  obtain ⟨a0, len0, cap0, rfl⟩ := okWide_slice ht hval
  obtain ⟨fuel, hd⟩ := hd
  rcases open_slice ht hd with ⟨hn, _⟩ | ⟨a, len, cap, m, n, D, Pl, hcs, hb, hl, hm, hmm, hx, hi⟩
  · obtain ⟨rfl, rfl, rfl⟩ : a0 = none ∧ len0 = 0 ∧ cap0 = 0 := by simpa [Value.cells] using hn
    exact ⟨[], ⟨none, 0, 0, 0, rfl, ⟨by simp, Nat.le_refl _⟩, fun h => absurd rfl h, fun j hj => by simp at hj⟩, by simp, Nat.zero_le _⟩
  · obtain ⟨rfl, rfl, rfl⟩ : a0 = some a ∧ len0 = len ∧ cap0 = cap := by simpa [Value.cells] using hcs
    have hlm : len0 ≤ m := by rw [hmm]; split <;> omega
    obtain ⟨Z, hZ⟩ := choose_lt (n := len0) (α := α) (p := fun i z => (∀ j, j < sz → w.cell? ((a.add (i * sz)).add j) = (f z)[j]?) ∧ G z) (fun i him => by
      obtain ⟨cs', hc, ht'⟩ := hi i (by omega)
      obtain ⟨z, rfl, hg⟩ := he _ _ _ ht'
      rw [hC] at hc
      exact ⟨z, (World.cells?_some hc).2.2, hg⟩)
    refine ⟨(List.range len0).map Z, ?_, ?_, by simp; omega⟩
    · rcases Nat.eq_zero_or_pos len0 with hz | hz
      · subst hz
        exact ⟨some a, cap0, 0, 0, by simp, ⟨by simp, by simp⟩, fun h => absurd (by simp) h, fun j hj => by simp at hj⟩
      · have hc0 := (hZ 0 hz).1 0 h0
        have hs0 : (f (Z 0))[0]? = some ((f (Z 0))[0]'(by rw [hf]; exact h0)) := List.getElem?_eq_getElem _
        rw [hs0] at hc0
        have ha0 : (a.add (0 * sz)).add 0 = a := by simp [Addr.add]
        rw [ha0] at hc0
        obtain ⟨ha, hab⟩ := spot_none hc0
        rw [ha]
        refine ⟨_, cap0, a.block, a.off, by simp, ⟨by rw [flat_len f sz hf], by simpa using hl⟩, fun _ => ⟨rfl, hab⟩, fun j hj => ?_⟩
        rw [flat_len f sz hf, List.length_map, List.length_range] at hj
        have hjr := Nat.mod_lt j h0
        have hji : j / sz < len0 := Nat.div_lt_of_lt_mul (by rw [Nat.mul_comm]; exact hj)
        have hje : j = j / sz * sz + j % sz := by rw [Nat.mul_comm]; exact (Nat.div_add_mod ..).symm
        have h1 := (hZ (j / sz) hji).1 (j % sz) hjr
        have h2 : (a.add (j / sz * sz)).add (j % sz) = ⟨a.block, a.off + j, none⟩ := by
          rw [ha]
          unfold Addr.add
          by_cases z1 : j / sz * sz = 0 <;> by_cases z2 : j % sz = 0 <;> simp [z1, z2] <;> omega
        rw [h2] at h1
        rw [h1]
        have h3 := flat_at f sz hf ((List.range len0).map Z) (j / sz) (j % sz) (by simpa using hji) hjr
        rw [← hje] at h3
        rw [h3]
        simp
    · intro z hz
      obtain ⟨i, hi', rfl⟩ := List.mem_map.1 hz
      exact (hZ i (List.mem_range.1 hi')).2

theorem open_rs0 {P : Program} {α : Type} [Inhabited α] (f : α → List Value) (G : α → Prop) {t e sz : Nat} {c : Value} {x : DataW H × List MemPlace} {fuel : Nat} (ht : P.underlying t = some (.slice e)) (hC : P.cellsOf e = sz) (h0 : 0 < sz) (hf : ∀ z, (f z).length = sz)
    (he : ∀ n cs' y, DataW.trod enc P w base spare held n e cs' = some y → ∃ z, cs' = f z ∧ G z) (hd : DataW.trod enc P w base spare held fuel t [c] = some x) :
    ∃ L : List α, RS w w.heap.size sz c L.length (L.flatMap f) ∧ (∀ z ∈ L, G z) ∧ L.length ≤ maxLen := by
  rcases open_slice ht hd with ⟨hn, _⟩ | ⟨a, len, cap, m, n, D, Pl, hcs, hb, hl, hm, hmm, hx, hi⟩
  · obtain rfl : c = .slice none 0 0 := by simpa using hn
    exact ⟨[], ⟨none, 0, 0, 0, rfl, ⟨by simp, Nat.le_refl _⟩, fun h => absurd rfl h, fun j hj => by simp at hj⟩, by simp, Nat.zero_le _⟩
  · obtain rfl : c = .slice (some a) len cap := by simpa using hcs
    have hlm : len ≤ m := by rw [hmm]; split <;> omega
    obtain ⟨Z, hZ⟩ := choose_lt (n := len) (α := α) (p := fun i z => (∀ j, j < sz → w.cell? ((a.add (i * sz)).add j) = (f z)[j]?) ∧ G z) (fun i him => by
      obtain ⟨cs', hc, ht'⟩ := hi i (by omega)
      obtain ⟨z, rfl, hg⟩ := he _ _ _ ht'
      rw [hC] at hc
      exact ⟨z, (World.cells?_some hc).2.2, hg⟩)
    refine ⟨(List.range len).map Z, ?_, ?_, by simp; omega⟩
    · rcases Nat.eq_zero_or_pos len with hz | hz
      · subst hz
        exact ⟨some a, cap, 0, 0, by simp, ⟨by simp, by simp⟩, fun h => absurd (by simp) h, fun j hj => by simp at hj⟩
      · have hc0 := (hZ 0 hz).1 0 h0
        have hs0 : (f (Z 0))[0]? = some ((f (Z 0))[0]'(by rw [hf]; exact h0)) := List.getElem?_eq_getElem _
        rw [hs0] at hc0
        have ha0 : (a.add (0 * sz)).add 0 = a := by simp [Addr.add]
        rw [ha0] at hc0
        obtain ⟨ha, hab⟩ := spot_none hc0
        rw [ha]
        refine ⟨_, cap, a.block, a.off, by simp, ⟨by rw [flat_len f sz hf], by simpa using hl⟩, fun _ => ⟨rfl, hab⟩, fun j hj => ?_⟩
        rw [flat_len f sz hf, List.length_map, List.length_range] at hj
        have hjr := Nat.mod_lt j h0
        have hji : j / sz < len := Nat.div_lt_of_lt_mul (by rw [Nat.mul_comm]; exact hj)
        have hje : j = j / sz * sz + j % sz := by rw [Nat.mul_comm]; exact (Nat.div_add_mod ..).symm
        have h1 := (hZ (j / sz) hji).1 (j % sz) hjr
        have h2 : (a.add (j / sz * sz)).add (j % sz) = ⟨a.block, a.off + j, none⟩ := by
          rw [ha]
          unfold Addr.add
          by_cases z1 : j / sz * sz = 0 <;> by_cases z2 : j % sz = 0 <;> simp [z1, z2] <;> omega
        rw [h2] at h1
        rw [h1]
        have h3 := flat_at f sz hf ((List.range len).map Z) (j / sz) (j % sz) (by simpa using hji) hjr
        rw [← hje] at h3
        rw [h3]
        simp
    · intro z hz
      obtain ⟨i, hi', rfl⟩ := List.mem_map.1 hz
      exact (hZ i (List.mem_range.1 hi')).2

theorem okI_wf {n : Int} (h : (Lit.int .i64 n).wf = true) : okI n := by simpa [okI, Lit.wf, IntKind.min, IntKind.max, IntKind.signed, IntKind.bits] using h
section
variable {P : Program}
theorem two_ints {i64 t : TypeId} (h64 : P.underlying i64 = some (.int .i64)) (h64c : P.cellsOf i64 = 1) {fuel : Nat} {cs : List Value} {x : DataW H × List MemPlace} {fs : Array Field} (hu : P.underlying t = some (.struct fs)) (hC : P.cellsOf t = 2) {f0 f1 : Field} (hfs : fs = #[f0, f1])
    (e0 : f0.type = i64 ∧ f0.offset = 0) (e1 : f1.type = i64 ∧ f1.offset = 1) (h : DataW.trod enc P w base spare held fuel t cs = some x) : ∃ a b, cs = [.int .i64 a, .int .i64 b] ∧ okI a ∧ okI b := by
  subst hfs
  obtain ⟨xs, n, _, _, hcl, hxl, hf⟩ := DataW.trod_struct hu h
  rw [hC] at hcl
  match cs, hcl with
  | [c0, c1], _ =>
    have h0 := hf 0 f0 rfl
    have h1 := hf 1 f1 rfl
    rw [e0.1, e0.2, h64c] at h0
    rw [e1.1, e1.2, h64c] at h1
    have hx : xs.length = 2 := hxl
    rw [List.getElem?_eq_getElem (show 0 < xs.length by omega)] at h0
    rw [List.getElem?_eq_getElem (show 1 < xs.length by omega)] at h1
    obtain ⟨a, k0, _, w0⟩ := DataW.trod_int h64 h0
    obtain ⟨b, k1, _, w1⟩ := DataW.trod_int h64 h1
    simp at k0 k1
    subst k0; subst k1
    exact ⟨a, b, rfl, okI_wf w0, okI_wf w1⟩
theorem int_two {i64 t r : TypeId} (h64 : P.underlying i64 = some (.int .i64)) (h64c : P.cellsOf i64 = 1) {fuel : Nat} {cs : List Value} {x : DataW H × List MemPlace} {fs gs : Array Field} (hu : P.underlying t = some (.struct fs)) (hC : P.cellsOf t = 4) {f0 f1 f2 g0 g1 : Field} (hfs : fs = #[f0, f1, f2])
    (e0 : f0.type = i64 ∧ f0.offset = 0) (e1 : f1.type = r ∧ f1.offset = 1) (e2 : f2.type = i64 ∧ f2.offset = 3) (hr : P.underlying r = some (.struct gs)) (hrC : P.cellsOf r = 2) (hgs : gs = #[g0, g1]) (d0 : g0.type = i64 ∧ g0.offset = 0) (d1 : g1.type = i64 ∧ g1.offset = 1)
    (h : DataW.trod enc P w base spare held fuel t cs = some x) : ∃ a b c d, cs = [.int .i64 a, .int .i64 b, .int .i64 c, .int .i64 d] ∧ okI a ∧ okI b ∧ okI c ∧ okI d := by
  subst hfs
  obtain ⟨xs, n, _, _, hcl, hxl, hf⟩ := DataW.trod_struct hu h
  rw [hC] at hcl
  match cs, hcl with
  | [c0, c1, c2, c3], _ =>
    have h0 := hf 0 f0 rfl
    have h1 := hf 1 f1 rfl
    have h2 := hf 2 f2 rfl
    rw [e0.1, e0.2, h64c] at h0
    rw [e1.1, e1.2, hrC] at h1
    rw [e2.1, e2.2, h64c] at h2
    have hx : xs.length = 3 := hxl
    rw [List.getElem?_eq_getElem (show 0 < xs.length by omega)] at h0
    rw [List.getElem?_eq_getElem (show 1 < xs.length by omega)] at h1
    rw [List.getElem?_eq_getElem (show 2 < xs.length by omega)] at h2
    obtain ⟨a, k0, _, w0⟩ := DataW.trod_int h64 h0
    obtain ⟨b, c, k1, w1, w2⟩ := two_ints h64 h64c hr hrC hgs d0 d1 h1
    obtain ⟨d, k2, _, w3⟩ := DataW.trod_int h64 h2
    simp at k0 k1 k2
    obtain ⟨k1, k3⟩ := k1
    subst k0; subst k1; subst k2; subst k3
    exact ⟨a, b, c, d, rfl, okI_wf w0, w1, w2, okI_wf w3⟩
end
end
end Go.Proofs.Ytgbegdjakadbbaa

namespace Go.Proofs.Ytgbegdjakadbbaa
open Go.ChangeShapes Go.WideShapes Go.ChangeAt Go.RowKit Go.Deep Vp
set_option linter.all false

theorem own : ownKnob Try.prog.godebug = none := by kernel_rfl
theorem laidOut : laidOutB Try.prog = true := by kernel_rfl
section
variable {H : Type} {enc : TypeId × Value → H} {w : World} {base : Nat} {spare : Nat → Bool} {held : Bool} {P : Program}
theorem okWide_arr {r : Reach} {b0 : Nat} {t : TypeId} {n : Nat} {e : TypeId} {v : Value} (ht : P.underlying t = some (.array n e)) (h : Value.okWide P w r b0 t v) : ∃ cs, v = .agg cs ∧ cs.size = P.cellsOf t := by
  simp only [Value.okWide, ht] at h
  obtain ⟨cs, h1, h2, _⟩ := h
  exact ⟨cs, h1, h2⟩
theorem arr_int {t e : TypeId} {n : Nat} {k : IntKind} (ht : P.underlying t = some (.array n e)) (he : P.underlying e = some (.int k)) (hc : P.cellsOf e = 1) {fuel : Nat} {cs : List Value} {x : DataW H × List MemPlace}
    (h : DataW.trod enc P w base spare held fuel t cs = some x) : ∀ i, i < n → ∃ m, cs[i]? = some (.int k m) ∧ (Lit.int k m).wf = true := by
  obtain ⟨xs, m, _, _, hcl, hxl, hf⟩ := DataW.trod_array ht h
  intro i hi
  have h1 := hf i hi
  rw [hc, Nat.mul_one] at h1
  rw [List.getElem?_eq_getElem (show i < xs.length by omega)] at h1
  obtain ⟨y, e0, _, w0⟩ := DataW.trod_int he h1
  refine ⟨y, ?_, w0⟩
  have : ((cs.drop i).take 1)[0]? = some (.int k y) := by rw [e0]; rfl
  rw [List.getElem?_take_of_lt (by decide), List.getElem?_drop] at this
  simpa using this
end
section
variable {H : Type} {enc : TypeId × Value → H} {w : World} {base : Nat} {spare : Nat → Bool} {held : Bool}
theorem cellsI : Try.prog.cellsOf 3 = 1 := by kernel_rfl
theorem cells1 : Try.prog.cellsOf 2 = 1 := by kernel_rfl
theorem cellsRg : Try.prog.cellsOf 42 = 2 := by kernel_rfl
theorem cellsSt : Try.prog.cellsOf 60 = 4 := by kernel_rfl
theorem cellsBl : Try.prog.cellsOf 24 = 2 := by kernel_rfl
theorem cellsSs : Try.prog.cellsOf 22 = 1 := by kernel_rfl
theorem cellsU8 : Try.prog.cellsOf 5 = 1 := by kernel_rfl
theorem cellsU16 : Try.prog.cellsOf 56 = 1 := by kernel_rfl
theorem cellsI16 : Try.prog.cellsOf 55 = 1 := by kernel_rfl
theorem cellsA8 : Try.prog.cellsOf 52 = 2 := by kernel_rfl
def okS4 (s : St) : Prop := okI s.ang ∧ okI s.lo ∧ okI s.hi ∧ okI s.hard
set_option maxRecDepth 100000 in
theorem trod_st {fuel : Nat} {cs : List Value} {x : DataW H × List MemPlace} (h : DataW.trod enc Try.prog w base spare held fuel 60 cs = some x) : ∃ s : St, cs = encS s ∧ okS4 s := by
  obtain ⟨a, b, c, d, e, h1, h2, h3, h4⟩ := int_two Try.underlying2 cells1 Try.underlying60 cellsSt rfl ⟨rfl, rfl⟩ ⟨rfl, rfl⟩ ⟨rfl, rfl⟩ Try.underlying42 cellsRg rfl ⟨rfl, rfl⟩ ⟨rfl, rfl⟩ h
  exact ⟨⟨a, b, c, d⟩, e, h1, h2, h3, h4⟩
set_option maxRecDepth 100000 in
theorem open_blade {v : Value} {d : DataW H} {ps : List MemPlace} {r : Reach} {b0 : Nat} (hval : Value.okWide Try.prog w r b0 24 v) (hd : DataW.Trod enc Try.prog w base spare held 24 v d ps) :
    ∃ (vs : Value) (l : List St) (m : Int), v = bV vs m ∧ RT w w.heap.size vs l ∧ l.length ≤ maxLen ∧ okI m := by
  obtain ⟨cs, rfl, _⟩ := okWide_struct Try.underlying24 hval
  obtain ⟨fuel, hd⟩ := hd
  have hd' : DataW.trod enc Try.prog w base spare held fuel 24 cs.toList = some (d, ps) := hd
  obtain ⟨xs, n, _, _, hcl, hxl, hf⟩ := DataW.trod_struct Try.underlying24 hd'
  rw [cellsBl] at hcl
  obtain ⟨L⟩ := cs
  simp only at hcl hf
  match L, hcl with
  | [c0, c1], _ =>
    have h0 : DataW.trod enc Try.prog w base spare held n 22 (([c0, c1].drop 0).take (Try.prog.cellsOf 22)) = xs[0]? := hf 0 _ rfl
    have h1 : DataW.trod enc Try.prog w base spare held n 2 (([c0, c1].drop 1).take (Try.prog.cellsOf 2)) = xs[1]? := hf 1 _ rfl
    rw [cellsSs] at h0
    rw [cells1] at h1
    have hx : xs.length = 2 := hxl
    rw [List.getElem?_eq_getElem (show 0 < xs.length by omega)] at h0
    rw [List.getElem?_eq_getElem (show 1 < xs.length by omega)] at h1
    obtain ⟨a, k0, _, w0⟩ := DataW.trod_int Try.underlying2 h1
    simp at k0
    subst k0
    obtain ⟨l, h, hg, hl⟩ := open_rs0 (P := Try.prog) (t := 22) (e := 60) (sz := 4) encS okS4 Try.underlying22 cellsSt (Nat.succ_pos _) (fun _ => rfl) (fun n cs' y h => trod_st h) h0
    exact ⟨c0, l, a, rfl, h, hl, okI_wf w0⟩
theorem flat_ints (k : IntKind) (L : List Int) : (L.flatMap fun x => [Value.int k x]) = L.map (.int k) := by
  induction L with
  | nil => rfl
  | cons a t ih => rw [List.flatMap_cons, ih]; rfl
set_option maxRecDepth 100000 in
theorem open_i64s {v : Value} {d : DataW H} {ps : List MemPlace} {r : Reach} {b0 : Nat} (hval : Value.okWide Try.prog w r b0 25 v) (hd : DataW.Trod enc Try.prog w base spare held 25 v d ps) : ∃ l : List Int, RI w w.heap.size v l ∧ l.length ≤ maxLen := by
  have he : ∀ n cs' y, DataW.trod enc Try.prog w base spare held n 2 cs' = some y → ∃ z : Int, cs' = [.int .i64 z] ∧ okI z := by
    intro n cs' y h
    obtain ⟨n, h1, _, hw⟩ := DataW.trod_int Try.underlying2 h
    exact ⟨n, h1, okI_wf hw⟩
  obtain ⟨l, h, hg, hl⟩ := open_rs (P := Try.prog) (t := 25) (e := 2) (sz := 1) (fun x : Int => [Value.int .i64 x]) okI Try.underlying25 cells1 (Nat.succ_pos _) (fun _ => rfl) he hval hd
  rw [flat_ints] at h
  exact ⟨l, h, hl⟩
/-- Lists of numbers of another kind. -/
def RU (k : IntKind) (w : World) (B : Nat) (v : Value) (l : List Nat) : Prop := RS w B 1 v l.length (l.map fun (x : Nat) => Value.int k x)
theorem flat_nats (k : IntKind) (L : List Nat) : (L.flatMap fun (x : Nat) => [Value.int k x]) = L.map (fun (x : Nat) => Value.int k x) := by
  induction L with
  | nil => rfl
  | cons a t ih => rw [List.flatMap_cons, ih]; rfl
theorem byte_wf {n : Int} (h : (Lit.int .u8 n).wf = true) : ∃ m : Nat, n = m ∧ m ≤ 255 := by
  have hb : 0 ≤ n ∧ n ≤ 255 := by simpa [Lit.wf, IntKind.min, IntKind.max, IntKind.signed, IntKind.bits] using h
  exact ⟨n.toNat, by omega, by omega⟩
theorem u16_wf {n : Int} (h : (Lit.int .u16 n).wf = true) : ∃ m : Nat, n = m ∧ m ≤ 65535 := by
  have hb : 0 ≤ n ∧ n ≤ 65535 := by simpa [Lit.wf, IntKind.min, IntKind.max, IntKind.signed, IntKind.bits] using h
  exact ⟨n.toNat, by omega, by omega⟩
theorem u32_wf {n : Int} (h : (Lit.int .u32 n).wf = true) : ∃ m : Nat, n = m ∧ m ≤ 4294967295 := by
  have hb : 0 ≤ n ∧ n ≤ 4294967295 := by simpa [Lit.wf, IntKind.min, IntKind.max, IntKind.signed, IntKind.bits] using h
  exact ⟨n.toNat, by omega, by omega⟩
set_option maxRecDepth 100000 in
theorem open_u8s {v : Value} {d : DataW H} {ps : List MemPlace} {r : Reach} {b0 : Nat} (hval : Value.okWide Try.prog w r b0 48 v) (hd : DataW.Trod enc Try.prog w base spare held 48 v d ps) : ∃ l : List Nat, RU .u8 w w.heap.size v l ∧ (∀ x ∈ l, x ≤ 255) ∧ l.length ≤ maxLen := by
  have he : ∀ n cs' y, DataW.trod enc Try.prog w base spare held n 5 cs' = some y → ∃ z : Nat, cs' = [Value.int .u8 z] ∧ z ≤ 255 := by
    intro n cs' y h
    obtain ⟨n, h1, _, hw⟩ := DataW.trod_int Try.underlying5 h
    obtain ⟨m, rfl, hm⟩ := byte_wf hw
    exact ⟨m, h1, hm⟩
  obtain ⟨l, h, hg, hl⟩ := open_rs (P := Try.prog) (t := 48) (e := 5) (sz := 1) (fun x : Nat => [Value.int .u8 x]) (· ≤ 255) Try.underlying48 cellsU8 (Nat.succ_pos _) (fun _ => rfl) he hval hd
  rw [flat_nats] at h
  exact ⟨l, h, hg, hl⟩
set_option maxRecDepth 100000 in
theorem open_a8 {v : Value} {d : DataW H} {ps : List MemPlace} {r : Reach} {b0 : Nat} (hval : Value.okWide Try.prog w r b0 52 v) (hd : DataW.Trod enc Try.prog w base spare held 52 v d ps) : ∃ x y : Nat, v = .agg #[.int .u8 x, .int .u8 y] ∧ x ≤ 255 ∧ y ≤ 255 := by
  obtain ⟨cs, rfl, hsz⟩ := okWide_arr Try.underlying52 hval
  obtain ⟨fuel, hd⟩ := hd
  have hA := arr_int Try.underlying52 Try.underlying5 cellsU8 hd
  obtain ⟨x, h0, w0⟩ := hA 0 (by decide)
  obtain ⟨y, h1, w1⟩ := hA 1 (by decide)
  obtain ⟨x, rfl, q0⟩ := byte_wf w0
  obtain ⟨y, rfl, q1⟩ := byte_wf w1
  refine ⟨x, y, ?_, q0, q1⟩
  rw [cellsA8] at hsz
  congr 1
  apply Array.ext
  · simpa using hsz
  · intro i hi _
    have hc : ∀ j (hj : j < cs.size) v, (Value.agg cs).cells.toList[j]? = some v → cs[j] = v := by
      intro j hj v hv
      have hv' : cs.toList[j]? = some v := hv
      rw [Array.getElem?_toList, Array.getElem?_eq_getElem hj] at hv'
      exact Option.some.inj hv'
    match i, hi with
    | 0, hi => exact hc 0 hi _ h0
    | 1, hi => exact hc 1 hi _ h1
    | i + 2, hi => omega
set_option maxRecDepth 100000 in
theorem open_u8 {v : Value} {d : DataW H} {ps : List MemPlace} {r : Reach} {b0 : Nat} (hval : Value.okWide Try.prog w r b0 5 v) (hd : DataW.Trod enc Try.prog w base spare held 5 v d ps) : ∃ x : Nat, v = .int .u8 x ∧ x ≤ 255 := by
  obtain ⟨n, rfl, _, _, hw⟩ := open_int Try.underlying5 hval hd
  obtain ⟨m, rfl, hm⟩ := byte_wf hw
  exact ⟨m, rfl, hm⟩
set_option maxRecDepth 100000 in
theorem open_u16 {v : Value} {d : DataW H} {ps : List MemPlace} {r : Reach} {b0 : Nat} (hval : Value.okWide Try.prog w r b0 56 v) (hd : DataW.Trod enc Try.prog w base spare held 56 v d ps) : ∃ x : Nat, v = .int .u16 x ∧ x ≤ 65535 := by
  obtain ⟨n, rfl, _, _, hw⟩ := open_int Try.underlying56 hval hd
  obtain ⟨m, rfl, hm⟩ := u16_wf hw
  exact ⟨m, rfl, hm⟩
theorem i16_wf {n : Int} (h : (Lit.int .i16 n).wf = true) : -32768 ≤ n ∧ n ≤ 32767 := by
  simpa [Lit.wf, IntKind.min, IntKind.max, IntKind.signed, IntKind.bits] using h
set_option maxRecDepth 100000 in
theorem open_i16 {v : Value} {d : DataW H} {ps : List MemPlace} {r : Reach} {b0 : Nat} (hval : Value.okWide Try.prog w r b0 55 v) (hd : DataW.Trod enc Try.prog w base spare held 55 v d ps) : ∃ x : Int, v = .int .i16 x ∧ -32768 ≤ x ∧ x ≤ 32767 := by
  obtain ⟨n, rfl, _, _, hw⟩ := open_int Try.underlying55 hval hd
  exact ⟨n, rfl, i16_wf hw⟩
/-- What was read below the old heap reads as it did. -/
theorem trodAll_stays {P : Program} (hl : laidOutB P = true) {W W' : World} (hb : Below W.heap.size W W') {sp : Nat → Bool} : ∀ (ts : List TypeId) (vs : List Value) (ds : List (DataW H)) (ps : List MemPlace), (∀ t ∈ ts, P.readableRec t = true ∧ t < P.types.size) →
    DataW.TrodAll enc P W 0 (fun _ => true) true ts vs ds ps → (∀ p ∈ ps, p.block < W.heap.size) → (∀ p ∈ ps, sp p.block = true) → DataW.TrodAll enc P W' 0 sp true ts vs ds ps
  | [], [], [], _, _, h, _, _ => h
  | t :: ts, v :: vs, d :: ds, _, ht, h, hlt, hsp => by
    obtain ⟨p, q, h1, h2, rfl⟩ := h
    obtain ⟨r1, r2⟩ := ht t (by simp)
    exact ⟨p, q, WideElems.Trod_stays hl r1 r2 h1 (fun x hx => hb.same (hlt x (by simp [hx]))) (fun x hx => hsp x (by simp [hx])),
      trodAll_stays hl hb ts vs ds q (fun t ht' => ht t (by simp [ht'])) h2 (fun x hx => hlt x (by simp [hx])) (fun x hx => hsp x (by simp [hx])), rfl⟩
  | [], _ :: _, _, _, _, h, _, _ => h.elim
  | [], [], _ :: _, _, _, h, _, _ => h.elim
  | _ :: _, [], _, _, _, h, _, _ => h.elim
  | _ :: _, _ :: _, [], _, _, h, _, _ => h.elim

set_option maxRecDepth 100000 in
/-- The last step of a law: it returned true. -/
theorem law_done {f : Func} {s : ChangeSpec} {apart fresh handsOn again : Bool} {W W' : World} {args : Array Value} {ds gs : List (DataW H)} {before : List MemPlace}
    (hW : DataW.Whole enc Try.prog f.params.toList s.vars apart W args.toList ds gs before) (hvars : s.vars = []) (hres : f.resultTypes = #[4]) (hfn : s.fn H (ds ++ gs) = { results := [.lit (.bool true)], args := ds })
    (hr : ∀ t ∈ f.params.toList, Try.prog.readableRec t = true ∧ t < Try.prog.types.size) (hb : Below W.heap.size W W') :
    s.post enc Try.prog f apart fresh handsOn again W args (.bool true) W' := by
  have hlt : ∀ p ∈ before, p.block < W.heap.size := fun p hp => hW.lt p hp
  have hW2 := hW
  obtain ⟨p, q, hA, hV, hpq, hz, hn⟩ := hW
  rw [hvars] at hV
  obtain ⟨rfl, rfl⟩ := trodVars_none hV
  rw [List.append_nil] at hpq
  subst hpq
  have hargs : ∀ sp : Nat → Bool, (∀ p ∈ before, sp p.block = true) → DataW.TrodAll enc Try.prog W' 0 sp true f.params.toList args.toList ds before := fun sp hsp => trodAll_stays laidOut hb _ _ _ _ hr hA hlt hsp
  have hold : ∀ p ∈ before, (fun b => decide (b < W.heap.size)) p.block = true := fun p hp => by simpa using hlt p hp
  have hrs : ∀ (b : Nat) (sp : Nat → Bool) (hd : Bool), DataW.TrodAll enc Try.prog W' b sp hd f.resultTypes.toList ((Value.bool true).resultList f.resultTypes.size) (s.fn H (ds ++ [])).results [] := fun b sp hd => by
    rw [hres, hfn]; exact trodAll_cons_mk (shut_bool Try.underlying4 _) trodAll_mk0
  refine ⟨ds, [], before, [], before, [], hW2, hrs _ _ _, ?_, ?_, World.keptBut_mono (fun p hp => ⟨hp, ?_⟩) (hb.frame (· ∈ before)), fun _ => ?_⟩
  · rw [hfn]; exact hargs _ hold
  · rw [hfn, hvars]; exact rfl
  · simpa using hp
  · refine ⟨?_, (s.fn H (ds ++ [])).results ++ ds, [], ([] ++ before) ++ [], ⟨[] ++ before, [], ?_, ?_, rfl, ?_, ?_⟩, ?_⟩
    · exact ok_one hres rfl (okWide_bool_mk Try.underlying4 _)
    · exact trodAll_append (hargs (fun _ => true) (fun _ _ => rfl)) (hrs 0 (fun _ => true) true)
    · rw [hvars]; exact rfl
    · intro b off hp
      have hin : MemPlace.cell b off ∈ before := by simpa using hp
      rw [hb.frozen (hlt _ hin)]
      exact hz b off hin
    · intro ha
      have := hn ha
      simpa using this
    · intro p hp _
      simpa using hp
end
end Go.Proofs.Ytgbegdjakadbbaa

namespace Vp

theorem half_step {f g d e m h lo hi : Int} (h0 : 0 ≤ h) (h1 : -m ≤ d ∧ d ≤ m) (h2 : -m ≤ e ∧ e ≤ m) (h3 : lo ≤ f + d ∧ f + d ≤ hi) (h4 : lo ≤ g + e ∧ g + e ≤ hi) :
    ∃ u v : Int, u = (f + d + (g + e)) / 2 - (f + g) / 2 ∧ v = (f + d + (g + e) + 1) / 2 - (f + g + 1) / 2 ∧ (-m ≤ u ∧ u ≤ m) ∧ (-m ≤ v ∧ v ≤ m) ∧ (lo ≤ (f + g) / 2 + u ∧ (f + g) / 2 + u ≤ hi) ∧ (lo ≤ (f + g + 1) / 2 + v ∧ (f + g + 1) / 2 + v ≤ hi) ∧ (u = (d + e) / 2 ∧ v = (d + e + 1) / 2 ∨ u = (d + e + 1) / 2 ∧ v = (d + e) / 2) ∧
      h * max u (-u) + h * max v (-v) ≤ h * max d (-d) + h * max e (-e) := by
  refine ⟨_, _, rfl, rfl, by omega, by omega, by omega, by omega, by omega, ?_⟩
  rw [← Int.mul_add, ← Int.mul_add]
  exact Int.mul_le_mul_of_nonneg_left (by omega) h0
/-- Two ways of blows have two others between them. -/
theorem half {m : Int} : ∀ {l : List St} {f g : Int} {ds es : List Int} (_ : ∀ s ∈ l, okSB s = true), Fe m l f ds → Fe m l g es →
    ∃ us vs, Fe m l ((f + g) / 2) us ∧ Fe m l ((f + g + 1) / 2) vs ∧ sumC l us + sumC l vs ≤ sumC l ds + sumC l es ∧
      ∀ (i : Nat) (d e : Int), ds[i]? = some d → es[i]? = some e → (us[i]? = some ((d + e) / 2) ∧ vs[i]? = some ((d + e + 1) / 2) ∨ us[i]? = some ((d + e + 1) / 2) ∧ vs[i]? = some ((d + e) / 2))
  | [], f, g, [], [], _, _, _ => ⟨[], [], trivial, trivial, Int.le_refl _, fun i d e h => by simp at h⟩
  | s :: l, f, g, d :: ds, e :: es, ho, h1, h2 => by
    have hs := okSB_iff.1 (ho s (by simp))
    obtain ⟨u, v, hu, hv, k1, k2, k3, k4, k5, k6⟩ := half_step (f := f) (g := g) (h := s.hard) (by omega) h1.1 h2.1 h1.2.1 h2.2.1
    obtain ⟨us, vs, q1, q2, q3, q4⟩ := half (fun x hx => ho x (by simp [hx])) h1.2.2 h2.2.2
    rw [show (f + d + (g + e)) / 2 = (f + g) / 2 + u by omega] at q1
    rw [show (f + d + (g + e) + 1) / 2 = (f + g + 1) / 2 + v by omega] at q2
    refine ⟨u :: us, v :: vs, ⟨k1, k3, q1⟩, ⟨k2, k4, q2⟩, ?_, ?_⟩
    · simp only [sumC, cst]; omega
    · intro i d' e' hd he
      cases i with
      | zero =>
        simp only [List.getElem?_cons_zero, Option.some.injEq] at hd he ⊢
        subst hd he
        rcases k5 with ⟨a, b⟩ | ⟨a, b⟩
        · exact .inl ⟨a, b⟩
        · exact .inr ⟨a, b⟩
      | succ i =>
        simp only [List.getElem?_cons_succ] at hd he ⊢
        exact q4 i d' e' hd he
  | [], _, _, _ :: _, _, _, h, _ => h.elim
  | [], _, _, _, _ :: _, _, _, h => h.elim
  | _ :: _, _, _, [], _, _, h, _ => h.elim
  | _ :: _, _, _, _, [], _, _, h => h.elim
/-- What has no hill between two of its places. -/
def Cvx (W : Int → Int) : Prop := ∀ p q, p < q → W p < never → W q < never → W ((p + q) / 2) + W ((p + q + 1) / 2) ≤ W p + W q ∧ W ((p + q) / 2) < never ∧ W ((p + q + 1) / 2) < never
theorem Cvx.down {W : Int → Int} (h : Cvx W) : ∀ (n : Nat) (p q : Int), q - p = n → p < q → W p ≤ W q → W q < never → W (q - 1) ≤ W q := by
  intro n
  induction n using Nat.strongRecOn with
  | _ n ih =>
    intro p q hn hpq hle hq
    by_cases h1 : q - p = 1
    · rw [show q - 1 = p by omega]; exact hle
    · obtain ⟨k1, k2, k3⟩ := h p q hpq (by omega) hq
      by_cases h2 : W ((p + q) / 2) ≤ W q
      · exact ih (q - (p + q) / 2).toNat (by omega) ((p + q) / 2) q (by omega) (by omega) h2 hq
      · exact ih (q - (p + q + 1) / 2).toNat (by omega) ((p + q + 1) / 2) q (by omega) (by omega) (by omega) hq
theorem Cvx.neg {W : Int → Int} (h : Cvx W) : Cvx fun x => W (-x) := by
  intro p q hpq hp hq
  obtain ⟨k1, k2, k3⟩ := h (-q) (-p) (by omega) hq hp
  try simp only
  rw [show -((p + q) / 2) = (-q + -p + 1) / 2 by omega, show -((p + q + 1) / 2) = (-q + -p) / 2 by omega]
  exact ⟨by omega, k3, k2⟩
theorem Cvx.up {W : Int → Int} (h : Cvx W) (p q : Int) (hpq : p < q) (hle : W q ≤ W p) (hp : W p < never) : W (p + 1) ≤ W p := by
  have := h.neg.down (q - p).toNat (-q) (-p) (by omega) (by omega) (by simpa using hle) (by simpa using hp)
  try simp only at this
  rw [show -(-p - 1) = p + 1 by omega, show - -p = p by omega] at this
  exact this
/-- The places of the least number are all there are from the first one to the last one. -/
theorem Cvx.flat {W : Int → Int} (h : Cvx W) {c : Int} (hc : c < never) (hm : ∀ x, c ≤ W x) {p q : Int} (hp : W p = c) : ∀ (n : Nat), q - p = n → W q = c → ∀ x, p ≤ x → x ≤ q → W x = c := by
  intro n
  induction n generalizing q with
  | zero => intro hn hq x h1 h2; rw [show x = p by omega]; exact hp
  | succ n ih =>
    intro hn hq x h1 h2
    by_cases hx : x = q
    · rw [hx]; exact hq
    · have h3 := h.down (n + 1) p q hn (by omega) (by omega) (by omega)
      have h4 := hm (q - 1)
      exact ih (q := q - 1) (by omega) (by omega) x h1 (by omega)
/-- The cost with a number at a station is such. -/
theorem wit_cvx {l : List St} {m : Int} (hB : OkB l m) {i : Nat} {pre post : List St} {s : St} (hP : Part l i pre s post) : Cvx fun d => if -m ≤ d ∧ d ≤ m then wit m pre s post d else never := by
  intro p q hpq hp hq
  try simp only at hp hq ⊢
  split at hp
  · split at hq
    · rename_i h1 h2
      obtain ⟨ds, d1, d2, d3⟩ := wit_ex hB hP h1 hp
      obtain ⟨es, e1, e2, e3⟩ := wit_ex hB hP h2 hq
      obtain ⟨us, vs, k1, k2, k3, k4⟩ := half hB.all d1 e1
      rw [show ((0 : Int) + 0) / 2 = 0 by omega] at k1
      rw [show ((0 : Int) + 0 + 1) / 2 = 0 by omega] at k2
      rw [if_pos (by omega), if_pos (by omega), if_pos h1, if_pos h2]
      have c1 := hB.cheap hB.few hB.all k1
      have c2 := hB.cheap hB.few hB.all k2
      rcases k4 i p q d2 e2 with ⟨a, b⟩ | ⟨a, b⟩
      · have w1 := wit_le hB hP k1 a
        have w2 := wit_le hB hP k2 b
        simp only [never]; omega
      · have w1 := wit_le hB hP k1 a
        have w2 := wit_le hB hP k2 b
        simp only [never]; omega
    · omega
  · omega
end Vp

namespace Vp
theorem tgo_le_of {l l' : List St} {m m' : Int} (hB : OkB l m) (h : ∀ ds, Fe m l 0 ds → ∃ es, Fe m' l' 0 es ∧ sumC l' es ≤ sumC l ds) (hf : tgo m l 0 < never) : tgo m' l' 0 ≤ tgo m l 0 := by
  obtain ⟨ds, h1, h2⟩ := tgo_ex hB.all hf
  obtain ⟨es, h3, h4⟩ := h ds h1
  have := tgo_le h3
  omega
/-- A blade that asks no more, station by station. -/
def Wd : List St → List St → Prop
  | [], [] => True
  | s :: l, s' :: l' => ((tub s').lo ≤ (tub s).lo ∧ (tub s).hi ≤ (tub s').hi ∧ s'.hard ≤ s.hard) ∧ Wd l l'
  | _, _ => False
theorem Wd.refl : ∀ l : List St, Wd l l
  | [] => trivial
  | s :: l => ⟨⟨Int.le_refl _, Int.le_refl _, Int.le_refl _⟩, Wd.refl l⟩
theorem Wd.set : ∀ {l : List St} (k : Nat) (x : St), (∀ s, l[k]? = some s → (tub x).lo ≤ (tub s).lo ∧ (tub s).hi ≤ (tub x).hi ∧ x.hard ≤ s.hard) → Wd l (l.set k x)
  | [], _, _, _ => trivial
  | s :: l, 0, x, h => ⟨h s rfl, Wd.refl l⟩
  | s :: l, k + 1, x, h => ⟨⟨Int.le_refl _, Int.le_refl _, Int.le_refl _⟩, Wd.set k x fun y hy => h y (by simpa using hy)⟩
theorem Wd.fe {m m' : Int} (hm : m ≤ m') : ∀ {l l' : List St} {f : Int} {ds : List Int}, Wd l l' → Fe m l f ds → Fe m' l' f ds ∧ sumC l' ds ≤ sumC l ds
  | [], [], _, [], _, _ => ⟨trivial, Int.le_refl _⟩
  | s :: l, s' :: l', f, d :: ds, hw, h => by
    obtain ⟨⟨w1, w2, w3⟩, hw⟩ := hw
    obtain ⟨h1, h2, h3⟩ := h
    obtain ⟨q1, q2⟩ := Wd.fe hm hw h3
    refine ⟨⟨by omega, by omega, q1⟩, ?_⟩
    have : cst s' d ≤ cst s d := Int.mul_le_mul_of_nonneg_right w3 (by omega)
    simp only [sumC]; omega
  | [], _ :: _, _, _, hw, _ => hw.elim
  | _ :: _, [], _, _, hw, _ => hw.elim
  | [], [], _, _ :: _, _, h => h.elim
  | _ :: _, _ :: _, _, [], _, h => h.elim
theorem Wd.tgo {l l' : List St} {m m' : Int} (hB : OkB l m) (hw : Wd l l') (hm : m ≤ m') (hf : tgo m l 0 < never) : Vp.tgo m' l' 0 ≤ Vp.tgo m l 0 :=
  tgo_le_of hB (fun ds h => ⟨ds, (hw.fe hm h).1, (hw.fe hm h).2⟩) hf
theorem drop_tgo {l l' : List St} {m : Int} {s : St} (hB : OkB l m) (hl : l = l' ++ [s]) (hf : tgo m l 0 < never) : tgo m l' 0 ≤ tgo m l 0 :=
  tgo_le_of hB (fun ds h => by
    subst hl
    obtain ⟨a, b, rfl, h1, h2⟩ := h.cut
    refine ⟨a, h1, ?_⟩
    rw [sumC_app (by have := h1.length; omega)]
    have hs := hB.all s (by simp)
    cases b with
    | nil => exact h2.elim
    | cons d b =>
      cases b with
      | nil => have := cst_nonneg hs d; simp only [sumC]; omega
      | cons _ _ => exact h2.2.2.elim) hf
/-- A blade that is turned over. -/
def negS (s : St) : St := ⟨-s.ang, -s.hi, -s.lo, s.hard⟩
theorem tub_neg (s : St) : tub (negS s) = ⟨-(tub s).hi, -(tub s).lo⟩ := by
  simp only [tub, negS, Rg.mk.injEq]; omega
theorem negS_neg (s : St) : negS (negS s) = s := by simp [negS]
theorem okSB_neg {s : St} (h : okSB s = true) : okSB (negS s) = true := by
  have := okSB_iff.1 h
  exact okSB_iff.2 (by simp only [negS]; omega)
theorem okB_neg {l : List St} {m : Int} (h : OkB l m) : OkB (l.map negS) m :=
  ⟨by simpa using h.one, by simpa using h.few, fun s hs => by
    obtain ⟨x, hx, rfl⟩ := List.mem_map.1 hs
    exact okSB_neg (h.all x hx), h.lo, h.hi⟩
theorem cst_neg (s : St) (d : Int) : cst (negS s) (-d) = cst s d := by
  simp only [cst, negS]
  rw [show max (-d) (- -d) = max d (-d) by omega]
theorem Fe.neg {m : Int} : ∀ {l : List St} {f : Int} {ds : List Int}, Fe m l f ds → Fe m (l.map negS) (-f) (ds.map fun d => -d) ∧ sumC (l.map negS) (ds.map fun d => -d) = sumC l ds
  | [], _, [], _ => ⟨trivial, rfl⟩
  | s :: l, f, d :: ds, h => by
    obtain ⟨h1, h2, h3⟩ := h
    obtain ⟨q1, q2⟩ := Fe.neg h3
    refine ⟨⟨by try simp only
                omega, ?_, ?_⟩, ?_⟩
    · rw [tub_neg]; simp only; omega
    · rw [show -f + -d = -(f + d) by omega]; exact q1
    · simp only [List.map_cons, sumC, cst_neg, q2]
  | [], _, _ :: _, h => h.elim
  | _ :: _, _, [], h => h.elim
theorem map_neg_neg (l : List St) : (l.map negS).map negS = l := by
  rw [List.map_map]
  exact (List.map_congr_left (fun s _ => negS_neg s)).trans (List.map_id _)
theorem tgo_neg {l : List St} {m : Int} (hB : OkB l m) : tgo m (l.map negS) 0 = tgo m l 0 := by
  refine min_eq_of (fun h => ?_) (fun h => ?_) (tgo_never _ _ _) (tgo_never _ _ _)
  · have := tgo_le_of (okB_neg hB) (l' := l) (m' := m) (fun ds hd => by
      have := hd.neg
      rw [map_neg_neg] at this
      exact ⟨_, by simpa using this.1, by rw [this.2]; exact Int.le_refl _⟩) h
    exact this
  · exact tgo_le_of hB (fun ds hd => ⟨_, by simpa using hd.neg.1, by rw [hd.neg.2]; exact Int.le_refl _⟩) h
theorem Part.neg {l : List St} {i : Nat} {pre post : List St} {s : St} (h : Part l i pre s post) : Part (l.map negS) i (pre.map negS) (negS s) (post.map negS) :=
  ⟨by rw [h.eq, List.map_append, List.map_reverse, List.map_cons], by rw [List.length_map]; exact h.len⟩
theorem wit_le_of {l l' : List St} {m : Int} (hB : OkB l m) (hB' : OkB l' m) {i : Nat} {pre post pre' post' : List St} {s s' : St} (hP : Part l i pre s post) (hP' : Part l' i pre' s' post') {d d' : Int} (hm : -m ≤ d ∧ d ≤ m)
    (h : ∀ ds, Fe m l 0 ds → ds[i]? = some d → ∃ es, Fe m l' 0 es ∧ es[i]? = some d' ∧ sumC l' es = sumC l ds) (hf : wit m pre s post d < never) : wit m pre' s' post' d' ≤ wit m pre s post d := by
  obtain ⟨ds, h1, h2, h3⟩ := wit_ex hB hP hm hf
  obtain ⟨es, h4, h5, h6⟩ := h ds h1 h2
  have := wit_le hB' hP' h4 h5
  omega
theorem wit_never (m : Int) (pre : List St) (s : St) (post : List St) (d : Int) : wit m pre s post d ≤ never := mins_never _ _ _
theorem wit_neg {l : List St} {m : Int} (hB : OkB l m) {i : Nat} {pre post : List St} {s : St} (hP : Part l i pre s post) {d : Int} (hm : -m ≤ d ∧ d ≤ m) :
    wit m (pre.map negS) (negS s) (post.map negS) (-d) = wit m pre s post d := by
  refine min_eq_of (fun h => ?_) (fun h => ?_) (wit_never _ _ _ _ _) (wit_never _ _ _ _ _)
  · refine wit_le_of (okB_neg hB) hB hP.neg hP (by omega) (fun ds h1 h2 => ?_) h
    have := h1.neg
    rw [map_neg_neg] at this
    exact ⟨_, by simpa using this.1, by rw [List.getElem?_map, h2]; simp, this.2⟩
  · exact wit_le_of hB (okB_neg hB) hP hP.neg hm (fun ds h1 h2 => ⟨_, by simpa using h1.neg.1, by rw [List.getElem?_map, h2]; rfl, h1.neg.2⟩) h
/-- A blade that is as many times as hard. -/
def mulS (t : Int) (s : St) : St := ⟨s.ang, s.lo, s.hi, t * s.hard⟩
theorem Fe.mul {m : Int} (t : Int) : ∀ {l : List St} {f : Int} {ds : List Int}, (Fe m (l.map (mulS t)) f ds ↔ Fe m l f ds) ∧ sumC (l.map (mulS t)) ds = t * sumC l ds
  | [], _, [] => ⟨Iff.rfl, by simp [sumC]⟩
  | s :: l, f, d :: ds => by
    obtain ⟨q1, q2⟩ := Fe.mul t (l := l) (f := f + d) (ds := ds)
    refine ⟨?_, ?_⟩
    · simp only [List.map_cons, Fe]; rw [q1]; exact Iff.rfl
    · simp only [List.map_cons, sumC, q2, cst, mulS, Int.mul_add, Int.mul_assoc]
  | [], _, _ :: _ => ⟨Iff.rfl, by simp [sumC]⟩
  | _ :: _, _, [] => ⟨Iff.rfl, by simp [sumC]⟩
theorem tgo_mul {l : List St} {m t : Int} (hB : OkB l m) (hB' : OkB (l.map (mulS t)) m) (ht : 1 ≤ t) : (tgo m (l.map (mulS t)) 0 < never ↔ tgo m l 0 < never) ∧ (tgo m l 0 < never → tgo m (l.map (mulS t)) 0 = t * tgo m l 0) := by
  have h1 : tgo m (l.map (mulS t)) 0 < never ↔ tgo m l 0 < never := by
    rw [hB'.tgo_lt hB'.few hB'.all, hB.tgo_lt hB.few hB.all]
    exact exists_congr fun ds => (Fe.mul t).1
  refine ⟨h1, fun h => ?_⟩
  obtain ⟨ds, h2, h3⟩ := tgo_ex hB.all h
  obtain ⟨es, h4, h5⟩ := tgo_ex hB'.all (h1.2 h)
  have h6 := tgo_le ((Fe.mul t).1.2 h2)
  have h7 := tgo_le ((Fe.mul t).1.1 h4)
  rw [(Fe.mul (m := m) t (l := l) (f := 0)).2] at h5 h6
  have h8 := Int.mul_le_mul_of_nonneg_left h7 (show 0 ≤ t by omega)
  rw [h3] at h6
  omega
theorem Part.mul {l : List St} {i : Nat} {pre post : List St} {s : St} (t : Int) (h : Part l i pre s post) : Part (l.map (mulS t)) i (pre.map (mulS t)) (mulS t s) (post.map (mulS t)) :=
  ⟨by rw [h.eq, List.map_append, List.map_reverse, List.map_cons], by rw [List.length_map]; exact h.len⟩
theorem wit_mul {l : List St} {m t : Int} (hB : OkB l m) (hB' : OkB (l.map (mulS t)) m) (ht : 1 ≤ t) {i : Nat} {pre post : List St} {s : St} (hP : Part l i pre s post) {d : Int} (hm : -m ≤ d ∧ d ≤ m) :
    (wit m (pre.map (mulS t)) (mulS t s) (post.map (mulS t)) d < never ↔ wit m pre s post d < never) ∧ (wit m pre s post d < never → wit m (pre.map (mulS t)) (mulS t s) (post.map (mulS t)) d = t * wit m pre s post d) := by
  have key : (∃ ds, Fe m l 0 ds ∧ ds[i]? = some d) → wit m pre s post d < never ∧ wit m (pre.map (mulS t)) (mulS t s) (post.map (mulS t)) d < never := by
    rintro ⟨ds, h1, h2⟩
    have a1 := wit_le hB hP h1 h2
    have a2 := wit_le hB' (hP.mul t) ((Fe.mul t).1.2 h1) h2
    have b1 := hB.cheap hB.few hB.all h1
    have b2 := hB'.cheap hB'.few hB'.all ((Fe.mul t).1.2 h1)
    simp only [never]; omega
  have h1 : wit m (pre.map (mulS t)) (mulS t s) (post.map (mulS t)) d < never ↔ wit m pre s post d < never := by
    constructor
    · intro h
      obtain ⟨es, h4, h5, h6⟩ := wit_ex hB' (hP.mul t) hm h
      exact (key ⟨es, (Fe.mul t).1.1 h4, h5⟩).1
    · intro h
      obtain ⟨es, h4, h5, h6⟩ := wit_ex hB hP hm h
      exact (key ⟨es, h4, h5⟩).2
  refine ⟨h1, fun h => ?_⟩
  obtain ⟨ds, h2, h2', h3⟩ := wit_ex hB hP hm h
  obtain ⟨es, h4, h4', h5⟩ := wit_ex hB' (hP.mul t) hm (h1.2 h)
  have h6 := wit_le hB' (hP.mul t) ((Fe.mul t).1.2 h2) h2'
  have h7 := wit_le hB hP ((Fe.mul t).1.1 h4) h4'
  rw [(Fe.mul (m := m) t (l := l) (f := 0)).2] at h5 h6
  have h8 := Int.mul_le_mul_of_nonneg_left h7 (show 0 ≤ t by omega)
  rw [h3] at h6
  omega
/-- The nearest bend, as far as Most allows. -/
def lazD (m : Int) (t : Rg) (f : Int) : Int := max (-m) (min m (max t.lo (min t.hi f) - f))
def lazL (m : Int) : List St → Int → List Int
  | [], _ => []
  | s :: l, f => lazD m (tub s) f :: lazL m l (f + lazD m (tub s) f)
theorem lazy_le {m h : Int} (h0 : 0 ≤ h) : ∀ {l : List St} {f g : Int} {es : List Int}, (∀ s ∈ l, s.hard = h) → Fe m l f (lazL m l f) → Fe m l g es → sumC l (lazL m l f) ≤ h * max (f - g) (g - f) + sumC l es
  | [], f, g, [], _, _, _ => by
    have := Int.mul_nonneg h0 (show (0 : Int) ≤ max (f - g) (g - f) by omega)
    simp only [lazL, sumC]; omega
  | s :: l, f, g, e :: es, hh, h1, h2 => by
    obtain ⟨a1, a2, a3⟩ := h1
    obtain ⟨b1, b2, b3⟩ := h2
    have ih := lazy_le h0 (l := l) (fun x hx => hh x (by simp [hx])) a3 b3
    have hs := hh s (by simp)
    simp only [lazL, sumC, cst, hs]
    generalize sumC l (lazL m l (f + lazD m (tub s) f)) = X at *
    have e1 : h * max (lazD m (tub s) f) (-lazD m (tub s) f) + h * max (f + lazD m (tub s) f - (g + e)) (g + e - (f + lazD m (tub s) f)) ≤ h * max (f - g) (g - f) + h * max e (-e) := by
      rw [← Int.mul_add, ← Int.mul_add]
      refine Int.mul_le_mul_of_nonneg_left ?_ h0
      unfold lazD at a1 a2 ⊢
      generalize tub s = t at *
      omega
    omega
  | [], _, _, _ :: _, _, _, h => h.elim
  | _ :: _, _, _, [], _, _, h => h.elim
theorem lazy_best {l : List St} {m : Int} (hB : OkB l m) {h : Int} (hh : ∀ s ∈ l, s.hard = h) (hf : Fe m l 0 (lazL m l 0)) : tgo m l 0 < never ∧ tgo m l 0 = sumC l (lazL m l 0) := by
  have h1 := tgo_le hf
  have h2 := hB.cheap hB.few hB.all hf
  have h3 : tgo m l 0 < never := by simp only [never]; omega
  refine ⟨h3, ?_⟩
  obtain ⟨ds, h4, h5⟩ := tgo_ex hB.all h3
  have h0 : 0 ≤ h := by
    match l, hB, hh with
    | s :: l, hB, hh =>
      have := okSB_iff.1 (hB.all s (by simp))
      have := hh s (by simp)
      omega
    | [], hB, _ => have := hB.one; simp at this
  have h6 := lazy_le h0 hh hf h4
  have e : h * max ((0 : Int) - 0) (0 - 0) = 0 := by simp
  omega
end Vp

set_option linter.all false
attribute [local go_sem] Go.Oper.semAt_some
namespace Go.Proofs.Ytgbegdjakadbbaa
open Go.RowKit Vp

theorem ru_slice {k : IntKind} {w : World} {B : Nat} {v : Value} {l : List Nat} (h : RU k w B v l) : ∃ A c, v = .slice A l.length c := by
  obtain ⟨A, c, b, off, hv, _⟩ := h
  exact ⟨A, c, hv⟩
theorem RU.below {k : IntKind} {w w' : World} {B : Nat} {v : Value} {l : List Nat} (h : RU k w B v l) (hb : Below B w w') : RU k w' B v l := RS.below h hb
theorem RU.more {k : IntKind} {w : World} {B B' : Nat} {v : Value} {l : List Nat} (h : RU k w B v l) (hB : B ≤ B') : RU k w B' v l := RS.more h hB
theorem RU.cells {k : IntKind} {w : World} {B : Nat} {v : Value} {l : List Nat} (h : RU k w B v l) : ∃ A cap b off, v = .slice A l.length cap ∧ (l.length ≠ 0 → A = some ⟨b, off, none⟩ ∧ b < B) ∧ ∀ j, j < l.length → w.cell? ⟨b, off + j, none⟩ = some (.int k (l.getD j 0 : Nat)) := by
  obtain ⟨A, cap, b, off, hv, hl, hA, hc⟩ := h
  refine ⟨A, cap, b, off, hv, hA, fun j hj => ?_⟩
  rw [hc j (by simpa using hj)]
  simp [hj]
/-- The bend that is wanted behind station i; the blow there; the bend before it. -/
def wntB (t : Rg) (us : List Nat) (i : Nat) (f : Int) : Int := if us.length = 0 then max t.lo (min t.hi f) else t.lo + ((us.getD (i % us.length) 0 : Nat) : Int) % (t.hi - t.lo + 1)
def blwB (m : Int) (t : Rg) (us : List Nat) (i : Nat) (f : Int) : Int := max (-m) (min m (wntB t us i f - f))
def bndB (m : Int) (l : List St) (us : List Nat) : Nat → Int
  | 0 => 0
  | k + 1 => bndB m l us k + blwB m (tub (nthS l k)) us k (bndB m l us k)
def blwL (m : Int) (l : List St) (us : List Nat) (k : Nat) : List Int := (List.range k).map fun i => blwB m (tub (nthS l i)) us i (bndB m l us i)
theorem blwL_succ (m : Int) (l : List St) (us : List Nat) (k : Nat) : blwL m l us (k + 1) = blwL m l us k ++ [blwB m (tub (nthS l k)) us k (bndB m l us k)] := by simp [blwL, List.range_succ]
theorem blwL_length (m : Int) (l : List St) (us : List Nat) (k : Nat) : (blwL m l us k).length = k := by simp [blwL]
theorem bndB_rng {m : Int} (hm : 0 ≤ m ∧ m ≤ 200) (l : List St) (us : List Nat) : ∀ k, -(200 * k) ≤ bndB m l us k ∧ bndB m l us k ≤ 200 * k
  | 0 => by simp [bndB]
  | k + 1 => by
    have := bndB_rng hm l us k
    simp only [bndB]
    unfold blwB
    omega
set_option maxHeartbeats 8000000 in
set_option maxRecDepth 100000 in
theorem blowsL_any (l : List St) (v : Value) (m : Int) (us : List Nat) (vu : Value) (w : World) (ho : ∀ s ∈ l, okSB s = true) (hm : 0 ≤ m ∧ m ≤ 200) (h20 : l.length ≤ 20) (hul : us.length ≤ 40) (hu : ∀ x ∈ us, x ≤ 255) (hT : RT w w.heap.size v l) (hU : RU .u8 w w.heap.size vu us) :
    Calls Try.prog 38 #[bV v m, vu] w fun e w' => ∃ u, e = .returned u ∧ OwnI 2 w' w.heap.size u (blwL m l us l.length) ∧ Below w.heap.size w w' := by
  unfold bV
  obtain ⟨b, off, cap, A, rfl, -, hcap⟩ := hT.slice
  obtain ⟨Au, cu, rfl⟩ := ru_slice hU
  obtain ⟨n0, hn0⟩ : ∃ n, w.heap.size = n := ⟨_, rfl⟩
  rw [hn0] at hT hU ⊢
  have HT := Lib.hid hT
  have HU := Lib.hid hU
  have HO := Lib.hid ho
  have HUB := Lib.hid hu
  clear hT hU ho hu
  go_enter Try.func38, Try.ntmps38
  go_upto_region 1 with fail
  have hb1 : Below n0 w (w.alloc (.cells #[.slice A l.length cap, .int .i64 m] 24)) := by exact bel_of
  have bx1 : BK (w.alloc (.cells #[.slice A l.length cap, .int .i64 m] 24)) n0 #[.slice A l.length cap, .int .i64 m] 24 := BK.new' _ _ _ n0 hn0
  have hs1 : (w.alloc (.cells #[.slice A l.length cap, .int .i64 m] 24)).heap.size = n0 + 1 := by simp [hn0]
  have HS1 := Lib.hid hs1
  clear hs1
  generalize w.alloc (.cells #[.slice A l.length cap, .int .i64 m] 24) = W1 at *
  go_wp2_with fail
  go_loopw [5, 6, 7] (fun acc bd iv wr => ∃ k : Nat, k ≤ l.length ∧ iv = .int .i64 k ∧ bd = .int .i64 (bndB m l us k) ∧ OwnI 2 wr n0 acc (blwL m l us k) ∧ BK wr n0 #[.slice A l.length cap, .int .i64 m] 24 ∧ Below n0 w wr ∧ n0 + 1 ≤ wr.heap.size) (fun _ _ iv _ => l.length - (intOf iv).toNat)
  case atStart => exact ⟨0, Nat.zero_le _, rfl, rfl, by simpa [blwL] using OwnI.nil _ _ _, bx1, hb1, by rw [HS1.out]; exact Nat.le_refl _⟩
  case round =>
    clear bx1 hb1
    obtain ⟨k, hk, rfl, rfl, hown, bx, hC, hsz⟩ := hrel
    have lbx := bx.lt
    have bxc0 := bx.cell 0
    have bxc1 := bx.cell 1
    simp at bxc0 bxc1
    by_cases hlt : k < l.length
    case neg =>
      obtain rfl : k = l.length := by omega
      have hlt' : ¬ ((l.length : Nat) : Int) < (l.length : Int) := by omega
      have HOW := Lib.hid hown
      have HC := Lib.hid hC
      clear hown hC bx hsz
      go_wp2_with fail
      refine bodyPost_ret (v := u5) (by simp [results, Try.results38, go_sem]) rfl ?_
      exact ⟨_, rfl, HOW.out, HC.out⟩
    have hlt' : (k : Int) < (l.length : Int) := by omega
    have hTr := RS.more (RS.below HT.out hC) (by omega : n0 ≤ wr.heap.size)
    have HOW := Lib.hid hown
    have HBX := Lib.hid bx
    have HC := Lib.hid hC
    clear hown hC bx
    go_wp2_with fail
    refine (tube_any l _ m (k : Int) _ HO.out h20 hlt' hTr).mono ?_
    rintro e w2 ⟨rfl, hb2⟩
    rw [show tubR l (k : Int) = tub (nthS l k) by unfold tubR; rw [if_neg (by omega)]; rfl]
    unfold rV
    have htr := tub_rng (HO.out _ (nthS_mem hlt))
    have hbd := bndB_rng hm l us k
    have HL := Lib.hid (blwL_succ m l us k)
    have HBD := Lib.hid (show bndB m l us (k + 1) = bndB m l us k + blwB m (tub (nthS l k)) us k (bndB m l us k) from rfl)
    obtain ⟨t, hte⟩ : ∃ t, tub (nthS l k) = t := ⟨_, rfl⟩
    rw [hte] at htr HL HBD ⊢
    obtain ⟨f, hfe⟩ : ∃ f, bndB m l us k = f := ⟨_, rfl⟩
    rw [hfe] at hbd HL HBD ⊢
    have hll := blwL_length m l us k
    clear hte hfe lbx bxc0 bxc1 hTr
    go_upto_region 7 with fail
    have HO2 := Lib.hid (own_below (own_below HOW.out hb2) (W' := w2.alloc (.cells #[.int .i64 t.lo, .int .i64 t.hi] 42)) (Below.alloc (Below.refl _ _) (Nat.le_refl _) _))
    have HBX2 := Lib.hid ((HBX.out.below hb2 HBX.out.lt).alloc (.cells #[.int .i64 t.lo, .int .i64 t.hi] 42))
    have hC2 := (HC.out.trans (hb2.mono (by omega))).alloc (by have := hb2.size; omega) (.cells #[.int .i64 t.lo, .int .i64 t.hi] 42)
    obtain ⟨g, hg⟩ : ∃ g, w2.heap.size = g := ⟨_, rfl⟩
    rw [hg]
    have tb := BK.new' w2 #[.int .i64 t.lo, .int .i64 t.hi] 42 g hg
    have hsz2 : n0 + 1 ≤ (w2.alloc (.cells #[.int .i64 t.lo, .int .i64 t.hi] 42)).heap.size := by have := hb2.size; simp; omega
    have HC2 := Lib.hid hC2
    clear HOW HBX HC hb2 hC2 hg
    generalize w2.alloc (.cells #[.int .i64 t.lo, .int .i64 t.hi] 42) = W3 at *
    have lt := tb.lt
    have t0 := tb.cell 0
    have t1 := tb.cell 1
    simp at t0 t1
    have lbx := HBX2.out.lt
    have bxc1 := HBX2.out.cell 1
    simp at bxc1
    obtain ⟨mn, hmn⟩ : ∃ x, (if f < t.hi then f else t.hi) = x := ⟨_, rfl⟩
    obtain ⟨w0, hw0⟩ : ∃ x, (if t.lo < mn then mn else t.lo) = x := ⟨_, rfl⟩
    have hmne : mn = min t.hi f := by rw [← hmn]; split <;> omega
    have hw0e : w0 = max t.lo (min t.hi f) := by rw [← hw0, hmne]; split <;> omega
    have wm : IntKind.i64.wrap (-m) = -m := by rw [IntKind.wrap_i64]; omega
    have hfr : -4000 ≤ f ∧ f ≤ 4000 := by omega
    have hd20 : l.length ≤ 20 := h20
    by_cases hz : us.length = 0
    case pos =>
      have hw : wntB t us k f = w0 := by unfold wntB; rw [if_pos hz, hw0e]
      have hz1 : decide (0 < us.length) = false := decide_eq_false (by omega)
      have hz3 : ¬ 0 < us.length := by omega
      have hw0r : -200 ≤ w0 ∧ w0 ≤ 200 := by omega
      clear hmne hw0e hz
      have HO2' := HO2
      have HC2' := HC2
      have HBX2' := HBX2
      clear HO2 HC2 HBX2
      have wdf : IntKind.i64.wrap (w0 - f) = w0 - f := by rw [IntKind.wrap_i64]; omega
      obtain ⟨y, hy⟩ : ∃ y, (if w0 - f < m then w0 - f else m) = y := ⟨_, rfl⟩
      obtain ⟨d, hd⟩ : ∃ e, (if -m < y then y else -m) = e := ⟨_, rfl⟩
      have hye : y = min m (w0 - f) := by rw [← hy]; split <;> omega
      have hde : d = blwB m t us k f := by unfold blwB; rw [hw, ← hye, ← hd]; split <;> omega
      have hdr : -200 ≤ d ∧ d ≤ 200 := by rw [← hd]; split <;> omega
      have wfd : IntKind.i64.wrap (f + d) = f + d := by rw [IntKind.wrap_i64]; omega
      rw [← hde] at HL HBD
      clear hye hde hw
      go_upto_region 11 with fail
      obtain ⟨v', w6, hrun, hown', hb', hs', hkp⟩ := app_i64 HO2'.out d (by rw [hll]; omega) (by omega) HC2'.out W3.heap.size rfl
      rw [← HL.out] at hown'
      have HON := Lib.hid hown'
      have HRUN := Lib.hid hrun
      have HB6 := Lib.hid hb'
      have HBX6 := Lib.hid (hkp _ _ _ HBX2'.out (by decide))
      have hsz6 : n0 + 1 ≤ w6.heap.size := by omega
      clear hown' hrun hb' hs' hkp HO2' HC2' HBX2'
      go_wp2_with (at_builtin; refine wpList_append_run rfl (.tmp 59) (.tmp 61) 25 _ rfl HRUN.out ?_)
      go_roundw
      case rel =>
        exact ⟨k + 1, by omega, by go_num, by rw [HBD.out], HON.out, HBX6.out, HB6.out, hsz6⟩
      case measure => simp [intOf]; omega
    case neg =>
      have hz1 : decide (0 < us.length) = true := decide_eq_true (by omega)
      have hz3 : 0 < us.length := by omega
      have hTU := RU.more (RU.below HU.out HC2.out) (B' := W3.heap.size) (by omega)
      obtain ⟨A', cap', b5, o5, hve, hA, hc⟩ := RU.cells hTU
      obtain ⟨rfl, hb5⟩ := hA hz
      injection hve with q1 q2 q3
      subst q1 q3
      have hi : k % us.length < us.length := Nat.mod_lt _ (by omega)
      have e1 := hc _ hi
      have hxr : us.getD (k % us.length) 0 ≤ 255 := by
        rw [List.getD_eq_getElem?_getD, List.getElem?_eq_getElem hi]
        exact HUB.out _ (List.getElem_mem hi)
      obtain ⟨i, hie⟩ : ∃ i, k % us.length = i := ⟨_, rfl⟩
      have hwn : wntB t us k f = t.lo + ((us.getD (k % us.length) 0 : Nat) : Int) % (t.hi - t.lo + 1) := by unfold wntB; rw [if_neg hz]
      rw [hie] at e1 hxr hi hwn
      obtain ⟨x, hx⟩ : ∃ x, us.getD i 0 = x := ⟨_, rfl⟩
      rw [hx] at e1 hxr hwn
      have t1' : (k : Int).tmod (us.length : Int) = (i : Int) := by rw [Int.tmod_eq_emod_of_nonneg (by omega), ← Int.natCast_emod, hie]
      have yl0 : ((us.length : Int) == 0) = false := beq_eq_false_iff_ne.2 (by omega)
      have yl2 : (us.length : Int) ≠ 0 := by omega
      have yl3 : ((us.length : Int) = 0) = False := eq_false yl2
      have hul0 : us ≠ [] := by rintro rfl; simp at hz
      have hi' : (i : Int) < (us.length : Int) := by omega
      have wx : IntKind.i64.wrap (x : Int) = (x : Int) := by rw [IntKind.wrap_i64]; omega
      have wh : IntKind.i64.wrap (t.hi - t.lo) = t.hi - t.lo := by rw [IntKind.wrap_i64]; omega
      have wh1 : IntKind.i64.wrap (t.hi - t.lo + 1) = t.hi - t.lo + 1 := by rw [IntKind.wrap_i64]; omega
      have yf0 : (t.hi - t.lo + 1 == 0) = false := beq_eq_false_iff_ne.2 (by omega)
      have yf2 : t.hi - t.lo + 1 ≠ 0 := by omega
      have yf3 : (t.hi - t.lo + 1 = 0) = False := eq_false yf2
      have h0x : 0 ≤ (x : Int) % (t.hi - t.lo + 1) := Int.emod_nonneg _ yf2
      have h0y : (x : Int) % (t.hi - t.lo + 1) < t.hi - t.lo + 1 := Int.emod_lt_of_pos _ (by omega)
      obtain ⟨r, hr⟩ : ∃ r, (x : Int) % (t.hi - t.lo + 1) = r := ⟨_, rfl⟩
      rw [hr] at h0x h0y hwn
      have t2 : (x : Int).tmod (t.hi - t.lo + 1) = r := by rw [Int.tmod_eq_emod_of_nonneg (by omega), hr]
      have wlr : IntKind.i64.wrap (t.lo + r) = t.lo + r := by rw [IntKind.wrap_i64]; omega
      have wr0 : IntKind.i64.wrap r = r := by rw [IntKind.wrap_i64]; omega
      have wi0 : IntKind.i64.wrap (i : Int) = (i : Int) := by rw [IntKind.wrap_i64]; omega
      clear hA hc hie hx hr hTU hmne hw0e
      have hd1 : Below W3.heap.size W3 W3.drew := Below.drew (Below.refl _ _)
      go_upto_region 9 with fail
      refine wp_region_noPanic (plain_any [0, 1, 2, 3, 4, 5, 6, 7, 8, 9, 10, 11, 12, 13, 14, 15, 16, 17, 18] (Below W3.heap.size W3) mixed ?_)
      refine any_tk 0 ?_
      refine any_tk 1 ?_
      refine any_tk 2 ?_
      refine any_tk 3 ?_
      refine any_tk 4 ?_
      refine any_tk 5 ?_
      refine any_tk 6 ?_
      refine any_tk 7 ?_
      refine any_tk 8 ?_
      refine any_tk 9 ?_
      refine any_tk 10 ?_
      refine any_tk 11 ?_
      refine any_tk 12 ?_
      refine any_tk 13 ?_
      refine any_tk 14 ?_
      refine any_tk 15 ?_
      refine any_tk 16 ?_
      refine any_tk 17 ?_
      refine any_tk 18 ?_
      refine any_done (by kernel_rfl) (NoPanic.normal ?_)
      have hw : wntB t us k f = t.lo + r := hwn
      have hzr0 : -500 ≤ t.lo + r ∧ t.lo + r ≤ 500 := by omega
      have HO2' := Lib.hid (own_below HO2.out (W' := W3.drew) hd1)
      have HC2' := Lib.hid (HC2.out.drew)
      have HBX2' := Lib.hid (HBX2.out.drew)
      clear HO2 HC2 HBX2 hd1 e1 t1' t2 yl0 yl2 yl3 yf0 yf2 yf3 wx wh wh1 hwn h0x tb
      have lbx : n0 < W3.drew.heap.size := lbx
      have bxc1 : W3.drew.cell? ⟨n0, 1, none⟩ = some (.int .i64 m) := bxc1
      obtain ⟨z, hze⟩ : ∃ z, t.lo + r = z := ⟨_, rfl⟩
      rw [hze] at hw hzr0 ⊢
      have hsz2 : n0 + 1 ≤ W3.drew.heap.size := hsz2
      generalize W3.drew = W4 at *
      have wdf : IntKind.i64.wrap (z - f) = z - f := by rw [IntKind.wrap_i64]; omega
      obtain ⟨y, hy⟩ : ∃ y, (if z - f < m then z - f else m) = y := ⟨_, rfl⟩
      obtain ⟨d, hd⟩ : ∃ e, (if -m < y then y else -m) = e := ⟨_, rfl⟩
      have hye : y = min m (z - f) := by rw [← hy]; split <;> omega
      have hde : d = blwB m t us k f := by unfold blwB; rw [hw, ← hye, ← hd]; split <;> omega
      have hdr : -200 ≤ d ∧ d ≤ 200 := by rw [← hd]; split <;> omega
      have wfd : IntKind.i64.wrap (f + d) = f + d := by rw [IntKind.wrap_i64]; omega
      rw [← hde] at HL HBD
      clear hye hde hw
      go_upto_region 11 with fail
      obtain ⟨v', w6, hrun, hown', hb', hs', hkp⟩ := app_i64 HO2'.out d (by rw [hll]; omega) (by omega) HC2'.out W4.heap.size rfl
      rw [← HL.out] at hown'
      have HON := Lib.hid hown'
      have HRUN := Lib.hid hrun
      have HB6 := Lib.hid hb'
      have HBX6 := Lib.hid (hkp _ _ _ HBX2'.out (by decide))
      have hsz6 : n0 + 1 ≤ w6.heap.size := by omega
      clear hown' hrun hb' hs' hkp HO2' HC2' HBX2'
      go_wp2_with (at_builtin; refine wpList_append_run rfl (.tmp 59) (.tmp 61) 25 _ rfl HRUN.out ?_)
      go_roundw
      case rel => exact ⟨k + 1, by omega, by go_num, by rw [HBD.out], HON.out, HBX6.out, HB6.out, hsz6⟩
      case measure => simp [intOf]; omega
end Go.Proofs.Ytgbegdjakadbbaa
