/- The arguments of a law as lists: words for any program. The arguments of a law as lists; and the last step of a law's row: it returned true, and below the old heap nothing has turned. A works that the laws pass by. Words that the laws share. -/
import Derived.Test.YtkibdciomheekaaP2
import Derived.WalkKit
import Derived.ProofKit
import Derived.OpenShut
import Derived.Deep.Slices
import Derived.Carry
import Derived.Test.YtkibdciomheekaaRows
import Derived.Test.YtkibdciomheekaaP24
import Derived.Test.YtkibdciomheekaaP7
import Derived.Test.YtkibdciomheekaaP3
import Derived.Test.YtkibdciomheekaaP26
import Derived.Test.YtkibdciomheekaaP15
import Derived.Test.YtkibdciomheekaaP14
import Derived.Test.YtkibdciomheekaaP9
import Derived.Test.YtkibdciomheekaaP10
set_option linter.all false
set_option linter.unnecessarySimpa false
set_option linter.unusedSimpArgs false
set_option linter.unusedVariables false
set_option linter.unusedSectionVars false

namespace Go.Proofs.Ytkibdciomheekaa
open Go.ChangeShapes Go.WideShapes Go.ChangeAt Go.RowKit Go.Deep Hp
set_option linter.all false

theorem spot_none {w : World} {a : Addr} {v : Value} (h : w.cell? a = some v) : a = ⟨a.block, a.off, none⟩ ∧ a.block < w.heap.size := by
  unfold World.cell? at h
  split at h
  · rename_i c t r hb
    split at h
    · cases h
    · rename_i hs
      refine ⟨?_, (Array.getElem?_eq_some_iff.1 hb).1⟩
      obtain ⟨b, o, s⟩ := a
      cases s with
      | none => rfl
      | some _ => simp at hs
  · cases h
theorem flat_at {α : Type} (f : α → List Value) (sz : Nat) (hf : ∀ z, (f z).length = sz) : ∀ (L : List α) (i r : Nat) (hi : i < L.length), r < sz → (L.flatMap f)[i * sz + r]? = (f L[i])[r]?
  | [], i, r, hi, _ => by simp at hi
  | z :: L, 0, r, _, hr => by
    simp only [List.flatMap_cons, Nat.zero_mul, Nat.zero_add, List.getElem_cons_zero]
    rw [List.getElem?_append_left (by rw [hf]; exact hr)]
  | z :: L, i + 1, r, hi, hr => by
    have := flat_at f sz hf L i r (by simpa using hi) hr
    simp only [List.flatMap_cons, List.getElem_cons_succ]
    rw [List.getElem?_append_right (by rw [hf, Nat.succ_mul]; omega), hf, show (i + 1) * sz + r - sz = i * sz + r by rw [Nat.succ_mul]; omega]
    exact this
theorem flat_len {α : Type} (f : α → List Value) (sz : Nat) (hf : ∀ z, (f z).length = sz) : ∀ L : List α, (L.flatMap f).length = L.length * sz
  | [] => by simp
  | z :: L => by rw [List.flatMap_cons, List.length_append, hf, flat_len f sz hf L, List.length_cons, Nat.succ_mul]; omega

section
variable {H : Type} {enc : TypeId × Value → H} {w : World} {base : Nat} {spare : Nat → Bool} {held : Bool}
theorem open_rs {P : Program} {α : Type} [Inhabited α] (f : α → List Value) (G : α → Prop) {t e sz : Nat} {v : Value} {d : DataW H} {ps : List MemPlace} {r : Reach} {b0 : Nat} (ht : P.underlying t = some (.slice e)) (hC : P.cellsOf e = sz) (h0 : 0 < sz) (hf : ∀ z, (f z).length = sz)
    (he : ∀ n cs' y, DataW.trod enc P w base spare held n e cs' = some y → ∃ z, cs' = f z ∧ G z) (hval : Value.okWide P w r b0 t v) (hd : DataW.Trod enc P w base spare held t v d ps) :
    ∃ L : List α, RS w w.heap.size sz v L.length (L.flatMap f) ∧ (∀ z ∈ L, G z) ∧ L.length ≤ maxLen := by
  obtain ⟨a0, len0, cap0, rfl⟩ := okWide_slice ht hval
  obtain ⟨fuel, hd⟩ := hd
  rcases open_slice ht hd with ⟨hn, _⟩ | ⟨a, len, cap, m, n, D, Pl, hcs, hb, hl, hm, hmm, hx, hi⟩
  · obtain ⟨rfl, rfl, rfl⟩ : a0 = none ∧ len0 = 0 ∧ cap0 = 0 := by simpa [Value.cells] using hn
    exact ⟨[], ⟨none, 0, 0, 0, rfl, ⟨by simp, Nat.le_refl _⟩, fun h => absurd rfl h, fun j hj => by simp at hj⟩, by simp, Nat.zero_le _⟩
  · obtain ⟨rfl, rfl, rfl⟩ : a0 = some a ∧ len0 = len ∧ cap0 = cap := by simpa [Value.cells] using hcs
    have hlm : len0 ≤ m := by rw [hmm]; split <;> omega
    obtain ⟨Z, hZ⟩ := choose_lt (n := len0) (α := α) (p := fun i z => (∀ j, j < sz → w.cell? ((a.add (i * sz)).add j) = (f z)[j]?) ∧ G z) (fun i him => by
      obtain ⟨cs', hc, ht'⟩ := hi i (by omega)
      obtain ⟨z, rfl, hg⟩ := he _ _ _ ht'
      rw [hC] at hc
      exact ⟨z, (World.cells?_some hc).2.2, hg⟩)
    refine ⟨(List.range len0).map Z, ?_, ?_, by simp; omega⟩
    · rcases Nat.eq_zero_or_pos len0 with hz | hz
      · subst hz
        exact ⟨some a, cap0, 0, 0, by simp, ⟨by simp, by simp⟩, fun h => absurd (by simp) h, fun j hj => by simp at hj⟩
      · have hc0 := (hZ 0 hz).1 0 h0
        have hs0 : (f (Z 0))[0]? = some ((f (Z 0))[0]'(by rw [hf]; exact h0)) := List.getElem?_eq_getElem _
        rw [hs0] at hc0
        have ha0 : (a.add (0 * sz)).add 0 = a := by simp [Addr.add]
        rw [ha0] at hc0
        obtain ⟨ha, hab⟩ := spot_none hc0
        rw [ha]
        refine ⟨_, cap0, a.block, a.off, by simp, ⟨by rw [flat_len f sz hf], by simpa using hl⟩, fun _ => ⟨rfl, hab⟩, fun j hj => ?_⟩
        rw [flat_len f sz hf, List.length_map, List.length_range] at hj
        have hjr := Nat.mod_lt j h0
        have hji : j / sz < len0 := Nat.div_lt_of_lt_mul (by rw [Nat.mul_comm]; exact hj)
        have hje : j = j / sz * sz + j % sz := by rw [Nat.mul_comm]; exact (Nat.div_add_mod ..).symm
        have h1 := (hZ (j / sz) hji).1 (j % sz) hjr
        have h2 : (a.add (j / sz * sz)).add (j % sz) = ⟨a.block, a.off + j, none⟩ := by
          rw [ha]
          unfold Addr.add
          by_cases z1 : j / sz * sz = 0 <;> by_cases z2 : j % sz = 0 <;> simp [z1, z2] <;> omega
        rw [h2] at h1
        rw [h1]
        have h3 := flat_at f sz hf ((List.range len0).map Z) (j / sz) (j % sz) (by simpa using hji) hjr
        rw [← hje] at h3
        rw [h3]
        simp
    · intro z hz
      obtain ⟨i, hi', rfl⟩ := List.mem_map.1 hz
      exact (hZ i (List.mem_range.1 hi')).2

theorem open_rs0 {P : Program} {α : Type} [Inhabited α] (f : α → List Value) (G : α → Prop) {t e sz : Nat} {c : Value} {x : DataW H × List MemPlace} {fuel : Nat} (ht : P.underlying t = some (.slice e)) (hC : P.cellsOf e = sz) (h0 : 0 < sz) (hf : ∀ z, (f z).length = sz)
    (he : ∀ n cs' y, DataW.trod enc P w base spare held n e cs' = some y → ∃ z, cs' = f z ∧ G z) (hd : DataW.trod enc P w base spare held fuel t [c] = some x) :
    ∃ L : List α, RS w w.heap.size sz c L.length (L.flatMap f) ∧ (∀ z ∈ L, G z) ∧ L.length ≤ maxLen := by
  rcases open_slice ht hd with ⟨hn, _⟩ | ⟨a, len, cap, m, n, D, Pl, hcs, hb, hl, hm, hmm, hx, hi⟩
  · obtain rfl : c = .slice none 0 0 := by simpa using hn
    exact ⟨[], ⟨none, 0, 0, 0, rfl, ⟨by simp, Nat.le_refl _⟩, fun h => absurd rfl h, fun j hj => by simp at hj⟩, by simp, Nat.zero_le _⟩
  · obtain rfl : c = .slice (some a) len cap := by simpa using hcs
    have hlm : len ≤ m := by rw [hmm]; split <;> omega
    obtain ⟨Z, hZ⟩ := choose_lt (n := len) (α := α) (p := fun i z => (∀ j, j < sz → w.cell? ((a.add (i * sz)).add j) = (f z)[j]?) ∧ G z) (fun i him => by
      obtain ⟨cs', hc, ht'⟩ := hi i (by omega)
      obtain ⟨z, rfl, hg⟩ := he _ _ _ ht'
      rw [hC] at hc
      exact ⟨z, (World.cells?_some hc).2.2, hg⟩)
    refine ⟨(List.range len).map Z, ?_, ?_, by simp; omega⟩
    · rcases Nat.eq_zero_or_pos len with hz | hz
      · subst hz
        exact ⟨some a, cap, 0, 0, by simp, ⟨by simp, by simp⟩, fun h => absurd (by simp) h, fun j hj => by simp at hj⟩
      · have hc0 := (hZ 0 hz).1 0 h0
        have hs0 : (f (Z 0))[0]? = some ((f (Z 0))[0]'(by rw [hf]; exact h0)) := List.getElem?_eq_getElem _
        rw [hs0] at hc0
        have ha0 : (a.add (0 * sz)).add 0 = a := by simp [Addr.add]
        rw [ha0] at hc0
        obtain ⟨ha, hab⟩ := spot_none hc0
        rw [ha]
        refine ⟨_, cap, a.block, a.off, by simp, ⟨by rw [flat_len f sz hf], by simpa using hl⟩, fun _ => ⟨rfl, hab⟩, fun j hj => ?_⟩
        rw [flat_len f sz hf, List.length_map, List.length_range] at hj
        have hjr := Nat.mod_lt j h0
        have hji : j / sz < len := Nat.div_lt_of_lt_mul (by rw [Nat.mul_comm]; exact hj)
        have hje : j = j / sz * sz + j % sz := by rw [Nat.mul_comm]; exact (Nat.div_add_mod ..).symm
        have h1 := (hZ (j / sz) hji).1 (j % sz) hjr
        have h2 : (a.add (j / sz * sz)).add (j % sz) = ⟨a.block, a.off + j, none⟩ := by
          rw [ha]
          unfold Addr.add
          by_cases z1 : j / sz * sz = 0 <;> by_cases z2 : j % sz = 0 <;> simp [z1, z2] <;> omega
        rw [h2] at h1
        rw [h1]
        have h3 := flat_at f sz hf ((List.range len).map Z) (j / sz) (j % sz) (by simpa using hji) hjr
        rw [← hje] at h3
        rw [h3]
        simp
    · intro z hz
      obtain ⟨i, hi', rfl⟩ := List.mem_map.1 hz
      exact (hZ i (List.mem_range.1 hi')).2

/-- A slice of cells, each of which reads as something in turn. -/
theorem open_rn0 {P : Program} {α : Type} [Inhabited α] (R : World → Nat → Value → α → Prop) (G : α → Prop) {t e : Nat} {c : Value} {x : DataW H × List MemPlace} {fuel : Nat} (ht : P.underlying t = some (.slice e)) (hC : P.cellsOf e = 1)
    (he : ∀ n cs' y, DataW.trod enc P w base spare held n e cs' = some y → ∃ u z, cs' = [u] ∧ R w w.heap.size u z ∧ G z) (hd : DataW.trod enc P w base spare held fuel t [c] = some x) :
    ∃ L : List α, RN R w w.heap.size c L ∧ (∀ z ∈ L, G z) ∧ L.length ≤ maxLen := by
  rcases open_slice ht hd with ⟨hn, _⟩ | ⟨a, len, cap, m, n, D, Pl, hcs, hb, hl, hm, hmm, hx, hi⟩
  · obtain rfl : c = .slice none 0 0 := by simpa using hn
    exact ⟨[], ⟨none, 0, 0, 0, rfl, Nat.le_refl _, fun h => absurd rfl h, fun k x hx => by simp at hx⟩, by simp, Nat.zero_le _⟩
  · obtain rfl : c = .slice (some a) len cap := by simpa using hcs
    have hlm : len ≤ m := by rw [hmm]; split <;> omega
    obtain ⟨Z, hZ⟩ := choose_lt (n := len) (α := α) (p := fun i z => (∃ u, w.cell? (a.add i) = some u ∧ R w w.heap.size u z) ∧ G z) (fun i him => by
      obtain ⟨cs', hc, ht'⟩ := hi i (by omega)
      obtain ⟨u, z, rfl, hr, hg⟩ := he _ _ _ ht'
      rw [hC, Nat.mul_one] at hc
      have := (World.cells?_some hc).2.2 0 (by simp)
      have e0 : (a.add i).add 0 = a.add i := by simp [Addr.add]
      rw [e0] at this
      exact ⟨z, ⟨u, by simpa using this, hr⟩, hg⟩)
    refine ⟨(List.range len).map Z, ?_, ?_, by simp; omega⟩
    · rcases Nat.eq_zero_or_pos len with hz | hz
      · subst hz
        exact ⟨some a, cap, 0, 0, by simp, by simp, fun h => absurd (by simp) h, fun k x hx => by simp at hx⟩
      · obtain ⟨⟨u0, hc0, _⟩, _⟩ := hZ 0 hz
        have ha0 : a.add 0 = a := by simp [Addr.add]
        rw [ha0] at hc0
        obtain ⟨ha, hab⟩ := spot_none hc0
        rw [ha]
        refine ⟨_, cap, a.block, a.off, by simp, by simpa using hl, fun _ => ⟨rfl, hab⟩, fun k x hx => ?_⟩
        have hk : k < len := by have := (List.getElem?_eq_some_iff.1 hx).1; simpa using this
        rw [List.getElem?_map, List.getElem?_range hk] at hx
        simp only [Option.map_some, Option.some.injEq] at hx
        subst hx
        obtain ⟨⟨u, h1, h2⟩, _⟩ := hZ k hk
        refine ⟨u, ?_, h2⟩
        have e : a.add k = ⟨a.block, a.off + k, none⟩ := by
          rw [ha]
          unfold Addr.add
          by_cases z1 : k = 0 <;> simp [z1]
        rw [← e]; exact h1
    · intro z hz
      obtain ⟨i, hi', rfl⟩ := List.mem_map.1 hz
      exact (hZ i (List.mem_range.1 hi')).2
def okI (n : Int) : Prop := -9223372036854775808 ≤ n ∧ n ≤ 9223372036854775807
theorem okI_wf {n : Int} (h : (Lit.int .i64 n).wf = true) : okI n := by simpa [okI, Lit.wf, IntKind.min, IntKind.max, IntKind.signed, IntKind.bits] using h
section
variable {P : Program}
theorem two_ints {i64 t : TypeId} (h64 : P.underlying i64 = some (.int .i64)) (h64c : P.cellsOf i64 = 1) {fuel : Nat} {cs : List Value} {x : DataW H × List MemPlace} {fs : Array Field} (hu : P.underlying t = some (.struct fs)) (hC : P.cellsOf t = 2) {f0 f1 : Field} (hfs : fs = #[f0, f1])
    (e0 : f0.type = i64 ∧ f0.offset = 0) (e1 : f1.type = i64 ∧ f1.offset = 1) (h : DataW.trod enc P w base spare held fuel t cs = some x) : ∃ a b, cs = [.int .i64 a, .int .i64 b] ∧ okI a ∧ okI b := by
  subst hfs
  obtain ⟨xs, n, _, _, hcl, hxl, hf⟩ := DataW.trod_struct hu h
  rw [hC] at hcl
  match cs, hcl with
  | [c0, c1], _ =>
    have h0 := hf 0 f0 rfl
    have h1 := hf 1 f1 rfl
    rw [e0.1, e0.2, h64c] at h0
    rw [e1.1, e1.2, h64c] at h1
    have hx : xs.length = 2 := hxl
    rw [List.getElem?_eq_getElem (show 0 < xs.length by omega)] at h0
    rw [List.getElem?_eq_getElem (show 1 < xs.length by omega)] at h1
    obtain ⟨a, k0, _, w0⟩ := DataW.trod_int h64 h0
    obtain ⟨b, k1, _, w1⟩ := DataW.trod_int h64 h1
    simp at k0 k1
    subst k0; subst k1
    exact ⟨a, b, rfl, okI_wf w0, okI_wf w1⟩
theorem int_two {i64 t r : TypeId} (h64 : P.underlying i64 = some (.int .i64)) (h64c : P.cellsOf i64 = 1) {fuel : Nat} {cs : List Value} {x : DataW H × List MemPlace} {fs gs : Array Field} (hu : P.underlying t = some (.struct fs)) (hC : P.cellsOf t = 3) {f0 f1 g0 g1 : Field} (hfs : fs = #[f0, f1])
    (e0 : f0.type = i64 ∧ f0.offset = 0) (e1 : f1.type = r ∧ f1.offset = 1) (hr : P.underlying r = some (.struct gs)) (hrC : P.cellsOf r = 2) (hgs : gs = #[g0, g1]) (d0 : g0.type = i64 ∧ g0.offset = 0) (d1 : g1.type = i64 ∧ g1.offset = 1)
    (h : DataW.trod enc P w base spare held fuel t cs = some x) : ∃ a b c, cs = [.int .i64 a, .int .i64 b, .int .i64 c] ∧ okI a ∧ okI b ∧ okI c := by
  subst hfs
  obtain ⟨xs, n, _, _, hcl, hxl, hf⟩ := DataW.trod_struct hu h
  rw [hC] at hcl
  match cs, hcl with
  | [c0, c1, c2], _ =>
    have h0 := hf 0 f0 rfl
    have h1 := hf 1 f1 rfl
    rw [e0.1, e0.2, h64c] at h0
    rw [e1.1, e1.2, hrC] at h1
    have hx : xs.length = 2 := hxl
    rw [List.getElem?_eq_getElem (show 0 < xs.length by omega)] at h0
    rw [List.getElem?_eq_getElem (show 1 < xs.length by omega)] at h1
    obtain ⟨a, k0, _, w0⟩ := DataW.trod_int h64 h0
    obtain ⟨b, c, k1, w1, w2⟩ := two_ints h64 h64c hr hrC hgs d0 d1 h1
    simp at k0 k1
    subst k0
    obtain ⟨rfl, rfl⟩ := k1
    exact ⟨a, b, c, rfl, okI_wf w0, w1, w2⟩
end
end
end Go.Proofs.Ytkibdciomheekaa

namespace Go.Proofs.Ytkibdciomheekaa
open Go.ChangeShapes Go.WideShapes Go.ChangeAt Go.RowKit Go.Deep Hp
set_option linter.all false

theorem own : ownKnob Try.prog.godebug = none := by kernel_rfl
theorem laidOut : laidOutB Try.prog = true := by kernel_rfl
section
variable {H : Type} {enc : TypeId × Value → H} {w : World} {base : Nat} {spare : Nat → Bool} {held : Bool} {P : Program}
theorem okWide_arr {r : Reach} {b0 : Nat} {t : TypeId} {n : Nat} {e : TypeId} {v : Value} (ht : P.underlying t = some (.array n e)) (h : Value.okWide P w r b0 t v) : ∃ cs, v = .agg cs ∧ cs.size = P.cellsOf t := by
  simp only [Value.okWide, ht] at h
  obtain ⟨cs, h1, h2, _⟩ := h
  exact ⟨cs, h1, h2⟩
theorem arr_int {t e : TypeId} {n : Nat} {k : IntKind} (ht : P.underlying t = some (.array n e)) (he : P.underlying e = some (.int k)) (hc : P.cellsOf e = 1) {fuel : Nat} {cs : List Value} {x : DataW H × List MemPlace}
    (h : DataW.trod enc P w base spare held fuel t cs = some x) : ∀ i, i < n → ∃ m, cs[i]? = some (.int k m) ∧ (Lit.int k m).wf = true := by
  obtain ⟨xs, m, _, _, hcl, hxl, hf⟩ := DataW.trod_array ht h
  intro i hi
  have h1 := hf i hi
  rw [hc, Nat.mul_one] at h1
  rw [List.getElem?_eq_getElem (show i < xs.length by omega)] at h1
  obtain ⟨y, e0, _, w0⟩ := DataW.trod_int he h1
  refine ⟨y, ?_, w0⟩
  have : ((cs.drop i).take 1)[0]? = some (.int k y) := by rw [e0]; rfl
  rw [List.getElem?_take_of_lt (by decide), List.getElem?_drop] at this
  simpa using this
end
section
variable {H : Type} {enc : TypeId × Value → H} {w : World} {base : Nat} {spare : Nat → Bool} {held : Bool}
theorem cells1 : Try.prog.cellsOf 2 = 1 := by kernel_rfl
theorem cellsRg : Try.prog.cellsOf 33 = 2 := by kernel_rfl
theorem cellsKk : Try.prog.cellsOf 92 = 3 := by kernel_rfl
theorem cellsWy : Try.prog.cellsOf 28 = 1 := by kernel_rfl
theorem cellsSt : Try.prog.cellsOf 88 = 1 := by kernel_rfl
theorem cellsWk : Try.prog.cellsOf 25 = 2 := by kernel_rfl
theorem cellsRs : Try.prog.cellsOf 22 = 1 := by kernel_rfl
theorem cellsKs : Try.prog.cellsOf 26 = 1 := by kernel_rfl
theorem cellsWs : Try.prog.cellsOf 86 = 1 := by kernel_rfl
theorem cellsSs : Try.prog.cellsOf 23 = 1 := by kernel_rfl
theorem cellsU8 : Try.prog.cellsOf 5 = 1 := by kernel_rfl
theorem cellsU32 : Try.prog.cellsOf 123 = 1 := by kernel_rfl
theorem cellsA8 : Try.prog.cellsOf 75 = 2 := by kernel_rfl
def okR (r : Rg) : Prop := okI r.lo ∧ okI r.hi
def okKk (k : Kk) : Prop := okI k.src ∧ okI k.lo ∧ okI k.hi
def okWy (l : Wy) : Prop := l.length ≤ maxLen
def okSt (l : Stp) : Prop := l.length ≤ maxLen ∧ ∀ y ∈ l, okWy y
set_option maxRecDepth 100000 in
theorem trod_rg {fuel : Nat} {cs : List Value} {x : DataW H × List MemPlace} (h : DataW.trod enc Try.prog w base spare held fuel 33 cs = some x) : ∃ r : Rg, cs = encR r ∧ okR r := by
  obtain ⟨a, b, e, h1, h2⟩ := two_ints Try.underlying2 cells1 Try.underlying33 cellsRg rfl ⟨rfl, rfl⟩ ⟨rfl, rfl⟩ h
  exact ⟨⟨a, b⟩, e, h1, h2⟩
set_option maxRecDepth 100000 in
theorem trod_kk {fuel : Nat} {cs : List Value} {x : DataW H × List MemPlace} (h : DataW.trod enc Try.prog w base spare held fuel 92 cs = some x) : ∃ k : Kk, cs = encK k ∧ okKk k := by
  obtain ⟨a, b, c, e, h1, h2, h3⟩ := int_two Try.underlying2 cells1 Try.underlying92 cellsKk rfl ⟨rfl, rfl⟩ ⟨rfl, rfl⟩ Try.underlying33 cellsRg rfl ⟨rfl, rfl⟩ ⟨rfl, rfl⟩ h
  exact ⟨⟨a, b, c⟩, e, h1, h2, h3⟩
/-- A struct of one slice. -/
theorem one_field {P : Program} {t f : TypeId} {fuel : Nat} {cs : List Value} {x : DataW H × List MemPlace} {fs : Array Field} (hu : P.underlying t = some (.struct fs)) (hC : P.cellsOf t = 1) {f0 : Field} (hfs : fs = #[f0]) (e0 : f0.type = f ∧ f0.offset = 0) (hf1 : P.cellsOf f = 1)
    (h : DataW.trod enc P w base spare held fuel t cs = some x) : ∃ (c : Value) (n : Nat) (y : DataW H × List MemPlace), cs = [c] ∧ DataW.trod enc P w base spare held n f [c] = some y := by
  subst hfs
  obtain ⟨xs, n, _, _, hcl, hxl, hf⟩ := DataW.trod_struct hu h
  rw [hC] at hcl
  match cs, hcl with
  | [c0], _ =>
    have h0 := hf 0 f0 rfl
    rw [e0.1, e0.2, hf1] at h0
    have hx : xs.length = 1 := hxl
    rw [List.getElem?_eq_getElem (show 0 < xs.length by omega)] at h0
    exact ⟨c0, n, _, rfl, h0⟩
set_option maxRecDepth 100000 in
theorem trod_wy {fuel : Nat} {cs : List Value} {x : DataW H × List MemPlace} (h : DataW.trod enc Try.prog w base spare held fuel 28 cs = some x) : ∃ (u : Value) (y : Wy), cs = [u] ∧ RK w w.heap.size u y ∧ okWy y := by
  obtain ⟨c, n, y, rfl, h0⟩ := one_field Try.underlying28 cellsWy rfl ⟨rfl, rfl⟩ cellsKs h
  obtain ⟨l, hr, _, hl⟩ := open_rs0 (P := Try.prog) (t := 26) (e := 92) (sz := 3) encK okKk Try.underlying26 cellsKk (Nat.succ_pos _) (fun _ => rfl) (fun n cs' y h => trod_kk h) h0
  exact ⟨c, l, rfl, hr, hl⟩
set_option maxRecDepth 100000 in
theorem trod_st {fuel : Nat} {cs : List Value} {x : DataW H × List MemPlace} (h : DataW.trod enc Try.prog w base spare held fuel 88 cs = some x) : ∃ (u : Value) (s : Stp), cs = [u] ∧ RW w w.heap.size u s ∧ okSt s := by
  obtain ⟨c, n, y, rfl, h0⟩ := one_field Try.underlying88 cellsSt rfl ⟨rfl, rfl⟩ cellsWs h
  obtain ⟨l, hr, hg, hl⟩ := open_rn0 (P := Try.prog) (t := 86) (e := 28) RK okWy Try.underlying86 cellsWy (fun n cs' y h => trod_wy h) h0
  exact ⟨c, l, rfl, hr, hl, hg⟩
set_option maxRecDepth 100000 in
theorem open_works {v : Value} {d : DataW H} {ps : List MemPlace} {r : Reach} {b0 : Nat} (hval : Value.okWide Try.prog w r b0 25 v) (hd : DataW.Trod enc Try.prog w base spare held 25 v d ps) :
    ∃ (vb vs : Value) (bars : List Rg) (ss : List Stp), v = .agg #[vb, vs] ∧ RR w w.heap.size vb bars ∧ RP w w.heap.size vs ss := by
  obtain ⟨cs, rfl, _⟩ := okWide_struct Try.underlying25 hval
  obtain ⟨fuel, hd⟩ := hd
  have hd' : DataW.trod enc Try.prog w base spare held fuel 25 cs.toList = some (d, ps) := hd
  obtain ⟨xs, n, _, _, hcl, hxl, hf⟩ := DataW.trod_struct Try.underlying25 hd'
  rw [cellsWk] at hcl
  obtain ⟨L⟩ := cs
  simp only at hcl hf
  match L, hcl with
  | [c0, c1], _ =>
    have h0 : DataW.trod enc Try.prog w base spare held n 22 (([c0, c1].drop 0).take (Try.prog.cellsOf 22)) = xs[0]? := hf 0 _ rfl
    have h1 : DataW.trod enc Try.prog w base spare held n 23 (([c0, c1].drop 1).take (Try.prog.cellsOf 23)) = xs[1]? := hf 1 _ rfl
    rw [cellsRs] at h0
    rw [cellsSs] at h1
    have hx : xs.length = 2 := hxl
    rw [List.getElem?_eq_getElem (show 0 < xs.length by omega)] at h0
    rw [List.getElem?_eq_getElem (show 1 < xs.length by omega)] at h1
    obtain ⟨l, h, hg, hl⟩ := open_rs0 (P := Try.prog) (t := 22) (e := 33) (sz := 2) encR okR Try.underlying22 cellsRg (Nat.succ_pos _) (fun _ => rfl) (fun n cs' y h => trod_rg h) h0
    obtain ⟨m, h', hg', hl'⟩ := open_rn0 (P := Try.prog) (t := 23) (e := 88) RW okSt Try.underlying23 cellsSt (fun n cs' y h => trod_st h) h1
    exact ⟨c0, c1, l, m, rfl, h, h'⟩
/-- Lists of numbers of another kind. -/
def RU (k : IntKind) (w : World) (B : Nat) (v : Value) (l : List Nat) : Prop := RS w B 1 v l.length (l.map fun (x : Nat) => Value.int k x)
theorem flat_nats (k : IntKind) (L : List Nat) : (L.flatMap fun (x : Nat) => [Value.int k x]) = L.map (fun (x : Nat) => Value.int k x) := by
  induction L with
  | nil => rfl
  | cons a t ih => rw [List.flatMap_cons, ih]; rfl
theorem byte_wf {n : Int} (h : (Lit.int .u8 n).wf = true) : ∃ m : Nat, n = m ∧ m ≤ 255 := by
  have hb : 0 ≤ n ∧ n ≤ 255 := by simpa [Lit.wf, IntKind.min, IntKind.max, IntKind.signed, IntKind.bits] using h
  exact ⟨n.toNat, by omega, by omega⟩
theorem u32_wf {n : Int} (h : (Lit.int .u32 n).wf = true) : ∃ m : Nat, n = m ∧ m ≤ 4294967295 := by
  have hb : 0 ≤ n ∧ n ≤ 4294967295 := by simpa [Lit.wf, IntKind.min, IntKind.max, IntKind.signed, IntKind.bits] using h
  exact ⟨n.toNat, by omega, by omega⟩
set_option maxRecDepth 100000 in
theorem open_u8s {v : Value} {d : DataW H} {ps : List MemPlace} {r : Reach} {b0 : Nat} (hval : Value.okWide Try.prog w r b0 66 v) (hd : DataW.Trod enc Try.prog w base spare held 66 v d ps) : ∃ l : List Nat, RU .u8 w w.heap.size v l ∧ ∀ x ∈ l, x ≤ 255 := by
  have he : ∀ n cs' y, DataW.trod enc Try.prog w base spare held n 5 cs' = some y → ∃ z : Nat, cs' = [Value.int .u8 z] ∧ z ≤ 255 := by
    intro n cs' y h
    obtain ⟨n, h1, _, hw⟩ := DataW.trod_int Try.underlying5 h
    obtain ⟨m, rfl, hm⟩ := byte_wf hw
    exact ⟨m, h1, hm⟩
  obtain ⟨l, h, hg, hl⟩ := open_rs (P := Try.prog) (t := 66) (e := 5) (sz := 1) (fun x : Nat => [Value.int .u8 x]) (· ≤ 255) Try.underlying66 cellsU8 (Nat.succ_pos _) (fun _ => rfl) he hval hd
  rw [flat_nats] at h
  exact ⟨l, h, hg⟩
set_option maxRecDepth 100000 in
theorem open_u32s {v : Value} {d : DataW H} {ps : List MemPlace} {r : Reach} {b0 : Nat} (hval : Value.okWide Try.prog w r b0 67 v) (hd : DataW.Trod enc Try.prog w base spare held 67 v d ps) : ∃ l : List Nat, RU .u32 w w.heap.size v l ∧ ∀ x ∈ l, x ≤ 4294967295 := by
  have he : ∀ n cs' y, DataW.trod enc Try.prog w base spare held n 123 cs' = some y → ∃ z : Nat, cs' = [Value.int .u32 z] ∧ z ≤ 4294967295 := by
    intro n cs' y h
    obtain ⟨n, h1, _, hw⟩ := DataW.trod_int Try.underlying123 h
    obtain ⟨m, rfl, hm⟩ := u32_wf hw
    exact ⟨m, h1, hm⟩
  obtain ⟨l, h, hg, hl⟩ := open_rs (P := Try.prog) (t := 67) (e := 123) (sz := 1) (fun x : Nat => [Value.int .u32 x]) (· ≤ 4294967295) Try.underlying67 cellsU32 (Nat.succ_pos _) (fun _ => rfl) he hval hd
  rw [flat_nats] at h
  exact ⟨l, h, hg⟩
set_option maxRecDepth 100000 in
theorem open_a8 {v : Value} {d : DataW H} {ps : List MemPlace} {r : Reach} {b0 : Nat} (hval : Value.okWide Try.prog w r b0 75 v) (hd : DataW.Trod enc Try.prog w base spare held 75 v d ps) : ∃ x y : Nat, v = .agg #[.int .u8 x, .int .u8 y] ∧ x ≤ 255 ∧ y ≤ 255 := by
  obtain ⟨cs, rfl, hsz⟩ := okWide_arr Try.underlying75 hval
  obtain ⟨fuel, hd⟩ := hd
  have hA := arr_int Try.underlying75 Try.underlying5 cellsU8 hd
  obtain ⟨x, h0, w0⟩ := hA 0 (by decide)
  obtain ⟨y, h1, w1⟩ := hA 1 (by decide)
  obtain ⟨x, rfl, q0⟩ := byte_wf w0
  obtain ⟨y, rfl, q1⟩ := byte_wf w1
  refine ⟨x, y, ?_, q0, q1⟩
  rw [cellsA8] at hsz
  congr 1
  apply Array.ext
  · simpa using hsz
  · intro i hi _
    have hc : ∀ j (hj : j < cs.size) v, (Value.agg cs).cells.toList[j]? = some v → cs[j] = v := by
      intro j hj v hv
      have hv' : cs.toList[j]? = some v := hv
      rw [Array.getElem?_toList, Array.getElem?_eq_getElem hj] at hv'
      exact Option.some.inj hv'
    match i, hi with
    | 0, hi => exact hc 0 hi _ h0
    | 1, hi => exact hc 1 hi _ h1
    | i + 2, hi => omega
/-- What was read below the old heap reads as it did. -/
theorem trodAll_stays {P : Program} (hl : laidOutB P = true) {W W' : World} (hb : Below W.heap.size W W') {sp : Nat → Bool} : ∀ (ts : List TypeId) (vs : List Value) (ds : List (DataW H)) (ps : List MemPlace), (∀ t ∈ ts, P.readableRec t = true ∧ t < P.types.size) →
    DataW.TrodAll enc P W 0 (fun _ => true) true ts vs ds ps → (∀ p ∈ ps, p.block < W.heap.size) → (∀ p ∈ ps, sp p.block = true) → DataW.TrodAll enc P W' 0 sp true ts vs ds ps
  | [], [], [], _, _, h, _, _ => h
  | t :: ts, v :: vs, d :: ds, _, ht, h, hlt, hsp => by
    obtain ⟨p, q, h1, h2, rfl⟩ := h
    obtain ⟨r1, r2⟩ := ht t (by simp)
    exact ⟨p, q, WideElems.Trod_stays hl r1 r2 h1 (fun x hx => hb.same (hlt x (by simp [hx]))) (fun x hx => hsp x (by simp [hx])),
      trodAll_stays hl hb ts vs ds q (fun t ht' => ht t (by simp [ht'])) h2 (fun x hx => hlt x (by simp [hx])) (fun x hx => hsp x (by simp [hx])), rfl⟩
  | [], _ :: _, _, _, _, h, _, _ => h.elim
  | [], [], _ :: _, _, _, h, _, _ => h.elim
  | _ :: _, [], _, _, _, h, _, _ => h.elim
  | _ :: _, _ :: _, [], _, _, h, _, _ => h.elim

set_option maxRecDepth 100000 in
/-- The last step of a law: it returned true. -/
theorem law_done {f : Func} {s : ChangeSpec} {apart fresh handsOn again : Bool} {W W' : World} {args : Array Value} {ds gs : List (DataW H)} {before : List MemPlace}
    (hW : DataW.Whole enc Try.prog f.params.toList s.vars apart W args.toList ds gs before) (hvars : s.vars = []) (hres : f.resultTypes = #[4]) (hfn : s.fn H (ds ++ gs) = { results := [.lit (.bool true)], args := ds })
    (hr : ∀ t ∈ f.params.toList, Try.prog.readableRec t = true ∧ t < Try.prog.types.size) (hb : Below W.heap.size W W') :
    s.post enc Try.prog f apart fresh handsOn again W args (.bool true) W' := by
  have hlt : ∀ p ∈ before, p.block < W.heap.size := fun p hp => hW.lt p hp
  have hW2 := hW
  obtain ⟨p, q, hA, hV, hpq, hz, hn⟩ := hW
  rw [hvars] at hV
  obtain ⟨rfl, rfl⟩ := trodVars_none hV
  rw [List.append_nil] at hpq
  subst hpq
  have hargs : ∀ sp : Nat → Bool, (∀ p ∈ before, sp p.block = true) → DataW.TrodAll enc Try.prog W' 0 sp true f.params.toList args.toList ds before := fun sp hsp => trodAll_stays laidOut hb _ _ _ _ hr hA hlt hsp
  have hold : ∀ p ∈ before, (fun b => decide (b < W.heap.size)) p.block = true := fun p hp => by simpa using hlt p hp
  have hrs : ∀ (b : Nat) (sp : Nat → Bool) (hd : Bool), DataW.TrodAll enc Try.prog W' b sp hd f.resultTypes.toList ((Value.bool true).resultList f.resultTypes.size) (s.fn H (ds ++ [])).results [] := fun b sp hd => by
    rw [hres, hfn]; exact trodAll_cons_mk (shut_bool Try.underlying4 _) trodAll_mk0
  refine ⟨ds, [], before, [], before, [], hW2, hrs _ _ _, ?_, ?_, World.keptBut_mono (fun p hp => ⟨hp, ?_⟩) (hb.frame (· ∈ before)), fun _ => ?_⟩
  · rw [hfn]; exact hargs _ hold
  · rw [hfn, hvars]; exact rfl
  · simpa using hp
  · refine ⟨?_, (s.fn H (ds ++ [])).results ++ ds, [], ([] ++ before) ++ [], ⟨[] ++ before, [], ?_, ?_, rfl, ?_, ?_⟩, ?_⟩
    · exact ok_one hres rfl (okWide_bool_mk Try.underlying4 _)
    · exact trodAll_append (hargs (fun _ => true) (fun _ _ => rfl)) (hrs 0 (fun _ => true) true)
    · rw [hvars]; exact rfl
    · intro b off hp
      have hin : MemPlace.cell b off ∈ before := by simpa using hp
      rw [hb.frozen (hlt _ hin)]
      exact hz b off hin
    · intro ha
      have := hn ha
      simpa using this
    · intro p hp _
      simpa using hp
end
end Go.Proofs.Ytkibdciomheekaa

set_option linter.all false
namespace Go.Proofs.Ytkibdciomheekaa
open Go.RowKit Hp

theorem mem_nthS' {ss : List Stp} {s : Stp} (h : s ∈ ss) : ∃ k, k < ss.length ∧ nthS ss k = s := by
  obtain ⟨k, hk, rfl⟩ := List.mem_iff_getElem.1 h
  exact ⟨k, hk, by simp [nthS, hk]⟩
/-- A works is great. -/
def greatP (bars : List Rg) (ss : List Stp) : Prop := 10 < bars.length ∨ 10 < ss.length ∨ ∃ k, k < ss.length ∧ (8 < (nthS ss k).length ∨ ∃ j, j < (nthS ss k).length ∧ 20 < (nthW (nthS ss k) j).length)
def GreatPost (bars : List Rg) (ss : List Stp) (w : World) (e : Ending) (w' : World) : Prop := ∃ q, e = .returned (.bool q) ∧ (q = true ↔ greatP bars ss) ∧ Below w.heap.size w w'
theorem GreatPost.yes {bars : List Rg} {ss : List Stp} {w w' : World} (h : greatP bars ss) (hb : Below w.heap.size w w') : GreatPost bars ss w (.returned (.bool true)) w' := ⟨true, rfl, ⟨fun _ => h, fun _ => rfl⟩, hb⟩
theorem GreatPost.no {bars : List Rg} {ss : List Stp} {w w' : World} (h : ¬ greatP bars ss) (hb : Below w.heap.size w w') : GreatPost bars ss w (.returned (.bool false)) w' := ⟨false, rfl, ⟨fun q => Bool.noConfusion q, fun q => (h q).elim⟩, hb⟩
theorem great_fit {bars : List Rg} {ss : List Stp} (h : ¬ greatP bars ss) : Fit bars ss := by
  have h1 : bars.length ≤ 10 := Nat.le_of_not_lt fun q => h (.inl q)
  have h2 : ss.length ≤ 10 := Nat.le_of_not_lt fun q => h (.inr (.inl q))
  refine ⟨by omega, by omega, fun s hs => ?_, fun s hs y hy => ?_⟩
  · obtain ⟨k, hk, rfl⟩ := mem_nthS' hs
    have : (nthS ss k).length ≤ 8 := Nat.le_of_not_lt fun q => h (.inr (.inr ⟨k, hk, .inl q⟩))
    omega
  · obtain ⟨k, hk, rfl⟩ := mem_nthS' hs
    obtain ⟨j, hj, rfl⟩ := mem_nthW hy
    have : (nthW (nthS ss k) j).length ≤ 20 := Nat.le_of_not_lt fun q => h (.inr (.inr ⟨k, hk, .inr ⟨j, hj, q⟩⟩))
    omega

set_option maxHeartbeats 8000000 in
set_option maxRecDepth 100000 in
theorem great_any (bars : List Rg) (ss : List Stp) (vb vs : Value) (w : World) (hB : RR w w.heap.size vb bars) (hS : RP w w.heap.size vs ss) :
    Calls Try.prog 14 #[.agg #[vb, vs]] w (GreatPost bars ss w) := by
  obtain ⟨Ab, cb, rfl⟩ := hB.slice
  obtain ⟨As, cs, rfl⟩ := hS.slice
  obtain ⟨n0, hn0⟩ : ∃ n, w.heap.size = n := ⟨_, rfl⟩
  have hC : Below n0 w w := Below.refl _ _
  go_enter Try.func14, Try.ntmps14
  clear hB
  go_upto_region 1 with fail
  have hqbx : n0 ≤ n0 := by have := hC.size; omega
  have bx : BK (w.alloc (.cells #[.slice Ab bars.length cb, .slice As ss.length cs] 25)) (n0) #[.slice Ab bars.length cb, .slice As ss.length cs] 25 := BK.new' _ _ _ (n0) hn0
  have hsbx : (w.alloc (.cells #[.slice Ab bars.length cb, .slice As ss.length cs] 25)).heap.size = n0 + 1 := by simp [hn0]
  replace hC : Below n0 w (w.alloc (.cells #[.slice Ab bars.length cb, .slice As ss.length cs] 25)) := Below.alloc hC (by have := hC.size; omega) _
  replace hS := (RP.below hS (w' := (w.alloc (.cells #[.slice Ab bars.length cb, .slice As ss.length cs] 25))) (Below.alloc (Below.refl _ _) (Nat.le_refl _) _)).more (B' := (w.alloc (.cells #[.slice Ab bars.length cb, .slice As ss.length cs] 25)).heap.size) (by simp)
  generalize (w.alloc (.cells #[.slice Ab bars.length cb, .slice As ss.length cs] 25)) = Wbx at *
  by_cases h1 : 10 < bars.length
  case pos =>
    have HE := Lib.hid (show greatP bars ss from .inl h1)
    have z1 : decide ((10 : Int) < (bars.length : Int)) = true := decide_eq_true (by omega)
    clear h1
    have lbx := bx.lt
    have bxc0 := bx.cell 0
    have bxc1 := bx.cell 1
    simp at bxc0 bxc1
    go_wp2_with fail
    go_ret
    exact GreatPost.yes HE.out (by (try rw [hn0]); exact hC)
  have z1 : decide ((10 : Int) < (bars.length : Int)) = false := decide_eq_false (by omega)
  by_cases h2 : 10 < ss.length
  case pos =>
    have HE := Lib.hid (show greatP bars ss from .inr (.inl h2))
    have z2 : decide ((10 : Int) < (ss.length : Int)) = true := decide_eq_true (by omega)
    clear h2
    have lbx := bx.lt
    have bxc0 := bx.cell 0
    have bxc1 := bx.cell 1
    simp at bxc0 bxc1
    go_wp2_with fail
    go_ret
    exact GreatPost.yes HE.out (by (try rw [hn0]); exact hC)
  have z2 : decide ((10 : Int) < (ss.length : Int)) = false := decide_eq_false (by omega)
  have H1 := Lib.hid h1
  have hs10 : ss.length ≤ 10 := by omega
  clear h1 h2
  have lbx := bx.lt
  have bxc0 := bx.cell 0
  have bxc1 := bx.cell 1
  simp at bxc0 bxc1
  go_wp2_with fail
  clear lbx bxc0 bxc1
  clear z1 z2
  clear hsbx
  generalize Wbx = W0 at *
  go_loopw [3] (fun i wr => ∃ k : Nat, k ≤ ss.length ∧ i = .int .i64 k ∧ (∀ j, j < k → (nthS ss j).length ≤ 8 ∧ ∀ q, q < (nthS ss j).length → (nthW (nthS ss j) q).length ≤ 20) ∧ Below W0.heap.size W0 wr) (fun i _ => ss.length - (intOf i).toNat)
  case atStart => exact ⟨0, Nat.zero_le _, rfl, fun j hj => absurd hj (by omega), Below.refl _ _⟩
  case round =>
    obtain ⟨k, hk, rfl, hall, hb⟩ := hrel
    have HALL := Lib.hid hall
    have hbr := Lib.hid hb
    clear hall
    replace hC : Below n0 w wr := hC.trans (hb.mono (by have := hC.size; omega))
    replace hS := (RP.below hS hb).more hb.size
    replace bx := bx.below hb bx.lt
    clear hb
    by_cases hlt : k < ss.length
    case neg =>
      have hlt' : ¬ (k : Int) < (ss.length : Int) := by omega
      have HE := Lib.hid (show ¬ greatP bars ss from fun q => by
        rcases q with q | q | ⟨i, hi, q⟩
        · exact H1.out q
        · omega
        · have h3 := HALL.out i (by omega)
          rcases q with q | ⟨j, hj, q⟩
          · omega
          · have := h3.2 j hj
            omega)
      have lbx := bx.lt
      have bxc0 := bx.cell 0
      have bxc1 := bx.cell 1
      simp at bxc0 bxc1
      go_wp2_with fail
      go_ret
      exact GreatPost.no HE.out (by (try rw [hn0]); exact hC)
    have hlt' : (k : Int) < (ss.length : Int) := by omega
    obtain ⟨A', cap', bb, off, hve, hA, hc⟩ := RP.cells hS
    obtain ⟨rfl, hbb⟩ := hA (by omega)
    injection hve with q1 q2 q3
    subst q1 q3
    obtain ⟨u, d0, hu⟩ := hc k hlt
    have HBAD := Lib.hid (fun (h : 8 < (nthS ss k).length) => show greatP bars ss from .inr (.inr ⟨k, hlt, .inl h⟩))
    have HBD2 := Lib.hid (fun (j : Nat) (hj : j < (nthS ss k).length) (h : 20 < (nthW (nthS ss k) j).length) => show greatP bars ss from .inr (.inr ⟨k, hlt, .inr ⟨j, hj, h⟩⟩))
    have HNEXT := Lib.hid (fun (h : (nthS ss k).length ≤ 8 ∧ ∀ q, q < (nthS ss k).length → (nthW (nthS ss k) q).length ≤ 20) => show ∀ j, j < k + 1 → (nthS ss j).length ≤ 8 ∧ ∀ q, q < (nthS ss j).length → (nthW (nthS ss j) q).length ≤ 20 from fun j hj => by
      rcases Nat.lt_succ_iff_lt_or_eq.1 hj with h1 | rfl
      · exact HALL.out j h1
      · exact h)
    obtain ⟨s, hs⟩ : ∃ s, nthS ss k = s := ⟨_, rfl⟩
    rw [hs] at hu HBAD HBD2 HNEXT
    obtain ⟨Aw, cw, rfl⟩ := hu.slice
    clear hA hc q2 hs
    by_cases h8 : 8 < s.length
    case pos =>
      have HE := Lib.hid (HBAD.out h8)
      have z3 : decide ((8 : Int) < (s.length : Int)) = true := decide_eq_true (by omega)
      clear h8
      have lbx := bx.lt
      have bxc0 := bx.cell 0
      have bxc1 := bx.cell 1
      simp at bxc0 bxc1
      go_wp2_with fail
      go_ret
      exact GreatPost.yes HE.out (by (try rw [hn0]); exact hC)
    have z3 : decide ((8 : Int) < (s.length : Int)) = false := decide_eq_false (by omega)
    have hs8 : s.length ≤ 8 := by omega
    clear h8
    have lbx := bx.lt
    have bxc0 := bx.cell 0
    have bxc1 := bx.cell 1
    simp at bxc0 bxc1
    go_wp2_with fail
    clear lbx bxc0 bxc1
    clear z3
    have hdw := Lib.hid d0
    clear d0
    have hbo := hbr
    have hbk := Lib.hid hbb
    have hbw : bb < wr.heap.size := hbb
    generalize wr = W5 at *
    go_loopw [4] (fun i wr => ∃ j : Nat, j ≤ s.length ∧ i = .int .i64 j ∧ (∀ q, q < j → (nthW s q).length ≤ 20) ∧ Below W5.heap.size W5 wr) (fun i _ => s.length - (intOf i).toNat)
    case atStart => exact ⟨0, Nat.zero_le _, rfl, fun j hj => absurd hj (by omega), Below.refl _ _⟩
    case round =>
      obtain ⟨j, hj, rfl, hall, hb⟩ := hrel
      have HALJ := Lib.hid hall
      have hbj := Lib.hid (hbo.out.trans (hb.mono hbo.out.size))
      have hbi := Lib.hid hb
      have d0 := hdw.out
      rw [← hb.cell (by exact hbw)] at d0
      have hbr3 : bb < wr.heap.size := Nat.lt_of_lt_of_le hbw hb.size
      clear hall
      replace hC : Below n0 w wr := hC.trans (hb.mono (by have := hC.size; omega))
      replace hS := (RP.below hS hb).more hb.size
      replace bx := bx.below hb bx.lt
      replace hu := (RW.below hu hb).more hb.size
      clear hb
      by_cases hjt : j < s.length
      case neg =>
        have hjt' : ¬ (j : Int) < (s.length : Int) := by omega
        have HN := Lib.hid (HNEXT.out ⟨hs8, fun q hq => HALJ.out q (by omega)⟩)
        have lbx := bx.lt
        have bxc0 := bx.cell 0
        have bxc1 := bx.cell 1
        simp at bxc0 bxc1
        go_wp2_with fail
        go_roundw
        case rel => exact ⟨k + 1, by omega, by go_num, HN.out, hbj.out⟩
        case measure => simp [intOf]; omega
      have hjt' : (j : Int) < (s.length : Int) := by omega
      obtain ⟨A1, cap1, b1, off1, hve, hA, hc⟩ := RW.cells hu
      obtain ⟨rfl, hbb1⟩ := hA (by omega)
      injection hve with q1 q2 q3
      subst q1 q3
      obtain ⟨u, d1, hv⟩ := hc j hjt
      have HB2 := Lib.hid (HBD2.out j hjt)
      have HN2 := Lib.hid (fun (h : (nthW s j).length ≤ 20) => show ∀ q, q < j + 1 → (nthW s q).length ≤ 20 from fun q hq => by
        rcases Nat.lt_succ_iff_lt_or_eq.1 hq with h1 | rfl
        · exact HALJ.out q h1
        · exact h)
      obtain ⟨ks, hks⟩ : ∃ s', nthW s j = s' := ⟨_, rfl⟩
      rw [hks] at hv HB2 HN2
      obtain ⟨Ak, ck, rfl⟩ := hv.slice
      clear hA hc q2 hks hv
      have lbx := bx.lt
      have bxc0 := bx.cell 0
      have bxc1 := bx.cell 1
      simp at bxc0 bxc1
      go_wp2_with fail
      clear lbx bxc0 bxc1
      clear d0 d1
      refine (long_any ks.length Ak ck _).mono ?_
      rintro e w1 ⟨rfl, hb⟩
      replace hC : Below n0 w w1 := hC.trans (hb.mono (by have := hC.size; omega))
      replace hS := (RP.below hS hb).more hb.size
      replace bx := bx.below hb bx.lt
      replace hu := (RW.below hu hb).more hb.size
      have hbr2 := Lib.hid (hbi.out.trans (hb.mono hbi.out.size))
      clear hb
      obtain ⟨q, hq⟩ : ∃ q, decide (20 < ks.length) = q := ⟨_, rfl⟩
      rw [hq]
      cases q
      case true =>
        have HE := Lib.hid (HB2.out (of_decide_eq_true hq))
        clear hq
        go_wp2_with fail
        go_ret
        exact GreatPost.yes HE.out (by (try rw [hn0]); exact hC)
      have HN := Lib.hid (HN2.out (Nat.le_of_not_lt (of_decide_eq_false hq)))
      clear hq
      go_wp2_with fail
      go_roundw
      case rel => exact ⟨j + 1, by omega, by go_num, HN.out, hbr2.out⟩
      case measure => simp [intOf]; omega
end Go.Proofs.Ytkibdciomheekaa

set_option linter.all false
namespace Go.Proofs.Ytkibdciomheekaa
open Go.RowKit Hp

theorem ri_slice {w : World} {B : Nat} {v : Value} {l : List Int} (h : RI w B v l) : ∃ A c, v = .slice A l.length c := by
  obtain ⟨A, c, b, off, rfl, _⟩ := h.cells
  exact ⟨A, c, rfl⟩
theorem rr_slice {w : World} {B : Nat} {v : Value} {l : List Rg} (h : RR w B v l) : ∃ A c, v = .slice A l.length c := by
  obtain ⟨A, c, b, off, rfl, _⟩ := h.cells
  exact ⟨A, c, rfl⟩
theorem ru_slice {k : IntKind} {w : World} {B : Nat} {v : Value} {l : List Nat} (h : RU k w B v l) : ∃ A c, v = .slice A l.length c := by
  obtain ⟨A, c, b, off, rfl, _⟩ := h
  exact ⟨A, c, rfl⟩
theorem RU.below {k : IntKind} {w w' : World} {B : Nat} {v : Value} {l : List Nat} (h : RU k w B v l) (hb : Below B w w') : RU k w' B v l := RS.below h hb
theorem RU.more {k : IntKind} {w : World} {B B' : Nat} {v : Value} {l : List Nat} (h : RU k w B v l) (hB : B ≤ B') : RU k w B' v l := RS.more h hB
section
variable {bars : List Rg} {ss : List Stp} {b : Int} {ks : List Int} {m : Rg} {n : Nat}
theorem recE_lens (h : recE bars ss b ks = 0) : ks.length = ss.length ∧ ss.length ≤ 6 := by
  have OR := okRec_of h
  have := allR_len OR.ways
  exact ⟨by simpa [nats] using this, OR.works.sfew⟩
theorem rec_of_had (h : hadE bars ss b ks m = 0) : recE bars ss b ks = 0 := by
  obtain ⟨h1, _⟩ := of_hadE h
  exact recE_of h1
theorem hadV_len' (h : hadE bars ss b ks m = 0) : (hadV bars ss b ks m).length = ss.length + 1 := by
  unfold hadV
  rw [if_pos h, hadL_len, pick_len (okRec_of (rec_of_had h)).ways]
theorem histV_nil (h : hadE bars ss b ks m ≠ 0) : histV bars ss b ks m = [] := by unfold histV; rw [if_neg h]
theorem histV_len' (h : hadE bars ss b ks m = 0) : (histV bars ss b ks m).length = ss.length + 1 := by
  have := hist_len (histV_ok h).1
  rw [this, pick_len (okRec_of (rec_of_had h)).ways]
theorem histV_histE (h : hadE bars ss b ks m = 0) : histE bars ss b ks (histV bars ss b ks m) = 0 := by
  rw [histE_at (rec_of_had h) (histV_len' h) (histV_ok h).1, if_pos rfl]
theorem agree_histV (h : hadE bars ss b ks m = 0) : agreeB bars ss b ks (histV bars ss b ks m) m = true := by
  obtain ⟨x, hx, hm⟩ := (histV_ok h).2
  unfold agreeB
  rw [decide_eq_true (histV_histE h), histV_len' h]
  show inR (nthI (histV bars ss b ks m) ss.length) m = true
  have : nthI (histV bars ss b ks m) ss.length = x := by simp [nthI, hx]
  rw [this]; exact hm
end
end Go.Proofs.Ytkibdciomheekaa
