/- Whether a book is fine; whether a list has a number. The arguments of a law as lists; and the last step of a law's row: it returned true, and below the old heap nothing has turned. Arguments that are arrays of small numbers. The lengths of the lists that the laws compare. Span and Sharp of the reference. -/
import Derived.Test.YtkljdbgkhghiaaaP26
import Derived.Deep.QuietTactic
import Derived.BigQuiet
import Derived.Test.YtkljdbgkhghiaaaRows
import Derived.WalkKit
import Derived.ProofKit
import Derived.OpenShut
import Derived.Deep.Slices
import Derived.Carry
import Derived.Test.YtkljdbgkhghiaaaP24
import Derived.Test.YtkljdbgkhghiaaaP22
import Derived.Test.YtkljdbgkhghiaaaP14
import Derived.Test.YtkljdbgkhghiaaaP15
import Derived.Test.YtkljdbgkhghiaaaP16
set_option linter.all false
set_option linter.unnecessarySimpa false
set_option linter.unusedSimpArgs false
set_option linter.unusedVariables false
set_option linter.unusedSectionVars false

set_option linter.all false
namespace Go.Proofs.Ytkljdbgkhghiaaa
open Go.RowKit Kp

/-- Whether a book is valid, and its tests agree. -/
def fineB (E : Int) (ts : List Kt) : Bool := decide (¬ 50 < ts.length ∧ bookE E ts = 0 ∧ Agr E.toNat ts)
theorem fineB_iff {E : Int} {ts : List Kt} : fineB E ts = true ↔ ¬ 50 < ts.length ∧ bookE E ts = 0 ∧ Agr E.toNat ts := by unfold fineB; exact decide_eq_true_iff
set_option maxHeartbeats 8000000 in
set_option maxRecDepth 100000 in
theorem fine_any (E : Int) (ts : List Kt) (v : Value) (w : World) (hl : ts.length ≤ maxLen) (h : RT w w.heap.size v ts) :
    Calls Try.prog 43 #[.agg #[.int .i64 E, v]] w fun x w' => x = .returned (.bool (fineB E ts)) ∧ Below w.heap.size w w' := by
  obtain ⟨b, off, cap, A, rfl, hAx⟩ := h.slice
  clear hAx
  have hR := h
  clear h
  obtain ⟨n0, hn0⟩ : ∃ n, w.heap.size = n := ⟨_, rfl⟩
  have hC : Below n0 w w := Below.refl _ _
  go_enter Try.func43, Try.ntmps43
  go_wp2_with fail
  have hqbx : n0 ≤ n0 := by have := hC.size; omega
  have bx : BK (w.alloc (.cells #[.int .i64 E, .slice A ts.length cap] 24)) (n0) #[.int .i64 E, .slice A ts.length cap] 24 := BK.new' _ _ _ (n0) hn0
  have hsbx : (w.alloc (.cells #[.int .i64 E, .slice A ts.length cap] 24)).heap.size = n0 + 1 := by simp [hn0]
  replace hC : Below n0 w (w.alloc (.cells #[.int .i64 E, .slice A ts.length cap] 24)) := Below.alloc hC (by have := hC.size; omega) _
  replace hR := (RS.below hR (w' := (w.alloc (.cells #[.int .i64 E, .slice A ts.length cap] 24))) (Below.alloc (Below.refl _ _) (Nat.le_refl _) _)).more (B' := (w.alloc (.cells #[.int .i64 E, .slice A ts.length cap] 24)).heap.size) (by simp)
  generalize (w.alloc (.cells #[.int .i64 E, .slice A ts.length cap] 24)) = Wbx at *
  clear hsbx
  refine (great_any E ts _ _ hl hR).mono ?_
  rintro e w1 ⟨rfl, hb⟩
  replace hC : Below n0 w w1 := hC.trans (hb.mono (by have := hC.size; omega))
  replace hR := (RS.below hR hb).more hb.size
  replace bx := bx.below hb bx.lt
  clear hb
  by_cases h5 : 50 < ts.length
  case pos =>
    have HS := Lib.hid (show fineB E ts = false by unfold fineB; exact decide_eq_false fun h => h.1 h5)
    rw [decide_eq_true h5]
    clear h5
    go_wp2_with fail
    exact bodyPost_ret (v := .bool false) (by simp [results, Try.results43, go_sem]) rfl ⟨by rw [HS.out], by first | exact hC | (rw [hn0]; exact hC) | (with_reducible rw [hn0]; exact bel_of) | exact bel_of⟩
  rw [decide_eq_false h5]
  have H5 := Lib.hid h5
  have lbx := bx.lt
  have bxc0 := bx.cell 0
  have bxc1 := bx.cell 1
  simp at bxc0 bxc1
  go_wp2_with fail
  clear lbx bxc0 bxc1
  refine (refBook_any E ts _ _ (by omega) hR).mono ?_
  rintro e w2 ⟨rfl, hb⟩
  replace hC : Below n0 w w2 := hC.trans (hb.mono (by have := hC.size; omega))
  replace hR := (RS.below hR hb).more hb.size
  replace bx := bx.below hb bx.lt
  clear hb
  obtain ⟨e, he⟩ : ∃ e, bookE E ts = e := ⟨_, rfl⟩
  have HE := Lib.hid he
  rw [he]
  clear he
  by_cases h0 : e = 0
  case neg =>
    have b1 : (e == 0) = false := by simp [h0]
    have HS := Lib.hid (show fineB E ts = false by unfold fineB; exact decide_eq_false fun h => h0 (by rw [← HE.out]; exact h.2.1))
    clear h0
    go_wp2_with fail
    exact bodyPost_ret (v := .bool false) (by simp [results, Try.results43, go_sem]) rfl ⟨by rw [HS.out], by first | exact hC | (rw [hn0]; exact hC) | (with_reducible rw [hn0]; exact bel_of) | exact bel_of⟩
  subst h0
  obtain ⟨N, rfl, ho, hl40⟩ := bookE_ok HE.out
  have HO := Lib.hid ho
  clear ho
  have lbx := bx.lt
  have bxc0 := bx.cell 0
  have bxc1 := bx.cell 1
  simp at bxc0 bxc1
  go_wp2_with fail
  clear lbx bxc0 bxc1
  refine (agreeR_any N ts _ _ HO.out (by omega) hR).mono ?_
  rintro e w3 ⟨rfl, hb⟩
  replace hC : Below n0 w w3 := hC.trans (hb.mono (by have := hC.size; omega))
  replace hR := (RS.below hR hb).more hb.size
  replace bx := bx.below hb bx.lt
  clear hb
  have hq : fineB (N : Int) ts = decide (Agr N ts) := by
    have h1 := H5.out
    have h2 := HE.out
    unfold fineB
    rw [Int.toNat_natCast]
    by_cases ha : Agr N ts
    · rw [decide_eq_true ha]; exact decide_eq_true ⟨h1, h2, ha⟩
    · rw [decide_eq_false ha]; exact decide_eq_false fun h => ha h.2.2
  have HQ := Lib.hid hq
  clear hq
  generalize decide (Agr N ts) = q at *
  cases q
  · go_wp2_with fail
    exact bodyPost_ret (v := .bool false) (by simp [results, Try.results43, go_sem]) rfl ⟨by rw [HQ.out], by first | exact hC | (rw [hn0]; exact hC) | (with_reducible rw [hn0]; exact bel_of) | exact bel_of⟩
  · go_wp2_with fail
    exact bodyPost_ret (v := .bool true) (by simp [results, Try.results43, go_sem]) rfl ⟨by rw [HQ.out], by first | exact hC | (rw [hn0]; exact hC) | (with_reducible rw [hn0]; exact bel_of) | exact bel_of⟩

set_option maxHeartbeats 2000000 in
theorem in_any (l : List Int) (x : Int) (v : Value) (w : World) (hl : l.length ≤ 1000) (h : RI w w.heap.size v l) :
    Calls Try.prog 45 #[v, .int .i64 x] w fun e w' => e = .returned (.bool (decide (x ∈ l))) ∧ Below w.heap.size w w' := by
  obtain ⟨A, cap, bb, off, rfl, hA, hc⟩ := h.cells
  have HC := Lib.hid hc; have HA := Lib.hid hA
  clear hc hA h
  go_enter Try.func45, Try.ntmps45
  go_wp2_with fail
  go_loopw [5] (fun i wr => ∃ k : Nat, k ≤ l.length ∧ i = .int .i64 k ∧ Below w.heap.size w wr ∧ ∀ j, j < k → nthI l j ≠ x) (fun i _ => l.length - (intOf i).toNat)
  case atStart => exact ⟨0, Nat.zero_le _, rfl, Below.refl _ _, fun j hj => absurd hj (by omega)⟩
  case round =>
    obtain ⟨k, hk, rfl, hbw, hall⟩ := hrel
    have HALL := Lib.hid hall; clear hall
    by_cases hlt : k < l.length
    · obtain ⟨rfl, hb⟩ := HA.out (by omega)
      have c0 := HC.out k hlt
      rw [← hbw.cell (by exact hb)] at c0
      have hbr : bb < wr.heap.size := Nat.lt_of_lt_of_le hb hbw.size
      by_cases he : nthI l k = x
      · have d1 : (nthI l k == x) = true := by simpa using he
        have HE := Lib.hid (show decide (x ∈ l) = true from decide_eq_true (by
          rw [← he]; unfold nthI; rw [List.getD_eq_getElem?_getD, List.getElem?_eq_getElem hlt]; exact List.getElem_mem _))
        clear he
        go_wp2_with fail
        exact bodyPost_ret (v := .bool true) (by simp [results, Try.results45, go_sem]) rfl ⟨by rw [HE.out], by first | exact hbw | exact bel_of⟩
      · have d1 : (nthI l k == x) = false := by simpa using he
        have HE := Lib.hid he; clear he
        go_wp2_with fail
        go_roundw
        case rel => exact ⟨k + 1, by omega, by go_num, by first | exact hbw | exact bel_of, fun j hj => by
          rcases Nat.lt_succ_iff_lt_or_eq.1 hj with h | rfl
          · exact HALL.out j h
          · exact HE.out⟩
        case measure => simp [intOf]; omega
    · have HE := Lib.hid (show decide (x ∈ l) = false from decide_eq_false fun hm => by
        obtain ⟨j, hj, hjx⟩ := List.mem_iff_getElem.1 hm
        exact HALL.out j (by omega) (by unfold nthI; rw [List.getD_eq_getElem?_getD, List.getElem?_eq_getElem hj]; exact hjx))
      go_wp2_with fail
      exact bodyPost_ret (v := .bool false) (by simp [results, Try.results45, go_sem]) rfl ⟨by rw [HE.out], by first | exact hbw | exact bel_of⟩
end Go.Proofs.Ytkljdbgkhghiaaa

namespace Go.Proofs.Ytkljdbgkhghiaaa
open Go.ChangeShapes Go.WideShapes Go.ChangeAt Go.RowKit Go.Deep Kp
set_option linter.all false

theorem own : ownKnob Try.prog.godebug = none := by kernel_rfl
theorem laidOut : laidOutB Try.prog = true := by kernel_rfl

theorem spot_none {w : World} {a : Addr} {v : Value} (h : w.cell? a = some v) : a = ⟨a.block, a.off, none⟩ ∧ a.block < w.heap.size := by
  unfold World.cell? at h
  split at h
  · rename_i c t r hb
    split at h
    · cases h
    · rename_i hs
      refine ⟨?_, (Array.getElem?_eq_some_iff.1 hb).1⟩
      obtain ⟨b, o, s⟩ := a
      cases s with
      | none => rfl
      | some _ => simp at hs
  · cases h
theorem flat_at {α : Type} (f : α → List Value) (sz : Nat) (hf : ∀ z, (f z).length = sz) : ∀ (L : List α) (i r : Nat) (hi : i < L.length), r < sz → (L.flatMap f)[i * sz + r]? = (f L[i])[r]?
  | [], i, r, hi, _ => by simp at hi
  | z :: L, 0, r, _, hr => by
    simp only [List.flatMap_cons, Nat.zero_mul, Nat.zero_add, List.getElem_cons_zero]
    rw [List.getElem?_append_left (by rw [hf]; exact hr)]
  | z :: L, i + 1, r, hi, hr => by
    have := flat_at f sz hf L i r (by simpa using hi) hr
    simp only [List.flatMap_cons, List.getElem_cons_succ]
    rw [List.getElem?_append_right (by rw [hf, Nat.succ_mul]; omega), hf, show (i + 1) * sz + r - sz = i * sz + r by rw [Nat.succ_mul]; omega]
    exact this
theorem flat_len {α : Type} (f : α → List Value) (sz : Nat) (hf : ∀ z, (f z).length = sz) : ∀ L : List α, (L.flatMap f).length = L.length * sz
  | [] => by simp
  | z :: L => by rw [List.flatMap_cons, List.length_append, hf, flat_len f sz hf L, List.length_cons, Nat.succ_mul]; omega

section
variable {H : Type} {enc : TypeId × Value → H} {w : World} {base : Nat} {spare : Nat → Bool} {held : Bool}
theorem open_rs {P : Program} {α : Type} [Inhabited α] (f : α → List Value) (G : α → Prop) {t e sz : Nat} {v : Value} {d : DataW H} {ps : List MemPlace} {r : Reach} {b0 : Nat} (ht : P.underlying t = some (.slice e)) (hC : P.cellsOf e = sz) (h0 : 0 < sz) (hf : ∀ z, (f z).length = sz)
    (he : ∀ n cs' y, DataW.trod enc P w base spare held n e cs' = some y → ∃ z, cs' = f z ∧ G z) (hval : Value.okWide P w r b0 t v) (hd : DataW.Trod enc P w base spare held t v d ps) :
    ∃ L : List α, RS w w.heap.size sz v L.length (L.flatMap f) ∧ (∀ z ∈ L, G z) ∧ L.length ≤ maxLen := by
  obtain ⟨a0, len0, cap0, rfl⟩ := okWide_slice ht hval
  obtain ⟨fuel, hd⟩ := hd
  rcases open_slice ht hd with ⟨hn, _⟩ | ⟨a, len, cap, m, n, D, Pl, hcs, hb, hl, hm, hmm, hx, hi⟩
  · obtain ⟨rfl, rfl, rfl⟩ : a0 = none ∧ len0 = 0 ∧ cap0 = 0 := by simpa [Value.cells] using hn
    exact ⟨[], ⟨none, 0, 0, 0, rfl, ⟨by simp, Nat.le_refl _⟩, fun h => absurd rfl h, fun j hj => by simp at hj⟩, by simp, Nat.zero_le _⟩
  · obtain ⟨rfl, rfl, rfl⟩ : a0 = some a ∧ len0 = len ∧ cap0 = cap := by simpa [Value.cells] using hcs
    have hlm : len0 ≤ m := by rw [hmm]; split <;> omega
    obtain ⟨Z, hZ⟩ := choose_lt (n := len0) (α := α) (p := fun i z => (∀ j, j < sz → w.cell? ((a.add (i * sz)).add j) = (f z)[j]?) ∧ G z) (fun i him => by
      obtain ⟨cs', hc, ht'⟩ := hi i (by omega)
      obtain ⟨z, rfl, hg⟩ := he _ _ _ ht'
      rw [hC] at hc
      exact ⟨z, (World.cells?_some hc).2.2, hg⟩)
    refine ⟨(List.range len0).map Z, ?_, ?_, by simp; omega⟩
    · rcases Nat.eq_zero_or_pos len0 with hz | hz
      · subst hz
        exact ⟨some a, cap0, 0, 0, by simp, ⟨by simp, by simp⟩, fun h => absurd (by simp) h, fun j hj => by simp at hj⟩
      · have hc0 := (hZ 0 hz).1 0 h0
        have hs0 : (f (Z 0))[0]? = some ((f (Z 0))[0]'(by rw [hf]; exact h0)) := List.getElem?_eq_getElem _
        rw [hs0] at hc0
        have ha0 : (a.add (0 * sz)).add 0 = a := by simp [Addr.add]
        rw [ha0] at hc0
        obtain ⟨ha, hab⟩ := spot_none hc0
        rw [ha]
        refine ⟨_, cap0, a.block, a.off, by simp, ⟨by rw [flat_len f sz hf], by simpa using hl⟩, fun _ => ⟨rfl, hab⟩, fun j hj => ?_⟩
        rw [flat_len f sz hf, List.length_map, List.length_range] at hj
        have hjr := Nat.mod_lt j h0
        have hji : j / sz < len0 := Nat.div_lt_of_lt_mul (by rw [Nat.mul_comm]; exact hj)
        have hje : j = j / sz * sz + j % sz := by rw [Nat.mul_comm]; exact (Nat.div_add_mod ..).symm
        have h1 := (hZ (j / sz) hji).1 (j % sz) hjr
        have h2 : (a.add (j / sz * sz)).add (j % sz) = ⟨a.block, a.off + j, none⟩ := by
          rw [ha]
          unfold Addr.add
          by_cases z1 : j / sz * sz = 0 <;> by_cases z2 : j % sz = 0 <;> simp [z1, z2] <;> omega
        rw [h2] at h1
        rw [h1]
        have h3 := flat_at f sz hf ((List.range len0).map Z) (j / sz) (j % sz) (by simpa using hji) hjr
        rw [← hje] at h3
        rw [h3]
        simp
    · intro z hz
      obtain ⟨i, hi', rfl⟩ := List.mem_map.1 hz
      exact (hZ i (List.mem_range.1 hi')).2

theorem open_rs0 {P : Program} {α : Type} [Inhabited α] (f : α → List Value) (G : α → Prop) {t e sz : Nat} {c : Value} {x : DataW H × List MemPlace} {fuel : Nat} (ht : P.underlying t = some (.slice e)) (hC : P.cellsOf e = sz) (h0 : 0 < sz) (hf : ∀ z, (f z).length = sz)
    (he : ∀ n cs' y, DataW.trod enc P w base spare held n e cs' = some y → ∃ z, cs' = f z ∧ G z) (hd : DataW.trod enc P w base spare held fuel t [c] = some x) :
    ∃ L : List α, RS w w.heap.size sz c L.length (L.flatMap f) ∧ (∀ z ∈ L, G z) ∧ L.length ≤ maxLen := by
  rcases open_slice ht hd with ⟨hn, _⟩ | ⟨a, len, cap, m, n, D, Pl, hcs, hb, hl, hm, hmm, hx, hi⟩
  · obtain rfl : c = .slice none 0 0 := by simpa using hn
    exact ⟨[], ⟨none, 0, 0, 0, rfl, ⟨by simp, Nat.le_refl _⟩, fun h => absurd rfl h, fun j hj => by simp at hj⟩, by simp, Nat.zero_le _⟩
  · obtain rfl : c = .slice (some a) len cap := by simpa using hcs
    have hlm : len ≤ m := by rw [hmm]; split <;> omega
    obtain ⟨Z, hZ⟩ := choose_lt (n := len) (α := α) (p := fun i z => (∀ j, j < sz → w.cell? ((a.add (i * sz)).add j) = (f z)[j]?) ∧ G z) (fun i him => by
      obtain ⟨cs', hc, ht'⟩ := hi i (by omega)
      obtain ⟨z, rfl, hg⟩ := he _ _ _ ht'
      rw [hC] at hc
      exact ⟨z, (World.cells?_some hc).2.2, hg⟩)
    refine ⟨(List.range len).map Z, ?_, ?_, by simp; omega⟩
    · rcases Nat.eq_zero_or_pos len with hz | hz
      · subst hz
        exact ⟨some a, cap, 0, 0, by simp, ⟨by simp, by simp⟩, fun h => absurd (by simp) h, fun j hj => by simp at hj⟩
      · have hc0 := (hZ 0 hz).1 0 h0
        have hs0 : (f (Z 0))[0]? = some ((f (Z 0))[0]'(by rw [hf]; exact h0)) := List.getElem?_eq_getElem _
        rw [hs0] at hc0
        have ha0 : (a.add (0 * sz)).add 0 = a := by simp [Addr.add]
        rw [ha0] at hc0
        obtain ⟨ha, hab⟩ := spot_none hc0
        rw [ha]
        refine ⟨_, cap, a.block, a.off, by simp, ⟨by rw [flat_len f sz hf], by simpa using hl⟩, fun _ => ⟨rfl, hab⟩, fun j hj => ?_⟩
        rw [flat_len f sz hf, List.length_map, List.length_range] at hj
        have hjr := Nat.mod_lt j h0
        have hji : j / sz < len := Nat.div_lt_of_lt_mul (by rw [Nat.mul_comm]; exact hj)
        have hje : j = j / sz * sz + j % sz := by rw [Nat.mul_comm]; exact (Nat.div_add_mod ..).symm
        have h1 := (hZ (j / sz) hji).1 (j % sz) hjr
        have h2 : (a.add (j / sz * sz)).add (j % sz) = ⟨a.block, a.off + j, none⟩ := by
          rw [ha]
          unfold Addr.add
          by_cases z1 : j / sz * sz = 0 <;> by_cases z2 : j % sz = 0 <;> simp [z1, z2] <;> omega
        rw [h2] at h1
        rw [h1]
        have h3 := flat_at f sz hf ((List.range len).map Z) (j / sz) (j % sz) (by simpa using hji) hjr
        rw [← hje] at h3
        rw [h3]
        simp
    · intro z hz
      obtain ⟨i, hi', rfl⟩ := List.mem_map.1 hz
      exact (hZ i (List.mem_range.1 hi')).2

def okI (n : Int) : Prop := -9223372036854775808 ≤ n ∧ n ≤ 9223372036854775807
theorem okI_wf {n : Int} (h : (Lit.int .i64 n).wf = true) : okI n := by simpa [okI, Lit.wf, IntKind.min, IntKind.max, IntKind.signed, IntKind.bits] using h
section
variable {P : Program}
theorem two_ints {i64 t : TypeId} (h64 : P.underlying i64 = some (.int .i64)) (h64c : P.cellsOf i64 = 1) {fuel : Nat} {cs : List Value} {x : DataW H × List MemPlace} {fs : Array Field} (hu : P.underlying t = some (.struct fs)) (hC : P.cellsOf t = 2) {f0 f1 : Field} (hfs : fs = #[f0, f1])
    (e0 : f0.type = i64 ∧ f0.offset = 0) (e1 : f1.type = i64 ∧ f1.offset = 1) (h : DataW.trod enc P w base spare held fuel t cs = some x) : ∃ a b, cs = [.int .i64 a, .int .i64 b] ∧ okI a ∧ okI b := by
  subst hfs
  obtain ⟨xs, n, _, _, hcl, hxl, hf⟩ := DataW.trod_struct hu h
  rw [hC] at hcl
  match cs, hcl with
  | [c0, c1], _ =>
    have h0 := hf 0 f0 rfl
    have h1 := hf 1 f1 rfl
    rw [e0.1, e0.2, h64c] at h0
    rw [e1.1, e1.2, h64c] at h1
    have hx : xs.length = 2 := hxl
    rw [List.getElem?_eq_getElem (show 0 < xs.length by omega)] at h0
    rw [List.getElem?_eq_getElem (show 1 < xs.length by omega)] at h1
    obtain ⟨a, k0, _, w0⟩ := DataW.trod_int h64 h0
    obtain ⟨b, k1, _, w1⟩ := DataW.trod_int h64 h1
    simp at k0 k1
    subst k0; subst k1
    exact ⟨a, b, rfl, okI_wf w0, okI_wf w1⟩
theorem int_two {i64 t r : TypeId} (h64 : P.underlying i64 = some (.int .i64)) (h64c : P.cellsOf i64 = 1) {fuel : Nat} {cs : List Value} {x : DataW H × List MemPlace} {fs gs : Array Field} (hu : P.underlying t = some (.struct fs)) (hC : P.cellsOf t = 3) {f0 f1 g0 g1 : Field} (hfs : fs = #[f0, f1])
    (e0 : f0.type = i64 ∧ f0.offset = 0) (e1 : f1.type = r ∧ f1.offset = 1) (hr : P.underlying r = some (.struct gs)) (hrC : P.cellsOf r = 2) (hgs : gs = #[g0, g1]) (d0 : g0.type = i64 ∧ g0.offset = 0) (d1 : g1.type = i64 ∧ g1.offset = 1)
    (h : DataW.trod enc P w base spare held fuel t cs = some x) : ∃ a b c, cs = [.int .i64 a, .int .i64 b, .int .i64 c] ∧ okI a ∧ okI b ∧ okI c := by
  subst hfs
  obtain ⟨xs, n, _, _, hcl, hxl, hf⟩ := DataW.trod_struct hu h
  rw [hC] at hcl
  match cs, hcl with
  | [c0, c1, c2], _ =>
    have h0 := hf 0 f0 rfl
    have h1 := hf 1 f1 rfl
    rw [e0.1, e0.2, h64c] at h0
    rw [e1.1, e1.2, hrC] at h1
    have hx : xs.length = 2 := hxl
    rw [List.getElem?_eq_getElem (show 0 < xs.length by omega)] at h0
    rw [List.getElem?_eq_getElem (show 1 < xs.length by omega)] at h1
    obtain ⟨a, k0, _, w0⟩ := DataW.trod_int h64 h0
    obtain ⟨b, c, k1, w1, w2⟩ := two_ints h64 h64c hr hrC hgs d0 d1 h1
    simp at k0 k1
    subst k0
    obtain ⟨rfl, rfl⟩ := k1
    exact ⟨a, b, c, rfl, okI_wf w0, w1, w2⟩
end
theorem cellsI : Try.prog.cellsOf 3 = 1 := by kernel_rfl
theorem cells1 : Try.prog.cellsOf 2 = 1 := by kernel_rfl
theorem cellsRg : Try.prog.cellsOf 36 = 2 := by kernel_rfl
theorem cellsKt : Try.prog.cellsOf 56 = 4 := by kernel_rfl
theorem cellsKl : Try.prog.cellsOf 44 = 3 := by kernel_rfl
theorem cellsBk : Try.prog.cellsOf 24 = 2 := by kernel_rfl
theorem cellsTs : Try.prog.cellsOf 22 = 1 := by kernel_rfl
theorem cellsU32 : Try.prog.cellsOf 110 = 1 := by kernel_rfl
def okT (t : Kt) : Prop := okI t.one ∧ okI t.two ∧ okI t.lo ∧ okI t.hi
def okL (k : Kl) : Prop := okI k.src ∧ okI k.dst ∧ okI k.tst
set_option maxRecDepth 100000 in
theorem trod_kt {fuel : Nat} {cs : List Value} {x : DataW H × List MemPlace} (h : DataW.trod enc Try.prog w base spare held fuel 56 cs = some x) : ∃ t : Kt, cs = encT t ∧ okT t := by
  obtain ⟨xs, n, _, _, hcl, hxl, hf⟩ := DataW.trod_struct Try.underlying56 h
  rw [cellsKt] at hcl
  match cs, hcl with
  | [c0, c1, c2, c3], _ =>
    have h0 : DataW.trod enc Try.prog w base spare held n 3 (([c0, c1, c2, c3].drop 0).take (Try.prog.cellsOf 3)) = xs[0]? := hf 0 _ rfl
    have h1 : DataW.trod enc Try.prog w base spare held n 3 (([c0, c1, c2, c3].drop 1).take (Try.prog.cellsOf 3)) = xs[1]? := hf 1 _ rfl
    have h2 : DataW.trod enc Try.prog w base spare held n 36 (([c0, c1, c2, c3].drop 2).take (Try.prog.cellsOf 36)) = xs[2]? := hf 2 _ rfl
    rw [cellsI] at h0 h1
    rw [cellsRg] at h2
    have hx : xs.length = 3 := hxl
    rw [List.getElem?_eq_getElem (show 0 < xs.length by omega)] at h0
    rw [List.getElem?_eq_getElem (show 1 < xs.length by omega)] at h1
    rw [List.getElem?_eq_getElem (show 2 < xs.length by omega)] at h2
    obtain ⟨a, k0, _, w0⟩ := DataW.trod_int Try.underlying3 h0
    obtain ⟨b, k1, _, w1⟩ := DataW.trod_int Try.underlying3 h1
    obtain ⟨lo, hi, k2, w2, w3⟩ := two_ints Try.underlying2 cells1 Try.underlying36 cellsRg rfl ⟨rfl, rfl⟩ ⟨rfl, rfl⟩ h2
    simp at k0 k1 k2
    subst k0; subst k1
    obtain ⟨rfl, rfl⟩ := k2
    exact ⟨⟨a, b, lo, hi⟩, rfl, okI_wf w0, okI_wf w1, w2, w3⟩
set_option maxRecDepth 100000 in
theorem trod_kl {fuel : Nat} {cs : List Value} {x : DataW H × List MemPlace} (h : DataW.trod enc Try.prog w base spare held fuel 44 cs = some x) : ∃ k : Kl, cs = encL k ∧ okL k := by
  obtain ⟨xs, n, _, _, hcl, hxl, hf⟩ := DataW.trod_struct Try.underlying44 h
  rw [cellsKl] at hcl
  match cs, hcl with
  | [c0, c1, c2], _ =>
    have h0 : DataW.trod enc Try.prog w base spare held n 3 (([c0, c1, c2].drop 0).take (Try.prog.cellsOf 3)) = xs[0]? := hf 0 _ rfl
    have h1 : DataW.trod enc Try.prog w base spare held n 3 (([c0, c1, c2].drop 1).take (Try.prog.cellsOf 3)) = xs[1]? := hf 1 _ rfl
    have h2 : DataW.trod enc Try.prog w base spare held n 3 (([c0, c1, c2].drop 2).take (Try.prog.cellsOf 3)) = xs[2]? := hf 2 _ rfl
    rw [cellsI] at h0 h1 h2
    have hx : xs.length = 3 := hxl
    rw [List.getElem?_eq_getElem (show 0 < xs.length by omega)] at h0
    rw [List.getElem?_eq_getElem (show 1 < xs.length by omega)] at h1
    rw [List.getElem?_eq_getElem (show 2 < xs.length by omega)] at h2
    obtain ⟨a, k0, _, w0⟩ := DataW.trod_int Try.underlying3 h0
    obtain ⟨b, k1, _, w1⟩ := DataW.trod_int Try.underlying3 h1
    obtain ⟨c, k2, _, w2⟩ := DataW.trod_int Try.underlying3 h2
    simp at k0 k1 k2
    subst k0; subst k1; subst k2
    exact ⟨⟨a, b, c⟩, rfl, okI_wf w0, okI_wf w1, okI_wf w2⟩
set_option maxRecDepth 100000 in
theorem open_kls {v : Value} {d : DataW H} {ps : List MemPlace} {r : Reach} {b0 : Nat} (hval : Value.okWide Try.prog w r b0 25 v) (hd : DataW.Trod enc Try.prog w base spare held 25 v d ps) : ∃ l : List Kl, RL w w.heap.size v l ∧ (∀ k ∈ l, okL k) ∧ l.length ≤ maxLen := by
  obtain ⟨l, h, hg, hl⟩ := open_rs (P := Try.prog) (t := 25) (e := 44) (sz := 3) encL okL Try.underlying25 cellsKl (Nat.succ_pos _) (fun _ => rfl) (fun n cs' y h => trod_kl h) hval hd
  exact ⟨l, h, hg, hl⟩
theorem flat_ints (k : IntKind) (L : List Int) : (L.flatMap fun x => [Value.int k x]) = L.map (.int k) := by
  induction L with
  | nil => rfl
  | cons a t ih => rw [List.flatMap_cons, ih]; rfl
set_option maxRecDepth 100000 in
theorem open_i64s {v : Value} {d : DataW H} {ps : List MemPlace} {r : Reach} {b0 : Nat} (hval : Value.okWide Try.prog w r b0 40 v) (hd : DataW.Trod enc Try.prog w base spare held 40 v d ps) : ∃ l : List Int, RI w w.heap.size v l ∧ (∀ x ∈ l, okI x) ∧ l.length ≤ maxLen := by
  have he : ∀ n cs' y, DataW.trod enc Try.prog w base spare held n 2 cs' = some y → ∃ z : Int, cs' = [.int .i64 z] ∧ okI z := by
    intro n cs' y h
    obtain ⟨n, h1, _, hw⟩ := DataW.trod_int Try.underlying2 h
    exact ⟨n, h1, okI_wf hw⟩
  obtain ⟨l, h, hg, hl⟩ := open_rs (P := Try.prog) (t := 40) (e := 2) (sz := 1) (fun x : Int => [Value.int .i64 x]) okI Try.underlying40 cells1 (Nat.succ_pos _) (fun _ => rfl) he hval hd
  rw [flat_ints] at h
  exact ⟨l, h, hg, hl⟩
def RU (w : World) (B : Nat) (v : Value) (l : List Int) : Prop := RS w B 1 v l.length (l.map (.int .u32))
def okU (x : Int) : Prop := 0 ≤ x ∧ x ≤ 4294967295
theorem okU_wf {n : Int} (h : (Lit.int .u32 n).wf = true) : okU n := by simpa [okU, Lit.wf, IntKind.min, IntKind.max, IntKind.signed, IntKind.bits] using h
set_option maxRecDepth 100000 in
theorem open_u32s {v : Value} {d : DataW H} {ps : List MemPlace} {r : Reach} {b0 : Nat} (hval : Value.okWide Try.prog w r b0 68 v) (hd : DataW.Trod enc Try.prog w base spare held 68 v d ps) : ∃ l : List Int, RU w w.heap.size v l ∧ (∀ x ∈ l, okU x) ∧ l.length ≤ maxLen := by
  have he : ∀ n cs' y, DataW.trod enc Try.prog w base spare held n 110 cs' = some y → ∃ z : Int, cs' = [.int .u32 z] ∧ okU z := by
    intro n cs' y h
    obtain ⟨n, h1, _, hw⟩ := DataW.trod_int Try.underlying110 h
    exact ⟨n, h1, okU_wf hw⟩
  obtain ⟨l, h, hg, hl⟩ := open_rs (P := Try.prog) (t := 68) (e := 110) (sz := 1) (fun x : Int => [Value.int .u32 x]) okU Try.underlying68 cellsU32 (Nat.succ_pos _) (fun _ => rfl) he hval hd
  rw [flat_ints] at h
  exact ⟨l, h, hg, hl⟩
set_option maxRecDepth 100000 in
theorem open_kt {v : Value} {d : DataW H} {ps : List MemPlace} {r : Reach} {b0 : Nat} (hval : Value.okWide Try.prog w r b0 56 v) (hd : DataW.Trod enc Try.prog w base spare held 56 v d ps) : ∃ t : Kt, v = tV t ∧ okT t := by
  obtain ⟨cs, rfl, _⟩ := okWide_struct Try.underlying56 hval
  obtain ⟨fuel, hd⟩ := hd
  obtain ⟨x, hx, h1⟩ := trod_kt hd
  refine ⟨x, ?_, h1⟩
  have hx' : cs.toList = encT x := hx
  rw [← Array.toArray_toList (xs := cs), hx']
  rfl
set_option maxRecDepth 100000 in
theorem open_book {v : Value} {d : DataW H} {ps : List MemPlace} {r : Reach} {b0 : Nat} (hval : Value.okWide Try.prog w r b0 24 v) (hd : DataW.Trod enc Try.prog w base spare held 24 v d ps) :
    ∃ (E : Int) (s : Value) (ts : List Kt), v = .agg #[.int .i64 E, s] ∧ RT w w.heap.size s ts ∧ okI E ∧ (∀ t ∈ ts, okT t) ∧ ts.length ≤ maxLen := by
  obtain ⟨cs, rfl, _⟩ := okWide_struct Try.underlying24 hval
  obtain ⟨fuel, hd⟩ := hd
  have hd' : DataW.trod enc Try.prog w base spare held fuel 24 cs.toList = some (d, ps) := hd
  obtain ⟨xs, n, _, _, hcl, hxl, hf⟩ := DataW.trod_struct Try.underlying24 hd'
  rw [cellsBk] at hcl
  obtain ⟨L⟩ := cs
  simp only at hcl hf
  match L, hcl with
  | [c0, c1], _ =>
    have h0 : DataW.trod enc Try.prog w base spare held n 3 (([c0, c1].drop 0).take (Try.prog.cellsOf 3)) = xs[0]? := hf 0 _ rfl
    have h1 : DataW.trod enc Try.prog w base spare held n 22 (([c0, c1].drop 1).take (Try.prog.cellsOf 22)) = xs[1]? := hf 1 _ rfl
    rw [cellsI] at h0
    rw [cellsTs] at h1
    have hx : xs.length = 2 := hxl
    rw [List.getElem?_eq_getElem (show 0 < xs.length by omega)] at h0
    rw [List.getElem?_eq_getElem (show 1 < xs.length by omega)] at h1
    obtain ⟨a, k0, _, w0⟩ := DataW.trod_int Try.underlying3 h0
    simp at k0
    subst k0
    obtain ⟨l, h, hg, hl⟩ := open_rs0 (P := Try.prog) (t := 22) (e := 56) (sz := 4) encT okT Try.underlying22 cellsKt (Nat.succ_pos _) (fun _ => rfl) (fun n cs' y h => trod_kt h) h1
    exact ⟨a, c1, l, rfl, h, okI_wf w0, hg, hl⟩

/-- What was read below the old heap reads as it did. -/
theorem trodAll_stays {P : Program} (hl : laidOutB P = true) {W W' : World} (hb : Below W.heap.size W W') {sp : Nat → Bool} : ∀ (ts : List TypeId) (vs : List Value) (ds : List (DataW H)) (ps : List MemPlace), (∀ t ∈ ts, P.readableRec t = true ∧ t < P.types.size) →
    DataW.TrodAll enc P W 0 (fun _ => true) true ts vs ds ps → (∀ p ∈ ps, p.block < W.heap.size) → (∀ p ∈ ps, sp p.block = true) → DataW.TrodAll enc P W' 0 sp true ts vs ds ps
  | [], [], [], _, _, h, _, _ => h
  | t :: ts, v :: vs, d :: ds, _, ht, h, hlt, hsp => by
    obtain ⟨p, q, h1, h2, rfl⟩ := h
    obtain ⟨r1, r2⟩ := ht t (by simp)
    exact ⟨p, q, WideElems.Trod_stays hl r1 r2 h1 (fun x hx => hb.same (hlt x (by simp [hx]))) (fun x hx => hsp x (by simp [hx])),
      trodAll_stays hl hb ts vs ds q (fun t ht' => ht t (by simp [ht'])) h2 (fun x hx => hlt x (by simp [hx])) (fun x hx => hsp x (by simp [hx])), rfl⟩
  | [], _ :: _, _, _, _, h, _, _ => h.elim
  | [], [], _ :: _, _, _, h, _, _ => h.elim
  | _ :: _, [], _, _, _, h, _, _ => h.elim
  | _ :: _, _ :: _, [], _, _, h, _, _ => h.elim

set_option maxRecDepth 100000 in
/-- The last step of a law: it returned true. -/
theorem law_done {f : Func} {s : ChangeSpec} {apart fresh handsOn again : Bool} {W W' : World} {args : Array Value} {ds gs : List (DataW H)} {before : List MemPlace}
    (hW : DataW.Whole enc Try.prog f.params.toList s.vars apart W args.toList ds gs before) (hvars : s.vars = []) (hres : f.resultTypes = #[4]) (hfn : s.fn H (ds ++ gs) = { results := [.lit (.bool true)], args := ds })
    (hr : ∀ t ∈ f.params.toList, Try.prog.readableRec t = true ∧ t < Try.prog.types.size) (hb : Below W.heap.size W W') :
    s.post enc Try.prog f apart fresh handsOn again W args (.bool true) W' := by
  have hlt : ∀ p ∈ before, p.block < W.heap.size := fun p hp => hW.lt p hp
  have hW2 := hW
  obtain ⟨p, q, hA, hV, hpq, hz, hn⟩ := hW
  rw [hvars] at hV
  obtain ⟨rfl, rfl⟩ := trodVars_none hV
  rw [List.append_nil] at hpq
  subst hpq
  have hargs : ∀ sp : Nat → Bool, (∀ p ∈ before, sp p.block = true) → DataW.TrodAll enc Try.prog W' 0 sp true f.params.toList args.toList ds before := fun sp hsp => trodAll_stays laidOut hb _ _ _ _ hr hA hlt hsp
  have hold : ∀ p ∈ before, (fun b => decide (b < W.heap.size)) p.block = true := fun p hp => by simpa using hlt p hp
  have hrs : ∀ (b : Nat) (sp : Nat → Bool) (hd : Bool), DataW.TrodAll enc Try.prog W' b sp hd f.resultTypes.toList ((Value.bool true).resultList f.resultTypes.size) (s.fn H (ds ++ [])).results [] := fun b sp hd => by
    rw [hres, hfn]; exact trodAll_cons_mk (shut_bool Try.underlying4 _) trodAll_mk0
  refine ⟨ds, [], before, [], before, [], hW2, hrs _ _ _, ?_, ?_, World.keptBut_mono (fun p hp => ⟨hp, ?_⟩) (hb.frame (· ∈ before)), fun _ => ?_⟩
  · rw [hfn]; exact hargs _ hold
  · rw [hfn, hvars]; exact rfl
  · simpa using hp
  · refine ⟨?_, (s.fn H (ds ++ [])).results ++ ds, [], ([] ++ before) ++ [], ⟨[] ++ before, [], ?_, ?_, rfl, ?_, ?_⟩, ?_⟩
    · exact ok_one hres rfl (okWide_bool_mk Try.underlying4 _)
    · exact trodAll_append (hargs (fun _ => true) (fun _ _ => rfl)) (hrs 0 (fun _ => true) true)
    · rw [hvars]; exact rfl
    · intro b off hp
      have hin : MemPlace.cell b off ∈ before := by simpa using hp
      rw [hb.frozen (hlt _ hin)]
      exact hz b off hin
    · intro ha
      have := hn ha
      simpa using this
    · intro p hp _
      simpa using hp
end
end Go.Proofs.Ytkljdbgkhghiaaa

namespace Go.Proofs.Ytkljdbgkhghiaaa
set_option linter.all false
open Go.ChangeShapes Go.WideShapes Go.ChangeAt Go.RowKit Go.Deep

section
variable {H : Type} {enc : TypeId × Value → H} {w : World} {base : Nat} {spare : Nat → Bool} {held : Bool} {P : Program}
theorem okWide_arr {r : Reach} {b0 : Nat} {t : TypeId} {n : Nat} {e : TypeId} {v : Value} (ht : P.underlying t = some (.array n e)) (h : Value.okWide P w r b0 t v) : ∃ cs, v = .agg cs ∧ cs.size = P.cellsOf t := by
  simp only [Value.okWide, ht] at h
  obtain ⟨cs, h1, h2, _⟩ := h
  exact ⟨cs, h1, h2⟩
theorem arr_int {t e : TypeId} {n : Nat} {k : IntKind} (ht : P.underlying t = some (.array n e)) (he : P.underlying e = some (.int k)) (hc : P.cellsOf e = 1) {fuel : Nat} {cs : List Value} {x : DataW H × List MemPlace}
    (h : DataW.trod enc P w base spare held fuel t cs = some x) : ∀ i, i < n → ∃ m, cs[i]? = some (.int k m) ∧ (Lit.int k m).wf = true := by
  obtain ⟨xs, m, _, _, hcl, hxl, hf⟩ := DataW.trod_array ht h
  intro i hi
  have h1 := hf i hi
  rw [hc, Nat.mul_one] at h1
  rw [List.getElem?_eq_getElem (show i < xs.length by omega)] at h1
  obtain ⟨y, e0, _, w0⟩ := DataW.trod_int he h1
  refine ⟨y, ?_, w0⟩
  have : ((cs.drop i).take 1)[0]? = some (.int k y) := by rw [e0]; rfl
  rw [List.getElem?_take_of_lt (by decide), List.getElem?_drop] at this
  simpa using this
end
section
variable {H : Type} {enc : TypeId × Value → H} {w : World} {base : Nat} {spare : Nat → Bool} {held : Bool}
theorem cells5 : Try.prog.cellsOf 5 = 1 := by kernel_rfl
theorem cells51 : Try.prog.cellsOf 62 = 3 := by kernel_rfl
theorem cells66 : Try.prog.cellsOf 64 = 2 := by kernel_rfl
theorem byte_wf {n : Int} (h : (Lit.int .u8 n).wf = true) : ∃ m : Nat, n = m ∧ m ≤ 255 := by
  have hb : 0 ≤ n ∧ n ≤ 255 := by simpa [Lit.wf, IntKind.min, IntKind.max, IntKind.signed, IntKind.bits] using h
  exact ⟨n.toNat, by omega, by omega⟩
set_option maxRecDepth 100000 in
theorem open_a3 {v : Value} {d : DataW H} {ps : List MemPlace} {r : Reach} {b0 : Nat} (hval : Value.okWide Try.prog w r b0 62 v) (hd : DataW.Trod enc Try.prog w base spare held 62 v d ps) : ∃ x y z : Nat, v = .agg #[.int .u8 x, .int .u8 y, .int .u8 z] ∧ x ≤ 255 ∧ y ≤ 255 ∧ z ≤ 255 := by
  obtain ⟨cs, rfl, hsz⟩ := okWide_arr Try.underlying62 hval
  obtain ⟨fuel, hd⟩ := hd
  have hA := arr_int Try.underlying62 Try.underlying5 cells5 hd
  obtain ⟨x, h0, w0⟩ := hA 0 (by decide)
  obtain ⟨y, h1, w1⟩ := hA 1 (by decide)
  obtain ⟨z, h2, w2⟩ := hA 2 (by decide)
  obtain ⟨x, rfl, q0⟩ := byte_wf w0
  obtain ⟨y, rfl, q1⟩ := byte_wf w1
  obtain ⟨z, rfl, q2⟩ := byte_wf w2
  refine ⟨x, y, z, ?_, q0, q1, q2⟩
  rw [cells51] at hsz
  congr 1
  apply Array.ext
  · simpa using hsz
  · intro i hi _
    have hc : ∀ j (hj : j < cs.size) v, (Value.agg cs).cells.toList[j]? = some v → cs[j] = v := by
      intro j hj v hv
      have hv' : cs.toList[j]? = some v := hv
      rw [Array.getElem?_toList, Array.getElem?_eq_getElem hj] at hv'
      exact Option.some.inj hv'
    match i, hi with
    | 0, hi => exact hc 0 hi _ h0
    | 1, hi => exact hc 1 hi _ h1
    | 2, hi => exact hc 2 hi _ h2
    | i + 3, hi => omega
set_option maxRecDepth 100000 in
theorem open_a2 {v : Value} {d : DataW H} {ps : List MemPlace} {r : Reach} {b0 : Nat} (hval : Value.okWide Try.prog w r b0 64 v) (hd : DataW.Trod enc Try.prog w base spare held 64 v d ps) : ∃ x y : Nat, v = .agg #[.int .u8 x, .int .u8 y] ∧ x ≤ 255 ∧ y ≤ 255 := by
  obtain ⟨cs, rfl, hsz⟩ := okWide_arr Try.underlying64 hval
  obtain ⟨fuel, hd⟩ := hd
  have hA := arr_int Try.underlying64 Try.underlying5 cells5 hd
  obtain ⟨x, h0, w0⟩ := hA 0 (by decide)
  obtain ⟨y, h1, w1⟩ := hA 1 (by decide)
  obtain ⟨x, rfl, q0⟩ := byte_wf w0
  obtain ⟨y, rfl, q1⟩ := byte_wf w1
  refine ⟨x, y, ?_, q0, q1⟩
  rw [cells66] at hsz
  congr 1
  apply Array.ext
  · simpa using hsz
  · intro i hi _
    have hc : ∀ j (hj : j < cs.size) v, (Value.agg cs).cells.toList[j]? = some v → cs[j] = v := by
      intro j hj v hv
      have hv' : cs.toList[j]? = some v := hv
      rw [Array.getElem?_toList, Array.getElem?_eq_getElem hj] at hv'
      exact Option.some.inj hv'
    match i, hi with
    | 0, hi => exact hc 0 hi _ h0
    | 1, hi => exact hc 1 hi _ h1
    | i + 2, hi => omega
end
end Go.Proofs.Ytkljdbgkhghiaaa

set_option linter.all false
namespace Go.Proofs.Ytkljdbgkhghiaaa
open Go.RowKit Kp

theorem listE_len {P : Nat → List Kt → List Int} {E : Int} {ts : List Kt} {a : Int} (hP : ∀ n ts, (P n ts).length ≤ n) : (listE P E ts (openE E ts a)).length ≤ 1000 := by
  by_cases h : openE E ts a = 0
  · obtain ⟨n, rfl, ho, -⟩ := openE_ok h
    rw [h, listE_ok]
    have := hP n ts
    have := ho.few
    omega
  · rw [listE_bad h]; simp
theorem mayP_len (n : Nat) (ts : List Kt) : (mayP n ts).length ≤ n := ev_len _ _
theorem sureP_len (n : Nat) (ts : List Kt) : (sureP n ts).length ≤ n := ev_len _ _
theorem leastP_len (n : Nat) (ts : List Kt) : (leastP n ts).length ≤ n := by unfold leastP; simp
theorem leastL_E (E : Int) (ts : List Kt) (e : Int) : leastL E ts e = listE leastP E ts e := rfl
theorem ri_slice {W : World} {B : Nat} {u : Value} {l : List Int} (h : RI W B u l) : ∃ A c, u = .slice A l.length c := by
  obtain ⟨A, cp, b, off, hv, hl, hA, _⟩ := h
  exact ⟨A, cp, hv⟩
theorem rl_slice {W : World} {B : Nat} {u : Value} {l : List Kl} (h : RL W B u l) : ∃ A c, u = .slice A l.length c := by
  obtain ⟨A, cp, b, off, hv, hl, hA, _⟩ := h
  exact ⟨A, cp, hv⟩
theorem spanE_form (E : Int) (ts : List Kt) (one two : Nat) (e : Int) : ∃ x y r, spanE E ts one two e = .tuple #[.agg #[.int .i64 x, .int .i64 y], .int .i64 r] := by
  unfold spanE spanA
  split
  · exact ⟨_, _, _, rfl⟩
  · exact ⟨_, _, _, rfl⟩
theorem widV_form (E : Int) (ts : List Kt) (e : Int) : ∃ x y r, widV E ts e = .tuple #[.int .i64 x, .int .i64 y, .int .i64 r] := by
  unfold widV
  split
  · exact ⟨_, _, _, rfl⟩
  · exact ⟨_, _, _, rfl⟩
theorem tellsV_form (E : Int) (ts : List Kt) (t : Kt) (e : Int) : ∃ x r, tellsV E ts t e = .tuple #[.int .i64 x, .int .i64 r] := ⟨_, _, rfl⟩
end Go.Proofs.Ytkljdbgkhghiaaa

set_option linter.all false
namespace Go.Proofs.Ytkljdbgkhghiaaa
open Go.RowKit Kp

set_option maxHeartbeats 8000000 in
set_option maxRecDepth 100000 in
theorem spanE_any (E one two : Int) (ts : List Kt) (v : Value) (w : World) (hl : ts.length ≤ 1000) (h : RT w w.heap.size v ts) :
    Calls Try.prog 25 #[.agg #[.int .i64 E, v], .int .i64 one, .int .i64 two] w fun x w' => x = .returned (spanE E ts one.toNat two.toNat (openE E ts (twoE E one two))) ∧ Below w.heap.size w w' := by
  obtain ⟨b, off, cap, A, rfl, hAx⟩ := h.slice
  clear hAx
  have hR := h
  clear h
  obtain ⟨n0, hn0⟩ : ∃ n, w.heap.size = n := ⟨_, rfl⟩
  have hC : Below n0 w w := Below.refl _ _
  go_enter Try.func25, Try.ntmps25
  go_wp2_with fail
  have bx : BK (w.alloc (.cells #[.int .i64 E, .slice A ts.length cap] 24)) (n0) #[.int .i64 E, .slice A ts.length cap] 24 := BK.new' _ _ _ (n0) hn0
  have hsbx : (w.alloc (.cells #[.int .i64 E, .slice A ts.length cap] 24)).heap.size = n0 + 1 := by simp [hn0]
  replace hC : Below n0 w (w.alloc (.cells #[.int .i64 E, .slice A ts.length cap] 24)) := Below.alloc hC (by have := hC.size; omega) _
  replace hR := (RS.below hR (w' := (w.alloc (.cells #[.int .i64 E, .slice A ts.length cap] 24))) (Below.alloc (Below.refl _ _) (Nat.le_refl _) _)).more (B' := (w.alloc (.cells #[.int .i64 E, .slice A ts.length cap] 24)).heap.size) (by simp)
  generalize (w.alloc (.cells #[.int .i64 E, .slice A ts.length cap] 24)) = Wbx at *
  have rs : BK (Wbx.alloc (.cells #[.int .i64 0, .int .i64 0] 36)) (n0 + 1) #[.int .i64 0, .int .i64 0] 36 := BK.new' _ _ _ (n0 + 1) hsbx
  have hsrs : (Wbx.alloc (.cells #[.int .i64 0, .int .i64 0] 36)).heap.size = n0 + 1 + 1 := by simp [hsbx]
  replace hC : Below n0 w (Wbx.alloc (.cells #[.int .i64 0, .int .i64 0] 36)) := Below.alloc hC (by have := hC.size; omega) _
  replace hR := (RS.below hR (w' := (Wbx.alloc (.cells #[.int .i64 0, .int .i64 0] 36))) (Below.alloc (Below.refl _ _) (Nat.le_refl _) _)).more (B' := (Wbx.alloc (.cells #[.int .i64 0, .int .i64 0] 36)).heap.size) (by simp)
  replace bx := bx.alloc (.cells #[.int .i64 0, .int .i64 0] 36)
  generalize (Wbx.alloc (.cells #[.int .i64 0, .int .i64 0] 36)) = Wrs at *
  clear hsbx
  clear hsrs
  refine (two_any E one two ts _ _ hl hR).mono ?_
  rintro e w1 ⟨rfl, hb⟩
  replace hC : Below n0 w w1 := hC.trans (hb.mono (by have := hC.size; omega))
  replace hR := (RS.below hR hb).more hb.size
  replace bx := bx.below hb bx.lt
  replace rs := rs.below hb rs.lt
  clear hb
  have lbx := bx.lt
  have bxc0 := bx.cell 0
  have bxc1 := bx.cell 1
  simp at bxc0 bxc1
  obtain ⟨e, he⟩ : ∃ e, openE E ts (twoE E one two) = e := ⟨_, rfl⟩
  have HE := Lib.hid he
  rw [he]
  clear he
  by_cases h0 : e = 0
  case neg =>
    have b1 : (e != 0) = true := by simp [h0]
    have HS := Lib.hid (spanE_bad (E := E) (ts := ts) (one := one.toNat) (two := two.toNat) h0)
    clear h0
    go_wp2_with fail
    clear lbx bxc0 bxc1
    refine (two_any E one two ts _ _ hl hR).mono ?_
    rintro e w2 ⟨rfl, hb⟩
    replace hC : Below n0 w w2 := hC.trans (hb.mono (by have := hC.size; omega))
    replace hR := (RS.below hR hb).more hb.size
    replace bx := bx.below hb bx.lt
    replace rs := rs.below hb rs.lt
    clear hb
    rw [HE.out]
    have lrs := rs.lt
    have rsc0 := rs.cell 0
    have rsc1 := rs.cell 1
    simp at rsc0 rsc1
    have rsf0 := rs.frozen 0
    have rsf1 := rs.frozen 1
    go_wp2_with fail
    clear lrs rsc0 rsc1
    clear rsf0 rsf1
    replace hC : Below n0 w ((w2.setCell ⟨n0 + 1, 0, none⟩ (.int .i64 0)).setCell ⟨n0 + 1, 1, none⟩ (.int .i64 0)) := Below.setCell (Below.setCell hC (by show n0 ≤ n0 + 1; omega) _) (by show n0 ≤ n0 + 1; omega) _
    replace rs := fin_range rs 0 0
    have z0 := rs.cell 0
    have z1 := rs.cell 1
    simp at z0 z1
    exact bodyPost_ret (v := .tuple #[.agg #[.int .i64 0, .int .i64 0], .int .i64 e]) (by simp [results, Try.results25, go_sem, z0, z1]) rfl ⟨by rw [HE.out, HS.out], by first | exact hC | (rw [hn0]; exact hC) | (with_reducible rw [hn0]; exact bel_of) | exact bel_of⟩
  subst h0
  obtain ⟨N, rfl, ho, hl40, h2, hg, hbk⟩ := openE_ok HE.out
  obtain ⟨u, v, rfl, rfl, hu, hv, huv⟩ := twoE_nat h2
  have HO := Lib.hid ho
  have HG := Lib.hid hg
  have HU := Lib.hid huv
  clear ho h2 hg hbk huv
  have HS := Lib.hid (spanE_ok (N := N) (ts := ts) (one := u) (two := v))
  go_wp2_with fail
  clear lbx bxc0 bxc1
  refine (spanR_any N ts u v _ _ HO.out hl (by omega) (by omega) hR).mono ?_
  rintro e w2 ⟨rfl, hb⟩
  replace hC : Below n0 w w2 := hC.trans (hb.mono (by have := hC.size; omega))
  replace hR := (RS.below hR hb).more hb.size
  replace bx := bx.below hb bx.lt
  replace rs := rs.below hb rs.lt
  clear hb
  have lrs := rs.lt
  have rsc0 := rs.cell 0
  have rsc1 := rs.cell 1
  simp at rsc0 rsc1
  have rsf0 := rs.frozen 0
  have rsf1 := rs.frozen 1
  unfold spanA at HS ⊢
  generalize D N ts u v = dlo at *
  generalize D N ts v u = dhi at *
  go_wp2_with fail
  clear lrs rsc0 rsc1
  clear rsf0 rsf1
  replace hC : Below n0 w ((w2.setCell ⟨n0 + 1, 0, none⟩ (.int .i64 (-dlo))).setCell ⟨n0 + 1, 1, none⟩ (.int .i64 dhi)) := Below.setCell (Below.setCell hC (by show n0 ≤ n0 + 1; omega) _) (by show n0 ≤ n0 + 1; omega) _
  replace rs := fin_range rs (-dlo) dhi
  have z0 := rs.cell 0
  have z1 := rs.cell 1
  simp at z0 z1
  exact bodyPost_ret (v := .tuple #[.agg #[.int .i64 (-dlo), .int .i64 dhi], .int .i64 0]) (by simp [results, Try.results25, go_sem, z0, z1]) rfl ⟨by rw [HE.out, Int.toNat_natCast, Int.toNat_natCast, HS.out], by first | exact hC | (rw [hn0]; exact hC) | (with_reducible rw [hn0]; exact bel_of) | exact bel_of⟩

set_option maxHeartbeats 8000000 in
set_option maxRecDepth 100000 in
theorem sharpR_any (E one : Int) (ts : List Kt) (v : Value) (w : World) (hl : ts.length ≤ 1000) (h : RT w w.heap.size v ts) :
    Calls Try.prog 32 #[.agg #[.int .i64 E, v], .int .i64 one] w fun x w' => x = .returned (spanE E ts one.toNat E.toNat (openE E ts (oneE E one))) ∧ Below w.heap.size w w' := by
  obtain ⟨b, off, cap, A, rfl, hAx⟩ := h.slice
  clear hAx
  have hR := h
  clear h
  obtain ⟨n0, hn0⟩ : ∃ n, w.heap.size = n := ⟨_, rfl⟩
  have hC : Below n0 w w := Below.refl _ _
  go_enter Try.func32, Try.ntmps32
  go_wp2_with fail
  have bx : BK (w.alloc (.cells #[.int .i64 E, .slice A ts.length cap] 24)) (n0) #[.int .i64 E, .slice A ts.length cap] 24 := BK.new' _ _ _ (n0) hn0
  have hsbx : (w.alloc (.cells #[.int .i64 E, .slice A ts.length cap] 24)).heap.size = n0 + 1 := by simp [hn0]
  replace hC : Below n0 w (w.alloc (.cells #[.int .i64 E, .slice A ts.length cap] 24)) := Below.alloc hC (by have := hC.size; omega) _
  replace hR := (RS.below hR (w' := (w.alloc (.cells #[.int .i64 E, .slice A ts.length cap] 24))) (Below.alloc (Below.refl _ _) (Nat.le_refl _) _)).more (B' := (w.alloc (.cells #[.int .i64 E, .slice A ts.length cap] 24)).heap.size) (by simp)
  generalize (w.alloc (.cells #[.int .i64 E, .slice A ts.length cap] 24)) = Wbx at *
  have rs : BK (Wbx.alloc (.cells #[.int .i64 0, .int .i64 0] 36)) (n0 + 1) #[.int .i64 0, .int .i64 0] 36 := BK.new' _ _ _ (n0 + 1) hsbx
  have hsrs : (Wbx.alloc (.cells #[.int .i64 0, .int .i64 0] 36)).heap.size = n0 + 1 + 1 := by simp [hsbx]
  replace hC : Below n0 w (Wbx.alloc (.cells #[.int .i64 0, .int .i64 0] 36)) := Below.alloc hC (by have := hC.size; omega) _
  replace hR := (RS.below hR (w' := (Wbx.alloc (.cells #[.int .i64 0, .int .i64 0] 36))) (Below.alloc (Below.refl _ _) (Nat.le_refl _) _)).more (B' := (Wbx.alloc (.cells #[.int .i64 0, .int .i64 0] 36)).heap.size) (by simp)
  replace bx := bx.alloc (.cells #[.int .i64 0, .int .i64 0] 36)
  generalize (Wbx.alloc (.cells #[.int .i64 0, .int .i64 0] 36)) = Wrs at *
  clear hsbx
  clear hsrs
  refine (refBook_any E ts _ _ hl hR).mono ?_
  rintro e w1 ⟨rfl, hb⟩
  replace hC : Below n0 w w1 := hC.trans (hb.mono (by have := hC.size; omega))
  replace hR := (RS.below hR hb).more hb.size
  replace bx := bx.below hb bx.lt
  replace rs := rs.below hb rs.lt
  clear hb
  have lbx := bx.lt
  have bxc0 := bx.cell 0
  have bxc1 := bx.cell 1
  simp at bxc0 bxc1
  obtain ⟨e, he⟩ : ∃ e, bookE E ts = e := ⟨_, rfl⟩
  have HE := Lib.hid he
  rw [he]
  clear he
  by_cases h0 : e = 0
  case neg =>
    have b1 : (e != 0) = true := by simp [h0]
    have HS := Lib.hid (show openE E ts (oneE E one) = e by rw [openE_bad (by rw [HE.out]; exact h0), HE.out])
    have HN := Lib.hid h0
    clear h0
    go_wp2_with fail
    clear lbx bxc0 bxc1
    refine (refBook_any E ts _ _ hl hR).mono ?_
    rintro e w2 ⟨rfl, hb⟩
    replace hC : Below n0 w w2 := hC.trans (hb.mono (by have := hC.size; omega))
    replace hR := (RS.below hR hb).more hb.size
    replace bx := bx.below hb bx.lt
    replace rs := rs.below hb rs.lt
    clear hb
    rw [HE.out]
    have lrs := rs.lt
    have rsc0 := rs.cell 0
    have rsc1 := rs.cell 1
    simp at rsc0 rsc1
    have rsf0 := rs.frozen 0
    have rsf1 := rs.frozen 1
    go_wp2_with fail
    clear lrs rsc0 rsc1
    clear rsf0 rsf1
    replace hC : Below n0 w ((w2.setCell ⟨n0 + 1, 0, none⟩ (.int .i64 0)).setCell ⟨n0 + 1, 1, none⟩ (.int .i64 0)) := Below.setCell (Below.setCell hC (by show n0 ≤ n0 + 1; omega) _) (by show n0 ≤ n0 + 1; omega) _
    replace rs := fin_range rs 0 0
    have z0 := rs.cell 0
    have z1 := rs.cell 1
    simp at z0 z1
    exact bodyPost_ret (v := .tuple #[.agg #[.int .i64 0, .int .i64 0], .int .i64 e]) (by simp [results, Try.results32, go_sem, z0, z1]) rfl ⟨by rw [HS.out, spanE_bad HN.out], by first | exact hC | (rw [hn0]; exact hC) | (with_reducible rw [hn0]; exact bel_of) | exact bel_of⟩
  subst h0
  obtain ⟨N, rfl, ho, hl40⟩ := bookE_ok HE.out
  have HO := Lib.hid ho
  clear ho
  by_cases hb : one < 0 ∨ (N : Int) ≤ one
  · have HS := Lib.hid (show openE (N : Int) ts (oneE N one) = 2 by rw [show oneE N one = 2 from if_pos hb, openE_ask HE.out (by decide)])
    have paths : one < 0 ∨ (¬ one < 0 ∧ (N : Int) ≤ one) := by omega
    clear hb
    rcases paths with h1 | ⟨h1, h2⟩
    · skip
      have lrs := rs.lt
      have rsc0 := rs.cell 0
      have rsc1 := rs.cell 1
      simp at rsc0 rsc1
      have rsf0 := rs.frozen 0
      have rsf1 := rs.frozen 1
      go_wp2_with fail
      clear lrs rsc0 rsc1
      clear rsf0 rsf1
      replace hC : Below n0 w ((w1.setCell ⟨n0 + 1, 0, none⟩ (.int .i64 0)).setCell ⟨n0 + 1, 1, none⟩ (.int .i64 0)) := Below.setCell (Below.setCell hC (by show n0 ≤ n0 + 1; omega) _) (by show n0 ≤ n0 + 1; omega) _
      replace rs := fin_range rs 0 0
      have z0 := rs.cell 0
      have z1 := rs.cell 1
      simp at z0 z1
      exact bodyPost_ret (v := .tuple #[.agg #[.int .i64 0, .int .i64 0], .int .i64 2]) (by simp [results, Try.results32, go_sem, z0, z1]) rfl ⟨by rw [HS.out, spanE_bad (by decide)], by first | exact hC | (rw [hn0]; exact hC) | (with_reducible rw [hn0]; exact bel_of) | exact bel_of⟩
    · skip
      have lrs := rs.lt
      have rsc0 := rs.cell 0
      have rsc1 := rs.cell 1
      simp at rsc0 rsc1
      have rsf0 := rs.frozen 0
      have rsf1 := rs.frozen 1
      go_wp2_with fail
      clear lrs rsc0 rsc1
      clear rsf0 rsf1
      replace hC : Below n0 w ((w1.setCell ⟨n0 + 1, 0, none⟩ (.int .i64 0)).setCell ⟨n0 + 1, 1, none⟩ (.int .i64 0)) := Below.setCell (Below.setCell hC (by show n0 ≤ n0 + 1; omega) _) (by show n0 ≤ n0 + 1; omega) _
      replace rs := fin_range rs 0 0
      have z0 := rs.cell 0
      have z1 := rs.cell 1
      simp at z0 z1
      exact bodyPost_ret (v := .tuple #[.agg #[.int .i64 0, .int .i64 0], .int .i64 2]) (by simp [results, Try.results32, go_sem, z0, z1]) rfl ⟨by rw [HS.out, spanE_bad (by decide)], by first | exact hC | (rw [hn0]; exact hC) | (with_reducible rw [hn0]; exact bel_of) | exact bel_of⟩
  have HS := Lib.hid (show oneE N one = 0 from if_neg hb)
  obtain ⟨h1, h2⟩ : ¬ one < 0 ∧ ¬ (N : Int) ≤ one := by omega
  clear hb
  go_wp2_with fail
  clear lbx bxc0 bxc1
  refine (agreeR_any N ts _ _ HO.out hl hR).mono ?_
  rintro e w2 ⟨rfl, hb⟩
  replace hC : Below n0 w w2 := hC.trans (hb.mono (by have := hC.size; omega))
  replace hR := (RS.below hR hb).more hb.size
  replace bx := bx.below hb bx.lt
  replace rs := rs.below hb rs.lt
  clear hb
  by_cases ha : Agr N ts
  case neg =>
    rw [decide_eq_false ha]
    have HS2 := Lib.hid (openE_clash (a := 0) HE.out rfl ha)
    clear ha
    have lrs := rs.lt
    have rsc0 := rs.cell 0
    have rsc1 := rs.cell 1
    simp at rsc0 rsc1
    have rsf0 := rs.frozen 0
    have rsf1 := rs.frozen 1
    go_wp2_with fail
    clear lrs rsc0 rsc1
    clear rsf0 rsf1
    replace hC : Below n0 w ((w2.setCell ⟨n0 + 1, 0, none⟩ (.int .i64 0)).setCell ⟨n0 + 1, 1, none⟩ (.int .i64 0)) := Below.setCell (Below.setCell hC (by show n0 ≤ n0 + 1; omega) _) (by show n0 ≤ n0 + 1; omega) _
    replace rs := fin_range rs 0 0
    have z0 := rs.cell 0
    have z1 := rs.cell 1
    simp at z0 z1
    exact bodyPost_ret (v := .tuple #[.agg #[.int .i64 0, .int .i64 0], .int .i64 21]) (by simp [results, Try.results32, go_sem, z0, z1]) rfl ⟨by rw [HS.out, HS2.out, spanE_bad (by decide)], by first | exact hC | (rw [hn0]; exact hC) | (with_reducible rw [hn0]; exact bel_of) | exact bel_of⟩
  rw [decide_eq_true ha]
  have HS2 := Lib.hid (openE_agr (a := 0) HE.out rfl ha)
  clear ha
  obtain ⟨u, rfl, hu⟩ := oneE_nat HS.out
  have HS3 := Lib.hid (spanE_ok (N := N) (ts := ts) (one := u) (two := N))
  have lbx := bx.lt
  have bxc0 := bx.cell 0
  have bxc1 := bx.cell 1
  simp at bxc0 bxc1
  go_wp2_with fail
  clear lbx bxc0 bxc1
  refine (spanR_any N ts u N _ _ HO.out hl (by omega) (by omega) hR).mono ?_
  rintro e w3 ⟨rfl, hb⟩
  replace hC : Below n0 w w3 := hC.trans (hb.mono (by have := hC.size; omega))
  replace hR := (RS.below hR hb).more hb.size
  replace bx := bx.below hb bx.lt
  replace rs := rs.below hb rs.lt
  clear hb
  have lrs := rs.lt
  have rsc0 := rs.cell 0
  have rsc1 := rs.cell 1
  simp at rsc0 rsc1
  have rsf0 := rs.frozen 0
  have rsf1 := rs.frozen 1
  unfold spanA at HS3 ⊢
  generalize D N ts u N = dlo at *
  generalize D N ts N u = dhi at *
  go_wp2_with fail
  clear lrs rsc0 rsc1
  clear rsf0 rsf1
  replace hC : Below n0 w ((w3.setCell ⟨n0 + 1, 0, none⟩ (.int .i64 (-dlo))).setCell ⟨n0 + 1, 1, none⟩ (.int .i64 dhi)) := Below.setCell (Below.setCell hC (by show n0 ≤ n0 + 1; omega) _) (by show n0 ≤ n0 + 1; omega) _
  replace rs := fin_range rs (-dlo) dhi
  have z0 := rs.cell 0
  have z1 := rs.cell 1
  simp at z0 z1
  exact bodyPost_ret (v := .tuple #[.agg #[.int .i64 (-dlo), .int .i64 dhi], .int .i64 0]) (by simp [results, Try.results32, go_sem, z0, z1]) rfl ⟨by rw [HS.out, HS2.out, Int.toNat_natCast, Int.toNat_natCast, HS3.out], by first | exact hC | (rw [hn0]; exact hC) | (with_reducible rw [hn0]; exact bel_of) | exact bel_of⟩

end Go.Proofs.Ytkljdbgkhghiaaa
