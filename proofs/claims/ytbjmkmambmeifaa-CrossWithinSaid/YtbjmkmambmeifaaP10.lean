/- Heights. Three operations that may come in any order. IsWedge. -/
import Derived.Test.YtbjmkmambmeifaaP5
import Derived.Test.YtbjmkmambmeifaaP9
import Derived.Test.YtbjmkmambmeifaaP3
set_option linter.all false
set_option linter.unnecessarySimpa false
set_option linter.unusedSimpArgs false
set_option linter.unusedVariables false
set_option linter.unusedSectionVars false

namespace Go.Proofs.Ytbjmkmambmeifaa
open Go.RowKit

theorem popR_suffix (l : List St) (hs : List Int) (k : Nat) : ∀ (r : List Nat), popR l hs k r <:+ r
  | [] => List.suffix_refl _
  | [q] => List.suffix_refl _
  | q :: p :: r => by
    rw [popR_two]
    split
    · exact (popR_suffix l hs k (p :: r)).trans (List.suffix_cons _ _)
    · exact List.suffix_refl _
theorem popR_ne (l : List St) (hs : List Int) (k : Nat) : ∀ (r : List Nat), r ≠ [] → popR l hs k r ≠ []
  | [], h => h
  | [q], h => by simp [popR]
  | q :: p :: r, h => by
    rw [popR_two]
    split
    · exact popR_ne l hs k (p :: r) (by simp)
    · simp
theorem hullR_desc (l : List St) (hs : List Int) : ∀ n, (hullR l hs n).Pairwise (· > ·)
  | 0 => by simp [hullR]
  | n + 1 => by
    simp only [hullR, List.pairwise_cons]
    exact ⟨fun x hx => hullR_lt l hs n x (popR_sub l hs n _ x hx), (hullR_desc l hs n).sublist (popR_suffix l hs n _).sublist⟩
theorem hullR_ne (l : List St) (hs : List Int) (n : Nat) : hullR l hs (n + 1) ≠ [] := by simp [hullR]
theorem hullR_last (l : List St) (hs : List Int) : ∀ n, (hullR l hs (n + 1)).getLast? = some 0
  | 0 => by simp [hullR, popR]
  | n + 1 => by
    have h1 := hullR_last l hs n
    have h2 := popR_suffix l hs (n + 1) (hullR l hs (n + 1))
    have h3 := popR_ne l hs (n + 1) _ (hullR_ne l hs n)
    obtain ⟨t, ht⟩ := h2
    rw [← ht, List.getLast?_append] at h1
    cases hq : (popR l hs (n + 1) (hullR l hs (n + 1))).getLast? with
    | none => exact absurd (List.getLast?_eq_none_iff.1 hq) h3
    | some x =>
      rw [hq] at h1
      have hx : x = 0 := by simpa using h1
      rw [hullR, List.getLast?_cons, hq, hx]; rfl

/-- The names of the hull, rising. -/
def hullL (l : List St) : List Nat := (hullR l (ends l true) l.length).reverse
theorem hullL_len (l : List St) (h0 : 0 < l.length) : 0 < (hullL l).length ∧ (hullL l).length ≤ l.length := by
  refine ⟨?_, by rw [hullL, List.length_reverse]; exact hullR_len _ _ _⟩
  rw [hullL, List.length_reverse]
  cases hx : l.length with
  | zero => omega
  | succ m => simp [hullR]
theorem nm_get (L : List Nat) (j : Nat) (hj : j < L.length) : nm L j = L[j] := by simp [nm, hj]
theorem hullL_lt (l : List St) (j : Nat) (hj : j < (hullL l).length) : nm (hullL l) j < l.length := by
  rw [nm_get _ _ hj]
  exact hullR_lt l _ _ _ (List.mem_reverse.1 (List.getElem_mem hj))
theorem hullL_inc (l : List St) (j : Nat) (hj : j + 1 < (hullL l).length) : nm (hullL l) j < nm (hullL l) (j + 1) := by
  rw [nm_get _ _ (by omega), nm_get _ _ hj]
  have := List.pairwise_reverse.2 (hullR_desc l (ends l true) l.length)
  exact List.pairwise_iff_getElem.1 this j (j + 1) (by show j < (hullL l).length; omega) hj (by omega)
theorem hullL_fst (l : List St) (h0 : 0 < l.length) : nm (hullL l) 0 = 0 := by
  have h1 := (hullL_len l h0).1
  rw [nm_get _ _ h1]
  obtain ⟨m, hm⟩ : ∃ m, l.length = m + 1 := ⟨l.length - 1, by omega⟩
  have h2 := hullR_last l (ends l true) m
  rw [← hm, ← List.head?_reverse] at h2
  have h3 : (hullL l).head? = some 0 := h2
  rw [List.head?_eq_getElem?, List.getElem?_eq_getElem h1] at h3
  exact Option.some.inj h3

def hP (l : List St) (i : Nat) : Ra := heightR l (ends l true) (hullL l) (nthS l i).a
def badP (l : List St) (i : Nat) : Bool := decide ((hP l i).num < (nthS l i).lo * (hP l i).den)
def heightsErrP (l : List St) : Int := if checkPair l ≠ 0 then checkPair l else if (List.range l.length).any (badP l) then 22 else 0
def heightsP (l : List St) : List Ra := if heightsErrP l = 0 then (List.range l.length).map (hP l) else []

theorem heightR_bounds (l : List St) (hs : List Int) (L : List Nat) (pa : Int)
    (hb : ∀ j, j < L.length → 0 ≤ (nthS l (nm L j)).a ∧ (nthS l (nm L j)).a ≤ 1000 ∧ -1000 ≤ nthI hs (nm L j) ∧ nthI hs (nm L j) ≤ 1000)
    (hinc : ∀ j, j + 1 < L.length → (nthS l (nm L j)).a < (nthS l (nm L (j + 1))).a) (hfst : (nthS l (nm L 0)).a ≤ pa) (hpa : 0 ≤ pa ∧ pa ≤ 1000) :
    -2000000 ≤ (heightR l hs L pa).num ∧ (heightR l hs L pa).num ≤ 2000000 ∧ 0 ≤ (heightR l hs L pa).den ∧ (heightR l hs L pa).den ≤ 1000 := by
  unfold heightR
  cases hf : (List.range L.length).find? (fun j => decide (pa ≤ (nthS l (nm L j)).a)) with
  | none => simp
  | some j =>
    have h1 := List.find?_range_eq_some.1 hf
    obtain ⟨h1, h2, h3⟩ := h1
    have hj := List.mem_range.1 h2
    have q1 := hb j hj
    simp only
    by_cases he : (nthS l (nm L j)).a = pa
    · rw [if_pos he]; simp; omega
    · rw [if_neg he]
      have h1' : pa ≤ (nthS l (nm L j)).a := of_decide_eq_true h1
      obtain ⟨m, rfl⟩ : ∃ m, j = m + 1 := by
        cases j with
        | zero => omega
        | succ m => exact ⟨m, rfl⟩
      rw [Nat.add_sub_cancel]
      have q2 := hb m (by omega)
      have q3 := hinc m hj
      have q4 : (nthS l (nm L m)).a < pa := by
        have := h3 m (by omega)
        simp at this; exact this
      have e1 := mul_bd (nthI hs (nm L m)) ((nthS l (nm L (m + 1))).a - pa) 1000 1000 (by omega) (by omega)
      have e2 := mul_bd (nthI hs (nm L (m + 1))) (pa - (nthS l (nm L m)).a) 1000 1000 (by omega) (by omega)
      simp only [Nat.reduceMul] at e1 e2
      have := frac_bounds (nthI hs (nm L m) * ((nthS l (nm L (m + 1))).a - pa) + nthI hs (nm L (m + 1)) * (pa - (nthS l (nm L m)).a)) ((nthS l (nm L (m + 1))).a - (nthS l (nm L m)).a) (by omega)
      omega

theorem rra_nil (W : World) (B : Nat) : RRa W B (.slice none 0 0) [] := ⟨none, 0, 0, 0, rfl, ⟨rfl, Nat.le_refl _⟩, fun h => absurd rfl h, fun j hj => absurd hj (by simp [ofR])⟩
theorem map_take_succ {α : Type} (f : Nat → α) (n k : Nat) (hk : k < n) : ((List.range n).map f).take k ++ [f k] = ((List.range n).map f).take (k + 1) := by
  have hk' : k < ((List.range n).map f).length := by simpa using hk
  rw [List.take_succ_eq_append_getElem hk']
  simp

set_option maxRecDepth 100000 in
set_option maxHeartbeats 4000000 in
theorem heightsP_any (l : List St) (vl : Value) (w : World) (hl : l.length ≤ 1000) (h : RSt w w.heap.size vl l) :
    Calls Try.prog 34 #[vl] w fun e w' => ∃ v, e = .returned (.tuple #[v, .int .i64 (heightsErrP l)]) ∧ RRa w' w'.heap.size v (heightsP l) ∧ Below w.heap.size w w' := by
  have hcall := fun w1 (hb : Below w.heap.size w w1) => checkPair_any l vl w1 hl ((h.below hb).more hb.size)
  by_cases hp : checkPair l = 0
  · rw [hp] at hcall
    have hn := checkPair_len l hp
    have hll := hullL_len l hn.1
    have hlt := hullL_lt l
    have hinc := hullL_inc l
    have hfst := hullL_fst l hn.1
    have hnb := fun w1 (hb : Below w.heap.size w w1) => newBlades_any l true vl w1 (by omega) hl ((h.below hb).more hb.size)
    have hpt := fun w1 vb k (hk : k < l.length) (hb : RB w1 vb l (ends l true)) => point_any l (ends l true) k vb w1 hl hk hb
    have hhu := fun w1 vb (hr : RB w1 (.pointer vb) l (ends l true)) => hull_any l (ends l true) vb w1 hn.2 hr (valid_a l hp) (ends_rng l _ hp) hn.1
    have hb1 : ∀ j, j < (hullL l).length → 0 ≤ (nthS l (nm (hullL l) j)).a ∧ (nthS l (nm (hullL l) j)).a ≤ 1000 ∧ -1000 ≤ nthI (ends l true) (nm (hullL l) j) ∧ nthI (ends l true) (nm (hullL l) j) ≤ 1000 := fun j hj => by
      have h1 := valid_a l hp _ (hlt j hj)
      have h2 := ends_rng l true hp _ (hlt j hj)
      omega
    have hin1 : ∀ j, j + 1 < (hullL l).length → (nthS l (nm (hullL l) j)).a < (nthS l (nm (hullL l) (j + 1))).a := fun j hj => valid_lt l hp _ _ (hinc j hj) (hlt _ hj)
    have hf1 : ∀ k, k < l.length → (nthS l (nm (hullL l) 0)).a ≤ (nthS l k).a := fun k hk => by
      rw [hfst]
      rcases Nat.eq_zero_or_pos k with rfl | h0
      · exact Int.le_refl _
      · exact Int.le_of_lt (valid_lt l hp 0 k h0 hk)
    have hhe := fun w1 base v k (hk : k < l.length) (hO : OwnP w1 base v l (ends l true) (hullL l)) => height_any l (ends l true) (hullL l) base v (nthS l k).a (nthS l k).lo (nthS l k).hi k (nthI (ends l true) k) w1 hO hll.1 (by omega) hb1 hin1 (hf1 k hk) (valid_a l hp k hk)
    have hbd := fun k (hk : k < l.length) => heightR_bounds l (ends l true) (hullL l) (nthS l k).a hb1 hin1 (hf1 k hk) (valid_a l hp k hk)
    have hva := valid_at l hp
    have hE : heightsErrP l = if (List.range l.length).any (badP l) then 22 else 0 := by unfold heightsErrP; rw [if_neg (by simpa using hp)]
    have HP := Lib.hid hcall; have HN := Lib.hid hnb; have HPT := Lib.hid hpt; have HHU := Lib.hid hhu; have HHE := Lib.hid hhe; have HBD := Lib.hid hbd; have HVA := Lib.hid hva; have HE := Lib.hid hE
    obtain ⟨A, cap, b, off, rfl, hA, hc⟩ := h.cells
    obtain ⟨rfl, hb⟩ := hA (by omega)
    have HC := Lib.hid hc
    clear hcall hp h hnb hpt hhu hhe hbd hva hE hll hlt hinc hfst hb1 hin1 hf1 hA hc
    go_enter Try.func34, Try.ntmps34
    go_wp2_with fail
    refine (HP.out _ (by (repeat (first | with_reducible assumption | with_reducible exact Below.refl _ _ | (with_reducible refine Below.setCell ?_ (by first | omega | (simp; omega) | (simp; done)) _) | (with_reducible refine Below.alloc ?_ (by first | omega | (simp; omega) | (simp; done)) _) | (with_reducible refine Below.drew ?_) | (with_reducible refine belowN ?_ _) | assumption | exact Below.refl _ _ | (refine Below.alloc ?_ (by first | omega | (simp; omega) | (simp; done)) _) | (refine Below.drew ?_) | (refine belowN ?_ _) | (refine Below.setCell ?_ (by first | omega | (simp; omega) | (simp; done)) _))))).mono ?_
    rintro e w1 ⟨rfl, hb1⟩
    have hB1 : Below w.heap.size w w1 := (Below.trans (a := w) (B := w.heap.size) (by (repeat (first | with_reducible assumption | with_reducible exact Below.refl _ _ | (with_reducible refine Below.setCell ?_ (by first | omega | (simp; omega) | (simp; done)) _) | (with_reducible refine Below.alloc ?_ (by first | omega | (simp; omega) | (simp; done)) _) | (with_reducible refine Below.drew ?_) | (with_reducible refine belowN ?_ _) | assumption | exact Below.refl _ _ | (refine Below.alloc ?_ (by first | omega | (simp; omega) | (simp; done)) _) | (refine Below.drew ?_) | (refine belowN ?_ _) | (refine Below.setCell ?_ (by first | omega | (simp; omega) | (simp; done)) _)))) (hb1.mono (by first | omega | (simp; omega) | (simp; done))))
    clear hb1
    go_wp2_with fail
    refine (HN.out w1 hB1).mono ?_
    rintro e w2 ⟨gh, rfl, hRh, hb2⟩
    have hB2 : Below w.heap.size w w2 := hB1.trans (hb2.mono hB1.size)
    clear hb2
    go_wp2_with fail
    refine (HHU.out w2 _ hRh).mono ?_
    rintro e w3 ⟨vh, rfl, hOh, hb3⟩
    have hRh3 := hRh.below hb3
    have hB3 : Below w.heap.size w w3 := hB2.trans (hb3.mono hB2.size)
    have hB3s := hB3.size
    obtain ⟨b2, hb2e⟩ : ∃ b2, w2.heap.size = b2 := ⟨_, rfl⟩
    rw [hb2e] at hOh
    clear hb3 hRh hb2e
    have HRH := Lib.hid (fun W (hb : Below w3.heap.size w3 W) => hRh3.below hb)
    have HOH := Lib.hid (fun W (hb : Below w3.heap.size w3 W) => hOh.below hb)
    clear hRh3 hOh
    go_wp2_with fail
    go_loopw [7, 22] (fun acc iv wr => ∃ i : Nat, i ≤ l.length ∧ iv = .int .i64 i ∧ OwnR wr w3.heap.size acc (((List.range l.length).map (hP l)).take i) ∧ Below w3.heap.size w3 wr ∧ ∀ j, j < i → badP l j = false) (fun _ i _ => l.length - (intOf i).toNat)
    case atStart => exact ⟨0, Nat.zero_le _, rfl, by simpa using OwnR.nil _ _, Below.refl _ _, fun j hj => by omega⟩
    case round =>
      obtain ⟨i, hi, rfl, hown, hbw, hall⟩ := hrel
      have HALL := Lib.hid hall; clear hall
      have hsz := hbw.size
      by_cases hil : i < l.length
      · have hcell := HC.out i hil
        have hbwW : Below w.heap.size w wr := hB3.trans (hbw.mono hB3s)
        rw [← hbwW.cell (by exact hb), ← hbwW.cell (by exact hb), ← hbwW.cell (by exact hb)] at hcell
        obtain ⟨c0, c1, c2⟩ := hcell
        have hbl : b < wr.heap.size := by omega
        have q1 := HVA.out i hil
        have q2 := HBD.out i hil
        have hmt := map_take_succ (hP l) l.length i hil
        have hbad : badP l i = decide ((hP l i).num < (nthS l i).lo * (hP l i).den) := rfl
        have hhe1 := fun w1 base v => HHE.out w1 base v i hil
        obtain ⟨R, hR⟩ : ∃ R, hP l i = R := ⟨_, rfl⟩
        have hR' : heightR l (ends l true) (hullL l) (nthS l i).a = R := hR
        rw [hR'] at q2 hhe1
        rw [hR] at hmt hbad
        have e1 := mul_bd (nthS l i).lo R.den 1000 1000 (by omega) (by omega)
        simp only [Nat.reduceMul] at e1
        have HHE1 := Lib.hid hhe1; have HMT := Lib.hid hmt; have HBAD := Lib.hid hbad; have HO := Lib.hid hown
        clear hhe1 hmt hbad hR hR' hown
        go_wp2_with fail
        have hbx : Below w3.heap.size w3 (wr.alloc (.cells #[.int .i64 (nthS l i).a, .int .i64 (nthS l i).lo, .int .i64 (nthS l i).hi] 62)) := by (repeat (first | with_reducible assumption | with_reducible exact Below.refl _ _ | (with_reducible refine Below.setCell ?_ (by first | omega | (simp; omega) | (simp; done)) _) | (with_reducible refine Below.alloc ?_ (by first | omega | (simp; omega) | (simp; done)) _) | (with_reducible refine Below.drew ?_) | (with_reducible refine belowN ?_ _) | assumption | exact Below.refl _ _ | (refine Below.alloc ?_ (by first | omega | (simp; omega) | (simp; done)) _) | (refine Below.drew ?_) | (refine belowN ?_ _) | (refine Below.setCell ?_ (by first | omega | (simp; omega) | (simp; done)) _)))
        have pS : BK (wr.alloc (.cells #[.int .i64 (nthS l i).a, .int .i64 (nthS l i).lo, .int .i64 (nthS l i).hi] 62)) wr.heap.size #[.int .i64 (nthS l i).a, .int .i64 (nthS l i).lo, .int .i64 (nthS l i).hi] 62 := BK.new _ _ _
        have hOx := HO.out.below (W' := wr.alloc (.cells #[.int .i64 (nthS l i).a, .int .i64 (nthS l i).lo, .int .i64 (nthS l i).hi] 62)) (by (repeat (first | with_reducible assumption | with_reducible exact Below.refl _ _ | (with_reducible refine Below.setCell ?_ (by first | omega | (simp; omega) | (simp; done)) _) | (with_reducible refine Below.alloc ?_ (by first | omega | (simp; omega) | (simp; done)) _) | (with_reducible refine Below.drew ?_) | (with_reducible refine belowN ?_ _) | assumption | exact Below.refl _ _ | (refine Below.alloc ?_ (by first | omega | (simp; omega) | (simp; done)) _) | (refine Below.drew ?_) | (refine belowN ?_ _) | (refine Below.setCell ?_ (by first | omega | (simp; omega) | (simp; done)) _))))
        refine (HPT.out _ _ i hil (HRH.out _ hbx)).mono ?_
        rintro e w4 ⟨rfl, hb4⟩
        have hbw4 := hbx.trans (hb4.mono hbx.size)
        have pS4 := pS.below hb4 pS.lt
        have hO4 := hOx.below hb4
        clear hb4 pS hOx hbx HO
        unfold ptV
        go_wp2_with fail
        refine (HHE1.out w4 _ _ (HOH.out w4 hbw4)).mono ?_
        rintro e w5 ⟨rfl, hb5⟩
        have hbw5 := hbw4.trans (hb5.mono hbw4.size)
        have pS5 := pS4.below hb5 pS4.lt
        have hO5 := hO4.below hb5
        have hsz5 := hbw5.size
        have hlt5 := pS5.lt
        clear hb5 pS4 hO4 hbw4
        have y0 := pS5.cell 0
        have y1 := pS5.cell 1
        simp at y0 y1
        by_cases hgt : R.num < (nthS l i).lo * R.den
        · have d1 := decide_eq_true hgt
          have hV1 : heightsErrP l = 22 := by
            rw [HE.out, if_pos]
            exact List.any_eq_true.2 ⟨i, List.mem_range.2 hil, by rw [HBAD.out]; exact d1⟩
          have hV2 : heightsP l = [] := by unfold heightsP; rw [if_neg (by rw [hV1]; decide)]
          have HV1 := Lib.hid hV1; have HV2 := Lib.hid hV2
          have hB5 : Below w.heap.size w w5 := hB3.trans (hbw5.mono hB3s)
          clear hV1 hV2
          go_wp2_with fail
          exact bodyPost_ret (v := .tuple #[.slice none 0 0, .int .i64 22]) (by simp [results, Try.results34, go_sem]) rfl ⟨_, by rw [HV1.out], by rw [HV2.out]; exact rra_nil _ _, by (repeat (first | with_reducible assumption | with_reducible exact Below.refl _ _ | (with_reducible refine Below.setCell ?_ (by first | omega | (simp; omega) | (simp; done)) _) | (with_reducible refine Below.alloc ?_ (by first | omega | (simp; omega) | (simp; done)) _) | (with_reducible refine Below.drew ?_) | (with_reducible refine belowN ?_ _) | assumption | exact Below.refl _ _ | (refine Below.alloc ?_ (by first | omega | (simp; omega) | (simp; done)) _) | (refine Below.drew ?_) | (refine belowN ?_ _) | (refine Below.setCell ?_ (by first | omega | (simp; omega) | (simp; done)) _)))⟩
        · have d1 := decide_eq_false hgt
          have hbf : badP l i = false := by rw [HBAD.out]; exact d1
          have HBF := Lib.hid hbf; clear hbf
          obtain ⟨v', w6, hrun, hown', hb', hs', _⟩ := app_ra (w1 := w5.alloc (.cells #[.int .i64 R.num, .int .i64 R.den] 25)) (hO5.below (by (repeat (first | with_reducible assumption | with_reducible exact Below.refl _ _ | (with_reducible refine Below.setCell ?_ (by first | omega | (simp; omega) | (simp; done)) _) | (with_reducible refine Below.alloc ?_ (by first | omega | (simp; omega) | (simp; done)) _) | (with_reducible refine Below.drew ?_) | (with_reducible refine belowN ?_ _) | assumption | exact Below.refl _ _ | (refine Below.alloc ?_ (by first | omega | (simp; omega) | (simp; done)) _) | (refine Below.drew ?_) | (refine belowN ?_ _) | (refine Below.setCell ?_ (by first | omega | (simp; omega) | (simp; done)) _))))) R (by simp; omega) (by simp; omega) (w0 := w3) (by (repeat (first | with_reducible assumption | with_reducible exact Below.refl _ _ | (with_reducible refine Below.setCell ?_ (by first | omega | (simp; omega) | (simp; done)) _) | (with_reducible refine Below.alloc ?_ (by first | omega | (simp; omega) | (simp; done)) _) | (with_reducible refine Below.drew ?_) | (with_reducible refine belowN ?_ _) | assumption | exact Below.refl _ _ | (refine Below.alloc ?_ (by first | omega | (simp; omega) | (simp; done)) _) | (refine Below.drew ?_) | (refine belowN ?_ _) | (refine Below.setCell ?_ (by first | omega | (simp; omega) | (simp; done)) _)))) (w5.heap.size + 1) (by simp)
          rw [HMT.out] at hown'
          have HO := Lib.hid hown'; have HRUN := Lib.hid hrun; clear hown' hrun hO5
          go_wp2_with (at_builtin; refine wpList_append_run rfl (.tmp 41) (.tmp 43) 26 _ rfl HRUN.out ?_)
          go_roundw
          case rel => exact ⟨i + 1, by omega, by go_num, HO.out, by (repeat (first | with_reducible assumption | with_reducible exact Below.refl _ _ | (with_reducible refine Below.setCell ?_ (by first | omega | (simp; omega) | (simp; done)) _) | (with_reducible refine Below.alloc ?_ (by first | omega | (simp; omega) | (simp; done)) _) | (with_reducible refine Below.drew ?_) | (with_reducible refine belowN ?_ _) | assumption | exact Below.refl _ _ | (refine Below.alloc ?_ (by first | omega | (simp; omega) | (simp; done)) _) | (refine Below.drew ?_) | (refine belowN ?_ _) | (refine Below.setCell ?_ (by first | omega | (simp; omega) | (simp; done)) _))), fun j hj => by
            rcases Nat.lt_succ_iff_lt_or_eq.1 hj with h1 | rfl
            · exact HALL.out j h1
            · exact HBF.out⟩
          case measure => simp [intOf]; omega
      · have hie : i = l.length := by omega
        have hV1 : heightsErrP l = 0 := by
          rw [HE.out, if_neg]
          intro hx
          obtain ⟨j, hj, hb⟩ := List.any_eq_true.1 hx
          rw [HALL.out j (by rw [hie]; exact List.mem_range.1 hj)] at hb; cases hb
        have hV2 : heightsP l = (List.range l.length).map (hP l) := by unfold heightsP; rw [if_pos hV1]
        have HV1 := Lib.hid hV1; have HV2 := Lib.hid hV2
        have HIE := Lib.hid hie
        have HO := Lib.hid hown
        clear hie hown hV1 hV2
        go_wp2_with fail
        refine bodyPost_ret (v := .tuple #[u7, .int .i64 0]) (by simp [results, Try.results34, go_sem]) rfl ⟨_, by rw [HV1.out], ?_, hB3.trans (hbw.mono hB3s)⟩
        rw [HV2.out]
        have := HO.out.ri
        rw [HIE.out, List.take_of_length_le (by simp)] at this
        exact this
  · have hV1 : heightsErrP l = checkPair l := by unfold heightsErrP; rw [if_pos hp]
    have hV2 : heightsP l = [] := by unfold heightsP; rw [if_neg (by rw [hV1]; exact hp)]
    rw [hV1, hV2]
    obtain ⟨e0, he0⟩ : ∃ e0, checkPair l = e0 := ⟨_, rfl⟩
    rw [he0] at hcall hp ⊢
    have hpb : (e0 != 0) = true := by simpa using hp
    have HP := Lib.hid hcall
    clear hcall he0 hp h hV1 hV2
    go_enter Try.func34, Try.ntmps34
    go_wp2_with fail
    refine (HP.out _ (by (repeat (first | with_reducible assumption | with_reducible exact Below.refl _ _ | (with_reducible refine Below.setCell ?_ (by first | omega | (simp; omega) | (simp; done)) _) | (with_reducible refine Below.alloc ?_ (by first | omega | (simp; omega) | (simp; done)) _) | (with_reducible refine Below.drew ?_) | (with_reducible refine belowN ?_ _) | assumption | exact Below.refl _ _ | (refine Below.alloc ?_ (by first | omega | (simp; omega) | (simp; done)) _) | (refine Below.drew ?_) | (refine belowN ?_ _) | (refine Below.setCell ?_ (by first | omega | (simp; omega) | (simp; done)) _))))).mono ?_
    rintro e w1 ⟨rfl, hb1⟩
    have hB1 : Below w.heap.size w w1 := (Below.trans (a := w) (B := w.heap.size) (by (repeat (first | with_reducible assumption | with_reducible exact Below.refl _ _ | (with_reducible refine Below.setCell ?_ (by first | omega | (simp; omega) | (simp; done)) _) | (with_reducible refine Below.alloc ?_ (by first | omega | (simp; omega) | (simp; done)) _) | (with_reducible refine Below.drew ?_) | (with_reducible refine belowN ?_ _) | assumption | exact Below.refl _ _ | (refine Below.alloc ?_ (by first | omega | (simp; omega) | (simp; done)) _) | (refine Below.drew ?_) | (refine belowN ?_ _) | (refine Below.setCell ?_ (by first | omega | (simp; omega) | (simp; done)) _)))) (hb1.mono (by first | omega | (simp; omega) | (simp; done))))
    clear hb1
    go_wp2_with fail
    exact bodyPost_ret (v := .tuple #[.slice none 0 0, .int .i64 e0]) (by simp [results, Try.results34, go_sem]) rfl ⟨_, rfl, rra_nil _ _, hB1⟩
end Go.Proofs.Ytbjmkmambmeifaa

namespace Go.Proofs.Ytbjmkmambmeifaa
open Go.RowKit
section
variable {P : Program} {ops : Array Oper} {Q : Exit → Act → World → Prop} {md : Region.Mode} {S : World → Prop} {E : List Nat}
theorem any_run3 {i j k : Nat} {o o' o'' : Oper} {fuel : Nat} {listed : Array Bool} {a : Act} {w : World} (hr : Region.ready md ops listed = [i, j, k]) (hi : ops[i]? = some o) (hj : ops[j]? = some o') (hk : ops[k]? = some o'')
    (hg : Region.wanted o (yielded ops a.tmps) = true) (hg' : Region.wanted o' (yielded ops a.tmps) = true) (hg'' : Region.wanted o'' (yielded ops a.tmps) = true)
    (h : ∀ K : Act → World → Prop, (∀ a' w', (waitsAll md ops E i = false → S w') → wpAnyF P md ops Q S E fuel (listed.setIfInBounds i true) a' w' → K a' w') → o.wp P a w K Q)
    (h' : ∀ K : Act → World → Prop, (∀ a' w', (waitsAll md ops E j = false → S w') → wpAnyF P md ops Q S E fuel (listed.setIfInBounds j true) a' w' → K a' w') → o'.wp P a w K Q)
    (h'' : ∀ K : Act → World → Prop, (∀ a' w', (waitsAll md ops E k = false → S w') → wpAnyF P md ops Q S E fuel (listed.setIfInBounds k true) a' w' → K a' w') → o''.wp P a w K Q) : wpAnyF P md ops Q S E (fuel + 1) listed a w := by
  refine ⟨fun he => (by rw [hr] at he; cases he), fun m hm => ?_⟩
  rw [hr] at hm
  have : m = i ∨ m = j ∨ m = k := by simpa using hm
  rcases this with rfl | rfl | rfl
  · unfold wpOp
    simp only [hi, hg]
    exact .inl (h _ fun a' w' h1 h2 => ⟨h1, h2⟩)
  · unfold wpOp
    simp only [hj, hg']
    exact .inl (h' _ fun a' w' h1 h2 => ⟨h1, h2⟩)
  · unfold wpOp
    simp only [hk, hg'']
    exact .inl (h'' _ fun a' w' h1 h2 => ⟨h1, h2⟩)
end
end Go.Proofs.Ytbjmkmambmeifaa

namespace Go.Proofs.Ytbjmkmambmeifaa
open Go.RowKit

def isWedgeB (l : List St) (i k m : Nat) : Bool := decide ((nthS l i).hi * ((nthS l m).a - (nthS l k).a) + (nthS l m).hi * ((nthS l k).a - (nthS l i).a) < (nthS l k).lo * ((nthS l m).a - (nthS l i).a))

set_option maxRecDepth 100000 in
set_option maxHeartbeats 4000000 in
theorem isWedge_any (l : List St) (i k m : Nat) (vl : Value) (w : World) (hv : checkPair l = 0) (h : RSt w w.heap.size vl l) (hi : i < l.length) (hk : k < l.length) (hm : m < l.length) :
    Calls Try.prog 38 #[vl, .int .i64 i, .int .i64 k, .int .i64 m] w fun e w' => e = .returned (.bool (isWedgeB l i k m)) ∧ Below w.heap.size w w' := by
  have q1 := valid_at l hv i hi
  have q2 := valid_at l hv k hk
  have q3 := valid_at l hv m hm
  have hv1 := checkPair_len l hv
  obtain ⟨A, cap, b, off, rfl, hA, hc⟩ := h.cells
  obtain ⟨rfl, hb⟩ := hA (by omega)
  obtain ⟨c0, c1, c2⟩ := hc i hi
  obtain ⟨c3, c4, c5⟩ := hc k hk
  obtain ⟨c6, c7, c8⟩ := hc m hm
  clear hA hc h hv
  go_enter Try.func38, Try.ntmps38
  go_upto_region 1 with fail
  go_cut [9, 10, 11] (fun p q r wx => ∃ g0 g1 g2, p = .pointer (some ⟨g0, 0, none⟩) ∧ q = .pointer (some ⟨g1, 0, none⟩) ∧ r = .pointer (some ⟨g2, 0, none⟩) ∧ BK wx g0 #[.int .i64 (nthS l i).a, .int .i64 (nthS l i).lo, .int .i64 (nthS l i).hi] 62 ∧ BK wx g1 #[.int .i64 (nthS l k).a, .int .i64 (nthS l k).lo, .int .i64 (nthS l k).hi] 62 ∧ BK wx g2 #[.int .i64 (nthS l m).a, .int .i64 (nthS l m).lo, .int .i64 (nthS l m).hi] 62 ∧ Below w.heap.size w wx)
  case first =>
    refine plain_read 12 6 mixed (by kernel_rfl) rfl ?_
    simp only [List.take_succ_cons, List.take_zero]
    (repeat (first | (refine ⟨undef, .inr ⟨by rfl, rfl⟩, ?_⟩; simp only [Act.put, List.setIfInBounds_toArray, List.set_cons_succ, List.set_cons_zero]) | (refine ⟨?_, .inl ⟨by rfl, ?_⟩, ?_⟩; rotate_left; (intro X hX; obtain ⟨r1, r2⟩ := Below.rules hX; clear hX; go_simp; rfl); simp only [Act.put, List.setIfInBounds_toArray, List.set_cons_succ, List.set_cons_zero])))
    refine any_run3 (i := 12) (j := 13) (k := 14) (by kernel_rfl) (by rfl) (by rfl) (by rfl) (by rfl) (by rfl) (by rfl) ?_ ?_ ?_
    · intro K hK
      go_wp2_with fail
      refine hK _ _ (fun _ => by (repeat (first | with_reducible assumption | with_reducible exact Below.refl _ _ | (with_reducible refine Below.setCell ?_ (by first | omega | (simp; omega) | (simp; done)) _) | (with_reducible refine Below.alloc ?_ (by first | omega | (simp; omega) | (simp; done)) _) | (with_reducible refine Below.drew ?_) | (with_reducible refine belowN ?_ _) | assumption | exact Below.refl _ _ | (refine Below.alloc ?_ (by first | omega | (simp; omega) | (simp; done)) _) | (refine Below.drew ?_) | (refine belowN ?_ _) | (refine Below.setCell ?_ (by first | omega | (simp; omega) | (simp; done)) _)))) ?_
      clear hK K
      refine any_run2 (i := 13) (j := 14) (by kernel_rfl) (by rfl) (by rfl) (by rfl) (by rfl) ?_ ?_
      · intro K hK
        go_wp2_with fail
        refine hK _ _ (fun _ => by (repeat (first | with_reducible assumption | with_reducible exact Below.refl _ _ | (with_reducible refine Below.setCell ?_ (by first | omega | (simp; omega) | (simp; done)) _) | (with_reducible refine Below.alloc ?_ (by first | omega | (simp; omega) | (simp; done)) _) | (with_reducible refine Below.drew ?_) | (with_reducible refine belowN ?_ _) | assumption | exact Below.refl _ _ | (refine Below.alloc ?_ (by first | omega | (simp; omega) | (simp; done)) _) | (refine Below.drew ?_) | (refine belowN ?_ _) | (refine Below.setCell ?_ (by first | omega | (simp; omega) | (simp; done)) _)))) ?_
        clear hK K
        refine any_run1 (i := 14) (by kernel_rfl) (by rfl) (by rfl) ?_
        intro K hK
        go_wp2_with fail
        refine hK _ _ (fun _ => by (repeat (first | with_reducible assumption | with_reducible exact Below.refl _ _ | (with_reducible refine Below.setCell ?_ (by first | omega | (simp; omega) | (simp; done)) _) | (with_reducible refine Below.alloc ?_ (by first | omega | (simp; omega) | (simp; done)) _) | (with_reducible refine Below.drew ?_) | (with_reducible refine belowN ?_ _) | assumption | exact Below.refl _ _ | (refine Below.alloc ?_ (by first | omega | (simp; omega) | (simp; done)) _) | (refine Below.drew ?_) | (refine belowN ?_ _) | (refine Below.setCell ?_ (by first | omega | (simp; omega) | (simp; done)) _)))) ?_
        clear hK K
        refine any_run1 (i := 15) (by kernel_rfl) (by rfl) (by rfl) ?_
        intro K hK
        go_wp2_with fail
        refine hK _ _ (fun _ => by (repeat (first | with_reducible assumption | with_reducible exact Below.refl _ _ | (with_reducible refine Below.setCell ?_ (by first | omega | (simp; omega) | (simp; done)) _) | (with_reducible refine Below.alloc ?_ (by first | omega | (simp; omega) | (simp; done)) _) | (with_reducible refine Below.drew ?_) | (with_reducible refine belowN ?_ _) | assumption | exact Below.refl _ _ | (refine Below.alloc ?_ (by first | omega | (simp; omega) | (simp; done)) _) | (refine Below.drew ?_) | (refine belowN ?_ _) | (refine Below.setCell ?_ (by first | omega | (simp; omega) | (simp; done)) _)))) ?_
        clear hK K
        refine any_run1 (i := 16) (by kernel_rfl) (by rfl) (by rfl) ?_
        intro K hK
        go_wp2_with fail
        refine hK _ _ (fun _ => by (repeat (first | with_reducible assumption | with_reducible exact Below.refl _ _ | (with_reducible refine Below.setCell ?_ (by first | omega | (simp; omega) | (simp; done)) _) | (with_reducible refine Below.alloc ?_ (by first | omega | (simp; omega) | (simp; done)) _) | (with_reducible refine Below.drew ?_) | (with_reducible refine belowN ?_ _) | assumption | exact Below.refl _ _ | (refine Below.alloc ?_ (by first | omega | (simp; omega) | (simp; done)) _) | (refine Below.drew ?_) | (refine belowN ?_ _) | (refine Below.setCell ?_ (by first | omega | (simp; omega) | (simp; done)) _)))) ?_
        clear hK K
        refine any_run1 (i := 17) (by kernel_rfl) (by rfl) (by rfl) ?_
        intro K hK
        go_wp2_with fail
        refine hK _ _ (fun hx => (Bool.false_ne_true (hx.symm.trans (by kernel_rfl))).elim) ?_
        clear hK K
        refine any_done (by kernel_rfl) (NoPanic.normal ?_)
        go_wp2_with fail
        go_meet
        exact ⟨_, _, _, rfl, rfl, rfl, by (repeat (first | assumption | (refine BK.new' _ _ _ _ ?_; simp; done) | refine BK.alloc ?_ _)), by (repeat (first | assumption | (refine BK.new' _ _ _ _ ?_; simp; done) | refine BK.alloc ?_ _)), by (repeat (first | assumption | (refine BK.new' _ _ _ _ ?_; simp; done) | refine BK.alloc ?_ _)), by (repeat (first | with_reducible assumption | with_reducible exact Below.refl _ _ | (with_reducible refine Below.setCell ?_ (by first | omega | (simp; omega) | (simp; done)) _) | (with_reducible refine Below.alloc ?_ (by first | omega | (simp; omega) | (simp; done)) _) | (with_reducible refine Below.drew ?_) | (with_reducible refine belowN ?_ _) | assumption | exact Below.refl _ _ | (refine Below.alloc ?_ (by first | omega | (simp; omega) | (simp; done)) _) | (refine Below.drew ?_) | (refine belowN ?_ _) | (refine Below.setCell ?_ (by first | omega | (simp; omega) | (simp; done)) _)))⟩
      · intro K hK
        go_wp2_with fail
        refine hK _ _ (fun _ => by (repeat (first | with_reducible assumption | with_reducible exact Below.refl _ _ | (with_reducible refine Below.setCell ?_ (by first | omega | (simp; omega) | (simp; done)) _) | (with_reducible refine Below.alloc ?_ (by first | omega | (simp; omega) | (simp; done)) _) | (with_reducible refine Below.drew ?_) | (with_reducible refine belowN ?_ _) | assumption | exact Below.refl _ _ | (refine Below.alloc ?_ (by first | omega | (simp; omega) | (simp; done)) _) | (refine Below.drew ?_) | (refine belowN ?_ _) | (refine Below.setCell ?_ (by first | omega | (simp; omega) | (simp; done)) _)))) ?_
        clear hK K
        refine any_run1 (i := 13) (by kernel_rfl) (by rfl) (by rfl) ?_
        intro K hK
        go_wp2_with fail
        refine hK _ _ (fun _ => by (repeat (first | with_reducible assumption | with_reducible exact Below.refl _ _ | (with_reducible refine Below.setCell ?_ (by first | omega | (simp; omega) | (simp; done)) _) | (with_reducible refine Below.alloc ?_ (by first | omega | (simp; omega) | (simp; done)) _) | (with_reducible refine Below.drew ?_) | (with_reducible refine belowN ?_ _) | assumption | exact Below.refl _ _ | (refine Below.alloc ?_ (by first | omega | (simp; omega) | (simp; done)) _) | (refine Below.drew ?_) | (refine belowN ?_ _) | (refine Below.setCell ?_ (by first | omega | (simp; omega) | (simp; done)) _)))) ?_
        clear hK K
        refine any_run1 (i := 15) (by kernel_rfl) (by rfl) (by rfl) ?_
        intro K hK
        go_wp2_with fail
        refine hK _ _ (fun _ => by (repeat (first | with_reducible assumption | with_reducible exact Below.refl _ _ | (with_reducible refine Below.setCell ?_ (by first | omega | (simp; omega) | (simp; done)) _) | (with_reducible refine Below.alloc ?_ (by first | omega | (simp; omega) | (simp; done)) _) | (with_reducible refine Below.drew ?_) | (with_reducible refine belowN ?_ _) | assumption | exact Below.refl _ _ | (refine Below.alloc ?_ (by first | omega | (simp; omega) | (simp; done)) _) | (refine Below.drew ?_) | (refine belowN ?_ _) | (refine Below.setCell ?_ (by first | omega | (simp; omega) | (simp; done)) _)))) ?_
        clear hK K
        refine any_run1 (i := 16) (by kernel_rfl) (by rfl) (by rfl) ?_
        intro K hK
        go_wp2_with fail
        refine hK _ _ (fun _ => by (repeat (first | with_reducible assumption | with_reducible exact Below.refl _ _ | (with_reducible refine Below.setCell ?_ (by first | omega | (simp; omega) | (simp; done)) _) | (with_reducible refine Below.alloc ?_ (by first | omega | (simp; omega) | (simp; done)) _) | (with_reducible refine Below.drew ?_) | (with_reducible refine belowN ?_ _) | assumption | exact Below.refl _ _ | (refine Below.alloc ?_ (by first | omega | (simp; omega) | (simp; done)) _) | (refine Below.drew ?_) | (refine belowN ?_ _) | (refine Below.setCell ?_ (by first | omega | (simp; omega) | (simp; done)) _)))) ?_
        clear hK K
        refine any_run1 (i := 17) (by kernel_rfl) (by rfl) (by rfl) ?_
        intro K hK
        go_wp2_with fail
        refine hK _ _ (fun hx => (Bool.false_ne_true (hx.symm.trans (by kernel_rfl))).elim) ?_
        clear hK K
        refine any_done (by kernel_rfl) (NoPanic.normal ?_)
        go_wp2_with fail
        go_meet
        exact ⟨_, _, _, rfl, rfl, rfl, by (repeat (first | assumption | (refine BK.new' _ _ _ _ ?_; simp; done) | refine BK.alloc ?_ _)), by (repeat (first | assumption | (refine BK.new' _ _ _ _ ?_; simp; done) | refine BK.alloc ?_ _)), by (repeat (first | assumption | (refine BK.new' _ _ _ _ ?_; simp; done) | refine BK.alloc ?_ _)), by (repeat (first | with_reducible assumption | with_reducible exact Below.refl _ _ | (with_reducible refine Below.setCell ?_ (by first | omega | (simp; omega) | (simp; done)) _) | (with_reducible refine Below.alloc ?_ (by first | omega | (simp; omega) | (simp; done)) _) | (with_reducible refine Below.drew ?_) | (with_reducible refine belowN ?_ _) | assumption | exact Below.refl _ _ | (refine Below.alloc ?_ (by first | omega | (simp; omega) | (simp; done)) _) | (refine Below.drew ?_) | (refine belowN ?_ _) | (refine Below.setCell ?_ (by first | omega | (simp; omega) | (simp; done)) _)))⟩
    · intro K hK
      go_wp2_with fail
      refine hK _ _ (fun _ => by (repeat (first | with_reducible assumption | with_reducible exact Below.refl _ _ | (with_reducible refine Below.setCell ?_ (by first | omega | (simp; omega) | (simp; done)) _) | (with_reducible refine Below.alloc ?_ (by first | omega | (simp; omega) | (simp; done)) _) | (with_reducible refine Below.drew ?_) | (with_reducible refine belowN ?_ _) | assumption | exact Below.refl _ _ | (refine Below.alloc ?_ (by first | omega | (simp; omega) | (simp; done)) _) | (refine Below.drew ?_) | (refine belowN ?_ _) | (refine Below.setCell ?_ (by first | omega | (simp; omega) | (simp; done)) _)))) ?_
      clear hK K
      refine any_run2 (i := 12) (j := 14) (by kernel_rfl) (by rfl) (by rfl) (by rfl) (by rfl) ?_ ?_
      · intro K hK
        go_wp2_with fail
        refine hK _ _ (fun _ => by (repeat (first | with_reducible assumption | with_reducible exact Below.refl _ _ | (with_reducible refine Below.setCell ?_ (by first | omega | (simp; omega) | (simp; done)) _) | (with_reducible refine Below.alloc ?_ (by first | omega | (simp; omega) | (simp; done)) _) | (with_reducible refine Below.drew ?_) | (with_reducible refine belowN ?_ _) | assumption | exact Below.refl _ _ | (refine Below.alloc ?_ (by first | omega | (simp; omega) | (simp; done)) _) | (refine Below.drew ?_) | (refine belowN ?_ _) | (refine Below.setCell ?_ (by first | omega | (simp; omega) | (simp; done)) _)))) ?_
        clear hK K
        refine any_run1 (i := 14) (by kernel_rfl) (by rfl) (by rfl) ?_
        intro K hK
        go_wp2_with fail
        refine hK _ _ (fun _ => by (repeat (first | with_reducible assumption | with_reducible exact Below.refl _ _ | (with_reducible refine Below.setCell ?_ (by first | omega | (simp; omega) | (simp; done)) _) | (with_reducible refine Below.alloc ?_ (by first | omega | (simp; omega) | (simp; done)) _) | (with_reducible refine Below.drew ?_) | (with_reducible refine belowN ?_ _) | assumption | exact Below.refl _ _ | (refine Below.alloc ?_ (by first | omega | (simp; omega) | (simp; done)) _) | (refine Below.drew ?_) | (refine belowN ?_ _) | (refine Below.setCell ?_ (by first | omega | (simp; omega) | (simp; done)) _)))) ?_
        clear hK K
        refine any_run1 (i := 15) (by kernel_rfl) (by rfl) (by rfl) ?_
        intro K hK
        go_wp2_with fail
        refine hK _ _ (fun _ => by (repeat (first | with_reducible assumption | with_reducible exact Below.refl _ _ | (with_reducible refine Below.setCell ?_ (by first | omega | (simp; omega) | (simp; done)) _) | (with_reducible refine Below.alloc ?_ (by first | omega | (simp; omega) | (simp; done)) _) | (with_reducible refine Below.drew ?_) | (with_reducible refine belowN ?_ _) | assumption | exact Below.refl _ _ | (refine Below.alloc ?_ (by first | omega | (simp; omega) | (simp; done)) _) | (refine Below.drew ?_) | (refine belowN ?_ _) | (refine Below.setCell ?_ (by first | omega | (simp; omega) | (simp; done)) _)))) ?_
        clear hK K
        refine any_run1 (i := 16) (by kernel_rfl) (by rfl) (by rfl) ?_
        intro K hK
        go_wp2_with fail
        refine hK _ _ (fun _ => by (repeat (first | with_reducible assumption | with_reducible exact Below.refl _ _ | (with_reducible refine Below.setCell ?_ (by first | omega | (simp; omega) | (simp; done)) _) | (with_reducible refine Below.alloc ?_ (by first | omega | (simp; omega) | (simp; done)) _) | (with_reducible refine Below.drew ?_) | (with_reducible refine belowN ?_ _) | assumption | exact Below.refl _ _ | (refine Below.alloc ?_ (by first | omega | (simp; omega) | (simp; done)) _) | (refine Below.drew ?_) | (refine belowN ?_ _) | (refine Below.setCell ?_ (by first | omega | (simp; omega) | (simp; done)) _)))) ?_
        clear hK K
        refine any_run1 (i := 17) (by kernel_rfl) (by rfl) (by rfl) ?_
        intro K hK
        go_wp2_with fail
        refine hK _ _ (fun hx => (Bool.false_ne_true (hx.symm.trans (by kernel_rfl))).elim) ?_
        clear hK K
        refine any_done (by kernel_rfl) (NoPanic.normal ?_)
        go_wp2_with fail
        go_meet
        exact ⟨_, _, _, rfl, rfl, rfl, by (repeat (first | assumption | (refine BK.new' _ _ _ _ ?_; simp; done) | refine BK.alloc ?_ _)), by (repeat (first | assumption | (refine BK.new' _ _ _ _ ?_; simp; done) | refine BK.alloc ?_ _)), by (repeat (first | assumption | (refine BK.new' _ _ _ _ ?_; simp; done) | refine BK.alloc ?_ _)), by (repeat (first | with_reducible assumption | with_reducible exact Below.refl _ _ | (with_reducible refine Below.setCell ?_ (by first | omega | (simp; omega) | (simp; done)) _) | (with_reducible refine Below.alloc ?_ (by first | omega | (simp; omega) | (simp; done)) _) | (with_reducible refine Below.drew ?_) | (with_reducible refine belowN ?_ _) | assumption | exact Below.refl _ _ | (refine Below.alloc ?_ (by first | omega | (simp; omega) | (simp; done)) _) | (refine Below.drew ?_) | (refine belowN ?_ _) | (refine Below.setCell ?_ (by first | omega | (simp; omega) | (simp; done)) _)))⟩
      · intro K hK
        go_wp2_with fail
        refine hK _ _ (fun _ => by (repeat (first | with_reducible assumption | with_reducible exact Below.refl _ _ | (with_reducible refine Below.setCell ?_ (by first | omega | (simp; omega) | (simp; done)) _) | (with_reducible refine Below.alloc ?_ (by first | omega | (simp; omega) | (simp; done)) _) | (with_reducible refine Below.drew ?_) | (with_reducible refine belowN ?_ _) | assumption | exact Below.refl _ _ | (refine Below.alloc ?_ (by first | omega | (simp; omega) | (simp; done)) _) | (refine Below.drew ?_) | (refine belowN ?_ _) | (refine Below.setCell ?_ (by first | omega | (simp; omega) | (simp; done)) _)))) ?_
        clear hK K
        refine any_run1 (i := 12) (by kernel_rfl) (by rfl) (by rfl) ?_
        intro K hK
        go_wp2_with fail
        refine hK _ _ (fun _ => by (repeat (first | with_reducible assumption | with_reducible exact Below.refl _ _ | (with_reducible refine Below.setCell ?_ (by first | omega | (simp; omega) | (simp; done)) _) | (with_reducible refine Below.alloc ?_ (by first | omega | (simp; omega) | (simp; done)) _) | (with_reducible refine Below.drew ?_) | (with_reducible refine belowN ?_ _) | assumption | exact Below.refl _ _ | (refine Below.alloc ?_ (by first | omega | (simp; omega) | (simp; done)) _) | (refine Below.drew ?_) | (refine belowN ?_ _) | (refine Below.setCell ?_ (by first | omega | (simp; omega) | (simp; done)) _)))) ?_
        clear hK K
        refine any_run1 (i := 15) (by kernel_rfl) (by rfl) (by rfl) ?_
        intro K hK
        go_wp2_with fail
        refine hK _ _ (fun _ => by (repeat (first | with_reducible assumption | with_reducible exact Below.refl _ _ | (with_reducible refine Below.setCell ?_ (by first | omega | (simp; omega) | (simp; done)) _) | (with_reducible refine Below.alloc ?_ (by first | omega | (simp; omega) | (simp; done)) _) | (with_reducible refine Below.drew ?_) | (with_reducible refine belowN ?_ _) | assumption | exact Below.refl _ _ | (refine Below.alloc ?_ (by first | omega | (simp; omega) | (simp; done)) _) | (refine Below.drew ?_) | (refine belowN ?_ _) | (refine Below.setCell ?_ (by first | omega | (simp; omega) | (simp; done)) _)))) ?_
        clear hK K
        refine any_run1 (i := 16) (by kernel_rfl) (by rfl) (by rfl) ?_
        intro K hK
        go_wp2_with fail
        refine hK _ _ (fun _ => by (repeat (first | with_reducible assumption | with_reducible exact Below.refl _ _ | (with_reducible refine Below.setCell ?_ (by first | omega | (simp; omega) | (simp; done)) _) | (with_reducible refine Below.alloc ?_ (by first | omega | (simp; omega) | (simp; done)) _) | (with_reducible refine Below.drew ?_) | (with_reducible refine belowN ?_ _) | assumption | exact Below.refl _ _ | (refine Below.alloc ?_ (by first | omega | (simp; omega) | (simp; done)) _) | (refine Below.drew ?_) | (refine belowN ?_ _) | (refine Below.setCell ?_ (by first | omega | (simp; omega) | (simp; done)) _)))) ?_
        clear hK K
        refine any_run1 (i := 17) (by kernel_rfl) (by rfl) (by rfl) ?_
        intro K hK
        go_wp2_with fail
        refine hK _ _ (fun hx => (Bool.false_ne_true (hx.symm.trans (by kernel_rfl))).elim) ?_
        clear hK K
        refine any_done (by kernel_rfl) (NoPanic.normal ?_)
        go_wp2_with fail
        go_meet
        exact ⟨_, _, _, rfl, rfl, rfl, by (repeat (first | assumption | (refine BK.new' _ _ _ _ ?_; simp; done) | refine BK.alloc ?_ _)), by (repeat (first | assumption | (refine BK.new' _ _ _ _ ?_; simp; done) | refine BK.alloc ?_ _)), by (repeat (first | assumption | (refine BK.new' _ _ _ _ ?_; simp; done) | refine BK.alloc ?_ _)), by (repeat (first | with_reducible assumption | with_reducible exact Below.refl _ _ | (with_reducible refine Below.setCell ?_ (by first | omega | (simp; omega) | (simp; done)) _) | (with_reducible refine Below.alloc ?_ (by first | omega | (simp; omega) | (simp; done)) _) | (with_reducible refine Below.drew ?_) | (with_reducible refine belowN ?_ _) | assumption | exact Below.refl _ _ | (refine Below.alloc ?_ (by first | omega | (simp; omega) | (simp; done)) _) | (refine Below.drew ?_) | (refine belowN ?_ _) | (refine Below.setCell ?_ (by first | omega | (simp; omega) | (simp; done)) _)))⟩
    · intro K hK
      go_wp2_with fail
      refine hK _ _ (fun _ => by (repeat (first | with_reducible assumption | with_reducible exact Below.refl _ _ | (with_reducible refine Below.setCell ?_ (by first | omega | (simp; omega) | (simp; done)) _) | (with_reducible refine Below.alloc ?_ (by first | omega | (simp; omega) | (simp; done)) _) | (with_reducible refine Below.drew ?_) | (with_reducible refine belowN ?_ _) | assumption | exact Below.refl _ _ | (refine Below.alloc ?_ (by first | omega | (simp; omega) | (simp; done)) _) | (refine Below.drew ?_) | (refine belowN ?_ _) | (refine Below.setCell ?_ (by first | omega | (simp; omega) | (simp; done)) _)))) ?_
      clear hK K
      refine any_run2 (i := 12) (j := 13) (by kernel_rfl) (by rfl) (by rfl) (by rfl) (by rfl) ?_ ?_
      · intro K hK
        go_wp2_with fail
        refine hK _ _ (fun _ => by (repeat (first | with_reducible assumption | with_reducible exact Below.refl _ _ | (with_reducible refine Below.setCell ?_ (by first | omega | (simp; omega) | (simp; done)) _) | (with_reducible refine Below.alloc ?_ (by first | omega | (simp; omega) | (simp; done)) _) | (with_reducible refine Below.drew ?_) | (with_reducible refine belowN ?_ _) | assumption | exact Below.refl _ _ | (refine Below.alloc ?_ (by first | omega | (simp; omega) | (simp; done)) _) | (refine Below.drew ?_) | (refine belowN ?_ _) | (refine Below.setCell ?_ (by first | omega | (simp; omega) | (simp; done)) _)))) ?_
        clear hK K
        refine any_run1 (i := 13) (by kernel_rfl) (by rfl) (by rfl) ?_
        intro K hK
        go_wp2_with fail
        refine hK _ _ (fun _ => by (repeat (first | with_reducible assumption | with_reducible exact Below.refl _ _ | (with_reducible refine Below.setCell ?_ (by first | omega | (simp; omega) | (simp; done)) _) | (with_reducible refine Below.alloc ?_ (by first | omega | (simp; omega) | (simp; done)) _) | (with_reducible refine Below.drew ?_) | (with_reducible refine belowN ?_ _) | assumption | exact Below.refl _ _ | (refine Below.alloc ?_ (by first | omega | (simp; omega) | (simp; done)) _) | (refine Below.drew ?_) | (refine belowN ?_ _) | (refine Below.setCell ?_ (by first | omega | (simp; omega) | (simp; done)) _)))) ?_
        clear hK K
        refine any_run1 (i := 15) (by kernel_rfl) (by rfl) (by rfl) ?_
        intro K hK
        go_wp2_with fail
        refine hK _ _ (fun _ => by (repeat (first | with_reducible assumption | with_reducible exact Below.refl _ _ | (with_reducible refine Below.setCell ?_ (by first | omega | (simp; omega) | (simp; done)) _) | (with_reducible refine Below.alloc ?_ (by first | omega | (simp; omega) | (simp; done)) _) | (with_reducible refine Below.drew ?_) | (with_reducible refine belowN ?_ _) | assumption | exact Below.refl _ _ | (refine Below.alloc ?_ (by first | omega | (simp; omega) | (simp; done)) _) | (refine Below.drew ?_) | (refine belowN ?_ _) | (refine Below.setCell ?_ (by first | omega | (simp; omega) | (simp; done)) _)))) ?_
        clear hK K
        refine any_run1 (i := 16) (by kernel_rfl) (by rfl) (by rfl) ?_
        intro K hK
        go_wp2_with fail
        refine hK _ _ (fun _ => by (repeat (first | with_reducible assumption | with_reducible exact Below.refl _ _ | (with_reducible refine Below.setCell ?_ (by first | omega | (simp; omega) | (simp; done)) _) | (with_reducible refine Below.alloc ?_ (by first | omega | (simp; omega) | (simp; done)) _) | (with_reducible refine Below.drew ?_) | (with_reducible refine belowN ?_ _) | assumption | exact Below.refl _ _ | (refine Below.alloc ?_ (by first | omega | (simp; omega) | (simp; done)) _) | (refine Below.drew ?_) | (refine belowN ?_ _) | (refine Below.setCell ?_ (by first | omega | (simp; omega) | (simp; done)) _)))) ?_
        clear hK K
        refine any_run1 (i := 17) (by kernel_rfl) (by rfl) (by rfl) ?_
        intro K hK
        go_wp2_with fail
        refine hK _ _ (fun hx => (Bool.false_ne_true (hx.symm.trans (by kernel_rfl))).elim) ?_
        clear hK K
        refine any_done (by kernel_rfl) (NoPanic.normal ?_)
        go_wp2_with fail
        go_meet
        exact ⟨_, _, _, rfl, rfl, rfl, by (repeat (first | assumption | (refine BK.new' _ _ _ _ ?_; simp; done) | refine BK.alloc ?_ _)), by (repeat (first | assumption | (refine BK.new' _ _ _ _ ?_; simp; done) | refine BK.alloc ?_ _)), by (repeat (first | assumption | (refine BK.new' _ _ _ _ ?_; simp; done) | refine BK.alloc ?_ _)), by (repeat (first | with_reducible assumption | with_reducible exact Below.refl _ _ | (with_reducible refine Below.setCell ?_ (by first | omega | (simp; omega) | (simp; done)) _) | (with_reducible refine Below.alloc ?_ (by first | omega | (simp; omega) | (simp; done)) _) | (with_reducible refine Below.drew ?_) | (with_reducible refine belowN ?_ _) | assumption | exact Below.refl _ _ | (refine Below.alloc ?_ (by first | omega | (simp; omega) | (simp; done)) _) | (refine Below.drew ?_) | (refine belowN ?_ _) | (refine Below.setCell ?_ (by first | omega | (simp; omega) | (simp; done)) _)))⟩
      · intro K hK
        go_wp2_with fail
        refine hK _ _ (fun _ => by (repeat (first | with_reducible assumption | with_reducible exact Below.refl _ _ | (with_reducible refine Below.setCell ?_ (by first | omega | (simp; omega) | (simp; done)) _) | (with_reducible refine Below.alloc ?_ (by first | omega | (simp; omega) | (simp; done)) _) | (with_reducible refine Below.drew ?_) | (with_reducible refine belowN ?_ _) | assumption | exact Below.refl _ _ | (refine Below.alloc ?_ (by first | omega | (simp; omega) | (simp; done)) _) | (refine Below.drew ?_) | (refine belowN ?_ _) | (refine Below.setCell ?_ (by first | omega | (simp; omega) | (simp; done)) _)))) ?_
        clear hK K
        refine any_run1 (i := 12) (by kernel_rfl) (by rfl) (by rfl) ?_
        intro K hK
        go_wp2_with fail
        refine hK _ _ (fun _ => by (repeat (first | with_reducible assumption | with_reducible exact Below.refl _ _ | (with_reducible refine Below.setCell ?_ (by first | omega | (simp; omega) | (simp; done)) _) | (with_reducible refine Below.alloc ?_ (by first | omega | (simp; omega) | (simp; done)) _) | (with_reducible refine Below.drew ?_) | (with_reducible refine belowN ?_ _) | assumption | exact Below.refl _ _ | (refine Below.alloc ?_ (by first | omega | (simp; omega) | (simp; done)) _) | (refine Below.drew ?_) | (refine belowN ?_ _) | (refine Below.setCell ?_ (by first | omega | (simp; omega) | (simp; done)) _)))) ?_
        clear hK K
        refine any_run1 (i := 15) (by kernel_rfl) (by rfl) (by rfl) ?_
        intro K hK
        go_wp2_with fail
        refine hK _ _ (fun _ => by (repeat (first | with_reducible assumption | with_reducible exact Below.refl _ _ | (with_reducible refine Below.setCell ?_ (by first | omega | (simp; omega) | (simp; done)) _) | (with_reducible refine Below.alloc ?_ (by first | omega | (simp; omega) | (simp; done)) _) | (with_reducible refine Below.drew ?_) | (with_reducible refine belowN ?_ _) | assumption | exact Below.refl _ _ | (refine Below.alloc ?_ (by first | omega | (simp; omega) | (simp; done)) _) | (refine Below.drew ?_) | (refine belowN ?_ _) | (refine Below.setCell ?_ (by first | omega | (simp; omega) | (simp; done)) _)))) ?_
        clear hK K
        refine any_run1 (i := 16) (by kernel_rfl) (by rfl) (by rfl) ?_
        intro K hK
        go_wp2_with fail
        refine hK _ _ (fun _ => by (repeat (first | with_reducible assumption | with_reducible exact Below.refl _ _ | (with_reducible refine Below.setCell ?_ (by first | omega | (simp; omega) | (simp; done)) _) | (with_reducible refine Below.alloc ?_ (by first | omega | (simp; omega) | (simp; done)) _) | (with_reducible refine Below.drew ?_) | (with_reducible refine belowN ?_ _) | assumption | exact Below.refl _ _ | (refine Below.alloc ?_ (by first | omega | (simp; omega) | (simp; done)) _) | (refine Below.drew ?_) | (refine belowN ?_ _) | (refine Below.setCell ?_ (by first | omega | (simp; omega) | (simp; done)) _)))) ?_
        clear hK K
        refine any_run1 (i := 17) (by kernel_rfl) (by rfl) (by rfl) ?_
        intro K hK
        go_wp2_with fail
        refine hK _ _ (fun hx => (Bool.false_ne_true (hx.symm.trans (by kernel_rfl))).elim) ?_
        clear hK K
        refine any_done (by kernel_rfl) (NoPanic.normal ?_)
        go_wp2_with fail
        go_meet
        exact ⟨_, _, _, rfl, rfl, rfl, by (repeat (first | assumption | (refine BK.new' _ _ _ _ ?_; simp; done) | refine BK.alloc ?_ _)), by (repeat (first | assumption | (refine BK.new' _ _ _ _ ?_; simp; done) | refine BK.alloc ?_ _)), by (repeat (first | assumption | (refine BK.new' _ _ _ _ ?_; simp; done) | refine BK.alloc ?_ _)), by (repeat (first | with_reducible assumption | with_reducible exact Below.refl _ _ | (with_reducible refine Below.setCell ?_ (by first | omega | (simp; omega) | (simp; done)) _) | (with_reducible refine Below.alloc ?_ (by first | omega | (simp; omega) | (simp; done)) _) | (with_reducible refine Below.drew ?_) | (with_reducible refine belowN ?_ _) | assumption | exact Below.refl _ _ | (refine Below.alloc ?_ (by first | omega | (simp; omega) | (simp; done)) _) | (refine Below.drew ?_) | (refine belowN ?_ _) | (refine Below.setCell ?_ (by first | omega | (simp; omega) | (simp; done)) _)))⟩
  case rest =>
    obtain ⟨g0, g1, g2, rfl, rfl, rfl, b0, b1, b2, hbx⟩ := hcut
    have x0 := b0.cell 0
    have x1 := b0.cell 1
    have x2 := b0.cell 2
    have y0 := b1.cell 0
    have y1 := b1.cell 1
    have y2 := b1.cell 2
    have z0 := b2.cell 0
    have z1 := b2.cell 1
    have z2 := b2.cell 2
    simp at x0 x1 x2 y0 y1 y2 z0 z1 z2
    have e1 := mul_bd (nthS l k).lo ((nthS l m).a - (nthS l i).a) 1000 1000 (by omega) (by omega)
    have e2 := mul_bd (nthS l i).hi ((nthS l m).a - (nthS l k).a) 1000 1000 (by omega) (by omega)
    have e3 := mul_bd (nthS l m).hi ((nthS l k).a - (nthS l i).a) 1000 1000 (by omega) (by omega)
    simp only [Nat.reduceMul] at e1 e2 e3
    go_wp2_with fail
    go_ret
    exact ⟨rfl, hbx⟩
end Go.Proofs.Ytbjmkmambmeifaa
