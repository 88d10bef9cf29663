/- above, of the reference. the reference's Heights. -/
import Derived.Test.YtbjmkmambmeifaaP9
import Derived.Test.YtbjmkmambmeifaaP8
set_option linter.all false
set_option linter.unnecessarySimpa false
set_option linter.unusedSimpArgs false
set_option linter.unusedVariables false
set_option linter.unusedSectionVars false

namespace Go.Proofs.Ytbjmkmambmeifaa
open Go.RowKit

theorem foldl_mem (bf : Ra → Ra → Bool) : ∀ (t : List Ra) (x : Ra), t.foldl (fun o y => if bf y o then y else o) x ∈ x :: t
  | [], x => by simp
  | y :: t, x => by
    have h := foldl_mem bf t (if bf y x then y else x)
    simp only [List.foldl_cons, List.mem_cons] at h ⊢
    rcases h with h | h
    · rw [h]; split <;> simp
    · exact .inr (.inr h)
theorem bestF_mem (bf : Ra → Ra → Bool) (l : List Ra) (h : l ≠ []) : bestF bf l ∈ l := by
  cases l with
  | nil => exact absurd rfl h
  | cons x t => exact foldl_mem bf t x

theorem leastR_bounds (l : List St) (hs : List Int) (s : Nat) (hp : 0 < s * (l.length - (s + 1)))
    (ha : ∀ i j, i < j → j < l.length → (nthS l i).a < (nthS l j).a) (ha2 : ∀ i, i < l.length → 0 ≤ (nthS l i).a ∧ (nthS l i).a ≤ 1000) (hh : ∀ i, i < l.length → -1000 ≤ nthI hs i ∧ nthI hs i ≤ 1000) :
    -2000000 ≤ (leastR l hs s).num ∧ (leastR l hs s).num ≤ 2000000 ∧ 0 < (leastR l hs s).den ∧ (leastR l hs s).den ≤ 1000 := by
  have hm := bestF_mem (fun y o => lessW y o) ((List.range (s * (l.length - (s + 1)))).map (pairLine l hs s)) (by
    intro hx
    have : ((List.range (s * (l.length - (s + 1)))).map (pairLine l hs s)).length = 0 := by rw [hx]; rfl
    rw [List.length_map, List.length_range] at this
    rw [this] at hp; exact absurd hp (Nat.lt_irrefl _))
  obtain ⟨t, ht, he⟩ := List.mem_map.1 hm
  have ht := List.mem_range.1 ht
  obtain ⟨h1, h2⟩ := pair_bounds ht
  have he' : leastR l hs s = pairLine l hs s t := he.symm
  rw [he']
  unfold pairLine
  obtain ⟨i, hi⟩ : ∃ i, t / (l.length - (s + 1)) = i := ⟨_, rfl⟩
  obtain ⟨k, hk⟩ : ∃ k, s + 1 + t % (l.length - (s + 1)) = k := ⟨_, rfl⟩
  simp only [hi, hk] at h1 h2 ⊢
  have q1 := hh i (by omega)
  have q2 := hh k (by omega)
  have q3 := ha2 i (by omega)
  have q4 := ha2 s (by omega)
  have q5 := ha2 k (by omega)
  have q6 := ha i s h1 (by omega)
  have q7 := ha s k (by omega) h2
  have e1 := mul_bd (nthI hs i) ((nthS l k).a - (nthS l s).a) 1000 1000 (by omega) (by omega)
  have e2 := mul_bd (nthI hs k) ((nthS l s).a - (nthS l i).a) 1000 1000 (by omega) (by omega)
  have := frac_bounds (nthI hs i * ((nthS l k).a - (nthS l s).a) + nthI hs k * ((nthS l s).a - (nthS l i).a)) ((nthS l k).a - (nthS l i).a) (by omega)
  omega

/-- By how much a station, at the height own, is above the least line. -/
def aboveR (l : List St) (hs : List Int) (s : Nat) (own : Int) : Ra :=
  if ¬ 0 < s * (l.length - (s + 1)) ∨ own * (leastR l hs s).den ≤ (leastR l hs s).num then ⟨0, 1⟩ else frac (own * (leastR l hs s).den - (leastR l hs s).num) (leastR l hs s).den

set_option maxRecDepth 100000 in
set_option maxHeartbeats 4000000 in
theorem refAbove_any (l : List St) (hs : List Int) (s : Nat) (own : Int) (vl vh : Value) (w : World) (hl : l.length ≤ 25) (hs1 : s < l.length) (h : RSt w w.heap.size vl l) (h' : RI w w.heap.size vh hs) (hlen : hs.length = l.length)
    (ha : ∀ i j, i < j → j < l.length → (nthS l i).a < (nthS l j).a) (ha2 : ∀ i, i < l.length → 0 ≤ (nthS l i).a ∧ (nthS l i).a ≤ 1000) (hh : ∀ i, i < l.length → -1000 ≤ nthI hs i ∧ nthI hs i ≤ 1000) (ho : -1000 ≤ own ∧ own ≤ 1000) :
    Calls Try.prog 59 #[vl, vh, .int .i64 s, .int .i64 own] w fun e w' => e = .returned (.agg #[.int .i64 (aboveR l hs s own).num, .int .i64 (aboveR l hs s own).den]) ∧ Below w.heap.size w w' := by
  have hcall := fun w1 (hb : Below w.heap.size w w1) => refLeast_any l hs s vl vh w1 hl hs1 ((h.below hb).more hb.size) ((RS.below h' hb).more hb.size) hlen ha ha2 hh
  have HP := Lib.hid hcall; clear hcall
  have hbd := fun hp => leastR_bounds l hs s hp ha ha2 hh
  unfold aboveR
  obtain ⟨p, hp⟩ : ∃ p, 0 < s * (l.length - (s + 1)) ↔ p = true := ⟨decide (0 < s * (l.length - (s + 1))), by simp⟩
  have hpd : decide (0 < s * (l.length - (s + 1))) = p := by
    cases p <;> simp_all
  rw [hpd] at HP
  simp only [hp] at hbd ⊢
  obtain ⟨L, hL⟩ : ∃ L, leastR l hs s = L := ⟨_, rfl⟩
  rw [hL] at HP hbd ⊢
  clear hL hpd hp ha ha2 hh h h'
  cases p with
  | false =>
    clear hbd
    rw [if_pos (by simp)]
    go_enter Try.func59, Try.ntmps59
    go_wp2_with fail
    refine (HP.out _ (by exact bel_of)).mono ?_
    rintro e w1 ⟨rfl, hb1⟩
    have hB1 : Below w.heap.size w w1 := (Below.trans (a := w) (B := w.heap.size) (by exact bel_of) (hb1.mono (by first | omega | (simp; omega) | (simp; done))))
    have b1 : BK w1 w.heap.size #[.int .i64 0, .int .i64 0] 25 := BK.below (BK.new _ _ _) hb1 (by simp)
    have hlt1 := b1.lt
    have hz1 := hb1.size
    simp at hz1
    clear hb1
    have y0 := b1.cell 0
    have y1 := b1.cell 1
    have f0 := b1.frozen 0
    have f1 := b1.frozen 1
    simp at y0 y1
    go_wp2_with fail
    have b5 := ((b1.set 0 (.int .i64 0)).set 1 (.int .i64 1)).alloc (.cells #[.int .i64 L.num, .int .i64 L.den] 25)
    simp at b5
    refine ret_bk (w := w) (n := w.heap.size) b5 (by exact bel_of) (v := .agg #[.int .i64 0, .int .i64 1]) ?_ ?_
    · intro W' hb'
      have z0 := hb'.cell 0
      have z1 := hb'.cell 1
      simp at z0 z1
      simp [results, Try.results59, go_sem, z0, z1]
    exact ⟨rfl, by exact bel_of⟩
  | true =>
    obtain ⟨q1, q2, q3, q4⟩ := hbd rfl
    clear hbd
    have e1 := mul_bd own L.den 1000 1000 (by omega) (by omega)
    simp only [Nat.reduceMul] at e1
    by_cases hle : own * L.den ≤ L.num
    · rw [if_pos (.inr hle)]
      have d1 := decide_eq_true hle
      go_enter Try.func59, Try.ntmps59
      go_wp2_with fail
      refine (HP.out _ (by exact bel_of)).mono ?_
      rintro e w1 ⟨rfl, hb1⟩
      have hB1 : Below w.heap.size w w1 := (Below.trans (a := w) (B := w.heap.size) (by exact bel_of) (hb1.mono (by first | omega | (simp; omega) | (simp; done))))
      have b1 : BK w1 w.heap.size #[.int .i64 0, .int .i64 0] 25 := BK.below (BK.new _ _ _) hb1 (by simp)
      have hlt1 := b1.lt
      have hz1 := hb1.size
      simp at hz1
      clear hb1
      have y0 := b1.cell 0
      have y1 := b1.cell 1
      have f0 := b1.frozen 0
      have f1 := b1.frozen 1
      simp at y0 y1
      go_wp2_with fail
      have b5 := ((b1.set 0 (.int .i64 0)).set 1 (.int .i64 1)).alloc (.cells #[.int .i64 L.num, .int .i64 L.den] 25)
      simp at b5
      refine ret_bk (w := w) (n := w.heap.size) b5 (by exact bel_of) (v := .agg #[.int .i64 0, .int .i64 1]) ?_ ?_
      · intro W' hb'
        have z0 := hb'.cell 0
        have z1 := hb'.cell 1
        simp at z0 z1
        simp [results, Try.results59, go_sem, z0, z1]
      exact ⟨rfl, by exact bel_of⟩
    · rw [if_neg (by simp; omega)]
      have d1 := decide_eq_false hle
      have hF := fun W => fraction_any (own * L.den - L.num) L.den W (by omega) (by omega) (by omega) (by omega)
      obtain ⟨F, hFe⟩ : ∃ F, frac (own * L.den - L.num) L.den = F := ⟨_, rfl⟩
      rw [hFe] at hF ⊢
      have HF := Lib.hid hF; clear hF hFe
      go_enter Try.func59, Try.ntmps59
      go_wp2_with fail
      refine (HP.out _ (by exact bel_of)).mono ?_
      rintro e w1 ⟨rfl, hb1⟩
      have hB1 : Below w.heap.size w w1 := (Below.trans (a := w) (B := w.heap.size) (by exact bel_of) (hb1.mono (by first | omega | (simp; omega) | (simp; done))))
      have b1 : BK w1 w.heap.size #[.int .i64 0, .int .i64 0] 25 := BK.below (BK.new _ _ _) hb1 (by simp)
      have hlt1 := b1.lt
      have hz1 := hb1.size
      simp at hz1
      clear hb1
      go_wp2_with fail
      refine (HF.out _).mono ?_
      rintro e w2 ⟨rfl, hb2⟩
      have hB2 : Below w.heap.size w w2 := (Below.trans (a := w) (B := w.heap.size) (by exact bel_of) (hb2.mono (by first | omega | (simp; omega) | (simp; done))))
      have b2 : BK w2 w.heap.size #[.int .i64 0, .int .i64 0] 25 := (b1.alloc _).below hb2 (by simp; omega)
      clear hb2 b1
      have y0 := b2.cell 0
      have y1 := b2.cell 1
      have f0 := b2.frozen 0
      have f1 := b2.frozen 1
      simp at y0 y1
      go_wp2_with fail
      have b5 := (b2.set 0 (.int .i64 F.num)).set 1 (.int .i64 F.den)
      simp at b5
      refine ret_bk (w := w) (n := w.heap.size) b5 (by exact bel_of) (v := .agg #[.int .i64 F.num, .int .i64 F.den]) ?_ ?_
      · intro W' hb'
        have z0 := hb'.cell 0
        have z1 := hb'.cell 1
        simp at z0 z1
        simp [results, Try.results59, go_sem, z0, z1]
      exact ⟨rfl, by exact bel_of⟩
end Go.Proofs.Ytbjmkmambmeifaa

namespace Go.Proofs.Ytbjmkmambmeifaa
open Go.RowKit

def hR (l : List St) (i : Nat) : Ra := if 0 < i * (l.length - (i + 1)) ∧ lessW (leastR l (ends l true) i) ⟨(nthS l i).hi, 1⟩ = true then leastR l (ends l true) i else ⟨(nthS l i).hi, 1⟩
def heightsErrR (l : List St) : Int := if checkPair l ≠ 0 then checkPair l else if (wedgeF l).isSome then 22 else 0
def heightsR (l : List St) : List Ra := if heightsErrR l = 0 then (List.range l.length).map (hR l) else []

theorem own_far {W : World} {base e sz n : Nat} {v : Value} {xs : List Value} (h : W.ownsRow base e sz v n xs) {p : Addr} (hp : v.ownBlock ≠ some p.block) (u : Value) : (W.setCell p u).ownsRow base e sz v n xs := by
  obtain ⟨hl, h2⟩ := h
  refine ⟨hl, ?_⟩
  rcases h2 with h2 | ⟨g, cap, cur, hv, hb, hh, r⟩
  · exact .inl h2
  · refine .inr ⟨g, cap, cur, hv, hb, ?_, r⟩
    rw [Below.heap_setCell]
    · exact hh
    · rintro rfl
      exact hp (by rw [hv]; rfl)

set_option maxRecDepth 100000 in
set_option maxHeartbeats 4000000 in
theorem refHeights_any (l : List St) (vl : Value) (w : World) (hl : l.length ≤ 1000) (h : RSt w w.heap.size vl l) :
    Calls Try.prog 35 #[vl] w fun e w' => ∃ v, e = .returned (.tuple #[v, .int .i64 (heightsErrR l)]) ∧ RRa w' w'.heap.size v (heightsR l) ∧ Below w.heap.size w w' := by
  have hcall := fun w1 (hb : Below w.heap.size w w1) => refCheckPair_any l vl w1 hl ((h.below hb).more hb.size)
  by_cases hp : checkPair l = 0
  · rw [hp] at hcall
    have hn := checkPair_len l hp
    have hwe := fun w1 (hb : Below w.heap.size w w1) => refWedge_any l vl w1 hl ((h.below hb).more hb.size)
    have hwv : wedgeV l = wedgeO (wedgeF l) := by unfold wedgeV; rw [if_neg (by simpa using hp)]
    rw [hwv] at hwe
    have hen := fun w1 (hb : Below w.heap.size w w1) => refEnds_any l true vl w1 hl ((h.below hb).more hb.size)
    have hle := fun w1 (hb : Below w.heap.size w w1) vh k (hk : k < l.length) (hr : RI w1 w1.heap.size vh (ends l true)) => refLeast_any l (ends l true) k vl vh w1 hn.2 hk ((h.below hb).more hb.size) hr (ends_length _ _) (valid_lt l hp) (valid_a l hp) (ends_rng l _ hp)
    have hE : heightsErrR l = if (wedgeF l).isSome then 22 else 0 := by unfold heightsErrR; rw [if_neg (by simpa using hp)]
    have HP := Lib.hid hcall; have HEN := Lib.hid hen; have HLE := Lib.hid hle
    obtain ⟨A, cap, b, off, rfl, hA, hc⟩ := h.cells
    obtain ⟨rfl, hb⟩ := hA (by omega)
    have HC := Lib.hid hc
    clear hcall hp h hen hle hwv hA hc
    cases hW : wedgeF l with
    | some t =>
      obtain ⟨i, k, m⟩ := t
      rw [hW] at hwe hE
      have HV1 := Lib.hid (show heightsErrR l = 22 by rw [hE]; rfl)
      have HV2 := Lib.hid (show heightsR l = [] by unfold heightsR; rw [if_neg (by rw [hE]; simp)])
      unfold wedgeO at hwe
      have HW := Lib.hid hwe
      clear hwe hE hW
      go_enter Try.func35, Try.ntmps35
      go_wp2_with fail
      refine (HP.out _ (by exact bel_of)).mono ?_
      rintro e w1 ⟨rfl, hb1⟩
      have hB1 : Below w.heap.size w w1 := (Below.trans (a := w) (B := w.heap.size) (by exact bel_of) (hb1.mono (by first | omega | (simp; omega) | (simp; done))))
      clear hb1
      go_wp2_with fail
      refine (HW.out w1 hB1).mono ?_
      rintro e w2 ⟨rfl, hb2⟩
      have hB2 : Below w.heap.size w w2 := hB1.trans (hb2.mono hB1.size)
      have hs2 := hB2.size
      clear hb2
      go_wp2_with fail
      exact bodyPost_ret (v := .tuple #[.slice none 0 0, .int .i64 22]) (by simp [results, Try.results35, go_sem]) rfl ⟨_, by rw [HV1.out], by rw [HV2.out]; exact rra_nil _ _, by exact bel_of⟩
    | none =>
      rw [hW] at hwe hE
      have HV1 := Lib.hid (show heightsErrR l = 0 by rw [hE]; rfl)
      have HV2 := Lib.hid (show heightsR l = (List.range l.length).map (hR l) by unfold heightsR; rw [if_pos (by rw [hE]; rfl)])
      unfold wedgeO at hwe
      have HW := Lib.hid hwe
      clear hwe hE hW
      go_enter Try.func35, Try.ntmps35
      go_wp2_with fail
      refine (HP.out _ (by exact bel_of)).mono ?_
      rintro e w1 ⟨rfl, hb1⟩
      have hB1 : Below w.heap.size w w1 := (Below.trans (a := w) (B := w.heap.size) (by exact bel_of) (hb1.mono (by first | omega | (simp; omega) | (simp; done))))
      clear hb1
      go_wp2_with fail
      refine (HW.out w1 hB1).mono ?_
      rintro e w2 ⟨rfl, hb2⟩
      have hB2 : Below w.heap.size w w2 := hB1.trans (hb2.mono hB1.size)
      have hs2 := hB2.size
      clear hb2
      go_wp2_with fail
      go_loopw [6, 7] (fun acc iv wr => ∃ i : Nat, i ≤ l.length ∧ iv = .int .i64 i ∧ OwnR wr w.heap.size acc (((List.range l.length).map (hR l)).take i) ∧ Below w.heap.size w wr) (fun _ i _ => l.length - (intOf i).toNat)
      case atStart => exact ⟨0, Nat.zero_le _, rfl, by simpa using OwnR.nil _ _, by exact bel_of⟩
      case round =>
        obtain ⟨i, hi, rfl, hown, hbw⟩ := hrel
        have hsz := hbw.size
        by_cases hil : i < l.length
        · have hcell := HC.out i hil
          rw [← hbw.cell (by exact hb), ← hbw.cell (by exact hb), ← hbw.cell (by exact hb)] at hcell
          obtain ⟨c0, c1, c2⟩ := hcell
          have hbl : b < wr.heap.size := by omega
          have hmt := map_take_succ (hR l) l.length i hil
          unfold hR at hmt
          have hle := fun w1 hb vh => HLE.out w1 hb vh i hil
          obtain ⟨q, hqd⟩ : ∃ q, decide (0 < i * (l.length - (i + 1))) = q := ⟨_, rfl⟩
          obtain ⟨R, hRe⟩ : ∃ R, leastR l (ends l true) i = R := ⟨_, rfl⟩
          rw [hRe] at hmt
          rw [hRe, hqd] at hle
          have hmt2 : ((List.range l.length).map (hR l)).take i ++ [if q = true ∧ lessW R ⟨(nthS l i).hi, 1⟩ = true then R else ⟨(nthS l i).hi, 1⟩] = ((List.range l.length).map (hR l)).take (i + 1) := by
            rw [← hqd]
            have e : ∀ p : Prop, [Decidable p] → (decide p = true ↔ p) := fun p _ => decide_eq_true_iff
            simp only [decide_eq_true_iff]
            exact hmt
          have HL := Lib.hid hle; have HMT := Lib.hid hmt2; have HO := Lib.hid hown
          have hob : u6.ownBlock ≠ some wr.heap.size := fun hx => by have := (hown.lt _ hx).2; omega
          clear hle hmt hmt2 hown hqd hRe
          go_wp2_with fail
          have hbx : Below w.heap.size w (wr.alloc (.cells #[.int .i64 (nthS l i).hi, .int .i64 1] 25)) := by exact bel_of
          have p8 : BK (wr.alloc (.cells #[.int .i64 (nthS l i).hi, .int .i64 1] 25)) wr.heap.size #[.int .i64 (nthS l i).hi, .int .i64 1] 25 := BK.new _ _ _
          have hO1 := HO.out.below (W' := wr.alloc (.cells #[.int .i64 (nthS l i).hi, .int .i64 1] 25)) (by exact bel_of)
          refine (HEN.out _ hbx).mono ?_
          rintro e w4 ⟨ve, rfl, hE, hb4⟩
          have hbw4 := hbx.trans (hb4.mono hbx.size)
          have p84 := p8.below hb4 p8.lt
          have hO4 := hO1.below hb4
          clear hb4 p8 hO1 hbx HO
          go_wp2_with fail
          refine (HL.out w4 hbw4 _ hE).mono ?_
          rintro e w5 ⟨rfl, hb5⟩
          have hbw5 := hbw4.trans (hb5.mono hbw4.size)
          have p85 := p84.below hb5 p84.lt
          have hO5 := hO4.below hb5
          have hsz5 := hbw5.size
          have hlt5 := p85.lt
          clear hb5 p84 hO4 hbw4 hE
          have y0 := p85.cell 0
          have y1 := p85.cell 1
          have f0 := p85.frozen 0
          have f1 := p85.frozen 1
          simp at y0 y1
          have hlt6 : wr.heap.size < w5.heap.size + 1 := by omega
          cases q with
          | false =>
            obtain ⟨v', w6, hrun, hown', hb', hs', _⟩ := app_ra (w1 := w5.alloc (.cells #[.int .i64 R.num, .int .i64 R.den] 25)) (hO5.below (by exact bel_of)) ⟨(nthS l i).hi, 1⟩ (by simp; omega) (by simp; omega) (w0 := w) (by exact bel_of) (w5.heap.size + 1) (by simp)
            rw [if_neg (by simp)] at HMT
            rw [HMT.out] at hown'
            have HO := Lib.hid hown'; have HRUN := Lib.hid hrun; clear hown' hrun hO5
            go_wp2_with (at_builtin; refine wpList_append_run rfl (.tmp 51) (.tmp 53) 26 _ rfl HRUN.out ?_)
            go_roundw
            case rel => exact ⟨i + 1, by omega, by go_num, HO.out, by exact bel_of⟩
            case measure => simp [intOf]; omega
          | true =>
            obtain ⟨r, hr⟩ : ∃ r, lessW R ⟨(nthS l i).hi, 1⟩ = r := ⟨_, rfl⟩
            rw [hr] at HMT
            have hr' : lessW ⟨R.num, R.den⟩ ⟨(nthS l i).hi, 1⟩ = r := hr
            clear hr
            go_wp2_with fail
            refine (refLess_any _ _ _ _ _).mono ?_
            rintro e w6 ⟨rfl, rfl⟩
            rw [hr']
            cases r with
            | true =>
              have hOf : OwnR ((w5.setCell ⟨wr.heap.size, 0, none⟩ (.int .i64 R.num)).setCell ⟨wr.heap.size, 1, none⟩ (.int .i64 R.den)) w.heap.size u6 _ := own_far (own_far hO5 (p := ⟨wr.heap.size, 0, none⟩) hob _) (p := ⟨wr.heap.size, 1, none⟩) hob _
              obtain ⟨v', w6, hrun, hown', hb', hs', _⟩ := app_ra (w1 := ((((w5.setCell ⟨wr.heap.size, 0, none⟩ (.int .i64 R.num)).setCell ⟨wr.heap.size, 1, none⟩ (.int .i64 R.den)).alloc (.cells #[.int .i64 R.num, .int .i64 R.den] 25)).alloc (.cells #[.int .i64 R.num, .int .i64 R.den] 25)).alloc (.cells #[.int .i64 (nthS l i).hi, .int .i64 1] 25)) (OwnR.below hOf (by exact bel_of)) R (by simp; omega) (by simp; omega) (w0 := w) (by exact bel_of) (w5.heap.size + 1 + 1 + 1) (by simp)
              rw [if_pos (by simp)] at HMT
              rw [HMT.out] at hown'
              have HO := Lib.hid hown'; have HRUN := Lib.hid hrun; clear hown' hrun hO5 hOf
              go_wp2_with (at_builtin; refine wpList_append_run rfl (.tmp 51) (.tmp 53) 26 _ rfl HRUN.out ?_)
              go_roundw
              case rel => exact ⟨i + 1, by omega, by go_num, HO.out, by exact bel_of⟩
              case measure => simp [intOf]; omega
            | false =>
              obtain ⟨v', w6, hrun, hown', hb', hs', _⟩ := app_ra (w1 := ((w5.alloc (.cells #[.int .i64 R.num, .int .i64 R.den] 25)).alloc (.cells #[.int .i64 R.num, .int .i64 R.den] 25)).alloc (.cells #[.int .i64 (nthS l i).hi, .int .i64 1] 25)) (hO5.below (by exact bel_of)) ⟨(nthS l i).hi, 1⟩ (by simp; omega) (by simp; omega) (w0 := w) (by exact bel_of) (w5.heap.size + 1 + 1 + 1) (by simp)
              rw [if_neg (by simp)] at HMT
              rw [HMT.out] at hown'
              have HO := Lib.hid hown'; have HRUN := Lib.hid hrun; clear hown' hrun hO5
              go_wp2_with (at_builtin; refine wpList_append_run rfl (.tmp 51) (.tmp 53) 26 _ rfl HRUN.out ?_)
              go_roundw
              case rel => exact ⟨i + 1, by omega, by go_num, HO.out, by exact bel_of⟩
              case measure => simp [intOf]; omega
        · have hie : i = l.length := by omega
          have HIE := Lib.hid hie
          have HO := Lib.hid hown
          clear hie hown
          go_wp2_with fail
          refine bodyPost_ret (v := .tuple #[u6, .int .i64 0]) (by simp [results, Try.results35, go_sem]) rfl ⟨_, by rw [HV1.out], ?_, hbw⟩
          rw [HV2.out]
          have := HO.out.ri
          rw [HIE.out, List.take_of_length_le (by simp)] at this
          exact this
  · have hV1 : heightsErrR l = checkPair l := by unfold heightsErrR; rw [if_pos hp]
    have hV2 : heightsR l = [] := by unfold heightsR; rw [if_neg (by rw [hV1]; exact hp)]
    rw [hV1, hV2]
    obtain ⟨e0, he0⟩ : ∃ e0, checkPair l = e0 := ⟨_, rfl⟩
    rw [he0] at hcall hp ⊢
    have hpb : (e0 != 0) = true := by simpa using hp
    have HP := Lib.hid hcall
    clear hcall he0 hp h hV1 hV2
    go_enter Try.func35, Try.ntmps35
    go_wp2_with fail
    refine (HP.out _ (by exact bel_of)).mono ?_
    rintro e w1 ⟨rfl, hb1⟩
    have hB1 : Below w.heap.size w w1 := (Below.trans (a := w) (B := w.heap.size) (by exact bel_of) (hb1.mono (by first | omega | (simp; omega) | (simp; done))))
    clear hb1
    go_wp2_with fail
    refine (HP.out _ hB1).mono ?_
    rintro e w2 ⟨rfl, hb2⟩
    have hB2 : Below w.heap.size w w2 := hB1.trans (hb2.mono hB1.size)
    clear hb2
    go_wp2_with fail
    exact bodyPost_ret (v := .tuple #[.slice none 0 0, .int .i64 e0]) (by simp [results, Try.results35, go_sem]) rfl ⟨_, rfl, rra_nil _ _, hB2⟩
end Go.Proofs.Ytbjmkmambmeifaa
