/- hull. Contracts of the functions on ratios and on single structs. The ratio in least terms, of the program and of the reference. -/
import Derived.Test.YtbjmkmambmeifaaP3
import Derived.Test.YtbjmkmambmeifaaP1
import Derived.Deep.QuietTactic
import Derived.BigQuiet
import Derived.Deep.DeepCutAuto
import Derived.StillTailTactics
set_option linter.all false
set_option linter.unnecessarySimpa false
set_option linter.unusedSimpArgs false
set_option linter.unusedVariables false
set_option linter.unusedSectionVars false

namespace Go.Proofs.Ytbjmkmambmeifaa
open Go.RowKit

theorem OwnP.form {W : World} {base : Nat} {v : Value} {l : List St} {hs : List Int} {L : List Nat} (h : OwnP W base v l hs L) : ∃ A c, v = .slice A L.length c := by
  rcases h.2 with ⟨hv, h1⟩ | ⟨g, cap, cur, hv, _⟩
  · exact ⟨none, 0, by rw [hv, h1]⟩
  · exact ⟨_, _, hv⟩

theorem OwnP.row {W : World} {base : Nat} {v : Value} {l : List St} {hs : List Int} {L : List Nat} (h : OwnP W base v l hs L) (h0 : 0 < L.length) : ∃ g cap, v = .slice (some ⟨g, 0, none⟩) L.length cap ∧ g < W.heap.size ∧
    ∀ j u, (ofP l hs L)[j]? = some u → W.cell? ((⟨g, 0, none⟩ : Addr).add j) = some u := by
  have hlen := ofP_length l hs L
  rcases h.2 with ⟨_, h1⟩ | ⟨g, cap, cur, hv, hb, hh, h3, h4, h5, h6⟩
  · omega
  · refine ⟨g, cap, hv, (Array.getElem?_eq_some_iff.1 hh).1, fun j u hj => ?_⟩
    have hjl : j < (ofP l hs L).length := (List.getElem?_eq_some_iff.1 hj).1
    have e : (⟨g, 0, none⟩ : Addr).add j = ⟨g, j, none⟩ := by unfold Addr.add; split <;> simp_all
    rw [e, cell_of_row W g j cur _ (0, 0) hh, ← hj]
    conv => rhs; rw [← h6]
    rw [List.getElem?_take_of_lt (by omega)]
    simp
theorem OwnP.made {W : World} {base g : Nat} {l : List St} {hs : List Int} {L : List Nat} {n : Nat} (hb : BK W g (ofP l hs L).toArray 85) (hg : base ≤ g) (hn : n = L.length) (hm : n ≤ 1000) : OwnP W base (.slice (some ⟨g, 0, none⟩) n n) l hs L := by
  subst hn
  have hlen := ofP_length l hs L
  exact ⟨hlen, .inr ⟨g, L.length, (ofP l hs L).toArray, rfl, hg, hb, Nat.le_refl _, by unfold maxLen; omega, by simpa using hlen, by rw [← hlen]; simp⟩⟩
theorem ofP_one (l : List St) (hs : List Int) (L : List Nat) : ∀ v ∈ ofP l hs L, v.oneCell' = true := by
  intro v hv
  unfold ofP at hv
  obtain ⟨k, _, hk⟩ := List.mem_flatMap.1 hv
  simp only [ptC, List.mem_cons, List.not_mem_nil, or_false] at hk
  rcases hk with rfl | rfl | rfl | rfl | rfl <;> rfl

set_option maxRecDepth 100000 in
set_option maxHeartbeats 4000000 in
theorem hull_any (l : List St) (hs : List Int) (vb : Option Addr) (w : World) (hl : l.length ≤ 25) (h : RB w (.pointer vb) l hs)
    (ha2 : ∀ i, i < l.length → 0 ≤ (nthS l i).a ∧ (nthS l i).a ≤ 1000) (hh : ∀ i, i < l.length → -1000 ≤ nthI hs i ∧ nthI hs i ≤ 1000) (hl0 : 0 < l.length) :
    Calls Try.prog 63 #[.pointer vb] w fun e w' => ∃ v, e = .returned v ∧ OwnP w' w.heap.size v l hs (hullR l hs l.length).reverse ∧ Below w.heap.size w w' := by
  have hpt := fun k (hk : k < l.length) w1 (hb : Below w.heap.size w w1) => point_any l hs k (.pointer vb) w1 (by omega) hk (h.below hb)
  have HPT := Lib.hid hpt; clear hpt
  have HA2 := Lib.hid ha2; have HH := Lib.hid hh
  have H := Lib.hid h
  obtain ⟨g, o, vs, vh, hvb, k4, k5, k6, k7, k8⟩ := h
  obtain ⟨A, cap, b, off, rfl, _, _⟩ := k6.cells
  rw [Value.pointer.injEq] at hvb
  subst hvb
  clear ha2 hh k5 k6 k7 k8
  go_enter Try.func63, Try.ntmps63
  go_wp2_with fail
  go_loopw [3, 15] (fun lv iv wr => ∃ k : Nat, k ≤ l.length ∧ iv = .int .i64 k ∧ OwnP wr w.heap.size lv l hs (hullR l hs k).reverse ∧ Below w.heap.size w wr) (fun _ i _ => l.length - (intOf i).toNat)
  case atStart => exact ⟨0, Nat.zero_le _, rfl, by simpa [hullR] using OwnP.nil _ _ _ _, by (repeat (first | with_reducible assumption | with_reducible exact Below.refl _ _ | (with_reducible refine Below.setCell ?_ (by first | omega | (simp; omega) | (simp; done)) _) | (with_reducible refine Below.alloc ?_ (by first | omega | (simp; omega) | (simp; done)) _) | (with_reducible refine Below.drew ?_) | (with_reducible refine belowN ?_ _) | assumption | exact Below.refl _ _ | (refine Below.alloc ?_ (by first | omega | (simp; omega) | (simp; done)) _) | (refine Below.drew ?_) | (refine belowN ?_ _) | (refine Below.setCell ?_ (by first | omega | (simp; omega) | (simp; done)) _)))⟩
  case round =>
    obtain ⟨k, hk, rfl, hown, hbw⟩ := hrel
    have hsz := hbw.size
    by_cases hlt : k < l.length
    · have HO := Lib.hid hown; clear hown
      go_wp2_with fail
      refine (HPT.out k hlt _ hbw).mono ?_
      rintro e w1 ⟨rfl, hb1⟩
      have hO1 := HO.out.below hb1
      have hbw1 : Below w.heap.size w w1 := hbw.trans (hb1.mono hsz)
      have hs1 := hb1.size
      clear hb1 HO
      unfold ptV
      go_wp2_with fail
      go_loopw [3] (fun lv wi => ∃ R : List Nat, OwnP wi w.heap.size lv l hs R.reverse ∧ (∀ x ∈ R, x < l.length) ∧ popR l hs k R = popR l hs k (hullR l hs k) ∧ R.length ≤ 25 ∧ BK wi w1.heap.size #[.int .i64 (nthS l k).a, .int .i64 (nthS l k).lo, .int .i64 (nthS l k).hi, .int .i64 k, .int .i64 (nthI hs k)] 85 ∧ Below w.heap.size w wi) (fun lv _ => slLen lv)
      case atStart =>
        have h25 := hullR_len l hs k
        exact ⟨hullR l hs k, hO1.below (by (repeat (first | with_reducible assumption | with_reducible exact Below.refl _ _ | (with_reducible refine Below.setCell ?_ (by first | omega | (simp; omega) | (simp; done)) _) | (with_reducible refine Below.alloc ?_ (by first | omega | (simp; omega) | (simp; done)) _) | (with_reducible refine Below.drew ?_) | (with_reducible refine belowN ?_ _) | assumption | exact Below.refl _ _ | (refine Below.alloc ?_ (by first | omega | (simp; omega) | (simp; done)) _) | (refine Below.drew ?_) | (refine belowN ?_ _) | (refine Below.setCell ?_ (by first | omega | (simp; omega) | (simp; done)) _)))), fun x hx => by have := hullR_lt l hs k x hx; omega, rfl, by omega, BK.new _ _ _, by (repeat (first | with_reducible assumption | with_reducible exact Below.refl _ _ | (with_reducible refine Below.setCell ?_ (by first | omega | (simp; omega) | (simp; done)) _) | (with_reducible refine Below.alloc ?_ (by first | omega | (simp; omega) | (simp; done)) _) | (with_reducible refine Below.drew ?_) | (with_reducible refine belowN ?_ _) | assumption | exact Below.refl _ _ | (refine Below.alloc ?_ (by first | omega | (simp; omega) | (simp; done)) _) | (refine Below.drew ?_) | (refine belowN ?_ _) | (refine Below.setCell ?_ (by first | omega | (simp; omega) | (simp; done)) _)))⟩
      case round =>
        clear hO1
        obtain ⟨R, hOi, hRl, hRp, hR25, bk, hbwi⟩ := hrel
        have y0 := bk.cell 0
        have y1 := bk.cell 1
        have y2 := bk.cell 2
        have y3 := bk.cell 3
        have y4 := bk.cell 4
        simp at y0 y1 y2 y3 y4
        have hszi := hbwi.size
        have hlti := bk.lt
        by_cases hn : R.length ≤ 1
        · have HP := Lib.hid (by rw [← hRp, popR_short _ _ _ _ hn] : R = popR l hs k (hullR l hs k))
          obtain ⟨A2, c2, rfl⟩ := hOi.form
          have hlr : R.reverse.length = R.length := List.length_reverse
          rw [hlr] at hOi
          clear hlr
          have d1 : decide ((1 : Int) < ((R.length : Nat) : Int)) = false := by simp; omega
          have d2 : decide (1 < R.length) = false := by simp; omega
          go_wp2_with fail
          refine plain_read 17 2 mixed (by kernel_rfl) rfl ?_
          simp only [List.take_succ_cons, List.take_zero]
          (repeat (first | (refine ⟨undef, .inr ⟨by rfl, rfl⟩, ?_⟩; simp only [Act.put, List.setIfInBounds_toArray, List.set_cons_succ, List.set_cons_zero]) | (refine ⟨?_, .inl ⟨by rfl, ?_⟩, ?_⟩; rotate_left; (intro X hX; obtain ⟨r1, r2⟩ := Below.rules hX; clear hX; go_simp; rfl); simp only [Act.put, List.setIfInBounds_toArray, List.set_cons_succ, List.set_cons_zero])))
          refine any_skip1 (i := 17) (by kernel_rfl) (by rfl) (by kernel_rfl) (by (repeat (first | with_reducible assumption | with_reducible exact Below.refl _ _ | (with_reducible refine Below.setCell ?_ (by first | omega | (simp; omega) | (simp; done)) _) | (with_reducible refine Below.alloc ?_ (by first | omega | (simp; omega) | (simp; done)) _) | (with_reducible refine Below.drew ?_) | (with_reducible refine belowN ?_ _) | assumption | exact Below.refl _ _ | (refine Below.alloc ?_ (by first | omega | (simp; omega) | (simp; done)) _) | (refine Below.drew ?_) | (refine belowN ?_ _) | (refine Below.setCell ?_ (by first | omega | (simp; omega) | (simp; done)) _)))) ?_
          refine any_run1 (i := 18) (by kernel_rfl) (by rfl) (by rfl) ?_
          intro K hK
          go_wp2_with fail
          refine hK _ _ (fun hx => (Bool.false_ne_true (hx.symm.trans (by kernel_rfl))).elim) ?_
          clear hK K
          refine any_done (by kernel_rfl) (NoPanic.normal ?_)
          obtain ⟨v', w2, hrun, hown', hb', hs', _⟩ := app_pt (w1 := wr.drew) (hOi.below (by (repeat (first | with_reducible assumption | with_reducible exact Below.refl _ _ | (with_reducible refine Below.setCell ?_ (by first | omega | (simp; omega) | (simp; done)) _) | (with_reducible refine Below.alloc ?_ (by first | omega | (simp; omega) | (simp; done)) _) | (with_reducible refine Below.drew ?_) | (with_reducible refine belowN ?_ _) | assumption | exact Below.refl _ _ | (refine Below.alloc ?_ (by first | omega | (simp; omega) | (simp; done)) _) | (refine Below.drew ?_) | (refine belowN ?_ _) | (refine Below.setCell ?_ (by first | omega | (simp; omega) | (simp; done)) _))))) k (by rw [List.length_reverse]; omega) (by exact hszi) (w0 := w) (by (repeat (first | with_reducible assumption | with_reducible exact Below.refl _ _ | (with_reducible refine Below.setCell ?_ (by first | omega | (simp; omega) | (simp; done)) _) | (with_reducible refine Below.alloc ?_ (by first | omega | (simp; omega) | (simp; done)) _) | (with_reducible refine Below.drew ?_) | (with_reducible refine belowN ?_ _) | assumption | exact Below.refl _ _ | (refine Below.alloc ?_ (by first | omega | (simp; omega) | (simp; done)) _) | (refine Below.drew ?_) | (refine belowN ?_ _) | (refine Below.setCell ?_ (by first | omega | (simp; omega) | (simp; done)) _)))) (wr.drew).heap.size rfl
          have HRUN := Lib.hid hrun; clear hrun
          have HO := Lib.hid hown'; clear hown' hOi
          go_wp2_with (at_builtin; refine wpList_append_run rfl (.tmp 45) (.tmp 47) 98 _ rfl HRUN.out ?_)
          go_roundw
          case rel => exact ⟨k + 1, by omega, by go_num, by rw [hullR, ← HP.out, List.reverse_cons]; exact HO.out, by (repeat (first | with_reducible assumption | with_reducible exact Below.refl _ _ | (with_reducible refine Below.setCell ?_ (by first | omega | (simp; omega) | (simp; done)) _) | (with_reducible refine Below.alloc ?_ (by first | omega | (simp; omega) | (simp; done)) _) | (with_reducible refine Below.drew ?_) | (with_reducible refine belowN ?_ _) | assumption | exact Below.refl _ _ | (refine Below.alloc ?_ (by first | omega | (simp; omega) | (simp; done)) _) | (refine Below.drew ?_) | (refine belowN ?_ _) | (refine Below.setCell ?_ (by first | omega | (simp; omega) | (simp; done)) _)))⟩
          case measure => simp [intOf]; omega
        · obtain ⟨q, p, r, rfl⟩ : ∃ q p r, R = q :: p :: r := by
            rcases R with _ | ⟨q, _ | ⟨p, r⟩⟩
            · simp at hn
            · simp at hn
            · exact ⟨q, p, r, rfl⟩
          obtain ⟨n, hrn⟩ : ∃ n, r.length = n := ⟨_, rfl⟩
          have hlr : (q :: p :: r).reverse.length = n + 2 := by simp [hrn]
          obtain ⟨g2, c2, rfl, hg2, hc2, hcells⟩ := hOi.cells (by omega)
          have hc0 := hcells n (by omega)
          have hc1 := hcells (n + 1) (by omega)
          have e0 : (q :: p :: r).reverse.getD n 0 = p := by
            rw [List.getD_eq_getElem?_getD, List.getElem?_reverse (by simp; omega)]; simp [hrn]
          have e1 : (q :: p :: r).reverse.getD (n + 1) 0 = q := by
            rw [List.getD_eq_getElem?_getD, List.getElem?_reverse (by simp; omega)]; simp [hrn]
          rw [e0] at hc0
          rw [e1] at hc1
          clear hcells e0 e1
          rw [hlr] at hOi hc2 ⊢
          obtain ⟨x0, x1, x2, x3, x4⟩ := hc0
          obtain ⟨z0, z1, z2, z3, z4⟩ := hc1
          have hq := hRl q (by simp)
          have hp := hRl p (by simp)
          have b1 := HA2.out q hq
          have b2 := HA2.out p hp
          have b3 := HA2.out k hlt
          have b4 := HH.out q hq
          have b5 := HH.out p hp
          have b6 := HH.out k hlt
          obtain ⟨up, hup⟩ : ∃ up, aboveB (nthS l p).a (nthI hs p) (nthS l q).a (nthI hs q) (nthS l k).a (nthI hs k) = up := ⟨_, rfl⟩
          have hab : ∀ W, Calls Try.prog 62 #[.agg #[.int .i64 (nthS l p).a, .int .i64 (nthS l p).lo, .int .i64 (nthS l p).hi, .int .i64 p, .int .i64 (nthI hs p)], .agg #[.int .i64 (nthS l q).a, .int .i64 (nthS l q).lo, .int .i64 (nthS l q).hi, .int .i64 q, .int .i64 (nthI hs q)], .agg #[.int .i64 (nthS l k).a, .int .i64 (nthS l k).lo, .int .i64 (nthS l k).hi, .int .i64 k, .int .i64 (nthI hs k)]] W fun e w' => e = .returned (.bool up) ∧ Below W.heap.size W w' := by
            intro W
            rw [← hup]
            exact above_any _ _ _ _ _ _ _ _ _ _ _ _ _ _ _ _ (by omega) (by omega) (by omega) (by omega) (by omega) (by omega)
          have HAB := Lib.hid hab; clear hab b1 b2 b3 b4 b5 b6
          have d1 : decide ((1 : Int) < (n : Int) + 2) = true := by simp; omega
          have hn25 : n ≤ 25 := by simp only [List.length_cons] at hR25; omega
          have _hp1 : ((n : Int) + 2 - 2).toNat = n := by omega
          have _hp2 : ((n : Int) + 2 - 1).toNat = n + 1 := by omega
          have _hp3 : ((n : Int) + 1).toNat = n + 1 := by omega
          have _hw1 : IntKind.i64.wrap (n : Int) = (n : Int) := by rw [IntKind.wrap_i64]; omega
          have _hw2 : IntKind.i64.wrap ((n : Int) + 1) = (n : Int) + 1 := by rw [IntKind.wrap_i64]; omega
          have hpop := popR_two l hs k q p r
          rw [hup, hRp] at hpop
          have HPOP := Lib.hid hpop; clear hpop hup hRp
          have _hw4 : IntKind.i64.wrap ((n : Int) + 2 - 1) = (n : Int) + 1 := by rw [IntKind.wrap_i64]; omega
          have _hn0 : (0 : Int) ≤ (n : Int) + 1 := by omega
          have hn1 : (n : Int) < (n : Int) + 2 := by omega
          have hn2 : (n : Int) + 1 < (n : Int) + 2 := by omega
          go_wp2_with fail
          refine plain_read 17 2 mixed (by kernel_rfl) rfl ?_
          simp only [List.take_succ_cons, List.take_zero]
          (repeat (first | (refine ⟨undef, .inr ⟨by rfl, rfl⟩, ?_⟩; simp only [Act.put, List.setIfInBounds_toArray, List.set_cons_succ, List.set_cons_zero]) | (refine ⟨?_, .inl ⟨by rfl, ?_⟩, ?_⟩; rotate_left; (intro X hX; obtain ⟨r1, r2⟩ := Below.rules hX; clear hX; go_simp; rfl); simp only [Act.put, List.setIfInBounds_toArray, List.set_cons_succ, List.set_cons_zero])))
          refine any_run1 (i := 17) (by kernel_rfl) (by rfl) (by kernel_rfl) ?_
          intro K hK
          go_wp2_with fail
          refine (HAB.out _).mono ?_
          rintro e w2 ⟨rfl, hb2⟩
          refine hK _ _ (fun hx => (Bool.false_ne_true (hx.symm.trans (by kernel_rfl))).elim) ?_
          clear hK K
          refine any_run1 (i := 18) (by kernel_rfl) (by rfl) (by rfl) ?_
          intro K hK
          go_wp2_with fail
          refine hK _ _ (fun hx => (Bool.false_ne_true (hx.symm.trans (by kernel_rfl))).elim) ?_
          clear hK K
          refine any_done (by kernel_rfl) (NoPanic.normal ?_)
          have hbb : Below wr.heap.size wr w2 := Below.trans (b := wr.drew) (by (repeat (first | with_reducible assumption | with_reducible exact Below.refl _ _ | (with_reducible refine Below.setCell ?_ (by first | omega | (simp; omega) | (simp; done)) _) | (with_reducible refine Below.alloc ?_ (by first | omega | (simp; omega) | (simp; done)) _) | (with_reducible refine Below.drew ?_) | (with_reducible refine belowN ?_ _) | assumption | exact Below.refl _ _ | (refine Below.alloc ?_ (by first | omega | (simp; omega) | (simp; done)) _) | (refine Below.drew ?_) | (refine belowN ?_ _) | (refine Below.setCell ?_ (by first | omega | (simp; omega) | (simp; done)) _)))) hb2
          have hO2 := OwnP.below hOi hbb
          have bk2 := bk.below hbb hlti
          have hbw2 : Below w.heap.size w w2 := hbwi.trans (hbb.mono hszi)
          have hsz2 := hbw2.size
          have hlt2 := bk2.lt
          clear hb2 hbb bk hOi y0 y1 y2 y3 y4 x0 x1 x2 x3 x4 z0 z1 z2 z3 z4
          cases up with
          | true =>
            have hcut := hO2.cut hlr.symm (m := n + 1) (by omega)
            have htk : (q :: p :: r).reverse.take (n + 1) = (p :: r).reverse := by
              rw [List.reverse_cons, List.take_left' (by simp [hrn])]
            rw [htk] at hcut
            have hRl' : ∀ x ∈ p :: r, x < l.length := fun x hx => hRl x (List.mem_cons_of_mem _ hx)
            have HCUT := Lib.hid hcut
            have HRL := Lib.hid hRl'
            clear hcut hRl' htk hRl hO2
            have hR25' : (p :: r).length ≤ 25 := by simp only [List.length_cons] at hR25 ⊢; omega
            have _hw3 : ((n : Int) + 2 - 1) = (n : Int) + 1 := by omega
            have _hn3 : (n : Int) + 1 ≤ (c2 : Int) := by omega
            have _hn4 : (0 : Int) ≤ (n : Int) + 1 := by omega
            have _hn5 : n + 1 ≤ c2 := by omega
            go_wp2_with fail
            go_roundw
            case rel => exact ⟨p :: r, HCUT.out, HRL.out, by rw [HPOP.out]; rfl, hR25', bk2, hbw2⟩
            case measure => simp [slLen]
          | false =>
            have HP := Lib.hid (by rw [HPOP.out]; rfl : q :: p :: r = popR l hs k (hullR l hs k))
            have y0 := bk2.cell 0
            have y1 := bk2.cell 1
            have y2 := bk2.cell 2
            have y3 := bk2.cell 3
            have y4 := bk2.cell 4
            simp at y0 y1 y2 y3 y4
            have hlrn : (q :: p :: r).length = n + 2 := by simp [hrn]
            have hO2x := hO2
            have hOi := hO2
            clear hO2 hRl
            obtain ⟨v', w2, hrun, hown', hb', hs', _⟩ := app_pt (w1 := w2) (hO2x) k (by rw [List.length_reverse]; omega) (by exact hsz2) (w0 := w) (by (repeat (first | with_reducible assumption | with_reducible exact Below.refl _ _ | (with_reducible refine Below.setCell ?_ (by first | omega | (simp; omega) | (simp; done)) _) | (with_reducible refine Below.alloc ?_ (by first | omega | (simp; omega) | (simp; done)) _) | (with_reducible refine Below.drew ?_) | (with_reducible refine belowN ?_ _) | assumption | exact Below.refl _ _ | (refine Below.alloc ?_ (by first | omega | (simp; omega) | (simp; done)) _) | (refine Below.drew ?_) | (refine belowN ?_ _) | (refine Below.setCell ?_ (by first | omega | (simp; omega) | (simp; done)) _)))) (w2).heap.size rfl
            have HRUN := Lib.hid hrun; clear hrun
            have HO := Lib.hid hown'; clear hown' hOi
            go_wp2_with (at_builtin; refine wpList_append_run rfl (.tmp 45) (.tmp 47) 98 _ rfl HRUN.out ?_)
            go_roundw
            case rel => exact ⟨k + 1, by omega, by go_num, by rw [hullR, ← HP.out, List.reverse_cons]; exact HO.out, by (repeat (first | with_reducible assumption | with_reducible exact Below.refl _ _ | (with_reducible refine Below.setCell ?_ (by first | omega | (simp; omega) | (simp; done)) _) | (with_reducible refine Below.alloc ?_ (by first | omega | (simp; omega) | (simp; done)) _) | (with_reducible refine Below.drew ?_) | (with_reducible refine belowN ?_ _) | assumption | exact Below.refl _ _ | (refine Below.alloc ?_ (by first | omega | (simp; omega) | (simp; done)) _) | (refine Below.drew ?_) | (refine belowN ?_ _) | (refine Below.setCell ?_ (by first | omega | (simp; omega) | (simp; done)) _)))⟩
            case measure => simp [intOf]; omega
    · have hkl : k = l.length := by omega
      subst hkl
      have h25 := hullR_len l hs l.length
      have hpos : 0 < (hullR l hs l.length).reverse.length := by
        rw [List.length_reverse]
        cases hx : l.length with
        | zero => omega
        | succ m => simp [hullR]
      obtain ⟨L, hL⟩ : ∃ L, (hullR l hs l.length).reverse = L := ⟨_, rfl⟩
      rw [← List.length_reverse, hL] at h25
      rw [hL] at hown hpos
      obtain ⟨g2, c2, rfl, hg2, hsrc⟩ := hown.row hpos
      obtain ⟨n, hn⟩ : ∃ n, L.length = n := ⟨_, rfl⟩
      rw [hn] at h25 hpos hown ⊢
      have hmk := fun W => make_pts .i64 .i64 n (by omega) W
      have hbk : BK (wr.alloc (.cells (madeCells #[.int .i64 0, .int .i64 0, .int .i64 0, .int .i64 0, .int .i64 0] (n * 5)) 85)) wr.heap.size (madeCells #[.int .i64 0, .int .i64 0, .int .i64 0, .int .i64 0, .int .i64 0] (n * 5)) 85 := BK.new _ _ _
      have hlen := ofP_length l hs L
      rw [hn] at hlen
      obtain ⟨w2, hcp, hb2, hbl2⟩ := copy_pts (wr.alloc (.cells (madeCells #[.int .i64 0, .int .i64 0, .int .i64 0, .int .i64 0, .int .i64 0] (n * 5)) 85)) wr.heap.size n n c2 ⟨g2, 0, none⟩ _ (ofP l hs L) 3 hbk (size_madeCells _ _) hlen (fun j u hj => by
        have := hsrc j u hj
        have e : (⟨g2, 0, none⟩ : Addr).add j = ⟨g2, j, none⟩ := by unfold Addr.add; split <;> simp_all
        rw [e] at this ⊢
        rw [World.cell?_alloc_lt _ _ _ (by exact hg2)]; exact this) (ofP_one l hs L)
      have hb3 := hbl2 w.heap.size w hsz (by (repeat (first | with_reducible assumption | with_reducible exact Below.refl _ _ | (with_reducible refine Below.setCell ?_ (by first | omega | (simp; omega) | (simp; done)) _) | (with_reducible refine Below.alloc ?_ (by first | omega | (simp; omega) | (simp; done)) _) | (with_reducible refine Below.drew ?_) | (with_reducible refine belowN ?_ _) | assumption | exact Below.refl _ _ | (refine Below.alloc ?_ (by first | omega | (simp; omega) | (simp; done)) _) | (refine Below.drew ?_) | (refine belowN ?_ _) | (refine Below.setCell ?_ (by first | omega | (simp; omega) | (simp; done)) _))))
      have HO := Lib.hid (OwnP.made (base := w.heap.size) hb2 hsz hn.symm (by omega))
      have HL := Lib.hid hL
      clear hb2 hbl2 hlen hbk hsrc hown hL
      go_wp2_with fail
      go_ret
      exact ⟨_, rfl, by rw [HL.out]; exact HO.out, hb3⟩
end Go.Proofs.Ytbjmkmambmeifaa

namespace Go.Proofs.Ytbjmkmambmeifaa
open Go.RowKit

def lessW (a b : Ra) : Bool := decide (wrap64 (a.num * b.den) < wrap64 (b.num * a.den))
theorem less_any (a b c d : Int) (w : World) :
    Calls Try.prog 71 #[.agg #[.int .i64 a, .int .i64 b], .agg #[.int .i64 c, .int .i64 d]] w fun e w' =>
      e = .returned (.bool (lessW ⟨a, b⟩ ⟨c, d⟩)) ∧ (w.alloc (.cells #[.int .i64 a, .int .i64 b] 25)).alloc (.cells #[.int .i64 c, .int .i64 d] 25) = w' := by
  go_enter Try.func71, Try.ntmps71
  go_wp2
  go_ret
  exact ⟨rfl, rfl⟩
theorem refLess_any (a b c d : Int) (w : World) :
    Calls Try.prog 40 #[.agg #[.int .i64 a, .int .i64 b], .agg #[.int .i64 c, .int .i64 d]] w fun e w' =>
      e = .returned (.bool (lessW ⟨a, b⟩ ⟨c, d⟩)) ∧ (w.alloc (.cells #[.int .i64 a, .int .i64 b] 25)).alloc (.cells #[.int .i64 c, .int .i64 d] 25) = w' := by
  go_enter Try.func40, Try.ntmps40
  go_wp2
  go_ret
  exact ⟨rfl, rfl⟩
/-- The closures 'more' of span and over. -/
theorem more1_any (a b c d : Int) (w : World) :
    Calls Try.prog 70 #[.agg #[.int .i64 a, .int .i64 b], .agg #[.int .i64 c, .int .i64 d]] w fun e w' =>
      e = .returned (.bool (lessW ⟨c, d⟩ ⟨a, b⟩)) ∧ (((w.alloc (.cells #[.int .i64 a, .int .i64 b] 25)).alloc (.cells #[.int .i64 c, .int .i64 d] 25)).alloc (.cells #[.int .i64 c, .int .i64 d] 25)).alloc (.cells #[.int .i64 a, .int .i64 b] 25) = w' := by
  go_enter Try.func70, Try.ntmps70
  go_wp2_with fail
  refine (less_any _ _ _ _ _).mono ?_; rintro e w' ⟨rfl, rfl⟩
  go_wp2_with fail
  go_ret
  exact ⟨rfl, rfl⟩
theorem more2_any (a b c d : Int) (w : World) :
    Calls Try.prog 76 #[.agg #[.int .i64 a, .int .i64 b], .agg #[.int .i64 c, .int .i64 d]] w fun e w' =>
      e = .returned (.bool (lessW ⟨c, d⟩ ⟨a, b⟩)) ∧ (((w.alloc (.cells #[.int .i64 a, .int .i64 b] 25)).alloc (.cells #[.int .i64 c, .int .i64 d] 25)).alloc (.cells #[.int .i64 c, .int .i64 d] 25)).alloc (.cells #[.int .i64 a, .int .i64 b] 25) = w' := by
  go_enter Try.func76, Try.ntmps76
  go_wp2_with fail
  refine (less_any _ _ _ _ _).mono ?_; rintro e w' ⟨rfl, rfl⟩
  go_wp2_with fail
  go_ret
  exact ⟨rfl, rfl⟩

theorem of_any (a b : Int) (w : World) :
    Calls Try.prog 42 #[.int .i64 a, .int .i64 b] w fun e w' => e = .returned (.agg #[.int .i64 a, .int .i64 b]) ∧ w.alloc (.cells #[.int .i64 a, .int .i64 b] 25) = w' := by
  go_enter Try.func42, Try.ntmps42
  go_wp2
  exact bodyPost_ret (v := .agg #[.int .i64 a, .int .i64 b]) (by simp [results, Try.results42, go_sem]) rfl ⟨rfl, rfl⟩
theorem station_any (a b c : Int) (w : World) :
    Calls Try.prog 45 #[.int .i64 a, .int .i64 b, .int .i64 c] w fun e w' => e = .returned (.agg #[.int .i64 a, .int .i64 b, .int .i64 c]) ∧ w.alloc (.cells #[.int .i64 a, .int .i64 b, .int .i64 c] 62) = w' := by
  go_enter Try.func45, Try.ntmps45
  go_wp2
  exact bodyPost_ret (v := .agg #[.int .i64 a, .int .i64 b, .int .i64 c]) (by simp [results, Try.results45, go_sem]) rfl ⟨rfl, rfl⟩
theorem lawSpan_any (a b c d : Int) (w : World) :
    Calls Try.prog 48 #[.int .i64 a, .int .i64 b, .int .i64 c, .int .i64 d] w fun e w' => e = .returned (.agg #[.int .i64 a, .int .i64 b, .int .i64 c, .int .i64 d]) ∧
      ((w.alloc (.cells #[.int .i64 a, .int .i64 b, .int .i64 c, .int .i64 d] 34)).alloc (.cells #[.int .i64 a, .int .i64 b] 25)).alloc (.cells #[.int .i64 c, .int .i64 d] 25) = w' := by
  go_enter Try.func48, Try.ntmps48
  go_wp2_with fail
  refine (of_any _ _ _).mono ?_; rintro e w' ⟨rfl, rfl⟩
  go_wp2_with fail
  refine (of_any _ _ _).mono ?_; rintro e w' ⟨rfl, rfl⟩
  go_wp2_with fail
  refine bodyPost_ret (v := .agg #[.int .i64 a, .int .i64 b, .int .i64 c, .int .i64 d]) (by simp [results, Try.results48, go_sem]) rfl ⟨rfl, ?_⟩
  simp [go_sem]
theorem great_any (n cap : Nat) (A : Option Addr) (w : World) : Calls Try.prog 13 #[.slice A n cap] w fun e w' => e = .returned (.bool (decide (35 < (n : Int)))) ∧ w = w' := by
  go_enter Try.func13, Try.ntmps13
  go_wp2
  go_ret
  exact ⟨rfl, rfl⟩

def isTilt (t : Ra) : Bool := decide (1 ≤ t.den ∧ t.den ≤ 1000000 ∧ -10000 * t.den ≤ t.num ∧ t.num ≤ 10000 * t.den)
theorem isTilt_any (a b : Int) (w : World) :
    Calls Try.prog 41 #[.agg #[.int .i64 a, .int .i64 b]] w fun e w' => e = .returned (.bool (isTilt ⟨a, b⟩)) ∧ w.alloc (.cells #[.int .i64 a, .int .i64 b] 25) = w' := by
  go_enter Try.func41, Try.ntmps41
  go_wp2
  all_goals (go_ret; refine ⟨?_, rfl⟩; simp [isTilt, *]; try omega)

def smallR (a b : Ra) : Bool := decide (1 ≤ a.den ∧ a.den ≤ 1000 ∧ 1 ≤ b.den ∧ b.den ≤ 1000 ∧ -10000000 ≤ a.num ∧ a.num ≤ 10000000 ∧ -10000000 ≤ b.num ∧ b.num ≤ 10000000)
theorem small_any (a b c d : Int) (w : World) :
    Calls Try.prog 43 #[.agg #[.int .i64 a, .int .i64 b, .int .i64 c, .int .i64 d]] w fun e w' => e = .returned (.bool (smallR ⟨a, b⟩ ⟨c, d⟩)) ∧
      w.alloc (.cells #[.int .i64 a, .int .i64 b, .int .i64 c, .int .i64 d] 34) = w' := by
  go_enter Try.func43, Try.ntmps43
  go_wp2
  all_goals (go_ret; refine ⟨?_, rfl⟩; simp [smallR, *]; try omega)
end Go.Proofs.Ytbjmkmambmeifaa

namespace Go.Proofs.Ytbjmkmambmeifaa
open Go.RowKit

def frac (n d : Int) : Ra := ⟨n / (Int.gcd n d : Int), d / (Int.gcd n d : Int)⟩

theorem frac_num (n d : Int) (g : Nat) (hg : Int.gcd n d = g) : (frac n d).num = n.tdiv g := by
  subst hg; exact (Int.tdiv_eq_ediv_of_dvd (Int.gcd_dvd_left ..)).symm
theorem frac_den (n d : Int) (g : Nat) (hg : Int.gcd n d = g) : (frac n d).den = d.tdiv g := by
  subst hg; exact (Int.tdiv_eq_ediv_of_dvd (Int.gcd_dvd_right ..)).symm
theorem gcd_pos' (n d : Int) (h : 0 < d) : 0 < Int.gcd n d := Int.gcd_pos_of_ne_zero_right _ (by omega)
theorem tdiv_abs (n : Int) (g : Nat) : -(n.natAbs : Int) ≤ n.tdiv g ∧ n.tdiv g ≤ n.natAbs := by
  have := Int.natAbs_tdiv_le_natAbs n g
  omega

set_option maxHeartbeats 1000000 in
theorem least_pos (n d : Int) (w : World) (h0 : 0 ≤ n) (h2 : n ≤ 4611686018427387904) (h3 : 0 < d) (h4 : d ≤ 4611686018427387904) :
    Calls Try.prog 75 #[.int .i64 n, .int .i64 d] w fun e w' => e = .returned (.agg #[.int .i64 (frac n d).num, .int .i64 (frac n d).den]) ∧ Below w.heap.size w w' := by
  have hmx : ¬ n < -n := by omega
  go_enter Try.func75, Try.ntmps75
  go_wp2_with fail
  go_loopw [5, 6] (fun x y wr => ∃ a b : Nat, a ≤ 4611686018427387904 ∧ b ≤ 4611686018427387904 ∧ x = .int .i64 a ∧ y = .int .i64 b ∧ Hid (Nat.gcd a b = Int.gcd n d) ∧ ∃ m, wr = (w.alloc (.cells #[.int .i64 0, .int .i64 0] 25)).drewN m) (fun _ y _ => (intOf y).toNat)
  case atStart => exact ⟨n.toNat, d.toNat, by omega, by omega, by rw [Int.toNat_of_nonneg (by omega)], by rw [Int.toNat_of_nonneg (by omega)], Lib.hid (by show Nat.gcd _ _ = Nat.gcd n.natAbs d.natAbs; congr 1 <;> omega), 0, rfl⟩
  case round =>
    obtain ⟨a, b, ha, hb, rfl, rfl, hg, m, rfl⟩ := hrel
    by_cases hz : b = 0
    · subst hz
      have hga : Int.gcd n d = a := by rw [← hg.out, Nat.gcd_zero_right]
      have ha1 : 1 ≤ a := by rw [← hga]; exact gcd_pos' n d h3
      have HN := Lib.hid (frac_num n d a hga)
      have HD := Lib.hid (frac_den n d a hga)
      clear hga hg
      have haz : ((a : Int) == 0) = false := by simp; omega
      obtain ⟨t1, t2⟩ := tdiv_abs n a
      obtain ⟨t3, t4⟩ := tdiv_abs d a
      have tn : (n.natAbs : Int) ≤ 4611686018427387904 := by omega
      have td : (d.natAbs : Int) ≤ 4611686018427387904 := by omega
      go_wp2_with fail
      go_region
      all_goals
        go_wp2_with fail
        exact bodyPost_ret (v := .agg #[.int .i64 (frac n d).num, .int .i64 (frac n d).den]) (by rw [HN.out, HD.out]; simp [results, Try.results75, go_sem]) rfl ⟨rfl, by (repeat (first | with_reducible assumption | with_reducible exact Below.refl _ _ | (with_reducible refine Below.setCell ?_ (by first | omega | (simp; omega) | (simp; done)) _) | (with_reducible refine Below.alloc ?_ (by first | omega | (simp; omega) | (simp; done)) _) | (with_reducible refine Below.drew ?_) | (with_reducible refine belowN ?_ _) | assumption | exact Below.refl _ _ | (refine Below.alloc ?_ (by first | omega | (simp; omega) | (simp; done)) _) | (refine Below.drew ?_) | (refine belowN ?_ _) | (refine Below.setCell ?_ (by first | omega | (simp; omega) | (simp; done)) _)))⟩
    · have hz1 : ((b : Int) == 0) = false := by simpa using hz
      have hz2 : ((b : Int) != 0) = true := by simpa using hz
      go_wp2_with fail
      go_quiet (fail)
      go_wp2_with fail
      go_roundw
      case rel => exact ⟨b, a % b, by omega, by have := Nat.mod_lt a (Nat.pos_of_ne_zero hz); omega, by first | rfl | go_num, by first | rfl | go_num, Lib.hid (by rw [Nat.gcd_comm, ← Nat.gcd_rec, Nat.gcd_comm]; exact hg.out), _, by first | rfl | exact World.drewN_drewN _ _ _⟩
      case measure => simp [intOf]; have := Nat.mod_lt a (Nat.pos_of_ne_zero hz); omega

set_option maxHeartbeats 1000000 in
theorem least_neg (n d : Int) (w : World) (h0 : n < 0) (h1 : -4611686018427387904 ≤ n) (h3 : 0 < d) (h4 : d ≤ 4611686018427387904) :
    Calls Try.prog 75 #[.int .i64 n, .int .i64 d] w fun e w' => e = .returned (.agg #[.int .i64 (frac n d).num, .int .i64 (frac n d).den]) ∧ Below w.heap.size w w' := by
  have hmx : n < -n := by omega
  go_enter Try.func75, Try.ntmps75
  go_wp2_with fail
  go_loopw [5, 6] (fun x y wr => ∃ a b : Nat, a ≤ 4611686018427387904 ∧ b ≤ 4611686018427387904 ∧ x = .int .i64 a ∧ y = .int .i64 b ∧ Hid (Nat.gcd a b = Int.gcd n d) ∧ ∃ m, wr = (w.alloc (.cells #[.int .i64 0, .int .i64 0] 25)).drewN m) (fun _ y _ => (intOf y).toNat)
  case atStart => exact ⟨(-n).toNat, d.toNat, by omega, by omega, by rw [Int.toNat_of_nonneg (by omega)], by rw [Int.toNat_of_nonneg (by omega)], Lib.hid (by show Nat.gcd _ _ = Nat.gcd n.natAbs d.natAbs; congr 1 <;> omega), 0, rfl⟩
  case round =>
    obtain ⟨a, b, ha, hb, rfl, rfl, hg, m, rfl⟩ := hrel
    by_cases hz : b = 0
    · subst hz
      have hga : Int.gcd n d = a := by rw [← hg.out, Nat.gcd_zero_right]
      have ha1 : 1 ≤ a := by rw [← hga]; exact gcd_pos' n d h3
      have HN := Lib.hid (frac_num n d a hga)
      have HD := Lib.hid (frac_den n d a hga)
      clear hga hg
      have haz : ((a : Int) == 0) = false := by simp; omega
      obtain ⟨t1, t2⟩ := tdiv_abs n a
      obtain ⟨t3, t4⟩ := tdiv_abs d a
      have tn : (n.natAbs : Int) ≤ 4611686018427387904 := by omega
      have td : (d.natAbs : Int) ≤ 4611686018427387904 := by omega
      go_wp2_with fail
      go_region
      all_goals
        go_wp2_with fail
        exact bodyPost_ret (v := .agg #[.int .i64 (frac n d).num, .int .i64 (frac n d).den]) (by rw [HN.out, HD.out]; simp [results, Try.results75, go_sem]) rfl ⟨rfl, by (repeat (first | with_reducible assumption | with_reducible exact Below.refl _ _ | (with_reducible refine Below.setCell ?_ (by first | omega | (simp; omega) | (simp; done)) _) | (with_reducible refine Below.alloc ?_ (by first | omega | (simp; omega) | (simp; done)) _) | (with_reducible refine Below.drew ?_) | (with_reducible refine belowN ?_ _) | assumption | exact Below.refl _ _ | (refine Below.alloc ?_ (by first | omega | (simp; omega) | (simp; done)) _) | (refine Below.drew ?_) | (refine belowN ?_ _) | (refine Below.setCell ?_ (by first | omega | (simp; omega) | (simp; done)) _)))⟩
    · have hz1 : ((b : Int) == 0) = false := by simpa using hz
      have hz2 : ((b : Int) != 0) = true := by simpa using hz
      go_wp2_with fail
      go_quiet (fail)
      go_wp2_with fail
      go_roundw
      case rel => exact ⟨b, a % b, by omega, by have := Nat.mod_lt a (Nat.pos_of_ne_zero hz); omega, by first | rfl | go_num, by first | rfl | go_num, Lib.hid (by rw [Nat.gcd_comm, ← Nat.gcd_rec, Nat.gcd_comm]; exact hg.out), _, by first | rfl | exact World.drewN_drewN _ _ _⟩
      case measure => simp [intOf]; have := Nat.mod_lt a (Nat.pos_of_ne_zero hz); omega

theorem least_any (n d : Int) (w : World) (h1 : -4611686018427387904 ≤ n) (h2 : n ≤ 4611686018427387904) (h3 : 0 < d) (h4 : d ≤ 4611686018427387904) :
    Calls Try.prog 75 #[.int .i64 n, .int .i64 d] w fun e w' => e = .returned (.agg #[.int .i64 (frac n d).num, .int .i64 (frac n d).den]) ∧ Below w.heap.size w w' := by
  by_cases h : 0 ≤ n
  · exact least_pos n d w h h2 h3 h4
  · exact least_neg n d w (by omega) h1 h3 h4

set_option maxHeartbeats 1000000 in
theorem fraction_pos (n d : Int) (w : World) (h0 : 0 ≤ n) (h2 : n ≤ 4611686018427387904) (h3 : 0 < d) (h4 : d ≤ 4611686018427387904) :
    Calls Try.prog 73 #[.int .i64 n, .int .i64 d] w fun e w' => e = .returned (.agg #[.int .i64 (frac n d).num, .int .i64 (frac n d).den]) ∧ Below w.heap.size w w' := by
  have hmx : ¬ n < -n := by omega
  go_enter Try.func73, Try.ntmps73
  go_wp2_with fail
  go_loopw [5, 6] (fun x y wr => ∃ a b : Nat, a ≤ 4611686018427387904 ∧ b ≤ 4611686018427387904 ∧ x = .int .i64 a ∧ y = .int .i64 b ∧ Hid (Nat.gcd a b = Int.gcd n d) ∧ ∃ m, wr = (w.alloc (.cells #[.int .i64 0, .int .i64 0] 25)).drewN m) (fun _ y _ => (intOf y).toNat)
  case atStart => exact ⟨n.toNat, d.toNat, by omega, by omega, by rw [Int.toNat_of_nonneg (by omega)], by rw [Int.toNat_of_nonneg (by omega)], Lib.hid (by show Nat.gcd _ _ = Nat.gcd n.natAbs d.natAbs; congr 1 <;> omega), 0, rfl⟩
  case round =>
    obtain ⟨a, b, ha, hb, rfl, rfl, hg, m, rfl⟩ := hrel
    by_cases hz : b = 0
    · subst hz
      have hga : Int.gcd n d = a := by rw [← hg.out, Nat.gcd_zero_right]
      have ha1 : 1 ≤ a := by rw [← hga]; exact gcd_pos' n d h3
      have HN := Lib.hid (frac_num n d a hga)
      have HD := Lib.hid (frac_den n d a hga)
      clear hga hg
      have haz : ((a : Int) == 0) = false := by simp; omega
      obtain ⟨t1, t2⟩ := tdiv_abs n a
      obtain ⟨t3, t4⟩ := tdiv_abs d a
      have tn : (n.natAbs : Int) ≤ 4611686018427387904 := by omega
      have td : (d.natAbs : Int) ≤ 4611686018427387904 := by omega
      go_wp2_with fail
      go_region
      all_goals
        go_wp2_with fail
        exact bodyPost_ret (v := .agg #[.int .i64 (frac n d).num, .int .i64 (frac n d).den]) (by rw [HN.out, HD.out]; simp [results, Try.results73, go_sem]) rfl ⟨rfl, by (repeat (first | with_reducible assumption | with_reducible exact Below.refl _ _ | (with_reducible refine Below.setCell ?_ (by first | omega | (simp; omega) | (simp; done)) _) | (with_reducible refine Below.alloc ?_ (by first | omega | (simp; omega) | (simp; done)) _) | (with_reducible refine Below.drew ?_) | (with_reducible refine belowN ?_ _) | assumption | exact Below.refl _ _ | (refine Below.alloc ?_ (by first | omega | (simp; omega) | (simp; done)) _) | (refine Below.drew ?_) | (refine belowN ?_ _) | (refine Below.setCell ?_ (by first | omega | (simp; omega) | (simp; done)) _)))⟩
    · have hz1 : ((b : Int) == 0) = false := by simpa using hz
      have hz2 : ((b : Int) != 0) = true := by simpa using hz
      go_wp2_with fail
      go_quiet (fail)
      go_wp2_with fail
      go_roundw
      case rel => exact ⟨b, a % b, by omega, by have := Nat.mod_lt a (Nat.pos_of_ne_zero hz); omega, by first | rfl | go_num, by first | rfl | go_num, Lib.hid (by rw [Nat.gcd_comm, ← Nat.gcd_rec, Nat.gcd_comm]; exact hg.out), _, by first | rfl | exact World.drewN_drewN _ _ _⟩
      case measure => simp [intOf]; have := Nat.mod_lt a (Nat.pos_of_ne_zero hz); omega

set_option maxHeartbeats 1000000 in
theorem fraction_neg (n d : Int) (w : World) (h0 : n < 0) (h1 : -4611686018427387904 ≤ n) (h3 : 0 < d) (h4 : d ≤ 4611686018427387904) :
    Calls Try.prog 73 #[.int .i64 n, .int .i64 d] w fun e w' => e = .returned (.agg #[.int .i64 (frac n d).num, .int .i64 (frac n d).den]) ∧ Below w.heap.size w w' := by
  have hmx : n < -n := by omega
  go_enter Try.func73, Try.ntmps73
  go_wp2_with fail
  go_loopw [5, 6] (fun x y wr => ∃ a b : Nat, a ≤ 4611686018427387904 ∧ b ≤ 4611686018427387904 ∧ x = .int .i64 a ∧ y = .int .i64 b ∧ Hid (Nat.gcd a b = Int.gcd n d) ∧ ∃ m, wr = (w.alloc (.cells #[.int .i64 0, .int .i64 0] 25)).drewN m) (fun _ y _ => (intOf y).toNat)
  case atStart => exact ⟨(-n).toNat, d.toNat, by omega, by omega, by rw [Int.toNat_of_nonneg (by omega)], by rw [Int.toNat_of_nonneg (by omega)], Lib.hid (by show Nat.gcd _ _ = Nat.gcd n.natAbs d.natAbs; congr 1 <;> omega), 0, rfl⟩
  case round =>
    obtain ⟨a, b, ha, hb, rfl, rfl, hg, m, rfl⟩ := hrel
    by_cases hz : b = 0
    · subst hz
      have hga : Int.gcd n d = a := by rw [← hg.out, Nat.gcd_zero_right]
      have ha1 : 1 ≤ a := by rw [← hga]; exact gcd_pos' n d h3
      have HN := Lib.hid (frac_num n d a hga)
      have HD := Lib.hid (frac_den n d a hga)
      clear hga hg
      have haz : ((a : Int) == 0) = false := by simp; omega
      obtain ⟨t1, t2⟩ := tdiv_abs n a
      obtain ⟨t3, t4⟩ := tdiv_abs d a
      have tn : (n.natAbs : Int) ≤ 4611686018427387904 := by omega
      have td : (d.natAbs : Int) ≤ 4611686018427387904 := by omega
      go_wp2_with fail
      go_region
      all_goals
        go_wp2_with fail
        exact bodyPost_ret (v := .agg #[.int .i64 (frac n d).num, .int .i64 (frac n d).den]) (by rw [HN.out, HD.out]; simp [results, Try.results73, go_sem]) rfl ⟨rfl, by (repeat (first | with_reducible assumption | with_reducible exact Below.refl _ _ | (with_reducible refine Below.setCell ?_ (by first | omega | (simp; omega) | (simp; done)) _) | (with_reducible refine Below.alloc ?_ (by first | omega | (simp; omega) | (simp; done)) _) | (with_reducible refine Below.drew ?_) | (with_reducible refine belowN ?_ _) | assumption | exact Below.refl _ _ | (refine Below.alloc ?_ (by first | omega | (simp; omega) | (simp; done)) _) | (refine Below.drew ?_) | (refine belowN ?_ _) | (refine Below.setCell ?_ (by first | omega | (simp; omega) | (simp; done)) _)))⟩
    · have hz1 : ((b : Int) == 0) = false := by simpa using hz
      have hz2 : ((b : Int) != 0) = true := by simpa using hz
      go_wp2_with fail
      go_quiet (fail)
      go_wp2_with fail
      go_roundw
      case rel => exact ⟨b, a % b, by omega, by have := Nat.mod_lt a (Nat.pos_of_ne_zero hz); omega, by first | rfl | go_num, by first | rfl | go_num, Lib.hid (by rw [Nat.gcd_comm, ← Nat.gcd_rec, Nat.gcd_comm]; exact hg.out), _, by first | rfl | exact World.drewN_drewN _ _ _⟩
      case measure => simp [intOf]; have := Nat.mod_lt a (Nat.pos_of_ne_zero hz); omega

theorem fraction_any (n d : Int) (w : World) (h1 : -4611686018427387904 ≤ n) (h2 : n ≤ 4611686018427387904) (h3 : 0 < d) (h4 : d ≤ 4611686018427387904) :
    Calls Try.prog 73 #[.int .i64 n, .int .i64 d] w fun e w' => e = .returned (.agg #[.int .i64 (frac n d).num, .int .i64 (frac n d).den]) ∧ Below w.heap.size w w' := by
  by_cases h : 0 ≤ n
  · exact fraction_pos n d w h h2 h3 h4
  · exact fraction_neg n d w (by omega) h1 h3 h4
end Go.Proofs.Ytbjmkmambmeifaa
