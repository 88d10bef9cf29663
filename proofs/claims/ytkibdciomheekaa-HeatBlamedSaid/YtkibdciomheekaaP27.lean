/- Equal lists of ranges. The values of the examples. -/
import Derived.Test.YtkibdciomheekaaP24
import Derived.ChangeKeysEq
import Derived.Test.YtkibdciomheekaaP25
import Derived.Test.YtkibdciomheekaaP26
import Derived.Test.YtkibdciomheekaaP14
import Derived.Test.YtkibdciomheekaaP15
import Derived.Test.YtkibdciomheekaaP10
import Derived.Test.YtkibdciomheekaaP4
import Derived.Test.YtkibdciomheekaaP9
set_option linter.all false
set_option linter.unnecessarySimpa false
set_option linter.unusedSimpArgs false
set_option linter.unusedVariables false
set_option linter.unusedSectionVars false

set_option linter.all false
namespace Go.Proofs.Ytkibdciomheekaa
open Go.RowKit Hp

theorem eq_of_nthB {a b : List Rg} (h : a.length = b.length) (h2 : ∀ k, k < a.length → nthB a k = nthB b k) : a = b := by
  refine List.ext_getElem h fun i h3 h4 => ?_
  have := h2 i h3
  simpa [nthB, h3, h4] using this

set_option maxHeartbeats 2000000 in
theorem rangesL_any (a b : List Rg) (va vb : Value) (w : World) (hl : a.length ≤ 1000) (hl2 : b.length ≤ 1000) (h : RR w w.heap.size va a) (h' : RR w w.heap.size vb b) :
    Calls Try.prog 25 #[va, vb] w fun e w' => e = .returned (.bool (decide (a = b))) ∧ Below w.heap.size w w' := by
  obtain ⟨A, cap, bb, off, rfl, hA, hc⟩ := h.cells
  obtain ⟨A', cap', bb', off', rfl, hA', hc'⟩ := h'.cells
  have HC := Lib.hid hc; have HC' := Lib.hid hc'; have HA := Lib.hid hA; have HA' := Lib.hid hA'
  clear hc hc' hA hA' h h'
  by_cases hlen : a.length = b.length
  · have hb0 : b.length = a.length := hlen.symm
    rw [hb0] at HC' HA' hl2 ⊢
    have HLEN := Lib.hid hlen
    clear hlen hb0
    have hne : ((a.length : Int) != (a.length : Int)) = false := by simp
    go_enter Try.func25, Try.ntmps25
    go_wp2_with fail
    go_loopw [5] (fun i wr => ∃ k : Nat, k ≤ a.length ∧ i = .int .i64 k ∧ Below w.heap.size w wr ∧ ∀ j, j < k → nthB a j = nthB b j) (fun i _ => a.length - (intOf i).toNat)
    case atStart => exact ⟨0, Nat.zero_le _, rfl, by exact bel_of, fun j hj => absurd hj (by omega)⟩
    case round =>
      obtain ⟨k, hk, rfl, hbw, hall⟩ := hrel
      have HALL := Lib.hid hall; clear hall
      have hsz := hbw.size
      by_cases hlt : k < a.length
      · obtain ⟨rfl, hb⟩ := HA.out (by omega)
        obtain ⟨rfl, hb'⟩ := HA'.out (by omega)
        obtain ⟨c0, c2⟩ := HC.out k hlt
        obtain ⟨c1, c3⟩ := HC'.out k (by omega)
        rw [← hbw.cell (by exact hb)] at c0 c2
        rw [← hbw.cell (by exact hb')] at c1 c3
        have hbr : bb < wr.heap.size := by omega
        have hbr' : bb' < wr.heap.size := by omega
        by_cases he : nthB a k = nthB b k
        · have HE := Lib.hid he
          obtain ⟨⟨x1, x2⟩, hx⟩ : ∃ x, nthB a k = x := ⟨_, rfl⟩
          rw [← he, hx] at c1 c3
          rw [hx] at c0 c2
          dsimp only at c0 c1 c2 c3
          clear he hx
          go_wp2_with fail
          go_quiet (fail)
          go_wp2_with fail
          go_roundw
          case rel => exact ⟨k + 1, by omega, by go_num, by exact bel_of, fun j hj => by
            rcases Nat.lt_succ_iff_lt_or_eq.1 hj with h | rfl
            · exact HALL.out j h
            · exact HE.out⟩
          case measure => simp [intOf]; omega
        · have HE := Lib.hid (show a ≠ b by rintro rfl; exact he rfl)
          obtain ⟨⟨x1, x2⟩, hx⟩ : ∃ x, nthB a k = x := ⟨_, rfl⟩
          obtain ⟨⟨y1, y2⟩, hy⟩ : ∃ x, nthB b k = x := ⟨_, rfl⟩
          rw [hx] at c0 c2 he
          rw [hy] at c1 c3 he
          dsimp only at c0 c1 c2 c3
          have hne2 : x1 = y1 → x2 = y2 → False := fun p q => he (by rw [p, q])
          clear he hx hy
          by_cases h1 : x1 = y1
          · subst h1
            have d1 : (x2 == y2) = false := beq_eq_false_iff_ne.2 fun q => hne2 rfl q
            clear hne2
            go_wp2_with fail
            go_quiet (fail)
            go_wp2_with fail
            go_ret
            exact ⟨by rw [decide_eq_false HE.out]; rfl, by exact bel_of⟩

          · have d1 : (x1 == y1) = false := beq_eq_false_iff_ne.2 h1
            clear hne2 h1
            go_wp2_with fail
            go_quiet (fail)
            go_wp2_with fail
            go_ret
            exact ⟨by rw [decide_eq_false HE.out]; rfl, by exact bel_of⟩
      · have HE := Lib.hid (eq_of_nthB HLEN.out fun j hj => HALL.out j (by omega))
        clear HALL
        go_wp2_with fail
        go_ret
        exact ⟨by rw [decide_eq_true HE.out]; rfl, by exact bel_of⟩
  · have hne : ((a.length : Int) != (b.length : Int)) = true := by simp; omega
    have HE := Lib.hid (show a ≠ b by rintro rfl; exact hlen rfl)
    go_enter Try.func25, Try.ntmps25
    go_wp2_with fail
    go_ret
    exact ⟨by rw [decide_eq_false HE.out]; rfl, by exact bel_of⟩

end Go.Proofs.Ytkibdciomheekaa

set_option linter.all false
namespace Go.Proofs.Ytkibdciomheekaa
open Go.RowKit Hp

section
variable {bars : List Rg} {m : Rg} {ss : List Stp}
theorem someV_bars (h : OkV bars ss) (hm : OkR m) : someV bars m ss (-1) = (barsOf bars.length (makers bars ss m)).map Int.ofNat := by
  have e := empty_iff h.bok h.sok hm
  unfold someV
  split
  · rename_i q
    rw [e.1 q]
    simp [barsOf]
  · rw [if_pos (by decide), someB_eq h.bok h.sok hm]
theorem someV_ways (h : OkV bars ss) (hm : OkR m) {i : Nat} (hi : i < ss.length) : someV bars m ss (i : Int) = (waysOf (nthS ss i).length i (makers bars ss m)).map Int.ofNat := by
  have e := empty_iff h.bok h.sok hm
  unfold someV
  split
  · rename_i q
    rw [e.1 q]
    simp [waysOf]
  · rw [if_neg (by omega), Int.toNat_natCast, someW_eq h.bok h.sok hm hi]
end
theorem ex_works : worksE houseB houseS = 0 := by decide +kernel
theorem ex_okV : OkV houseB houseS := okV_of ex_works
theorem ex_okM : OkR (⟨410, 420⟩ : Rg) := by unfold OkR; decide
theorem ex_meas : measE houseB houseS ⟨410, 420⟩ = 0 := by decide +kernel
theorem ex_makers : makers houseB houseS ⟨410, 420⟩ = [(0, [1, 0]), (1, [0, 0]), (1, [1, 0])] := by decide +kernel
theorem ex_fit : Fit houseB houseS := ⟨by decide, by decide, by decide, by decide⟩
theorem ex_after : afterR (nthW (nthS houseS 1) 0) 420 = ⟨280, 400⟩ ∧ afterE (nthW (nthS houseS 1) 0) 420 = 0 := by decide +kernel
theorem ex_rec : recE houseB houseS 1 [0, 0] = 0 := by decide +kernel
theorem ex_rng : rngL houseB houseS 1 [0, 0] = [⟨150, 300⟩, ⟨400, 600⟩, ⟨200, 480⟩] := by decide +kernel
theorem ex_hist1 : histE houseB houseS 1 [0, 0] [200, 560, 415] = 0 := by decide +kernel
theorem ex_hist2 : histE houseB houseS 1 [0, 0] [160, 560, 415] = 16 := by decide +kernel
theorem ex_had1 : hadE houseB houseS 1 [0, 0] ⟨410, 420⟩ = 0 := by decide +kernel
theorem ex_had0 : hadE houseB houseS 0 [0, 0] ⟨410, 420⟩ = 17 := by decide +kernel
theorem ex_hadV : hadV houseB houseS 1 [0, 0] ⟨410, 420⟩ = [⟨180, 300⟩, ⟨550, 600⟩, ⟨410, 420⟩] := by decide +kernel
theorem ex_agrees : agreeB houseB houseS 1 [0, 0] (histV houseB houseS 1 [0, 0] ⟨410, 420⟩) ⟨410, 420⟩ = true := by decide +kernel
theorem ex_histV_len : (histV houseB houseS 1 [0, 0] ⟨410, 420⟩).length = 3 := by decide +kernel
theorem ex_barsV : someV houseB ⟨410, 420⟩ houseS (-1) = [0, 1] := by
  rw [someV_bars ex_okV ex_okM]
  show (barsOf 2 (makers houseB houseS ⟨410, 420⟩)).map Int.ofNat = _
  rw [ex_makers]
  decide
theorem ex_barsE : barsE houseB houseS ⟨410, 420⟩ = 0 := by
  unfold barsE
  rw [ex_meas, ex_barsV]
  decide
theorem ex_ways : wysL houseB ⟨410, 420⟩ houseS houseS.length = [[0, 1], [0]] := by
  show [someV houseB ⟨410, 420⟩ houseS ((0 : Nat) : Int), someV houseB ⟨410, 420⟩ houseS ((1 : Nat) : Int)] = _
  rw [someV_ways ex_okV ex_okM (i := 0) (by decide), someV_ways ex_okV ex_okM (i := 1) (by decide)]
  rw [show makers houseB houseS ⟨410, 420⟩ = _ from ex_makers]
  decide
theorem ex_mkL : mkL houseB ⟨410, 420⟩ houseS = [[0, 1, 0], [1, 0, 0], [1, 1, 0]] := by
  unfold mkL
  rw [ex_makers]
  rfl
theorem ex_ask : askQ houseB houseS ⟨410, 420⟩ = ⟨-1, 2⟩ := by
  unfold askQ
  rw [if_pos ex_barsE, ex_mkL]
  decide +kernel
end Go.Proofs.Ytkibdciomheekaa
