/- The words of the laws: ranges, stations, equal lists; which blades a law looks at. The blades of the examples. Tubes of the reference. Plain words of After, CheckBlows. -/
import Derived.Test.YtgbegdjakadbbaaP3
import Derived.Deep.QuietTactic
import Derived.BigQuiet
import Derived.WalkMore
set_option linter.all false
set_option linter.unnecessarySimpa false
set_option linter.unusedSimpArgs false
set_option linter.unusedVariables false
set_option linter.unusedSectionVars false

set_option linter.all false
namespace Go.Proofs.Ytgbegdjakadbbaa
open Go.RowKit Vp

theorem eq_of_nthI {a b : List Int} (h : a.length = b.length) (h2 : ∀ k, k < a.length → nthI a k = nthI b k) : a = b := by
  refine List.ext_getElem h fun i h3 h4 => ?_
  have := h2 i h3
  simpa [nthI, h3, h4] using this

theorem rg_any (lo hi : Int) (w : World) :
    Calls Try.prog 41 #[.int .i64 lo, .int .i64 hi] w fun e w' => e = .returned (.agg #[.int .i64 lo, .int .i64 hi]) ∧ Below w.heap.size w w' := by
  have hb : Below w.heap.size w (w.alloc (.cells #[.int .i64 lo, .int .i64 hi] 42)) := Below.alloc (Below.refl _ _) (Nat.le_refl _) _
  go_enter Try.func41, Try.ntmps41
  go_wp2_with fail
  exact bodyPost_ret (v := .agg #[.int .i64 lo, .int .i64 hi]) (by simp [results, Try.results41, go_sem]) rfl ⟨rfl, hb⟩
set_option maxHeartbeats 2000000 in
theorem longs_any (a b : List Int) (va vb : Value) (w : World) (hl : a.length ≤ 1000) (hl2 : b.length ≤ 1000) (h : RI w w.heap.size va a) (h' : RI w w.heap.size vb b) :
    Calls Try.prog 24 #[va, vb] w fun e w' => e = .returned (.bool (decide (a = b))) ∧ Below w.heap.size w w' := by
  obtain ⟨A, cap, bb, off, rfl, hA, hc⟩ := h.cells
  obtain ⟨A', cap', bb', off', rfl, hA', hc'⟩ := h'.cells
  have HC := Lib.hid hc; have HC' := Lib.hid hc'; have HA := Lib.hid hA; have HA' := Lib.hid hA'
  clear hc hc' hA hA' h h'
  by_cases hlen : a.length = b.length
  · have hb0 : b.length = a.length := hlen.symm
    rw [hb0] at HC' HA' hl2 ⊢
    have HLEN := Lib.hid hlen
    clear hlen hb0
    have hne : ((a.length : Int) != (a.length : Int)) = false := by simp
    go_enter Try.func24, Try.ntmps24
    go_wp2_with fail
    go_loopw [5] (fun i wr => ∃ k : Nat, k ≤ a.length ∧ i = .int .i64 k ∧ Below w.heap.size w wr ∧ ∀ j, j < k → nthI a j = nthI b j) (fun i _ => a.length - (intOf i).toNat)
    case atStart => exact ⟨0, Nat.zero_le _, rfl, by exact bel_of, fun j hj => absurd hj (by omega)⟩
    case round =>
      obtain ⟨k, hk, rfl, hbw, hall⟩ := hrel
      have HALL := Lib.hid hall; clear hall
      have hsz := hbw.size
      by_cases hlt : k < a.length
      · obtain ⟨rfl, hb⟩ := HA.out (by omega)
        obtain ⟨rfl, hb'⟩ := HA'.out (by omega)
        have c0 := HC.out k hlt
        have c1 := HC'.out k (by omega)
        rw [← hbw.cell (by exact hb)] at c0
        rw [← hbw.cell (by exact hb')] at c1
        have hbr : bb < wr.heap.size := by omega
        have hbr' : bb' < wr.heap.size := by omega
        by_cases he : nthI a k = nthI b k
        · have d1 : (nthI a k != nthI b k) = false := by simpa using he
          have HE := Lib.hid he; clear he
          go_wp2_with fail
          go_quiet (fail)
          go_wp2_with fail
          go_roundw
          case rel => exact ⟨k + 1, by omega, by go_num, by exact bel_of, fun j hj => by
            rcases Nat.lt_succ_iff_lt_or_eq.1 hj with h | rfl
            · exact HALL.out j h
            · exact HE.out⟩
          case measure => simp [intOf]; omega
        · have d1 : (nthI a k != nthI b k) = true := by simpa using he
          have HE := Lib.hid (show a ≠ b by rintro rfl; exact he rfl); clear he
          go_wp2_with fail
          go_quiet (fail)
          go_wp2_with fail
          go_ret
          exact ⟨by rw [decide_eq_false HE.out]; rfl, by exact bel_of⟩
      · have HE := Lib.hid (eq_of_nthI HLEN.out fun j hj => HALL.out j (by omega))
        clear HALL
        go_wp2_with fail
        go_ret
        exact ⟨by rw [decide_eq_true HE.out]; rfl, by exact bel_of⟩
  · have hne : ((a.length : Int) != (b.length : Int)) = true := by simp; omega
    have HE := Lib.hid (show a ≠ b by rintro rfl; exact hlen rfl)
    go_enter Try.func24, Try.ntmps24
    go_wp2_with fail
    go_ret
    exact ⟨by rw [decide_eq_false HE.out]; rfl, by exact bel_of⟩


theorem great_any (l : List St) (v : Value) (m : Int) (w : World) (hl : l.length ≤ maxLen) (h : RT w w.heap.size v l) :
    Calls Try.prog 14 #[bV v m] w fun x w' => x = .returned (.bool (decide (30 < l.length))) ∧ Below w.heap.size w w' := by
  unfold bV
  obtain ⟨A, cap, b, off, rfl, hA, hc⟩ := h.cells
  clear hA hc
  go_enter Try.func14, Try.ntmps14
  go_wp2_with fail
  go_ret
  exact ⟨by simp; omega, by exact bel_of⟩
/-- Whether a blade is one that a law looks at. -/
def fineB (l : List St) (m : Int) : Bool := !decide (30 < l.length) && (blaE l m == 0)
set_option maxHeartbeats 8000000 in
set_option maxRecDepth 100000 in
theorem fine_any (l : List St) (v : Value) (m : Int) (w : World) (hl : l.length ≤ maxLen) (h : RT w w.heap.size v l) :
    Calls Try.prog 37 #[bV v m] w fun x w' => x = .returned (.bool (fineB l m)) ∧ Below w.heap.size w w' := by
  have hT := h
  clear h
  unfold bV
  obtain ⟨b, off, cap, A, rfl, -, hcap⟩ := hT.slice
  obtain ⟨n0, hn0⟩ : ∃ n, w.heap.size = n := ⟨_, rfl⟩
  have hC : Below n0 w w := Below.refl _ _
  go_enter Try.func37, Try.ntmps37
  go_wp2_with fail
  have hqbx : n0 ≤ n0 := by have := hC.size; omega
  have bx : BK (w.alloc (.cells #[.slice A l.length cap, .int .i64 m] 24)) (n0) #[.slice A l.length cap, .int .i64 m] 24 := BK.new' _ _ _ (n0) hn0
  have hsbx : (w.alloc (.cells #[.slice A l.length cap, .int .i64 m] 24)).heap.size = n0 + 1 := by simp [hn0]
  replace hC : Below n0 w (w.alloc (.cells #[.slice A l.length cap, .int .i64 m] 24)) := Below.alloc hC (by have := hC.size; omega) _
  replace hT := (RS.below hT (w' := (w.alloc (.cells #[.slice A l.length cap, .int .i64 m] 24))) (Below.alloc (Below.refl _ _) (Nat.le_refl _) _)).more (B' := (w.alloc (.cells #[.slice A l.length cap, .int .i64 m] 24)).heap.size) (by simp)
  generalize (w.alloc (.cells #[.slice A l.length cap, .int .i64 m] 24)) = Wbx at *
  clear hsbx
  refine (great_any l _ m _ hl hT).mono ?_
  rintro e w1 ⟨rfl, hb⟩
  replace hC : Below n0 w w1 := hC.trans (hb.mono (by have := hC.size; omega))
  replace hT := (RS.below hT hb).more hb.size
  replace bx := bx.below hb bx.lt
  clear hb
  by_cases h5 : 30 < l.length
  case pos =>
    have HS := Lib.hid (show fineB l m = false by unfold fineB; rw [decide_eq_true h5]; rfl)
    rw [decide_eq_true h5]
    clear h5
    go_wp2_with fail
    exact bodyPost_ret (v := .bool false) (by simp [results, Try.results37, go_sem]) rfl ⟨by rw [HS.out], by first | exact hC | (rw [hn0]; exact hC) | (with_reducible rw [hn0]; exact bel_of) | exact bel_of⟩
  rw [decide_eq_false h5]
  have lbx := bx.lt
  have bxc0 := bx.cell 0
  have bxc1 := bx.cell 1
  simp at bxc0 bxc1
  go_wp2_with fail
  clear lbx bxc0 bxc1
  refine (checkR_any l _ m _ (by omega) hT).mono ?_
  rintro e w2 ⟨rfl, hb⟩
  replace hC : Below n0 w w2 := hC.trans (hb.mono (by have := hC.size; omega))
  clear hb
  obtain ⟨e, he⟩ : ∃ e, blaE l m = e := ⟨_, rfl⟩
  have HS := Lib.hid (show fineB l m = (e == 0) by unfold fineB; rw [decide_eq_false h5, he]; rfl)
  rw [he]
  clear he hT bx
  obtain ⟨q, hq⟩ : ∃ q, (e == 0) = q := ⟨_, rfl⟩
  rw [hq] at HS
  go_wp2_with fail
  exact bodyPost_ret (v := .bool q) (by simp [results, Try.results37, go_sem, hq]) rfl ⟨by rw [HS.out], by first | exact hC | (rw [hn0]; exact hC) | (with_reducible rw [hn0]; exact bel_of) | exact bel_of⟩
theorem station_any (s : St) (w : World) :
    Calls Try.prog 42 #[.int .i64 s.ang, .int .i64 s.lo, .int .i64 s.hi, .int .i64 s.hard] w fun e w' => e = .returned (.agg #[.int .i64 s.ang, .int .i64 s.lo, .int .i64 s.hi, .int .i64 s.hard]) ∧ Below w.heap.size w w' := by
  have hb : Below w.heap.size w (w.alloc (.cells #[.int .i64 s.ang, .int .i64 s.lo, .int .i64 s.hi, .int .i64 s.hard] 60)) := Below.alloc (Below.refl _ _) (Nat.le_refl _) _
  go_enter Try.func42, Try.ntmps42
  go_wp2_with fail
  exact bodyPost_ret (v := .agg #[.int .i64 s.ang, .int .i64 s.lo, .int .i64 s.hi, .int .i64 s.hard]) (by simp [results, Try.results42, go_sem]) rfl ⟨rfl, hb⟩
set_option maxHeartbeats 8000000 in
set_option maxRecDepth 100000 in
theorem wide_any (l : List St) (v : Value) (m : Int) (w : World) (hl : l.length ≤ 1000) (hT : RT w w.heap.size v l) :
    Calls Try.prog 25 #[bV v m] w fun x w' => x = .returned (.bool ((blaE l m == 0) && decide (10 < l.length))) ∧ Below w.heap.size w w' := by
  unfold bV
  obtain ⟨b, off, cap, A, rfl, -, hcap⟩ := hT.slice
  obtain ⟨n0, hn0⟩ : ∃ n, w.heap.size = n := ⟨_, rfl⟩
  have hC : Below n0 w w := Below.refl _ _
  go_enter Try.func25, Try.ntmps25
  go_wp2_with fail
  have hqbx : n0 ≤ n0 := by have := hC.size; omega
  have bx : BK (w.alloc (.cells #[.slice A l.length cap, .int .i64 m] 24)) (n0) #[.slice A l.length cap, .int .i64 m] 24 := BK.new' _ _ _ (n0) hn0
  have hsbx : (w.alloc (.cells #[.slice A l.length cap, .int .i64 m] 24)).heap.size = n0 + 1 := by simp [hn0]
  replace hC : Below n0 w (w.alloc (.cells #[.slice A l.length cap, .int .i64 m] 24)) := Below.alloc hC (by have := hC.size; omega) _
  replace hT := (RS.below hT (w' := (w.alloc (.cells #[.slice A l.length cap, .int .i64 m] 24))) (Below.alloc (Below.refl _ _) (Nat.le_refl _) _)).more (B' := (w.alloc (.cells #[.slice A l.length cap, .int .i64 m] 24)).heap.size) (by simp)
  generalize (w.alloc (.cells #[.slice A l.length cap, .int .i64 m] 24)) = Wbx at *
  clear hsbx
  refine (checkR_any l _ m _ hl hT).mono ?_
  rintro e w1 ⟨rfl, hb⟩
  replace hC : Below n0 w w1 := hC.trans (hb.mono (by have := hC.size; omega))
  replace bx := bx.below hb bx.lt
  clear hb hT
  obtain ⟨e, he⟩ : ∃ e, blaE l m = e := ⟨_, rfl⟩
  rw [he]
  have HBE := Lib.hid he
  clear he
  have lbx := bx.lt
  have bxc0 := bx.cell 0
  have bxc1 := bx.cell 1
  simp at bxc0 bxc1
  by_cases h0 : e = 0
  · subst h0
    obtain ⟨q, hq⟩ : ∃ q, decide (10 < l.length) = q := ⟨_, rfl⟩
    have hq2 : decide ((10 : Int) < (l.length : Int)) = q := by rw [← hq]; exact decide_eq_decide.2 (by omega)
    have HQ := Lib.hid hq
    clear hq
    go_wp2_with fail
    exact bodyPost_ret (v := .bool q) (by simp [results, Try.results25, go_sem, hq2]) rfl ⟨by rw [HBE.out, HQ.out]; rfl, by first | exact hC | (rw [hn0]; exact hC) | (with_reducible rw [hn0]; exact bel_of) | exact bel_of⟩
  · have h1 : (e == 0) = false := by simp [h0]
    have HQ := Lib.hid h1
    go_wp2_with fail
    exact bodyPost_ret (v := .bool false) (by simp [results, Try.results25, go_sem]) rfl ⟨by rw [HBE.out, HQ.out]; rfl, by first | exact hC | (rw [hn0]; exact hC) | (with_reducible rw [hn0]; exact bel_of) | exact bel_of⟩
end Go.Proofs.Ytgbegdjakadbbaa

set_option linter.all false
namespace Go.Proofs.Ytgbegdjakadbbaa
open Go.RowKit Vp

/-- The stations of the examples; the blade H has another hardness at the second one. -/
def exS (h : Int) : List St := [⟨0, -1, 1, 1⟩, ⟨4, -1, 1, h⟩, ⟨5, -1, 1, 1⟩, ⟨1, -1, 1, 1⟩]
/-- A blade of four stations of its own. -/
def BlaPost (l : List St) (m : Int) (w : World) (e : Ending) (w' : World) : Prop := ∃ g, e = .returned (.agg #[.slice (some ⟨g, 0, none⟩) 4 4, .int .i64 m]) ∧ w.heap.size ≤ g ∧ BK w' g (ofG encS l).toArray 60 ∧ Below w.heap.size w w'
theorem BlaPost.own {W : World} {base g : Nat} {h : Int} (hb : BK W g (ofG encS (exS h)).toArray 60) (hg : base ≤ g) : OwnS W base (.slice (some ⟨g, 0, none⟩) 4 4) (exS h) :=
  ⟨rfl, .inr ⟨g, 4, _, rfl, hg, hb, Nat.le_refl _, by unfold maxLen; omega, by simp [exS, ofG, encS], by show (ofG encS (exS h)).toArray.toList.take (4 * 4) = _; rfl⟩⟩

set_option maxHeartbeats 8000000 in
set_option maxRecDepth 100000 in
theorem blade_any (w : World) : Calls Try.prog 43 #[] w (BlaPost (exS 1) 10 w) := by
  obtain ⟨n0, hn0⟩ : ∃ n, w.heap.size = n := ⟨_, rfl⟩
  have hC : Below n0 w w := Below.refl _ _
  go_enter Try.func43, Try.ntmps43
  go_wp2_with fail
  have rs : BK (w.alloc (.cells #[.slice none 0 0, .int .i64 0] 24)) (n0) #[.slice none 0 0, .int .i64 0] 24 := BK.new' _ _ _ (n0) hn0
  have hsrs : (w.alloc (.cells #[.slice none 0 0, .int .i64 0] 24)).heap.size = n0 + 1 := by simp [hn0]
  replace hC : Below n0 w (w.alloc (.cells #[.slice none 0 0, .int .i64 0] 24)) := Below.alloc hC (by have := hC.size; omega) _
  generalize (w.alloc (.cells #[.slice none 0 0, .int .i64 0] 24)) = Wrs at *
  clear hsrs
  refine (station_any ⟨0, -1, 1, 1⟩ _).mono ?_
  rintro e w1 ⟨rfl, hb⟩
  replace hC : Below n0 w w1 := hC.trans (hb.mono (by have := hC.size; omega))
  replace rs := rs.below hb rs.lt
  clear hb
  go_wp2_with fail
  refine (station_any ⟨4, -1, 1, 1⟩ _).mono ?_
  rintro e w2 ⟨rfl, hb⟩
  replace hC : Below n0 w w2 := hC.trans (hb.mono (by have := hC.size; omega))
  replace rs := rs.below hb rs.lt
  clear hb
  go_wp2_with fail
  refine (station_any ⟨5, -1, 1, 1⟩ _).mono ?_
  rintro e w3 ⟨rfl, hb⟩
  replace hC : Below n0 w w3 := hC.trans (hb.mono (by have := hC.size; omega))
  replace rs := rs.below hb rs.lt
  clear hb
  go_wp2_with fail
  refine (station_any ⟨1, -1, 1, 1⟩ _).mono ?_
  rintro e w4 ⟨rfl, hb⟩
  replace hC : Below n0 w w4 := hC.trans (hb.mono (by have := hC.size; omega))
  replace rs := rs.below hb rs.lt
  clear hb
  have lrs := rs.lt
  have rsc0 := rs.cell 0
  have rsc1 := rs.cell 1
  simp at rsc0 rsc1
  have rsf0 := rs.frozen 0
  have rsf1 := rs.frozen 1
  go_wp2_with fail
  obtain ⟨gt, hgt⟩ : ∃ n, w4.heap.size = n := ⟨_, rfl⟩
  rw [hgt]
  clear rsc0 rsc1 rsf0 rsf1
  have hq : n0 ≤ gt := by have := hC.size; omega
  have rs2 := (rs.set 0 (.slice (some ⟨gt, 0, none⟩) 4 4)).set 1 (.int .i64 10)
  simp at rs2
  have rs3 := rs2.alloc (.cells #[.int .i64 0, .int .i64 (-1), .int .i64 1, .int .i64 1, .int .i64 4, .int .i64 (-1), .int .i64 1, .int .i64 1, .int .i64 5, .int .i64 (-1), .int .i64 1, .int .i64 1, .int .i64 1, .int .i64 (-1), .int .i64 1, .int .i64 1] 60)
  have hC2 : Below n0 w ((w4.setCell ⟨n0, 0, none⟩ (.slice (some ⟨gt, 0, none⟩) 4 4)).setCell ⟨n0, 1, none⟩ (.int .i64 10)) := Below.setCell (Below.setCell hC (Nat.le_refl _) _) (Nat.le_refl _) _
  have hz : ((w4.setCell ⟨n0, 0, none⟩ (.slice (some ⟨gt, 0, none⟩) 4 4)).setCell ⟨n0, 1, none⟩ (.int .i64 10)).heap.size = gt := by simp [World.setCell, hgt]
  generalize ((w4.setCell ⟨n0, 0, none⟩ (.slice (some ⟨gt, 0, none⟩) 4 4)).setCell ⟨n0, 1, none⟩ (.int .i64 10)) = W5 at *
  have hC3 : Below n0 w (W5.alloc (.cells #[.int .i64 0, .int .i64 (-1), .int .i64 1, .int .i64 1, .int .i64 4, .int .i64 (-1), .int .i64 1, .int .i64 1, .int .i64 5, .int .i64 (-1), .int .i64 1, .int .i64 1, .int .i64 1, .int .i64 (-1), .int .i64 1, .int .i64 1] 60)) := Below.alloc hC2 (by omega) _
  have bT : BK (W5.alloc (.cells #[.int .i64 0, .int .i64 (-1), .int .i64 1, .int .i64 1, .int .i64 4, .int .i64 (-1), .int .i64 1, .int .i64 1, .int .i64 5, .int .i64 (-1), .int .i64 1, .int .i64 1, .int .i64 1, .int .i64 (-1), .int .i64 1, .int .i64 1] 60)) gt #[.int .i64 0, .int .i64 (-1), .int .i64 1, .int .i64 1, .int .i64 4, .int .i64 (-1), .int .i64 1, .int .i64 1, .int .i64 5, .int .i64 (-1), .int .i64 1, .int .i64 1, .int .i64 1, .int .i64 (-1), .int .i64 1, .int .i64 1] 60 := BK.new' _ _ _ _ hz
  have z0 := rs3.cell 0
  have z1 := rs3.cell 1
  simp at z0 z1
  exact bodyPost_ret (v := .agg #[.slice (some ⟨gt, 0, none⟩) 4 4, .int .i64 10]) (by simp [results, Try.results43, go_sem, z0, z1]) rfl ⟨_, rfl, by omega, bT, by first | exact hC3 | (rw [hn0]; exact hC3)⟩
set_option maxHeartbeats 8000000 in
set_option maxRecDepth 100000 in
theorem hard_any (w : World) : Calls Try.prog 44 #[] w (BlaPost (exS 3) 10 w) := by
  obtain ⟨n0, hn0⟩ : ∃ n, w.heap.size = n := ⟨_, rfl⟩
  have hC : Below n0 w w := Below.refl _ _
  go_enter Try.func44, Try.ntmps44
  go_wp2_with fail
  have rs : BK (w.alloc (.cells #[.slice none 0 0, .int .i64 0] 24)) (n0) #[.slice none 0 0, .int .i64 0] 24 := BK.new' _ _ _ (n0) hn0
  have hsrs : (w.alloc (.cells #[.slice none 0 0, .int .i64 0] 24)).heap.size = n0 + 1 := by simp [hn0]
  replace hC : Below n0 w (w.alloc (.cells #[.slice none 0 0, .int .i64 0] 24)) := Below.alloc hC (by have := hC.size; omega) _
  generalize (w.alloc (.cells #[.slice none 0 0, .int .i64 0] 24)) = Wrs at *
  refine (blade_any _).mono ?_
  rintro e w1 ⟨g, rfl, hg, hG, hb⟩
  replace hC : Below n0 w w1 := hC.trans (hb.mono (by have := hC.size; omega))
  replace rs := rs.below hb rs.lt
  clear hb
  rw [hsrs] at hg
  clear hsrs
  go_upto_region 2 with fail
  obtain ⟨q, hq⟩ : ∃ q, w1.heap.size = q := ⟨_, rfl⟩
  rw [hq]
  have hgq : g < q := by rw [← hq]; exact hG.lt
  have hn0q : n0 + 1 ≤ q := by have := rs.lt; have := hC.size; omega
  have bx : BK (w1.alloc (.cells #[.slice (some ⟨g, 0, none⟩) 4 4, .int .i64 10] 24)) q #[.slice (some ⟨g, 0, none⟩) 4 4, .int .i64 10] 24 := BK.new' _ _ _ _ hq
  replace hC : Below n0 w (w1.alloc (.cells #[.slice (some ⟨g, 0, none⟩) 4 4, .int .i64 10] 24)) := Below.alloc hC (by omega) _
  replace rs := rs.alloc (.cells #[.slice (some ⟨g, 0, none⟩) 4 4, .int .i64 10] 24)
  replace hG := hG.alloc (.cells #[.slice (some ⟨g, 0, none⟩) 4 4, .int .i64 10] 24)
  generalize w1.alloc (.cells #[.slice (some ⟨g, 0, none⟩) 4 4, .int .i64 10] 24) = W2 at *
  have lg := hG.lt
  have lx := bx.lt
  have gc := hG.cell 7
  have gf := hG.frozen 7
  have x0 := bx.cell 0
  simp [ofG, exS, encS] at gc x0
  have hG3 : BK (W2.setCell ⟨g, 7, none⟩ (.int .i64 3)) g (ofG encS (exS 3)).toArray 60 := hG.set 7 (.int .i64 3)
  have rs3 := rs.far (p := ⟨g, 7, none⟩) (by show n0 ≠ g; omega) (.int .i64 3)
  have bx3 := bx.far (p := ⟨g, 7, none⟩) (by show q ≠ g; omega) (.int .i64 3)
  have hC3 : Below n0 w (W2.setCell ⟨g, 7, none⟩ (.int .i64 3)) := Below.setCell hC (by show n0 ≤ g; omega) _
  clear hC rs bx hG
  go_upto_region 3 with fail
  clear gc gf x0
  generalize W2.setCell ⟨g, 7, none⟩ (.int .i64 3) = W3 at *
  have l0 := rs3.lt
  have lx3 := bx3.lt
  have x0 := bx3.cell 0
  have x1 := bx3.cell 1
  have y0 := rs3.cell 0
  have y1 := rs3.cell 1
  have yf0 := rs3.frozen 0
  have yf1 := rs3.frozen 1
  simp at x0 x1 y0 y1
  have hq2 : n0 ≠ q := by omega
  go_wp2_with fail
  have z0 := ((rs3.set 0 (.slice (some ⟨g, 0, none⟩) 4 4)).set 1 (.int .i64 10)).cell 0
  have z1 := ((rs3.set 0 (.slice (some ⟨g, 0, none⟩) 4 4)).set 1 (.int .i64 10)).cell 1
  simp at z0 z1
  clear x0 x1 y0 y1 yf0 yf1
  exact bodyPost_ret (v := .agg #[.slice (some ⟨g, 0, none⟩) 4 4, .int .i64 10]) (by simp [results, Try.results44, go_sem, z0, z1]) rfl ⟨_, rfl, by omega, (hG3.far (by show g ≠ n0; omega) _).far (by show g ≠ n0; omega) _, by rw [hn0]; exact (hC3.setCell (Nat.le_refl _) _).setCell (Nat.le_refl _) _⟩
set_option maxHeartbeats 8000000 in
set_option maxRecDepth 100000 in
theorem stiff_any (w : World) : Calls Try.prog 45 #[] w (BlaPost (exS 1) 1 w) := by
  obtain ⟨n0, hn0⟩ : ∃ n, w.heap.size = n := ⟨_, rfl⟩
  have hC : Below n0 w w := Below.refl _ _
  go_enter Try.func45, Try.ntmps45
  go_wp2_with fail
  have rs : BK (w.alloc (.cells #[.slice none 0 0, .int .i64 0] 24)) (n0) #[.slice none 0 0, .int .i64 0] 24 := BK.new' _ _ _ (n0) hn0
  have hsrs : (w.alloc (.cells #[.slice none 0 0, .int .i64 0] 24)).heap.size = n0 + 1 := by simp [hn0]
  replace hC : Below n0 w (w.alloc (.cells #[.slice none 0 0, .int .i64 0] 24)) := Below.alloc hC (by have := hC.size; omega) _
  generalize (w.alloc (.cells #[.slice none 0 0, .int .i64 0] 24)) = Wrs at *
  refine (blade_any _).mono ?_
  rintro e w1 ⟨g, rfl, hg, hG, hb⟩
  replace hC : Below n0 w w1 := hC.trans (hb.mono (by have := hC.size; omega))
  replace rs := rs.below hb rs.lt
  clear hb
  rw [hsrs] at hg
  clear hsrs
  go_upto_region 2 with fail
  obtain ⟨q, hq⟩ : ∃ q, w1.heap.size = q := ⟨_, rfl⟩
  rw [hq]
  have hgq : g < q := by rw [← hq]; exact hG.lt
  have hn0q : n0 + 1 ≤ q := by have := rs.lt; have := hC.size; omega
  have bx : BK (w1.alloc (.cells #[.slice (some ⟨g, 0, none⟩) 4 4, .int .i64 10] 24)) q #[.slice (some ⟨g, 0, none⟩) 4 4, .int .i64 10] 24 := BK.new' _ _ _ _ hq
  replace hC : Below n0 w (w1.alloc (.cells #[.slice (some ⟨g, 0, none⟩) 4 4, .int .i64 10] 24)) := Below.alloc hC (by omega) _
  replace rs := rs.alloc (.cells #[.slice (some ⟨g, 0, none⟩) 4 4, .int .i64 10] 24)
  replace hG := hG.alloc (.cells #[.slice (some ⟨g, 0, none⟩) 4 4, .int .i64 10] 24)
  generalize w1.alloc (.cells #[.slice (some ⟨g, 0, none⟩) 4 4, .int .i64 10] 24) = W2 at *
  have lg := hG.lt
  have lx := bx.lt
  have x1 := bx.cell 1
  have xf := bx.frozen 1
  simp at x1
  have hG3 := hG.far (p := ⟨q, 1, none⟩) (by show g ≠ q; omega) (.int .i64 1)
  have rs3 := rs.far (p := ⟨q, 1, none⟩) (by show n0 ≠ q; omega) (.int .i64 1)
  have bx3 := bx.set 1 (.int .i64 1)
  have hC3 : Below n0 w (W2.setCell ⟨q, 1, none⟩ (.int .i64 1)) := Below.setCell hC (by show n0 ≤ q; omega) _
  simp at bx3
  clear hC rs bx hG
  go_upto_region 3 with fail
  clear x1 xf
  generalize W2.setCell ⟨q, 1, none⟩ (.int .i64 1) = W3 at *
  have l0 := rs3.lt
  have lx3 := bx3.lt
  have x0 := bx3.cell 0
  have x1 := bx3.cell 1
  have y0 := rs3.cell 0
  have y1 := rs3.cell 1
  have yf0 := rs3.frozen 0
  have yf1 := rs3.frozen 1
  simp at x0 x1 y0 y1
  have hq2 : n0 ≠ q := by omega
  go_wp2_with fail
  have z0 := ((rs3.set 0 (.slice (some ⟨g, 0, none⟩) 4 4)).set 1 (.int .i64 1)).cell 0
  have z1 := ((rs3.set 0 (.slice (some ⟨g, 0, none⟩) 4 4)).set 1 (.int .i64 1)).cell 1
  simp at z0 z1
  clear x0 x1 y0 y1 yf0 yf1
  exact bodyPost_ret (v := .agg #[.slice (some ⟨g, 0, none⟩) 4 4, .int .i64 1]) (by simp [results, Try.results45, go_sem, z0, z1]) rfl ⟨_, rfl, by omega, (hG3.far (by show g ≠ n0; omega) _).far (by show g ≠ n0; omega) _, by rw [hn0]; exact (hC3.setCell (Nat.le_refl _) _).setCell (Nat.le_refl _) _⟩
end Go.Proofs.Ytgbegdjakadbbaa

set_option linter.all false
namespace Go.Proofs.Ytgbegdjakadbbaa
open Go.RowKit Vp

/-- The tube of a station, that of -1 is 0 to 0. -/
def tubR (l : List St) (i : Int) : Rg := if i < 0 then ⟨0, 0⟩ else tub (nthS l i.toNat)
theorem okS_at {l : List St} (h : ∀ s ∈ l, okSB s = true) {k : Nat} (hk : k < l.length) : -100 ≤ (nthS l k).ang ∧ (nthS l k).ang ≤ 100 ∧ -100 ≤ (nthS l k).lo ∧ (nthS l k).lo ≤ 100 ∧ -100 ≤ (nthS l k).hi ∧ (nthS l k).hi ≤ 100 ∧ (nthS l k).lo ≤ (nthS l k).hi ∧ 1 ≤ (nthS l k).hard ∧ (nthS l k).hard ≤ 9 := okSB_iff.1 (h _ (nthS_mem hk))
set_option maxHeartbeats 8000000 in
set_option maxRecDepth 100000 in
theorem tube_any (l : List St) (v : Value) (m : Int) (i : Int) (w : World) (ho : ∀ s ∈ l, okSB s = true) (hl : l.length ≤ 20) (hi : i < l.length) (hT : RT w w.heap.size v l) :
    Calls Try.prog 40 #[bV v m, .int .i64 i] w fun e w' => e = .returned (rV (tubR l i)) ∧ Below w.heap.size w w' := by
  unfold bV
  obtain ⟨b, off, cap, A, rfl, -, hcap⟩ := hT.slice
  by_cases hn : i < 0
  case pos =>
    have HE := Lib.hid (show tubR l i = ⟨0, 0⟩ by unfold tubR; rw [if_pos hn])
    obtain ⟨n0, hn0⟩ : ∃ n, w.heap.size = n := ⟨_, rfl⟩
    have hC : Below n0 w w := Below.refl _ _
    go_enter Try.func40, Try.ntmps40
    go_upto_region 1 with fail
    have hqbx : n0 ≤ n0 := by have := hC.size; omega
    have bx : BK (w.alloc (.cells #[.slice A l.length cap, .int .i64 m] 24)) (n0) #[.slice A l.length cap, .int .i64 m] 24 := BK.new' _ _ _ (n0) hn0
    have hsbx : (w.alloc (.cells #[.slice A l.length cap, .int .i64 m] 24)).heap.size = n0 + 1 := by simp [hn0]
    replace hC : Below n0 w (w.alloc (.cells #[.slice A l.length cap, .int .i64 m] 24)) := Below.alloc hC (by have := hC.size; omega) _
    replace hT := (RS.below hT (w' := (w.alloc (.cells #[.slice A l.length cap, .int .i64 m] 24))) (Below.alloc (Below.refl _ _) (Nat.le_refl _) _)).more (B' := (w.alloc (.cells #[.slice A l.length cap, .int .i64 m] 24)).heap.size) (by simp)
    generalize (w.alloc (.cells #[.slice A l.length cap, .int .i64 m] 24)) = Wbx at *
    have hqrs : n0 ≤ n0 + 1 := by have := hC.size; omega
    have rs : BK (Wbx.alloc (.cells #[.int .i64 0, .int .i64 0] 42)) (n0 + 1) #[.int .i64 0, .int .i64 0] 42 := BK.new' _ _ _ (n0 + 1) hsbx
    have hsrs : (Wbx.alloc (.cells #[.int .i64 0, .int .i64 0] 42)).heap.size = n0 + 1 + 1 := by simp [hsbx]
    replace hC : Below n0 w (Wbx.alloc (.cells #[.int .i64 0, .int .i64 0] 42)) := Below.alloc hC (by have := hC.size; omega) _
    replace hT := (RS.below hT (w' := (Wbx.alloc (.cells #[.int .i64 0, .int .i64 0] 42))) (Below.alloc (Below.refl _ _) (Nat.le_refl _) _)).more (B' := (Wbx.alloc (.cells #[.int .i64 0, .int .i64 0] 42)).heap.size) (by simp)
    replace bx := bx.alloc (.cells #[.int .i64 0, .int .i64 0] 42)
    generalize (Wbx.alloc (.cells #[.int .i64 0, .int .i64 0] 42)) = Wrs at *
    clear hsbx
    clear hsrs
    have lrs := rs.lt
    have rsc0 := rs.cell 0
    have rsc1 := rs.cell 1
    simp at rsc0 rsc1
    have rsf0 := rs.frozen 0
    have rsf1 := rs.frozen 1
    have lbx := bx.lt
    have bxc0 := bx.cell 0
    have bxc1 := bx.cell 1
    simp at bxc0 bxc1
    go_wp2_with fail
    replace hC : Below n0 w ((Wrs.setCell ⟨n0 + 1, 0, none⟩ (.int .i64 0)).setCell ⟨n0 + 1, 1, none⟩ (.int .i64 0)) := Below.setCell (Below.setCell hC (by show n0 ≤ n0 + 1; omega) _) (by show n0 ≤ n0 + 1; omega) _
    exact bodyPost_ret (v := rV ⟨0, 0⟩) (by simp [results, Try.results40, go_sem, rsc0, rsc1, rV]) rfl ⟨by rw [HE.out], by first | exact hC | (rw [hn0]; exact hC) | (with_reducible rw [hn0]; exact bel_of) | exact bel_of⟩
  obtain ⟨k, rfl⟩ : ∃ k : Nat, i = k := ⟨i.toNat, by omega⟩
  have hk : k < l.length := by omega
  have HE := Lib.hid (show tubR l (k : Int) = tub (nthS l k) by unfold tubR; rw [if_neg hn]; rfl)
  have hs := okS_at ho hk
  clear hn ho
  obtain ⟨n0, hn0⟩ : ∃ n, w.heap.size = n := ⟨_, rfl⟩
  have hC : Below n0 w w := Below.refl _ _
  go_enter Try.func40, Try.ntmps40
  go_upto_region 1 with fail
  have hqbx : n0 ≤ n0 := by have := hC.size; omega
  have bx : BK (w.alloc (.cells #[.slice A l.length cap, .int .i64 m] 24)) (n0) #[.slice A l.length cap, .int .i64 m] 24 := BK.new' _ _ _ (n0) hn0
  have hsbx : (w.alloc (.cells #[.slice A l.length cap, .int .i64 m] 24)).heap.size = n0 + 1 := by simp [hn0]
  replace hC : Below n0 w (w.alloc (.cells #[.slice A l.length cap, .int .i64 m] 24)) := Below.alloc hC (by have := hC.size; omega) _
  replace hT := (RS.below hT (w' := (w.alloc (.cells #[.slice A l.length cap, .int .i64 m] 24))) (Below.alloc (Below.refl _ _) (Nat.le_refl _) _)).more (B' := (w.alloc (.cells #[.slice A l.length cap, .int .i64 m] 24)).heap.size) (by simp)
  generalize (w.alloc (.cells #[.slice A l.length cap, .int .i64 m] 24)) = Wbx at *
  have hqrs : n0 ≤ n0 + 1 := by have := hC.size; omega
  have rs : BK (Wbx.alloc (.cells #[.int .i64 0, .int .i64 0] 42)) (n0 + 1) #[.int .i64 0, .int .i64 0] 42 := BK.new' _ _ _ (n0 + 1) hsbx
  have hsrs : (Wbx.alloc (.cells #[.int .i64 0, .int .i64 0] 42)).heap.size = n0 + 1 + 1 := by simp [hsbx]
  replace hC : Below n0 w (Wbx.alloc (.cells #[.int .i64 0, .int .i64 0] 42)) := Below.alloc hC (by have := hC.size; omega) _
  replace hT := (RS.below hT (w' := (Wbx.alloc (.cells #[.int .i64 0, .int .i64 0] 42))) (Below.alloc (Below.refl _ _) (Nat.le_refl _) _)).more (B' := (Wbx.alloc (.cells #[.int .i64 0, .int .i64 0] 42)).heap.size) (by simp)
  replace bx := bx.alloc (.cells #[.int .i64 0, .int .i64 0] 42)
  generalize (Wbx.alloc (.cells #[.int .i64 0, .int .i64 0] 42)) = Wrs at *
  clear hsbx
  obtain ⟨A', cap', bb, off', hve, hA, hc⟩ := RT.cells hT
  obtain ⟨rfl, hbb⟩ := hA (by omega)
  injection hve with q1 q2 q3
  subst q1 q3
  obtain ⟨d0, d1, d2, d3⟩ := hc k hk
  unfold tub at HE
  obtain ⟨⟨a, lo, hi', hd⟩, hs'⟩ : ∃ s, nthS l k = s := ⟨_, rfl⟩
  rw [hs'] at d0 d1 d2 d3 HE hs
  dsimp only at d0 d1 d2 d3 HE hs
  obtain ⟨s1, s2, s3, s4, s5, s6, s7, s8, s9⟩ := hs
  have ww1 : IntKind.i64.wrap (lo - a) = lo - a := by rw [IntKind.wrap_i64]; omega
  have ww2 : IntKind.i64.wrap (hi' - a) = hi' - a := by rw [IntKind.wrap_i64]; omega
  clear hA hc q2 hs' s1 s2 s3 s4 s5 s6 s7 s8 s9
  have lbx := bx.lt
  have bxc0 := bx.cell 0
  have bxc1 := bx.cell 1
  simp at bxc0 bxc1
  go_upto_region 4 with fail
  clear lbx bxc0 bxc1
  have hqsx : n0 ≤ n0 + 1 + 1 := by have := hC.size; omega
  have sx : BK (Wrs.alloc (.cells #[.int .i64 a, .int .i64 lo, .int .i64 hi', .int .i64 hd] 60)) (n0 + 1 + 1) #[.int .i64 a, .int .i64 lo, .int .i64 hi', .int .i64 hd] 60 := BK.new' _ _ _ (n0 + 1 + 1) hsrs
  have hssx : (Wrs.alloc (.cells #[.int .i64 a, .int .i64 lo, .int .i64 hi', .int .i64 hd] 60)).heap.size = n0 + 1 + 1 + 1 := by simp [hsrs]
  replace hC : Below n0 w (Wrs.alloc (.cells #[.int .i64 a, .int .i64 lo, .int .i64 hi', .int .i64 hd] 60)) := Below.alloc hC (by have := hC.size; omega) _
  replace hT := (RS.below hT (w' := (Wrs.alloc (.cells #[.int .i64 a, .int .i64 lo, .int .i64 hi', .int .i64 hd] 60))) (Below.alloc (Below.refl _ _) (Nat.le_refl _) _)).more (B' := (Wrs.alloc (.cells #[.int .i64 a, .int .i64 lo, .int .i64 hi', .int .i64 hd] 60)).heap.size) (by simp)
  replace bx := bx.alloc (.cells #[.int .i64 a, .int .i64 lo, .int .i64 hi', .int .i64 hd] 60)
  replace rs := rs.alloc (.cells #[.int .i64 a, .int .i64 lo, .int .i64 hi', .int .i64 hd] 60)
  generalize (Wrs.alloc (.cells #[.int .i64 a, .int .i64 lo, .int .i64 hi', .int .i64 hd] 60)) = Wsx at *
  clear hsrs
  clear d0 d1 d2 d3
  clear hssx
  have lrs := rs.lt
  have rsc0 := rs.cell 0
  have rsc1 := rs.cell 1
  simp at rsc0 rsc1
  have rsf0 := rs.frozen 0
  have rsf1 := rs.frozen 1
  have lsx := sx.lt
  have sxc0 := sx.cell 0
  have sxc1 := sx.cell 1
  have sxc2 := sx.cell 2
  have sxc3 := sx.cell 3
  simp at sxc0 sxc1 sxc2 sxc3
  go_wp2_with fail
  replace hC : Below n0 w ((Wsx.setCell ⟨n0 + 1, 0, none⟩ (.int .i64 (lo - a))).setCell ⟨n0 + 1, 1, none⟩ (.int .i64 (hi' - a))) := Below.setCell (Below.setCell hC (by show n0 ≤ n0 + 1; omega) _) (by show n0 ≤ n0 + 1; omega) _
  exact bodyPost_ret (v := rV ⟨(lo - a), (hi' - a)⟩) (by simp [results, Try.results40, go_sem, rsc0, rsc1, rV]) rfl ⟨by rw [HE.out], by first | exact hC | (rw [hn0]; exact hC) | (with_reducible rw [hn0]; exact bel_of) | exact bel_of⟩
end Go.Proofs.Ytgbegdjakadbbaa

namespace Go.Proofs.Ytgbegdjakadbbaa
open Vp

def sumTo (bl : List Int) (k : Nat) : Int := (bl.take k).sum
theorem sumTo_zero (bl : List Int) : sumTo bl 0 = 0 := by simp [sumTo]
theorem sumTo_succ {bl : List Int} {k : Nat} (h : k < bl.length) : sumTo bl (k + 1) = sumTo bl k + nthI bl k := by
  unfold sumTo nthI
  rw [List.take_succ_eq_append_getElem h, List.sum_append, List.getD_eq_getElem?_getD, List.getElem?_eq_getElem h]
  simp
theorem sumTo_rng {bl : List Int} {m : Int} (h : allIn (-m) m bl = true) : ∀ k, k ≤ bl.length → -(m * k) ≤ sumTo bl k ∧ sumTo bl k ≤ m * k
  | 0, _ => by simp [sumTo_zero]
  | k + 1, hk => by
    have ih := sumTo_rng h k (by omega)
    have h2 := (inB_iff _ _ _).1 ((allIn_iff _ _ _).1 h k (by omega))
    rw [sumTo_succ (by omega), Int.natCast_succ, Int.mul_add]
    omega
theorem sumTo_few {bl : List Int} {m : Int} (h : allIn (-m) m bl = true) (hm : 0 ≤ m ∧ m ≤ 200) (hl : bl.length ≤ 20) {k : Nat} (hk : k ≤ bl.length) : -4000 ≤ sumTo bl k ∧ sumTo bl k ≤ 4000 := by
  have h1 := sumTo_rng h k hk
  have h2 : m * (k : Int) ≤ 200 * 20 := Int.mul_le_mul hm.2 (by omega) (by omega) (by omega)
  omega
/-- By how much each of the first k stations is turned. -/
def turL (l : List St) (bl : List Int) (k : Nat) : List Int := (List.range k).map fun i => (nthS l i).ang + sumTo bl (i + 1)
theorem turL_succ (l : List St) (bl : List Int) (k : Nat) : turL l bl (k + 1) = turL l bl k ++ [(nthS l k).ang + sumTo bl (k + 1)] := by simp [turL, List.range_succ]
theorem turL_length (l : List St) (bl : List Int) (k : Nat) : (turL l bl k).length = k := by simp [turL]
theorem turL_at {l : List St} {bl : List Int} {n k : Nat} (h : k < n) : nthI (turL l bl n) k = (nthS l k).ang + sumTo bl (k + 1) := by simp [nthI, turL, h]
def aftE (l : List St) (m : Int) (bl : List Int) : Int := if blaE l m ≠ 0 then blaE l m else if bl.length ≠ l.length then 15 else if allIn (-m) m bl = true then 0 else 3
def aftL (l : List St) (m : Int) (bl : List Int) : List Int := if aftE l m bl = 0 then turL l bl l.length else []
theorem aftE_bla {l : List St} {m : Int} {bl : List Int} (h : blaE l m ≠ 0) : aftE l m bl = blaE l m := by unfold aftE; rw [if_pos h]
theorem aftE_len {l : List St} {m : Int} {bl : List Int} (h : blaE l m = 0) (h2 : bl.length ≠ l.length) : aftE l m bl = 15 := by unfold aftE; rw [if_neg (by simp [h]), if_pos h2]
theorem aftE_rng {l : List St} {m : Int} {bl : List Int} (h : blaE l m = 0) (h2 : bl.length = l.length) (h3 : allIn (-m) m bl = false) : aftE l m bl = 3 := by
  unfold aftE; rw [if_neg (by simp [h]), if_neg (by simp [h2]), if_neg (by simp [h3])]
theorem aftE_zero {l : List St} {m : Int} {bl : List Int} : aftE l m bl = 0 ↔ OkB l m ∧ bl.length = l.length ∧ allIn (-m) m bl = true := by
  rw [← blaE_ok]
  unfold aftE
  constructor
  · intro h
    split at h
    · omega
    · rename_i h1
      split at h
      · omega
      · rename_i h2
        split at h
        · rename_i h3; exact ⟨by omega, by omega, h3⟩
        · omega
  · rintro ⟨h1, h2, h3⟩
    rw [if_neg (by simp [h1]), if_neg (by simp [h2]), if_pos h3]
theorem aftL_no {l : List St} {m : Int} {bl : List Int} (h : aftE l m bl ≠ 0) : aftL l m bl = [] := by unfold aftL; rw [if_neg h]
theorem aftL_yes {l : List St} {m : Int} {bl : List Int} (h : aftE l m bl = 0) : aftL l m bl = turL l bl l.length := by unfold aftL; rw [if_pos h]
def okAt (l : List St) (bl : List Int) (i : Nat) : Bool := inB (nthS l i).lo (nthS l i).hi ((nthS l i).ang + sumTo bl (i + 1))
def costTo (l : List St) (bl : List Int) (k : Nat) : Int := ((List.range k).map fun i => cst (nthS l i) (nthI bl i)).sum
theorem costTo_zero (l : List St) (bl : List Int) : costTo l bl 0 = 0 := by simp [costTo]
theorem costTo_succ (l : List St) (bl : List Int) (k : Nat) : costTo l bl (k + 1) = costTo l bl k + cst (nthS l k) (nthI bl k) := by simp [costTo, List.range_succ]
theorem costTo_rng {l : List St} {m : Int} {bl : List Int} (h : OkB l m) (hl : bl.length = l.length) (ha : allIn (-m) m bl = true) : ∀ k, k ≤ l.length → 0 ≤ costTo l bl k ∧ costTo l bl k ≤ 1800 * k
  | 0, _ => by simp [costTo_zero]
  | k + 1, hk => by
    have ih := costTo_rng h hl ha k (by omega)
    have h2 := (inB_iff _ _ _).1 ((allIn_iff _ _ _).1 ha k (by omega))
    have h3 := h.all _ (nthS_mem (show k < l.length by omega))
    have h4 := cst_nonneg h3 (nthI bl k)
    have h5 := cst_le h3 h2.1 h2.2
    have := h.hi
    rw [costTo_succ]; omega
def chkE (l : List St) (m : Int) (bl : List Int) : Int := if aftE l m bl ≠ 0 then aftE l m bl else if (List.range l.length).all (okAt l bl) = true then 0 else 18
def chkV (l : List St) (m : Int) (bl : List Int) : Int := if chkE l m bl = 0 then costTo l bl l.length else 0
theorem chkE_aft {l : List St} {m : Int} {bl : List Int} (h : aftE l m bl ≠ 0) : chkE l m bl = aftE l m bl ∧ chkV l m bl = 0 := by
  have : chkE l m bl = aftE l m bl := by unfold chkE; rw [if_pos h]
  exact ⟨this, by unfold chkV; rw [if_neg (by rw [this]; exact h)]⟩
theorem chkE_bad {l : List St} {m : Int} {bl : List Int} (h : aftE l m bl = 0) {k : Nat} (hk : k < l.length) (h2 : okAt l bl k = false) : chkE l m bl = 18 ∧ chkV l m bl = 0 := by
  have : chkE l m bl = 18 := by
    unfold chkE; rw [if_neg (by simp [h]), if_neg]
    intro h3
    rw [List.all_eq_true] at h3
    rw [h3 k (List.mem_range.2 hk)] at h2; cases h2
  exact ⟨this, by unfold chkV; rw [if_neg (by rw [this]; decide)]⟩
theorem chkE_good {l : List St} {m : Int} {bl : List Int} (h : aftE l m bl = 0) (h2 : ∀ k, k < l.length → okAt l bl k = true) : chkE l m bl = 0 ∧ chkV l m bl = costTo l bl l.length := by
  have : chkE l m bl = 0 := by
    unfold chkE; rw [if_neg (by simp [h]), if_pos]
    rw [List.all_eq_true]
    intro i hi
    exact h2 i (List.mem_range.1 hi)
  exact ⟨this, by unfold chkV; rw [if_pos this]⟩
theorem chkE_zero {l : List St} {m : Int} {bl : List Int} : chkE l m bl = 0 ↔ aftE l m bl = 0 ∧ ∀ k, k < l.length → okAt l bl k = true := by
  constructor
  · intro h
    by_cases h1 : aftE l m bl = 0
    · refine ⟨h1, fun k hk => ?_⟩
      cases h2 : okAt l bl k with
      | true => rfl
      | false => have := (chkE_bad h1 hk h2).1; omega
    · have := (chkE_aft h1).1; omega
  · rintro ⟨h1, h2⟩; exact (chkE_good h1 h2).1
/-- The words of the walks in those of the plain laws. -/
theorem fe_iff {m : Int} : ∀ {l : List St} {f : Int} {bl : List Int}, Fe m l f bl ↔ bl.length = l.length ∧ allIn (-m) m bl = true ∧ ∀ k, k < l.length → (tub (nthS l k)).lo ≤ f + sumTo bl (k + 1) ∧ f + sumTo bl (k + 1) ≤ (tub (nthS l k)).hi
  | [], f, [] => by simp [Fe, allIn]
  | [], f, d :: bl => by simp [Fe]
  | s :: l, f, [] => by simp [Fe]
  | s :: l, f, d :: bl => by
    have ih := fe_iff (m := m) (l := l) (f := f + d) (bl := bl)
    have e1 : ∀ k, sumTo (d :: bl) (k + 1) = d + sumTo bl k := fun k => by simp [sumTo]
    have e2 : ∀ k, nthS (s :: l) (k + 1) = nthS l k := fun k => by simp [nthS]
    have e3 : nthS (s :: l) 0 = s := by simp [nthS]
    have e4 : allIn (-m) m (d :: bl) = (inB (-m) m d && allIn (-m) m bl) := by simp [allIn]
    simp only [Fe]
    rw [ih, e4]
    constructor
    · rintro ⟨h1, h2, h3, h4, h5⟩
      refine ⟨by simp [h3], by rw [h4, Bool.and_true]; exact (inB_iff _ _ _).2 h1, fun k hk => ?_⟩
      cases k with
      | zero => rw [e3, e1, sumTo_zero]; rw [Int.add_zero]; exact h2
      | succ k =>
        have := h5 k (by simpa using hk)
        rw [e2, e1]; omega
    · rintro ⟨h1, h2, h3⟩
      rw [Bool.and_eq_true] at h2
      have h0 := h3 0 (by simp)
      rw [e3, e1, sumTo_zero, Int.add_zero] at h0
      refine ⟨(inB_iff _ _ _).1 h2.1, h0, by simpa using h1, h2.2, fun k hk => ?_⟩
      have := h3 (k + 1) (by simpa using hk)
      rw [e2, e1] at this
      omega
theorem sumC_costTo : ∀ {l : List St} {bl : List Int}, bl.length = l.length → sumC l bl = costTo l bl l.length
  | [], [], _ => rfl
  | [], d :: bl, h => by simp at h
  | s :: l, [], h => by simp at h
  | s :: l, d :: bl, h => by
    have ih := sumC_costTo (l := l) (bl := bl) (by simpa using h)
    have e : costTo (s :: l) (d :: bl) (l.length + 1) = cst s d + costTo l bl l.length := by
      unfold costTo
      rw [List.range_succ_eq_map, List.map_cons, List.map_map, List.sum_cons]
      rfl
    simp only [sumC, List.length_cons]
    rw [e, ih]
theorem okAt_iff {l : List St} {bl : List Int} {k : Nat} : okAt l bl k = true ↔ (tub (nthS l k)).lo ≤ sumTo bl (k + 1) ∧ sumTo bl (k + 1) ≤ (tub (nthS l k)).hi := by
  unfold okAt tub
  rw [inB_iff]
  simp only
  omega
/-- These blows make the blade straight, and cost as much. -/
theorem chk_fe {l : List St} {m : Int} {bl : List Int} (hB : OkB l m) : chkE l m bl = 0 ↔ Fe m l 0 bl := by
  rw [chkE_zero, aftE_zero, fe_iff]
  simp only [Int.zero_add, okAt_iff]
  constructor
  · rintro ⟨⟨h1, h2, h3⟩, h4⟩; exact ⟨h2, h3, h4⟩
  · rintro ⟨h2, h3, h4⟩; exact ⟨⟨hB, h2, h3⟩, h4⟩
theorem chk_cost {l : List St} {m : Int} {bl : List Int} (h : chkE l m bl = 0) : chkV l m bl = sumC l bl := by
  have h1 := aftE_zero.1 (chkE_zero.1 h).1
  unfold chkV
  rw [if_pos h, sumC_costTo h1.2.1]
end Go.Proofs.Ytgbegdjakadbbaa
