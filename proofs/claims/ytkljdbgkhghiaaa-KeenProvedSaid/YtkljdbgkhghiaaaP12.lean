/- The worth of a chain. The worth of a chain, by the reference. Whether a chain is a circle, by the reference. A block that is a list of numbers. Lists in a temporary that grow, and that are cut short. Plain: no number of the table leaves the room between -cap and cap. -/
import Derived.Test.YtkljdbgkhghiaaaP11
import Derived.Laws.OwnMore
import Derived.Test.YtkljdbgkhghiaaaP4
import Derived.Test.YtkljdbgkhghiaaaP2
import Derived.Test.YtkljdbgkhghiaaaP1
set_option linter.all false
set_option linter.unnecessarySimpa false
set_option linter.unusedSimpArgs false
set_option linter.unusedVariables false
set_option linter.unusedSectionVars false

namespace Go.Proofs.Ytkljdbgkhghiaaa
open Go.RowKit Kp

/-- The worth of a chain, and the error. -/
def chainR (E : Int) (ts : List Kt) (c : List Kl) : Int × Int :=
  if bookE E ts ≠ 0 then (0, bookE E ts) else if c.length = 0 ∨ 40 < c.length then (0, 6) else match chk E.toNat ts (nthL c 0).src c with
    | none => (0, 16)
    | some n => (n, 0)
def resV (r : Int × Int) : Value := .tuple #[.int .i64 r.1, .int .i64 r.2]
theorem chainR_bad {E : Int} {ts : List Kt} {c : List Kl} (h : bookE E ts ≠ 0) : chainR E ts c = (0, bookE E ts) := by unfold chainR; rw [if_pos h]
theorem chainR_many {E : Int} {ts : List Kt} {c : List Kl} (h : bookE E ts = 0) (hc : c.length = 0 ∨ 40 < c.length) : chainR E ts c = (0, 6) := by unfold chainR; rw [if_neg (by omega), if_pos hc]
theorem chainR_none {E : Nat} {ts : List Kt} {c : List Kl} (h : bookE E ts = 0) (hc : ¬ (c.length = 0 ∨ 40 < c.length)) (hk : chk E ts (nthL c 0).src c = none) : chainR E ts c = (0, 16) := by
  unfold chainR; rw [if_neg (by omega), if_neg hc, Int.toNat_natCast, hk]
theorem chainR_some {E : Nat} {ts : List Kt} {c : List Kl} {n : Int} (h : bookE E ts = 0) (hc : ¬ (c.length = 0 ∨ 40 < c.length)) (hk : chk E ts (nthL c 0).src c = some n) : chainR E ts c = (n, 0) := by
  unfold chainR; rw [if_neg (by omega), if_neg hc, Int.toNat_natCast, hk]
/-- Where the link number j has to begin. -/
def atC (c : List Kl) (j : Nat) : Int := if j = 0 then (nthL c 0).src else (nthL c (j - 1)).dst
/-- So far it is a chain, of this worth. -/
def Part (E : Nat) (ts : List Kt) (c : List Kl) (j : Nat) (s : Int) : Prop := chk E ts (nthL c 0).src c = (chk E ts (atC c j) (c.drop j)).map (s + ·) ∧ -(1000 * (j : Int)) ≤ s ∧ s ≤ 1000 * (j : Int)
theorem drop_nthL {c : List Kl} {j : Nat} (h : j < c.length) : c.drop j = nthL c j :: c.drop (j + 1) := by
  rw [List.drop_eq_getElem_cons h]; unfold nthL; simp [h]
theorem Part.zero (E : Nat) (ts : List Kt) (c : List Kl) : Part E ts c 0 0 := by
  refine ⟨?_, by omega, by omega⟩
  simp only [atC, if_pos, List.drop_zero]
  cases chk E ts (nthL c 0).src c <;> simp
section
variable {E : Nat} {ts : List Kt} {c : List Kl} {j : Nat} {s n : Int}
theorem Part.bad (h : Part E ts c j s) (hj : j < c.length) (hw : worthP E ts (nthL c j) = none) : chk E ts (nthL c 0).src c = none := by
  rw [h.1, drop_nthL hj, chk, hw]; rfl
theorem Part.off (h : Part E ts c j s) (hj : j < c.length) (hne : (nthL c j).src ≠ atC c j) : chk E ts (nthL c 0).src c = none := by
  rw [h.1, drop_nthL hj, chk]
  cases worthP E ts (nthL c j) with
  | none => rfl
  | some n => dsimp only; rw [if_neg hne]; rfl
theorem Part.next (ho : Okb E ts) (h : Part E ts c j s) (hj : j < c.length) (hw : worthP E ts (nthL c j) = some n) (he : (nthL c j).src = atC c j) : Part E ts c (j + 1) (s + n) := by
  have hr := lks_rng ho ((worth_lks ho).1 hw)
  dsimp only at hr
  refine ⟨?_, by have := h.2.1; omega, by have := h.2.2; omega⟩
  rw [h.1, drop_nthL hj, chk, hw]
  dsimp only
  rw [if_pos he]
  have : atC c (j + 1) = (nthL c j).dst := by unfold atC; rw [if_neg (by omega)]; rfl
  rw [this]
  cases chk E ts (nthL c j).dst (c.drop (j + 1)) with
  | none => rfl
  | some m => simp only [Option.map_some]; congr 1; omega
theorem Part.done (h : Part E ts c j s) (hj : c.length ≤ j) : chk E ts (nthL c 0).src c = some s := by
  rw [h.1, List.drop_of_length_le hj, chk]; simp
end

set_option maxHeartbeats 8000000 in
set_option maxRecDepth 100000 in
theorem checkChain_any (E : Int) (ts : List Kt) (c : List Kl) (v u : Value) (w : World) (hl : ts.length ≤ 1000) (hcl : c.length ≤ 1000) (h : RT w w.heap.size v ts) (hu : RL w w.heap.size u c) :
    Calls Try.prog 18 #[.agg #[.int .i64 E, v], u] w fun x w' => x = .returned (resV (chainR E ts c)) ∧ Below w.heap.size w w' := by
  obtain ⟨b, off, cap, A, rfl, _⟩ := h.slice
  obtain ⟨A', cap', b', off', rfl, hA', hc'⟩ := hu.cells
  have HR := Lib.hid h
  have HA' := Lib.hid hA'
  have HC' := Lib.hid hc'
  clear h hu hA' hc'
  obtain ⟨n0, hn0⟩ : ∃ n, w.heap.size = n := ⟨_, rfl⟩
  go_enter Try.func18, Try.ntmps18
  go_wp2_with fail
  have hC : Below w.heap.size w (w.alloc (.cells #[.int .i64 E, .slice A ts.length cap] 24)) := by exact bel_of
  have bB : BK (w.alloc (.cells #[.int .i64 E, .slice A ts.length cap] 24)) n0 #[.int .i64 E, .slice A ts.length cap] 24 := BK.new' _ _ _ n0 hn0
  generalize w.alloc (.cells #[.int .i64 E, .slice A ts.length cap] 24) = W0 at *
  refine (checkBook_any E ts _ _ hl ((RS.below HR.out hC).more hC.size)).mono ?_
  rintro x w1 ⟨rfl, hb1⟩
  replace hC : Below w.heap.size w w1 := hC.trans (hb1.mono hC.size)
  replace bB := bB.below hb1 bB.lt
  clear hb1
  obtain ⟨e, he⟩ : ∃ e, bookE E ts = e := ⟨_, rfl⟩
  have HE := Lib.hid he
  rw [he]
  clear he
  have lB := bB.lt
  have y0 := bB.cell 0
  have y1 := bB.cell 1
  simp at y0 y1
  by_cases h0 : e = 0
  case neg =>
    have b1 : (e != 0) = true := by simp [h0]
    have HS := Lib.hid (show chainR E ts c = (0, e) by rw [chainR_bad (by rw [HE.out]; exact h0), HE.out])
    clear h0
    go_wp2_with fail
    exact bodyPost_ret (v := .tuple #[.int .i64 0, .int .i64 e]) (by simp [results, Try.results18, go_sem]) rfl ⟨by rw [HS.out]; rfl, hC⟩
  subst h0
  by_cases hm : c.length = 0 ∨ 40 < c.length
  case pos =>
    have HS := Lib.hid (chainR_many (c := c) HE.out hm)
    by_cases hz : c.length = 0
    · have bz : ((c.length : Int) == 0) = true := by simpa using hz
      clear hm hz
      go_wp2_with fail
      exact bodyPost_ret (v := .tuple #[.int .i64 0, .int .i64 6]) (by simp [results, Try.results18, go_sem]) rfl ⟨by rw [HS.out]; rfl, hC⟩
    · have bz : ((c.length : Int) == 0) = false := beq_eq_false_iff_ne.2 (by omega)
      have h40 : 40 < c.length := by omega
      clear hm hz
      go_wp2_with fail
      exact bodyPost_ret (v := .tuple #[.int .i64 0, .int .i64 6]) (by simp [results, Try.results18, go_sem]) rfl ⟨by rw [HS.out]; rfl, hC⟩
  have bz : ((c.length : Int) == 0) = false := beq_eq_false_iff_ne.2 (by omega)
  have h40 : ¬ 40 < c.length := by omega
  have hc0 : 0 < c.length := by omega
  obtain ⟨N, rfl, ho, hl40⟩ := bookE_ok HE.out
  have HM := Lib.hid hm
  have HO := Lib.hid ho
  clear hm ho
  obtain ⟨rfl, hb'⟩ := HA'.out (by omega)
  have d0 := (HC'.out 0 hc0).1
  rw [← hC.cell (by exact hb')] at d0
  simp only [Nat.zero_mul, Nat.add_zero] at d0
  have hbb : b' < w1.heap.size := Nat.lt_of_lt_of_le hb' hC.size
  go_upto_region 7 with fail
  obtain ⟨g7, hg7⟩ : ∃ n, w1.heap.size = n := ⟨_, rfl⟩
  have hX : Below w1.heap.size w1 (w1.alloc (.cells #[.int .i64 (N : Int), .slice A ts.length cap, .int .i64 0, .int .i64 0, .int .i64 0, .int .i64 0, .int .i64 0, .int .i64 0, .int .i64 0, .int .i64 0, .int .i64 0, .int .i64 0, .int .i64 0, .int .i64 0, .int .i64 0, .int .i64 0, .int .i64 0, .int .i64 0, .int .i64 0, .bool false] 83)) := by exact bel_of
  have hC7 : Below w.heap.size w (w1.alloc (.cells #[.int .i64 (N : Int), .slice A ts.length cap, .int .i64 0, .int .i64 0, .int .i64 0, .int .i64 0, .int .i64 0, .int .i64 0, .int .i64 0, .int .i64 0, .int .i64 0, .int .i64 0, .int .i64 0, .int .i64 0, .int .i64 0, .int .i64 0, .int .i64 0, .int .i64 0, .int .i64 0, .bool false] 83)) := hC.trans (hX.mono hC.size)
  have bN : Bn (w1.alloc (.cells #[.int .i64 (N : Int), .slice A ts.length cap, .int .i64 0, .int .i64 0, .int .i64 0, .int .i64 0, .int .i64 0, .int .i64 0, .int .i64 0, .int .i64 0, .int .i64 0, .int .i64 0, .int .i64 0, .int .i64 0, .int .i64 0, .int .i64 0, .int .i64 0, .int .i64 0, .int .i64 0, .bool false] 83)) g7 N (.slice A ts.length cap) ts (List.replicate 16 0) 0 false := ⟨BK.new' _ _ _ g7 hg7, (RS.below HR.out hC7).more hC7.size, rfl⟩
  have d0' : (w1.alloc (.cells #[.int .i64 (N : Int), .slice A ts.length cap, .int .i64 0, .int .i64 0, .int .i64 0, .int .i64 0, .int .i64 0, .int .i64 0, .int .i64 0, .int .i64 0, .int .i64 0, .int .i64 0, .int .i64 0, .int .i64 0, .int .i64 0, .int .i64 0, .int .i64 0, .int .i64 0, .int .i64 0, .bool false] 83)).cell? ⟨b', off', none⟩ = some (.int .i64 (nthL c 0).src) := (hX.cell (by exact hbb)).trans d0
  have hbb7 : b' < (w1.alloc (.cells #[.int .i64 (N : Int), .slice A ts.length cap, .int .i64 0, .int .i64 0, .int .i64 0, .int .i64 0, .int .i64 0, .int .i64 0, .int .i64 0, .int .i64 0, .int .i64 0, .int .i64 0, .int .i64 0, .int .i64 0, .int .i64 0, .int .i64 0, .int .i64 0, .int .i64 0, .int .i64 0, .bool false] 83)).heap.size := Nat.lt_of_lt_of_le hbb hX.size
  have hgg : (w1.alloc (.cells #[.int .i64 (N : Int), .slice A ts.length cap, .int .i64 0, .int .i64 0, .int .i64 0, .int .i64 0, .int .i64 0, .int .i64 0, .int .i64 0, .int .i64 0, .int .i64 0, .int .i64 0, .int .i64 0, .int .i64 0, .int .i64 0, .int .i64 0, .int .i64 0, .int .i64 0, .int .i64 0, .bool false] 83)).heap.size = g7 + 1 := by simp [hg7]
  try rw [hg7]
  generalize w1.alloc (.cells #[.int .i64 (N : Int), .slice A ts.length cap, .int .i64 0, .int .i64 0, .int .i64 0, .int .i64 0, .int .i64 0, .int .i64 0, .int .i64 0, .int .i64 0, .int .i64 0, .int .i64 0, .int .i64 0, .int .i64 0, .int .i64 0, .int .i64 0, .int .i64 0, .int .i64 0, .int .i64 0, .bool false] 83) = W7 at *
  clear hC bB lB y0 y1 d0 hbb hX hg7
  have hC := hC7
  clear hC7
  have hc0' : (0 : Int) < (c.length : Int) := by omega
  have HN := Lib.hid bN
  have HG := Lib.hid hgg
  clear bN hgg
  go_quiet (fail)
  go_wp2_with fail
  have hCd : Below w.heap.size w (W7.drewN nq) := belowN hC _
  have hbN : Bn (W7.drewN nq) g7 N (.slice A ts.length cap) ts (List.replicate 16 0) 0 false := HN.out
  clear HN HG hC d0' hbb7
  generalize W7.drewN nq = W8 at *
  go_loopw [8, 9, 38] (fun sv av iv wr => ∃ (j : Nat) (s : Int), j ≤ c.length ∧ iv = .int .i64 j ∧ sv = .int .i64 s ∧ av = .int .i64 (atC c j) ∧ Part N ts c j s ∧ Below W8.heap.size W8 wr) (fun _ _ iv _ => c.length - (intOf iv).toNat)
  case atStart => exact ⟨0, 0, Nat.zero_le _, rfl, rfl, rfl, Part.zero N ts c, Below.refl _ _⟩
  case round =>
    obtain ⟨j, s, hj, rfl, rfl, rfl, hp, hbr⟩ := hrel
    have hCw : Below w.heap.size w wr := hCd.trans (hbr.mono hCd.size)
    have hBr := hbN.below hbr
    have HP := Lib.hid hp
    by_cases hlt : j < c.length
    · have dj := HC'.out j hlt
      rw [← hCw.cell (by exact hb'), ← hCw.cell (by exact hb'), ← hCw.cell (by exact hb')] at dj
      obtain ⟨d1, d2, d3⟩ := dj
      have hbb : b' < wr.heap.size := Nat.lt_of_lt_of_le hb' hCw.size
      have hwo := fun W (hW : Below wr.heap.size wr W) => worth_any N _ ts _ 0 false g7 (nthL c j) W HO.out hl (hBr.below hW)
      have HWO := Lib.hid hwo
      have hpb := hp.2
      clear hwo hp
      unfold klV at HWO
      generalize hkk : nthL c j = kk at *
      have HKK := Lib.hid hkk
      clear hkk
      go_wp2_with fail
      have hb1 : Below wr.heap.size wr (wr.alloc (.cells #[.int .i64 kk.src, .int .i64 kk.dst, .int .i64 kk.tst] 44)) := by exact bel_of
      obtain ⟨gk, hgk⟩ : ∃ n, wr.heap.size = n := ⟨_, rfl⟩
      have bK : BK (wr.alloc (.cells #[.int .i64 kk.src, .int .i64 kk.dst, .int .i64 kk.tst] 44)) gk #[.int .i64 kk.src, .int .i64 kk.dst, .int .i64 kk.tst] 44 := BK.new' _ _ _ gk hgk
      refine (HWO.out _ hb1).mono ?_
      rintro x w2 ⟨⟨n, ok, rfl, hw⟩, hb2⟩
      have hb3 : Below wr.heap.size wr w2 := hb1.trans (hb2.mono hb1.size)
      replace bK := bK.below hb2 bK.lt
      have hb4 : Below W8.heap.size W8 w2 := hbr.trans (hb3.mono hbr.size)
      have hC4 : Below w.heap.size w w2 := hCd.trans (hb4.mono hCd.size)
      have k0 := bK.cell 0
      have k1 := bK.cell 1
      have kl := bK.lt
      simp at k0 k1
      try rw [hgk]
      clear hb1 hb2 hb3 bK hBr hbr hCw d1 d2 d3 hbb HWO hgk
      cases ok with
      | false =>
        have hn : worthP N ts (nthL c j) = none := by rw [HKK.out]; simpa using hw
        have HS := Lib.hid (chainR_none HE.out HM.out (HP.out.bad hlt hn))
        clear hn hw
        go_wp2_with fail
        exact bodyPost_ret (v := .tuple #[.int .i64 0, .int .i64 16]) (by simp [results, Try.results18, go_sem]) rfl ⟨by rw [HS.out]; rfl, hC4⟩
      | true =>
        have hn : worthP N ts (nthL c j) = some n := by rw [HKK.out]; simpa using hw
        by_cases hs : kk.src = atC c j
        · have bs : (kk.src != atC c j) = false := by simp [hs]
          have hnx := HP.out.next HO.out hlt hn (by rw [HKK.out]; exact hs)
          have hrg := lks_rng HO.out ((worth_lks HO.out).1 hn)
          have hat : atC c (j + 1) = kk.dst := by unfold atC; rw [if_neg (by omega)]; show (nthL c j).dst = _; rw [HKK.out]
          dsimp only at hrg
          have ws : IntKind.i64.wrap (s + n) = s + n := by rw [IntKind.wrap_i64]; omega
          have HNX := Lib.hid hnx
          have HAT := Lib.hid hat
          clear hs hnx hn hw hrg hat hpb
          go_wp2_with fail
          go_roundw
          case rel => exact ⟨j + 1, s + n, by omega, by go_num, rfl, by rw [HAT.out], HNX.out, hb4⟩
          case measure => simp [intOf]; omega
        · have bs : (kk.src != atC c j) = true := by simp [hs]
          have HS := Lib.hid (chainR_none HE.out HM.out (HP.out.off hlt (by rw [HKK.out]; exact hs)))
          clear hs hn hw
          go_wp2_with fail
          exact bodyPost_ret (v := .tuple #[.int .i64 0, .int .i64 16]) (by simp [results, Try.results18, go_sem]) rfl ⟨by rw [HS.out]; rfl, hC4⟩
    · have HS := Lib.hid (chainR_some HE.out HM.out (hp.done (by omega)))
      clear hp
      go_wp2_with fail
      exact bodyPost_ret (v := .tuple #[.int .i64 s, .int .i64 0]) (by simp [results, Try.results18, go_sem]) rfl ⟨by rw [HS.out]; rfl, hCw⟩
end Go.Proofs.Ytkljdbgkhghiaaa

namespace Go.Proofs.Ytkljdbgkhghiaaa
open Go.RowKit Kp

set_option maxHeartbeats 8000000 in
set_option maxRecDepth 100000 in
theorem refChain_any (E : Int) (ts : List Kt) (c : List Kl) (v u : Value) (w : World) (hl : ts.length ≤ 1000) (hcl : c.length ≤ 1000) (h : RT w w.heap.size v ts) (hu : RL w w.heap.size u c) :
    Calls Try.prog 19 #[.agg #[.int .i64 E, v], u] w fun x w' => x = .returned (resV (chainR E ts c)) ∧ Below w.heap.size w w' := by
  obtain ⟨b, off, cap, A, rfl, _⟩ := h.slice
  obtain ⟨A', cap', b', off', rfl, hA', hc'⟩ := hu.cells
  have HR := Lib.hid h
  have HA' := Lib.hid hA'
  have HC' := Lib.hid hc'
  clear h hu hA' hc'
  obtain ⟨n0, hn0⟩ : ∃ n, w.heap.size = n := ⟨_, rfl⟩
  go_enter Try.func19, Try.ntmps19
  go_wp2_with fail
  have hC : Below w.heap.size w (w.alloc (.cells #[.int .i64 E, .slice A ts.length cap] 24)) := by exact bel_of
  have bB : BK (w.alloc (.cells #[.int .i64 E, .slice A ts.length cap] 24)) n0 #[.int .i64 E, .slice A ts.length cap] 24 := BK.new' _ _ _ n0 hn0
  generalize w.alloc (.cells #[.int .i64 E, .slice A ts.length cap] 24) = W0 at *
  refine (refBook_any E ts _ _ hl ((RS.below HR.out hC).more hC.size)).mono ?_
  rintro x w1 ⟨rfl, hb1⟩
  replace hC : Below w.heap.size w w1 := hC.trans (hb1.mono hC.size)
  replace bB := bB.below hb1 bB.lt
  clear hb1
  obtain ⟨e, he⟩ : ∃ e, bookE E ts = e := ⟨_, rfl⟩
  have HE := Lib.hid he
  rw [he]
  clear he
  have lB := bB.lt
  have y0 := bB.cell 0
  have y1 := bB.cell 1
  simp at y0 y1
  by_cases h0 : e = 0
  case neg =>
    have b1 : (e != 0) = true := by simp [h0]
    have HS := Lib.hid (show chainR E ts c = (0, e) by rw [chainR_bad (by rw [HE.out]; exact h0), HE.out])
    clear h0
    go_wp2_with fail
    refine (refBook_any E ts _ _ hl ((RS.below HR.out hC).more hC.size)).mono ?_
    rintro x w2 ⟨rfl, hb1⟩
    have hC2 : Below w.heap.size w w2 := hC.trans (hb1.mono hC.size)
    rw [HE.out]
    go_wp2_with fail
    exact bodyPost_ret (v := .tuple #[.int .i64 0, .int .i64 e]) (by simp [results, Try.results19, go_sem]) rfl ⟨by rw [HS.out]; rfl, hC2⟩
  subst h0
  by_cases hm : c.length = 0 ∨ 40 < c.length
  case pos =>
    have HS := Lib.hid (chainR_many (c := c) HE.out hm)
    by_cases hz : c.length < 1
    · clear hm
      go_wp2_with fail
      exact bodyPost_ret (v := .tuple #[.int .i64 0, .int .i64 6]) (by simp [results, Try.results19, go_sem]) rfl ⟨by rw [HS.out]; rfl, by first | exact hC | (rw [← hn0]; exact hC)⟩
    · have h40 : 40 < c.length := by omega
      clear hm
      go_wp2_with fail
      exact bodyPost_ret (v := .tuple #[.int .i64 0, .int .i64 6]) (by simp [results, Try.results19, go_sem]) rfl ⟨by rw [HS.out]; rfl, by first | exact hC | (rw [← hn0]; exact hC)⟩
  have h40 : ¬ 40 < c.length := by omega
  have hc0 : ¬ c.length < 1 := by omega
  obtain ⟨N, rfl, ho, hl40⟩ := bookE_ok HE.out
  have HM := Lib.hid hm
  have HO := Lib.hid ho
  clear hm ho
  obtain ⟨rfl, hb'⟩ := HA'.out (by omega)
  go_wp2_with fail
  go_loopw [6, 7] (fun sv iv wr => ∃ (j : Nat) (s : Int), j ≤ c.length ∧ iv = .int .i64 j ∧ sv = .int .i64 s ∧ Part N ts c j s ∧ Below w1.heap.size w1 wr) (fun _ iv _ => c.length - (intOf iv).toNat)
  case atStart => exact ⟨0, 0, Nat.zero_le _, rfl, rfl, Part.zero N ts c, Below.refl _ _⟩
  case round =>
    obtain ⟨j, s, hj, rfl, rfl, hp, hbr⟩ := hrel
    have hCw : Below w.heap.size w wr := hC.trans (hbr.mono hC.size)
    have bB' := bB.below hbr bB.lt
    have y0' := bB'.cell 0
    have y1' := bB'.cell 1
    have lB' := bB'.lt
    simp at y0' y1'
    have HP := Lib.hid hp
    by_cases hlt : j < c.length
    · have dj := HC'.out j hlt
      rw [← hCw.cell (by exact hb'), ← hCw.cell (by exact hb'), ← hCw.cell (by exact hb')] at dj
      obtain ⟨d1, d2, d3⟩ := dj
      have hbb : b' < wr.heap.size := Nat.lt_of_lt_of_le hb' hCw.size
      have hRw := fun W (hW : Below wr.heap.size wr W) => (RS.below HR.out (hCw.trans (hW.mono hCw.size))).more (hCw.trans (hW.mono hCw.size)).size
      have hwo := fun W (hW : Below wr.heap.size wr W) => refWorth_any N ts (.slice A ts.length cap) (nthL c j) W HO.out hl (hRw W hW)
      have HWO := Lib.hid hwo
      have hpb := hp.2
      have hprev : 0 < j → w.cell? ⟨b', off' + (j - 1) * 3 + 1, none⟩ = some (.int .i64 (nthL c (j - 1)).dst) := fun h => (HC'.out (j - 1) (by omega)).2.1
      clear hwo hp hRw
      unfold klV at HWO
      generalize hkk : nthL c j = kk at *
      have HKK := Lib.hid hkk
      clear hkk
      go_upto_region 9 with fail
      refine wp_region_noPanic (plain_any [0, 1, 2, 3, 4, 6, 7, 8] (Below wr.heap.size wr) mixed ?_)
      (refine any_take 0 ?_ (by rfl) (by kernel_rfl) (fun _ _ _ _ _ hx => hx.elim) (.inl ⟨by rfl, ?_⟩) (by exact bel_of) ?_; rotate_left; (intro X hX; obtain ⟨r1, r2⟩ := Below.rules hX; clear hX; go_simp; rfl); simp only [List.getElem_toArray, List.getElem_cons_succ, List.getElem_cons_zero, Act.put, List.setIfInBounds_toArray, List.set_cons_succ, List.set_cons_zero])
      (refine any_take 1 ?_ (by rfl) (by kernel_rfl) (fun _ _ _ _ _ hx => hx.elim) (.inl ⟨by rfl, ?_⟩) (by exact bel_of) ?_; rotate_left; (intro X hX; obtain ⟨r1, r2⟩ := Below.rules hX; clear hX; go_simp; rfl); simp only [List.getElem_toArray, List.getElem_cons_succ, List.getElem_cons_zero, Act.put, List.setIfInBounds_toArray, List.set_cons_succ, List.set_cons_zero])
      (refine any_take 2 ?_ (by rfl) (by kernel_rfl) (fun _ _ _ _ _ hx => hx.elim) (.inl ⟨by rfl, ?_⟩) (by exact bel_of) ?_; rotate_left; (intro X hX; obtain ⟨r1, r2⟩ := Below.rules hX; clear hX; go_simp; rfl); simp only [List.getElem_toArray, List.getElem_cons_succ, List.getElem_cons_zero, Act.put, List.setIfInBounds_toArray, List.set_cons_succ, List.set_cons_zero])
      (refine any_take 3 ?_ (by rfl) (by kernel_rfl) (fun _ _ _ _ _ hx => hx.elim) (.inl ⟨by rfl, ?_⟩) (by exact bel_of) ?_; rotate_left; (intro X hX; obtain ⟨r1, r2⟩ := Below.rules hX; clear hX; go_simp; rfl); simp only [List.getElem_toArray, List.getElem_cons_succ, List.getElem_cons_zero, Act.put, List.setIfInBounds_toArray, List.set_cons_succ, List.set_cons_zero])
      (refine any_take 4 ?_ (by rfl) (by kernel_rfl) (fun _ _ _ _ _ hx => hx.elim) (.inl ⟨by rfl, ?_⟩) (by exact bel_of) ?_; rotate_left; (intro X hX; obtain ⟨r1, r2⟩ := Below.rules hX; clear hX; go_simp; rfl); simp only [List.getElem_toArray, List.getElem_cons_succ, List.getElem_cons_zero, Act.put, List.setIfInBounds_toArray, List.set_cons_succ, List.set_cons_zero])
      have d0z : Below wr.heap.size wr wr.drew := by exact bel_of
      have qz1 := d0z.size
      refine any_run1 (i := 5) (by kernel_rfl) (by rfl) (by kernel_rfl) ?_
      intro K hK
      go_wp2_with fail
      refine (HWO.out _ d0z).mono ?_
      rintro e vz1 ⟨⟨n, ok, rfl, hw⟩, hb⟩
      have ez1 : Below wr.heap.size wr vz1 := d0z.trans (hb.mono d0z.size)
      clear hb
      refine hK _ _ (fun _ => ez1) ?_
      clear hK K
      (refine any_take 6 ?_ (by rfl) (by kernel_rfl) (fun _ _ _ _ _ hx => hx.elim) (.inl ⟨by rfl, ?_⟩) (by exact bel_of) ?_; rotate_left; (intro X hX; obtain ⟨r1, r2⟩ := Below.rules hX; clear hX; go_simp; rfl); simp only [List.getElem_toArray, List.getElem_cons_succ, List.getElem_cons_zero, Act.put, List.setIfInBounds_toArray, List.set_cons_succ, List.set_cons_zero])
      (refine any_take 7 ?_ (by rfl) (by kernel_rfl) (fun _ _ _ _ _ hx => hx.elim) (.inl ⟨by rfl, ?_⟩) (by exact bel_of) ?_; rotate_left; (intro X hX; obtain ⟨r1, r2⟩ := Below.rules hX; clear hX; go_simp; rfl); simp only [List.getElem_toArray, List.getElem_cons_succ, List.getElem_cons_zero, Act.put, List.setIfInBounds_toArray, List.set_cons_succ, List.set_cons_zero])
      (refine any_take 8 ?_ (by rfl) (by kernel_rfl) (fun _ _ _ _ _ hx => hx.elim) (.inl ⟨by rfl, ?_⟩) (by exact bel_of) ?_; rotate_left; (intro X hX; obtain ⟨r1, r2⟩ := Below.rules hX; clear hX; go_simp; rfl); simp only [List.getElem_toArray, List.getElem_cons_succ, List.getElem_cons_zero, Act.put, List.setIfInBounds_toArray, List.set_cons_succ, List.set_cons_zero])
      refine any_run1 (i := 9) (by kernel_rfl) (by rfl) (by kernel_rfl) ?_
      intro K hK
      go_wp2_with fail
      refine hK _ _ (fun _ => ez1) ?_
      clear hK K
      refine any_run1 (i := 10) (by kernel_rfl) (by rfl) (by kernel_rfl) ?_
      intro K hK
      go_wp2_with fail
      refine hK _ _ (fun _ => ez1) ?_
      clear hK K
      refine any_done (by kernel_rfl) (NoPanic.normal ?_)
      have hCz : Below w.heap.size w vz1 := hCw.trans (ez1.mono hCw.size)
      have hbz : Below w1.heap.size w1 vz1 := hbr.trans (ez1.mono hbr.size)
      have D0 := (ez1.cell (p := ⟨b', off' + j * 3, none⟩) (by exact hbb)).trans d1
      have hbb2 : b' < vz1.heap.size := Nat.lt_of_lt_of_le hbb ez1.size
      have hpv : 0 < j → vz1.cell? ⟨b', off' + (j - 1) * 3 + 1, none⟩ = some (.int .i64 (nthL c (j - 1)).dst) := fun h => (hCz.cell (by exact hb')).trans (hprev h)
      clear hCw hbr d1 d2 d3 hbb hprev HWO y0' y1' lB' bB'
      cases ok with
      | false =>
        have hn : worthP N ts (nthL c j) = none := by rw [HKK.out]; simpa using hw
        have HS := Lib.hid (chainR_none HE.out HM.out (HP.out.bad hlt hn))
        clear hn hw hpv
        go_upto_region 10 with fail
        go_quiet (fail)
        go_wp2_with fail
        exact bodyPost_ret (v := .tuple #[.int .i64 0, .int .i64 16]) (by simp [results, Try.results19, go_sem]) rfl ⟨by rw [HS.out]; rfl, by first | (rw [← hn0]; exact bel_of) | exact bel_of⟩
      | true =>
        have hn : worthP N ts (nthL c j) = some n := by rw [HKK.out]; simpa using hw
        have hrg := lks_rng HO.out ((worth_lks HO.out).1 hn)
        dsimp only at hrg
        have ws : IntKind.i64.wrap (s + n) = s + n := by rw [IntKind.wrap_i64]; omega
        by_cases hj0 : j = 0
        · subst hj0
          have hnx := HP.out.next HO.out hlt hn (by unfold atC; rw [if_pos rfl])
          have HNX := Lib.hid hnx
          have z0 : decide ((0 : Int) < ((0 : Nat) : Int)) = false := decide_eq_false (by omega)
          clear hnx hn hw hrg hpb hpv
          go_upto_region 10 with fail
          go_quiet (fail)
          go_wp2_with fail
          go_roundw
          case rel => exact ⟨0 + 1, s + n, by omega, by go_num, rfl, HNX.out, by exact bel_of⟩
          case measure => simp [intOf]; omega
        · have hpd := hpv (by omega)
          have hj1 : 0 < j := by omega
          have z0 : decide ((0 : Int) < (j : Int)) = true := decide_eq_true (by omega)
          have zj : (j : Int) - 1 = ((j - 1 : Nat) : Int) := by omega
          have zl : ((j : Int) - 1).toNat = j - 1 := by omega
          have wj : IntKind.i64.wrap ((j : Int) - 1) = (j : Int) - 1 := by rw [IntKind.wrap_i64]; omega
          have nj : ¬ (j : Int) - 1 < 0 := by omega
          have pj : (0 : Int) ≤ (j : Int) - 1 := by omega
          have qj : (j : Int) - 1 < (c.length : Int) := by omega
          have hat : atC c j = (nthL c (j - 1)).dst := by unfold atC; rw [if_neg hj0]
          by_cases hs : kk.src = atC c j
          · have hnx := HP.out.next HO.out hlt hn (by rw [HKK.out]; exact hs)
            have HNX := Lib.hid hnx
            rw [hat] at hs
            have bs : (kk.src != (nthL c (j - 1)).dst) = false := by simp [hs]
            clear hs hnx hn hw hrg hpb hpv hat zj
            go_upto_region 10 with fail
            go_quiet (fail)
            go_wp2_with fail
            go_roundw
            case rel => exact ⟨j + 1, s + n, by omega, by go_num, rfl, HNX.out, by exact bel_of⟩
            case measure => simp [intOf]; omega
          · have HS := Lib.hid (chainR_none HE.out HM.out (HP.out.off hlt (by rw [HKK.out]; exact hs)))
            rw [hat] at hs
            have bs : (kk.src != (nthL c (j - 1)).dst) = true := by simp [hs]
            clear hs hn hw hrg hpb hpv hat zj
            go_upto_region 10 with fail
            go_quiet (fail)
            go_wp2_with fail
            exact bodyPost_ret (v := .tuple #[.int .i64 0, .int .i64 16]) (by simp [results, Try.results19, go_sem]) rfl ⟨by rw [HS.out]; rfl, by first | (rw [← hn0]; exact bel_of) | exact bel_of⟩
    · have HS := Lib.hid (chainR_some HE.out HM.out (hp.done (by omega)))
      clear hp
      go_wp2_with fail
      exact bodyPost_ret (v := .tuple #[.int .i64 s, .int .i64 0]) (by simp [results, Try.results19, go_sem]) rfl ⟨by rw [HS.out]; rfl, hCw⟩
end Go.Proofs.Ytkljdbgkhghiaaa

namespace Go.Proofs.Ytkljdbgkhghiaaa
open Go.RowKit Kp

/-- Whether a chain is a circle. -/
def circB (E : Int) (ts : List Kt) (c : List Kl) : Bool := decide ((chainR E ts c).2 = 0 ∧ (chainR E ts c).1 < 0 ∧ 0 ≤ (nthL c 0).src ∧ (nthL c 0).src = (nthL c (c.length - 1)).dst)
theorem chainR_len {E : Int} {ts : List Kt} {c : List Kl} (h : (chainR E ts c).2 = 0) : c.length ≠ 0 := by
  intro h0
  unfold chainR at h
  split at h
  · rename_i hb; exact hb h
  · rw [if_pos (.inl h0)] at h; cases h

set_option maxHeartbeats 8000000 in
set_option maxRecDepth 100000 in
theorem isCircle_any (E : Int) (ts : List Kt) (c : List Kl) (v u : Value) (w : World) (hl : ts.length ≤ 1000) (hcl : c.length ≤ 1000) (h : RT w w.heap.size v ts) (hu : RL w w.heap.size u c) :
    Calls Try.prog 23 #[.agg #[.int .i64 E, v], u] w fun x w' => x = .returned (.bool (circB E ts c)) ∧ Below w.heap.size w w' := by
  obtain ⟨b, off, cap, A, rfl, _⟩ := h.slice
  obtain ⟨A', cap', b', off', rfl, hA', hc'⟩ := hu.cells
  have HR := Lib.hid h
  have HU := Lib.hid hu
  have HA' := Lib.hid hA'
  have HC' := Lib.hid hc'
  clear h hu hA' hc'
  obtain ⟨n0, hn0⟩ : ∃ n, w.heap.size = n := ⟨_, rfl⟩
  go_enter Try.func23, Try.ntmps23
  go_wp2_with fail
  have hC : Below w.heap.size w (w.alloc (.cells #[.int .i64 E, .slice A ts.length cap] 24)) := by exact bel_of
  generalize w.alloc (.cells #[.int .i64 E, .slice A ts.length cap] 24) = W0 at *
  refine (refChain_any E ts c _ _ _ hl hcl ((RS.below HR.out hC).more hC.size) ((RS.below HU.out hC).more hC.size)).mono ?_
  rintro x w1 ⟨rfl, hb1⟩
  replace hC : Below w.heap.size w w1 := hC.trans (hb1.mono hC.size)
  clear hb1
  have hq : circB E ts c = decide ((chainR E ts c).2 = 0 ∧ (chainR E ts c).1 < 0 ∧ 0 ≤ (nthL c 0).src ∧ (nthL c 0).src = (nthL c (c.length - 1)).dst) := rfl
  have hne := chainR_len (E := E) (ts := ts) (c := c)
  generalize chainR E ts c = r at *
  obtain ⟨n, e⟩ := r
  dsimp only at hq hne
  have HQ := Lib.hid hq
  have HNE := Lib.hid hne
  clear hq hne
  unfold resV
  dsimp only
  by_cases h0 : e = 0
  case neg =>
    have b1 : (e == 0) = false := by simp [h0]
    have HS := Lib.hid (show circB E ts c = false by rw [HQ.out]; exact decide_eq_false fun h => h0 h.1)
    clear h0
    go_upto_region 2 with fail
    go_quiet (fail)
    go_wp2_with fail
    exact bodyPost_ret (v := .bool false) (by simp [results, Try.results23, go_sem]) rfl ⟨by rw [HS.out], by first | exact belowN hC _ | (rw [← hn0]; exact belowN hC _)⟩
  subst h0
  by_cases hn : n < 0
  case neg =>
    have HS := Lib.hid (show circB E ts c = false by rw [HQ.out]; exact decide_eq_false fun h => hn h.2.1)
    go_upto_region 2 with fail
    go_quiet (fail)
    go_wp2_with fail
    exact bodyPost_ret (v := .bool false) (by simp [results, Try.results23, go_sem]) rfl ⟨by rw [HS.out], by first | exact belowN hC _ | (rw [← hn0]; exact belowN hC _)⟩
  have hc0 : 0 < c.length := Nat.pos_of_ne_zero (HNE.out rfl)
  obtain ⟨rfl, hb'⟩ := HA'.out (by omega)
  obtain ⟨d1, _, _⟩ := HC'.out 0 hc0
  obtain ⟨_, e2, _⟩ := HC'.out (c.length - 1) (by omega)
  rw [← hC.cell (by exact hb')] at d1 e2
  rw [Nat.zero_mul, Nat.add_zero] at d1
  have hbb : b' < w1.heap.size := Nat.lt_of_lt_of_le hb' hC.size
  by_cases hs : (nthL c 0).src < 0
  · have HS := Lib.hid (show circB E ts c = false by rw [HQ.out]; exact decide_eq_false fun h => by have := h.2.2.1; omega)
    have z0 : decide (0 ≤ (nthL c 0).src) = false := decide_eq_false (by omega)
    clear e2
    go_upto_region 2 with fail
    go_quiet (fail)
    go_wp2_with fail
    exact bodyPost_ret (v := .bool false) (by simp [results, Try.results23, go_sem]) rfl ⟨by rw [HS.out], by first | exact belowN hC _ | (rw [← hn0]; exact belowN hC _)⟩
  have hs0 : 0 ≤ (nthL c 0).src := by omega
  have zl : ((c.length : Int) - 1).toNat = c.length - 1 := by omega
  have wj : IntKind.i64.wrap ((c.length : Int) - 1) = (c.length : Int) - 1 := by rw [IntKind.wrap_i64]; omega
  have nj : ¬ (c.length : Int) - 1 < 0 := by omega
  have pj : (0 : Int) ≤ (c.length : Int) - 1 := by omega
  have qj : (c.length : Int) - 1 < (c.length : Int) := by omega
  by_cases he : (nthL c 0).src = (nthL c (c.length - 1)).dst
  · have HS := Lib.hid (show circB E ts c = true by rw [HQ.out]; exact decide_eq_true ⟨rfl, hn, hs0, he⟩)
    have bs : ((nthL c 0).src == (nthL c (c.length - 1)).dst) = true := by simp [he]
    clear he
    go_upto_region 2 with fail
    go_quiet (fail)
    go_wp2_with fail
    exact bodyPost_ret (v := .bool true) (by simp [results, Try.results23, go_sem]) rfl ⟨by rw [HS.out], by first | exact belowN hC _ | (rw [← hn0]; exact belowN hC _)⟩
  · have HS := Lib.hid (show circB E ts c = false by rw [HQ.out]; exact decide_eq_false fun h => he h.2.2.2)
    have bs : ((nthL c 0).src == (nthL c (c.length - 1)).dst) = false := by simp [he]
    clear he
    go_upto_region 2 with fail
    go_quiet (fail)
    go_wp2_with fail
    exact bodyPost_ret (v := .bool false) (by simp [results, Try.results23, go_sem]) rfl ⟨by rw [HS.out], by first | exact belowN hC _ | (rw [← hn0]; exact belowN hC _)⟩
end Go.Proofs.Ytkljdbgkhghiaaa

namespace Go.Proofs.Ytkljdbgkhghiaaa
open Go.RowKit Kp

/-- The block g is a list of numbers. -/
def Lb (W : World) (g : Nat) (l : List Int) : Prop := BK W g (ofI l).toArray 2
section
variable {W W' : World} {g : Nat} {l : List Int}
theorem Lb.lt (h : Lb W g l) : g < W.heap.size := BK.lt h
theorem Lb.at (h : Lb W g l) {i : Nat} (hi : i < l.length) : W.cell? ⟨g, i, none⟩ = some (.int .i64 (nthI l i)) := by
  rw [BK.cell h, List.getElem?_toArray]; exact ofI_get hi
theorem Lb.frozen (h : Lb W g l) (i : Nat) : W.frozen? ⟨g, i, none⟩ = false := BK.frozen h i
theorem Lb.below (h : Lb W g l) (hb : Below W.heap.size W W') : Lb W' g l := BK.below h hb h.lt
theorem Lb.same (h : Lb W g l) (hb : W'.heap[g]? = W.heap[g]?) : Lb W' g l := hb.trans h
theorem Lb.set (h : Lb W g l) (i : Nat) (x : Int) : Lb (W.setCell ⟨g, i, none⟩ (.int .i64 x)) g (l.set i x) := by
  have := BK.set h i (.int .i64 x)
  rw [List.setIfInBounds_toArray, ofI_set] at this
  exact this
theorem Lb.ri (h : Lb W g l) : RI W W.heap.size (.slice (some ⟨g, 0, none⟩) l.length l.length) l :=
  ⟨_, _, g, 0, rfl, ⟨by rw [ofI_len]; omega, Nat.le_refl _⟩, fun _ => ⟨rfl, h.lt⟩, fun j hj => by rw [Nat.zero_add, BK.cell h, List.getElem?_toArray]⟩
end
theorem made_ofI (N : Nat) : madeCells #[.int .i64 0] N = (ofI (List.replicate N 0)).toArray := by
  apply Array.toList_inj.1
  rw [toList_madeCells_one]
  simp [ofI]
end Go.Proofs.Ytkljdbgkhghiaaa

namespace Go.Proofs.Ytkljdbgkhghiaaa
open Go.RowKit Kp

/-- What is appended (the element lies in the block made last), the list lying in a temporary. -/
theorem app_t {P : Program} {t e size bytes : Nat} {z : Value} (hinf : (P.info? e).map (fun i => (i.zero, i.size, i.bytes)) = some (some z, size, bytes)) (ht : P.underlying t = some (.slice e)) (hzs : z.cells.size = size) (hsz : 0 < size) (hb1 : bytes ≤ 1000)
    {base n : Nat} {w0 w1 : World} {xs news : List Value} {v : Value} (hown : w1.ownsRow base e size v n xs) (hl : news.length = size) (h1 : ∀ u ∈ news, u.oneCell' = true) (hn : n ≤ 100000) (hbase : base ≤ w1.heap.size) (hbw : Below base w0 w1) (ty tn : Nat) (B : Nat) (hB : w1.heap.size = B) :
    ∃ g' cap' w2, (Builtin.append_ #[t, t] ty #[v, .slice (some ⟨B, 0, none⟩) 1 1]).run P (w1.alloc (.cells news.toArray tn)) = .ok (.slice (some ⟨g', 0, none⟩) (n + 1) cap') w2 ∧
      w2.ownsRow base e size (.slice (some ⟨g', 0, none⟩) (n + 1) cap') (n + 1) (xs ++ news) ∧ Below base w0 w2 ∧ w1.heap.size ≤ w2.heap.size ∧ (∀ k cs t, BK w1 k cs t → t ≠ e → BK w2 k cs t) := by
  subst hB
  obtain ⟨i0, hi0, hz0, hz1, hz2⟩ := info_parts hinf
  obtain ⟨g', cap', w2, hrun, hown', hgr, hg'⟩ := app1 (P := P) t ty e i0 z size bytes ht hi0 hz0 hz1 hz2 hzs hsz hb1 base (w1.alloc (.cells news.toArray tn)) v n xs (hown.alloc _) w1.heap.size news tn (BK.new _ _ _) hl h1 hn (by simp; omega)
  have hs2 := hgr.size
  simp at hs2
  refine ⟨g', cap', w2, hrun, hown', ?_, by omega, ?_⟩
  · exact Below.grown (hbw.alloc hbase _) hgr (by simp; omega) fun k hk => (hown.lt k hk).1
  · intro k cs t hk hte
    refine (hk.alloc _).grown hgr ?_
    intro hq
    obtain ⟨c, hc⟩ := own_block hown hq.symm
    unfold BK at hk
    rw [hk] at hc; injection hc with hc; injection hc with _ hc; exact hte hc

theorem own_cut {W : World} {base e size n : Nat} {xs : List Value} {g cap : Nat} (h : W.ownsRow base e size (.slice (some ⟨g, 0, none⟩) n cap) n xs) {m : Nat} (hm : m ≤ n) :
    W.ownsRow base e size (.slice (some ⟨g, 0, none⟩) m cap) m (xs.take (m * size)) := by
  obtain ⟨hl, h2⟩ := h
  have hms : m * size ≤ n * size := Nat.mul_le_mul_right _ hm
  refine ⟨by rw [List.length_take, hl, Nat.min_eq_left hms], .inr ?_⟩
  rcases h2 with ⟨hv, _⟩ | ⟨g2, c2, cur, hv, hb, hh, h3, h4, h5, h6⟩
  · cases hv
  · injection hv with hv1 hv2 hv3
    injection hv1 with hv1; injection hv1 with hv1
    subst hv1; subst hv3
    refine ⟨g, cap, cur, rfl, hb, hh, by omega, h4, h5, ?_⟩
    rw [← h6, List.take_take, Nat.min_eq_left hms]

theorem i64_info : (Try.prog.info? 2).map (fun i => (i.zero, i.size, i.bytes)) = some (some (.int .i64 0), 1, 8) := by kernel_rfl
theorem i64_slice : Try.prog.underlying 40 = some (.slice 2) := by kernel_rfl
theorem int_info : (Try.prog.info? 3).map (fun i => (i.zero, i.size, i.bytes)) = some (some (.int .i64 0), 1, 8) := by kernel_rfl
theorem int_slice : Try.prog.underlying 51 = some (.slice 3) := by kernel_rfl
theorem kt_info : (Try.prog.info? 56).map (fun i => (i.zero, i.size, i.bytes)) = some (some (.agg #[.int .i64 0, .int .i64 0, .int .i64 0, .int .i64 0]), 4, 32) := by kernel_rfl
theorem kt_slice : Try.prog.underlying 22 = some (.slice 56) := by kernel_rfl
theorem kl_info : (Try.prog.info? 44).map (fun i => (i.zero, i.size, i.bytes)) = some (some (.agg #[.int .i64 0, .int .i64 0, .int .i64 0]), 3, 24) := by kernel_rfl
theorem kl_slice : Try.prog.underlying 25 = some (.slice 44) := by kernel_rfl

theorem ofI_app (l : List Int) (x : Int) : ofI l ++ [.int .i64 x] = ofI (l ++ [x]) := by simp [ofI]
theorem ofI_length (l : List Int) : (ofI l).length = l.length := by simp [ofI]

/-- A list of numbers (of type int, int64), of ratios, of stations, that grows. -/
def OwnI (T : Nat) (W : World) (base : Nat) (v : Value) (l : List Int) : Prop := W.ownsRow base T 1 v l.length (ofI l)
def OwnT (W : World) (base : Nat) (v : Value) (l : List Kt) : Prop := W.ownsRow base 56 4 v l.length (ofG encT l)
def OwnL (W : World) (base : Nat) (v : Value) (l : List Kl) : Prop := W.ownsRow base 44 3 v l.length (ofG encL l)
theorem OwnI.nil (T : Nat) (W : World) (base : Nat) : OwnI T W base (.slice none 0 0) [] := ⟨by simp [ofI], .inl ⟨rfl, rfl⟩⟩
theorem own_below {W W' : World} {base e sz n : Nat} {v : Value} {cs : List Value} (h : W.ownsRow base e sz v n cs) (hb : Below W.heap.size W W') : W'.ownsRow base e sz v n cs := (Adm.below (B := 0) hb).own h
theorem OwnI.below {T : Nat} {W W' : World} {base : Nat} {v : Value} {l : List Int} (h : OwnI T W base v l) (hb : Below W.heap.size W W') : OwnI T W' base v l := own_below h hb
theorem OwnI.ri {T : Nat} {W : World} {base : Nat} {v : Value} {l : List Int} (h : OwnI T W base v l) : RI W W.heap.size v l := RS.of_own h

theorem app_int {base : Nat} {w0 w1 : World} {l : List Int} {v : Value} (hown : OwnI 3 w1 base v l) (x : Int) (hn : l.length ≤ 100000) (hbase : base ≤ w1.heap.size) (hbw : Below base w0 w1) (B : Nat) (hB : w1.heap.size = B) :
    ∃ v' w2, (Builtin.append_ #[51, 51] 51 #[v, .slice (some ⟨B, 0, none⟩) 1 1]).run Try.prog (w1.alloc (.cells #[.int .i64 x] 3)) = .ok v' w2 ∧
      OwnI 3 w2 base v' (l ++ [x]) ∧ Below base w0 w2 ∧ w1.heap.size ≤ w2.heap.size ∧ (∀ k cs t, BK w1 k cs t → t ≠ 3 → BK w2 k cs t) := by
  obtain ⟨g', cap', w2, h1, h2, h3, h4, h5⟩ := app_t int_info int_slice rfl (by decide) (by decide) hown (news := [.int .i64 x]) rfl (by intro u hu; simp at hu; subst hu; rfl) hn hbase hbw 51 3 B hB
  exact ⟨_, w2, h1, by rw [ofI_app] at h2; unfold OwnI; simpa using h2, h3, h4, h5⟩
theorem app_i64 {base : Nat} {w0 w1 : World} {l : List Int} {v : Value} (hown : OwnI 2 w1 base v l) (x : Int) (hn : l.length ≤ 100000) (hbase : base ≤ w1.heap.size) (hbw : Below base w0 w1) (B : Nat) (hB : w1.heap.size = B) :
    ∃ v' w2, (Builtin.append_ #[40, 40] 40 #[v, .slice (some ⟨B, 0, none⟩) 1 1]).run Try.prog (w1.alloc (.cells #[.int .i64 x] 2)) = .ok v' w2 ∧
      OwnI 2 w2 base v' (l ++ [x]) ∧ Below base w0 w2 ∧ w1.heap.size ≤ w2.heap.size ∧ (∀ k cs t, BK w1 k cs t → t ≠ 2 → BK w2 k cs t) := by
  obtain ⟨g', cap', w2, h1, h2, h3, h4, h5⟩ := app_t i64_info i64_slice rfl (by decide) (by decide) hown (news := [.int .i64 x]) rfl (by intro u hu; simp at hu; subst hu; rfl) hn hbase hbw 40 2 B hB
  exact ⟨_, w2, h1, by rw [ofI_app] at h2; unfold OwnI; simpa using h2, h3, h4, h5⟩
theorem OwnT.nil (W : World) (base : Nat) : OwnT W base (.slice none 0 0) [] := ⟨by simp [ofG], .inl ⟨rfl, rfl⟩⟩
theorem OwnL.nil (W : World) (base : Nat) : OwnL W base (.slice none 0 0) [] := ⟨by simp [ofG], .inl ⟨rfl, rfl⟩⟩
theorem OwnT.below {W W' : World} {base : Nat} {v : Value} {l : List Kt} (h : OwnT W base v l) (hb : Below W.heap.size W W') : OwnT W' base v l := own_below h hb
theorem OwnL.below {W W' : World} {base : Nat} {v : Value} {l : List Kl} (h : OwnL W base v l) (hb : Below W.heap.size W W') : OwnL W' base v l := own_below h hb
theorem OwnT.ri {W : World} {base : Nat} {v : Value} {l : List Kt} (h : OwnT W base v l) : RT W W.heap.size v l := RS.of_own h
theorem OwnL.ri {W : World} {base : Nat} {v : Value} {l : List Kl} (h : OwnL W base v l) : RL W W.heap.size v l := RS.of_own h
theorem app_kt {base : Nat} {w0 w1 : World} {l : List Kt} {v : Value} (hown : OwnT w1 base v l) (x : Kt) (hn : l.length ≤ 100000) (hbase : base ≤ w1.heap.size) (hbw : Below base w0 w1) (B : Nat) (hB : w1.heap.size = B) :
    ∃ v' w2, (Builtin.append_ #[22, 22] 22 #[v, .slice (some ⟨B, 0, none⟩) 1 1]).run Try.prog (w1.alloc (.cells #[.int .i64 x.one, .int .i64 x.two, .int .i64 x.lo, .int .i64 x.hi] 56)) = .ok v' w2 ∧
      OwnT w2 base v' (l ++ [x]) ∧ Below base w0 w2 ∧ w1.heap.size ≤ w2.heap.size ∧ (∀ k cs t, BK w1 k cs t → t ≠ 56 → BK w2 k cs t) := by
  obtain ⟨g', cap', w2, h1, h2, h3, h4, h5⟩ := app_t kt_info kt_slice rfl (by decide) (by decide) hown (news := encT x) rfl (by intro u hu; simp [encT] at hu; rcases hu with rfl | rfl | rfl | rfl <;> rfl) hn hbase hbw 22 56 B hB
  exact ⟨_, w2, h1, by rw [ofG_app] at h2; unfold OwnT; simpa using h2, h3, h4, h5⟩
theorem app_kl {base : Nat} {w0 w1 : World} {l : List Kl} {v : Value} (hown : OwnL w1 base v l) (x : Kl) (hn : l.length ≤ 100000) (hbase : base ≤ w1.heap.size) (hbw : Below base w0 w1) (B : Nat) (hB : w1.heap.size = B) :
    ∃ v' w2, (Builtin.append_ #[25, 25] 25 #[v, .slice (some ⟨B, 0, none⟩) 1 1]).run Try.prog (w1.alloc (.cells #[.int .i64 x.src, .int .i64 x.dst, .int .i64 x.tst] 44)) = .ok v' w2 ∧
      OwnL w2 base v' (l ++ [x]) ∧ Below base w0 w2 ∧ w1.heap.size ≤ w2.heap.size ∧ (∀ k cs t, BK w1 k cs t → t ≠ 44 → BK w2 k cs t) := by
  obtain ⟨g', cap', w2, h1, h2, h3, h4, h5⟩ := app_t kl_info kl_slice rfl (by decide) (by decide) hown (news := encL x) rfl (by intro u hu; simp [encL] at hu; rcases hu with rfl | rfl | rfl <;> rfl) hn hbase hbw 25 44 B hB
  exact ⟨_, w2, h1, by rw [ofG_app] at h2; unfold OwnL; simpa using h2, h3, h4, h5⟩
end Go.Proofs.Ytkljdbgkhghiaaa

namespace Go.Proofs.Ytkljdbgkhghiaaa
namespace Kp
def Rng (l : List Int) : Prop := ∀ j, -cap ≤ nthI l j ∧ nthI l j ≤ cap
theorem rng_set {l : List Int} (h : Rng l) {i : Nat} {x : Int} (hx : -cap ≤ x ∧ x ≤ cap) : Rng (l.set i x) := by
  intro j
  by_cases hi : i < l.length
  · rw [nthI_set hi]
    split
    · exact hx
    · exact h j
  · rw [List.set_eq_of_length_le (by omega)]; exact h j
theorem rng_upd {l : List Int} (n m u v : Nat) (h : Rng l) : Rng (upd n m u v l) := by
  refine rng_set h ?_
  have h1 := h (u * n + v)
  show -cap ≤ min (nthI l (u * n + v)) _ ∧ min (nthI l (u * n + v)) _ ≤ cap
  generalize X n l u m + X n l m v = z
  omega
theorem rng_V {l : List Int} (n m u : Nat) (h : Rng l) : ∀ v, Rng (fwV n m u v l)
  | 0 => h
  | v + 1 => rng_upd n m u v (rng_V n m u h v)
theorem rng_U {l : List Int} (n m : Nat) (h : Rng l) : ∀ u, Rng (fwU n m u l)
  | 0 => h
  | u + 1 => rng_V n m u (rng_U n m h u) n
theorem rng_M {l : List Int} (n : Nat) (h : Rng l) : ∀ m, Rng (fwM n m l)
  | 0 => h
  | m + 1 => rng_U n m (rng_M n h m) n
theorem rng_i1 (n : Nat) : ∀ k, Rng (i1 n k)
  | 0 => by
    intro j
    unfold i1
    by_cases hj : j < n * n
    · rw [nthI_rep hj]; unfold cap; omega
    · unfold nthI
      rw [List.getD_eq_getElem?_getD, List.getElem?_eq_none (by simp; omega)]
      unfold cap
      simp
  | k + 1 => rng_set (rng_i1 n k) (by unfold cap; omega)
theorem rng_i2 (E : Nat) : ∀ k, Rng (i2 E k)
  | 0 => rng_i1 _ _
  | k + 1 => rng_set (rng_set (rng_i2 E k) (by unfold cap; omega)) (by unfold cap; omega)
theorem rng_init {E : Nat} {ts : List Kt} (ho : Okb E ts) : Rng (initL E ts) := by
  have key : ∀ (ts : List Kt) (l : List Int), (∀ t ∈ ts, -cap ≤ t.hi ∧ -cap ≤ -t.lo) → Rng l → Rng (ts.foldl (tmin (E + 1)) l) := by
    intro ts
    induction ts with
    | nil => intro l _ h; exact h
    | cons t ts ih =>
      intro l ht h
      refine ih _ (fun x hx => ht x (List.mem_cons_of_mem _ hx)) ?_
      have h0 := ht t (List.mem_cons_self ..)
      unfold tmin
      have h1 : Rng (l.set (t.two.toNat * (E + 1) + t.one.toNat) (min (X (E + 1) l t.two.toNat t.one.toNat) t.hi)) := by
        refine rng_set h ?_
        have h1 := h (t.two.toNat * (E + 1) + t.one.toNat)
        show -cap ≤ min (nthI l (t.two.toNat * (E + 1) + t.one.toNat)) _ ∧ min (nthI l (t.two.toNat * (E + 1) + t.one.toNat)) _ ≤ cap
        omega
      refine rng_set h1 ?_
      have h2 := h1 (t.one.toNat * (E + 1) + t.two.toNat)
      refine ⟨?_, ?_⟩
      · refine Int.le_min.2 ⟨h2.1, h0.2⟩
      · exact Int.le_trans (Int.min_le_left _ _) h2.2
  refine key ts _ (fun t ht => ?_) (rng_i2 E E)
  obtain ⟨q1, q2, q3, q4, q5, q6, q7, q8⟩ := ho.tst t ht
  unfold cap
  omega
end Kp
end Go.Proofs.Ytkljdbgkhghiaaa
