/- The ranges of a recipe, for the reference. Which hardnesses are a history, for the program. Which hardnesses are a history, for the reference. -/
import Derived.Test.YtkibdciomheekaaP9
set_option linter.all false
set_option linter.unnecessarySimpa false
set_option linter.unusedSimpArgs false
set_option linter.unusedVariables false
set_option linter.unusedSectionVars false

set_option linter.all false
namespace Go.Proofs.Ytkibdciomheekaa
open Go.RowKit Hp

end Go.Proofs.Ytkibdciomheekaa

set_option linter.all false
namespace Go.Proofs.Ytkibdciomheekaa
open Go.RowKit Hp

/-- The error of a history. -/
def histE (bars : List Rg) (ss : List Stp) (b : Int) (ks hs : List Int) : Int :=
  if recE bars ss b ks ≠ 0 then recE bars ss b ks else if hs.length ≠ ss.length + 1 then 15 else if histB (nthB bars b.toNat) (pick ss (nats ks)) hs then 0 else 16
theorem histE_rec {bars : List Rg} {ss : List Stp} {b e : Int} {ks hs : List Int} (h : recE bars ss b ks = e) (h0 : e ≠ 0) : histE bars ss b ks hs = e := by unfold histE; rw [h, if_pos h0]
theorem histE_len {bars : List Rg} {ss : List Stp} {b : Int} {ks hs : List Int} (h : recE bars ss b ks = 0) (h2 : hs.length ≠ ss.length + 1) : histE bars ss b ks hs = 15 := by unfold histE; rw [h, if_neg (by simp), if_pos h2]
theorem histE_at {bars : List Rg} {ss : List Stp} {b : Int} {ks hs : List Int} (h : recE bars ss b ks = 0) (h2 : hs.length = ss.length + 1) {q : Bool} (hq : histB (nthB bars b.toNat) (pick ss (nats ks)) hs = q) : histE bars ss b ks hs = if q = true then 0 else 16 := by unfold histE; rw [h, if_neg (by simp), if_neg (by omega), hq]
/-- Step by step: what is left of a history. -/
theorem hist_step {r : Rg} {ws : List Wy} {hs : List Int} {k : Nat} (h1 : k < ws.length) (h2 : k < hs.length) : histB r (ws.drop k) (hs.drop k) = (inR (nthI hs k) r && histB (aft (nthW ws k) (nthI hs k)) (ws.drop (k + 1)) (hs.drop (k + 1))) := by
  have e1 : ws.drop k = nthW ws k :: ws.drop (k + 1) := by rw [nthW_eq h1, List.getElem_cons_drop]
  have e2 : hs.drop k = nthI hs k :: hs.drop (k + 1) := by
    have : nthI hs k = hs[k] := by simp [nthI, h2]
    rw [this, List.getElem_cons_drop]
  rw [e1, e2]; rfl
theorem hist_end {r : Rg} {ws : List Wy} {hs : List Int} (h : hs.length = ws.length + 1) : histB r (ws.drop ws.length) (hs.drop ws.length) = inR (nthI hs ws.length) r := by
  have e2 : hs.drop ws.length = [nthI hs ws.length] := by
    have h2 : ws.length < hs.length := by omega
    have : nthI hs ws.length = hs[ws.length] := by simp [nthI, h2]
    rw [this, ← List.getElem_cons_drop h2, List.drop_eq_nil_of_le (by omega)]
  rw [List.drop_length, e2]; rfl
theorem inR_eq (n : Int) (r : Rg) : inB r.lo r.hi n = inR n r := by unfold inB inR; rw [Bool.eq_iff_iff]; simp
def nthH (ws : List Wy) (k : Nat) : Wy := nthW ws k

set_option maxHeartbeats 8000000 in
set_option maxRecDepth 100000 in
theorem history_any (bars : List Rg) (ss : List Stp) (b : Int) (ks : List Int) (hs : List Int) (vh vb vs vk : Value) (w : World) (hf : Fit bars ss) (hkl : ks.length ≤ 1000) (hB : RR w w.heap.size vb bars) (hS : RP w w.heap.size vs ss) (hR : RI w w.heap.size vk ks) (hH : RI w w.heap.size vh hs) (hhl : hs.length ≤ 1000) :
    Calls Try.prog 26 #[.agg #[vb, vs], .agg #[.int .i64 b, vk], vh] w fun e w' => e = .returned (.int .i64 (histE bars ss b ks hs)) ∧ Below w.heap.size w w' := by
  have HF := Lib.hid hf
  have hfb := hf.b
  have hfs := hf.s
  clear hf
  obtain ⟨Ab, cb, rfl⟩ := hB.slice
  obtain ⟨As, cs, rfl⟩ := hS.slice
  obtain ⟨Ak, ck, rfl⟩ : ∃ A c, vk = .slice A ks.length c := by
    obtain ⟨A, c, b, o, hv, _⟩ := hR
    exact ⟨A, c, hv⟩
  obtain ⟨Ah, ch, rfl⟩ : ∃ A c, vh = .slice A hs.length c := by
    obtain ⟨A, c, b, o, hv, _⟩ := hH
    exact ⟨A, c, hv⟩
  obtain ⟨n0, hn0⟩ : ∃ n, w.heap.size = n := ⟨_, rfl⟩
  have hC : Below n0 w w := Below.refl _ _
  have hH0 := hH
  rw [hn0] at hH0
  have HH0 := Lib.hid hH0
  clear hH0
  go_enter Try.func26, Try.ntmps26
  go_upto_region 1 with fail
  have hqbx : n0 ≤ n0 := by have := hC.size; omega
  have bx : BK (w.alloc (.cells #[.slice Ab bars.length cb, .slice As ss.length cs] 25)) (n0) #[.slice Ab bars.length cb, .slice As ss.length cs] 25 := BK.new' _ _ _ (n0) hn0
  have hsbx : (w.alloc (.cells #[.slice Ab bars.length cb, .slice As ss.length cs] 25)).heap.size = n0 + 1 := by simp [hn0]
  replace hC : Below n0 w (w.alloc (.cells #[.slice Ab bars.length cb, .slice As ss.length cs] 25)) := Below.alloc hC (by have := hC.size; omega) _
  replace hB := (RS.below hB (w' := (w.alloc (.cells #[.slice Ab bars.length cb, .slice As ss.length cs] 25))) (Below.alloc (Below.refl _ _) (Nat.le_refl _) _)).more (B' := (w.alloc (.cells #[.slice Ab bars.length cb, .slice As ss.length cs] 25)).heap.size) (by simp)
  replace hS := (RP.below hS (w' := (w.alloc (.cells #[.slice Ab bars.length cb, .slice As ss.length cs] 25))) (Below.alloc (Below.refl _ _) (Nat.le_refl _) _)).more (B' := (w.alloc (.cells #[.slice Ab bars.length cb, .slice As ss.length cs] 25)).heap.size) (by simp)
  replace hR := (RS.below hR (w' := (w.alloc (.cells #[.slice Ab bars.length cb, .slice As ss.length cs] 25))) (Below.alloc (Below.refl _ _) (Nat.le_refl _) _)).more (B' := (w.alloc (.cells #[.slice Ab bars.length cb, .slice As ss.length cs] 25)).heap.size) (by simp)
  replace hH := (RS.below hH (w' := (w.alloc (.cells #[.slice Ab bars.length cb, .slice As ss.length cs] 25))) (Below.alloc (Below.refl _ _) (Nat.le_refl _) _)).more (B' := (w.alloc (.cells #[.slice Ab bars.length cb, .slice As ss.length cs] 25)).heap.size) (by simp)
  generalize (w.alloc (.cells #[.slice Ab bars.length cb, .slice As ss.length cs] 25)) = Wbx at *
  have hqcx : n0 ≤ n0 + 1 := by have := hC.size; omega
  have cx : BK (Wbx.alloc (.cells #[.int .i64 b, .slice Ak ks.length ck] 42)) (n0 + 1) #[.int .i64 b, .slice Ak ks.length ck] 42 := BK.new' _ _ _ (n0 + 1) hsbx
  have hscx : (Wbx.alloc (.cells #[.int .i64 b, .slice Ak ks.length ck] 42)).heap.size = n0 + 1 + 1 := by simp [hsbx]
  replace hC : Below n0 w (Wbx.alloc (.cells #[.int .i64 b, .slice Ak ks.length ck] 42)) := Below.alloc hC (by have := hC.size; omega) _
  replace hB := (RS.below hB (w' := (Wbx.alloc (.cells #[.int .i64 b, .slice Ak ks.length ck] 42))) (Below.alloc (Below.refl _ _) (Nat.le_refl _) _)).more (B' := (Wbx.alloc (.cells #[.int .i64 b, .slice Ak ks.length ck] 42)).heap.size) (by simp)
  replace hS := (RP.below hS (w' := (Wbx.alloc (.cells #[.int .i64 b, .slice Ak ks.length ck] 42))) (Below.alloc (Below.refl _ _) (Nat.le_refl _) _)).more (B' := (Wbx.alloc (.cells #[.int .i64 b, .slice Ak ks.length ck] 42)).heap.size) (by simp)
  replace hR := (RS.below hR (w' := (Wbx.alloc (.cells #[.int .i64 b, .slice Ak ks.length ck] 42))) (Below.alloc (Below.refl _ _) (Nat.le_refl _) _)).more (B' := (Wbx.alloc (.cells #[.int .i64 b, .slice Ak ks.length ck] 42)).heap.size) (by simp)
  replace hH := (RS.below hH (w' := (Wbx.alloc (.cells #[.int .i64 b, .slice Ak ks.length ck] 42))) (Below.alloc (Below.refl _ _) (Nat.le_refl _) _)).more (B' := (Wbx.alloc (.cells #[.int .i64 b, .slice Ak ks.length ck] 42)).heap.size) (by simp)
  replace bx := bx.alloc (.cells #[.int .i64 b, .slice Ak ks.length ck] 42)
  generalize (Wbx.alloc (.cells #[.int .i64 b, .slice Ak ks.length ck] 42)) = Wcx at *
  clear hsbx
  have lbx := bx.lt
  have bxc0 := bx.cell 0
  have bxc1 := bx.cell 1
  simp at bxc0 bxc1
  have lcx := cx.lt
  have cxc0 := cx.cell 0
  have cxc1 := cx.cell 1
  simp at cxc0 cxc1
  go_wp2_with fail
  clear lbx bxc0 bxc1
  clear lcx cxc0 cxc1
  clear hscx
  refine (open_any bars ss b ks _ _ _ _ HF.out hkl hB hS hR).mono ?_
  rintro e w1 ⟨v, rfl, hv, hv0, hb⟩
  replace hC : Below n0 w w1 := hC.trans (hb.mono (by have := hC.size; omega))
  replace hB := (RS.below hB hb).more hb.size
  replace hS := (RP.below hS hb).more hb.size
  replace hR := (RS.below hR hb).more hb.size
  replace hH := (RS.below hH hb).more hb.size
  replace bx := bx.below hb bx.lt
  replace cx := cx.below hb cx.lt
  clear hb
  obtain ⟨e, he⟩ : ∃ e, recE bars ss b ks = e := ⟨_, rfl⟩
  rw [he] at hv hv0 ⊢
  by_cases e0 : e = 0
  case neg =>
    obtain rfl := hv0 e0
    have HE := Lib.hid (histE_rec (hs := hs) he e0)
    have b1 : (e != 0) = true := by simp [e0]
    clear he e0 hv hv0
    go_wp2_with fail
    go_ret
    exact ⟨ret_int HE.out.symm, by (try rw [hn0]); exact hC⟩
  subst e0
  have HE0 := Lib.hid he
  have OR := okRec_of he
  have hw := hv rfl
  have hpl := pick_len OR.ways
  have HOK := Lib.hid (pick_ok OR.works.sok OR.ways)
  have hb0 := OR.blo
  have hb1 := OR.bhi
  have HBR := Lib.hid (OR.works.bok _ (nthB_mem hb1))
  clear he hv hv0 OR
  obtain ⟨ws, hws⟩ : ∃ ws, pick ss (nats ks) = ws := ⟨_, rfl⟩
  rw [hws] at hw hpl HOK
  have HWS := Lib.hid hws
  clear hws
  obtain ⟨Aw, cw, rfl⟩ := hw.slice
  have ww : IntKind.i64.wrap ((ws.length : Int) + 1) = (ws.length : Int) + 1 := by rw [IntKind.wrap_i64]; omega
  by_cases h1 : hs.length = ws.length + 1
  case neg =>
    have HE := Lib.hid (histE_len (hs := hs) HE0.out (by omega))
    have b1 : ((hs.length : Int) != (ws.length : Int) + 1) = true := by simp; omega
    have b2 : ¬ (hs.length : Int) = (ws.length : Int) + 1 := by omega
    clear h1 hpl
    go_wp2_with fail
    go_ret
    exact ⟨ret_int HE.out.symm, by (try rw [hn0]); exact hC⟩
  have b1 : ((hs.length : Int) != (ws.length : Int) + 1) = false := by simp; omega
  have b2 : (hs.length : Int) = (ws.length : Int) + 1 := by omega
  have HH := Lib.hid (fun (q : Bool) => histE_at (q := q) (hs := hs) HE0.out (by omega))
  have HWL := Lib.hid (show ws.length ≤ 1000 by omega)
  have HHL := Lib.hid h1
  obtain ⟨A', cap', bb, off, hve, hA, hc⟩ := RR.cells hB
  obtain ⟨rfl, hbb⟩ := hA (by omega)
  injection hve with q1 q2 q3
  subst q1 q3
  obtain ⟨d0, d1⟩ := hc b.toNat hb1
  obtain ⟨n, rfl⟩ : ∃ n : Nat, b = n := ⟨b.toNat, by omega⟩
  rw [Int.toNat_natCast] at d0 d1 hb1 HBR HH
  have hb2 : (n : Int) < (bars.length : Int) := by omega
  obtain ⟨r0, hr⟩ : ∃ r, nthB bars n = r := ⟨_, rfl⟩
  rw [hr] at d0 d1 HBR HH
  rw [HWS.out] at HH
  clear hA hc q2 hr h1 hpl
  have lbx := bx.lt
  have bxc0 := bx.cell 0
  have bxc1 := bx.cell 1
  simp at bxc0 bxc1
  have lcx := cx.lt
  have cxc0 := cx.cell 0
  have cxc1 := cx.cell 1
  simp at cxc0 cxc1
  go_upto_region 7 with fail
  clear lbx bxc0 bxc1
  clear lcx cxc0 cxc1
  clear d0 d1 b1 b2 ww hbb
  obtain ⟨m1, hm1⟩ : ∃ n, w1.heap.size = n := ⟨_, rfl⟩
  try rw [hm1]
  have hqnx : n0 ≤ m1 := by have := hC.size; omega
  have nx : BK (w1.alloc (.cells #[.int .i64 r0.lo, .int .i64 r0.hi] 33)) (m1) #[.int .i64 r0.lo, .int .i64 r0.hi] 33 := BK.new' _ _ _ (m1) hm1
  have hsnx : (w1.alloc (.cells #[.int .i64 r0.lo, .int .i64 r0.hi] 33)).heap.size = m1 + 1 := by simp [hm1]
  have hwg := hw
  rw [hm1] at hwg
  replace hwg := RW.below hwg (w' := (w1.alloc (.cells #[.int .i64 r0.lo, .int .i64 r0.hi] 33))) (Below.alloc (Below.refl _ _) (by omega) _)
  replace hC : Below n0 w (w1.alloc (.cells #[.int .i64 r0.lo, .int .i64 r0.hi] 33)) := Below.alloc hC (by have := hC.size; omega) _
  replace hB := (RS.below hB (w' := (w1.alloc (.cells #[.int .i64 r0.lo, .int .i64 r0.hi] 33))) (Below.alloc (Below.refl _ _) (Nat.le_refl _) _)).more (B' := (w1.alloc (.cells #[.int .i64 r0.lo, .int .i64 r0.hi] 33)).heap.size) (by simp)
  replace hS := (RP.below hS (w' := (w1.alloc (.cells #[.int .i64 r0.lo, .int .i64 r0.hi] 33))) (Below.alloc (Below.refl _ _) (Nat.le_refl _) _)).more (B' := (w1.alloc (.cells #[.int .i64 r0.lo, .int .i64 r0.hi] 33)).heap.size) (by simp)
  replace hR := (RS.below hR (w' := (w1.alloc (.cells #[.int .i64 r0.lo, .int .i64 r0.hi] 33))) (Below.alloc (Below.refl _ _) (Nat.le_refl _) _)).more (B' := (w1.alloc (.cells #[.int .i64 r0.lo, .int .i64 r0.hi] 33)).heap.size) (by simp)
  replace hH := (RS.below hH (w' := (w1.alloc (.cells #[.int .i64 r0.lo, .int .i64 r0.hi] 33))) (Below.alloc (Below.refl _ _) (Nat.le_refl _) _)).more (B' := (w1.alloc (.cells #[.int .i64 r0.lo, .int .i64 r0.hi] 33)).heap.size) (by simp)
  replace bx := bx.alloc (.cells #[.int .i64 r0.lo, .int .i64 r0.hi] 33)
  replace cx := cx.alloc (.cells #[.int .i64 r0.lo, .int .i64 r0.hi] 33)
  replace hw := (RW.below hw (w' := (w1.alloc (.cells #[.int .i64 r0.lo, .int .i64 r0.hi] 33))) (Below.alloc (Below.refl _ _) (Nat.le_refl _) _)).more (B' := (w1.alloc (.cells #[.int .i64 r0.lo, .int .i64 r0.hi] 33)).heap.size) (by simp)
  generalize (w1.alloc (.cells #[.int .i64 r0.lo, .int .i64 r0.hi] 33)) = Wnx at *
  clear hm1
  clear hsnx
  obtain ⟨gn, hgn⟩ : ∃ n : Nat, n = m1 := ⟨_, rfl⟩
  rw [← hgn] at nx hqnx hwg
  try rw [← hgn]
  clear hgn
  go_wp2_with fail
  have hin0 := Lib.hid (show n0 ≤ gn from hqnx)
  generalize Wnx = W0 at *
  have HWG := Lib.hid hwg
  clear hwg
  go_loopw [37] (fun i wr => ∃ k : Nat, k ≤ hs.length ∧ i = .int .i64 k ∧ ∃ r : Rg, BK wr gn #[.int .i64 r.lo, .int .i64 r.hi] 33 ∧ OkR r ∧ (k ≤ ws.length → histB r0 ws hs = histB r (ws.drop k) (hs.drop k)) ∧ (k = hs.length → histB r0 ws hs = true) ∧ Below gn W0 wr ∧ Below n0 w wr) (fun i _ => hs.length - (intOf i).toNat)
  case atStart => exact ⟨0, Nat.zero_le _, rfl, r0, nx, HBR.out, fun _ => rfl, fun h => by have := HHL.out; omega, Below.refl _ _, hC⟩
  case round =>
    clear nx hC hw hH hB hS hR bx cx
    obtain ⟨k, hk, rfl, r, nx, hr, hst, hen, hbg, hC⟩ := hrel
    have hw := RW.more (RW.below HWG.out hbg) (B' := wr.heap.size) (Nat.le_of_lt nx.lt)
    have hH := (RS.below HH0.out hC).more (B' := wr.heap.size) (by have := hC.size; omega)
    have HST := Lib.hid hst
    have HEN := Lib.hid hen
    have HRK := Lib.hid hr
    clear hst hen hr
    by_cases hlt : k < hs.length
    case neg =>
      have hlt' : ¬ (k : Int) < (hs.length : Int) := by omega
      have HE := Lib.hid ((HH.out true (HEN.out (by omega))).trans (if_pos rfl))
      go_wp2_with fail
      go_ret
      exact ⟨ret_int HE.out.symm, by (try rw [hn0]); exact hC⟩
    have hlt' : (k : Int) < (hs.length : Int) := by omega
    obtain ⟨A', cap', b3, off3, hve, hA, hc⟩ := RI.cells hH
    obtain ⟨rfl, hbb3⟩ := hA (by omega)
    injection hve with q1 q2 q3
    subst q1 q3
    have d0 := hc k hlt
    clear hA hc q2
    obtain ⟨x, hx⟩ : ∃ x, nthI hs k = x := ⟨_, rfl⟩
    have HX := Lib.hid hx
    rw [hx] at d0
    clear hx
    obtain ⟨lo, hi⟩ := r
    dsimp only at nx
    have lnx := nx.lt
    have nxc0 := nx.cell 0
    have nxc1 := nx.cell 1
    simp at nxc0 nxc1
    go_wp2_with fail
    clear lnx nxc0 nxc1
    clear d0 hbb3
    refine (within_1 _ _ _ _ _ (by simp)).mono ?_
    rintro e w9 ⟨rfl, hw9⟩
    have hb : Below wr.heap.size wr w9 := by rw [← hw9]; exact bel_of
    clear hw9
    have hbg9 := Lib.hid (hbg.trans (hb.mono (Nat.le_trans (Nat.le_of_lt nx.lt) (Nat.le_refl _))))
    replace hC : Below n0 w w9 := hC.trans (hb.mono (by have := hC.size; omega))
    replace nx := nx.below hb nx.lt
    replace hw := (RW.below hw hb).more hb.size
    replace hH := (RS.below hH hb).more hb.size
    clear hb
    have HI := Lib.hid (inR_eq x ⟨lo, hi⟩)
    obtain ⟨q, hq⟩ : ∃ q, inB lo hi x = q := ⟨_, rfl⟩
    rw [hq]
    have HQ := Lib.hid (show inR x ⟨lo, hi⟩ = q by rw [← HI.out]; exact hq)
    clear hq HI
    cases q
    case false =>
      have hkw : histB r0 ws hs = false := by
        rcases Nat.lt_or_ge k ws.length with h | h
        · rw [HST.out (by omega), hist_step h hlt, HX.out, HQ.out]; rfl
        · have e : k = ws.length := by have := HHL.out; omega
          rw [HST.out (by omega), e, hist_end HHL.out, ← e, HX.out, HQ.out]
      have HE := Lib.hid ((HH.out false hkw).trans (if_neg (by simp)))
      clear hkw
      go_wp2_with fail
      go_ret
      exact ⟨ret_int HE.out.symm, by (try rw [hn0]); exact hC⟩
    by_cases hkw : k < ws.length
    case neg =>
      have hkw' : ¬ (k : Int) < (ws.length : Int) := by omega
      have hke : k = ws.length := by have := HHL.out; omega
      have HF2 := Lib.hid (show histB r0 ws hs = true by rw [HST.out (by omega), hke, hist_end HHL.out, ← hke, HX.out, HQ.out])
      clear hke
      go_wp2_with fail
      go_roundw
      case rel => exact ⟨k + 1, by omega, by go_num, ⟨lo, hi⟩, nx, HRK.out, fun h => absurd h (by omega), fun _ => HF2.out, hbg9.out, hC⟩
      case measure => simp [intOf]; omega
    have hkw' : (k : Int) < (ws.length : Int) := by omega
    obtain ⟨A', cap', b4, off4, hve, hA, hc⟩ := RW.cells hw
    obtain ⟨rfl, hbb4⟩ := hA (by omega)
    injection hve with q1 q2 q3
    subst q1 q3
    obtain ⟨u, d1, hu⟩ := hc k hkw
    have HOKY := Lib.hid (HOK.out _ (nthW_mem hkw))
    have HSTP := Lib.hid (hist_step (r := ⟨lo, hi⟩) hkw hlt)
    obtain ⟨y, hy⟩ : ∃ y, nthW ws k = y := ⟨_, rfl⟩
    rw [hy] at hu HOKY HSTP
    rw [HX.out] at HSTP
    obtain ⟨Ay, cy, rfl⟩ := hu.slice
    clear hA hc q2 hy
    have hx0 : 0 ≤ x := by
      have h1 := inR_iff.1 HQ.out
      have h2 := HRK.out.2.1
      dsimp only at h1 h2
      omega
    go_wp2_with fail
    clear d1 hbb4
    have nx9 := nx
    refine (after_any y _ x _ HOKY.out hx0 hu).mono ?_
    rintro e w2 ⟨rfl, hb⟩
    replace hC : Below n0 w w2 := hC.trans (hb.mono (by have := hC.size; omega))
    replace nx := nx.below hb nx.lt
    replace hw := (RW.below hw hb).more hb.size
    replace hH := (RS.below hH hb).more hb.size
    replace hu := (RK.below hu hb).more hb.size
    have hbg8 := Lib.hid (hbg9.out.trans (hb.mono (Nat.le_trans (Nat.le_of_lt nx9.lt) (Nat.le_refl _))))
    clear hb
    have HAR := Lib.hid (aft_rng HOKY.out hx0)
    obtain ⟨⟨l1, m1⟩, hx1⟩ : ∃ z, aft y x = z := ⟨_, rfl⟩
    rw [hx1] at HSTP HAR ⊢
    unfold rV
    clear hx1
    have l := nx.lt
    have y0 := nx.cell 0
    have y1 := nx.cell 1
    have f0 := nx.frozen 0
    have f1 := nx.frozen 1
    simp at y0 y1
    have hbX : Below gn W0 ((w2.setCell ⟨gn, 0, none⟩ (.int .i64 l1)).setCell ⟨gn, 1, none⟩ (.int .i64 m1)) := Below.setCell (Below.setCell hbg8.out (Nat.le_refl _) _) (Nat.le_refl _) _
    have nxX := fin_rg nx (.int .i64 l1) (.int .i64 m1)
    have hCX : Below n0 w ((w2.setCell ⟨gn, 0, none⟩ (.int .i64 l1)).setCell ⟨gn, 1, none⟩ (.int .i64 m1)) := Below.setCell (Below.setCell hC hin0.out _) hin0.out _
    have HBX := Lib.hid hbX
    clear hbX
    go_wp2_with fail
    go_roundw
    case rel => exact ⟨k + 1, by omega, by go_num, ⟨l1, m1⟩, nxX, HAR.out, fun h => by rw [HST.out (by omega), HSTP.out, HQ.out]; rfl, fun h => absurd h (by have := HHL.out; omega), HBX.out, hCX⟩
    case measure => simp [intOf]; omega
end Go.Proofs.Ytkibdciomheekaa

set_option linter.all false
namespace Go.Proofs.Ytkibdciomheekaa
open Go.RowKit Hp

theorem pick_at : ∀ {ss : List Stp} {ks : List Int} {k : Nat}, k < ss.length → k < (nats ks).length → nthW (pick ss (nats ks)) k = nthW (nthS ss k) (nthI ks k).toNat
  | [], _, _, h, _ => by simp at h
  | s :: ss, [], _, _, h => by simp [nats] at h
  | s :: ss, q :: ks, 0, _, _ => rfl
  | s :: ss, q :: ks, k + 1, h1, h2 => pick_at (ss := ss) (ks := ks) (k := k) (by simpa using h1) (by simpa [nats] using h2)

set_option maxHeartbeats 8000000 in
set_option maxRecDepth 100000 in
theorem historyR_any (bars : List Rg) (ss : List Stp) (b : Int) (ks : List Int) (hs : List Int) (vh vb vs vk : Value) (w : World) (hf : Fit bars ss) (hkl : ks.length ≤ 1000) (hB : RR w w.heap.size vb bars) (hS : RP w w.heap.size vs ss) (hR : RI w w.heap.size vk ks) (hH : RI w w.heap.size vh hs) (hhl : hs.length ≤ 1000) :
    Calls Try.prog 27 #[.agg #[vb, vs], .agg #[.int .i64 b, vk], vh] w fun e w' => e = .returned (.int .i64 (histE bars ss b ks hs)) ∧ Below w.heap.size w w' := by
  have HF := Lib.hid hf
  have hfb := hf.b
  have hfs := hf.s
  clear hf
  obtain ⟨Ab, cb, rfl⟩ := hB.slice
  obtain ⟨As, cs, rfl⟩ := hS.slice
  obtain ⟨Ak, ck, rfl⟩ : ∃ A c, vk = .slice A ks.length c := by
    obtain ⟨A, c, b, o, hv, _⟩ := hR
    exact ⟨A, c, hv⟩
  obtain ⟨Ah, ch, rfl⟩ : ∃ A c, vh = .slice A hs.length c := by
    obtain ⟨A, c, b, o, hv, _⟩ := hH
    exact ⟨A, c, hv⟩
  obtain ⟨n0, hn0⟩ : ∃ n, w.heap.size = n := ⟨_, rfl⟩
  have hC : Below n0 w w := Below.refl _ _
  go_enter Try.func27, Try.ntmps27
  go_upto_region 1 with fail
  have hqbx : n0 ≤ n0 := by have := hC.size; omega
  have bx : BK (w.alloc (.cells #[.slice Ab bars.length cb, .slice As ss.length cs] 25)) (n0) #[.slice Ab bars.length cb, .slice As ss.length cs] 25 := BK.new' _ _ _ (n0) hn0
  have hsbx : (w.alloc (.cells #[.slice Ab bars.length cb, .slice As ss.length cs] 25)).heap.size = n0 + 1 := by simp [hn0]
  replace hC : Below n0 w (w.alloc (.cells #[.slice Ab bars.length cb, .slice As ss.length cs] 25)) := Below.alloc hC (by have := hC.size; omega) _
  replace hB := (RS.below hB (w' := (w.alloc (.cells #[.slice Ab bars.length cb, .slice As ss.length cs] 25))) (Below.alloc (Below.refl _ _) (Nat.le_refl _) _)).more (B' := (w.alloc (.cells #[.slice Ab bars.length cb, .slice As ss.length cs] 25)).heap.size) (by simp)
  replace hS := (RP.below hS (w' := (w.alloc (.cells #[.slice Ab bars.length cb, .slice As ss.length cs] 25))) (Below.alloc (Below.refl _ _) (Nat.le_refl _) _)).more (B' := (w.alloc (.cells #[.slice Ab bars.length cb, .slice As ss.length cs] 25)).heap.size) (by simp)
  replace hR := (RS.below hR (w' := (w.alloc (.cells #[.slice Ab bars.length cb, .slice As ss.length cs] 25))) (Below.alloc (Below.refl _ _) (Nat.le_refl _) _)).more (B' := (w.alloc (.cells #[.slice Ab bars.length cb, .slice As ss.length cs] 25)).heap.size) (by simp)
  replace hH := (RS.below hH (w' := (w.alloc (.cells #[.slice Ab bars.length cb, .slice As ss.length cs] 25))) (Below.alloc (Below.refl _ _) (Nat.le_refl _) _)).more (B' := (w.alloc (.cells #[.slice Ab bars.length cb, .slice As ss.length cs] 25)).heap.size) (by simp)
  generalize (w.alloc (.cells #[.slice Ab bars.length cb, .slice As ss.length cs] 25)) = Wbx at *
  have hqcx : n0 ≤ n0 + 1 := by have := hC.size; omega
  have cx : BK (Wbx.alloc (.cells #[.int .i64 b, .slice Ak ks.length ck] 42)) (n0 + 1) #[.int .i64 b, .slice Ak ks.length ck] 42 := BK.new' _ _ _ (n0 + 1) hsbx
  have hscx : (Wbx.alloc (.cells #[.int .i64 b, .slice Ak ks.length ck] 42)).heap.size = n0 + 1 + 1 := by simp [hsbx]
  replace hC : Below n0 w (Wbx.alloc (.cells #[.int .i64 b, .slice Ak ks.length ck] 42)) := Below.alloc hC (by have := hC.size; omega) _
  replace hB := (RS.below hB (w' := (Wbx.alloc (.cells #[.int .i64 b, .slice Ak ks.length ck] 42))) (Below.alloc (Below.refl _ _) (Nat.le_refl _) _)).more (B' := (Wbx.alloc (.cells #[.int .i64 b, .slice Ak ks.length ck] 42)).heap.size) (by simp)
  replace hS := (RP.below hS (w' := (Wbx.alloc (.cells #[.int .i64 b, .slice Ak ks.length ck] 42))) (Below.alloc (Below.refl _ _) (Nat.le_refl _) _)).more (B' := (Wbx.alloc (.cells #[.int .i64 b, .slice Ak ks.length ck] 42)).heap.size) (by simp)
  replace hR := (RS.below hR (w' := (Wbx.alloc (.cells #[.int .i64 b, .slice Ak ks.length ck] 42))) (Below.alloc (Below.refl _ _) (Nat.le_refl _) _)).more (B' := (Wbx.alloc (.cells #[.int .i64 b, .slice Ak ks.length ck] 42)).heap.size) (by simp)
  replace hH := (RS.below hH (w' := (Wbx.alloc (.cells #[.int .i64 b, .slice Ak ks.length ck] 42))) (Below.alloc (Below.refl _ _) (Nat.le_refl _) _)).more (B' := (Wbx.alloc (.cells #[.int .i64 b, .slice Ak ks.length ck] 42)).heap.size) (by simp)
  replace bx := bx.alloc (.cells #[.int .i64 b, .slice Ak ks.length ck] 42)
  generalize (Wbx.alloc (.cells #[.int .i64 b, .slice Ak ks.length ck] 42)) = Wcx at *
  clear hsbx
  have lbx := bx.lt
  have bxc0 := bx.cell 0
  have bxc1 := bx.cell 1
  simp at bxc0 bxc1
  have lcx := cx.lt
  have cxc0 := cx.cell 0
  have cxc1 := cx.cell 1
  simp at cxc0 cxc1
  go_wp2_with fail
  clear lbx bxc0 bxc1
  clear lcx cxc0 cxc1
  clear hscx
  refine (isRecipe_any bars ss b ks _ _ _ _ HF.out hkl hB hS hR).mono ?_
  rintro e w1 ⟨rfl, hb⟩
  replace hC : Below n0 w w1 := hC.trans (hb.mono (by have := hC.size; omega))
  replace hB := (RS.below hB hb).more hb.size
  replace hS := (RP.below hS hb).more hb.size
  replace hR := (RS.below hR hb).more hb.size
  replace hH := (RS.below hH hb).more hb.size
  replace bx := bx.below hb bx.lt
  replace cx := cx.below hb cx.lt
  clear hb
  obtain ⟨e, he⟩ : ∃ e, recE bars ss b ks = e := ⟨_, rfl⟩
  rw [he]
  by_cases e0 : e = 0
  case neg =>
    have HE := Lib.hid he
    have E0 := Lib.hid e0
    have b1 : (e != 0) = true := by simp [e0]
    clear he e0
    have lbx := bx.lt
    have bxc0 := bx.cell 0
    have bxc1 := bx.cell 1
    simp at bxc0 bxc1
    have lcx := cx.lt
    have cxc0 := cx.cell 0
    have cxc1 := cx.cell 1
    simp at cxc0 cxc1
    go_wp2_with fail
    clear lbx bxc0 bxc1
    clear lcx cxc0 cxc1
    refine (isRecipe_any bars ss b ks _ _ _ _ HF.out hkl hB hS hR).mono ?_
    rintro e w2 ⟨rfl, hb⟩
    replace hC : Below n0 w w2 := hC.trans (hb.mono (by have := hC.size; omega))
    replace hB := (RS.below hB hb).more hb.size
    replace hS := (RP.below hS hb).more hb.size
    replace hR := (RS.below hR hb).more hb.size
    replace hH := (RS.below hH hb).more hb.size
    replace bx := bx.below hb bx.lt
    replace cx := cx.below hb cx.lt
    clear hb
    rw [HE.out]
    have HE2 := Lib.hid (histE_rec (hs := hs) HE.out E0.out)
    go_wp2_with fail
    go_ret
    exact ⟨ret_int HE2.out.symm, by (try rw [hn0]); exact hC⟩
  subst e0
  have HE := Lib.hid he
  have OR := okRec_of he
  have HOR := Lib.hid OR
  clear he OR
  have ww : IntKind.i64.wrap ((ss.length : Int) + 1) = (ss.length : Int) + 1 := by rw [IntKind.wrap_i64]; omega
  have HE0 := HE
  clear HE
  have lbx := bx.lt
  have bxc0 := bx.cell 0
  have bxc1 := bx.cell 1
  simp at bxc0 bxc1
  have lcx := cx.lt
  have cxc0 := cx.cell 0
  have cxc1 := cx.cell 1
  simp at cxc0 cxc1
  by_cases h1 : hs.length = ss.length + 1
  case neg =>
    have HE := Lib.hid (histE_len (hs := hs) HE0.out (by omega))
    have b1 : ((hs.length : Int) != (ss.length : Int) + 1) = true := by simp; omega
    have b2 : ¬ (hs.length : Int) = (ss.length : Int) + 1 := by omega
    clear h1
    go_wp2_with fail
    go_ret
    exact ⟨ret_int HE.out.symm, by (try rw [hn0]); exact hC⟩
  have b1 : ((hs.length : Int) != (ss.length : Int) + 1) = false := by simp; omega
  have b2 : (hs.length : Int) = (ss.length : Int) + 1 := by omega
  have HH := Lib.hid (fun (q : Bool) => histE_at (q := q) (hs := hs) HE0.out h1)
  have HHL := Lib.hid h1
  have hpl := pick_len HOR.out.ways
  have HOK := Lib.hid (pick_ok HOR.out.works.sok HOR.out.ways)
  have hb0 := HOR.out.blo
  have hb1 := HOR.out.bhi
  have HBR := Lib.hid (HOR.out.works.bok _ (nthB_mem hb1))
  have HAL := Lib.hid HOR.out.ways
  have HNN := Lib.hid HOR.out.nn
  have HSK := Lib.hid HOR.out.works.sok
  have hle : ks.length = ss.length := by have := (mem_allR_iff.1 HAL.out).1; simpa [nats] using this
  have HLE := Lib.hid hle
  clear hle h1
  obtain ⟨A', cap', bb, off, hve, hA, hc⟩ := RR.cells hB
  obtain ⟨rfl, hbb⟩ := hA (by omega)
  injection hve with q1 q2 q3
  subst q1 q3
  obtain ⟨d0, d1⟩ := hc b.toNat hb1
  obtain ⟨n, rfl⟩ : ∃ n : Nat, b = n := ⟨b.toNat, by omega⟩
  rw [Int.toNat_natCast] at d0 d1 hb1 HBR HH
  have hb2 : (n : Int) < (bars.length : Int) := by omega
  obtain ⟨r0, hr⟩ : ∃ r, nthB bars n = r := ⟨_, rfl⟩
  rw [hr] at d0 d1 HBR HH
  obtain ⟨lo, hi⟩ := r0
  dsimp only at d0 d1
  clear hA hc q2 hr
  obtain ⟨A', cap', b3, off3, hve, hA, hc⟩ := RI.cells hH
  obtain ⟨rfl, hbb3⟩ := hA (by have := HHL.out; omega)
  injection hve with q1 q2 q3
  subst q1 q3
  have d2 := hc 0 (by have := HHL.out; omega)
  rw [Nat.add_zero] at d2
  obtain ⟨x0, hx⟩ : ∃ x, nthI hs 0 = x := ⟨_, rfl⟩
  rw [hx] at d2
  have HX := Lib.hid hx
  have hh0 : (0 : Int) < (hs.length : Int) := by have := HHL.out; omega
  clear hA hc q2 hx hb0
  go_upto_region 5 with fail
  refine wp_region_noPanic (plain_any [0, 1, 2, 3, 4, 5, 6, 7, 8, 10] (Below w1.heap.size w1) mixed ?_)
  refine any_tk 0 ?_
  have d0z : Below w1.heap.size w1 w1.drew := by exact bel_of
  refine any_tk 1 ?_
  refine any_tk 2 ?_
  refine any_tk 3 ?_
  refine any_tk 4 ?_
  refine any_tk 5 ?_
  refine any_tk 6 ?_
  refine any_tk 7 ?_
  refine any_tk 8 ?_
  have qz1 := d0z.size
  refine any_run1 (i := 9) (by kernel_rfl) (by rfl) (by kernel_rfl) ?_
  intro K hK
  go_wp2_with fail
  refine (in_any x0 ⟨lo, hi⟩ _).mono ?_
  rintro e vz1 ⟨rfl, hb⟩
  obtain ⟨q, hq⟩ : ∃ q, inR x0 ⟨lo, hi⟩ = q := ⟨_, rfl⟩
  rw [hq]
  have ez1 : Below w1.heap.size w1 vz1 := d0z.trans (hb.mono d0z.size)
  clear hb
  refine hK _ _ (fun _ => ez1) ?_
  clear hK K
  refine any_tk 10 ?_
  refine any_done (by kernel_rfl) (NoPanic.normal ?_)
  clear lbx bxc0 bxc1
  clear lcx cxc0 cxc1
  clear d0 d1 d2 hbb hbb3 b1 b2 ww
  have hb := ez1
  replace hC : Below n0 w vz1 := hC.trans (hb.mono (by have := hC.size; omega))
  replace hB := (RS.below hB hb).more hb.size
  replace hS := (RP.below hS hb).more hb.size
  replace hR := (RS.below hR hb).more hb.size
  replace hH := (RS.below hH hb).more hb.size
  replace bx := bx.below hb bx.lt
  replace cx := cx.below hb cx.lt
  clear hb
  have HQ := Lib.hid hq
  clear hq
  have HRL := Lib.hid (show ∀ (y : Int) (r : Rg) (k : Nat), k = ss.length → k ≤ ss.length → histB r ((pick ss (nats ks)).drop k) (hs.drop k) = inR (nthI hs k) r from fun y r k h h' => by
    subst h
    have := hist_end (r := r) (ws := pick ss (nats ks)) (hs := hs) (by have := HHL.out; omega)
    rw [hpl] at this
    exact this)
  have HPL := Lib.hid hpl
  clear hpl
  cases q
  case false =>
    have hf : histB ⟨lo, hi⟩ (pick ss (nats ks)) hs = false := by
      rcases Nat.eq_zero_or_pos ss.length with h0 | h0
      · have := HRL.out 0 ⟨lo, hi⟩ 0 h0.symm (Nat.zero_le _)
        rw [List.drop_zero, List.drop_zero] at this
        rw [this, HX.out, HQ.out]
      · have := hist_step (r := ⟨lo, hi⟩) (ws := pick ss (nats ks)) (hs := hs) (k := 0) (by rw [HPL.out]; exact h0) (by have := HHL.out; omega)
        rw [List.drop_zero, List.drop_zero] at this
        rw [this, HX.out, HQ.out]; rfl
    have HE := Lib.hid ((HH.out false hf).trans (if_neg (by simp)))
    clear hf
    go_wp2_with fail
    go_ret
    exact ⟨ret_int HE.out.symm, by (try rw [hn0]); exact hC⟩
  simp only [Bool.not_true]
  go_wp2_with fail
  generalize vz1 = W0 at *
  go_loopw [7] (fun i wr => ∃ k : Nat, k ≤ ks.length ∧ i = .int .i64 k ∧ (∃ r : Rg, OkR r ∧ inR (nthI hs k) r = true ∧ histB ⟨lo, hi⟩ (pick ss (nats ks)) hs = histB r ((pick ss (nats ks)).drop k) (hs.drop k)) ∧ Below W0.heap.size W0 wr) (fun i _ => ks.length - (intOf i).toNat)
  case atStart => exact ⟨0, Nat.zero_le _, rfl, ⟨⟨lo, hi⟩, HBR.out, by rw [HX.out]; exact HQ.out, rfl⟩, Below.refl _ _⟩
  case round =>
    obtain ⟨k, hk, rfl, ⟨r, hr, hin, hst⟩, hb⟩ := hrel
    have HRK := Lib.hid hr
    have HIN := Lib.hid hin
    have HST := Lib.hid hst
    have hbr := Lib.hid hb
    clear hr hin hst
    replace hC : Below n0 w wr := hC.trans (hb.mono (by have := hC.size; omega))
    replace hB := (RS.below hB hb).more hb.size
    replace hS := (RP.below hS hb).more hb.size
    replace hR := (RS.below hR hb).more hb.size
    replace hH := (RS.below hH hb).more hb.size
    replace bx := bx.below hb bx.lt
    replace cx := cx.below hb cx.lt
    clear hb
    have lbx := bx.lt
    have bxc0 := bx.cell 0
    have bxc1 := bx.cell 1
    simp at bxc0 bxc1
    have lcx := cx.lt
    have cxc0 := cx.cell 0
    have cxc1 := cx.cell 1
    simp at cxc0 cxc1
    by_cases hlt : k < ks.length
    case neg =>
      have hlt' : ¬ (k : Int) < (ks.length : Int) := by omega
      have ht : histB ⟨lo, hi⟩ (pick ss (nats ks)) hs = true := by
        rw [HST.out, HRL.out 0 r k (by have := HLE.out; omega) (by have := HLE.out; omega)]; exact HIN.out
      have HE := Lib.hid ((HH.out true ht).trans (if_pos rfl))
      clear ht
      go_wp2_with fail
      go_ret
      exact ⟨ret_int HE.out.symm, by (try rw [hn0]); exact hC⟩
    have hlt' : (k : Int) < (ks.length : Int) := by omega
    have hks : k < ss.length := by have := HLE.out; omega
    have hks' : (k : Int) < (ss.length : Int) := by omega
    have hkh : k + 1 < hs.length := by have := HHL.out; omega
    have hkh1 : ((k : Int) + 1) < (hs.length : Int) := by omega
    have hkh2 : (k : Int) < (hs.length : Int) := by omega
    have hkh3 : k < hs.length := by omega
    obtain ⟨A', cap', b3', off3', hve, hA, hc⟩ := RI.cells hR
    obtain ⟨rfl, hbb3⟩ := hA (by omega)
    injection hve with q1 q2 q3
    subst q1 q3
    have d0 := hc k hlt
    clear hA hc q2
    obtain ⟨A', cap', b4, off4, hve, hA, hc⟩ := RP.cells hS
    obtain ⟨rfl, hbb4⟩ := hA (by omega)
    injection hve with q1 q2 q3
    subst q1 q3
    obtain ⟨u, d1, hu⟩ := hc k hks
    have hx2 := (mem_allR_iff.1 HAL.out).2 k hks
    rw [nats_at] at hx2
    have hx0 := HNN.out (nthI ks k) (by
      have : nthI ks k = ks[k] := by simp [nthI, hlt]
      rw [this]; exact List.getElem_mem hlt)
    have hpk : nthW (pick ss (nats ks)) k = nthW (nthS ss k) (nthI ks k).toNat := pick_at hks (by simp [nats]; omega)
    have hstp := hist_step (r := r) (ws := pick ss (nats ks)) (hs := hs) (k := k) (by rw [HPL.out]; exact hks) (by omega)
    rw [hpk] at hstp
    obtain ⟨x, hx⟩ : ∃ x, nthI ks k = x := ⟨_, rfl⟩
    rw [hx] at d0 hx2 hx0 hstp
    obtain ⟨m, rfl⟩ : ∃ m : Nat, x = m := ⟨x.toNat, by omega⟩
    rw [Int.toNat_natCast] at hx2 hstp
    obtain ⟨s, hs'⟩ : ∃ s, nthS ss k = s := ⟨_, rfl⟩
    have hoky : OkW (nthW (nthS ss k) m) := HSK.out _ (nthS_mem hks) _ (nthW_mem hx2)
    have hyl : (nthW (nthS ss k) m).length ≤ 1000 := HF.out.k _ (nthS_mem hks) _ (nthW_mem hx2)
    rw [hs'] at hu hx2 hstp hoky hyl
    obtain ⟨Aw, cw, rfl⟩ := hu.slice
    clear hA hc q2 hx hpk
    obtain ⟨A', cap', b5, off5, hve, hA, hc⟩ := RW.cells hu
    obtain ⟨rfl, hbb5⟩ := hA (by omega)
    injection hve with q1 q2 q3
    subst q1 q3
    obtain ⟨u, d2, hv⟩ := hc m hx2
    have hms : (m : Int) < (s.length : Int) := by omega
    obtain ⟨y, hy⟩ : ∃ y, nthW s m = y := ⟨_, rfl⟩
    rw [hy] at hv hstp hoky hyl
    obtain ⟨Ay, cy, rfl⟩ := hv.slice
    clear hA hc q2 hy hs'
    obtain ⟨A', cap', b6, off6, hve, hA, hc⟩ := RI.cells hH
    obtain ⟨hA', hbb6⟩ := hA (by omega)
    rw [hA'] at hve
    injection hve with q1 q2 q3
    injection q1 with q1
    injection q1 with q4 q5
    subst q4 q5
    have d3 := hc k hkh3
    have d4 := hc (k + 1) hkh
    have d4' : wr.cell? ⟨b3, off3 + (k + 1), none⟩ = _ := d4
    obtain ⟨h0, hh0'⟩ : ∃ x, nthI hs k = x := ⟨_, rfl⟩
    obtain ⟨h1, hh1⟩ : ∃ x, nthI hs (k + 1) = x := ⟨_, rfl⟩
    rw [hh0'] at d3 hstp HIN
    rw [hh1] at d4
    have HH1 := Lib.hid hh1
    have hp0 : 0 ≤ h0 := by
      have a1 := inR_iff.1 HIN.out
      have a2 := HRK.out.2.1
      omega
    have HAR := Lib.hid (aft_rng hoky hp0)
    obtain ⟨⟨l1, m1⟩, hx1⟩ : ∃ z, aft y h0 = z := ⟨_, rfl⟩
    rw [hx1] at hstp HAR
    have HAF := Lib.hid hx1
    rw [HIN.out, Bool.true_and] at hstp
    have HSTP := Lib.hid hstp
    have hpy := hoky.pos
    have wk : IntKind.i64.wrap ((k : Int) + 1) = (k : Int) + 1 := by rw [IntKind.wrap_i64]; omega
    have wk2 : ((k : Int) + 1).toNat = k + 1 := by omega
    clear hA hc q2 q3 hA' hh0' hh1 hx1 hstp hoky hu d4'
    go_upto_region 10 with fail
    refine wp_region_noPanic (plain_any [0, 1, 2, 3, 4, 5, 6, 7, 8, 9, 10, 11, 12, 13, 14, 15, 16, 17, 18, 19, 20, 21, 24] (Below wr.heap.size wr) mixed ?_)
    refine any_tk 0 ?_
    have d0z : Below wr.heap.size wr wr.drew := by exact bel_of
    refine any_tk 1 ?_
    refine any_tk 2 ?_
    refine any_tk 3 ?_
    refine any_tk 4 ?_
    refine any_tk 5 ?_
    refine any_tk 6 ?_
    refine any_tk 7 ?_
    refine any_tk 8 ?_
    refine any_tk 9 ?_
    refine any_tk 10 ?_
    refine any_tk 11 ?_
    refine any_tk 12 ?_
    refine any_tk 13 ?_
    refine any_tk 14 ?_
    refine any_tk 15 ?_
    refine any_tk 16 ?_
    refine any_tk 17 ?_
    refine any_tk 18 ?_
    refine any_tk 19 ?_
    refine any_tk 20 ?_
    refine any_tk 21 ?_
    have qz1 := d0z.size
    refine any_run1 (i := 22) (by kernel_rfl) (by rfl) (by kernel_rfl) ?_
    intro K hK
    go_wp2_with fail
    refine (afterF_any y _ h0 _ hpy hyl ((RS.below hv d0z).more d0z.size)).mono ?_
    rintro e vz1 ⟨rfl, hb⟩
    rw [HAF.out]
    have ez1 : Below wr.heap.size wr vz1 := d0z.trans (hb.mono d0z.size)
    clear hb
    refine hK _ _ (fun _ => ez1) ?_
    clear hK K
    have qz2 := ez1.size
    refine any_run1 (i := 23) (by kernel_rfl) (by rfl) (by kernel_rfl) ?_
    intro K hK
    go_wp2_with fail
    refine (in_any h1 ⟨l1, m1⟩ _).mono ?_
    rintro e vz2 ⟨rfl, hb⟩
    obtain ⟨q, hq⟩ : ∃ q, inR h1 ⟨l1, m1⟩ = q := ⟨_, rfl⟩
    rw [hq]
    have ez2 : Below wr.heap.size wr vz2 := ez1.trans (hb.mono ez1.size)
    clear hb
    refine hK _ _ (fun _ => ez2) ?_
    clear hK K
    refine any_tk 24 ?_
    refine any_done (by kernel_rfl) (NoPanic.normal ?_)
    clear lbx bxc0 bxc1
    clear lcx cxc0 cxc1
    clear d0 d1 d2 d3 d4 hbb3 hbb4 hbb5 hbb6 wk wk2 hkh1 hkh2
    have hb := ez2
    have hbr2 := Lib.hid (hbr.out.trans (hb.mono hbr.out.size))
    replace hC : Below n0 w vz2 := hC.trans (hb.mono (by have := hC.size; omega))
    replace hB := (RS.below hB hb).more hb.size
    replace hS := (RP.below hS hb).more hb.size
    replace hR := (RS.below hR hb).more hb.size
    replace hH := (RS.below hH hb).more hb.size
    replace bx := bx.below hb bx.lt
    replace cx := cx.below hb cx.lt
    replace hv := (RK.below hv hb).more hb.size
    clear hb
    have HQ2 := Lib.hid hq
    clear hq
    cases q
    case false =>
      have hf : histB ⟨lo, hi⟩ (pick ss (nats ks)) hs = false := by
        rw [HST.out, HSTP.out]
        rcases Nat.lt_or_ge (k + 1) ss.length with h | h
        · rw [hist_step (by rw [HPL.out]; exact h) hkh, HH1.out, HQ2.out]; rfl
        · rw [HRL.out 0 _ (k + 1) (by omega) (by omega), HH1.out, HQ2.out]
      have HE := Lib.hid ((HH.out false hf).trans (if_neg (by simp)))
      clear hf
      go_wp2_with fail
      go_ret
      exact ⟨ret_int HE.out.symm, by (try rw [hn0]); exact hC⟩
    go_wp2_with fail
    go_roundw
    case rel => exact ⟨k + 1, by omega, by go_num, ⟨⟨l1, m1⟩, HAR.out, by rw [HH1.out]; exact HQ2.out, by rw [HST.out, HSTP.out]⟩, hbr2.out⟩
    case measure => simp [intOf]; omega
end Go.Proofs.Ytkibdciomheekaa
