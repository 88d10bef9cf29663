/- What has been had, for the reference. What has been had, for the reference, with its errors. HeatHistories: the walk. From which to which hardness histories have been that agree with what was measured is what the definition says, or the error; a history that is returned is one that agrees; for every works, recipe and range. -/
import Derived.Test.YtkibdciomheekaaP16
import Derived.BigRegion
import Derived.Test.YtkibdciomheekaaP29
import Derived.Test.YtkibdciomheekaaP30
import Derived.Test.YtkibdciomheekaaP15
import Derived.Test.YtkibdciomheekaaP28
import Derived.Test.YtkibdciomheekaaRows
set_option linter.all false
set_option linter.unnecessarySimpa false
set_option linter.unusedSimpArgs false
set_option linter.unusedVariables false
set_option linter.unusedSectionVars false

set_option linter.all false
namespace Go.Proofs.Ytkibdciomheekaa
open Go.RowKit Hp

theorem scan_zero (w : Wy) (r : Rg) (a : Int) : scan w r a 0 = ⟨-1, -1⟩ := by unfold scan; rw [List.range_zero, List.foldl_nil]
theorem scan_had {r m : Rg} {ws : List Wy} {j : Nat} (ok : ∀ y ∈ ws, OkW y) (hr : OkR r) (hm : m.lo ≤ m.hi) (h : meets (endR r ws) m = true) (hj : j < ws.length) :
    scan (nthW ws j) (headR (hadL (endR r (ws.take (j + 1))) (ws.drop (j + 1)) m)) (endR r (ws.take j)).lo ((endR r (ws.take j)).hi - (endR r (ws.take j)).lo + 1).toNat = backP (nthW ws j) (endR r (ws.take j)) (headR (hadL (endR r (ws.take (j + 1))) (ws.drop (j + 1)) m)) := by
  have e2 : ws.drop j = nthW ws j :: ws.drop (j + 1) := by rw [nthW_eq hj, List.getElem_cons_drop]
  have e : endR r (ws.take (j + 1)) = via (nthW ws j) (endR r (ws.take j)) := by
    rw [List.take_add_one, List.getElem?_eq_getElem hj, nthW_eq hj]
    unfold endR
    rw [List.foldl_append]; rfl
  have e3 : endR (endR r (ws.take j)) (ws.drop j) = endR r ws := by unfold endR; rw [← List.foldl_append, List.take_append_drop]
  have hrj := endR_ok (ws := ws.take j) (fun z hz => ok z (List.mem_of_mem_take hz)) hr
  have hb := hadL_is (w := nthW ws j) (ws := ws.drop (j + 1)) (m := m) (fun v hv => ok v (by rw [← e2] at hv; exact List.mem_of_mem_drop hv)) hrj hm (by rw [← e2, e3]; exact h)
  rw [e]
  exact scan_eq hrj hb
theorem scanS_no {w : Wy} {t o : Rg} {h : Int} (g : good w t h = false) : scanS w t h o = o := by unfold scanS; rw [g]; rfl
theorem scanS_yes {w : Wy} {t o : Rg} {h : Int} (g : good w t h = true) : scanS w t h o = ⟨if o.lo < 0 then h else o.lo, h⟩ := by unfold scanS; rw [if_pos g]

attribute [local irreducible] scan scanS good

set_option maxHeartbeats 8000000 in
set_option maxRecDepth 100000 in
theorem hadF_any (bars : List Rg) (ss : List Stp) (b : Int) (ks : List Int) (m : Rg) (vb vs vk : Value) (w : World) (hf : Fit bars ss) (hkl : ks.length ≤ 1000) (hB : RR w w.heap.size vb bars) (hS : RP w w.heap.size vs ss) (hR : RI w w.heap.size vk ks) (hh : hadE bars ss b ks m = 0) :
    Calls Try.prog 67 #[.agg #[vb, vs], .agg #[.int .i64 b, vk], rV m] w fun e w' => ∃ v, e = .returned (.tuple #[v, .bool true]) ∧ OwnR w' w.heap.size v (hadL (nthB bars b.toNat) (pick ss (nats ks)) m) ∧ Below w.heap.size w w' := by
  obtain ⟨OR, hmm, hme⟩ := of_hadE hh
  have hok := pick_ok OR.works.sok OR.ways
  have hbr := OR.works.bok _ (nthB_mem OR.bhi)
  have hpl := pick_len OR.ways
  have hle : ks.length = ss.length := by have := (mem_allR_iff.1 OR.ways).1; simpa [nats] using this
  have hpk : ∀ k, k < ss.length → nthW (pick ss (nats ks)) k = nthW (nthS ss k) (nthI ks k).toNat ∧ (nthI ks k).toNat < (nthS ss k).length ∧ 0 ≤ nthI ks k := fun k hk => by
    refine ⟨pick_at hk (by simp [nats]; omega), ?_, ?_⟩
    · have := (mem_allR_iff.1 OR.ways).2 k hk
      rwa [nats_at] at this
    · have h2 : k < ks.length := by omega
      have : nthI ks k = ks[k] := by simp [nthI, h2]
      exact OR.nn _ (by rw [this]; exact List.getElem_mem h2)
  have HOR := Lib.hid OR
  have HLE := Lib.hid hle
  clear OR hle hh
  obtain ⟨ws, hws⟩ : ∃ ws, pick ss (nats ks) = ws := ⟨_, rfl⟩
  obtain ⟨r0, hr0⟩ : ∃ r, nthB bars b.toNat = r := ⟨_, rfl⟩
  rw [hws] at hok hpl hpk hme ⊢
  rw [hr0] at hbr hme ⊢
  obtain ⟨lo, hi⟩ := r0
  have hsc := fun (j : Nat) => scan_had (j := j) hok hbr hmm.1 hme
  have HEO := Lib.hid (fun (j : Nat) => endR_ok (ws := ws.take j) (fun z hz => hok z (List.mem_of_mem_take hz)) hbr)
  have HSC := Lib.hid hsc
  have HWS := Lib.hid hws
  have HRB := Lib.hid hr0
  have HOK := Lib.hid hok
  have HPL := Lib.hid hpl
  have HPK := Lib.hid hpk
  have HME := Lib.hid hme
  have HMO := Lib.hid hmm
  have HRO := Lib.hid hbr
  clear hok hbr hpl hpk hmm hme hws hr0 hsc
  have HF := Lib.hid hf
  have hfb := hf.b
  have hfs := hf.s
  clear hf
  obtain ⟨Ab, cb, rfl⟩ := hB.slice
  obtain ⟨As, cs, rfl⟩ := hS.slice
  obtain ⟨Ak, ck, rfl⟩ : ∃ A c, vk = .slice A ks.length c := by
    obtain ⟨A, c, b, o, hv, _⟩ := hR
    exact ⟨A, c, hv⟩
  obtain ⟨mlo, mhi⟩ := m
  unfold rV
  obtain ⟨n0, hn0⟩ : ∃ n, w.heap.size = n := ⟨_, rfl⟩
  have hC : Below n0 w w := Below.refl _ _
  have hS0 := hS
  have hR0 := hR
  rw [hn0] at hS0 hR0
  have HS0 := Lib.hid hS0
  have HR0 := Lib.hid hR0
  clear hS0 hR0
  go_enter Try.func67, Try.ntmps67
  go_upto_region 1 with fail
  have hqbx : n0 ≤ n0 := by have := hC.size; omega
  have bx : BK (w.alloc (.cells #[.slice Ab bars.length cb, .slice As ss.length cs] 25)) (n0) #[.slice Ab bars.length cb, .slice As ss.length cs] 25 := BK.new' _ _ _ (n0) hn0
  have hsbx : (w.alloc (.cells #[.slice Ab bars.length cb, .slice As ss.length cs] 25)).heap.size = n0 + 1 := by simp [hn0]
  replace hC : Below n0 w (w.alloc (.cells #[.slice Ab bars.length cb, .slice As ss.length cs] 25)) := Below.alloc hC (by have := hC.size; omega) _
  replace hB := (RS.below hB (w' := (w.alloc (.cells #[.slice Ab bars.length cb, .slice As ss.length cs] 25))) (Below.alloc (Below.refl _ _) (Nat.le_refl _) _)).more (B' := (w.alloc (.cells #[.slice Ab bars.length cb, .slice As ss.length cs] 25)).heap.size) (by simp)
  replace hS := (RP.below hS (w' := (w.alloc (.cells #[.slice Ab bars.length cb, .slice As ss.length cs] 25))) (Below.alloc (Below.refl _ _) (Nat.le_refl _) _)).more (B' := (w.alloc (.cells #[.slice Ab bars.length cb, .slice As ss.length cs] 25)).heap.size) (by simp)
  replace hR := (RS.below hR (w' := (w.alloc (.cells #[.slice Ab bars.length cb, .slice As ss.length cs] 25))) (Below.alloc (Below.refl _ _) (Nat.le_refl _) _)).more (B' := (w.alloc (.cells #[.slice Ab bars.length cb, .slice As ss.length cs] 25)).heap.size) (by simp)
  generalize (w.alloc (.cells #[.slice Ab bars.length cb, .slice As ss.length cs] 25)) = Wbx at *
  have hqcx : n0 ≤ n0 + 1 := by have := hC.size; omega
  have cx : BK (Wbx.alloc (.cells #[.int .i64 b, .slice Ak ks.length ck] 42)) (n0 + 1) #[.int .i64 b, .slice Ak ks.length ck] 42 := BK.new' _ _ _ (n0 + 1) hsbx
  have hscx : (Wbx.alloc (.cells #[.int .i64 b, .slice Ak ks.length ck] 42)).heap.size = n0 + 1 + 1 := by simp [hsbx]
  replace hC : Below n0 w (Wbx.alloc (.cells #[.int .i64 b, .slice Ak ks.length ck] 42)) := Below.alloc hC (by have := hC.size; omega) _
  replace hB := (RS.below hB (w' := (Wbx.alloc (.cells #[.int .i64 b, .slice Ak ks.length ck] 42))) (Below.alloc (Below.refl _ _) (Nat.le_refl _) _)).more (B' := (Wbx.alloc (.cells #[.int .i64 b, .slice Ak ks.length ck] 42)).heap.size) (by simp)
  replace hS := (RP.below hS (w' := (Wbx.alloc (.cells #[.int .i64 b, .slice Ak ks.length ck] 42))) (Below.alloc (Below.refl _ _) (Nat.le_refl _) _)).more (B' := (Wbx.alloc (.cells #[.int .i64 b, .slice Ak ks.length ck] 42)).heap.size) (by simp)
  replace hR := (RS.below hR (w' := (Wbx.alloc (.cells #[.int .i64 b, .slice Ak ks.length ck] 42))) (Below.alloc (Below.refl _ _) (Nat.le_refl _) _)).more (B' := (Wbx.alloc (.cells #[.int .i64 b, .slice Ak ks.length ck] 42)).heap.size) (by simp)
  replace bx := bx.alloc (.cells #[.int .i64 b, .slice Ak ks.length ck] 42)
  generalize (Wbx.alloc (.cells #[.int .i64 b, .slice Ak ks.length ck] 42)) = Wcx at *
  clear hsbx
  have hqmx : n0 ≤ n0 + 1 + 1 := by have := hC.size; omega
  have mx : BK (Wcx.alloc (.cells #[.int .i64 mlo, .int .i64 mhi] 33)) (n0 + 1 + 1) #[.int .i64 mlo, .int .i64 mhi] 33 := BK.new' _ _ _ (n0 + 1 + 1) hscx
  have hsmx : (Wcx.alloc (.cells #[.int .i64 mlo, .int .i64 mhi] 33)).heap.size = n0 + 1 + 1 + 1 := by simp [hscx]
  replace hC : Below n0 w (Wcx.alloc (.cells #[.int .i64 mlo, .int .i64 mhi] 33)) := Below.alloc hC (by have := hC.size; omega) _
  replace hB := (RS.below hB (w' := (Wcx.alloc (.cells #[.int .i64 mlo, .int .i64 mhi] 33))) (Below.alloc (Below.refl _ _) (Nat.le_refl _) _)).more (B' := (Wcx.alloc (.cells #[.int .i64 mlo, .int .i64 mhi] 33)).heap.size) (by simp)
  replace hS := (RP.below hS (w' := (Wcx.alloc (.cells #[.int .i64 mlo, .int .i64 mhi] 33))) (Below.alloc (Below.refl _ _) (Nat.le_refl _) _)).more (B' := (Wcx.alloc (.cells #[.int .i64 mlo, .int .i64 mhi] 33)).heap.size) (by simp)
  replace hR := (RS.below hR (w' := (Wcx.alloc (.cells #[.int .i64 mlo, .int .i64 mhi] 33))) (Below.alloc (Below.refl _ _) (Nat.le_refl _) _)).more (B' := (Wcx.alloc (.cells #[.int .i64 mlo, .int .i64 mhi] 33)).heap.size) (by simp)
  replace bx := bx.alloc (.cells #[.int .i64 mlo, .int .i64 mhi] 33)
  replace cx := cx.alloc (.cells #[.int .i64 mlo, .int .i64 mhi] 33)
  generalize (Wcx.alloc (.cells #[.int .i64 mlo, .int .i64 mhi] 33)) = Wmx at *
  clear hscx
  have hbs : n0 + 2 < Wmx.heap.size := mx.lt
  have lbx := bx.lt
  have bxc0 := bx.cell 0
  have bxc1 := bx.cell 1
  simp at bxc0 bxc1
  have lcx := cx.lt
  have cxc0 := cx.cell 0
  have cxc1 := cx.cell 1
  simp at cxc0 cxc1
  go_wp2_with fail
  clear lbx bxc0 bxc1
  clear lcx cxc0 cxc1
  clear hsmx
  refine (rangesF_any bars ss b ks _ _ _ _ HF.out hkl HOR.out hB hS hR).mono ?_
  rintro e w1 ⟨v, rfl, ho, hb⟩
  replace hC : Below n0 w w1 := hC.trans (hb.mono (by have := hC.size; omega))
  replace hB := (RS.below hB hb).more hb.size
  replace hS := (RP.below hS hb).more hb.size
  replace hR := (RS.below hR hb).more hb.size
  replace bx := bx.below hb bx.lt
  replace cx := cx.below hb cx.lt
  replace mx := mx.below hb mx.lt
  clear hb
  rw [HWS.out, HRB.out] at ho
  have hlen : (thr ⟨lo, hi⟩ ws).length = ss.length + 1 := by rw [thr_len, HPL.out]
  obtain ⟨gb, cg, rfl, hgb, hgl⟩ := own_some ho (by omega) (by decide)
  have hg1 : n0 + 2 < gb := Nat.lt_of_lt_of_le hbs hgb
  have hso : OwnR w1 (n0 + 3) _ _ := own_more ho (base' := n0 + 3) (by omega)
  clear ho hgb hbs
  have hat := hso.at (k := ss.length) (by omega)
  have hee : nthB (thr ⟨lo, hi⟩ ws) ss.length = endR ⟨lo, hi⟩ ws := by rw [← HPL.out]; exact thr_last' _ _
  rw [hee] at hat
  have heo := HEO.out ss.length
  rw [List.take_of_length_le (by rw [HPL.out]; omega)] at heo
  obtain ⟨⟨elo, ehi⟩, he⟩ : ∃ e, endR ⟨lo, hi⟩ ws = e := ⟨_, rfl⟩
  have HEE := Lib.hid he
  rw [he] at hat heo
  have HE1 := Lib.hid heo
  clear heo
  obtain ⟨e0, e1⟩ := hat
  dsimp only at e0 e1
  have z0 := hso.fz (ss.length * 2)
  have z1 := hso.fz (ss.length * 2 + 1)
  have HLEN := Lib.hid hlen
  have hli : (ss.length : Int) < ((ss.length + 1 : Nat) : Int) := by omega
  have hli2 : (ss.length : Int) < (ss.length : Int) + 1 := by omega
  have w1' : IntKind.i64.wrap (((ss.length + 1 : Nat) : Int) - 1) = (ss.length : Int) := by rw [IntKind.wrap_i64]; omega
  have w2' : IntKind.i64.wrap ((ss.length : Int) + 1 - 1) = (ss.length : Int) := by rw [IntKind.wrap_i64]; omega
  have w3' : IntKind.i64.wrap (ss.length : Int) = (ss.length : Int) := by rw [IntKind.wrap_i64]; omega
  rw [hlen] at hso
  rw [hlen]
  clear hee he hlen
  obtain ⟨ml, hml⟩ : ∃ x, max elo mlo = x := ⟨_, rfl⟩
  obtain ⟨mh, hmh⟩ : ∃ x, min ehi mhi = x := ⟨_, rfl⟩
  have HML := Lib.hid hml
  have HMH := Lib.hid hmh
  have hml2 : (if elo < mlo then mlo else elo) = ml := by rw [← hml]; split <;> omega
  have hmh2 : (if mhi < ehi then mhi else ehi) = mh := by rw [← hmh]; split <;> omega
  have lmx := mx.lt
  have mxc0 := mx.cell 0
  have mxc1 := mx.cell 1
  simp at mxc0 mxc1
  go_upto_region 3 with fail
  go_region
  
  clear lmx mxc0 mxc1
  have o9 : OwnR ((w1.setCell ⟨gb, ss.length * 2, none⟩ (.int .i64 ml)).setCell ⟨gb, ss.length * 2 + 1, none⟩ (.int .i64 mh)).drew (n0 + 3) _ _ := hso.set (p := ss.length) (by rw [HLEN.out]; omega) ⟨ml, mh⟩
  have hse := hadS_end ⟨lo, hi⟩ ws ⟨mlo, mhi⟩
  rw [HEE.out, HPL.out] at hse
  have hme : meet ⟨elo, ehi⟩ ⟨mlo, mhi⟩ = ⟨ml, mh⟩ := by unfold meet; dsimp only; rw [hml, hmh]
  rw [hme] at hse
  rw [hse] at o9
  have bx9 : BK ((w1.setCell ⟨gb, ss.length * 2, none⟩ (.int .i64 ml)).setCell ⟨gb, ss.length * 2 + 1, none⟩ (.int .i64 mh)).drew n0 _ _ := (bx.far (p := ⟨gb, ss.length * 2, none⟩) (by show n0 ≠ gb; omega) (.int .i64 ml)).far (p := ⟨gb, ss.length * 2 + 1, none⟩) (by show n0 ≠ gb; omega) (.int .i64 mh)
  have cx9 : BK ((w1.setCell ⟨gb, ss.length * 2, none⟩ (.int .i64 ml)).setCell ⟨gb, ss.length * 2 + 1, none⟩ (.int .i64 mh)).drew (n0 + 1) _ _ := (cx.far (p := ⟨gb, ss.length * 2, none⟩) (by show n0 + 1 ≠ gb; omega) (.int .i64 ml)).far (p := ⟨gb, ss.length * 2 + 1, none⟩) (by show n0 + 1 ≠ gb; omega) (.int .i64 mh)
  have hC9 : Below n0 w ((w1.setCell ⟨gb, ss.length * 2, none⟩ (.int .i64 ml)).setCell ⟨gb, ss.length * 2 + 1, none⟩ (.int .i64 mh)).drew := (Below.setCell (Below.setCell hC (by show n0 ≤ gb; omega) _) (by show n0 ≤ gb; omega) _).drew
  have hle : ml ≤ mh := by
    have h1 := HE1.out
    have h2 := HMO.out
    have h3 := HME.out
    rw [HEE.out] at h3
    unfold OkR at h1 h2
    dsimp only at h1 h2
    unfold meets at h3
    rw [decide_eq_true_iff] at h3
    dsimp only at h3
    omega
  clear hso mx hC hB hS hR e0 e1 z0 z1 bx cx hml hmh hml2 hmh2 hse hme hgl w1' w2'
  generalize ((w1.setCell ⟨gb, ss.length * 2, none⟩ (.int .i64 ml)).setCell ⟨gb, ss.length * 2 + 1, none⟩ (.int .i64 mh)).drew = W9 at *
  have hgl : gb < W9.heap.size := (OwnR.lt' o9).1
  have hat := o9.at (k := ss.length) (by rw [hadS_len (by rw [HPL.out]; omega), HPL.out]; omega)
  rw [hadS_at (by rw [HPL.out]; omega)] at hat
  rw [← HPL.out, List.take_length, List.drop_length, HEE.out, HPL.out] at hat
  obtain ⟨e0, e1⟩ := hat
  have hmm : headR (hadL ⟨elo, ehi⟩ [] ⟨mlo, mhi⟩) = ⟨ml, mh⟩ := by
    show meet ⟨elo, ehi⟩ ⟨mlo, mhi⟩ = _
    unfold meet
    dsimp only
    rw [HML.out, HMH.out]
  rw [hmm] at e0 e1
  dsimp only at e0 e1
  clear hmm
  have b1 : decide (mh < ml) = false := decide_eq_false (by omega)
  have wl : IntKind.i64.wrap ((ss.length : Int) - 1) = (ss.length : Int) - 1 := by rw [IntKind.wrap_i64]; omega
  clear hle
  go_upto_region 4 with fail
  go_quiet (fail)
  have hbq : Below W9.heap.size W9 (W9.drewN nq) := by exact bel_of
  replace o9 := own_below o9 hbq
  replace bx9 := bx9.below hbq bx9.lt
  replace cx9 := cx9.below hbq cx9.lt
  replace hC9 := hC9.trans (hbq.mono (by have := hC9.size; omega))
  clear hbq
  generalize (W9.drewN nq) = W10 at *
  go_wp2_with fail
  clear e0 e1 b1 wl hli hli2 w3'
  have HOWN := Lib.hid o9
  clear o9
  as_aux_lemma =>
    go_loopw [10] (fun i wr => ∃ j : Nat, j ≤ ss.length ∧ i = .int .i64 ((j : Int) - 1) ∧ OwnR wr (n0 + 3) (.slice (some ⟨gb, 0, none⟩) (ss.length + 1) cg) (hadS ⟨lo, hi⟩ ws ⟨mlo, mhi⟩ j) ∧ BK wr n0 #[.slice Ab bars.length cb, .slice As ss.length cs] 25 ∧ BK wr (n0 + 1) #[.int .i64 b, .slice Ak ks.length ck] 42 ∧ Below n0 w wr) (fun i _ => (intOf i + 1).toNat)
    case atStart => exact ⟨ss.length, Nat.le_refl _, rfl, HOWN.out, bx9, cx9, hC9⟩
    case round =>
      clear hC9 HOWN bx9 cx9 hgl
      obtain ⟨j, hj, rfl, hown, bx, cx, hC⟩ := hrel
      have hS := RP.more (RP.below HS0.out hC) (B' := wr.heap.size) (by have := hC.size; omega)
      have hR := (RS.below HR0.out hC).more (B' := wr.heap.size) (by have := hC.size; omega)
      cases j with
      | zero =>
        have b1 : decide ((0 : Int) ≤ ((0 : Nat) : Int) - 1) = false := by decide
        rw [hadS_zero] at hown
        have HR := Lib.hid (own_more hown (base' := n0) (by omega))
        clear hown
        go_wp2_with fail
        go_ret2
        exact ⟨_, rfl, by (try rw [hn0]); exact HR.out, by (try rw [hn0]); exact hC⟩
      | succ j =>
        have hjl : j < ss.length := hj
        have hjw : j < ws.length := by rw [HPL.out]; exact hj
        have hij : (((j + 1 : Nat) : Int) - 1) = (j : Int) := by omega
        rw [hij]
        have hjl' : (j : Int) < (ss.length : Int) := by omega
        have hlt : j < ks.length := by have := HLE.out; omega
        have hlt' : (j : Int) < (ks.length : Int) := by omega
        obtain ⟨A', cap', b3, off3, hve, hA, hc⟩ := RI.cells hR
        obtain ⟨rfl, hbb3⟩ := hA (by omega)
        injection hve with q1 q2 q3
        subst q1 q3
        have d0 := hc j hlt
        clear hA hc q2
        obtain ⟨A', cap', b4, off4, hve, hA, hc⟩ := RP.cells hS
        obtain ⟨rfl, hbb4⟩ := hA (by omega)
        injection hve with q1 q2 q3
        subst q1 q3
        obtain ⟨u, d1, hu⟩ := hc j hjl
        obtain ⟨hpk, hx2, hx0⟩ := HPK.out j hjl
        obtain ⟨x, hx⟩ : ∃ x, nthI ks j = x := ⟨_, rfl⟩
        rw [hx] at d0 hx2 hx0 hpk
        obtain ⟨m, rfl⟩ : ∃ m : Nat, x = m := ⟨x.toNat, by omega⟩
        rw [Int.toNat_natCast] at hx2 hpk
        obtain ⟨s, hs⟩ : ∃ s, nthS ss j = s := ⟨_, rfl⟩
        rw [hs] at hu hx2 hpk
        obtain ⟨Aw, cw, rfl⟩ := hu.slice
        clear hA hc q2 hx hs
        obtain ⟨A', cap', b5, off5, hve, hA, hc⟩ := RW.cells hu
        obtain ⟨rfl, hbb5⟩ := hA (by omega)
        injection hve with q1 q2 q3
        subst q1 q3
        obtain ⟨u, d2, hv⟩ := hc m hx2
        have hms : (m : Int) < (s.length : Int) := by omega
        rw [← hpk] at hv
        obtain ⟨y, hy⟩ : ∃ y, nthW ws j = y := ⟨_, rfl⟩
        have hoy := HOK.out _ (nthW_mem hjw)
        have hst := hadS_set (r := ⟨lo, hi⟩) (m := ⟨mlo, mhi⟩) hjw
        have hsc := HSC.out j hjw
        have heo := HEO.out j
        rw [hy] at hv hoy hst hsc
        rw [← hsc] at hst
        obtain ⟨Ay, cy, rfl⟩ := hv.slice
        obtain ⟨⟨h1, h2⟩, hh⟩ : ∃ x, endR ⟨lo, hi⟩ (ws.take j) = x := ⟨_, rfl⟩
        obtain ⟨⟨t1, t2⟩, ht⟩ : ∃ x, headR (hadL (endR ⟨lo, hi⟩ (ws.take (j + 1))) (ws.drop (j + 1)) ⟨mlo, mhi⟩) = x := ⟨_, rfl⟩
        rw [hh, ht] at hst
        rw [hh] at heo
        dsimp only at hst
        have HHH := Lib.hid hh
        have HTT := Lib.hid ht
        have HST := Lib.hid hst
        have HOY := Lib.hid hoy
        have HEJ := Lib.hid heo
        have hpy := hoy.pos
        have hyl : y.length ≤ 1000 := by have := hoy.few; omega
        clear hA hc q2 hpk hy hoy hst hsc heo hh ht
        as_aux_lemma =>
          go_upto_region 9 with fail
          have lbx := bx.lt
          have bxc0 := bx.cell 0
          have bxc1 := bx.cell 1
          simp at bxc0 bxc1
          have lcx := cx.lt
          have cxc0 := cx.cell 0
          have cxc1 := cx.cell 1
          simp at cxc0 cxc1
          have d0y : Below wr.heap.size wr wr.drew := by exact bel_of
          refine wp_region_noPanic (plain_any [0, 1, 2, 3, 4, 5, 6, 7, 8, 9, 10, 11, 12] (Below wr.heap.size wr) mixed ?_)
          (refine any_take 0 ?_ (by rfl) (by kernel_rfl) (fun _ _ _ _ _ hx => hx.elim) (.inl ⟨by rfl, ?_⟩) (by with_reducible assumption) ?_; rotate_left; (intro X hX; obtain ⟨r1, r2⟩ := Below.rules hX; clear hX; go_simp; rfl); simp only [List.getElem_toArray, List.getElem_cons_succ, List.getElem_cons_zero, Act.put, List.setIfInBounds_toArray, List.set_cons_succ, List.set_cons_zero])
          (refine any_take 1 ?_ (by rfl) (by kernel_rfl) (fun _ _ _ _ _ hx => hx.elim) (.inl ⟨by rfl, ?_⟩) (by with_reducible assumption) ?_; rotate_left; (intro X hX; obtain ⟨r1, r2⟩ := Below.rules hX; clear hX; go_simp; rfl); simp only [List.getElem_toArray, List.getElem_cons_succ, List.getElem_cons_zero, Act.put, List.setIfInBounds_toArray, List.set_cons_succ, List.set_cons_zero])
          (refine any_take 2 ?_ (by rfl) (by kernel_rfl) (fun _ _ _ _ _ hx => hx.elim) (.inl ⟨by rfl, ?_⟩) (by with_reducible assumption) ?_; rotate_left; (intro X hX; obtain ⟨r1, r2⟩ := Below.rules hX; clear hX; go_simp; rfl); simp only [List.getElem_toArray, List.getElem_cons_succ, List.getElem_cons_zero, Act.put, List.setIfInBounds_toArray, List.set_cons_succ, List.set_cons_zero])
          (refine any_take 3 ?_ (by rfl) (by kernel_rfl) (fun _ _ _ _ _ hx => hx.elim) (.inl ⟨by rfl, ?_⟩) (by with_reducible assumption) ?_; rotate_left; (intro X hX; obtain ⟨r1, r2⟩ := Below.rules hX; clear hX; go_simp; rfl); simp only [List.getElem_toArray, List.getElem_cons_succ, List.getElem_cons_zero, Act.put, List.setIfInBounds_toArray, List.set_cons_succ, List.set_cons_zero])
          (refine any_take 4 ?_ (by rfl) (by kernel_rfl) (fun _ _ _ _ _ hx => hx.elim) (.inl ⟨by rfl, ?_⟩) (by with_reducible assumption) ?_; rotate_left; (intro X hX; obtain ⟨r1, r2⟩ := Below.rules hX; clear hX; go_simp; rfl); simp only [List.getElem_toArray, List.getElem_cons_succ, List.getElem_cons_zero, Act.put, List.setIfInBounds_toArray, List.set_cons_succ, List.set_cons_zero])
          (refine any_take 5 ?_ (by rfl) (by kernel_rfl) (fun _ _ _ _ _ hx => hx.elim) (.inl ⟨by rfl, ?_⟩) (by with_reducible assumption) ?_; rotate_left; (intro X hX; obtain ⟨r1, r2⟩ := Below.rules hX; clear hX; go_simp; rfl); simp only [List.getElem_toArray, List.getElem_cons_succ, List.getElem_cons_zero, Act.put, List.setIfInBounds_toArray, List.set_cons_succ, List.set_cons_zero])
          (refine any_take 6 ?_ (by rfl) (by kernel_rfl) (fun _ _ _ _ _ hx => hx.elim) (.inl ⟨by rfl, ?_⟩) (by with_reducible assumption) ?_; rotate_left; (intro X hX; obtain ⟨r1, r2⟩ := Below.rules hX; clear hX; go_simp; rfl); simp only [List.getElem_toArray, List.getElem_cons_succ, List.getElem_cons_zero, Act.put, List.setIfInBounds_toArray, List.set_cons_succ, List.set_cons_zero])
          (refine any_take 7 ?_ (by rfl) (by kernel_rfl) (fun _ _ _ _ _ hx => hx.elim) (.inl ⟨by rfl, ?_⟩) (by with_reducible assumption) ?_; rotate_left; (intro X hX; obtain ⟨r1, r2⟩ := Below.rules hX; clear hX; go_simp; rfl); simp only [List.getElem_toArray, List.getElem_cons_succ, List.getElem_cons_zero, Act.put, List.setIfInBounds_toArray, List.set_cons_succ, List.set_cons_zero])
          (refine any_take 8 ?_ (by rfl) (by kernel_rfl) (fun _ _ _ _ _ hx => hx.elim) (.inl ⟨by rfl, ?_⟩) (by with_reducible assumption) ?_; rotate_left; (intro X hX; obtain ⟨r1, r2⟩ := Below.rules hX; clear hX; go_simp; rfl); simp only [List.getElem_toArray, List.getElem_cons_succ, List.getElem_cons_zero, Act.put, List.setIfInBounds_toArray, List.set_cons_succ, List.set_cons_zero])
          (refine any_take 9 ?_ (by rfl) (by kernel_rfl) (fun _ _ _ _ _ hx => hx.elim) (.inl ⟨by rfl, ?_⟩) (by with_reducible assumption) ?_; rotate_left; (intro X hX; obtain ⟨r1, r2⟩ := Below.rules hX; clear hX; go_simp; rfl); simp only [List.getElem_toArray, List.getElem_cons_succ, List.getElem_cons_zero, Act.put, List.setIfInBounds_toArray, List.set_cons_succ, List.set_cons_zero])
          (refine any_take 10 ?_ (by rfl) (by kernel_rfl) (fun _ _ _ _ _ hx => hx.elim) (.inl ⟨by rfl, ?_⟩) (by with_reducible assumption) ?_; rotate_left; (intro X hX; obtain ⟨r1, r2⟩ := Below.rules hX; clear hX; go_simp; rfl); simp only [List.getElem_toArray, List.getElem_cons_succ, List.getElem_cons_zero, Act.put, List.setIfInBounds_toArray, List.set_cons_succ, List.set_cons_zero])
          (refine any_take 11 ?_ (by rfl) (by kernel_rfl) (fun _ _ _ _ _ hx => hx.elim) (.inl ⟨by rfl, ?_⟩) (by with_reducible assumption) ?_; rotate_left; (intro X hX; obtain ⟨r1, r2⟩ := Below.rules hX; clear hX; go_simp; rfl); simp only [List.getElem_toArray, List.getElem_cons_succ, List.getElem_cons_zero, Act.put, List.setIfInBounds_toArray, List.set_cons_succ, List.set_cons_zero])
          (refine any_take 12 ?_ (by rfl) (by kernel_rfl) (fun _ _ _ _ _ hx => hx.elim) (.inl ⟨by rfl, ?_⟩) (by with_reducible assumption) ?_; rotate_left; (intro X hX; obtain ⟨r1, r2⟩ := Below.rules hX; clear hX; go_simp; rfl); simp only [List.getElem_toArray, List.getElem_cons_succ, List.getElem_cons_zero, Act.put, List.setIfInBounds_toArray, List.set_cons_succ, List.set_cons_zero])
          have dy1 : Below wr.heap.size wr wr.drew := by exact bel_of
          have hdr : Below wr.heap.size wr wr.drew := Below.drew (Below.refl _ _)
          clear hdr
          generalize wr.drew = uy2 at *
          refine any_run1 (i := 13) (by kernel_rfl) (by rfl) (by kernel_rfl) ?_
          intro K hK
          have qy4 := dy1.size
          have ey3 : Below wr.heap.size wr (uy2.alloc (.cells #[.slice none 0 0] 28)) := Below.alloc dy1 dy1.size _
          have hnx : Below uy2.heap.size uy2 (uy2.alloc (.cells #[.slice none 0 0] 28)) := Below.alloc (Below.refl _ _) (Nat.le_refl _) _
          go_wp2_with fail
          have tx : BK (uy2.alloc (.cells #[.slice none 0 0] 28)) uy2.heap.size #[.slice none 0 0] 28 := BK.new _ _ _
          refine hK _ _ (fun _ => ey3) ?_
          clear hK K hnx
          generalize (uy2.alloc (.cells #[.slice none 0 0] 28)) = vy5 at *
          obtain ⟨gtx, hgtx⟩ : ∃ g, uy2.heap.size = g := ⟨_, rfl⟩
          have hqtx : wr.heap.size ≤ gtx := by omega
          rw [hgtx] at tx
          try rw [hgtx]
          clear hgtx
          refine any_run1 (i := 14) (by kernel_rfl) (by rfl) (by kernel_rfl) ?_
          intro K hK
          have ey6 : Below wr.heap.size wr (vy5.setCell ⟨gtx, 0, none⟩ (.slice Ay y.length cy)) := Below.setCell ey3 (by show wr.heap.size ≤ gtx; omega) _
          have l := tx.lt
          have y0 := tx.cell 0
          simp at y0
          have f0 := tx.frozen 0
          go_wp2_with fail
          refine hK _ _ (fun _ => ey6) ?_
          clear hK K l y0 f0
          have tx_ := tx.set 0 (.slice Ay y.length cy)
          simp at tx_
          clear tx
          have tx := tx_
          clear tx_
          generalize (vy5.setCell ⟨gtx, 0, none⟩ (.slice Ay y.length cy)) = vy7 at *
          refine any_done (by kernel_rfl) (NoPanic.normal ?_)
          clear lbx bxc0 bxc1
          clear lcx cxc0 cxc1
          have hb := ey6
          clear d0 d1 d2 hbb3 hbb4 hbb5 hu
          replace hC : Below n0 w vy7 := hC.trans (hb.mono (by have := hC.size; omega))
          replace bx := bx.below hb bx.lt
          replace cx := cx.below hb cx.lt
          replace hS := (RP.below hS hb).more hb.size
          replace hR := (RS.below hR hb).more hb.size
          replace hown := own_below hown hb
          replace hv := (RK.below hv hb).more hb.size
          clear hb
          have hjl2 : (j : Int) < ((ss.length + 1 : Nat) : Int) := by omega
          have hjl3 : (j : Int) + 1 < ((ss.length + 1 : Nat) : Int) := by omega
          have hjl4 : (j : Int) < (ss.length : Int) + 1 := by omega
          have hjl5 : (j : Int) + 1 < (ss.length : Int) + 1 := by omega
          have wj : IntKind.i64.wrap ((j : Int) + 1) = (j : Int) + 1 := by rw [IntKind.wrap_i64]; omega
          have wj2 : ((j : Int) + 1).toNat = j + 1 := by omega
          have HA1 := Lib.hid (fun (Wq : World) (h : OwnR Wq (n0 + 3) (.slice (some ⟨gb, 0, none⟩) (ss.length + 1) cg) (hadS ⟨lo, hi⟩ ws ⟨mlo, mhi⟩ (j + 1))) => show (Wq.cell? ⟨gb, j * 2, none⟩ = some (.int .i64 h1) ∧ Wq.cell? ⟨gb, j * 2 + 1, none⟩ = some (.int .i64 h2)) ∧ (Wq.cell? ⟨gb, (j + 1) * 2, none⟩ = some (.int .i64 t1) ∧ Wq.cell? ⟨gb, (j + 1) * 2 + 1, none⟩ = some (.int .i64 t2)) from by
            have hA1 := OwnR.at h (k := j) (by rw [hadS_len (by omega)]; omega)
            have hA2 := OwnR.at h (k := j + 1) (by rw [hadS_len (by omega)]; omega)
            rw [hadS_old hjw, HHH.out] at hA1
            rw [hadS_at (by omega), HTT.out] at hA2
            exact ⟨hA1, hA2⟩)
          obtain ⟨⟨e0, _⟩, _⟩ := HA1.out _ hown
          have hgl : gb < vy7.heap.size := (OwnR.lt' (h := hown)).1
          go_wp2_with fail
          clear e0
          generalize hW5 : vy7 = W5 at *
          clear hW5
          as_aux_lemma =>
            go_loopw [14, 12, 13] (fun x p q wq => ∃ i : Nat, i ≤ (h2 - h1 + 1).toNat ∧ x = .int .i64 (h1 + i) ∧ p = .int .i64 (scan y ⟨t1, t2⟩ h1 i).lo ∧ q = .int .i64 (scan y ⟨t1, t2⟩ h1 i).hi ∧ Below W5.heap.size W5 wq) (fun x _ _ _ => (h2 + 1 - intOf x).toNat)
            case atStart => exact ⟨0, Nat.zero_le _, by simp, by rw [scan_zero], by rw [scan_zero], Below.refl _ _⟩
            case round =>
              obtain ⟨i, hi2, rfl, rfl, rfl, hb⟩ := hrel
              have HBI := Lib.hid hb
              replace hgl : gb < wr.heap.size := Nat.lt_of_lt_of_le hgl hb.size
              replace hC : Below n0 w wr := hC.trans (hb.mono (by have := hC.size; omega))
              replace bx := bx.below hb bx.lt
              replace cx := cx.below hb cx.lt
              replace hS := (RP.below hS hb).more hb.size
              replace hR := (RS.below hR hb).more hb.size
              replace hown := own_below hown hb
              replace hv := (RK.below hv hb).more hb.size
              replace tx := tx.below hb tx.lt
              clear hb
              have hbw := HBI.out
              have hej := HEJ.out
              unfold OkR at hej
              dsimp only at hej
              have hi0 : 0 ≤ h1 + (i : Int) := by omega
              obtain ⟨⟨e0, e1⟩, f0, f1⟩ := HA1.out _ hown
              obtain ⟨⟨o1, o2⟩, ho⟩ : ∃ o, scan y ⟨t1, t2⟩ h1 i = o := ⟨_, rfl⟩
              rw [ho]
              by_cases hlt2 : h1 + (i : Int) ≤ h2
              case neg =>
                obtain rfl : i = (h2 - h1 + 1).toNat := by omega
                have z0 := OwnR.fz (h := hown) (j * 2)
                have z1 := OwnR.fz (h := hown) (j * 2 + 1)
                have o9 : OwnR ((wr.setCell ⟨gb, j * 2, none⟩ (.int .i64 o1)).setCell ⟨gb, j * 2 + 1, none⟩ (.int .i64 o2)) (n0 + 3) _ _ := OwnR.set (h := hown) (p := j) (by rw [hadS_len (by omega)]; omega) ⟨o1, o2⟩
                rw [← ho, HST.out] at o9
                have hC9 : Below n0 w ((wr.setCell ⟨gb, j * 2, none⟩ (.int .i64 o1)).setCell ⟨gb, j * 2 + 1, none⟩ (.int .i64 o2)) := Below.setCell (Below.setCell hC (by show n0 ≤ gb; omega) _) (by show n0 ≤ gb; omega) _
                have bx9 := (bx.far (p := ⟨gb, j * 2, none⟩) (by show n0 ≠ gb; omega) (.int .i64 o1)).far (p := ⟨gb, j * 2 + 1, none⟩) (by show n0 ≠ gb; omega) (.int .i64 o2)
                have cx9 := (cx.far (p := ⟨gb, j * 2, none⟩) (by show n0 + 1 ≠ gb; omega) (.int .i64 o1)).far (p := ⟨gb, j * 2 + 1, none⟩) (by show n0 + 1 ≠ gb; omega) (.int .i64 o2)
                have HO9 := Lib.hid o9
                have HBX9 := Lib.hid bx9
                have HCX9 := Lib.hid cx9
                have HC9 := Lib.hid hC9
                clear o9 bx9 cx9 hC9 hown bx cx hC hS hR hv tx ho
                go_wp2_with fail
                go_roundw
                case rel => exact ⟨j, by omega, by first | rfl | go_num, HO9.out, HBX9.out, HCX9.out, HC9.out⟩
                case measure => simp [intOf]
              have hscn := scan_succ y ⟨t1, t2⟩ h1 i
              rw [ho] at hscn
              have HSN := Lib.hid hscn
              have ww : IntKind.i64.wrap (h1 + (i : Int) + 1) = h1 + (i : Int) + 1 := by rw [IntKind.wrap_i64]; omega
              clear hscn ho hej
              have ltx := tx.lt
              have txc0 := tx.cell 0
              simp at txc0
              go_wp2_with fail
              clear ltx txc0
              clear e0 e1 f0 f1
              refine (afterF_any y _ (h1 + (i : Int)) _ hpy hyl hv).mono ?_
              rintro e w2 ⟨rfl, hb⟩
              replace hC : Below n0 w w2 := hC.trans (hb.mono (by have := hC.size; omega))
              replace bx := bx.below hb bx.lt
              replace cx := cx.below hb cx.lt
              replace hS := (RP.below hS hb).more hb.size
              replace hR := (RS.below hR hb).more hb.size
              replace hown := own_below hown hb
              replace hv := (RK.below hv hb).more hb.size
              replace tx := tx.below hb tx.lt
              replace hbw := hbw.trans (hb.mono hbw.size)
              clear hb
              obtain ⟨⟨l1, u1⟩, hx1⟩ : ∃ x, aft y (h1 + (i : Int)) = x := ⟨_, rfl⟩
              rw [hx1]
              unfold rV
              go_upto_region 15 with fail
              obtain ⟨m1, hm1⟩ : ∃ n, w2.heap.size = n := ⟨_, rfl⟩
              try rw [hm1]
              have hqqx : n0 ≤ m1 := by have := hC.size; omega
              have qx : BK (w2.alloc (.cells #[.int .i64 l1, .int .i64 u1] 33)) (m1) #[.int .i64 l1, .int .i64 u1] 33 := BK.new' _ _ _ (m1) hm1
              have hsqx : (w2.alloc (.cells #[.int .i64 l1, .int .i64 u1] 33)).heap.size = m1 + 1 := by simp [hm1]
              replace hC : Below n0 w (w2.alloc (.cells #[.int .i64 l1, .int .i64 u1] 33)) := Below.alloc hC (by have := hC.size; omega) _
              replace bx := bx.alloc (.cells #[.int .i64 l1, .int .i64 u1] 33)
              replace cx := cx.alloc (.cells #[.int .i64 l1, .int .i64 u1] 33)
              replace hS := (RP.below hS (w' := (w2.alloc (.cells #[.int .i64 l1, .int .i64 u1] 33))) (Below.alloc (Below.refl _ _) (Nat.le_refl _) _)).more (B' := (w2.alloc (.cells #[.int .i64 l1, .int .i64 u1] 33)).heap.size) (by simp)
              replace hR := (RS.below hR (w' := (w2.alloc (.cells #[.int .i64 l1, .int .i64 u1] 33))) (Below.alloc (Below.refl _ _) (Nat.le_refl _) _)).more (B' := (w2.alloc (.cells #[.int .i64 l1, .int .i64 u1] 33)).heap.size) (by simp)
              replace hown := own_below hown (W' := (w2.alloc (.cells #[.int .i64 l1, .int .i64 u1] 33))) (Below.alloc (Below.refl _ _) (Nat.le_refl _) _)
              replace hv := (RK.below hv (w' := (w2.alloc (.cells #[.int .i64 l1, .int .i64 u1] 33))) (Below.alloc (Below.refl _ _) (Nat.le_refl _) _)).more (B' := (w2.alloc (.cells #[.int .i64 l1, .int .i64 u1] 33)).heap.size) (by simp)
              replace tx := tx.alloc (.cells #[.int .i64 l1, .int .i64 u1] 33)
              replace hbw := hbw.trans ((Below.alloc (Below.refl _ _) (Nat.le_refl _) _ : Below _ _ (w2.alloc (.cells #[.int .i64 l1, .int .i64 u1] 33))).mono hbw.size)
              generalize (w2.alloc (.cells #[.int .i64 l1, .int .i64 u1] 33)) = Wqx at *
              clear hm1
              clear hsqx
              have hgd : good y ⟨t1, t2⟩ (h1 + (i : Int)) = (decide (l1 ≤ t2) && decide (t1 ≤ u1)) := by unfold good; rw [hx1, meets_eq]
              obtain ⟨⟨e0, e1⟩, f0, f1⟩ := HA1.out _ hown
              replace hgl : gb < Wqx.heap.size := (OwnR.lt' (h := hown)).1
              clear hx1
              have lqx := qx.lt
              have qxc0 := qx.cell 0
              have qxc1 := qx.cell 1
              simp at qxc0 qxc1
              as_aux_lemma =>
                by_cases a1 : l1 ≤ t2
                case neg =>
                  have b1 : decide (l1 ≤ t2) = false := decide_eq_false a1
                  have hg0 : good y ⟨t1, t2⟩ (h1 + (i : Int)) = false := hgd.trans (by rw [b1, Bool.false_and])
                  have hv0 := HSN.out
                  rw [scanS_no hg0] at hv0
                  have HV := Lib.hid hv0
                  clear hv0 hg0
                  clear hgd a1
                  refine wp_region_noPanic (plain_any [0, 1, 2, 3, 4, 5, 6, 7, 8, 9, 10, 11, 12, 13, 14, 15, 16, 17, 18, 19] (Below Wqx.heap.size Wqx) mixed ?_)
                  (refine any_take 0 ?_ (by rfl) (by kernel_rfl) (fun _ _ _ _ _ hx => hx.elim) (.inl ⟨by rfl, ?_⟩) (by exact bel_of) ?_; rotate_left; (intro X hX; obtain ⟨r1, r2⟩ := Below.rules hX; clear hX; go_simp; rfl); simp only [List.getElem_toArray, List.getElem_cons_succ, List.getElem_cons_zero, Act.put, List.setIfInBounds_toArray, List.set_cons_succ, List.set_cons_zero])
                  have d0z : Below Wqx.heap.size Wqx Wqx.drew := by exact bel_of
                  (refine any_take 1 ?_ (by rfl) (by kernel_rfl) (fun _ _ _ _ _ hx => hx.elim) (.inl ⟨by rfl, ?_⟩) (by exact bel_of) ?_; rotate_left; (intro X hX; obtain ⟨r1, r2⟩ := Below.rules hX; clear hX; go_simp; rfl); simp only [List.getElem_toArray, List.getElem_cons_succ, List.getElem_cons_zero, Act.put, List.setIfInBounds_toArray, List.set_cons_succ, List.set_cons_zero])
                  (refine any_take 2 ?_ (by rfl) (by kernel_rfl) (fun _ _ _ _ _ hx => hx.elim) (.inl ⟨by rfl, ?_⟩) (by exact bel_of) ?_; rotate_left; (intro X hX; obtain ⟨r1, r2⟩ := Below.rules hX; clear hX; go_simp; rfl); simp only [List.getElem_toArray, List.getElem_cons_succ, List.getElem_cons_zero, Act.put, List.setIfInBounds_toArray, List.set_cons_succ, List.set_cons_zero])
                  (refine any_take 3 ?_ (by rfl) (by kernel_rfl) (fun _ _ _ _ _ hx => hx.elim) (.inl ⟨by rfl, ?_⟩) (by exact bel_of) ?_; rotate_left; (intro X hX; obtain ⟨r1, r2⟩ := Below.rules hX; clear hX; go_simp; rfl); simp only [List.getElem_toArray, List.getElem_cons_succ, List.getElem_cons_zero, Act.put, List.setIfInBounds_toArray, List.set_cons_succ, List.set_cons_zero])
                  (refine any_take 4 ?_ (by rfl) (by kernel_rfl) (fun _ _ _ _ _ hx => hx.elim) (.inl ⟨by rfl, ?_⟩) (by exact bel_of) ?_; rotate_left; (intro X hX; obtain ⟨r1, r2⟩ := Below.rules hX; clear hX; go_simp; rfl); simp only [List.getElem_toArray, List.getElem_cons_succ, List.getElem_cons_zero, Act.put, List.setIfInBounds_toArray, List.set_cons_succ, List.set_cons_zero])
                  (refine any_take 5 ?_ (by rfl) (by kernel_rfl) (fun _ _ _ _ _ hx => hx.elim) (.inl ⟨by rfl, ?_⟩) (by exact bel_of) ?_; rotate_left; (intro X hX; obtain ⟨r1, r2⟩ := Below.rules hX; clear hX; go_simp; rfl); simp only [List.getElem_toArray, List.getElem_cons_succ, List.getElem_cons_zero, Act.put, List.setIfInBounds_toArray, List.set_cons_succ, List.set_cons_zero])
                  (refine any_take 6 ?_ (by rfl) (by kernel_rfl) (fun _ _ _ _ _ hx => hx.elim) (.inl ⟨by rfl, ?_⟩) (by exact bel_of) ?_; rotate_left; (intro X hX; obtain ⟨r1, r2⟩ := Below.rules hX; clear hX; go_simp; rfl); simp only [List.getElem_toArray, List.getElem_cons_succ, List.getElem_cons_zero, Act.put, List.setIfInBounds_toArray, List.set_cons_succ, List.set_cons_zero])
                  (refine any_take 7 ?_ (by rfl) (by kernel_rfl) (fun _ _ _ _ _ hx => hx.elim) (.inl ⟨by rfl, ?_⟩) (by exact bel_of) ?_; rotate_left; (intro X hX; obtain ⟨r1, r2⟩ := Below.rules hX; clear hX; go_simp; rfl); simp only [List.getElem_toArray, List.getElem_cons_succ, List.getElem_cons_zero, Act.put, List.setIfInBounds_toArray, List.set_cons_succ, List.set_cons_zero])
                  (refine any_take 8 ?_ (by rfl) (by kernel_rfl) (fun _ _ _ _ _ hx => hx.elim) (.inl ⟨by rfl, ?_⟩) (by exact bel_of) ?_; rotate_left; (intro X hX; obtain ⟨r1, r2⟩ := Below.rules hX; clear hX; go_simp; rfl); simp only [List.getElem_toArray, List.getElem_cons_succ, List.getElem_cons_zero, Act.put, List.setIfInBounds_toArray, List.set_cons_succ, List.set_cons_zero])
                  (refine any_take 9 ?_ (by rfl) (by kernel_rfl) (fun _ _ _ _ _ hx => hx.elim) (.inl ⟨by rfl, ?_⟩) (by exact bel_of) ?_; rotate_left; (intro X hX; obtain ⟨r1, r2⟩ := Below.rules hX; clear hX; go_simp; rfl); simp only [List.getElem_toArray, List.getElem_cons_succ, List.getElem_cons_zero, Act.put, List.setIfInBounds_toArray, List.set_cons_succ, List.set_cons_zero])
                  (refine any_take 10 undef (by rfl) (by kernel_rfl) (fun _ _ _ _ _ hx => hx.elim) (.inr ⟨by rfl, by rfl⟩) (by exact bel_of) ?_; simp only [List.getElem_toArray, List.getElem_cons_succ, List.getElem_cons_zero, Act.put, List.setIfInBounds_toArray, List.set_cons_succ, List.set_cons_zero])
                  (refine any_take 11 undef (by rfl) (by kernel_rfl) (fun _ _ _ _ _ hx => hx.elim) (.inr ⟨by rfl, by rfl⟩) (by exact bel_of) ?_; simp only [List.getElem_toArray, List.getElem_cons_succ, List.getElem_cons_zero, Act.put, List.setIfInBounds_toArray, List.set_cons_succ, List.set_cons_zero])
                  (refine any_take 12 undef (by rfl) (by kernel_rfl) (fun _ _ _ _ _ hx => hx.elim) (.inr ⟨by rfl, by rfl⟩) (by exact bel_of) ?_; simp only [List.getElem_toArray, List.getElem_cons_succ, List.getElem_cons_zero, Act.put, List.setIfInBounds_toArray, List.set_cons_succ, List.set_cons_zero])
                  (refine any_take 13 undef (by rfl) (by kernel_rfl) (fun _ _ _ _ _ hx => hx.elim) (.inr ⟨by rfl, by rfl⟩) (by exact bel_of) ?_; simp only [List.getElem_toArray, List.getElem_cons_succ, List.getElem_cons_zero, Act.put, List.setIfInBounds_toArray, List.set_cons_succ, List.set_cons_zero])
                  (refine any_take 14 undef (by rfl) (by kernel_rfl) (fun _ _ _ _ _ hx => hx.elim) (.inr ⟨by rfl, by rfl⟩) (by exact bel_of) ?_; simp only [List.getElem_toArray, List.getElem_cons_succ, List.getElem_cons_zero, Act.put, List.setIfInBounds_toArray, List.set_cons_succ, List.set_cons_zero])
                  (refine any_take 15 undef (by rfl) (by kernel_rfl) (fun _ _ _ _ _ hx => hx.elim) (.inr ⟨by rfl, by rfl⟩) (by exact bel_of) ?_; simp only [List.getElem_toArray, List.getElem_cons_succ, List.getElem_cons_zero, Act.put, List.setIfInBounds_toArray, List.set_cons_succ, List.set_cons_zero])
                  (refine any_take 16 undef (by rfl) (by kernel_rfl) (fun _ _ _ _ _ hx => hx.elim) (.inr ⟨by rfl, by rfl⟩) (by exact bel_of) ?_; simp only [List.getElem_toArray, List.getElem_cons_succ, List.getElem_cons_zero, Act.put, List.setIfInBounds_toArray, List.set_cons_succ, List.set_cons_zero])
                  (refine any_take 17 undef (by rfl) (by kernel_rfl) (fun _ _ _ _ _ hx => hx.elim) (.inr ⟨by rfl, by rfl⟩) (by exact bel_of) ?_; simp only [List.getElem_toArray, List.getElem_cons_succ, List.getElem_cons_zero, Act.put, List.setIfInBounds_toArray, List.set_cons_succ, List.set_cons_zero])
                  (refine any_take 18 undef (by rfl) (by kernel_rfl) (fun _ _ _ _ _ hx => hx.elim) (.inr ⟨by rfl, by rfl⟩) (by exact bel_of) ?_; simp only [List.getElem_toArray, List.getElem_cons_succ, List.getElem_cons_zero, Act.put, List.setIfInBounds_toArray, List.set_cons_succ, List.set_cons_zero])
                  (refine any_take 19 ?_ (by rfl) (by kernel_rfl) (fun _ _ _ _ _ hx => hx.elim) (.inl ⟨by rfl, ?_⟩) (by exact bel_of) ?_; rotate_left; (intro X hX; obtain ⟨r1, r2⟩ := Below.rules hX; clear hX; go_simp; rfl); simp only [List.getElem_toArray, List.getElem_cons_succ, List.getElem_cons_zero, Act.put, List.setIfInBounds_toArray, List.set_cons_succ, List.set_cons_zero])
                  refine any_done (by kernel_rfl) (NoPanic.normal ?_)
                  clear lqx qxc0 qxc1
                  have hb := d0z
                  replace hC : Below n0 w Wqx.drew := hC.trans (hb.mono (by have := hC.size; omega))
                  replace bx := bx.below hb bx.lt
                  replace cx := cx.below hb cx.lt
                  replace hS := (RP.below hS hb).more hb.size
                  replace hR := (RS.below hR hb).more hb.size
                  replace hown := own_below hown hb
                  replace hv := (RK.below hv hb).more hb.size
                  replace tx := tx.below hb tx.lt
                  replace hbw := hbw.trans (hb.mono hbw.size)
                  replace qx := qx.below hb qx.lt
                  clear hb
                  clear e0 e1 f0 f1
                  go_wp2_with fail
                  go_roundw
                  case rel => exact ⟨i + 1, by omega, by go_num, by rw [HV.out], by rw [HV.out], hbw⟩
                  case measure => simp [intOf]; omega
                have b1 : decide (l1 ≤ t2) = true := decide_eq_true a1
                as_aux_lemma =>
                  by_cases a2 : t1 ≤ u1
                  case neg =>
                    have b2' : decide (t1 ≤ u1) = false := decide_eq_false a2
                    have hg0 : good y ⟨t1, t2⟩ (h1 + (i : Int)) = false := hgd.trans (by rw [b1, b2', Bool.and_false])
                    have hv0 := HSN.out
                    rw [scanS_no hg0] at hv0
                    have HV := Lib.hid hv0
                    clear hv0 hg0
                    clear hgd a1 a2
                    refine wp_region_noPanic (plain_any [0, 1, 2, 3, 4, 5, 6, 7, 8, 9, 10, 11, 12, 13, 14, 15, 16, 17, 18, 19] (Below Wqx.heap.size Wqx) mixed ?_)
                    (refine any_take 0 ?_ (by rfl) (by kernel_rfl) (fun _ _ _ _ _ hx => hx.elim) (.inl ⟨by rfl, ?_⟩) (by exact bel_of) ?_; rotate_left; (intro X hX; obtain ⟨r1, r2⟩ := Below.rules hX; clear hX; go_simp; rfl); simp only [List.getElem_toArray, List.getElem_cons_succ, List.getElem_cons_zero, Act.put, List.setIfInBounds_toArray, List.set_cons_succ, List.set_cons_zero])
                    have d0z : Below Wqx.heap.size Wqx Wqx.drew := by exact bel_of
                    (refine any_take 1 ?_ (by rfl) (by kernel_rfl) (fun _ _ _ _ _ hx => hx.elim) (.inl ⟨by rfl, ?_⟩) (by exact bel_of) ?_; rotate_left; (intro X hX; obtain ⟨r1, r2⟩ := Below.rules hX; clear hX; go_simp; rfl); simp only [List.getElem_toArray, List.getElem_cons_succ, List.getElem_cons_zero, Act.put, List.setIfInBounds_toArray, List.set_cons_succ, List.set_cons_zero])
                    (refine any_take 2 ?_ (by rfl) (by kernel_rfl) (fun _ _ _ _ _ hx => hx.elim) (.inl ⟨by rfl, ?_⟩) (by exact bel_of) ?_; rotate_left; (intro X hX; obtain ⟨r1, r2⟩ := Below.rules hX; clear hX; go_simp; rfl); simp only [List.getElem_toArray, List.getElem_cons_succ, List.getElem_cons_zero, Act.put, List.setIfInBounds_toArray, List.set_cons_succ, List.set_cons_zero])
                    (refine any_take 3 ?_ (by rfl) (by kernel_rfl) (fun _ _ _ _ _ hx => hx.elim) (.inl ⟨by rfl, ?_⟩) (by exact bel_of) ?_; rotate_left; (intro X hX; obtain ⟨r1, r2⟩ := Below.rules hX; clear hX; go_simp; rfl); simp only [List.getElem_toArray, List.getElem_cons_succ, List.getElem_cons_zero, Act.put, List.setIfInBounds_toArray, List.set_cons_succ, List.set_cons_zero])
                    (refine any_take 4 ?_ (by rfl) (by kernel_rfl) (fun _ _ _ _ _ hx => hx.elim) (.inl ⟨by rfl, ?_⟩) (by exact bel_of) ?_; rotate_left; (intro X hX; obtain ⟨r1, r2⟩ := Below.rules hX; clear hX; go_simp; rfl); simp only [List.getElem_toArray, List.getElem_cons_succ, List.getElem_cons_zero, Act.put, List.setIfInBounds_toArray, List.set_cons_succ, List.set_cons_zero])
                    (refine any_take 5 ?_ (by rfl) (by kernel_rfl) (fun _ _ _ _ _ hx => hx.elim) (.inl ⟨by rfl, ?_⟩) (by exact bel_of) ?_; rotate_left; (intro X hX; obtain ⟨r1, r2⟩ := Below.rules hX; clear hX; go_simp; rfl); simp only [List.getElem_toArray, List.getElem_cons_succ, List.getElem_cons_zero, Act.put, List.setIfInBounds_toArray, List.set_cons_succ, List.set_cons_zero])
                    (refine any_take 6 ?_ (by rfl) (by kernel_rfl) (fun _ _ _ _ _ hx => hx.elim) (.inl ⟨by rfl, ?_⟩) (by exact bel_of) ?_; rotate_left; (intro X hX; obtain ⟨r1, r2⟩ := Below.rules hX; clear hX; go_simp; rfl); simp only [List.getElem_toArray, List.getElem_cons_succ, List.getElem_cons_zero, Act.put, List.setIfInBounds_toArray, List.set_cons_succ, List.set_cons_zero])
                    (refine any_take 7 ?_ (by rfl) (by kernel_rfl) (fun _ _ _ _ _ hx => hx.elim) (.inl ⟨by rfl, ?_⟩) (by exact bel_of) ?_; rotate_left; (intro X hX; obtain ⟨r1, r2⟩ := Below.rules hX; clear hX; go_simp; rfl); simp only [List.getElem_toArray, List.getElem_cons_succ, List.getElem_cons_zero, Act.put, List.setIfInBounds_toArray, List.set_cons_succ, List.set_cons_zero])
                    (refine any_take 8 ?_ (by rfl) (by kernel_rfl) (fun _ _ _ _ _ hx => hx.elim) (.inl ⟨by rfl, ?_⟩) (by exact bel_of) ?_; rotate_left; (intro X hX; obtain ⟨r1, r2⟩ := Below.rules hX; clear hX; go_simp; rfl); simp only [List.getElem_toArray, List.getElem_cons_succ, List.getElem_cons_zero, Act.put, List.setIfInBounds_toArray, List.set_cons_succ, List.set_cons_zero])
                    (refine any_take 9 ?_ (by rfl) (by kernel_rfl) (fun _ _ _ _ _ hx => hx.elim) (.inl ⟨by rfl, ?_⟩) (by exact bel_of) ?_; rotate_left; (intro X hX; obtain ⟨r1, r2⟩ := Below.rules hX; clear hX; go_simp; rfl); simp only [List.getElem_toArray, List.getElem_cons_succ, List.getElem_cons_zero, Act.put, List.setIfInBounds_toArray, List.set_cons_succ, List.set_cons_zero])
                    (refine any_take 10 ?_ (by rfl) (by kernel_rfl) (fun _ _ _ _ _ hx => hx.elim) (.inl ⟨by rfl, ?_⟩) (by exact bel_of) ?_; rotate_left; (intro X hX; obtain ⟨r1, r2⟩ := Below.rules hX; clear hX; go_simp; rfl); simp only [List.getElem_toArray, List.getElem_cons_succ, List.getElem_cons_zero, Act.put, List.setIfInBounds_toArray, List.set_cons_succ, List.set_cons_zero])
                    (refine any_take 11 ?_ (by rfl) (by kernel_rfl) (fun _ _ _ _ _ hx => hx.elim) (.inl ⟨by rfl, ?_⟩) (by exact bel_of) ?_; rotate_left; (intro X hX; obtain ⟨r1, r2⟩ := Below.rules hX; clear hX; go_simp; rfl); simp only [List.getElem_toArray, List.getElem_cons_succ, List.getElem_cons_zero, Act.put, List.setIfInBounds_toArray, List.set_cons_succ, List.set_cons_zero])
                    (refine any_take 12 ?_ (by rfl) (by kernel_rfl) (fun _ _ _ _ _ hx => hx.elim) (.inl ⟨by rfl, ?_⟩) (by exact bel_of) ?_; rotate_left; (intro X hX; obtain ⟨r1, r2⟩ := Below.rules hX; clear hX; go_simp; rfl); simp only [List.getElem_toArray, List.getElem_cons_succ, List.getElem_cons_zero, Act.put, List.setIfInBounds_toArray, List.set_cons_succ, List.set_cons_zero])
                    (refine any_take 13 ?_ (by rfl) (by kernel_rfl) (fun _ _ _ _ _ hx => hx.elim) (.inl ⟨by rfl, ?_⟩) (by exact bel_of) ?_; rotate_left; (intro X hX; obtain ⟨r1, r2⟩ := Below.rules hX; clear hX; go_simp; rfl); simp only [List.getElem_toArray, List.getElem_cons_succ, List.getElem_cons_zero, Act.put, List.setIfInBounds_toArray, List.set_cons_succ, List.set_cons_zero])
                    (refine any_take 14 ?_ (by rfl) (by kernel_rfl) (fun _ _ _ _ _ hx => hx.elim) (.inl ⟨by rfl, ?_⟩) (by exact bel_of) ?_; rotate_left; (intro X hX; obtain ⟨r1, r2⟩ := Below.rules hX; clear hX; go_simp; rfl); simp only [List.getElem_toArray, List.getElem_cons_succ, List.getElem_cons_zero, Act.put, List.setIfInBounds_toArray, List.set_cons_succ, List.set_cons_zero])
                    (refine any_take 15 ?_ (by rfl) (by kernel_rfl) (fun _ _ _ _ _ hx => hx.elim) (.inl ⟨by rfl, ?_⟩) (by exact bel_of) ?_; rotate_left; (intro X hX; obtain ⟨r1, r2⟩ := Below.rules hX; clear hX; go_simp; rfl); simp only [List.getElem_toArray, List.getElem_cons_succ, List.getElem_cons_zero, Act.put, List.setIfInBounds_toArray, List.set_cons_succ, List.set_cons_zero])
                    (refine any_take 16 ?_ (by rfl) (by kernel_rfl) (fun _ _ _ _ _ hx => hx.elim) (.inl ⟨by rfl, ?_⟩) (by exact bel_of) ?_; rotate_left; (intro X hX; obtain ⟨r1, r2⟩ := Below.rules hX; clear hX; go_simp; rfl); simp only [List.getElem_toArray, List.getElem_cons_succ, List.getElem_cons_zero, Act.put, List.setIfInBounds_toArray, List.set_cons_succ, List.set_cons_zero])
                    (refine any_take 17 ?_ (by rfl) (by kernel_rfl) (fun _ _ _ _ _ hx => hx.elim) (.inl ⟨by rfl, ?_⟩) (by exact bel_of) ?_; rotate_left; (intro X hX; obtain ⟨r1, r2⟩ := Below.rules hX; clear hX; go_simp; rfl); simp only [List.getElem_toArray, List.getElem_cons_succ, List.getElem_cons_zero, Act.put, List.setIfInBounds_toArray, List.set_cons_succ, List.set_cons_zero])
                    (refine any_take 18 ?_ (by rfl) (by kernel_rfl) (fun _ _ _ _ _ hx => hx.elim) (.inl ⟨by rfl, ?_⟩) (by exact bel_of) ?_; rotate_left; (intro X hX; obtain ⟨r1, r2⟩ := Below.rules hX; clear hX; go_simp; rfl); simp only [List.getElem_toArray, List.getElem_cons_succ, List.getElem_cons_zero, Act.put, List.setIfInBounds_toArray, List.set_cons_succ, List.set_cons_zero])
                    (refine any_take 19 ?_ (by rfl) (by kernel_rfl) (fun _ _ _ _ _ hx => hx.elim) (.inl ⟨by rfl, ?_⟩) (by exact bel_of) ?_; rotate_left; (intro X hX; obtain ⟨r1, r2⟩ := Below.rules hX; clear hX; go_simp; rfl); simp only [List.getElem_toArray, List.getElem_cons_succ, List.getElem_cons_zero, Act.put, List.setIfInBounds_toArray, List.set_cons_succ, List.set_cons_zero])
                    refine any_done (by kernel_rfl) (NoPanic.normal ?_)
                    clear lqx qxc0 qxc1
                    have hb := d0z
                    replace hC : Below n0 w Wqx.drew := hC.trans (hb.mono (by have := hC.size; omega))
                    replace bx := bx.below hb bx.lt
                    replace cx := cx.below hb cx.lt
                    replace hS := (RP.below hS hb).more hb.size
                    replace hR := (RS.below hR hb).more hb.size
                    replace hown := own_below hown hb
                    replace hv := (RK.below hv hb).more hb.size
                    replace tx := tx.below hb tx.lt
                    replace hbw := hbw.trans (hb.mono hbw.size)
                    replace qx := qx.below hb qx.lt
                    clear hb
                    clear e0 e1 f0 f1
                    go_wp2_with fail
                    go_roundw
                    case rel => exact ⟨i + 1, by omega, by go_num, by rw [HV.out], by rw [HV.out], hbw⟩
                    case measure => simp [intOf]; omega
                  have b2' : decide (t1 ≤ u1) = true := decide_eq_true a2
                  have hg0 : good y ⟨t1, t2⟩ (h1 + (i : Int)) = true := hgd.trans (by rw [b1, b2', Bool.and_true])
                  have hvv : scan y ⟨t1, t2⟩ h1 (i + 1) = ⟨if o1 < 0 then h1 + (i : Int) else o1, h1 + (i : Int)⟩ := by rw [HSN.out, scanS_yes hg0]
                  clear hgd hg0 a1 a2
                  as_aux_lemma =>
                    by_cases a3 : o1 < 0
                    case neg =>
                      have b3' : decide (o1 < 0) = false := decide_eq_false a3
                      rw [if_neg a3] at hvv
                      have HV := Lib.hid hvv
                      clear hvv a3
                      refine wp_region_noPanic (plain_any [0, 1, 2, 3, 4, 5, 6, 7, 8, 9, 10, 11, 12, 13, 14, 15, 16, 17, 18, 19] (Below Wqx.heap.size Wqx) mixed ?_)
                      (refine any_take 0 ?_ (by rfl) (by kernel_rfl) (fun _ _ _ _ _ hx => hx.elim) (.inl ⟨by rfl, ?_⟩) (by exact bel_of) ?_; rotate_left; (intro X hX; obtain ⟨r1, r2⟩ := Below.rules hX; clear hX; go_simp; rfl); simp only [List.getElem_toArray, List.getElem_cons_succ, List.getElem_cons_zero, Act.put, List.setIfInBounds_toArray, List.set_cons_succ, List.set_cons_zero])
                      have d0z : Below Wqx.heap.size Wqx Wqx.drew := by exact bel_of
                      (refine any_take 1 ?_ (by rfl) (by kernel_rfl) (fun _ _ _ _ _ hx => hx.elim) (.inl ⟨by rfl, ?_⟩) (by exact bel_of) ?_; rotate_left; (intro X hX; obtain ⟨r1, r2⟩ := Below.rules hX; clear hX; go_simp; rfl); simp only [List.getElem_toArray, List.getElem_cons_succ, List.getElem_cons_zero, Act.put, List.setIfInBounds_toArray, List.set_cons_succ, List.set_cons_zero])
                      (refine any_take 2 ?_ (by rfl) (by kernel_rfl) (fun _ _ _ _ _ hx => hx.elim) (.inl ⟨by rfl, ?_⟩) (by exact bel_of) ?_; rotate_left; (intro X hX; obtain ⟨r1, r2⟩ := Below.rules hX; clear hX; go_simp; rfl); simp only [List.getElem_toArray, List.getElem_cons_succ, List.getElem_cons_zero, Act.put, List.setIfInBounds_toArray, List.set_cons_succ, List.set_cons_zero])
                      (refine any_take 3 ?_ (by rfl) (by kernel_rfl) (fun _ _ _ _ _ hx => hx.elim) (.inl ⟨by rfl, ?_⟩) (by exact bel_of) ?_; rotate_left; (intro X hX; obtain ⟨r1, r2⟩ := Below.rules hX; clear hX; go_simp; rfl); simp only [List.getElem_toArray, List.getElem_cons_succ, List.getElem_cons_zero, Act.put, List.setIfInBounds_toArray, List.set_cons_succ, List.set_cons_zero])
                      (refine any_take 4 ?_ (by rfl) (by kernel_rfl) (fun _ _ _ _ _ hx => hx.elim) (.inl ⟨by rfl, ?_⟩) (by exact bel_of) ?_; rotate_left; (intro X hX; obtain ⟨r1, r2⟩ := Below.rules hX; clear hX; go_simp; rfl); simp only [List.getElem_toArray, List.getElem_cons_succ, List.getElem_cons_zero, Act.put, List.setIfInBounds_toArray, List.set_cons_succ, List.set_cons_zero])
                      (refine any_take 5 ?_ (by rfl) (by kernel_rfl) (fun _ _ _ _ _ hx => hx.elim) (.inl ⟨by rfl, ?_⟩) (by exact bel_of) ?_; rotate_left; (intro X hX; obtain ⟨r1, r2⟩ := Below.rules hX; clear hX; go_simp; rfl); simp only [List.getElem_toArray, List.getElem_cons_succ, List.getElem_cons_zero, Act.put, List.setIfInBounds_toArray, List.set_cons_succ, List.set_cons_zero])
                      (refine any_take 6 ?_ (by rfl) (by kernel_rfl) (fun _ _ _ _ _ hx => hx.elim) (.inl ⟨by rfl, ?_⟩) (by exact bel_of) ?_; rotate_left; (intro X hX; obtain ⟨r1, r2⟩ := Below.rules hX; clear hX; go_simp; rfl); simp only [List.getElem_toArray, List.getElem_cons_succ, List.getElem_cons_zero, Act.put, List.setIfInBounds_toArray, List.set_cons_succ, List.set_cons_zero])
                      (refine any_take 7 ?_ (by rfl) (by kernel_rfl) (fun _ _ _ _ _ hx => hx.elim) (.inl ⟨by rfl, ?_⟩) (by exact bel_of) ?_; rotate_left; (intro X hX; obtain ⟨r1, r2⟩ := Below.rules hX; clear hX; go_simp; rfl); simp only [List.getElem_toArray, List.getElem_cons_succ, List.getElem_cons_zero, Act.put, List.setIfInBounds_toArray, List.set_cons_succ, List.set_cons_zero])
                      (refine any_take 8 ?_ (by rfl) (by kernel_rfl) (fun _ _ _ _ _ hx => hx.elim) (.inl ⟨by rfl, ?_⟩) (by exact bel_of) ?_; rotate_left; (intro X hX; obtain ⟨r1, r2⟩ := Below.rules hX; clear hX; go_simp; rfl); simp only [List.getElem_toArray, List.getElem_cons_succ, List.getElem_cons_zero, Act.put, List.setIfInBounds_toArray, List.set_cons_succ, List.set_cons_zero])
                      (refine any_take 9 ?_ (by rfl) (by kernel_rfl) (fun _ _ _ _ _ hx => hx.elim) (.inl ⟨by rfl, ?_⟩) (by exact bel_of) ?_; rotate_left; (intro X hX; obtain ⟨r1, r2⟩ := Below.rules hX; clear hX; go_simp; rfl); simp only [List.getElem_toArray, List.getElem_cons_succ, List.getElem_cons_zero, Act.put, List.setIfInBounds_toArray, List.set_cons_succ, List.set_cons_zero])
                      (refine any_take 10 ?_ (by rfl) (by kernel_rfl) (fun _ _ _ _ _ hx => hx.elim) (.inl ⟨by rfl, ?_⟩) (by exact bel_of) ?_; rotate_left; (intro X hX; obtain ⟨r1, r2⟩ := Below.rules hX; clear hX; go_simp; rfl); simp only [List.getElem_toArray, List.getElem_cons_succ, List.getElem_cons_zero, Act.put, List.setIfInBounds_toArray, List.set_cons_succ, List.set_cons_zero])
                      (refine any_take 11 ?_ (by rfl) (by kernel_rfl) (fun _ _ _ _ _ hx => hx.elim) (.inl ⟨by rfl, ?_⟩) (by exact bel_of) ?_; rotate_left; (intro X hX; obtain ⟨r1, r2⟩ := Below.rules hX; clear hX; go_simp; rfl); simp only [List.getElem_toArray, List.getElem_cons_succ, List.getElem_cons_zero, Act.put, List.setIfInBounds_toArray, List.set_cons_succ, List.set_cons_zero])
                      (refine any_take 12 ?_ (by rfl) (by kernel_rfl) (fun _ _ _ _ _ hx => hx.elim) (.inl ⟨by rfl, ?_⟩) (by exact bel_of) ?_; rotate_left; (intro X hX; obtain ⟨r1, r2⟩ := Below.rules hX; clear hX; go_simp; rfl); simp only [List.getElem_toArray, List.getElem_cons_succ, List.getElem_cons_zero, Act.put, List.setIfInBounds_toArray, List.set_cons_succ, List.set_cons_zero])
                      (refine any_take 13 ?_ (by rfl) (by kernel_rfl) (fun _ _ _ _ _ hx => hx.elim) (.inl ⟨by rfl, ?_⟩) (by exact bel_of) ?_; rotate_left; (intro X hX; obtain ⟨r1, r2⟩ := Below.rules hX; clear hX; go_simp; rfl); simp only [List.getElem_toArray, List.getElem_cons_succ, List.getElem_cons_zero, Act.put, List.setIfInBounds_toArray, List.set_cons_succ, List.set_cons_zero])
                      (refine any_take 14 ?_ (by rfl) (by kernel_rfl) (fun _ _ _ _ _ hx => hx.elim) (.inl ⟨by rfl, ?_⟩) (by exact bel_of) ?_; rotate_left; (intro X hX; obtain ⟨r1, r2⟩ := Below.rules hX; clear hX; go_simp; rfl); simp only [List.getElem_toArray, List.getElem_cons_succ, List.getElem_cons_zero, Act.put, List.setIfInBounds_toArray, List.set_cons_succ, List.set_cons_zero])
                      (refine any_take 15 ?_ (by rfl) (by kernel_rfl) (fun _ _ _ _ _ hx => hx.elim) (.inl ⟨by rfl, ?_⟩) (by exact bel_of) ?_; rotate_left; (intro X hX; obtain ⟨r1, r2⟩ := Below.rules hX; clear hX; go_simp; rfl); simp only [List.getElem_toArray, List.getElem_cons_succ, List.getElem_cons_zero, Act.put, List.setIfInBounds_toArray, List.set_cons_succ, List.set_cons_zero])
                      (refine any_take 16 ?_ (by rfl) (by kernel_rfl) (fun _ _ _ _ _ hx => hx.elim) (.inl ⟨by rfl, ?_⟩) (by exact bel_of) ?_; rotate_left; (intro X hX; obtain ⟨r1, r2⟩ := Below.rules hX; clear hX; go_simp; rfl); simp only [List.getElem_toArray, List.getElem_cons_succ, List.getElem_cons_zero, Act.put, List.setIfInBounds_toArray, List.set_cons_succ, List.set_cons_zero])
                      (refine any_take 17 ?_ (by rfl) (by kernel_rfl) (fun _ _ _ _ _ hx => hx.elim) (.inl ⟨by rfl, ?_⟩) (by exact bel_of) ?_; rotate_left; (intro X hX; obtain ⟨r1, r2⟩ := Below.rules hX; clear hX; go_simp; rfl); simp only [List.getElem_toArray, List.getElem_cons_succ, List.getElem_cons_zero, Act.put, List.setIfInBounds_toArray, List.set_cons_succ, List.set_cons_zero])
                      (refine any_take 18 ?_ (by rfl) (by kernel_rfl) (fun _ _ _ _ _ hx => hx.elim) (.inl ⟨by rfl, ?_⟩) (by exact bel_of) ?_; rotate_left; (intro X hX; obtain ⟨r1, r2⟩ := Below.rules hX; clear hX; go_simp; rfl); simp only [List.getElem_toArray, List.getElem_cons_succ, List.getElem_cons_zero, Act.put, List.setIfInBounds_toArray, List.set_cons_succ, List.set_cons_zero])
                      (refine any_take 19 ?_ (by rfl) (by kernel_rfl) (fun _ _ _ _ _ hx => hx.elim) (.inl ⟨by rfl, ?_⟩) (by exact bel_of) ?_; rotate_left; (intro X hX; obtain ⟨r1, r2⟩ := Below.rules hX; clear hX; go_simp; rfl); simp only [List.getElem_toArray, List.getElem_cons_succ, List.getElem_cons_zero, Act.put, List.setIfInBounds_toArray, List.set_cons_succ, List.set_cons_zero])
                      refine any_done (by kernel_rfl) (NoPanic.normal ?_)
                      clear lqx qxc0 qxc1
                      have hb := d0z
                      replace hC : Below n0 w Wqx.drew := hC.trans (hb.mono (by have := hC.size; omega))
                      replace bx := bx.below hb bx.lt
                      replace cx := cx.below hb cx.lt
                      replace hS := (RP.below hS hb).more hb.size
                      replace hR := (RS.below hR hb).more hb.size
                      replace hown := own_below hown hb
                      replace hv := (RK.below hv hb).more hb.size
                      replace tx := tx.below hb tx.lt
                      replace hbw := hbw.trans (hb.mono hbw.size)
                      replace qx := qx.below hb qx.lt
                      clear hb
                      clear e0 e1 f0 f1
                      go_wp2_with fail
                      go_roundw
                      case rel => exact ⟨i + 1, by omega, by go_num, by rw [HV.out], by rw [HV.out], hbw⟩
                      case measure => simp [intOf]; omega
                    have b3' : decide (o1 < 0) = true := decide_eq_true a3
                    rw [if_pos a3] at hvv
                    have HV := Lib.hid hvv
                    clear hvv a3
                    refine wp_region_noPanic (plain_any [0, 1, 2, 3, 4, 5, 6, 7, 8, 9, 10, 11, 12, 13, 14, 15, 16, 17, 18, 19] (Below Wqx.heap.size Wqx) mixed ?_)
                    (refine any_take 0 ?_ (by rfl) (by kernel_rfl) (fun _ _ _ _ _ hx => hx.elim) (.inl ⟨by rfl, ?_⟩) (by exact bel_of) ?_; rotate_left; (intro X hX; obtain ⟨r1, r2⟩ := Below.rules hX; clear hX; go_simp; rfl); simp only [List.getElem_toArray, List.getElem_cons_succ, List.getElem_cons_zero, Act.put, List.setIfInBounds_toArray, List.set_cons_succ, List.set_cons_zero])
                    have d0z : Below Wqx.heap.size Wqx Wqx.drew := by exact bel_of
                    (refine any_take 1 ?_ (by rfl) (by kernel_rfl) (fun _ _ _ _ _ hx => hx.elim) (.inl ⟨by rfl, ?_⟩) (by exact bel_of) ?_; rotate_left; (intro X hX; obtain ⟨r1, r2⟩ := Below.rules hX; clear hX; go_simp; rfl); simp only [List.getElem_toArray, List.getElem_cons_succ, List.getElem_cons_zero, Act.put, List.setIfInBounds_toArray, List.set_cons_succ, List.set_cons_zero])
                    (refine any_take 2 ?_ (by rfl) (by kernel_rfl) (fun _ _ _ _ _ hx => hx.elim) (.inl ⟨by rfl, ?_⟩) (by exact bel_of) ?_; rotate_left; (intro X hX; obtain ⟨r1, r2⟩ := Below.rules hX; clear hX; go_simp; rfl); simp only [List.getElem_toArray, List.getElem_cons_succ, List.getElem_cons_zero, Act.put, List.setIfInBounds_toArray, List.set_cons_succ, List.set_cons_zero])
                    (refine any_take 3 ?_ (by rfl) (by kernel_rfl) (fun _ _ _ _ _ hx => hx.elim) (.inl ⟨by rfl, ?_⟩) (by exact bel_of) ?_; rotate_left; (intro X hX; obtain ⟨r1, r2⟩ := Below.rules hX; clear hX; go_simp; rfl); simp only [List.getElem_toArray, List.getElem_cons_succ, List.getElem_cons_zero, Act.put, List.setIfInBounds_toArray, List.set_cons_succ, List.set_cons_zero])
                    (refine any_take 4 ?_ (by rfl) (by kernel_rfl) (fun _ _ _ _ _ hx => hx.elim) (.inl ⟨by rfl, ?_⟩) (by exact bel_of) ?_; rotate_left; (intro X hX; obtain ⟨r1, r2⟩ := Below.rules hX; clear hX; go_simp; rfl); simp only [List.getElem_toArray, List.getElem_cons_succ, List.getElem_cons_zero, Act.put, List.setIfInBounds_toArray, List.set_cons_succ, List.set_cons_zero])
                    (refine any_take 5 ?_ (by rfl) (by kernel_rfl) (fun _ _ _ _ _ hx => hx.elim) (.inl ⟨by rfl, ?_⟩) (by exact bel_of) ?_; rotate_left; (intro X hX; obtain ⟨r1, r2⟩ := Below.rules hX; clear hX; go_simp; rfl); simp only [List.getElem_toArray, List.getElem_cons_succ, List.getElem_cons_zero, Act.put, List.setIfInBounds_toArray, List.set_cons_succ, List.set_cons_zero])
                    (refine any_take 6 ?_ (by rfl) (by kernel_rfl) (fun _ _ _ _ _ hx => hx.elim) (.inl ⟨by rfl, ?_⟩) (by exact bel_of) ?_; rotate_left; (intro X hX; obtain ⟨r1, r2⟩ := Below.rules hX; clear hX; go_simp; rfl); simp only [List.getElem_toArray, List.getElem_cons_succ, List.getElem_cons_zero, Act.put, List.setIfInBounds_toArray, List.set_cons_succ, List.set_cons_zero])
                    (refine any_take 7 ?_ (by rfl) (by kernel_rfl) (fun _ _ _ _ _ hx => hx.elim) (.inl ⟨by rfl, ?_⟩) (by exact bel_of) ?_; rotate_left; (intro X hX; obtain ⟨r1, r2⟩ := Below.rules hX; clear hX; go_simp; rfl); simp only [List.getElem_toArray, List.getElem_cons_succ, List.getElem_cons_zero, Act.put, List.setIfInBounds_toArray, List.set_cons_succ, List.set_cons_zero])
                    (refine any_take 8 ?_ (by rfl) (by kernel_rfl) (fun _ _ _ _ _ hx => hx.elim) (.inl ⟨by rfl, ?_⟩) (by exact bel_of) ?_; rotate_left; (intro X hX; obtain ⟨r1, r2⟩ := Below.rules hX; clear hX; go_simp; rfl); simp only [List.getElem_toArray, List.getElem_cons_succ, List.getElem_cons_zero, Act.put, List.setIfInBounds_toArray, List.set_cons_succ, List.set_cons_zero])
                    (refine any_take 9 ?_ (by rfl) (by kernel_rfl) (fun _ _ _ _ _ hx => hx.elim) (.inl ⟨by rfl, ?_⟩) (by exact bel_of) ?_; rotate_left; (intro X hX; obtain ⟨r1, r2⟩ := Below.rules hX; clear hX; go_simp; rfl); simp only [List.getElem_toArray, List.getElem_cons_succ, List.getElem_cons_zero, Act.put, List.setIfInBounds_toArray, List.set_cons_succ, List.set_cons_zero])
                    (refine any_take 10 ?_ (by rfl) (by kernel_rfl) (fun _ _ _ _ _ hx => hx.elim) (.inl ⟨by rfl, ?_⟩) (by exact bel_of) ?_; rotate_left; (intro X hX; obtain ⟨r1, r2⟩ := Below.rules hX; clear hX; go_simp; rfl); simp only [List.getElem_toArray, List.getElem_cons_succ, List.getElem_cons_zero, Act.put, List.setIfInBounds_toArray, List.set_cons_succ, List.set_cons_zero])
                    (refine any_take 11 ?_ (by rfl) (by kernel_rfl) (fun _ _ _ _ _ hx => hx.elim) (.inl ⟨by rfl, ?_⟩) (by exact bel_of) ?_; rotate_left; (intro X hX; obtain ⟨r1, r2⟩ := Below.rules hX; clear hX; go_simp; rfl); simp only [List.getElem_toArray, List.getElem_cons_succ, List.getElem_cons_zero, Act.put, List.setIfInBounds_toArray, List.set_cons_succ, List.set_cons_zero])
                    (refine any_take 12 ?_ (by rfl) (by kernel_rfl) (fun _ _ _ _ _ hx => hx.elim) (.inl ⟨by rfl, ?_⟩) (by exact bel_of) ?_; rotate_left; (intro X hX; obtain ⟨r1, r2⟩ := Below.rules hX; clear hX; go_simp; rfl); simp only [List.getElem_toArray, List.getElem_cons_succ, List.getElem_cons_zero, Act.put, List.setIfInBounds_toArray, List.set_cons_succ, List.set_cons_zero])
                    (refine any_take 13 ?_ (by rfl) (by kernel_rfl) (fun _ _ _ _ _ hx => hx.elim) (.inl ⟨by rfl, ?_⟩) (by exact bel_of) ?_; rotate_left; (intro X hX; obtain ⟨r1, r2⟩ := Below.rules hX; clear hX; go_simp; rfl); simp only [List.getElem_toArray, List.getElem_cons_succ, List.getElem_cons_zero, Act.put, List.setIfInBounds_toArray, List.set_cons_succ, List.set_cons_zero])
                    (refine any_take 14 ?_ (by rfl) (by kernel_rfl) (fun _ _ _ _ _ hx => hx.elim) (.inl ⟨by rfl, ?_⟩) (by exact bel_of) ?_; rotate_left; (intro X hX; obtain ⟨r1, r2⟩ := Below.rules hX; clear hX; go_simp; rfl); simp only [List.getElem_toArray, List.getElem_cons_succ, List.getElem_cons_zero, Act.put, List.setIfInBounds_toArray, List.set_cons_succ, List.set_cons_zero])
                    (refine any_take 15 ?_ (by rfl) (by kernel_rfl) (fun _ _ _ _ _ hx => hx.elim) (.inl ⟨by rfl, ?_⟩) (by exact bel_of) ?_; rotate_left; (intro X hX; obtain ⟨r1, r2⟩ := Below.rules hX; clear hX; go_simp; rfl); simp only [List.getElem_toArray, List.getElem_cons_succ, List.getElem_cons_zero, Act.put, List.setIfInBounds_toArray, List.set_cons_succ, List.set_cons_zero])
                    (refine any_take 16 ?_ (by rfl) (by kernel_rfl) (fun _ _ _ _ _ hx => hx.elim) (.inl ⟨by rfl, ?_⟩) (by exact bel_of) ?_; rotate_left; (intro X hX; obtain ⟨r1, r2⟩ := Below.rules hX; clear hX; go_simp; rfl); simp only [List.getElem_toArray, List.getElem_cons_succ, List.getElem_cons_zero, Act.put, List.setIfInBounds_toArray, List.set_cons_succ, List.set_cons_zero])
                    (refine any_take 17 ?_ (by rfl) (by kernel_rfl) (fun _ _ _ _ _ hx => hx.elim) (.inl ⟨by rfl, ?_⟩) (by exact bel_of) ?_; rotate_left; (intro X hX; obtain ⟨r1, r2⟩ := Below.rules hX; clear hX; go_simp; rfl); simp only [List.getElem_toArray, List.getElem_cons_succ, List.getElem_cons_zero, Act.put, List.setIfInBounds_toArray, List.set_cons_succ, List.set_cons_zero])
                    (refine any_take 18 ?_ (by rfl) (by kernel_rfl) (fun _ _ _ _ _ hx => hx.elim) (.inl ⟨by rfl, ?_⟩) (by exact bel_of) ?_; rotate_left; (intro X hX; obtain ⟨r1, r2⟩ := Below.rules hX; clear hX; go_simp; rfl); simp only [List.getElem_toArray, List.getElem_cons_succ, List.getElem_cons_zero, Act.put, List.setIfInBounds_toArray, List.set_cons_succ, List.set_cons_zero])
                    (refine any_take 19 ?_ (by rfl) (by kernel_rfl) (fun _ _ _ _ _ hx => hx.elim) (.inl ⟨by rfl, ?_⟩) (by exact bel_of) ?_; rotate_left; (intro X hX; obtain ⟨r1, r2⟩ := Below.rules hX; clear hX; go_simp; rfl); simp only [List.getElem_toArray, List.getElem_cons_succ, List.getElem_cons_zero, Act.put, List.setIfInBounds_toArray, List.set_cons_succ, List.set_cons_zero])
                    refine any_done (by kernel_rfl) (NoPanic.normal ?_)
                    clear lqx qxc0 qxc1
                    have hb := d0z
                    replace hC : Below n0 w Wqx.drew := hC.trans (hb.mono (by have := hC.size; omega))
                    replace bx := bx.below hb bx.lt
                    replace cx := cx.below hb cx.lt
                    replace hS := (RP.below hS hb).more hb.size
                    replace hR := (RS.below hR hb).more hb.size
                    replace hown := own_below hown hb
                    replace hv := (RK.below hv hb).more hb.size
                    replace tx := tx.below hb tx.lt
                    replace hbw := hbw.trans (hb.mono hbw.size)
                    replace qx := qx.below hb qx.lt
                    clear hb
                    clear e0 e1 f0 f1
                    go_wp2_with fail
                    go_roundw
                    case rel => exact ⟨i + 1, by omega, by go_num, by rw [HV.out], by rw [HV.out], hbw⟩
                    case measure => simp [intOf]; omega
end Go.Proofs.Ytkibdciomheekaa

set_option linter.all false
namespace Go.Proofs.Ytkibdciomheekaa
open Go.RowKit Hp

set_option maxHeartbeats 8000000 in
set_option maxRecDepth 100000 in
theorem hadXR_any (bars : List Rg) (ss : List Stp) (b : Int) (ks : List Int) (m : Rg) (vb vs vk : Value) (w : World) (hf : Fit bars ss) (hkl : ks.length ≤ 1000) (hB : RR w w.heap.size vb bars) (hS : RP w w.heap.size vs ss) (hR : RI w w.heap.size vk ks) :
    Calls Try.prog 29 #[.agg #[vb, vs], .agg #[.int .i64 b, vk], rV m] w (HadXPost bars ss b ks m w) := by
  have HF := Lib.hid hf
  have hfb := hf.b
  have hfs := hf.s
  clear hf
  obtain ⟨Ab, cb, rfl⟩ := hB.slice
  obtain ⟨As, cs, rfl⟩ := hS.slice
  obtain ⟨Ak, ck, rfl⟩ : ∃ A c, vk = .slice A ks.length c := by
    obtain ⟨A, c, b, o, hv, _⟩ := hR
    exact ⟨A, c, hv⟩
  obtain ⟨mlo, mhi⟩ := m
  unfold rV
  obtain ⟨n0, hn0⟩ : ∃ n, w.heap.size = n := ⟨_, rfl⟩
  have hC : Below n0 w w := Below.refl _ _
  go_enter Try.func29, Try.ntmps29
  go_upto_region 1 with fail
  have hqbx : n0 ≤ n0 := by have := hC.size; omega
  have bx : BK (w.alloc (.cells #[.slice Ab bars.length cb, .slice As ss.length cs] 25)) (n0) #[.slice Ab bars.length cb, .slice As ss.length cs] 25 := BK.new' _ _ _ (n0) hn0
  have hsbx : (w.alloc (.cells #[.slice Ab bars.length cb, .slice As ss.length cs] 25)).heap.size = n0 + 1 := by simp [hn0]
  replace hC : Below n0 w (w.alloc (.cells #[.slice Ab bars.length cb, .slice As ss.length cs] 25)) := Below.alloc hC (by have := hC.size; omega) _
  replace hB := (RS.below hB (w' := (w.alloc (.cells #[.slice Ab bars.length cb, .slice As ss.length cs] 25))) (Below.alloc (Below.refl _ _) (Nat.le_refl _) _)).more (B' := (w.alloc (.cells #[.slice Ab bars.length cb, .slice As ss.length cs] 25)).heap.size) (by simp)
  replace hS := (RP.below hS (w' := (w.alloc (.cells #[.slice Ab bars.length cb, .slice As ss.length cs] 25))) (Below.alloc (Below.refl _ _) (Nat.le_refl _) _)).more (B' := (w.alloc (.cells #[.slice Ab bars.length cb, .slice As ss.length cs] 25)).heap.size) (by simp)
  replace hR := (RS.below hR (w' := (w.alloc (.cells #[.slice Ab bars.length cb, .slice As ss.length cs] 25))) (Below.alloc (Below.refl _ _) (Nat.le_refl _) _)).more (B' := (w.alloc (.cells #[.slice Ab bars.length cb, .slice As ss.length cs] 25)).heap.size) (by simp)
  generalize (w.alloc (.cells #[.slice Ab bars.length cb, .slice As ss.length cs] 25)) = Wbx at *
  have hqcx : n0 ≤ n0 + 1 := by have := hC.size; omega
  have cx : BK (Wbx.alloc (.cells #[.int .i64 b, .slice Ak ks.length ck] 42)) (n0 + 1) #[.int .i64 b, .slice Ak ks.length ck] 42 := BK.new' _ _ _ (n0 + 1) hsbx
  have hscx : (Wbx.alloc (.cells #[.int .i64 b, .slice Ak ks.length ck] 42)).heap.size = n0 + 1 + 1 := by simp [hsbx]
  replace hC : Below n0 w (Wbx.alloc (.cells #[.int .i64 b, .slice Ak ks.length ck] 42)) := Below.alloc hC (by have := hC.size; omega) _
  replace hB := (RS.below hB (w' := (Wbx.alloc (.cells #[.int .i64 b, .slice Ak ks.length ck] 42))) (Below.alloc (Below.refl _ _) (Nat.le_refl _) _)).more (B' := (Wbx.alloc (.cells #[.int .i64 b, .slice Ak ks.length ck] 42)).heap.size) (by simp)
  replace hS := (RP.below hS (w' := (Wbx.alloc (.cells #[.int .i64 b, .slice Ak ks.length ck] 42))) (Below.alloc (Below.refl _ _) (Nat.le_refl _) _)).more (B' := (Wbx.alloc (.cells #[.int .i64 b, .slice Ak ks.length ck] 42)).heap.size) (by simp)
  replace hR := (RS.below hR (w' := (Wbx.alloc (.cells #[.int .i64 b, .slice Ak ks.length ck] 42))) (Below.alloc (Below.refl _ _) (Nat.le_refl _) _)).more (B' := (Wbx.alloc (.cells #[.int .i64 b, .slice Ak ks.length ck] 42)).heap.size) (by simp)
  replace bx := bx.alloc (.cells #[.int .i64 b, .slice Ak ks.length ck] 42)
  generalize (Wbx.alloc (.cells #[.int .i64 b, .slice Ak ks.length ck] 42)) = Wcx at *
  clear hsbx
  have hqmx : n0 ≤ n0 + 1 + 1 := by have := hC.size; omega
  have mx : BK (Wcx.alloc (.cells #[.int .i64 mlo, .int .i64 mhi] 33)) (n0 + 1 + 1) #[.int .i64 mlo, .int .i64 mhi] 33 := BK.new' _ _ _ (n0 + 1 + 1) hscx
  have hsmx : (Wcx.alloc (.cells #[.int .i64 mlo, .int .i64 mhi] 33)).heap.size = n0 + 1 + 1 + 1 := by simp [hscx]
  replace hC : Below n0 w (Wcx.alloc (.cells #[.int .i64 mlo, .int .i64 mhi] 33)) := Below.alloc hC (by have := hC.size; omega) _
  replace hB := (RS.below hB (w' := (Wcx.alloc (.cells #[.int .i64 mlo, .int .i64 mhi] 33))) (Below.alloc (Below.refl _ _) (Nat.le_refl _) _)).more (B' := (Wcx.alloc (.cells #[.int .i64 mlo, .int .i64 mhi] 33)).heap.size) (by simp)
  replace hS := (RP.below hS (w' := (Wcx.alloc (.cells #[.int .i64 mlo, .int .i64 mhi] 33))) (Below.alloc (Below.refl _ _) (Nat.le_refl _) _)).more (B' := (Wcx.alloc (.cells #[.int .i64 mlo, .int .i64 mhi] 33)).heap.size) (by simp)
  replace hR := (RS.below hR (w' := (Wcx.alloc (.cells #[.int .i64 mlo, .int .i64 mhi] 33))) (Below.alloc (Below.refl _ _) (Nat.le_refl _) _)).more (B' := (Wcx.alloc (.cells #[.int .i64 mlo, .int .i64 mhi] 33)).heap.size) (by simp)
  replace bx := bx.alloc (.cells #[.int .i64 mlo, .int .i64 mhi] 33)
  replace cx := cx.alloc (.cells #[.int .i64 mlo, .int .i64 mhi] 33)
  generalize (Wcx.alloc (.cells #[.int .i64 mlo, .int .i64 mhi] 33)) = Wmx at *
  clear hscx
  have lbx := bx.lt
  have bxc0 := bx.cell 0
  have bxc1 := bx.cell 1
  simp at bxc0 bxc1
  have lcx := cx.lt
  have cxc0 := cx.cell 0
  have cxc1 := cx.cell 1
  simp at cxc0 cxc1
  have lmx := mx.lt
  have mxc0 := mx.cell 0
  have mxc1 := mx.cell 1
  simp at mxc0 mxc1
  go_wp2_with fail
  clear lbx bxc0 bxc1
  clear lcx cxc0 cxc1
  clear lmx mxc0 mxc1
  clear hsmx
  refine (hadError_any bars ss b ks ⟨mlo, mhi⟩ _ _ _ _ HF.out hkl hB hS hR).mono ?_
  rintro e w1 ⟨rfl, hb⟩
  replace hC : Below n0 w w1 := hC.trans (hb.mono (by have := hC.size; omega))
  replace hB := (RS.below hB hb).more hb.size
  replace hS := (RP.below hS hb).more hb.size
  replace hR := (RS.below hR hb).more hb.size
  replace bx := bx.below hb bx.lt
  replace cx := cx.below hb cx.lt
  replace mx := mx.below hb mx.lt
  clear hb
  obtain ⟨e, he⟩ : ∃ e, hadE bars ss b ks ⟨mlo, mhi⟩ = e := ⟨_, rfl⟩
  rw [he]
  by_cases e0 : e = 0
  case neg =>
    have HE := Lib.hid he
    have E0 := Lib.hid e0
    have b1 : (e != 0) = true := by simp [e0]
    clear he e0
    have lbx := bx.lt
    have bxc0 := bx.cell 0
    have bxc1 := bx.cell 1
    simp at bxc0 bxc1
    have lcx := cx.lt
    have cxc0 := cx.cell 0
    have cxc1 := cx.cell 1
    simp at cxc0 cxc1
    have lmx := mx.lt
    have mxc0 := mx.cell 0
    have mxc1 := mx.cell 1
    simp at mxc0 mxc1
    go_wp2_with fail
    clear lbx bxc0 bxc1
    clear lcx cxc0 cxc1
    clear lmx mxc0 mxc1
    refine (hadError_any bars ss b ks ⟨mlo, mhi⟩ _ _ _ _ HF.out hkl hB hS hR).mono ?_
    rintro e w2 ⟨rfl, hb⟩
    replace hC : Below n0 w w2 := hC.trans (hb.mono (by have := hC.size; omega))
    replace hB := (RS.below hB hb).more hb.size
    replace hS := (RP.below hS hb).more hb.size
    replace hR := (RS.below hR hb).more hb.size
    replace bx := bx.below hb bx.lt
    replace cx := cx.below hb cx.lt
    replace mx := mx.below hb mx.lt
    clear hb
    rw [HE.out]
    go_wp2_with fail
    go_ret2
    exact HadXPost.no HE.out E0.out (by (try rw [hn0]); exact hC)
  subst e0
  have HE := Lib.hid he
  clear he
  have lbx := bx.lt
  have bxc0 := bx.cell 0
  have bxc1 := bx.cell 1
  simp at bxc0 bxc1
  have lcx := cx.lt
  have cxc0 := cx.cell 0
  have cxc1 := cx.cell 1
  simp at cxc0 cxc1
  have lmx := mx.lt
  have mxc0 := mx.cell 0
  have mxc1 := mx.cell 1
  simp at mxc0 mxc1
  go_wp2_with fail
  clear lbx bxc0 bxc1
  clear lcx cxc0 cxc1
  clear lmx mxc0 mxc1
  refine (hadF_any bars ss b ks ⟨mlo, mhi⟩ _ _ _ _ HF.out hkl hB hS hR HE.out).mono ?_
  rintro e w2 ⟨v, rfl, ho, hb⟩
  replace hC : Below n0 w w2 := hC.trans (hb.mono (by have := hC.size; omega))
  replace hB := (RS.below hB hb).more hb.size
  replace hS := (RP.below hS hb).more hb.size
  replace hR := (RS.below hR hb).more hb.size
  replace bx := bx.below hb bx.lt
  replace cx := cx.below hb cx.lt
  replace mx := mx.below hb mx.lt
  clear hb
  have HO := Lib.hid (RS.of_own ho)
  clear ho
  have hv := HO.out
  obtain ⟨A', cap', bb, off, rfl, hA, hc⟩ := hv
  clear hA hc
  go_wp2_with fail
  go_ret2
  exact HadXPost.yes HE.out HO.out (by (try rw [hn0]); exact hC)
end Go.Proofs.Ytkibdciomheekaa

set_option linter.all false
namespace Go.Proofs.Ytkibdciomheekaa
open Go.RowKit Hp

set_option maxHeartbeats 8000000 in
set_option maxRecDepth 100000 in
theorem heatHistories_any (bars : List Rg) (ss : List Stp) (vb vs : Value) (b : Int) (ks : List Int) (vk : Value) (lo hi : Int) (w : World) (hB : RR w w.heap.size vb bars) (hS : RP w w.heap.size vs ss) (hR : RI w w.heap.size vk ks) :
    Calls Try.prog 5 #[.agg #[vb, vs], .agg #[.int .i64 b, vk], .agg #[.int .i64 lo, .int .i64 hi]] w fun x w' => x = .returned (.bool true) ∧ Below w.heap.size w w' := by
  obtain ⟨Ab, cb, rfl⟩ := hB.slice
  obtain ⟨As, cs, rfl⟩ := hS.slice
  obtain ⟨Ar, cr, rfl⟩ := ri_slice hR
  obtain ⟨n0, hn0⟩ : ∃ n, w.heap.size = n := ⟨_, rfl⟩
  have hC : Below n0 w w := Below.refl _ _
  go_enter Try.func5, Try.ntmps5
  go_upto_region 1 with fail
  have hqbx : n0 ≤ n0 := by have := hC.size; omega
  have bx : BK (w.alloc (.cells #[.slice Ab bars.length cb, .slice As ss.length cs] 25)) (n0) #[.slice Ab bars.length cb, .slice As ss.length cs] 25 := BK.new' _ _ _ (n0) hn0
  have hsbx : (w.alloc (.cells #[.slice Ab bars.length cb, .slice As ss.length cs] 25)).heap.size = n0 + 1 := by simp [hn0]
  replace hC : Below n0 w (w.alloc (.cells #[.slice Ab bars.length cb, .slice As ss.length cs] 25)) := Below.alloc hC (by have := hC.size; omega) _
  replace hB := (RS.below hB (w' := (w.alloc (.cells #[.slice Ab bars.length cb, .slice As ss.length cs] 25))) (Below.alloc (Below.refl _ _) (Nat.le_refl _) _)).more (B' := (w.alloc (.cells #[.slice Ab bars.length cb, .slice As ss.length cs] 25)).heap.size) (by simp)
  replace hS := (RP.below hS (w' := (w.alloc (.cells #[.slice Ab bars.length cb, .slice As ss.length cs] 25))) (Below.alloc (Below.refl _ _) (Nat.le_refl _) _)).more (B' := (w.alloc (.cells #[.slice Ab bars.length cb, .slice As ss.length cs] 25)).heap.size) (by simp)
  replace hR := (RS.below hR (w' := (w.alloc (.cells #[.slice Ab bars.length cb, .slice As ss.length cs] 25))) (Below.alloc (Below.refl _ _) (Nat.le_refl _) _)).more (B' := (w.alloc (.cells #[.slice Ab bars.length cb, .slice As ss.length cs] 25)).heap.size) (by simp)
  generalize (w.alloc (.cells #[.slice Ab bars.length cb, .slice As ss.length cs] 25)) = Wbx at *
  have hqwx : n0 ≤ n0 + 1 := by have := hC.size; omega
  have wx : BK (Wbx.alloc (.cells #[.int .i64 b, .slice Ar ks.length cr] 42)) (n0 + 1) #[.int .i64 b, .slice Ar ks.length cr] 42 := BK.new' _ _ _ (n0 + 1) hsbx
  have hswx : (Wbx.alloc (.cells #[.int .i64 b, .slice Ar ks.length cr] 42)).heap.size = n0 + 1 + 1 := by simp [hsbx]
  replace hC : Below n0 w (Wbx.alloc (.cells #[.int .i64 b, .slice Ar ks.length cr] 42)) := Below.alloc hC (by have := hC.size; omega) _
  replace hB := (RS.below hB (w' := (Wbx.alloc (.cells #[.int .i64 b, .slice Ar ks.length cr] 42))) (Below.alloc (Below.refl _ _) (Nat.le_refl _) _)).more (B' := (Wbx.alloc (.cells #[.int .i64 b, .slice Ar ks.length cr] 42)).heap.size) (by simp)
  replace hS := (RP.below hS (w' := (Wbx.alloc (.cells #[.int .i64 b, .slice Ar ks.length cr] 42))) (Below.alloc (Below.refl _ _) (Nat.le_refl _) _)).more (B' := (Wbx.alloc (.cells #[.int .i64 b, .slice Ar ks.length cr] 42)).heap.size) (by simp)
  replace hR := (RS.below hR (w' := (Wbx.alloc (.cells #[.int .i64 b, .slice Ar ks.length cr] 42))) (Below.alloc (Below.refl _ _) (Nat.le_refl _) _)).more (B' := (Wbx.alloc (.cells #[.int .i64 b, .slice Ar ks.length cr] 42)).heap.size) (by simp)
  replace bx := bx.alloc (.cells #[.int .i64 b, .slice Ar ks.length cr] 42)
  generalize (Wbx.alloc (.cells #[.int .i64 b, .slice Ar ks.length cr] 42)) = Wwx at *
  clear hsbx
  have hqbz : n0 ≤ n0 + 1 + 1 := by have := hC.size; omega
  have bz : BK (Wwx.alloc (.cells #[.int .i64 lo, .int .i64 hi] 33)) (n0 + 1 + 1) #[.int .i64 lo, .int .i64 hi] 33 := BK.new' _ _ _ (n0 + 1 + 1) hswx
  have hsbz : (Wwx.alloc (.cells #[.int .i64 lo, .int .i64 hi] 33)).heap.size = n0 + 1 + 1 + 1 := by simp [hswx]
  replace hC : Below n0 w (Wwx.alloc (.cells #[.int .i64 lo, .int .i64 hi] 33)) := Below.alloc hC (by have := hC.size; omega) _
  replace hB := (RS.below hB (w' := (Wwx.alloc (.cells #[.int .i64 lo, .int .i64 hi] 33))) (Below.alloc (Below.refl _ _) (Nat.le_refl _) _)).more (B' := (Wwx.alloc (.cells #[.int .i64 lo, .int .i64 hi] 33)).heap.size) (by simp)
  replace hS := (RP.below hS (w' := (Wwx.alloc (.cells #[.int .i64 lo, .int .i64 hi] 33))) (Below.alloc (Below.refl _ _) (Nat.le_refl _) _)).more (B' := (Wwx.alloc (.cells #[.int .i64 lo, .int .i64 hi] 33)).heap.size) (by simp)
  replace hR := (RS.below hR (w' := (Wwx.alloc (.cells #[.int .i64 lo, .int .i64 hi] 33))) (Below.alloc (Below.refl _ _) (Nat.le_refl _) _)).more (B' := (Wwx.alloc (.cells #[.int .i64 lo, .int .i64 hi] 33)).heap.size) (by simp)
  replace bx := bx.alloc (.cells #[.int .i64 lo, .int .i64 hi] 33)
  replace wx := wx.alloc (.cells #[.int .i64 lo, .int .i64 hi] 33)
  generalize (Wwx.alloc (.cells #[.int .i64 lo, .int .i64 hi] 33)) = Wbz at *
  clear hswx
  have lbx := bx.lt
  have bxc0 := bx.cell 0
  have bxc1 := bx.cell 1
  simp at bxc0 bxc1
  have lwx := wx.lt
  have wxc0 := wx.cell 0
  have wxc1 := wx.cell 1
  simp at wxc0 wxc1
  have lbz := bz.lt
  have bzc0 := bz.cell 0
  have bzc1 := bz.cell 1
  simp at bzc0 bzc1
  go_wp2_with fail
  clear lbx bxc0 bxc1
  clear lwx wxc0 wxc1
  clear lbz bzc0 bzc1
  clear hsbz
  refine (great_any bars ss _ _ _ hB hS).mono ?_
  rintro e w1 ⟨q, rfl, hq, hb⟩
  replace hC : Below n0 w w1 := hC.trans (hb.mono (by have := hC.size; omega))
  replace hB := (RS.below hB hb).more hb.size
  replace hS := (RP.below hS hb).more hb.size
  replace hR := (RS.below hR hb).more hb.size
  replace bx := bx.below hb bx.lt
  replace wx := wx.below hb wx.lt
  replace bz := bz.below hb bz.lt
  clear hb
  cases q
  case true =>
    clear hq
    go_wp2_with fail
    refine (works_any _).mono ?_
    rintro e w2 ⟨rfl, hb⟩
    replace hC : Below n0 w w2 := hC.trans (hb.mono (by have := hC.size; omega))
    replace hB := (RS.below hB hb).more hb.size
    replace hS := (RP.below hS hb).more hb.size
    replace hR := (RS.below hR hb).more hb.size
    replace bx := bx.below hb bx.lt
    replace wx := wx.below hb wx.lt
    replace bz := bz.below hb bz.lt
    clear hb
    go_wp2_with fail
    exact bodyPost_ret (v := .bool true) (by simp [results, Try.results5, go_sem]) rfl ⟨rfl, by first | exact hC | (rw [hn0]; exact hC) | (with_reducible rw [hn0]; exact bel_of) | exact bel_of⟩
  have HF := Lib.hid (great_fit (show ¬ greatP bars ss from fun h => Bool.noConfusion (hq.2 h)))
  clear hq
  by_cases zhkl : 12 < ks.length
  case pos =>
    have zz : ((ks.length : Nat) : Int) > 12 := by omega
    clear zhkl
    have lbx := bx.lt
    have bxc0 := bx.cell 0
    have bxc1 := bx.cell 1
    simp at bxc0 bxc1
    have lwx := wx.lt
    have wxc0 := wx.cell 0
    have wxc1 := wx.cell 1
    simp at wxc0 wxc1
    have lbz := bz.lt
    have bzc0 := bz.cell 0
    have bzc1 := bz.cell 1
    simp at bzc0 bzc1
    go_wp2_with fail
    clear lbx bxc0 bxc1
    clear lwx wxc0 wxc1
    clear lbz bzc0 bzc1
    refine (works_any _).mono ?_
    rintro e w2 ⟨rfl, hb⟩
    replace hC : Below n0 w w2 := hC.trans (hb.mono (by have := hC.size; omega))
    replace hB := (RS.below hB hb).more hb.size
    replace hS := (RP.below hS hb).more hb.size
    replace hR := (RS.below hR hb).more hb.size
    replace bx := bx.below hb bx.lt
    replace wx := wx.below hb wx.lt
    replace bz := bz.below hb bz.lt
    clear hb
    go_wp2_with fail
    exact bodyPost_ret (v := .bool true) (by simp [results, Try.results5, go_sem]) rfl ⟨rfl, by first | exact hC | (rw [hn0]; exact hC) | (with_reducible rw [hn0]; exact bel_of) | exact bel_of⟩
  have hkl : ks.length ≤ 12 := by omega
  have zzhkl : ¬ ((ks.length : Nat) : Int) > 12 := by omega
  clear zhkl
  have lbx := bx.lt
  have bxc0 := bx.cell 0
  have bxc1 := bx.cell 1
  simp at bxc0 bxc1
  have lwx := wx.lt
  have wxc0 := wx.cell 0
  have wxc1 := wx.cell 1
  simp at wxc0 wxc1
  have lbz := bz.lt
  have bzc0 := bz.cell 0
  have bzc1 := bz.cell 1
  simp at bzc0 bzc1
  go_wp2_with fail
  clear lbx bxc0 bxc1
  clear lwx wxc0 wxc1
  clear lbz bzc0 bzc1
  clear zzhkl
  have hkl2 : ks.length ≤ 1000 := by omega
  have HKL := Lib.hid hkl
  have HKL2 := Lib.hid hkl2
  clear hkl hkl2
  refine (hadX_any bars ss b ks ⟨lo, hi⟩ _ _ _ _ HF.out HKL2.out hB hS hR).mono ?_
  rintro e w2 ⟨v1, rfl, hv1, hb⟩
  replace hC : Below n0 w w2 := hC.trans (hb.mono (by have := hC.size; omega))
  replace hB := (RS.below hB hb).more hb.size
  replace hS := (RP.below hS hb).more hb.size
  replace hR := (RS.below hR hb).more hb.size
  replace bx := bx.below hb bx.lt
  replace wx := wx.below hb wx.lt
  replace bz := bz.below hb bz.lt
  clear hb
  obtain ⟨A1, c1, rfl⟩ := rr_slice hv1
  obtain ⟨re, he⟩ : ∃ r, hadE bars ss b ks ⟨lo, hi⟩ = r := ⟨_, rfl⟩
  rw [he]
  have HE := Lib.hid he
  clear he
  have lbx := bx.lt
  have bxc0 := bx.cell 0
  have bxc1 := bx.cell 1
  simp at bxc0 bxc1
  have lwx := wx.lt
  have wxc0 := wx.cell 0
  have wxc1 := wx.cell 1
  simp at wxc0 wxc1
  have lbz := bz.lt
  have bzc0 := bz.cell 0
  have bzc1 := bz.cell 1
  simp at bzc0 bzc1
  go_wp2_with fail
  clear lbx bxc0 bxc1
  clear lwx wxc0 wxc1
  clear lbz bzc0 bzc1
  refine (hadXR_any bars ss b ks ⟨lo, hi⟩ _ _ _ _ HF.out HKL2.out hB hS hR).mono ?_
  rintro e w3 ⟨v2, rfl, hv2, hb⟩
  replace hC : Below n0 w w3 := hC.trans (hb.mono (by have := hC.size; omega))
  replace hB := (RS.below hB hb).more hb.size
  replace hS := (RP.below hS hb).more hb.size
  replace hR := (RS.below hR hb).more hb.size
  replace bx := bx.below hb bx.lt
  replace wx := wx.below hb wx.lt
  replace bz := bz.below hb bz.lt
  replace hv1 := (RS.below hv1 hb).more hb.size
  clear hb
  obtain ⟨A2, c2, rfl⟩ := rr_slice hv2
  rw [HE.out]
  have lbx := bx.lt
  have bxc0 := bx.cell 0
  have bxc1 := bx.cell 1
  simp at bxc0 bxc1
  have lwx := wx.lt
  have wxc0 := wx.cell 0
  have wxc1 := wx.cell 1
  simp at wxc0 wxc1
  have lbz := bz.lt
  have bzc0 := bz.cell 0
  have bzc1 := bz.cell 1
  simp at bzc0 bzc1
  go_wp2_with fail
  clear lbx bxc0 bxc1
  clear lwx wxc0 wxc1
  clear lbz bzc0 bzc1
  refine (historyX_any bars ss b ks ⟨lo, hi⟩ _ _ _ _ HF.out HKL2.out hB hS hR).mono ?_
  rintro e w4 ⟨v3, rfl, hv3, hb⟩
  replace hC : Below n0 w w4 := hC.trans (hb.mono (by have := hC.size; omega))
  replace hB := (RS.below hB hb).more hb.size
  replace hS := (RP.below hS hb).more hb.size
  replace hR := (RS.below hR hb).more hb.size
  replace bx := bx.below hb bx.lt
  replace wx := wx.below hb wx.lt
  replace bz := bz.below hb bz.lt
  replace hv1 := (RS.below hv1 hb).more hb.size
  replace hv2 := (RS.below hv2 hb).more hb.size
  clear hb
  obtain ⟨A3, c3, rfl⟩ := ri_slice hv3
  rw [HE.out]
  go_wp2_with fail
  refine (rangesL_any _ _ _ _ _ hadV_len hadV_len hv1 hv2).mono ?_
  rintro e w5 ⟨rfl, hb⟩
  replace hC : Below n0 w w5 := hC.trans (hb.mono (by have := hC.size; omega))
  replace hB := (RS.below hB hb).more hb.size
  replace hS := (RP.below hS hb).more hb.size
  replace hR := (RS.below hR hb).more hb.size
  replace bx := bx.below hb bx.lt
  replace wx := wx.below hb wx.lt
  replace bz := bz.below hb bz.lt
  replace hv1 := (RS.below hv1 hb).more hb.size
  replace hv2 := (RS.below hv2 hb).more hb.size
  replace hv3 := (RS.below hv3 hb).more hb.size
  clear hb
  rw [decide_eq_true rfl]
  have n1 : (re != re) = false := by simp
  by_cases h0 : re = 0
  case neg =>
    have h0b : (re != 0) = true := by simp [h0]
    have hz : histV bars ss b ks ⟨lo, hi⟩ = [] := histV_nil (by rw [HE.out]; exact h0)
    rw [hz]
    clear hz h0
    simp only [List.length_nil]
    go_wp2_with fail
    refine (works_any _).mono ?_
    rintro e w6 ⟨rfl, hb⟩
    replace hC : Below n0 w w6 := hC.trans (hb.mono (by have := hC.size; omega))
    replace hB := (RS.below hB hb).more hb.size
    replace hS := (RP.below hS hb).more hb.size
    replace hR := (RS.below hR hb).more hb.size
    replace bx := bx.below hb bx.lt
    replace wx := wx.below hb wx.lt
    replace bz := bz.below hb bz.lt
    replace hv1 := (RS.below hv1 hb).more hb.size
    replace hv2 := (RS.below hv2 hb).more hb.size
    replace hv3 := (RS.below hv3 hb).more hb.size
    clear hb
    go_wp2_with fail
    exact bodyPost_ret (v := .bool true) (by simp [results, Try.results5, go_sem]) rfl ⟨rfl, by first | exact hC | (rw [hn0]; exact hC) | (with_reducible rw [hn0]; exact bel_of) | exact bel_of⟩
  subst h0
  have HHL := Lib.hid (histV_len (bars := bars) (ss := ss) (b := b) (ks := ks) (m := ⟨lo, hi⟩))
  have lbx := bx.lt
  have bxc0 := bx.cell 0
  have bxc1 := bx.cell 1
  simp at bxc0 bxc1
  have lwx := wx.lt
  have wxc0 := wx.cell 0
  have wxc1 := wx.cell 1
  simp at wxc0 wxc1
  have lbz := bz.lt
  have bzc0 := bz.cell 0
  have bzc1 := bz.cell 1
  simp at bzc0 bzc1
  go_wp2_with fail
  clear lbx bxc0 bxc1
  clear lwx wxc0 wxc1
  clear lbz bzc0 bzc1
  refine (agrees_any bars ss b ks (histV bars ss b ks ⟨lo, hi⟩) ⟨lo, hi⟩ _ _ _ _ _ HF.out HKL2.out hB hS hR hv3 HHL.out).mono ?_
  rintro e w6 ⟨rfl, hb⟩
  replace hC : Below n0 w w6 := hC.trans (hb.mono (by have := hC.size; omega))
  replace hB := (RS.below hB hb).more hb.size
  replace hS := (RP.below hS hb).more hb.size
  replace hR := (RS.below hR hb).more hb.size
  replace bx := bx.below hb bx.lt
  replace wx := wx.below hb wx.lt
  replace bz := bz.below hb bz.lt
  replace hv1 := (RS.below hv1 hb).more hb.size
  replace hv2 := (RS.below hv2 hb).more hb.size
  replace hv3 := (RS.below hv3 hb).more hb.size
  clear hb
  rw [agree_histV HE.out]
  go_wp2_with fail
  refine (works_any _).mono ?_
  rintro e w7 ⟨rfl, hb⟩
  replace hC : Below n0 w w7 := hC.trans (hb.mono (by have := hC.size; omega))
  replace hB := (RS.below hB hb).more hb.size
  replace hS := (RP.below hS hb).more hb.size
  replace hR := (RS.below hR hb).more hb.size
  replace bx := bx.below hb bx.lt
  replace wx := wx.below hb wx.lt
  replace bz := bz.below hb bz.lt
  replace hv1 := (RS.below hv1 hb).more hb.size
  replace hv2 := (RS.below hv2 hb).more hb.size
  replace hv3 := (RS.below hv3 hb).more hb.size
  clear hb
  go_wp2_with fail
  exact bodyPost_ret (v := .bool true) (by simp [results, Try.results5, go_sem]) rfl ⟨rfl, by first | exact hC | (rw [hn0]; exact hC) | (with_reducible rw [hn0]; exact bel_of) | exact bel_of⟩
end Go.Proofs.Ytkibdciomheekaa

namespace Go.Proofs.Ytkibdciomheekaa.heatHistories
open Go.ChangeShapes Go.WideShapes Go.ChangeAt Go.RowKit Go.Deep

set_option maxRecDepth 100000 in
theorem lifted (os : Os) (started : os.Started) (H : Type) (enc : TypeId × Value → H) :
    ReturnsInHanded {} Try.checked os 5 .any (Rows.heatHistoriesSpec.pre6 enc Try.prog Try.f5 Rows.heatHistoriesRow.domain false) (Rows.heatHistoriesSpec.post enc Try.prog Try.f5 false true false false) := by
  refine returnsInHanded_of_change (C := Try.checked) own started (by kernel_rfl) Try.func5
    (ChangeSpec.witness6 (enc := enc) (C := Try.checked) false ⟨#[], #[.agg #[.slice none 0 0, .slice none 0 0], .agg #[.int .i64 0, .slice none 0 0], .agg #[.int .i64 0, .int .i64 0]], []⟩ 8 (by kernel_rfl) (by kernel_rfl) (by kernel_rfl) (by kernel_rfl)) ?_
  intro W base args ds gs before hval0 hW hcnd _
  have hval : ∀ (j : Nat) t v, Try.f5.params[j]? = some t → args[j]? = some v → Value.okWide Try.prog W .any base t v := hval0
  have hW2 : DataW.Whole enc Try.prog Try.f5.params.toList Rows.heatHistoriesSpec.vars false W args.toList ds gs before := hW
  obtain ⟨p, q, hA0, hV, rfl, hfz, hnd⟩ := hW
  have hA : DataW.TrodAll enc Try.prog W 0 (fun _ => true) true Try.f5.params.toList args.toList ds p := hA0
  rw [Try.params5] at hA hval
  obtain ⟨v0, vs0, d0, ds0, p0, q0, hargs, rfl, rfl, h0, r0⟩ := trodAll_cons hA
  obtain ⟨v1, vs1, d1, ds1, p1, q1, rfl, rfl, rfl, h1, r1⟩ := trodAll_cons r0
  obtain ⟨v2, vs2, d2, ds2, p2, q2, rfl, rfl, rfl, h2, r2⟩ := trodAll_cons r1
  obtain ⟨rfl, rfl, rfl⟩ := trodAll_nil r2
  obtain rfl : args = #[v0, v1, v2] := by cases args; simp_all
  obtain ⟨rfl, rfl⟩ := trodVars_none hV
  obtain ⟨vb0, vs0_, bars0, ss0, rfl, hB0, hS0⟩ := open_works (hval 0 25 v0 rfl rfl) h0
  obtain ⟨b1, vk1, ks1, rfl, g1, _⟩ := open_recipe (hval 1 42 v1 rfl rfl) h1
  obtain ⟨lo2, hi2, rfl⟩ := open_rg (hval 2 33 v2 rfl rfl) h2
  refine (heatHistories_any (bars := bars0) (ss := ss0) (vb := vb0) (vs := vs0_) (hB := hB0) (hS := hS0) (b := b1) (ks := ks1) (vk := vk1) (hR := g1) (lo := lo2) (hi := hi2) (w := W)).mono fun e W' ⟨he, hg⟩ => ?_
  subst he
  exact ⟨_, rfl, law_done hW2 rfl rfl rfl (by rw [Try.params5]; decide +kernel) hg⟩

theorem over : Rows.heatHistoriesRow.holds Try.pinned (OpenSpec.ofChange Rows.heatHistoriesSpec) :=
  OpenClaim.holds_of_wide 5 Try.f5 rfl rfl rfl rfl rfl rfl rfl ⟨rfl, rfl, rfl, rfl, rfl⟩ rfl rfl rfl rfl rfl (by kernel_rfl) Try.func5 (by kernel_rfl)
    (of_decide_eq_true (by kernel_rfl)) (by unfold Func.isWrapper; first | (rw [if_pos (by decide +kernel)]; kernel_rfl) | (rw [if_neg (by decide +kernel)]; exact ⟨rfl, rfl⟩))
    (fun os started H enc _ => lifted os started H enc)

theorem proved : Rows.HeatHistoriesSaid :=
  over
end Go.Proofs.Ytkibdciomheekaa.heatHistories
namespace Go.Proofs.Ytkibdciomheekaa
theorem heatHistories_proved : Rows.HeatHistoriesSaid := heatHistories.proved
#print axioms heatHistories_proved
end Go.Proofs.Ytkibdciomheekaa
