/- A history that agrees, for the program. A row is filled, a row is asked. The kinks of a way, ranged over. Rows that are appended; what stands in a frame for ranges over functions in loops. -/
import Derived.Test.YtkibdciomheekaaP14
import Derived.Test.YtkibdciomheekaaP3
import Derived.WalkMore
import Derived.Deep.LoopGhost
import Derived.Great.BuildSlice
set_option linter.all false
set_option linter.unnecessarySimpa false
set_option linter.unusedSimpArgs false
set_option linter.unusedVariables false
set_option linter.unusedSectionVars false

set_option linter.all false
namespace Go.Proofs.Ytkibdciomheekaa
open Go.RowKit Hp

theorem headR_nth (l : List Rg) : headR l = nthB l 0 := by cases l <;> rfl
theorem nthB_tail (l : List Rg) (k : Nat) : nthB l.tail k = nthB l (k + 1) := by cases l <;> rfl
theorem histL_zero (ws : List Wy) (l : List Rg) (h : Int) : nthI (histL ws l h) 0 = h := by cases ws <;> rfl
theorem histL_step : ∀ (ws : List Wy) (l : List Rg) (h : Int) (k : Nat), k < ws.length → nthI (histL ws l h) (k + 1) = max (aft (nthW ws k) (nthI (histL ws l h) k)).lo (nthB l k).lo
  | [], _, _, _, h => by simp at h
  | w :: ws, l, h, 0, _ => by
    show nthI (histL ws l.tail (max (aft w h).lo (headR l).lo)) 0 = _
    rw [histL_zero, headR_nth]; rfl
  | w :: ws, l, h, k + 1, hk => by
    show nthI (histL ws l.tail (max (aft w h).lo (headR l).lo)) (k + 1) = max (aft (nthW ws k) (nthI (histL ws l.tail (max (aft w h).lo (headR l).lo)) k)).lo (nthB l (k + 1)).lo
    rw [histL_step ws _ _ k (by simpa using hk), nthB_tail]
theorem take_nthI {l : List Int} {k : Nat} (h : k < l.length) : l.take (k + 1) = l.take k ++ [nthI l k] := by
  have : nthI l k = l[k] := by simp [nthI, h]
  rw [this, List.take_add_one, List.getElem?_eq_getElem h]
  rfl
def histV (bars : List Rg) (ss : List Stp) (b : Int) (ks : List Int) (m : Rg) : List Int :=
  if hadE bars ss b ks m = 0 then histL (pick ss (nats ks)) (hadL (nthB bars b.toNat) (pick ss (nats ks)) m).tail (headR (hadL (nthB bars b.toNat) (pick ss (nats ks)) m)).lo else []
theorem histV_ok {bars : List Rg} {ss : List Stp} {b : Int} {ks : List Int} {m : Rg} (h : hadE bars ss b ks m = 0) :
    histB (nthB bars b.toNat) (pick ss (nats ks)) (histV bars ss b ks m) = true ∧ ∃ x, (histV bars ss b ks m)[ss.length]? = some x ∧ inR x m = true := by
  obtain ⟨h1, h2, h3⟩ := of_hadE h
  have hb := h1.works.bok _ (nthB_mem h1.bhi)
  have ok := pick_ok h1.works.sok h1.ways
  have hd := hadL_head ok hb h2.1 h3
  have := histL_ok (h := (headR (hadL (nthB bars b.toNat) (pick ss (nats ks)) m)).lo) ok hb h2.1 h3 (inR_iff.2 ⟨Int.le_refl _, hd.1⟩)
  rw [pick_len h1.ways] at this
  unfold histV
  rw [if_pos h]
  exact this
theorem own_i64 {W : World} {base g : Nat} {x : Int} (h : BK W g #[.int .i64 x] 2) (hb : base ≤ g) : OwnI 2 W base (.slice (some ⟨g, 0, none⟩) 1 1) [x] :=
  ⟨by simp [ofI], .inr ⟨g, 1, _, rfl, hb, h, Nat.le_refl _, by unfold maxLen; omega, by simp, by simp [ofI]⟩⟩
def HistPost (bars : List Rg) (ss : List Stp) (b : Int) (ks : List Int) (m : Rg) (w : World) (e : Ending) (w' : World) : Prop :=
  ∃ v, e = .returned (.tuple #[v, .int .i64 (hadE bars ss b ks m)]) ∧ RI w' w'.heap.size v (histV bars ss b ks m) ∧ Below w.heap.size w w'
theorem ri_nil (W : World) (B : Nat) : RI W B (.slice none 0 0) [] := ⟨none, 0, 0, 0, rfl, ⟨by simp [ofI], Nat.le_refl _⟩, fun h => absurd rfl h, fun j hj => by simp [ofI] at hj⟩
theorem HistPost.no {bars : List Rg} {ss : List Stp} {b e : Int} {ks : List Int} {m : Rg} {w w' : World} (h : hadE bars ss b ks m = e) (h0 : e ≠ 0) (hb : Below w.heap.size w w') : HistPost bars ss b ks m w (.returned (.tuple #[.slice none 0 0, .int .i64 e])) w' :=
  ⟨_, by rw [h], by unfold histV; rw [if_neg (by rw [h]; exact h0)]; exact ri_nil _ _, hb⟩
theorem HistPost.yes {bars : List Rg} {ss : List Stp} {b : Int} {ks : List Int} {m : Rg} {w w' : World} {v : Value} (h : hadE bars ss b ks m = 0) (hr : RI w' w'.heap.size v (histV bars ss b ks m)) (hb : Below w.heap.size w w') : HistPost bars ss b ks m w (.returned (.tuple #[v, .int .i64 0])) w' :=
  ⟨v, by rw [h], hr, hb⟩

set_option maxHeartbeats 8000000 in
set_option maxRecDepth 100000 in
theorem wayOf_any (ss : List Stp) (b : Int) (ks : List Int) (vb vs vk : Value) (gw gr k : Nat) (w : World) (hal : nats ks ∈ allR ss) (hnn : ∀ k ∈ ks, 0 ≤ k) (hk : k < ks.length) (bx : BK w gw #[vb, vs] 25) (cx : BK w gr #[.int .i64 b, vk] 42) (hS : RP w w.heap.size vs ss) (hR : RI w w.heap.size vk ks) :
    Calls Try.prog 68 #[.int .i64 k, .pointer (some ⟨gw, 0, none⟩), .pointer (some ⟨gr, 0, none⟩)] w fun e w' => ∃ u, e = .returned (wV u) ∧ RK w' w'.heap.size u (nthW (pick ss (nats ks)) k) ∧ Below w.heap.size w w' := by
  have hle : ks.length = ss.length := by have := (mem_allR_iff.1 hal).1; simpa [nats] using this
  have hks : k < ss.length := by omega
  have hlt' : (k : Int) < (ks.length : Int) := by omega
  have hks' : (k : Int) < (ss.length : Int) := by omega
  have hx2 := (mem_allR_iff.1 hal).2 k hks
  rw [nats_at] at hx2
  have hx0 := hnn (nthI ks k) (by
    have : nthI ks k = ks[k] := by simp [nthI, hk]
    rw [this]; exact List.getElem_mem hk)
  have HPK := Lib.hid (show nthW (pick ss (nats ks)) k = nthW (nthS ss k) (nthI ks k).toNat from pick_at hks (by simp [nats]; omega))
  clear hal hnn
  obtain ⟨A', cap', b3, off3, rfl, hA, hc⟩ := RI.cells hR
  obtain ⟨rfl, hbb3⟩ := hA (by omega)
  have d0 := hc k hk
  clear hA hc
  obtain ⟨A', cap', b4, off4, rfl, hA, hc⟩ := RP.cells hS
  obtain ⟨rfl, hbb4⟩ := hA (by omega)
  obtain ⟨u, d1, hu⟩ := hc k hks
  obtain ⟨x, hx⟩ : ∃ x, nthI ks k = x := ⟨_, rfl⟩
  rw [hx] at d0 hx2 hx0 HPK
  obtain ⟨m, rfl⟩ : ∃ m : Nat, x = m := ⟨x.toNat, by omega⟩
  rw [Int.toNat_natCast] at hx2 HPK
  obtain ⟨s, hs⟩ : ∃ s, nthS ss k = s := ⟨_, rfl⟩
  rw [hs] at hu hx2 HPK
  clear hA hc hx hs
  obtain ⟨A', cap', b5, off5, rfl, hA, hc⟩ := RW.cells hu
  obtain ⟨rfl, hbb5⟩ := hA (by omega)
  obtain ⟨u, d2, hv⟩ := hc m hx2
  have hms : (m : Int) < (s.length : Int) := by omega
  obtain ⟨y, hy⟩ : ∃ y, nthW s m = y := ⟨_, rfl⟩
  rw [hy] at hv HPK
  obtain ⟨Ay, cy, rfl⟩ := hv.slice
  have HK1 := Lib.hid hle
  clear hA hc hy hu hle
  have hv0' := hv
  have gw0 := bx.lt
  have gr0 := cx.lt
  obtain ⟨n0, hn0⟩ : ∃ n, w.heap.size = n := ⟨_, rfl⟩
  rw [hn0] at hv0'
  have hv0 := Lib.hid hv0'
  clear hv0'
  have hC : Below n0 w w := Below.refl _ _
  go_enter Try.func68, Try.ntmps68
  go_upto_region 1 with fail
  have hqrx : n0 ≤ n0 := by have := hC.size; omega
  have rx : BK (w.alloc (.cells #[.slice none 0 0] 28)) (n0) #[.slice none 0 0] 28 := BK.new' _ _ _ (n0) hn0
  have hsrx : (w.alloc (.cells #[.slice none 0 0] 28)).heap.size = n0 + 1 := by simp [hn0]
  have hb7 : Below w.heap.size w (w.alloc (.cells #[.slice none 0 0] 28)) := Below.alloc (Below.refl _ _) (Nat.le_refl _) _
  rw [← hb7.cell (by exact hbb3)] at d0
  rw [← hb7.cell (by exact hbb4)] at d1
  rw [← hb7.cell (by exact hbb5)] at d2
  have hbs := hb7.size
  clear hb7
  replace hC : Below n0 w (w.alloc (.cells #[.slice none 0 0] 28)) := Below.alloc hC (by have := hC.size; omega) _
  replace bx := bx.alloc (.cells #[.slice none 0 0] 28)
  replace cx := cx.alloc (.cells #[.slice none 0 0] 28)
  replace hv := (RK.below hv (w' := (w.alloc (.cells #[.slice none 0 0] 28))) (Below.alloc (Below.refl _ _) (Nat.le_refl _) _)).more (B' := (w.alloc (.cells #[.slice none 0 0] 28)).heap.size) (by simp)
  generalize (w.alloc (.cells #[.slice none 0 0] 28)) = Wrx at *
  replace hbb3 := Nat.lt_of_lt_of_le hbb3 hbs
  replace hbb4 := Nat.lt_of_lt_of_le hbb4 hbs
  replace hbb5 := Nat.lt_of_lt_of_le hbb5 hbs
  clear hbs
  clear hsrx
  have lb := bx.lt
  have c1 := bx.cell 1
  have lc := cx.lt
  have c2 := cx.cell 1
  simp at c1 c2
  have lr := rx.lt
  have r0 := rx.cell 0
  have f0 := rx.frozen 0
  simp at r0
  refine wp_region_noPanic (plain_any [0, 1, 2, 3, 4, 5, 6, 7, 8, 9, 10, 11, 12] (Below Wrx.heap.size Wrx) mixed ?_)
  refine any_tk 0 ?_
  have d0z : Below Wrx.heap.size Wrx Wrx.drew := by exact bel_of
  refine any_tk 1 ?_
  refine any_tk 2 ?_
  refine any_tk 3 ?_
  refine any_tk 4 ?_
  refine any_tk 5 ?_
  refine any_tk 6 ?_
  refine any_tk 7 ?_
  refine any_tk 8 ?_
  refine any_tk 9 ?_
  refine any_tk 10 ?_
  refine any_tk 11 ?_
  refine any_tk 12 ?_
  refine any_run1 (i := 13) (by kernel_rfl) (by rfl) (by kernel_rfl) ?_
  intro K hK
  go_wp2_with fail
  refine hK _ _ (fun hx => (Bool.false_ne_true (hx.symm.trans (by kernel_rfl))).elim) ?_
  clear hK K
  refine any_done (by kernel_rfl) (NoPanic.normal ?_)
  have rs := rx.set 0 (.slice Ay y.length cy)
  simp at rs
  have z0 := (rs.drew).cell 0
  simp at z0
  have hCf : Below n0 w (Wrx.setCell ⟨n0, 0, none⟩ (.slice Ay y.length cy)).drew := (Below.setCell hC (Nat.le_refl _) _).drew
  have hvf : RK (Wrx.setCell ⟨n0, 0, none⟩ (.slice Ay y.length cy)).drew _ _ _ := RK.more (RK.below (RK.more hv0.out (Nat.le_refl _)) hCf) (B' := (Wrx.setCell ⟨n0, 0, none⟩ (.slice Ay y.length cy)).drew.heap.size) (by have := hCf.size; omega)
  clear c1 c2 r0 f0 d0 d1 d2
  go_wp2_with fail
  exact bodyPost_ret (v := wV (.slice Ay y.length cy)) (by simp [results, Try.results68, go_sem, z0, wV]) rfl ⟨_, rfl, by rw [HPK.out]; exact hvf, by (try rw [hn0]); exact hCf⟩

set_option maxHeartbeats 8000000 in
set_option maxRecDepth 100000 in
theorem historyX_any (bars : List Rg) (ss : List Stp) (b : Int) (ks : List Int) (m : Rg) (vb vs vk : Value) (w : World) (hf : Fit bars ss) (hkl : ks.length ≤ 1000) (hB : RR w w.heap.size vb bars) (hS : RP w w.heap.size vs ss) (hR : RI w w.heap.size vk ks) :
    Calls Try.prog 30 #[.agg #[vb, vs], .agg #[.int .i64 b, vk], rV m] w (HistPost bars ss b ks m w) := by
  have HF := Lib.hid hf
  have hfb := hf.b
  have hfs := hf.s
  clear hf
  obtain ⟨Ab, cb, rfl⟩ := hB.slice
  obtain ⟨As, cs, rfl⟩ := hS.slice
  obtain ⟨Ak, ck, rfl⟩ : ∃ A c, vk = .slice A ks.length c := by
    obtain ⟨A, c, b, o, hv, _⟩ := hR
    exact ⟨A, c, hv⟩
  obtain ⟨mlo, mhi⟩ := m
  unfold rV
  obtain ⟨n0, hn0⟩ : ∃ n, w.heap.size = n := ⟨_, rfl⟩
  have hC : Below n0 w w := Below.refl _ _
  go_enter Try.func30, Try.ntmps30
  go_upto_region 1 with fail
  have hqbx : n0 ≤ n0 := by have := hC.size; omega
  have bx : BK (w.alloc (.cells #[.slice Ab bars.length cb, .slice As ss.length cs] 25)) (n0) #[.slice Ab bars.length cb, .slice As ss.length cs] 25 := BK.new' _ _ _ (n0) hn0
  have hsbx : (w.alloc (.cells #[.slice Ab bars.length cb, .slice As ss.length cs] 25)).heap.size = n0 + 1 := by simp [hn0]
  replace hC : Below n0 w (w.alloc (.cells #[.slice Ab bars.length cb, .slice As ss.length cs] 25)) := Below.alloc hC (by have := hC.size; omega) _
  replace hB := (RS.below hB (w' := (w.alloc (.cells #[.slice Ab bars.length cb, .slice As ss.length cs] 25))) (Below.alloc (Below.refl _ _) (Nat.le_refl _) _)).more (B' := (w.alloc (.cells #[.slice Ab bars.length cb, .slice As ss.length cs] 25)).heap.size) (by simp)
  replace hS := (RP.below hS (w' := (w.alloc (.cells #[.slice Ab bars.length cb, .slice As ss.length cs] 25))) (Below.alloc (Below.refl _ _) (Nat.le_refl _) _)).more (B' := (w.alloc (.cells #[.slice Ab bars.length cb, .slice As ss.length cs] 25)).heap.size) (by simp)
  replace hR := (RS.below hR (w' := (w.alloc (.cells #[.slice Ab bars.length cb, .slice As ss.length cs] 25))) (Below.alloc (Below.refl _ _) (Nat.le_refl _) _)).more (B' := (w.alloc (.cells #[.slice Ab bars.length cb, .slice As ss.length cs] 25)).heap.size) (by simp)
  generalize (w.alloc (.cells #[.slice Ab bars.length cb, .slice As ss.length cs] 25)) = Wbx at *
  have hqcx : n0 ≤ n0 + 1 := by have := hC.size; omega
  have cx : BK (Wbx.alloc (.cells #[.int .i64 b, .slice Ak ks.length ck] 42)) (n0 + 1) #[.int .i64 b, .slice Ak ks.length ck] 42 := BK.new' _ _ _ (n0 + 1) hsbx
  have hscx : (Wbx.alloc (.cells #[.int .i64 b, .slice Ak ks.length ck] 42)).heap.size = n0 + 1 + 1 := by simp [hsbx]
  replace hC : Below n0 w (Wbx.alloc (.cells #[.int .i64 b, .slice Ak ks.length ck] 42)) := Below.alloc hC (by have := hC.size; omega) _
  replace hB := (RS.below hB (w' := (Wbx.alloc (.cells #[.int .i64 b, .slice Ak ks.length ck] 42))) (Below.alloc (Below.refl _ _) (Nat.le_refl _) _)).more (B' := (Wbx.alloc (.cells #[.int .i64 b, .slice Ak ks.length ck] 42)).heap.size) (by simp)
  replace hS := (RP.below hS (w' := (Wbx.alloc (.cells #[.int .i64 b, .slice Ak ks.length ck] 42))) (Below.alloc (Below.refl _ _) (Nat.le_refl _) _)).more (B' := (Wbx.alloc (.cells #[.int .i64 b, .slice Ak ks.length ck] 42)).heap.size) (by simp)
  replace hR := (RS.below hR (w' := (Wbx.alloc (.cells #[.int .i64 b, .slice Ak ks.length ck] 42))) (Below.alloc (Below.refl _ _) (Nat.le_refl _) _)).more (B' := (Wbx.alloc (.cells #[.int .i64 b, .slice Ak ks.length ck] 42)).heap.size) (by simp)
  replace bx := bx.alloc (.cells #[.int .i64 b, .slice Ak ks.length ck] 42)
  generalize (Wbx.alloc (.cells #[.int .i64 b, .slice Ak ks.length ck] 42)) = Wcx at *
  clear hsbx
  have hqmx : n0 ≤ n0 + 1 + 1 := by have := hC.size; omega
  have mx : BK (Wcx.alloc (.cells #[.int .i64 mlo, .int .i64 mhi] 33)) (n0 + 1 + 1) #[.int .i64 mlo, .int .i64 mhi] 33 := BK.new' _ _ _ (n0 + 1 + 1) hscx
  have hsmx : (Wcx.alloc (.cells #[.int .i64 mlo, .int .i64 mhi] 33)).heap.size = n0 + 1 + 1 + 1 := by simp [hscx]
  replace hC : Below n0 w (Wcx.alloc (.cells #[.int .i64 mlo, .int .i64 mhi] 33)) := Below.alloc hC (by have := hC.size; omega) _
  replace hB := (RS.below hB (w' := (Wcx.alloc (.cells #[.int .i64 mlo, .int .i64 mhi] 33))) (Below.alloc (Below.refl _ _) (Nat.le_refl _) _)).more (B' := (Wcx.alloc (.cells #[.int .i64 mlo, .int .i64 mhi] 33)).heap.size) (by simp)
  replace hS := (RP.below hS (w' := (Wcx.alloc (.cells #[.int .i64 mlo, .int .i64 mhi] 33))) (Below.alloc (Below.refl _ _) (Nat.le_refl _) _)).more (B' := (Wcx.alloc (.cells #[.int .i64 mlo, .int .i64 mhi] 33)).heap.size) (by simp)
  replace hR := (RS.below hR (w' := (Wcx.alloc (.cells #[.int .i64 mlo, .int .i64 mhi] 33))) (Below.alloc (Below.refl _ _) (Nat.le_refl _) _)).more (B' := (Wcx.alloc (.cells #[.int .i64 mlo, .int .i64 mhi] 33)).heap.size) (by simp)
  replace bx := bx.alloc (.cells #[.int .i64 mlo, .int .i64 mhi] 33)
  replace cx := cx.alloc (.cells #[.int .i64 mlo, .int .i64 mhi] 33)
  generalize (Wcx.alloc (.cells #[.int .i64 mlo, .int .i64 mhi] 33)) = Wmx at *
  clear hscx
  have lbx := bx.lt
  have bxc0 := bx.cell 0
  have bxc1 := bx.cell 1
  simp at bxc0 bxc1
  have lcx := cx.lt
  have cxc0 := cx.cell 0
  have cxc1 := cx.cell 1
  simp at cxc0 cxc1
  have lmx := mx.lt
  have mxc0 := mx.cell 0
  have mxc1 := mx.cell 1
  simp at mxc0 mxc1
  go_wp2_with fail
  clear lbx bxc0 bxc1
  clear lcx cxc0 cxc1
  clear lmx mxc0 mxc1
  clear hsmx
  refine (hadX_any bars ss b ks ⟨mlo, mhi⟩ _ _ _ _ HF.out hkl hB hS hR).mono ?_
  rintro e w1 ⟨v, rfl, hv, hb⟩
  replace hC : Below n0 w w1 := hC.trans (hb.mono (by have := hC.size; omega))
  replace hB := (RS.below hB hb).more hb.size
  replace hS := (RP.below hS hb).more hb.size
  replace hR := (RS.below hR hb).more hb.size
  replace bx := bx.below hb bx.lt
  replace cx := cx.below hb cx.lt
  replace mx := mx.below hb mx.lt
  clear hb
  obtain ⟨e, he⟩ : ∃ e, hadE bars ss b ks ⟨mlo, mhi⟩ = e := ⟨_, rfl⟩
  rw [he]
  clear mx
  by_cases e0 : e = 0
  case neg =>
    obtain ⟨A', cap', bb, off, rfl, hA, hc⟩ := RR.cells hv
    clear hA hc
    have HE := Lib.hid he
    have E0 := Lib.hid e0
    have b1 : (e != 0) = true := by simp [e0]
    clear he e0 hv
    go_wp2_with fail
    go_ret2
    exact HistPost.no HE.out E0.out (by (try rw [hn0]); exact hC)
  subst e0
  unfold hadV at hv
  rw [if_pos he] at hv
  have HE0 := Lib.hid he
  obtain ⟨OR, hmm, hme⟩ := of_hadE he
  have hok := pick_ok OR.works.sok OR.ways
  have hbr := OR.works.bok _ (nthB_mem OR.bhi)
  have hpl := pick_len OR.ways
  have hhd := hadL_head hok hbr hmm.1 hme
  have hll := hadL_len (pick ss (nats ks)) (nthB bars b.toNat) ⟨mlo, mhi⟩
  have hle : ks.length = ss.length := by have := (mem_allR_iff.1 OR.ways).1; simpa [nats] using this
  have HHV := Lib.hid (show histV bars ss b ks ⟨mlo, mhi⟩ = histL (pick ss (nats ks)) (hadL (nthB bars b.toNat) (pick ss (nats ks)) ⟨mlo, mhi⟩).tail (headR (hadL (nthB bars b.toNat) (pick ss (nats ks)) ⟨mlo, mhi⟩)).lo from if_pos he)
  rw [hpl] at hll
  have hl0 : 0 ≤ (headR (hadL (nthB bars b.toNat) (pick ss (nats ks)) ⟨mlo, mhi⟩)).lo := by
    have := hbr.2.1
    omega
  have HOK := Lib.hid hok
  have HPL := Lib.hid hpl
  have HLE := Lib.hid hle
  have HAL := Lib.hid OR.ways
  have HNN := Lib.hid OR.nn
  clear he OR hmm hme hok hbr hpl hhd hle
  obtain ⟨L, hL⟩ : ∃ L, hadL (nthB bars b.toNat) (pick ss (nats ks)) ⟨mlo, mhi⟩ = L := ⟨_, rfl⟩
  rw [hL] at hv hll hl0 HHV
  clear hL
  rw [headR_nth] at hl0 HHV
  obtain ⟨A', cap', bb, off, rfl, hA, hc⟩ := RR.cells hv
  obtain ⟨rfl, hbb⟩ := hA (by omega)
  obtain ⟨d0, _⟩ := hc 0 (by omega)
  rw [Nat.zero_mul, Nat.add_zero] at d0
  obtain ⟨x0, hx0⟩ : ∃ x, (nthB L 0).lo = x := ⟨_, rfl⟩
  rw [hx0] at d0 hl0 HHV
  have hlL : (0 : Int) < (L.length : Int) := by omega
  have HLL := Lib.hid hll
  have HL0 := Lib.hid hl0
  clear hA hc hx0 hll hl0
  go_upto_region 7 with fail
  obtain ⟨m0, hm0⟩ : ∃ n, w1.heap.size = n := ⟨_, rfl⟩
  have hB0 := hB
  have hS0 := hS
  have hR0 := hR
  have hv0 := hv
  have bl := bx.lt
  have cl' := cx.lt
  have hBnm : n0 ≤ m0 := by have := hC.size; omega
  rw [hm0] at hB0 hS0 hR0 hv0 bl cl'
  have HB0 := Lib.hid hB0
  have HS0 := Lib.hid hS0
  have HR0 := Lib.hid hR0
  have HV0 := Lib.hid hv0
  have HBX := Lib.hid bx
  have HCX := Lib.hid cx
  have HC0 := Lib.hid hC
  have HM0 := Lib.hid hm0
  have hbz : Below m0 w1 w1 := Below.refl _ _
  clear hB0 hS0 hR0 hv0 hbb
  try rw [hm0]
  have hqox : n0 ≤ m0 := by have := hC.size; omega
  have ox : BK (w1.alloc (.cells #[.int .i64 x0] 2)) (m0) #[.int .i64 x0] 2 := BK.new' _ _ _ (m0) hm0
  have hsox : (w1.alloc (.cells #[.int .i64 x0] 2)).heap.size = m0 + 1 := by simp [hm0]
  have hbz1 : Below m0 w1 (w1.alloc (.cells #[.int .i64 x0] 2)) := Below.alloc hbz (by omega) _
  replace hC : Below n0 w (w1.alloc (.cells #[.int .i64 x0] 2)) := Below.alloc hC (by have := hC.size; omega) _
  replace hB := (RS.below hB (w' := (w1.alloc (.cells #[.int .i64 x0] 2))) (Below.alloc (Below.refl _ _) (Nat.le_refl _) _)).more (B' := (w1.alloc (.cells #[.int .i64 x0] 2)).heap.size) (by simp)
  replace hS := (RP.below hS (w' := (w1.alloc (.cells #[.int .i64 x0] 2))) (Below.alloc (Below.refl _ _) (Nat.le_refl _) _)).more (B' := (w1.alloc (.cells #[.int .i64 x0] 2)).heap.size) (by simp)
  replace hR := (RS.below hR (w' := (w1.alloc (.cells #[.int .i64 x0] 2))) (Below.alloc (Below.refl _ _) (Nat.le_refl _) _)).more (B' := (w1.alloc (.cells #[.int .i64 x0] 2)).heap.size) (by simp)
  replace bx := bx.alloc (.cells #[.int .i64 x0] 2)
  replace cx := cx.alloc (.cells #[.int .i64 x0] 2)
  replace hv := (RS.below hv (w' := (w1.alloc (.cells #[.int .i64 x0] 2))) (Below.alloc (Below.refl _ _) (Nat.le_refl _) _)).more (B' := (w1.alloc (.cells #[.int .i64 x0] 2)).heap.size) (by simp)
  generalize (w1.alloc (.cells #[.int .i64 x0] 2)) = Wox at *
  clear hm0
  have hown : OwnI 2 Wox m0 (.slice (some ⟨m0, 0, none⟩) 1 1) [x0] := own_i64 ox (Nat.le_refl _)
  clear ox d0 hbz hB hS hR hv
  clear hsox
  have lbx := bx.lt
  have bxc0 := bx.cell 0
  have bxc1 := bx.cell 1
  simp at bxc0 bxc1
  have lcx := cx.lt
  have cxc0 := cx.cell 0
  have cxc1 := cx.cell 1
  simp at cxc0 cxc1
  go_wp2_with fail
  clear lbx bxc0 bxc1
  clear lcx cxc0 cxc1
  have HOWN := Lib.hid hown
  have HBZ := Lib.hid hbz1
  clear hown hbz1 bx cx hC
  go_loopw [35, 11, 12] (fun i x acc wr => ∃ k : Nat, k ≤ ks.length ∧ i = .int .i64 k ∧ x = .int .i64 (nthI (histL (pick ss (nats ks)) L.tail x0) k) ∧ 0 ≤ nthI (histL (pick ss (nats ks)) L.tail x0) k ∧ OwnI 2 wr m0 acc ((histL (pick ss (nats ks)) L.tail x0).take (k + 1)) ∧ Below m0 w1 wr) (fun i _ _ _ => ks.length - (intOf i).toNat)
  case atStart =>
    refine ⟨0, Nat.zero_le _, rfl, by rw [histL_zero], by rw [histL_zero]; exact HL0.out, ?_, HBZ.out⟩
    rw [take_nthI (by rw [histL_len]; omega), histL_zero]
    exact HOWN.out
  case round =>
    obtain ⟨k, hk, rfl, rfl, hx0, hown, hb⟩ := hrel
    have HM1 := HM0.out
    have hbw : Below w1.heap.size w1 wr := by rw [HM1]; exact hb
    have bx := HBX.out.below hb bl
    have cx := HCX.out.below hb cl'
    have hC := HC0.out.trans (hb.mono hBnm)
    have hB := (RS.below HB0.out hb).more (B' := wr.heap.size) (by have := hb.size; omega)
    have hS := RP.more (RP.below HS0.out hb) (B' := wr.heap.size) (by have := hb.size; omega)
    have hR := (RS.below HR0.out hb).more (B' := wr.heap.size) (by have := hb.size; omega)
    have hv := (RS.below HV0.out hb).more (B' := wr.heap.size) (by have := hb.size; omega)
    have hms : m0 ≤ wr.heap.size := by have := hb.size; omega
    clear hb HM1
    by_cases hlt : k < ks.length
    case neg =>
      have hlt' : ¬ (k : Int) < (ks.length : Int) := by omega
      rw [List.take_of_length_le (by rw [histL_len, HPL.out]; have := HLE.out; omega)] at hown
      have HO := Lib.hid (OwnI.ri hown)
      obtain ⟨Av, cv, rfl⟩ := own_slice hown
      clear hown
      go_wp2_with fail
      go_ret2
      exact HistPost.yes HE0.out (by rw [HHV.out]; exact HO.out) (by (try rw [hn0]); exact hC)
    have hlt' : (k : Int) < (ks.length : Int) := by omega
    have hkL : k + 1 < L.length := by have := HLL.out; have := HLE.out; omega
    have hkL' : (k : Int) + 1 < (L.length : Int) := by omega
    have hkp : k < (pick ss (nats ks)).length := by rw [HPL.out]; have := HLE.out; omega
    have wk : IntKind.i64.wrap ((k : Int) + 1) = (k : Int) + 1 := by rw [IntKind.wrap_i64]; omega
    have wk2 : ((k : Int) + 1).toNat = k + 1 := by omega
    have hst := histL_step (pick ss (nats ks)) L.tail x0 k hkp
    rw [nthB_tail] at hst
    have htk := take_nthI (l := (histL (pick ss (nats ks)) L.tail x0)) (k := k + 1) (by rw [histL_len]; omega)
    have HLN := Lib.hid (show ((histL (pick ss (nats ks)) L.tail x0).take (k + 1)).length = k + 1 by rw [List.length_take, histL_len]; omega)
    have hoy := HOK.out _ (nthW_mem hkp)
    obtain ⟨x, hx⟩ : ∃ x, nthI (histL (pick ss (nats ks)) L.tail x0) k = x := ⟨_, rfl⟩
    rw [hx] at hx0 hst ⊢
    clear hx
    obtain ⟨y, hy⟩ : ∃ y, nthW (pick ss (nats ks)) k = y := ⟨_, rfl⟩
    rw [hy] at hst hoy
    have HAR := Lib.hid (aft_rng hoy hx0)
    obtain ⟨⟨l1, u1⟩, hx1⟩ : ∃ z, aft y x = z := ⟨_, rfl⟩
    rw [hx1] at hst HAR
    have HAF := Lib.hid hx1
    have HY := Lib.hid hy
    have HOY := Lib.hid hoy
    obtain ⟨x1, hx2⟩ : ∃ z, (nthB L (k + 1)).lo = z := ⟨_, rfl⟩
    rw [hx2] at hst
    have HX1 := Lib.hid hx2
    dsimp only at hst
    obtain ⟨x2, hx3⟩ : ∃ z, max l1 x1 = z := ⟨_, rfl⟩
    rw [hx3] at hst
    have hmx : (if l1 < x1 then x1 else l1) = x2 := by rw [← hx3]; split <;> omega
    have HX2 := Lib.hid hx3
    rw [hst] at htk
    have HST := Lib.hid hst
    have HTK := Lib.hid htk
    clear hst htk hoy hy hx1 hx2 hx3
    go_wp2_with fail
    refine (wayOf_any ss b ks _ _ _ _ _ k _ HAL.out HNN.out hlt bx cx hS hR).mono ?_
    rintro e w2 ⟨u, rfl, hu, hb⟩
    replace hC : Below n0 w w2 := hC.trans (hb.mono (by have := hC.size; omega))
    replace bx := bx.below hb bx.lt
    replace cx := cx.below hb cx.lt
    replace hB := (RS.below hB hb).more hb.size
    replace hS := (RP.below hS hb).more hb.size
    replace hR := (RS.below hR hb).more hb.size
    replace hv := (RS.below hv hb).more hb.size
    replace hown := own_below hown hb
    replace hbw := hbw.trans (hb.mono hbw.size)
    clear hb
    rw [HY.out] at hu
    go_wp2_with fail
    refine (after_any y _ x _ HOY.out hx0 hu).mono ?_
    rintro e w3 ⟨rfl, hb⟩
    replace hC : Below n0 w w3 := hC.trans (hb.mono (by have := hC.size; omega))
    replace bx := bx.below hb bx.lt
    replace cx := cx.below hb cx.lt
    replace hB := (RS.below hB hb).more hb.size
    replace hS := (RP.below hS hb).more hb.size
    replace hR := (RS.below hR hb).more hb.size
    replace hv := (RS.below hv hb).more hb.size
    replace hown := own_below hown hb
    replace hbw := hbw.trans (hb.mono hbw.size)
    replace hu := (RK.below hu hb).more hb.size
    clear hb
    rw [HAF.out]
    unfold rV
    clear hu
    go_upto_region 11 with fail
    obtain ⟨m1, hm1⟩ : ∃ n, w3.heap.size = n := ⟨_, rfl⟩
    try rw [hm1]
    have hqqx : n0 ≤ m1 := by have := hC.size; omega
    have qx : BK (w3.alloc (.cells #[.int .i64 l1, .int .i64 u1] 33)) (m1) #[.int .i64 l1, .int .i64 u1] 33 := BK.new' _ _ _ (m1) hm1
    have hsqx : (w3.alloc (.cells #[.int .i64 l1, .int .i64 u1] 33)).heap.size = m1 + 1 := by simp [hm1]
    replace hC : Below n0 w (w3.alloc (.cells #[.int .i64 l1, .int .i64 u1] 33)) := Below.alloc hC (by have := hC.size; omega) _
    replace bx := bx.alloc (.cells #[.int .i64 l1, .int .i64 u1] 33)
    replace cx := cx.alloc (.cells #[.int .i64 l1, .int .i64 u1] 33)
    replace hB := (RS.below hB (w' := (w3.alloc (.cells #[.int .i64 l1, .int .i64 u1] 33))) (Below.alloc (Below.refl _ _) (Nat.le_refl _) _)).more (B' := (w3.alloc (.cells #[.int .i64 l1, .int .i64 u1] 33)).heap.size) (by simp)
    replace hS := (RP.below hS (w' := (w3.alloc (.cells #[.int .i64 l1, .int .i64 u1] 33))) (Below.alloc (Below.refl _ _) (Nat.le_refl _) _)).more (B' := (w3.alloc (.cells #[.int .i64 l1, .int .i64 u1] 33)).heap.size) (by simp)
    replace hR := (RS.below hR (w' := (w3.alloc (.cells #[.int .i64 l1, .int .i64 u1] 33))) (Below.alloc (Below.refl _ _) (Nat.le_refl _) _)).more (B' := (w3.alloc (.cells #[.int .i64 l1, .int .i64 u1] 33)).heap.size) (by simp)
    replace hv := (RS.below hv (w' := (w3.alloc (.cells #[.int .i64 l1, .int .i64 u1] 33))) (Below.alloc (Below.refl _ _) (Nat.le_refl _) _)).more (B' := (w3.alloc (.cells #[.int .i64 l1, .int .i64 u1] 33)).heap.size) (by simp)
    replace hown := own_below hown (W' := (w3.alloc (.cells #[.int .i64 l1, .int .i64 u1] 33))) (Below.alloc (Below.refl _ _) (Nat.le_refl _) _)
    replace hbw := hbw.trans ((Below.alloc (Below.refl _ _) (Nat.le_refl _) _ : Below _ _ (w3.alloc (.cells #[.int .i64 l1, .int .i64 u1] 33))).mono hbw.size)
    generalize (w3.alloc (.cells #[.int .i64 l1, .int .i64 u1] 33)) = Wqx at *
    clear hm1
    clear hsqx
    obtain ⟨A', cap', b6, off6, hve, hA, hc⟩ := RR.cells hv
    obtain ⟨rfl, hbb6⟩ := hA (by omega)
    injection hve with q1 q2 q3
    injection q1 with q1
    injection q1 with q4 q5
    subst q4 q5
    obtain ⟨d0, _⟩ := hc (k + 1) hkL
    rw [HX1.out] at d0
    clear hA hc q2 q3
    have lqx := qx.lt
    have qxc0 := qx.cell 0
    have qxc1 := qx.cell 1
    simp at qxc0 qxc1
    go_quiet (fail)
    clear lqx qxc0 qxc1
    have hb : Below Wqx.heap.size Wqx (Wqx.drewN nq) := by exact bel_of
    replace hC : Below n0 w (Wqx.drewN nq) := hC.trans (hb.mono (by have := hC.size; omega))
    replace bx := bx.below hb bx.lt
    replace cx := cx.below hb cx.lt
    replace hB := (RS.below hB hb).more hb.size
    replace hS := (RP.below hS hb).more hb.size
    replace hR := (RS.below hR hb).more hb.size
    replace hv := (RS.below hv hb).more hb.size
    replace hown := own_below hown hb
    replace hbw := hbw.trans (hb.mono hbw.size)
    replace qx := qx.below hb qx.lt
    clear hb
    generalize (Wqx.drewN nq) = W8 at *
    clear d0 hbb6 wk wk2 hmx hkL hkL'
    obtain ⟨v', w9, hrun, hown', hb', hs', _⟩ := app_i64 hown x2 (by rw [HLN.out]; omega) (by have := hbw.size; have := HM0.out; omega) (show Below m0 w1 W8 by rw [← HM0.out]; exact hbw) W8.heap.size rfl
    rw [← HTK.out] at hown'
    have HO2 := Lib.hid hown'
    have HRUN := Lib.hid hrun
    have HC2 := Lib.hid hb'
    clear hrun hown' hb' hs'
    go_wp2_with (at_builtin; refine wpList_append_run rfl (.tmp 52) (.tmp 54) 43 _ rfl HRUN.out ?_)
    go_roundw
    case rel => exact ⟨k + 1, by omega, by go_num, by rw [HST.out], by rw [HST.out, ← HX2.out]; have := HAR.out; omega, HO2.out, HC2.out⟩
    case measure => simp [intOf]; omega
end Go.Proofs.Ytkibdciomheekaa

set_option linter.all false
namespace Go.Proofs.Ytkibdciomheekaa
open Go.RowKit Hp

/-- What is filled, up to a hardness. -/
def fiR (f : Row) (lo x : Nat) : Row := fun y => f y || decide (lo ≤ y ∧ y < x)
theorem fiR_zero (f : Row) (lo : Nat) : fiR f lo lo = f := by
  funext y
  have : decide (lo ≤ y ∧ y < lo) = false := decide_eq_false (by omega)
  simp [fiR, this]
theorem fiR_succ (f : Row) (lo x : Nat) (h : lo ≤ x) : seR (fiR f lo x) x true = fiR f lo (x + 1) := by
  funext y
  unfold seR fiR
  by_cases hy : y = x
  · subst hy
    have : decide (lo ≤ y ∧ y < y + 1) = true := decide_eq_true (by omega)
    simp only [if_true, this, Bool.or_true]
  · rw [if_neg hy]
    have : decide (lo ≤ y ∧ y < x) = decide (lo ≤ y ∧ y < x + 1) := by
      rw [decide_eq_decide]; omega
    rw [this]
theorem fiR_all (f : Row) {lo x : Nat} {hi : Int} (h1 : ¬ (x : Int) ≤ hi) (h2 : x = lo ∨ (x : Int) = hi + 1) : fiR f lo x = flR f ⟨lo, hi⟩ := by
  funext y
  unfold fiR flR inR
  have : decide (lo ≤ y ∧ y < x) = decide ((lo : Int) ≤ (y : Int) ∧ (y : Int) ≤ hi) := by
    rw [decide_eq_decide]; omega
  rw [this]
theorem upd_upd (F : Nat → Row) (i : Nat) (f g : Row) : upd (upd F i f) i g = upd F i g := by
  funext j
  unfold upd
  split <;> rfl
theorem upd_self (F : Nat → Row) (i : Nat) : upd F i (F i) = F := by
  funext j
  unfold upd
  split
  · rename_i h; rw [h]
  · rfl

set_option maxHeartbeats 8000000 in
set_option maxRecDepth 100000 in
theorem fill_any (g n i o : Nat) (t : TypeId) (F : Nat → Row) (a : Rg) (w : World) (hG : Gd w g t n F) (hi : i < n) (ho : o = i * 1001) (h0 : 0 ≤ a.lo) (h9 : a.hi ≤ 1000) (hl : a.lo ≤ 1001) :
    Calls Try.prog 94 #[.pointer (some ⟨g, o, none⟩), rV a] w fun e w' => e = .returned (.tuple #[]) ∧ Gd w' g t n (upd F i (flR (F i) a)) ∧ w.grownBy w' (some g) := by
  obtain ⟨lo, hi2⟩ := a
  dsimp only at h0 h9 hl
  obtain ⟨lo, rfl⟩ : ∃ l : Nat, lo = l := ⟨lo.toNat, by omega⟩
  unfold rV
  obtain ⟨n0, hn0⟩ : ∃ n, w.heap.size = n := ⟨_, rfl⟩
  have hg := hG.lt
  rw [hn0] at hg
  go_enter Try.func94, Try.ntmps94
  go_upto_region 1 with fail
  have bx : BK (w.alloc (.cells #[.int .i64 lo, .int .i64 hi2] 33)) n0 #[.int .i64 lo, .int .i64 hi2] 33 := BK.new' _ _ _ n0 hn0
  have hC : w.grownBy (w.alloc (.cells #[.int .i64 lo, .int .i64 hi2] 33)) (some g) := World.grownBy_alloc w _ _
  replace hG := hG.alloc (.cells #[.int .i64 lo, .int .i64 hi2] 33)
  generalize (w.alloc (.cells #[.int .i64 lo, .int .i64 hi2] 33)) = W1 at *
  have l1 := bx.lt
  have c0 := bx.cell 0
  have c1 := bx.cell 1
  simp at c0 c1
  go_wp2_with fail
  clear l1 c0 c1
  go_loopw [4] (fun v wr => ∃ x : Nat, lo ≤ x ∧ (x = lo ∨ (x : Int) ≤ hi2 + 1) ∧ v = .int .i64 (x : Int) ∧ BK wr n0 #[.int .i64 lo, .int .i64 hi2] 33 ∧ Gd wr g t n (upd F i (fiR (F i) lo x)) ∧ w.grownBy wr (some g)) (fun v _ => (hi2 + 1 - intOf v).toNat)
  case atStart => exact ⟨lo, Nat.le_refl _, .inl rfl, rfl, bx, by rw [fiR_zero, upd_self]; exact hG, hC⟩
  case round =>
    clear hG hC bx
    obtain ⟨x, hx1, hx2, rfl, bx, hG, hC⟩ := hrel
    have l1 := bx.lt
    have c0 := bx.cell 0
    have c1 := bx.cell 1
    simp at c0 c1
    by_cases hlt : (x : Int) ≤ hi2
    case neg =>
      rw [fiR_all (F i) hlt (by omega)] at hG
      go_wp2_with fail
      exact bodyPost_end (results_none rfl _ _ _) rfl ⟨rfl, hG, hC⟩
    have hx9 : x < 1001 := by omega
    have z0 := hG.cell hi hx9
    have f0 := hG.frozen (i * 1001 + x)
    have hgl := hG.lt
    have hxi : (x : Int) < 1001 := by omega
    have ww : IntKind.i64.wrap ((x : Int) + 1) = (x : Int) + 1 := by rw [IntKind.wrap_i64]; omega
    go_wp2_with fail
    have hG2 := hG.set hi hx9 true
    rw [upd_same, upd_upd, fiR_succ _ _ _ hx1] at hG2
    have bx2 := bx.far (p := ⟨g, i * 1001 + x, none⟩) (by show n0 ≠ g; omega) (cel true)
    have hC2 := grown_set hC (i * 1001 + x) (cel true)
    go_roundw
    case rel => exact ⟨x + 1, by omega, .inr (by omega), by go_num, bx2, hG2, hC2⟩
    case measure => simp [intOf]; omega

/-- What is asked, up to a hardness. -/
theorem mtR_none {f : Row} {lo : Nat} {hi : Int} (h : ∀ y : Nat, lo ≤ y → (y : Int) ≤ hi → f y = false) : mtR f ⟨lo, hi⟩ = false := by
  rw [Bool.eq_false_iff]
  intro hm
  obtain ⟨y, h1, h2, h3⟩ := mtR_iff.1 hm
  have h4 := inR_iff.1 h2
  dsimp only at h4
  rw [h y (by omega) h4.2] at h3
  cases h3
set_option maxHeartbeats 8000000 in
set_option maxRecDepth 100000 in
theorem meets_any (g n i o : Nat) (t : TypeId) (F : Nat → Row) (a : Rg) (w : World) (hG : Gd w g t n F) (hi : i < n) (ho : o = i * 1001) (h0 : 0 ≤ a.lo) (h9 : a.hi ≤ 1000) (hl : a.lo ≤ 1001) :
    Calls Try.prog 89 #[.pointer (some ⟨g, o, none⟩), rV a] w fun e w' => e = .returned (.bool (mtR (F i) a)) ∧ Below w.heap.size w w' := by
  obtain ⟨lo, hi2⟩ := a
  dsimp only at h0 h9 hl
  obtain ⟨lo, rfl⟩ : ∃ l : Nat, lo = l := ⟨lo.toNat, by omega⟩
  unfold rV
  obtain ⟨n0, hn0⟩ : ∃ n, w.heap.size = n := ⟨_, rfl⟩
  have hg := hG.lt
  rw [hn0] at hg ⊢
  go_enter Try.func89, Try.ntmps89
  go_upto_region 1 with fail
  have bx : BK (w.alloc (.cells #[.int .i64 lo, .int .i64 hi2] 33)) n0 #[.int .i64 lo, .int .i64 hi2] 33 := BK.new' _ _ _ n0 hn0
  have hC : Below n0 w (w.alloc (.cells #[.int .i64 lo, .int .i64 hi2] 33)) := Below.alloc (Below.refl _ _) (by omega) _
  replace hG := hG.alloc (.cells #[.int .i64 lo, .int .i64 hi2] 33)
  generalize (w.alloc (.cells #[.int .i64 lo, .int .i64 hi2] 33)) = W1 at *
  have l1 := bx.lt
  have c0 := bx.cell 0
  have c1 := bx.cell 1
  simp at c0 c1
  go_wp2_with fail
  go_step3
  go_wp2_with fail
  go_step3
  go_wp2_with fail
  clear l1 c0 c1
  go_loopw [5, 6] (fun f v wr => f = .bool false ∧ ∃ x : Nat, lo ≤ x ∧ (x = lo ∨ (x : Int) ≤ hi2 + 1) ∧ v = .int .i64 (x : Int) ∧ (∀ y : Nat, lo ≤ y → y < x → F i y = false) ∧ BK wr n0 #[.int .i64 lo, .int .i64 hi2] 33 ∧ Gd wr g t n F ∧ Below n0 w wr) (fun _ v _ => (hi2 + 1 - intOf v).toNat)
  case atStart => exact ⟨rfl, lo, Nat.le_refl _, .inl rfl, rfl, fun y h1 h2 => by omega, bx, hG, hC⟩
  case round =>
    clear hG hC bx
    obtain ⟨rfl, x, hx1, hx2, rfl, hno, bx, hG, hC⟩ := hrel
    have HNO := Lib.hid hno
    clear hno
    have l1 := bx.lt
    have c0 := bx.cell 0
    have c1 := bx.cell 1
    simp at c0 c1
    by_cases hlt : (x : Int) ≤ hi2
    case neg =>
      have hr : mtR (F i) ⟨lo, hi2⟩ = false := mtR_none fun y h1 h2 => HNO.out y h1 (by omega)
      have HR := Lib.hid hr
      clear hr
      go_wp2_with fail
      exact bodyPost_ret (v := .bool false) (by simp [results, Try.results89, go_sem]) rfl ⟨by rw [HR.out], hC⟩
    have hx9 : x < 1001 := by omega
    have z0 := hG.cell hi hx9
    have hgl := hG.lt
    have hxi : (x : Int) < 1001 := by omega
    have ww : IntKind.i64.wrap ((x : Int) + 1) = (x : Int) + 1 := by rw [IntKind.wrap_i64]; omega
    unfold cel at z0
    cases hb : F i x with
    | true =>
      rw [hb] at z0
      have hr : mtR (F i) ⟨lo, hi2⟩ = true := mtR_iff.2 ⟨x, hx9, inR_iff.2 ⟨by show (lo : Int) ≤ x; omega, hlt⟩, hb⟩
      have HR := Lib.hid hr
      simp only [if_true] at z0
      clear hr hb
      go_wp2_with fail
      rw [Exit.noGoto_ret]
      exact bodyPost_ret (v := .bool true) (by simp [results, Try.results89, go_sem]) rfl ⟨by rw [HR.out], hC⟩
    | false =>
      rw [hb] at z0
      simp only [Bool.false_eq_true, if_false] at z0
      have HB := Lib.hid hb
      clear hb
      go_wp2_with fail
      go_roundw
      case rel => exact ⟨rfl, x + 1, by omega, .inr (by omega), by go_num, fun y h1 h2 => by
        rcases Nat.lt_succ_iff_lt_or_eq.1 h2 with h2 | rfl
        · exact HNO.out y h1 h2
        · exact HB.out, bx, hG, hC⟩
      case measure => simp [intOf]; omega
end Go.Proofs.Ytkibdciomheekaa

set_option linter.all false
attribute [local go_sem] Go.Oper.semAt_some
namespace Go.Proofs.Ytkibdciomheekaa
open Go.RowKit Hp

theorem egSpans : ∀ args w, (callFunc 95 args).run Try.prog w = .ok (.enter 95 args) w := enters_of Try.func95 (by kernel_rfl) rfl
/-- What the iterator reads. -/
def SpansMem (gx : Nat) (v : Value) (ks : Wy) (W : World) : Prop := BK W gx #[v] 28 ∧ RK W W.heap.size v ks

set_option maxHeartbeats 8000000 in
set_option maxRecDepth 100000 in
theorem spans_any (v : Value) (w : World) : Calls Try.prog 90 #[wV v] w fun e w' => e = .returned (.func (.func 95) #[] #[.pointer (some ⟨w.heap.size, 0, none⟩)]) ∧ BK w' w.heap.size #[v] 28 ∧ Below w.heap.size w w' := by
  unfold wV
  obtain ⟨n0, hn0⟩ : ∃ n, w.heap.size = n := ⟨_, rfl⟩
  rw [hn0]
  go_enter Try.func90, Try.ntmps90
  go_upto_region 1 with fail
  have bx : BK (w.alloc (.cells #[v] 28)) n0 #[v] 28 := BK.new' _ _ _ n0 hn0
  have hC : Below n0 w (w.alloc (.cells #[v] 28)) := Below.alloc (Below.refl _ _) (by omega) _
  generalize (w.alloc (.cells #[v] 28)) = W1 at *
  go_wp2_with fail
  exact bodyPost_ret (v := .func (.func 95) #[] #[.pointer (some ⟨n0, 0, none⟩)]) (by simp [results, Try.results90, go_sem]) rfl ⟨rfl, bx, hC⟩

set_option maxHeartbeats 8000000 in
set_option maxRecDepth 100000 in
theorem spans_iter (T : TypeId → Prop) (gx : Nat) (v : Value) (ks : Wy) (ok : OkW ks) :
    Iter Try.prog 95 #[.pointer (some ⟨gx, 0, none⟩)] (fun i => #[rV (kFrom ks i), rV (kTo ks i)]) ks.length (SpansMem gx v ks) T := by
  intro lp J Jx W hJ hJx hR hY h0
  refine (callsIn_wide (n := 100)).1 ?_
  refine callsIn_of_wp Try.func95 rfl trivial ?_ rfl
  simp only [Try.ntmps95, List.size_toArray, List.length_cons, List.length_nil, Nat.reduceAdd, Nat.reduceSub, Array.replicate_succ, Array.replicate_zero, List.push_toArray, List.append_toArray, List.nil_append, List.cons_append]
  have OK := Lib.hid ok
  have hf := ok.few
  clear ok
  obtain ⟨⟨bx, hK⟩, hz0⟩ := hR 0 W h0
  obtain ⟨A, cap, rfl⟩ := hK.slice
  have lx := bx.lt
  have cx := bx.cell 0
  simp at cx
  clear hK
  gi_wp2
  clear bx lx cx
  gi_loopw [9] (fun i wr => ∃ k : Nat, k ≤ ks.length ∧ i = .int .i64 k ∧ J k wr) (fun i wr => ks.length - (intOf i).toNat)
  case atStart => exact ⟨0, Nat.zero_le _, rfl, h0⟩
  case round =>
    obtain ⟨k, hk, rfl, hJk⟩ := hrel
    clear h0
    by_cases hlt : k < ks.length
    case neg =>
      have hke : k = ks.length := by omega
      subst hke
      have HJ := Lib.hid hJk
      clear hJk
      gi_wp2
      exact bodyPost_end (results_none rfl _ _ _) rfl ⟨⟨_, rfl⟩, .inl HJ.out⟩
    obtain ⟨⟨bx, hK⟩, hz⟩ := hR _ wr hJk
    have hlt' : (k : Int) < (ks.length : Int) := by omega
    obtain ⟨A', cap', b3, off3, hve, hA, hc⟩ := RK.cells hK
    obtain ⟨rfl, hbb3⟩ := hA (by omega)
    injection hve with q1 q2 q3
    subst q1 q3
    obtain ⟨d0, d1, d2⟩ := hc k hlt
    have hs0 := OK.out.src0 hlt
    have hs1 := OK.out.top k hlt
    have HJ := Lib.hid hJk
    clear hJk
    have lx := bx.lt
    have cx := bx.cell 0
    simp at cx
    obtain ⟨n, hn⟩ : ∃ n, wr.heap.size = n := ⟨_, rfl⟩
    have hTo : rV (kTo ks k) = .agg #[.int .i64 (nthK ks k).lo, .int .i64 (nthK ks k).hi] := rfl
    have hFr : rV (kFrom ks k) = .agg #[.int .i64 (nthK ks k).src, .int .i64 (endK ks k)] := rfl
    have wk : IntKind.i64.wrap ((k : Int) + 1) = (k : Int) + 1 := by rw [IntKind.wrap_i64]; omega
    have wk2 : ((k : Int) + 1).toNat = k + 1 := by omega
    have hcn : k + 1 < ks.length → wr.cell? ⟨b3, off3 + (k + 1) * 3, none⟩ = some (.int .i64 (endK ks k + 1)) ∧ -1 ≤ endK ks k ∧ endK ks k ≤ 1000 := fun h => by
      obtain ⟨e0, _⟩ := hc (k + 1) h
      have h1 := OK.out.src0 h
      have h2 := OK.out.top _ h
      have he := endK_in h
      rw [e0, he]
      exact ⟨by congr 2; omega, by omega, by omega⟩
    have hce : ¬ k + 1 < ks.length → endK ks k = 1000 := fun h => endK_last h
    have HCN := Lib.hid hcn
    have HCE := Lib.hid hce
    generalize endK ks k = ek at *
    generalize nthK ks k = kk at *
    have hb1 : Below wr.heap.size wr (wr.alloc (.cells #[.int .i64 kk.src, .int .i64 kk.lo, .int .i64 kk.hi] 92)) := by exact bel_of
    have b1 : BK (wr.alloc (.cells #[.int .i64 kk.src, .int .i64 kk.lo, .int .i64 kk.hi] 92)) n #[.int .i64 kk.src, .int .i64 kk.lo, .int .i64 kk.hi] 92 := BK.new' _ _ _ n hn
    have hJ1 := hJ _ _ _ HJ.out (Adm.below hb1)
    have cxa := (hb1.cell (p := ⟨gx, 0, none⟩) lx).trans cx
    have HB3 := Lib.hid (fun (o : Nat) => hb1.cell (p := ⟨b3, o, none⟩) hbb3)
    have k0 := b1.cell 0
    have k1 := b1.cell 1
    have k2 := b1.cell 2
    simp only [List.getElem?_toArray, List.getElem?_cons_zero, List.getElem?_cons_succ] at k0 k1 k2
    obtain ⟨fn, tmps, assign, body, hy, hRd⟩ := hY k _ 98 hlt hJ1
    rw [hTo, hFr] at hy
    have HRD := Lib.hid hRd
    clear hJ1 HJ hb1 hRd hTo hFr hc hA q2 hcn hce hK bx b1 hs0 hs1 hJ hJx hY hR
    by_cases hn1 : k + 1 < ks.length
    case pos =>
      obtain ⟨e0, we1, we2⟩ := HCN.out hn1
      have we : wrap64 ek = ek := by unfold wrap64; omega
      clear we1 we2
      have e0a := (HB3.out _).trans e0
      have hn2 : (k : Int) + 1 < (ks.length : Int) := by omega
      gi_wp2_with fail
      refine RoundIn.mono (RoundIn.any HRD.out) ?_
      clear HRD hy
      rintro e W3 (⟨rfl, hJ3, hk3⟩ | ⟨rfl, hJ3, hk3⟩)
      · have HX := Lib.hid hJ3
        clear hJ3 hk3
        gi_wp2_with fail
        go_roundw
        case rel => exact ⟨k + 1, by omega, by go_num, HX.out⟩
        case measure => simp [intOf]; omega
      · have HX := Lib.hid hJ3
        clear hJ3 hk3
        gi_wp2_with fail
        repeat (first | refine ⟨fun _ _ => trivial, ?_⟩ | refine ⟨trivial, ?_⟩)
        gi_wp2_with fail
        refine bodyPost_ret (results_none rfl _ _ _) rfl ?_
        exact ⟨⟨_, rfl⟩, .inr ⟨k, hlt, HX.out⟩⟩
    obtain rfl := HCE.out hn1
    have hn2 : ¬ (k : Int) + 1 < (ks.length : Int) := by omega
    gi_wp2_with fail
    refine RoundIn.mono (RoundIn.any HRD.out) ?_
    clear HRD hy
    rintro e W3 (⟨rfl, hJ3, hk3⟩ | ⟨rfl, hJ3, hk3⟩)
    · have HX := Lib.hid hJ3
      clear hJ3 hk3
      gi_wp2_with fail
      go_roundw
      case rel => exact ⟨k + 1, by omega, by go_num, HX.out⟩
      case measure => simp [intOf]; omega
    · have HX := Lib.hid hJ3
      clear hJ3 hk3
      gi_wp2_with fail
      repeat (first | refine ⟨fun _ _ => trivial, ?_⟩ | refine ⟨trivial, ?_⟩)
      gi_wp2_with fail
      refine bodyPost_ret (results_none rfl _ _ _) rfl ?_
      exact ⟨⟨_, rfl⟩, .inr ⟨k, hlt, HX.out⟩⟩
end Go.Proofs.Ytkibdciomheekaa

set_option linter.all false
attribute [local go_sem] Go.Oper.semAt_some
namespace Go.Proofs.Ytkibdciomheekaa
open Go.RowKit Hp

/-- What stands in the frame for a range over a function that has ended. -/
def mk (D : Nat) : Deferred := { target := .collected D, args := #[] }
/-- They are ended all. -/
def putAll : List Nat → World → World
  | [], W => W
  | D :: Ds, W => putAll Ds (W.putObj D (.deferred none))
theorem putAll_other : ∀ (Ds : List Nat) (W : World) (k : Nat), k ∉ Ds → (putAll Ds W).heap[k]? = W.heap[k]?
  | [], _, _, _ => rfl
  | D :: Ds, W, k, h => by
    rw [putAll, putAll_other Ds _ k (fun e => h (by simp [e])), World.putObj_heap_other (fun e => h (by simp [e]))]
theorem putAll_size : ∀ (Ds : List Nat) (W : World), (putAll Ds W).heap.size = W.heap.size
  | [], _ => rfl
  | D :: Ds, W => by rw [putAll, putAll_size Ds]; simp
theorem putAll_below {n : Nat} {w : World} : ∀ (Ds : List Nat) (W : World), Below n w W → (∀ D ∈ Ds, n ≤ D) → Below n w (putAll Ds W)
  | [], _, h, _ => h
  | D :: Ds, W, h, hn => putAll_below Ds _ (below_put h (hn D (by simp)) _) fun D' h' => hn D' (by simp [h'])
/-- The marks of ranges lie. -/
def Marks (Ds : List Nat) (W : World) : Prop := Ds.Nodup ∧ ∀ D ∈ Ds, W.heap[D]? = some (.deferred (some []))
theorem leave_all {P : Program} {fn : Func} {R : Ending → World → Prop} {tmps : Array Value} {v : Value} : ∀ (Ds : List Nat) (W : World), Marks Ds W →
    (∀ W', (results fn tmps).run P W' = .ok v W') → R (.returned v) (putAll Ds W) → bodyPostM Fence.wide 100 P fn R .ret { tmps, defers := Ds.map mk } W := by
  intro Ds
  induction Ds with
  | nil => intro W _ hv hR; exact ⟨v, hv W, hR⟩
  | cons D Ds ih =>
    intro W hM hv hR
    refine ⟨by simp [mk], .inl ⟨_, _, rfl, run_takeDeferred (hM.2 D (by simp)), ?_⟩⟩
    refine ih _ ⟨(List.nodup_cons.1 hM.1).2, fun D' h' => ?_⟩ hv hR
    have hne : D' ≠ D := fun e => (List.nodup_cons.1 hM.1).1 (e ▸ h')
    rw [World.putObj_heap_other hne]
    exact hM.2 D' (by simp [h'])

/-- A loop whose marks of ranges grow: the frame by a function of its places. -/
theorem wp_loop_u {P : Program} {Q : Exit → Act → World → Prop} {a : Act} {w : World} {c : Code} (mkT : (Nat → Value) → Array Value) (J : Nat → (Nat → Value) → List Deferred → World → Prop) (n0 : Nat)
    (h0 : a.tmps = mkT fun j => a.tmps.getD j undef) (hJ : J n0 (fun j => a.tmps.getD j undef) a.defers w)
    (round : ∀ n u ds W, J n u ds W → ∀ K : Act → World → Prop, (∀ n' a' w', n' < n → a'.tmps = mkT (fun j => a'.tmps.getD j undef) → J n' (fun j => a'.tmps.getD j undef) a'.defers w' → K a' w') → c.wp P (Exit.then K Q) { tmps := mkT u, defers := ds } W) : (Code.loop c).wp P Q a w := by
  refine wp_loop_ghost (fun n a X => a.tmps = mkT (fun j => a.tmps.getD j undef) ∧ J n (fun j => a.tmps.getD j undef) a.defers X) n0 ⟨h0, hJ⟩ ?_
  rintro n a X ⟨h1, h2⟩
  have h3 := round n _ _ X h2 _ (fun n' a' w' q1 q2 q3 => (⟨n', q1, q2, q3⟩ : ∃ n', n' < n ∧ a'.tmps = mkT (fun j => a'.tmps.getD j undef) ∧ J n' (fun j => a'.tmps.getD j undef) a'.defers w'))
  rw [← h1] at h3
  exact h3
/-- The statement, the frame of a round by the frame ahead of it. -/
theorem wp_range_a {P : Program} {g : Operand} {ps : Array Tmp} {assign body : Code} {Q : Exit → Act → World → Prop} {a : Act} {w : World}
    {gf : Nat} {lb : Array Value} (hg : a.eval g = .func (.func gf) #[] lb) (eg : ∀ args w, (callFunc gf args).run P w = .ok (.enter gf args) w)
    {enc : Nat → Array Value} {N : Nat} {R : World → Prop} {T : TypeId → Prop} (hit : Iter P gf lb enc N R T) (hps : ∀ i, (enc i).size = ps.size)
    (I : Nat → World → Prop) (Ix : Code → Nat → World → Prop) (AxF : Array Value → Nat → Act → World → Prop) (hr : Rounds P T w.heap.size a.tmps ps assign body enc N I Ix (AxF a.tmps)) (hR : ∀ i W, I i W → R W) (h0 : I 0 w)
    (hdone : ∀ (D : Nat) (W : World), w.heap.size ≤ D → I N W → W.heap[D]? = some (.deferred (some [])) → Q .normal { a with defers := { target := .collected D, args := #[] } :: a.defers } W)
    (hstop : ∀ (D : Nat) (c : Code) (i : Nat) (W : World), w.heap.size ≤ D → i < N → Ix c i W → W.heap[D]? = some (.deferred (some [])) → c.wp P Q { a with defers := { target := .collected D, args := #[] } :: a.defers } W) :
    (Code.rangeFunc g ps assign body).wp P Q a w := wp_range hg eg hit hps I Ix (AxF a.tmps) hr hR h0 hdone hstop

theorem Marks.adm {Ds : List Nat} {B : Nat} {X Y : World} (h : Marks Ds X) (ha : Adm B X Y) (hB : ∀ D ∈ Ds, D < B) : Marks Ds Y := ⟨h.1, fun D hD => ha.obj (h.2 D hD) (hB D hD)⟩


def mkT145 (u : Nat → Value) : Array Value := #[u 0, u 1, u 2, u 3, u 4, u 5, u 6, u 7, u 8, u 9, u 10, u 11, u 12, u 13, u 14, u 15, u 16, u 17, u 18, u 19, u 20, u 21, u 22, u 23, u 24, u 25, u 26, u 27, u 28, u 29, u 30, u 31, u 32, u 33, u 34, u 35, u 36, u 37, u 38, u 39, u 40, u 41, u 42, u 43, u 44, u 45, u 46, u 47, u 48, u 49, u 50, u 51, u 52, u 53, u 54, u 55, u 56, u 57, u 58, u 59, u 60, u 61, u 62, u 63, u 64, u 65, u 66, u 67, u 68, u 69, u 70, u 71, u 72, u 73, u 74, u 75, u 76, u 77, u 78, u 79, u 80, u 81, u 82, u 83, u 84, u 85, u 86, u 87, u 88, u 89, u 90, u 91, u 92, u 93, u 94, u 95, u 96, u 97, u 98, u 99, u 100, u 101, u 102, u 103, u 104, u 105, u 106, u 107, u 108, u 109, u 110, u 111, u 112, u 113, u 114, u 115, u 116, u 117, u 118, u 119, u 120, u 121, u 122, u 123, u 124, u 125, u 126, u 127, u 128, u 129, u 130, u 131, u 132, u 133, u 134, u 135, u 136, u 137, u 138, u 139, u 140, u 141, u 142, u 143, u 144]

/-- A list of rows that grows. -/
def OwnF (W : World) (base : Nat) (v : Value) (L : List Row) : Prop := W.ownsRow base 136 1001 v L.length (ofG rowL L)
theorem OwnF.nil (W : World) (base : Nat) : OwnF W base (.slice none 0 0) [] := ⟨by simp [ofG], .inl ⟨rfl, rfl⟩⟩
theorem row_info : (Try.prog.info? 136).map (fun i => (i.zero, i.size, i.bytes)) = some (some (.agg (Array.replicate 1001 (.int .i8 0))), 1001, 1001) := by kernel_rfl
theorem rows_slice : Try.prog.underlying 138 = some (.slice 136) := by kernel_rfl
theorem zrow_cells : (Value.agg (Array.replicate 1001 (.int .i8 0))).cells.size = 1001 := by simp [Value.cells]
theorem rowL_one' (f : Row) : ∀ u ∈ rowL f, u.oneCell' = true := by
  intro v hv
  simp only [rowL, List.mem_map] at hv
  obtain ⟨h, _, rfl⟩ := hv
  rfl
theorem app_row {W : World} {base g tn : Nat} {v : Value} {L : List Row} {f : Row} (hown : OwnF W base v L) (hg : BK W g (rowL f).toArray tn) (hn : L.length ≤ 1000) (hbase : base ≤ W.heap.size) :
    ∃ g' cap' w2, (Builtin.append_ #[138, 138] 138 #[v, .slice (some ⟨g, 0, none⟩) 1 1]).run Try.prog W = .ok (.slice (some ⟨g', 0, none⟩) (L.length + 1) cap') w2 ∧ OwnF w2 base (.slice (some ⟨g', 0, none⟩) (L.length + 1) cap') (L ++ [f]) ∧ W.grownBy w2 v.ownBlock ∧ (∀ w0 n, n ≤ base → Below n w0 W → Below n w0 w2) := by
  obtain ⟨i0, hi0, hz0, hz1, hz2⟩ := info_parts row_info
  obtain ⟨v', w', hrun, hown', hgr, _, hat⟩ := run_append_own_at (P := Try.prog) W base 138 138 136 i0 _ 1001 1001 rows_slice hi0 hz0 hz1 hz2 zrow_cells (by decide) v _ _ hown ⟨g, 0, none⟩ 1 1 (rowL f) (by rw [rowL_len])
    (fun j u hu => by
      have : (⟨g, 0, none⟩ : Addr).add j = ⟨g, j, none⟩ := by unfold Addr.add; split <;> simp_all
      rw [this, hg.cell j]; simpa using hu) (rowL_one' f) (by unfold maxLen; omega) (by
        have : (L.length + 1) * 1001 ≤ 1001 * 1001 := Nat.mul_le_mul (by omega) (Nat.le_refl _)
        omega) hbase
  obtain ⟨g', cap', rfl⟩ := ownsRow_succ hown'
  refine ⟨g', cap', w', hrun, ?_, hgr, fun w0 n hn hb => Below.grown hb hgr (Nat.le_trans hn hbase) fun k hk => Nat.le_trans hn (hown.lt k hk).1⟩
  unfold OwnF
  rw [← ofG_app, List.length_append]
  exact hown'
theorem ofG_rows {L : List Row} {i x : Nat} (hi : i < L.length) (hx : x < 1001) : (ofG rowL L)[i * 1001 + x]? = some (cel (L.getD i noR x)) := by
  rw [ofG_at rowL_len L i x L[i] (by simp [hi]) hx, rowL_at _ hx, List.getD_eq_getElem?_getD, List.getElem?_eq_getElem hi]
  rfl
/-- What has grown, read as rows of a block. -/
theorem OwnF.gd {W : World} {base : Nat} {v : Value} {L : List Row} (h : OwnF W base v L) (h0 : 0 < L.length) : ∃ g cap, v = .slice (some ⟨g, 0, none⟩) L.length cap ∧ L.length ≤ cap ∧ base ≤ g ∧ Gd W g 136 L.length fun i => L.getD i noR := by
  obtain ⟨hl, h2⟩ := h
  rcases h2 with ⟨rfl, h3⟩ | ⟨g, cap, cur, rfl, hb, hg, hcp, _, hcs, ht⟩
  · omega
  · refine ⟨g, cap, rfl, hcp, hb, cur, hg, ?_, fun i x hi hx => ?_⟩
    · rw [hcs]; exact Nat.mul_le_mul_right _ hcp
    · have h4 := ofG_rows (L := L) hi hx
      have hlt : i * 1001 + x < L.length * 1001 := Nat.lt_of_lt_of_le (by rw [Nat.succ_mul] <;> exact Nat.add_lt_add_left hx _ : i * 1001 + x < (i + 1) * 1001) (Nat.mul_le_mul_right _ hi)
      rw [← ht, List.getElem?_take_of_lt hlt] at h4
      simpa using h4
theorem fold_set : ∀ (xs : List Value) (k : Nat) (cs : Array Value), k + xs.length ≤ cs.size →
    ((xs.zipIdx k).foldl (fun (cs : Array Value) (p : Value × Nat) => cs.setIfInBounds (0 + p.2) p.1) cs).toList = cs.toList.take k ++ xs ++ cs.toList.drop (k + xs.length)
  | [], k, cs, _ => by simp
  | x :: xs, k, cs, h => by
    rw [List.length_cons] at h
    rw [List.zipIdx_cons, List.foldl_cons, fold_set xs (k + 1) _ (by rw [Array.size_setIfInBounds]; omega), Array.toList_setIfInBounds, Nat.zero_add, List.length_cons]
    rw [List.take_succ_eq_append_getElem (by rw [List.length_set, Array.length_toList]; omega), List.take_set_of_le (Nat.le_refl _), List.getElem_set_self, List.drop_set_of_lt (by omega), show k + 1 + xs.length = k + (xs.length + 1) by omega]
    simp
theorem fill_one {size : Nat} (xs : List Value) (cs : Array Value) (h : xs.length = size) (hc : cs.size = size) : Instr.fill (fun i => some (i * size, size)) cs [(0, .agg xs.toArray)] = some xs.toArray := by
  have e : (xs.toArray.zipIdx.foldl (fun (cs : Array Value) (p : Value × Nat) => cs.setIfInBounds (0 + p.2) p.1) cs) = xs.toArray := by
    apply Array.toList_inj.1
    rw [← Array.foldl_toList, Array.toList_zipIdx]
    rw [fold_set xs 0 cs (by omega)]
    rw [Nat.zero_add, List.drop_of_length_le (by rw [Array.length_toList]; omega)]
    simp
  have h1 : (Value.agg xs.toArray).cells = xs.toArray := rfl
  unfold Instr.fill
  simp only [h1, List.size_toArray, h, Nat.zero_mul, ne_eq, not_true_eq_false, decide_false, Bool.false_or, Nat.zero_add, hc]
  rw [if_neg (by simp)]
  unfold Instr.fill
  simp only [Nat.zero_add] at e
  exact congrArg some e
/-- A slice of one row is built. -/
theorem run_build_row (f : Row) (W : World) : (Instr.buildSlice 138 1 #[(0, .agg (rowL f).toArray)]).run Try.prog W = .ok (.slice (some ⟨W.heap.size, 0, none⟩) 1 1) (W.alloc (.cells (rowL f).toArray 136)) := by
  obtain ⟨i0, hi0, hz0, hz1, hz2⟩ := info_parts row_info
  refine run_buildSlice W 138 136 1 _ _ i0 _ rows_slice hi0 hz0 (by rw [hz1]; decide) (by rw [hz1]; decide) ?_
  rw [hz1]
  exact fill_one (rowL f) _ (rowL_len f) (by rw [Array.size_map, Array.size_range])
section
variable {P : Program} {ops : Array Oper} {Q : Exit → Act → World → Prop}
theorem wp_build_run {o : Oper} {a : Act} {w w' : World} {K : Act → World → Prop} (t : TypeId) (len : Nat) (x : Operand) (v : Value) (ho : o.op = .buildSlice t len #[(0, x)])
    (hrun : (Instr.buildSlice t len #[(0, a.eval x)]).run P w = .ok v w') (h : K (a.put o.dst v) w') : o.wp P a w K Q := by
  unfold Oper.wp execOp
  simp only [ho, Sem.run_bind, Sem.run_pure, Result.andThen_ok, List.map_toArray, List.map_cons, List.map_nil, hrun]
  exact h
end
end Go.Proofs.Ytkibdciomheekaa
