/- Truths. The reference's truths; a few small functions. A bench, its places, and the iterator over its links. -/
import Derived.Test.YtkljdbgkhghiaaaP4
import Derived.Test.YtkljdbgkhghiaaaP3
import Derived.Deep.QuietTactic
import Derived.BigQuiet
import Derived.StillTailTactics
import Derived.Deep.RegionHeld3
import Derived.Deep.DeepCutAuto
set_option linter.all false
set_option linter.unnecessarySimpa false
set_option linter.unusedSimpArgs false
set_option linter.unusedVariables false
set_option linter.unusedSectionVars false

namespace Go.Proofs.Ytkljdbgkhghiaaa
open Go.RowKit Kp

def ruleBad (l : List Int) (t : Kt) : Bool := !inB t.lo t.hi (nthI l t.one.toNat - nthI l t.two.toNat)
def truthE (E : Int) (ts : List Kt) (l : List Int) : Int :=
  if bookE E ts ≠ 0 then bookE E ts else if (l.length : Int) ≠ E then 15 else if allIn 0 1000 l = false then 3 else if anyB (ruleBad l) ts = true then 16 else 0
/-- A test's places lie within a list of numbers from 0 to 1000. -/
def fitsT (l : List Int) (t : Kt) : Prop := (0 ≤ t.one ∧ t.one < l.length) ∧ (0 ≤ t.two ∧ t.two < l.length) ∧ ∀ k, k < l.length → 0 ≤ nthI l k ∧ nthI l k ≤ 1000

set_option maxHeartbeats 1000000 in
theorem clo_truth (l : List Int) (t : Kt) (g1 : Nat) (v : Value) (w : World) (hf : fitsT l t) (hll : l.length ≤ 1000) (c1 : w.cell? ⟨g1, 0, none⟩ = some v) (h : RI w w.heap.size v l) :
    Calls Try.prog 76 #[tV t, .pointer (some ⟨g1, 0, none⟩)] w fun x w' => x = .returned (.bool (ruleBad l t)) ∧ Below w.heap.size w w' := by
  have l1 : g1 < w.heap.size := World.block_lt_of_cell? w _ c1
  obtain ⟨⟨f1, f2⟩, ⟨f3, f4⟩, f5⟩ := hf
  obtain ⟨a, ha⟩ : ∃ a : Nat, t.one = a := ⟨t.one.toNat, by omega⟩
  obtain ⟨b, hb⟩ : ∃ b : Nat, t.two = b := ⟨t.two.toNat, by omega⟩
  have hgo : ruleBad l t = !inB t.lo t.hi (nthI l a - nthI l b) := by unfold ruleBad; rw [ha, hb]; rfl
  have HG := Lib.hid hgo
  clear hgo
  obtain ⟨A, cap, bb, off, rfl, hA, hc⟩ := h.cells
  obtain ⟨rfl, hbb⟩ := hA (by omega)
  have d1 := hc a (by omega)
  have d2 := hc b (by omega)
  have o1 := f5 a (by omega)
  have o2 := f5 b (by omega)
  have ww : IntKind.i64.wrap (nthI l a - nthI l b) = nthI l a - nthI l b := by rw [IntKind.wrap_i64]; omega
  have a1 : a < l.length := by omega
  have a2 : b < l.length := by omega
  clear hc hA f5 f1 f2 f3 f4
  unfold tV
  rw [ha, hb]
  have hC : Below w.heap.size w w := Below.refl _ _
  go_enter Try.func76, Try.ntmps76
  go_upto_region 1 with fail
  have bt : BK (w.alloc (.cells #[.int .i64 a, .int .i64 b, .int .i64 t.lo, .int .i64 t.hi] 56)) w.heap.size #[.int .i64 a, .int .i64 b, .int .i64 t.lo, .int .i64 t.hi] 56 := BK.new _ _ _
  replace hC : Below w.heap.size w (w.alloc (.cells #[.int .i64 a, .int .i64 b, .int .i64 t.lo, .int .i64 t.hi] 56)) := Below.alloc hC hC.size _
  generalize (w.alloc (.cells #[.int .i64 a, .int .i64 b, .int .i64 t.lo, .int .i64 t.hi] 56)) = Wbt at *
  obtain ⟨gbt, hgbt⟩ : ∃ g, w.heap.size = g := ⟨_, rfl⟩
  rw [hgbt] at bt
  try rw [hgbt]
  clear hgbt
  rw [← hC.cell (by exact l1)] at c1
  rw [← hC.cell (by exact hbb)] at d1 d2
  have s1 := hC.size
  have m1 : g1 < Wbt.heap.size := by omega
  have m2 : bb < Wbt.heap.size := by omega
  have lbt := bt.lt
  have btc0 := bt.cell 0
  have btc1 := bt.cell 1
  have btc2 := bt.cell 2
  have btc3 := bt.cell 3
  simp at btc0 btc1 btc2 btc3
  refine wp_region_noPanic (plain_any [0, 1, 2, 3, 4, 5, 6, 7, 8, 9, 10, 11, 12, 13, 14, 15, 16, 19] (Below Wbt.heap.size Wbt) mixed ?_)
  (refine any_take 0 ?_ (by rfl) (by kernel_rfl) (fun _ _ _ _ _ hx => hx.elim) (.inl ⟨by rfl, ?_⟩) (by exact bel_of) ?_; rotate_left; (intro X hX; obtain ⟨r1, r2⟩ := Below.rules hX; clear hX; go_simp; rfl); simp only [List.getElem_toArray, List.getElem_cons_succ, List.getElem_cons_zero, Act.put, List.setIfInBounds_toArray, List.set_cons_succ, List.set_cons_zero])
  (refine any_take 1 ?_ (by rfl) (by kernel_rfl) (fun _ _ _ _ _ hx => hx.elim) (.inl ⟨by rfl, ?_⟩) (by exact bel_of) ?_; rotate_left; (intro X hX; obtain ⟨r1, r2⟩ := Below.rules hX; clear hX; go_simp; rfl); simp only [List.getElem_toArray, List.getElem_cons_succ, List.getElem_cons_zero, Act.put, List.setIfInBounds_toArray, List.set_cons_succ, List.set_cons_zero])
  (refine any_take 2 ?_ (by rfl) (by kernel_rfl) (fun _ _ _ _ _ hx => hx.elim) (.inl ⟨by rfl, ?_⟩) (by exact bel_of) ?_; rotate_left; (intro X hX; obtain ⟨r1, r2⟩ := Below.rules hX; clear hX; go_simp; rfl); simp only [List.getElem_toArray, List.getElem_cons_succ, List.getElem_cons_zero, Act.put, List.setIfInBounds_toArray, List.set_cons_succ, List.set_cons_zero])
  (refine any_take 3 ?_ (by rfl) (by kernel_rfl) (fun _ _ _ _ _ hx => hx.elim) (.inl ⟨by rfl, ?_⟩) (by exact bel_of) ?_; rotate_left; (intro X hX; obtain ⟨r1, r2⟩ := Below.rules hX; clear hX; go_simp; rfl); simp only [List.getElem_toArray, List.getElem_cons_succ, List.getElem_cons_zero, Act.put, List.setIfInBounds_toArray, List.set_cons_succ, List.set_cons_zero])
  (refine any_take 4 ?_ (by rfl) (by kernel_rfl) (fun _ _ _ _ _ hx => hx.elim) (.inl ⟨by rfl, ?_⟩) (by exact bel_of) ?_; rotate_left; (intro X hX; obtain ⟨r1, r2⟩ := Below.rules hX; clear hX; go_simp; rfl); simp only [List.getElem_toArray, List.getElem_cons_succ, List.getElem_cons_zero, Act.put, List.setIfInBounds_toArray, List.set_cons_succ, List.set_cons_zero])
  (refine any_take 5 ?_ (by rfl) (by kernel_rfl) (fun _ _ _ _ _ hx => hx.elim) (.inl ⟨by rfl, ?_⟩) (by exact bel_of) ?_; rotate_left; (intro X hX; obtain ⟨r1, r2⟩ := Below.rules hX; clear hX; go_simp; rfl); simp only [List.getElem_toArray, List.getElem_cons_succ, List.getElem_cons_zero, Act.put, List.setIfInBounds_toArray, List.set_cons_succ, List.set_cons_zero])
  (refine any_take 6 ?_ (by rfl) (by kernel_rfl) (fun _ _ _ _ _ hx => hx.elim) (.inl ⟨by rfl, ?_⟩) (by exact bel_of) ?_; rotate_left; (intro X hX; obtain ⟨r1, r2⟩ := Below.rules hX; clear hX; go_simp; rfl); simp only [List.getElem_toArray, List.getElem_cons_succ, List.getElem_cons_zero, Act.put, List.setIfInBounds_toArray, List.set_cons_succ, List.set_cons_zero])
  (refine any_take 7 ?_ (by rfl) (by kernel_rfl) (fun _ _ _ _ _ hx => hx.elim) (.inl ⟨by rfl, ?_⟩) (by exact bel_of) ?_; rotate_left; (intro X hX; obtain ⟨r1, r2⟩ := Below.rules hX; clear hX; go_simp; rfl); simp only [List.getElem_toArray, List.getElem_cons_succ, List.getElem_cons_zero, Act.put, List.setIfInBounds_toArray, List.set_cons_succ, List.set_cons_zero])
  (refine any_take 8 ?_ (by rfl) (by kernel_rfl) (fun _ _ _ _ _ hx => hx.elim) (.inl ⟨by rfl, ?_⟩) (by exact bel_of) ?_; rotate_left; (intro X hX; obtain ⟨r1, r2⟩ := Below.rules hX; clear hX; go_simp; rfl); simp only [List.getElem_toArray, List.getElem_cons_succ, List.getElem_cons_zero, Act.put, List.setIfInBounds_toArray, List.set_cons_succ, List.set_cons_zero])
  (refine any_take 9 ?_ (by rfl) (by kernel_rfl) (fun _ _ _ _ _ hx => hx.elim) (.inl ⟨by rfl, ?_⟩) (by exact bel_of) ?_; rotate_left; (intro X hX; obtain ⟨r1, r2⟩ := Below.rules hX; clear hX; go_simp; rfl); simp only [List.getElem_toArray, List.getElem_cons_succ, List.getElem_cons_zero, Act.put, List.setIfInBounds_toArray, List.set_cons_succ, List.set_cons_zero])
  (refine any_take 10 ?_ (by rfl) (by kernel_rfl) (fun _ _ _ _ _ hx => hx.elim) (.inl ⟨by rfl, ?_⟩) (by exact bel_of) ?_; rotate_left; (intro X hX; obtain ⟨r1, r2⟩ := Below.rules hX; clear hX; go_simp; rfl); simp only [List.getElem_toArray, List.getElem_cons_succ, List.getElem_cons_zero, Act.put, List.setIfInBounds_toArray, List.set_cons_succ, List.set_cons_zero])
  (refine any_take 11 ?_ (by rfl) (by kernel_rfl) (fun _ _ _ _ _ hx => hx.elim) (.inl ⟨by rfl, ?_⟩) (by exact bel_of) ?_; rotate_left; (intro X hX; obtain ⟨r1, r2⟩ := Below.rules hX; clear hX; go_simp; rfl); simp only [List.getElem_toArray, List.getElem_cons_succ, List.getElem_cons_zero, Act.put, List.setIfInBounds_toArray, List.set_cons_succ, List.set_cons_zero])
  (refine any_take 12 ?_ (by rfl) (by kernel_rfl) (fun _ _ _ _ _ hx => hx.elim) (.inl ⟨by rfl, ?_⟩) (by exact bel_of) ?_; rotate_left; (intro X hX; obtain ⟨r1, r2⟩ := Below.rules hX; clear hX; go_simp; rfl); simp only [List.getElem_toArray, List.getElem_cons_succ, List.getElem_cons_zero, Act.put, List.setIfInBounds_toArray, List.set_cons_succ, List.set_cons_zero])
  (refine any_take 13 ?_ (by rfl) (by kernel_rfl) (fun _ _ _ _ _ hx => hx.elim) (.inl ⟨by rfl, ?_⟩) (by exact bel_of) ?_; rotate_left; (intro X hX; obtain ⟨r1, r2⟩ := Below.rules hX; clear hX; go_simp; rfl); simp only [List.getElem_toArray, List.getElem_cons_succ, List.getElem_cons_zero, Act.put, List.setIfInBounds_toArray, List.set_cons_succ, List.set_cons_zero])
  (refine any_take 14 ?_ (by rfl) (by kernel_rfl) (fun _ _ _ _ _ hx => hx.elim) (.inl ⟨by rfl, ?_⟩) (by exact bel_of) ?_; rotate_left; (intro X hX; obtain ⟨r1, r2⟩ := Below.rules hX; clear hX; go_simp; rfl); simp only [List.getElem_toArray, List.getElem_cons_succ, List.getElem_cons_zero, Act.put, List.setIfInBounds_toArray, List.set_cons_succ, List.set_cons_zero])
  (refine any_take 15 ?_ (by rfl) (by kernel_rfl) (fun _ _ _ _ _ hx => hx.elim) (.inl ⟨by rfl, ?_⟩) (by exact bel_of) ?_; rotate_left; (intro X hX; obtain ⟨r1, r2⟩ := Below.rules hX; clear hX; go_simp; rfl); simp only [List.getElem_toArray, List.getElem_cons_succ, List.getElem_cons_zero, Act.put, List.setIfInBounds_toArray, List.set_cons_succ, List.set_cons_zero])
  (refine any_take 16 ?_ (by rfl) (by kernel_rfl) (fun _ _ _ _ _ hx => hx.elim) (.inl ⟨by rfl, ?_⟩) (by exact bel_of) ?_; rotate_left; (intro X hX; obtain ⟨r1, r2⟩ := Below.rules hX; clear hX; go_simp; rfl); simp only [List.getElem_toArray, List.getElem_cons_succ, List.getElem_cons_zero, Act.put, List.setIfInBounds_toArray, List.set_cons_succ, List.set_cons_zero])
  have d0z : Below Wbt.heap.size Wbt Wbt.drew := by exact bel_of
  have qz1 := d0z.size
  have ez1 : Below Wbt.heap.size Wbt (Wbt.drew.alloc (.cells #[.int .i64 (nthI l a - nthI l b)] 2)) := by exact bel_of
  refine any_run1 (i := 17) (by kernel_rfl) (by rfl) (by kernel_rfl) ?_
  intro K hK
  go_wp2_with fail
  refine hK _ _ (fun _ => ez1) ?_
  clear hK K
  have qz2 := ez1.size
  refine any_run1 (i := 18) (by kernel_rfl) (by rfl) (by kernel_rfl) ?_
  intro K hK
  go_wp2_with fail
  refine (within_1c _ _ (nthI l a - nthI l b) _ _ (by simp) (by simp)).mono ?_
  rintro e vz2 ⟨rfl, hb⟩
  have ez2 : Below Wbt.heap.size Wbt vz2 := ez1.trans (hb.mono ez1.size)
  clear hb
  refine hK _ _ (fun _ => ez2) ?_
  clear hK K
  (refine any_take 19 ?_ (by rfl) (by kernel_rfl) (fun _ _ _ _ _ hx => hx.elim) (.inl ⟨by rfl, ?_⟩) (by exact bel_of) ?_; rotate_left; (intro X hX; obtain ⟨r1, r2⟩ := Below.rules hX; clear hX; go_simp; rfl); simp only [List.getElem_toArray, List.getElem_cons_succ, List.getElem_cons_zero, Act.put, List.setIfInBounds_toArray, List.set_cons_succ, List.set_cons_zero])
  refine any_run1 (i := 20) (by kernel_rfl) (by rfl) (by kernel_rfl) ?_
  intro K hK
  go_wp2_with fail
  refine hK _ _ (fun _ => ez2) ?_
  clear hK K
  refine any_done (by kernel_rfl) (NoPanic.normal ?_)
  go_wp2_with fail
  go_ret
  exact ⟨by rw [HG.out]; rfl, hC.trans (ez2.mono s1)⟩

/-- The first place of a test for which it holds, -1 if there is none. -/
theorem idx_truth (l : List Int) (g1 : Nat) (u : Value) (ts : List Kt) (v : Value) (w : World) (hl : ts.length ≤ 1000) (h : RT w w.heap.size v ts) (hf : ∀ k, k < ts.length → fitsT l (nthT ts k)) (hll : l.length ≤ 1000) (c1 : w.cell? ⟨g1, 0, none⟩ = some u) (hu : RI w w.heap.size u l) :
    Calls Try.prog 82 #[v, .func (.func 76) #[] #[.pointer (some ⟨g1, 0, none⟩)]] w fun x w' => (∃ r : Int, x = .returned (.int .i64 r) ∧ (0 ≤ r ↔ anyB (fun t => ruleBad l t) ts = true)) ∧ Below w.heap.size w w' := by
  obtain ⟨A, cap, b, off, rfl, hA, hc⟩ := h.cells
  go_enter Try.func82, Try.ntmps82
  go_wp2_with fail
  go_loopw [8] (fun i wr => ∃ k : Nat, k ≤ ts.length ∧ i = .int .i64 k ∧ Below w.heap.size w wr ∧ ∀ j, j < k → (fun t => ruleBad l t) (nthT ts j) = false) (fun i _ => ts.length - (intOf i).toNat)
  case atStart => exact ⟨0, Nat.zero_le _, rfl, Below.refl _ _, fun j hj => absurd hj (by omega)⟩
  case round =>
    obtain ⟨k, hk, rfl, hbw, hall⟩ := hrel
    have HA := Lib.hid hall; clear hall
    by_cases hlt : k < ts.length
    · obtain ⟨rfl, hb⟩ := hA (by omega)
      have hck := hc k hlt
      rw [← hbw.cell (by exact hb), ← hbw.cell (by exact hb), ← hbw.cell (by exact hb), ← hbw.cell (by exact hb)] at hck
      obtain ⟨d1, d2, d3, d4⟩ := hck
      have hbb : b < wr.heap.size := Nat.lt_of_lt_of_le hb hbw.size
      have HCl := fun W (hW : Below wr.heap.size wr W) => clo_truth l (nthT ts k) g1 u W (hf k hlt) hll (by rw [(hbw.trans (hW.mono hbw.size)).cell (by exact World.block_lt_of_cell? w _ c1)]; exact c1) ((RS.below hu (hbw.trans (hW.mono hbw.size))).more (hbw.trans (hW.mono hbw.size)).size)
      have HCL := Lib.hid HCl; clear HCl
      clear hc c1 hu hf
      unfold tV at HCL
      cases e1 : (fun t => ruleBad l t) (nthT ts k) with
      | false =>
        have E1 := Lib.hid e1
        dsimp only at e1
        rw [e1] at HCL
        clear e1
        go_wp2_with fail
        refine (HCL.out _ (by exact bel_of)).mono ?_
        rintro e w1 ⟨rfl, hb1⟩
        have hb2 : Below w.heap.size w w1 := hbw.trans (hb1.mono hbw.size)
        clear hb1
        go_wp2_with fail
        go_roundw
        case rel => exact ⟨k + 1, by omega, by go_num, hb2, fun j hj => by
          rcases Nat.lt_succ_iff_lt_or_eq.1 hj with h | rfl
          · exact HA.out j h
          · exact E1.out⟩
        case measure => simp [intOf]; omega
      | true =>
        have E1 := Lib.hid e1
        dsimp only at e1
        rw [e1] at HCL
        clear e1
        go_wp2_with fail
        refine (HCL.out _ (by exact bel_of)).mono ?_
        rintro e w1 ⟨rfl, hb1⟩
        have hb2 : Below w.heap.size w w1 := hbw.trans (hb1.mono hbw.size)
        clear hb1
        go_wp2_with fail
        go_ret
        refine ⟨⟨k, rfl, ⟨fun _ => ?_, fun _ => by omega⟩⟩, hb2⟩
        exact (anyB_iff _ ts).2 ⟨k, hlt, E1.out⟩
    · go_wp2
      go_ret
      refine ⟨⟨-1, rfl, ⟨fun h => absurd h (by omega), fun h => ?_⟩⟩, hbw⟩
      exfalso
      obtain ⟨j, hj, hp⟩ := (anyB_iff _ ts).1 h
      have := HA.out j (by omega)
      rw [this] at hp
      cases hp

theorem has_truth (l : List Int) (g1 : Nat) (u : Value) (ts : List Kt) (v : Value) (w : World) (hl : ts.length ≤ 1000) (h : RT w w.heap.size v ts) (hf : ∀ k, k < ts.length → fitsT l (nthT ts k)) (hll : l.length ≤ 1000) (c1 : w.cell? ⟨g1, 0, none⟩ = some u) (hu : RI w w.heap.size u l) :
    Calls Try.prog 74 #[v, .func (.func 76) #[] #[.pointer (some ⟨g1, 0, none⟩)]] w fun x w' => x = .returned (.bool (anyB (fun t => ruleBad l t) ts)) ∧ Below w.heap.size w w' := by
  go_enter Try.func74, Try.ntmps74
  go_wp2_with fail
  refine (idx_truth l g1 u ts v _ hl h hf hll c1 hu).mono ?_
  rintro e w1 ⟨⟨r, rfl, hr⟩, hb⟩
  have Hr := Lib.hid hr; clear hr
  go_wp2_with fail
  go_ret
  refine ⟨?_, hb⟩
  have : decide (0 ≤ r) = anyB (fun t => ruleBad l t) ts := by rw [Bool.eq_iff_iff, decide_eq_true_eq]; exact Hr.out
  show Ending.returned (.bool (decide (0 ≤ r))) = _
  rw [this]

theorem nthT_mem {ts : List Kt} {k : Nat} (h : k < ts.length) : nthT ts k ∈ ts := by
  unfold nthT; rw [List.getD_eq_getElem?_getD, List.getElem?_eq_getElem h]; exact List.getElem_mem h
/-- A book without an error has numbers as it should. -/
theorem bookE_ok {E : Int} {ts : List Kt} (h : bookE E ts = 0) : ∃ n : Nat, E = n ∧ Okb n ts ∧ ts.length ≤ 40 := by
  rw [bookE_eq] at h
  split at h
  · omega
  · rename_i h0
    split at h
    · omega
    · rename_i h2
      split at h
      · omega
      · rename_i h3
        have hz : ∀ k, k < ts.length → testE E (nthT ts k) = 0 := by
          intro k hk
          rcases testE_cases E (nthT ts k) with q | q | q
          · exact q
          · exact absurd ((anyB_iff _ ts).2 ⟨k, hk, by rw [q]; rfl⟩) h2
          · exact absurd ((anyB_iff _ ts).2 ⟨k, hk, by rw [q]; rfl⟩) h3
        refine ⟨E.toNat, by omega, ⟨by omega, by omega, fun t ht => ?_⟩, by omega⟩
        obtain ⟨k, hk, rfl⟩ := List.getElem_of_mem ht
        have := hz k hk
        unfold nthT at this
        rw [List.getD_eq_getElem?_getD, List.getElem?_eq_getElem hk, Option.getD_some] at this
        unfold testE at this
        split at this
        · omega
        · rename_i ha
          split at this
          · omega
          · rename_i hr
            simp [argBad, inB] at ha
            simp [rngBad, inB] at hr
            omega
theorem of_bookE {n : Nat} {ts : List Kt} (h : Okb n ts) (hl : ts.length ≤ 40) : bookE n ts = 0 := by
  have hz : ∀ k, k < ts.length → testE n (nthT ts k) = 0 := by
    intro k hk
    obtain ⟨q1, q2, q3, q4, q5, q6, q7, q8⟩ := h.tst _ (nthT_mem hk)
    unfold testE
    rw [if_neg (by simp [argBad, inB]; omega), if_neg (by simp [rngBad, inB]; omega)]
  have := h.pos
  have := h.few
  rw [bookE_eq, if_neg (by omega), anyB_not (fun k hk => by rw [hz k hk]; rfl), anyB_not (fun k hk => by rw [hz k hk]; rfl)]
  simp
theorem fits_all {E : Int} {ts : List Kt} {l : List Int} (hb : bookE E ts = 0) (hl : (l.length : Int) = E) (hr : allIn 0 1000 l = true) : ∀ k, k < ts.length → fitsT l (nthT ts k) := by
  intro k hk
  obtain ⟨n, rfl, ho, _⟩ := bookE_ok hb
  obtain ⟨q1, q2, q3, q4, _⟩ := ho.tst _ (nthT_mem hk)
  refine ⟨⟨q1, by omega⟩, ⟨q3, by omega⟩, fun j hj => ?_⟩
  exact (inB_iff _ _ _).1 ((allIn_iff _ _ _).1 hr j hj)

set_option maxHeartbeats 1000000 in
theorem checkTruth_any (E : Int) (ts : List Kt) (l : List Int) (v u : Value) (w : World) (hl : ts.length ≤ 1000) (hll : l.length ≤ 1000) (h : RT w w.heap.size v ts) (hu : RI w w.heap.size u l) :
    Calls Try.prog 53 #[.agg #[.int .i64 E, v], u] w fun x w' => x = .returned (.int .i64 (truthE E ts l)) ∧ Below w.heap.size w w' := by
  have hgo : truthE E ts l = if bookE E ts ≠ 0 then bookE E ts else if (l.length : Int) ≠ E then 15 else if allIn 0 1000 l = false then 3 else if anyB (ruleBad l) ts = true then 16 else 0 := rfl
  have HG := Lib.hid hgo
  clear hgo
  have hs := h.cells
  obtain ⟨A, cap, b, off, rfl, _, _⟩ := hs
  have hs := hu.cells
  obtain ⟨A', cap', b', off', rfl, _, _⟩ := hs
  have HR := Lib.hid h
  have HU := Lib.hid hu
  clear h hu
  have hC : Below w.heap.size w w := Below.refl _ _
  go_enter Try.func53, Try.ntmps53
  go_wp2_with fail
  have hC2 : Below w.heap.size w ((w.alloc (.cells #[.int .i64 E, .slice A ts.length cap] 24)).alloc (.cells #[.slice A' l.length cap'] 40)) := by exact bel_of
  obtain ⟨gb, hn⟩ : ∃ n, w.heap.size = n := ⟨_, rfl⟩
  have bB : BK ((w.alloc (.cells #[.int .i64 E, .slice A ts.length cap] 24)).alloc (.cells #[.slice A' l.length cap'] 40)) gb #[.int .i64 E, .slice A ts.length cap] 24 := (BK.new' _ _ _ gb hn).alloc _
  have bU : BK ((w.alloc (.cells #[.int .i64 E, .slice A ts.length cap] 24)).alloc (.cells #[.slice A' l.length cap'] 40)) (gb + 1) #[.slice A' l.length cap'] 40 := BK.new' _ _ _ (gb + 1) (by simp [hn])
  rw [hn]
  generalize (w.alloc (.cells #[.int .i64 E, .slice A ts.length cap] 24)).alloc (.cells #[.slice A' l.length cap'] 40) = W1 at *
  replace hC := hC2
  clear hC2 hn
  refine (checkBook_any E ts _ _ hl ((RS.below HR.out hC).more hC.size)).mono ?_
  rintro x w1 ⟨rfl, hb1⟩
  replace hC : Below w.heap.size w w1 := hC.trans (hb1.mono hC.size)
  replace bB := bB.below hb1 bB.lt
  replace bU := bU.below hb1 bU.lt
  clear hb1
  obtain ⟨e, he⟩ : ∃ e, bookE E ts = e := ⟨_, rfl⟩
  have HE := Lib.hid he
  rw [he]
  clear he
  have lB := bB.lt
  have y0 := bB.cell 0
  have y1 := bB.cell 1
  have lU := bU.lt
  have u0 := bU.cell 0
  simp at y0 y1 u0
  by_cases h0 : e = 0
  · subst h0
    by_cases h1 : (l.length : Int) = E
    · have b1 : ((l.length : Int) != E) = false := by simp [h1]
      have H1 := Lib.hid h1
      clear h1
      go_wp2_with fail
      refine (within_any 0 1000 l _ w1.heap.size _ (Nat.le_refl _) hll ((RS.below HU.out hC).more hC.size)).mono ?_
      rintro x w2 ⟨rfl, hb⟩
      have hb2 : Below w1.heap.size w1 w2 := by rw [← hb]; exact bel_of
      clear hb
      replace hC : Below w.heap.size w w2 := hC.trans (hb2.mono hC.size)
      replace bB := bB.below hb2 bB.lt
      replace bU := bU.below hb2 bU.lt
      clear hb2 lB y0 y1 lU u0
      have lB := bB.lt
      have y0 := bB.cell 0
      have y1 := bB.cell 1
      have lU := bU.lt
      have u0 := bU.cell 0
      simp at y0 y1 u0
      cases e2 : allIn 0 1000 l with
      | false =>
        have HS := Lib.hid (show truthE E ts l = 3 by rw [HG.out, if_neg (by rw [HE.out]; simp), if_neg (by rw [H1.out]; simp), if_pos e2])
        go_wp2_with fail
        go_ret
        exact ⟨ret_int HS.out.symm, hC⟩
      | true =>
        have HF := Lib.hid (fits_all HE.out H1.out e2)
        have HG2 := Lib.hid (HG.out.trans (by rw [if_neg (by rw [HE.out]; simp), if_neg (by rw [H1.out]; simp), if_neg (by rw [e2]; simp)]))
        clear HG
        go_wp2_with fail
        refine (has_truth l (gb + 1) (.slice A' l.length cap') ts _ _ hl ((RS.below HR.out hC).more hC.size) HF.out hll u0 ((RS.below HU.out hC).more hC.size)).mono ?_
        rintro x w3 ⟨rfl, hb⟩
        replace hC : Below w.heap.size w w3 := hC.trans (hb.mono hC.size)
        cases e3 : anyB (ruleBad l) ts with
        | true =>
          have HS := Lib.hid (HG2.out.trans (if_pos e3))
          have e3' : anyB (fun t => ruleBad l t) ts = true := e3
          go_wp2_with fail
          go_ret
          exact ⟨ret_int HS.out.symm, hC⟩
        | false =>
          have HS := Lib.hid (HG2.out.trans (if_neg (by rw [e3]; simp)))
          have e3' : anyB (fun t => ruleBad l t) ts = false := e3
          go_wp2_with fail
          go_ret
          exact ⟨ret_int HS.out.symm, hC⟩
    · have b1 : ((l.length : Int) != E) = true := by simp [h1]
      have HS := Lib.hid (show truthE E ts l = 15 by rw [HG.out, if_neg (by rw [HE.out]; simp), if_pos h1])
      clear h1
      go_wp2_with fail
      go_ret
      exact ⟨ret_int HS.out.symm, hC⟩
  · have b1 : (e != 0) = true := by simp [h0]
    have HS := Lib.hid (show truthE E ts l = e by rw [HG.out, if_pos (by rw [HE.out]; exact h0), HE.out])
    clear h0
    go_wp2_with fail
    go_ret
    exact ⟨ret_int HS.out.symm, hC⟩
end Go.Proofs.Ytkljdbgkhghiaaa

namespace Go.Proofs.Ytkljdbgkhghiaaa
open Go.RowKit Kp

theorem allIn_false {lo hi : Int} {l : List Int} {k : Nat} (hk : k < l.length) (h : inB lo hi (nthI l k) = false) : allIn lo hi l = false := by
  rw [← Bool.not_eq_true, allIn_iff]
  intro hq
  rw [hq k hk] at h; cases h

set_option maxHeartbeats 2000000 in
theorem refTruth_any (E : Int) (ts : List Kt) (l : List Int) (v u : Value) (w : World) (hl : ts.length ≤ 1000) (hll : l.length ≤ 1000) (h : RT w w.heap.size v ts) (hu : RI w w.heap.size u l) :
    Calls Try.prog 28 #[.agg #[.int .i64 E, v], u] w fun x w' => x = .returned (.int .i64 (truthE E ts l)) ∧ Below w.heap.size w w' := by
  have hgo : truthE E ts l = if bookE E ts ≠ 0 then bookE E ts else if (l.length : Int) ≠ E then 15 else if allIn 0 1000 l = false then 3 else if anyB (ruleBad l) ts = true then 16 else 0 := rfl
  have HG := Lib.hid hgo
  clear hgo
  obtain ⟨A, cap, b, off, rfl, hA, hc⟩ := h.cells
  obtain ⟨A', cap', b', off', rfl, hA', hc'⟩ := hu.cells
  have HR := Lib.hid h
  have HA := Lib.hid hA
  have HC := Lib.hid hc
  have HA' := Lib.hid hA'
  have HC' := Lib.hid hc'
  clear h hu hA hc hA' hc'
  have hC : Below w.heap.size w w := Below.refl _ _
  go_enter Try.func28, Try.ntmps28
  go_wp2_with fail
  have bB : BK (w.alloc (.cells #[.int .i64 E, .slice A ts.length cap] 24)) w.heap.size #[.int .i64 E, .slice A ts.length cap] 24 := BK.new _ _ _
  replace hC : Below w.heap.size w (w.alloc (.cells #[.int .i64 E, .slice A ts.length cap] 24)) := Below.alloc hC hC.size _
  generalize (w.alloc (.cells #[.int .i64 E, .slice A ts.length cap] 24)) = WbB at *
  obtain ⟨gbB, hgbB⟩ : ∃ g, w.heap.size = g := ⟨_, rfl⟩
  rw [hgbB] at bB
  try rw [hgbB]
  clear hgbB
  refine (refBook_any E ts _ _ hl ((RS.below HR.out hC).more hC.size)).mono ?_
  rintro x w1 ⟨rfl, hb1⟩
  replace hC : Below w.heap.size w w1 := hC.trans (hb1.mono hC.size)
  replace bB := bB.below hb1 bB.lt
  clear hb1
  obtain ⟨e, he⟩ : ∃ e, bookE E ts = e := ⟨_, rfl⟩
  have HE := Lib.hid he
  rw [he]
  clear he
  have lB := bB.lt
  have y0 := bB.cell 0
  have y1 := bB.cell 1
  simp at y0 y1
  by_cases h0 : e = 0
  case neg =>
    have b1 : (e != 0) = true := by simp [h0]
    have HS := Lib.hid (show truthE E ts l = e by rw [HG.out, if_pos (by rw [HE.out]; exact h0), HE.out])
    clear h0
    go_wp2_with fail
    refine (refBook_any E ts _ _ hl ((RS.below HR.out hC).more hC.size)).mono ?_
    rintro x w2 ⟨rfl, hb1⟩
    replace hC : Below w.heap.size w w2 := hC.trans (hb1.mono hC.size)
    replace bB := bB.below hb1 bB.lt
    clear hb1
    have H2 := HE.out
    rw [H2]
    go_wp2_with fail
    go_ret
    exact ⟨ret_int HS.out.symm, hC⟩
  subst h0
  by_cases h1 : (l.length : Int) = E
  case neg =>
    have b1 : ((l.length : Int) != E) = true := by simp [h1]
    have HS := Lib.hid (show truthE E ts l = 15 by rw [HG.out, if_neg (by rw [HE.out]; simp), if_pos h1])
    clear h1
    go_wp2_with fail
    go_ret
    exact ⟨ret_int HS.out.symm, hC⟩
  have b1 : ((l.length : Int) != E) = false := by simp [h1]
  have H1 := Lib.hid h1
  clear h1
  have HG2 := Lib.hid (HG.out.trans (by rw [if_neg (by rw [HE.out]; simp), if_neg (by rw [H1.out]; simp)]))
  clear HG
  go_wp2_with fail
  go_loopw [5] (fun i wr => ∃ k : Nat, k ≤ l.length ∧ i = .int .i64 k ∧ w1 = wr ∧ ∀ j, j < k → inB 0 1000 (nthI l j) = true) (fun i _ => l.length - (intOf i).toNat)
  case atStart => exact ⟨0, Nat.zero_le _, rfl, rfl, fun j hj => absurd hj (by omega)⟩
  case round =>
    obtain ⟨k, hk, rfl, rfl, hall⟩ := hrel
    have HAL := Lib.hid hall; clear hall
    by_cases hlt : k < l.length
    · obtain ⟨rfl, hb⟩ := HA'.out (by omega)
      have hck := HC'.out k hlt
      rw [← hC.cell (by exact hb)] at hck
      have hbb : b' < w1.heap.size := Nat.lt_of_lt_of_le hb hC.size
      rcases (show nthI l k < 0 ∨ (¬ nthI l k < 0 ∧ 1000 < nthI l k) ∨ (¬ nthI l k < 0 ∧ ¬ 1000 < nthI l k) by omega) with q1 | ⟨q1, q2⟩ | ⟨q1, q2⟩
      · have HS := Lib.hid (HG2.out.trans (if_pos (allIn_false hlt (by simp [inB]; omega))))
        go_wp2_with fail
        go_ret
        exact ⟨ret_int HS.out.symm, hC⟩
      · have HS := Lib.hid (HG2.out.trans (if_pos (allIn_false hlt (by simp [inB]; omega))))
        go_wp2_with fail
        go_ret
        exact ⟨ret_int HS.out.symm, hC⟩
      · have HI := Lib.hid (show inB 0 1000 (nthI l k) = true from (inB_iff _ _ _).2 (by omega))
        go_wp2_with fail
        go_roundw
        case rel => exact ⟨k + 1, by omega, by go_num, by trivial, fun j hj => by
          rcases Nat.lt_succ_iff_lt_or_eq.1 hj with h | rfl
          · exact HAL.out j h
          · exact HI.out⟩
        case measure => simp [intOf]; omega
    · have HAI := Lib.hid ((allIn_iff 0 1000 l).2 fun j hj => HAL.out j (by omega))
      have HF := Lib.hid (fits_all HE.out H1.out HAI.out)
      have HG3 := Lib.hid (HG2.out.trans (by rw [if_neg (by rw [HAI.out]; simp)]))
      clear HG2 HAL
      obtain ⟨W1, hW1⟩ : ∃ W1, w1 = W1 := ⟨_, rfl⟩
      rw [hW1] at bB hC y0 y1 lB ⊢
      clear hW1
      go_wp2_with fail
      clear hlt
      go_loopw [6] (fun i wr => ∃ k : Nat, k ≤ ts.length ∧ i = .int .i64 k ∧ Below W1.heap.size W1 wr ∧ ∀ j, j < k → ruleBad l (nthT ts j) = false) (fun i _ => ts.length - (intOf i).toNat)
      case atStart => exact ⟨0, Nat.zero_le _, rfl, Below.refl _ _, fun j hj => absurd hj (by omega)⟩
      case round =>
        obtain ⟨k, hk, rfl, hbr, hall⟩ := hrel
        have HAL := Lib.hid hall; clear hall
        have hCw : Below w.heap.size w wr := hC.trans (hbr.mono hC.size)
        have bB' := bB.below hbr bB.lt
        clear y0 y1 lB
        have lB := bB'.lt
        have y0 := bB'.cell 0
        have y1 := bB'.cell 1
        simp at y0 y1
        by_cases hlt : k < ts.length
        · obtain ⟨rfl, hb⟩ := HA.out (by omega)
          have hck := HC.out k hlt
          rw [← hCw.cell (by exact hb), ← hCw.cell (by exact hb), ← hCw.cell (by exact hb), ← hCw.cell (by exact hb)] at hck
          have hft := HF.out k hlt
          have hgo : ruleBad l (nthT ts k) = !inB (nthT ts k).lo (nthT ts k).hi (nthI l (nthT ts k).one.toNat - nthI l (nthT ts k).two.toNat) := rfl
          have HK := Lib.hid hgo
          clear hgo
          obtain ⟨⟨f1, f2⟩, ⟨f3, f4⟩, f5⟩ := hft
          obtain ⟨rfl, hb'⟩ := HA'.out (by omega)
          generalize htk : nthT ts k = t at *
          obtain ⟨one, two, lo, hi⟩ := t
          dsimp only at hck HK f1 f2 f3 f4
          obtain ⟨a, rfl⟩ : ∃ a : Nat, one = a := ⟨one.toNat, by omega⟩
          obtain ⟨c, rfl⟩ : ∃ a : Nat, two = a := ⟨two.toNat, by omega⟩
          have e1 := HC'.out a (by omega)
          have e2 := HC'.out c (by omega)
          rw [← hCw.cell (by exact hb')] at e1 e2
          have o1 := f5 a (by omega)
          have o2 := f5 c (by omega)
          obtain ⟨d1, d2, d3, d4⟩ := hck
          have HT := Lib.hid htk
          clear f5 f1 f3 htk
          have a1 : a < l.length := by omega
          have a2 : c < l.length := by omega
          have ww : IntKind.i64.wrap (nthI l a - nthI l c) = nthI l a - nthI l c := by rw [IntKind.wrap_i64]; omega
          have hbb : b < wr.heap.size := Nat.lt_of_lt_of_le hb hCw.size
          have hbb' : b' < wr.heap.size := Nat.lt_of_lt_of_le hb' hCw.size
          have HK2 : Hid (ruleBad l ⟨a, c, lo, hi⟩ = !inB lo hi (nthI l a - nthI l c)) := by rw [Int.toNat_natCast, Int.toNat_natCast] at HK; exact HK
          clear HK f2 f4
          generalize nthI l a = x at *
          generalize nthI l c = y at *
          go_upto_region 13 with fail
          go_quiet (fail)
          rcases (show x - y < lo ∨ (¬ x - y < lo ∧ hi < x - y) ∨ (¬ x - y < lo ∧ ¬ hi < x - y) by omega) with q1 | ⟨q1, q2⟩ | ⟨q1, q2⟩
          · have HS := Lib.hid (HG3.out.trans (if_pos ((anyB_iff (ruleBad l) ts).2 ⟨k, hlt, by rw [HT.out, HK2.out]; simp [inB]; omega⟩)))
            go_wp2_with fail
            go_ret
            exact ⟨ret_int HS.out.symm, by exact bel_of⟩
          · have HS := Lib.hid (HG3.out.trans (if_pos ((anyB_iff (ruleBad l) ts).2 ⟨k, hlt, by rw [HT.out, HK2.out]; simp [inB]; omega⟩)))
            go_wp2_with fail
            go_ret
            exact ⟨ret_int HS.out.symm, by exact bel_of⟩
          · have HI := Lib.hid (show ruleBad l (nthT ts k) = false by rw [HT.out, HK2.out]; simp [inB]; omega)
            go_wp2_with fail
            go_roundw
            case rel => exact ⟨k + 1, by omega, by go_num, by exact bel_of, fun j hj => by
              rcases Nat.lt_succ_iff_lt_or_eq.1 hj with h | rfl
              · exact HAL.out j h
              · exact HI.out⟩
            case measure => simp [intOf]; omega
        · have HS := Lib.hid (HG3.out.trans (if_neg (by rw [anyB_not (P := ruleBad l) (l := ts) fun j hj => HAL.out j (by omega)]; simp)))
          go_wp2_with fail
          go_ret
          exact ⟨ret_int HS.out.symm, hCw⟩

theorem great_any (E : Int) (ts : List Kt) (v : Value) (w : World) (hl : ts.length ≤ maxLen) (h : RT w w.heap.size v ts) :
    Calls Try.prog 16 #[.agg #[.int .i64 E, v]] w fun x w' => x = .returned (.bool (decide (50 < ts.length))) ∧ Below w.heap.size w w' := by
  obtain ⟨A, cap, b, off, rfl, hA, hc⟩ := h.cells
  clear hA hc
  go_enter Try.func16, Try.ntmps16
  go_wp2_with fail
  go_ret
  exact ⟨by simp; omega, by exact bel_of⟩
end Go.Proofs.Ytkljdbgkhghiaaa

attribute [local go_sem] Go.Oper.semAt_some
namespace Go.Proofs.Ytkljdbgkhghiaaa
open Go.RowKit Kp

/-- The cells of a bench: its book, the edges that are not sharper, the edge at the top, whether it asks. -/
def benchC (E : Nat) (vt : Value) (bel : List Int) (top : Int) (asks : Bool) : List Value := [.int .i64 E, vt] ++ (ofI bel ++ [.int .i64 top, .bool asks])
/-- The block g is a bench, vt its tests. -/
def Bn (W : World) (g : Nat) (E : Nat) (vt : Value) (ts : List Kt) (bel : List Int) (top : Int) (asks : Bool) : Prop :=
  BK W g (benchC E vt bel top asks).toArray 83 ∧ RT W W.heap.size vt ts ∧ bel.length = 16
theorem RT.at {w : World} {B b off n cap : Nat} {l : List Kt} (h : RT w B (.slice (some ⟨b, off, none⟩) n cap) l) {k : Nat} (hk : k < l.length) : b < B ∧
    w.cell? ⟨b, off + k * 4, none⟩ = some (.int .i64 (nthT l k).one) ∧ w.cell? ⟨b, off + k * 4 + 1, none⟩ = some (.int .i64 (nthT l k).two) ∧ w.cell? ⟨b, off + k * 4 + 2, none⟩ = some (.int .i64 (nthT l k).lo) ∧ w.cell? ⟨b, off + k * 4 + 3, none⟩ = some (.int .i64 (nthT l k).hi) := by
  obtain ⟨A, cap', b', off', hv, hA, hc⟩ := h.cells
  obtain ⟨rfl, hb⟩ := hA (by omega)
  injection hv with h1 h2 h3
  injection h1 with h1
  injection h1 with h1 h4
  subst h1 h4
  exact ⟨hb, hc k hk⟩
theorem RT.slice {w : World} {B : Nat} {v : Value} {l : List Kt} (h : RT w B v l) : ∃ b off cap A, v = .slice A l.length cap ∧ (l.length ≠ 0 → A = some ⟨b, off, none⟩) := by
  obtain ⟨A, cap', b', off', hv, hA, hc⟩ := h.cells
  exact ⟨b', off', cap', A, hv, fun h => (hA h).1⟩
theorem ofI_len (l : List Int) : (ofI l).length = l.length := by simp [ofI]
theorem ofI_get {l : List Int} {i : Nat} (h : i < l.length) : (ofI l)[i]? = some (.int .i64 (nthI l i)) := by simp [ofI, nthI, h]
section
variable {W W' : World} {g E : Nat} {vt : Value} {ts : List Kt} {bel : List Int} {top : Int} {asks : Bool}
theorem Bn.adm {B : Nat} (h : Bn W g E vt ts bel top asks) (ha : Adm B W W') : Bn W' g E vt ts bel top asks := by
  obtain ⟨h1, h2, h3⟩ := h
  exact ⟨ha.cells h1, (ha.rs h2).more ha.size, h3⟩
theorem Bn.below (h : Bn W g E vt ts bel top asks) (hb : Below W.heap.size W W') : Bn W' g E vt ts bel top asks := h.adm (B := 0) (Adm.below hb)
theorem Bn.lt (h : Bn W g E vt ts bel top asks) : g < W.heap.size := h.1.lt
theorem Bn.cells (h : Bn W g E vt ts bel top asks) : W.cell? ⟨g, 0, none⟩ = some (.int .i64 E) ∧ (∀ v, v < 16 → W.cell? ⟨g, 2 + v, none⟩ = some (.int .i64 (nthI bel v))) ∧ W.cell? ⟨g, 18, none⟩ = some (.int .i64 top) ∧ W.cell? ⟨g, 19, none⟩ = some (.bool asks) := by
  obtain ⟨h1, h2, h3⟩ := h
  have hl := ofI_len bel
  refine ⟨by rw [h1.cell]; simp [benchC], fun v hv => ?_, ?_, ?_⟩
  · rw [h1.cell, List.getElem?_toArray]
    unfold benchC
    rw [List.getElem?_append_right (by simp), List.getElem?_append_left (by simp; omega)]
    simpa using ofI_get (show v < bel.length by omega)
  · rw [h1.cell, List.getElem?_toArray]
    unfold benchC
    rw [List.getElem?_append_right (by simp), List.getElem?_append_right (by simp; omega)]
    simp [hl, h3]
  · rw [h1.cell, List.getElem?_toArray]
    unfold benchC
    rw [List.getElem?_append_right (by simp), List.getElem?_append_right (by simp; omega)]
    simp [hl, h3]
theorem Bn.tests (h : Bn W g E vt ts bel top asks) : W.cell? ⟨g, 1, none⟩ = some vt ∧ RT W W.heap.size vt ts := by
  obtain ⟨h1, h2, h3⟩ := h
  exact ⟨by rw [h1.cell]; simp [benchC], h2⟩
end

theorem place_any (E : Nat) (vt : Value) (ts : List Kt) (bel : List Int) (top : Int) (asks : Bool) (g : Nat) (v : Int) (w : World) (h : Bn w g E vt ts bel top asks) :
    Calls Try.prog 79 #[.pointer (some ⟨g, 0, none⟩), .int .i64 v] w fun e w' => e = .returned (.int .i64 (pl E v)) ∧ w = w' := by
  obtain ⟨c0, _, _, _⟩ := h.cells
  by_cases hv : v < 0
  · have HP := Lib.hid (show (pl E v : Int) = E by unfold pl; rw [if_pos hv])
    go_enter Try.func79, Try.ntmps79
    go_wp2_with fail
    go_ret
    exact ⟨by rw [HP.out]; rfl, rfl⟩
  · have HP := Lib.hid (show (pl E v : Int) = v by unfold pl; rw [if_neg hv]; omega)
    go_enter Try.func79, Try.ntmps79
    go_wp2_with fail
    go_ret
    exact ⟨by rw [HP.out]; rfl, rfl⟩

theorem links_any (p : Option Addr) (w : World) :
    Calls Try.prog 83 #[.pointer p] w fun e w' => e = .returned (.func (.func 85) #[] #[.pointer (some ⟨w.heap.size, 0, none⟩)]) ∧ w.alloc (.cells #[.pointer p] 80) = w' := by
  go_enter Try.func83, Try.ntmps83
  go_wp2
  go_ret
  exact ⟨rfl, rfl⟩

theorem lkT_len (ts : List Kt) : ∀ i, (lkT i ts).length = 2 * ts.length := by
  induction ts with
  | nil => intro i; rfl
  | cons t ts ih => intro i; simp only [lkT, List.length_cons, ih]; omega
theorem lkT_get : ∀ (ts : List Kt) (i k : Nat), k < ts.length → (lkT i ts)[2 * k]? = some (⟨(nthT ts k).two, (nthT ts k).one, ((i + k : Nat) : Int)⟩, (nthT ts k).hi) ∧ (lkT i ts)[2 * k + 1]? = some (⟨(nthT ts k).one, (nthT ts k).two, ((i + k : Nat) : Int)⟩, -(nthT ts k).lo)
  | [], i, k, h => by simp at h
  | t :: ts, i, 0, _ => by simp [lkT, nthT]
  | t :: ts, i, k + 1, h => by
    have := lkT_get ts (i + 1) k (by simpa using h)
    have e : nthT (t :: ts) (k + 1) = nthT ts k := by simp [nthT]
    rw [e, show 2 * (k + 1) = 2 * k + 1 + 1 by omega, show i + (k + 1) = i + 1 + k by omega]
    simpa [lkT] using this
theorem lkE_succ (q : Nat → Bool) (top : Int) (n : Nat) : lkE q top (n + 1) = lkE q top n ++ lkV q top n := by
  unfold lkE; rw [List.range_succ, List.flatMap_append]; simp
/-- The k-th link. -/
def nthW (l : List Kw) (i : Nat) : Kw := l.getD i (⟨0, 0, 0⟩, 0)
theorem nthW_of {l : List Kw} {i : Nat} {k : Kw} (h : l[i]? = some k) : nthW l i = k := by unfold nthW; rw [List.getD_eq_getElem?_getD, h]; rfl
theorem lks_test {E : Nat} {ts : List Kt} {q : Nat → Bool} {top : Int} {k : Nat} (h : k < ts.length) :
    nthW (lks E ts q top) (2 * k) = (⟨(nthT ts k).two, (nthT ts k).one, (k : Int)⟩, (nthT ts k).hi) ∧ nthW (lks E ts q top) (2 * k + 1) = (⟨(nthT ts k).one, (nthT ts k).two, (k : Int)⟩, -(nthT ts k).lo) := by
  obtain ⟨h1, h2⟩ := lkT_get ts 0 k h
  rw [Nat.zero_add] at h1 h2
  have hl := lkT_len ts 0
  unfold lks
  exact ⟨nthW_of (by rw [List.getElem?_append_left (by omega)]; exact h1), nthW_of (by rw [List.getElem?_append_left (by omega)]; exact h2)⟩
/-- Where the links of an edge begin. -/
def atE (ts : List Kt) (q : Nat → Bool) (top : Int) (v : Nat) : Nat := 2 * ts.length + (lkE q top v).length
theorem atE_0 (ts : List Kt) (q : Nat → Bool) (top : Int) : atE ts q top 0 = 2 * ts.length := by simp [atE, lkE]
theorem atE_succ (ts : List Kt) (q : Nat → Bool) (top : Int) (v : Nat) : atE ts q top (v + 1) = atE ts q top v + (if q v then 3 else 2) := by
  unfold atE; rw [lkE_succ, List.length_append]; unfold lkV; split <;> simp <;> omega
theorem lks_len (E : Nat) (ts : List Kt) (q : Nat → Bool) (top : Int) : (lks E ts q top).length = atE ts q top E := by unfold lks atE; rw [List.length_append, lkT_len]
theorem atE_le (ts : List Kt) (q : Nat → Bool) (top : Int) (v E : Nat) (h : v ≤ E) : atE ts q top v ≤ atE ts q top E := by
  induction E with
  | zero => obtain rfl : v = 0 := by omega
            exact Nat.le_refl _
  | succ E ih =>
    rcases Nat.lt_or_eq_of_le h with h | h
    · have := ih (by omega)
      rw [atE_succ]; omega
    · subst h; exact Nat.le_refl _
theorem lkE_get (q : Nat → Bool) (top : Int) (v : Nat) : ∀ (E : Nat), v < E → ∀ j, j < (lkV q top v).length → (lkE q top E)[(lkE q top v).length + j]? = (lkV q top v)[j]? := by
  intro E
  induction E with
  | zero => intro h; omega
  | succ E ih =>
    intro h j hj
    rw [lkE_succ]
    rcases Nat.lt_or_eq_of_le (Nat.le_of_lt_succ h) with h | h
    · have e := ih h j hj
      have : (lkE q top v).length + j < (lkE q top E).length := by
        refine Classical.byContradiction fun hc => ?_
        rw [List.getElem?_eq_none (by omega), eq_comm, List.getElem?_eq_none_iff] at e
        omega
      rw [List.getElem?_append_left this]; exact e
    · subst h
      rw [List.getElem?_append_right (by omega), Nat.add_sub_cancel_left]
theorem lks_edge {E : Nat} {ts : List Kt} {q : Nat → Bool} {top : Int} {v : Nat} (h : v < E) :
    nthW (lks E ts q top) (atE ts q top v) = (⟨-1, v, -1⟩, 1000) ∧ nthW (lks E ts q top) (atE ts q top v + 1) = (⟨v, -1, -1⟩, 0) ∧ (q v = true → nthW (lks E ts q top) (atE ts q top v + 2) = (⟨top, v, -2⟩, 0)) := by
  have hl := lkT_len ts 0
  have hg : ∀ j k, (lkV q top v)[j]? = some k → nthW (lks E ts q top) (atE ts q top v + j) = k := by
    intro j k hk
    have hj : j < (lkV q top v).length := (List.getElem?_eq_some_iff.1 hk).1
    refine nthW_of ?_
    unfold lks atE
    rw [List.getElem?_append_right (by omega), hl, show 2 * ts.length + (lkE q top v).length + j - 2 * ts.length = (lkE q top v).length + j by omega, lkE_get q top v E h j hj]
    exact hk
  refine ⟨hg 0 _ (by simp [lkV]), hg 1 _ (by simp [lkV]), fun hq => hg 2 _ (by simp [lkV, hq])⟩
end Go.Proofs.Ytkljdbgkhghiaaa
