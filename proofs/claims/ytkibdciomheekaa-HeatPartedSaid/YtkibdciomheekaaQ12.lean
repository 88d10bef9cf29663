/- A recipe by numbers. A history by numbers. What the laws say of ranges, histories and what was had. Plain: a recipe in two parts; a harder bar, and a wider one. A works that the laws build upon. A recipe in two parts: what the law compares. What follows a region whose operations come in several orders, once. Parts of lists: from the beginning, and to the end. HeatParted: the walk. The ranges of the first steps of a recipe are those of the works without the other steps, and those of the others, the ranges with what comes out of them as a bar; a history is one of both parts; for every works and numbers. -/
import Derived.Test.YtkibdciomheekaaP31
import Derived.Test.YtkibdciomheekaaP30
import Derived.Test.YtkibdciomheekaaP3
import Derived.Test.YtkibdciomheekaaP7
import Derived.Test.YtkibdciomheekaaP11
import Derived.Deep.QuietTactic
import Derived.BigQuiet
import Derived.Test.YtkibdciomheekaaP1
import Derived.Test.YtkibdciomheekaaP27
import Derived.Test.YtkibdciomheekaaP29
import Derived.Test.YtkibdciomheekaaP28
import Derived.Test.YtkibdciomheekaaRows
set_option linter.all false
set_option linter.unnecessarySimpa false
set_option linter.unusedSimpArgs false
set_option linter.unusedVariables false
set_option linter.unusedSectionVars false

set_option linter.all false
namespace Go.Proofs.Ytkibdciomheekaa
open Go.RowKit Hp

/-- The number that is meant for a place. -/
def numAt (us : List Nat) (i : Nat) : Nat := if us.length = 0 then 0 else us.getD (i % us.length) 0
def oneB (bars : List Rg) (us : List Nat) : Nat := numAt us 0 % bars.length
def oneW (ss : List Stp) (us : List Nat) (n : Nat) : List Int := (List.range n).map fun (i : Nat) => ((numAt us (i + 1) % (nthS ss i).length : Nat) : Int)
theorem oneW_zero (ss : List Stp) (us : List Nat) : oneW ss us 0 = [] := rfl
theorem oneW_succ (ss : List Stp) (us : List Nat) (n : Nat) : oneW ss us (n + 1) = oneW ss us n ++ [((numAt us (n + 1) % (nthS ss n).length : Nat) : Int)] := by simp [oneW, List.range_succ]
theorem oneW_len (ss : List Stp) (us : List Nat) (n : Nat) : (oneW ss us n).length = n := by simp [oneW]
theorem numAt_le {us : List Nat} {B : Nat} (h : ∀ x ∈ us, x ≤ B) (i : Nat) : numAt us i ≤ B := by
  unfold numAt
  split
  · exact Nat.zero_le _
  · rename_i q
    have hi : i % us.length < us.length := Nat.mod_lt _ (by omega)
    rw [List.getD_eq_getElem?_getD, List.getElem?_eq_getElem hi]
    exact h _ (List.getElem_mem hi)
def oneBk (bars : List Rg) (us : List Nat) (k : Nat) : Nat := if k = 0 then 0 else oneB bars us
theorem own_ri_set {W : World} {T g : Nat} {A : Option Addr} {n c base : Nat} {l : List Int} {cs : Array Value} {t : TypeId} (h : OwnI T W base (.slice A n c) l) (hg : BK W g cs t) (ht : t ≠ T) (o : Nat) (u : Value) :
    OwnI T (W.setCell ⟨g, o, none⟩ u) base (.slice A n c) l := by
  have hne : (Value.slice A n c).ownBlock ≠ some g := fun hq => by
    obtain ⟨c', hc⟩ := own_block h hq
    unfold BK at hg
    rw [hg] at hc; injection hc with hc; injection hc with _ hc; exact ht hc
  exact own_far h (p := ⟨g, o, none⟩) hne u
theorem own_ri_sets {W : World} {T g : Nat} {A : Option Addr} {n c base : Nat} {l : List Int} {cs : Array Value} {t : TypeId} (h : OwnI T W base (.slice A n c) l) (hg : BK W g cs t) (ht : t ≠ T) (u v : Value) :
    OwnI T ((W.setCell ⟨g, 0, none⟩ u).setCell ⟨g, 1, none⟩ v) base (.slice A n c) l := by
  have hne : (Value.slice A n c).ownBlock ≠ some g := fun hq => by
    obtain ⟨c', hc⟩ := own_block h hq
    unfold BK at hg
    rw [hg] at hc; injection hc with hc; injection hc with _ hc; exact ht hc
  exact own_far (own_far h (p := ⟨g, 0, none⟩) hne u) (p := ⟨g, 1, none⟩) hne v
theorem one_rec {bars : List Rg} {ss : List Stp} (h : OkV bars ss) (us : List Nat) : OkRec bars ss (oneB bars us : Nat) (oneW ss us ss.length) := by
  refine ⟨h, by omega, ?_, ?_, ?_⟩
  · show ((oneB bars us : Nat) : Int).toNat < bars.length
    rw [Int.toNat_natCast]
    exact Nat.mod_lt _ h.bpos
  · refine mem_allR_iff.2 ⟨by simp [nats, oneW_len], fun i hi => ?_⟩
    have : (nats (oneW ss us ss.length)).getD i 0 = numAt us (i + 1) % (nthS ss i).length := by
      simp [nats, oneW, hi]
      rw [← Int.natCast_emod, Int.toNat_natCast]
    rw [this]
    exact Nat.mod_lt _ (h.wpos _ (nthS_mem hi)).1
  · intro k hk
    obtain ⟨i, _, rfl⟩ := List.mem_map.1 hk
    omega
theorem RU.cells {k : IntKind} {w : World} {B : Nat} {v : Value} {l : List Nat} (h : RU k w B v l) : ∃ A cap b off, v = .slice A l.length cap ∧ (l.length ≠ 0 → A = some ⟨b, off, none⟩ ∧ b < B) ∧ ∀ j, j < l.length → w.cell? ⟨b, off + j, none⟩ = some (.int k (l.getD j 0 : Nat)) := by
  obtain ⟨A, cap, b, off, hv, hl, hA, hc⟩ := h
  refine ⟨A, cap, b, off, hv, hA, fun j hj => ?_⟩
  rw [hc j (by simpa using hj)]
  simp [hj]
def OnePost (bars : List Rg) (ss : List Stp) (us : List Nat) (w : World) (e : Ending) (w' : World) : Prop :=
  ∃ vk, e = .returned (.agg #[.int .i64 (oneB bars us : Nat), vk]) ∧ RI w' w'.heap.size vk (oneW ss us ss.length) ∧ Below w.heap.size w w'

set_option maxHeartbeats 8000000 in
set_option maxRecDepth 100000 in
theorem one_any (bars : List Rg) (ss : List Stp) (us : List Nat) (vb vs vu : Value) (w : World) (hV : OkV bars ss) (hu : ∀ x ∈ us, x ≤ 255) (hlu : us.length ≤ 20) (hB : RR w w.heap.size vb bars) (hS : RP w w.heap.size vs ss) (hU : RU .u8 w w.heap.size vu us) :
    Calls Try.prog 44 #[.agg #[vb, vs], vu] w (OnePost bars ss us w) := by
  have HV := Lib.hid hV
  have HU := Lib.hid hu
  have hs6 := hV.sfew
  have hbp := hV.bpos
  have hb6 := hV.bfew
  clear hV hu
  obtain ⟨Ab, cb, rfl⟩ := hB.slice
  obtain ⟨As, cs, rfl⟩ := hS.slice
  obtain ⟨Au, cu, rfl⟩ := ru_slice hU
  obtain ⟨n0, hn0⟩ : ∃ n, w.heap.size = n := ⟨_, rfl⟩
  have hC : Below n0 w w := Below.refl _ _
  go_enter Try.func44, Try.ntmps44
  have HB0 := Lib.hid hB
  have HS0 := Lib.hid hS
  have HU0 := Lib.hid hU
  go_upto_region 1 with fail
  have hqbx : n0 ≤ n0 := by have := hC.size; omega
  have bx : BK (w.alloc (.cells #[.slice Ab bars.length cb, .slice As ss.length cs] 25)) (n0) #[.slice Ab bars.length cb, .slice As ss.length cs] 25 := BK.new' _ _ _ (n0) hn0
  have hsbx : (w.alloc (.cells #[.slice Ab bars.length cb, .slice As ss.length cs] 25)).heap.size = n0 + 1 := by simp [hn0]
  replace hC : Below n0 w (w.alloc (.cells #[.slice Ab bars.length cb, .slice As ss.length cs] 25)) := Below.alloc hC (by have := hC.size; omega) _
  replace hB := (RS.below hB (w' := (w.alloc (.cells #[.slice Ab bars.length cb, .slice As ss.length cs] 25))) (Below.alloc (Below.refl _ _) (Nat.le_refl _) _)).more (B' := (w.alloc (.cells #[.slice Ab bars.length cb, .slice As ss.length cs] 25)).heap.size) (by simp)
  replace hS := (RP.below hS (w' := (w.alloc (.cells #[.slice Ab bars.length cb, .slice As ss.length cs] 25))) (Below.alloc (Below.refl _ _) (Nat.le_refl _) _)).more (B' := (w.alloc (.cells #[.slice Ab bars.length cb, .slice As ss.length cs] 25)).heap.size) (by simp)
  replace hU := (RU.below hU (w' := (w.alloc (.cells #[.slice Ab bars.length cb, .slice As ss.length cs] 25))) (Below.alloc (Below.refl _ _) (Nat.le_refl _) _)).more (B' := (w.alloc (.cells #[.slice Ab bars.length cb, .slice As ss.length cs] 25)).heap.size) (by simp)
  generalize (w.alloc (.cells #[.slice Ab bars.length cb, .slice As ss.length cs] 25)) = Wbx at *
  have hqrs : n0 ≤ n0 + 1 := by have := hC.size; omega
  have rs : BK (Wbx.alloc (.cells #[.int .i64 0, .slice none 0 0] 42)) (n0 + 1) #[.int .i64 0, .slice none 0 0] 42 := BK.new' _ _ _ (n0 + 1) hsbx
  have hsrs : (Wbx.alloc (.cells #[.int .i64 0, .slice none 0 0] 42)).heap.size = n0 + 1 + 1 := by simp [hsbx]
  replace hC : Below n0 w (Wbx.alloc (.cells #[.int .i64 0, .slice none 0 0] 42)) := Below.alloc hC (by have := hC.size; omega) _
  replace hB := (RS.below hB (w' := (Wbx.alloc (.cells #[.int .i64 0, .slice none 0 0] 42))) (Below.alloc (Below.refl _ _) (Nat.le_refl _) _)).more (B' := (Wbx.alloc (.cells #[.int .i64 0, .slice none 0 0] 42)).heap.size) (by simp)
  replace hS := (RP.below hS (w' := (Wbx.alloc (.cells #[.int .i64 0, .slice none 0 0] 42))) (Below.alloc (Below.refl _ _) (Nat.le_refl _) _)).more (B' := (Wbx.alloc (.cells #[.int .i64 0, .slice none 0 0] 42)).heap.size) (by simp)
  replace hU := (RU.below hU (w' := (Wbx.alloc (.cells #[.int .i64 0, .slice none 0 0] 42))) (Below.alloc (Below.refl _ _) (Nat.le_refl _) _)).more (B' := (Wbx.alloc (.cells #[.int .i64 0, .slice none 0 0] 42)).heap.size) (by simp)
  replace bx := bx.alloc (.cells #[.int .i64 0, .slice none 0 0] 42)
  generalize (Wbx.alloc (.cells #[.int .i64 0, .slice none 0 0] 42)) = Wrs at *
  clear hsbx
  go_upto_region 2 with fail
  have hqrb : n0 ≤ n0 + 1 + 1 := by have := hC.size; omega
  have rb : BK (Wrs.alloc (.cells #[.int .i64 0, .slice none 0 0] 42)) (n0 + 1 + 1) #[.int .i64 0, .slice none 0 0] 42 := BK.new' _ _ _ (n0 + 1 + 1) hsrs
  have hsrb : (Wrs.alloc (.cells #[.int .i64 0, .slice none 0 0] 42)).heap.size = n0 + 1 + 1 + 1 := by simp [hsrs]
  replace hC : Below n0 w (Wrs.alloc (.cells #[.int .i64 0, .slice none 0 0] 42)) := Below.alloc hC (by have := hC.size; omega) _
  replace hB := (RS.below hB (w' := (Wrs.alloc (.cells #[.int .i64 0, .slice none 0 0] 42))) (Below.alloc (Below.refl _ _) (Nat.le_refl _) _)).more (B' := (Wrs.alloc (.cells #[.int .i64 0, .slice none 0 0] 42)).heap.size) (by simp)
  replace hS := (RP.below hS (w' := (Wrs.alloc (.cells #[.int .i64 0, .slice none 0 0] 42))) (Below.alloc (Below.refl _ _) (Nat.le_refl _) _)).more (B' := (Wrs.alloc (.cells #[.int .i64 0, .slice none 0 0] 42)).heap.size) (by simp)
  replace hU := (RU.below hU (w' := (Wrs.alloc (.cells #[.int .i64 0, .slice none 0 0] 42))) (Below.alloc (Below.refl _ _) (Nat.le_refl _) _)).more (B' := (Wrs.alloc (.cells #[.int .i64 0, .slice none 0 0] 42)).heap.size) (by simp)
  replace bx := bx.alloc (.cells #[.int .i64 0, .slice none 0 0] 42)
  replace rs := rs.alloc (.cells #[.int .i64 0, .slice none 0 0] 42)
  generalize (Wrs.alloc (.cells #[.int .i64 0, .slice none 0 0] 42)) = Wrb at *
  clear hsrs
  clear hsrb
  generalize Wrb = W0 at *
  have HQ := Lib.hid (And.intro hqbx (And.intro hqrs hqrb))
  clear hqbx hqrs hqrb
  go_wp2_with fail
  go_loopw [6] (fun i wr => ∃ (k : Nat) (v : Value), k ≤ ss.length + 1 ∧ i = .int .i64 (k : Int) ∧ BK wr (n0) #[.slice Ab bars.length cb, .slice As ss.length cs] 25 ∧ BK wr (n0 + 1) #[.int .i64 0, .slice none 0 0] 42 ∧ BK wr (n0 + 1 + 1) #[.int .i64 (oneBk bars us k : Nat), v] 42 ∧ OwnI 3 wr n0 v (oneW ss us (k - 1)) ∧ Below n0 w wr) (fun i _ => ss.length + 1 - (intOf i).toNat)
  case atStart => exact ⟨0, _, Nat.zero_le _, rfl, bx, rs, rb, OwnI.nil _ _ _, hC⟩
  case round =>
    clear bx rs rb hC hB hS hU
    obtain ⟨k, v, hk, rfl, bx, rs, rb, hown, hC⟩ := hrel
    rw [hn0] at HB0 HS0 HU0
    have hB := RS.more (RS.below HB0.out hC) (B' := wr.heap.size) (by have := hC.size; omega)
    have hS := RP.more (RP.below HS0.out hC) (B' := wr.heap.size) (by have := hC.size; omega)
    have hU := RU.more (RU.below HU0.out hC) (B' := wr.heap.size) (by have := hC.size; omega)
    obtain ⟨Av, cv, rfl⟩ := own_slice hown
    have hll := oneW_len ss us (k - 1)
    have HOW := Lib.hid hown
    have HLL := Lib.hid hll
    clear hown hll
    obtain ⟨nl, hnl⟩ : ∃ n, (oneW ss us (k - 1)).length = n := ⟨_, rfl⟩
    rw [hnl] at rb
    have HNL := Lib.hid hnl
    clear hnl
    by_cases hlt : k < ss.length + 1
    case neg =>
      obtain rfl : k = ss.length + 1 := by omega
      rw [Nat.add_sub_cancel] at HOW HNL
      have hlt' : ¬ ((ss.length + 1 : Nat) : Int) ≤ (ss.length : Int) := by omega
      simp only [Int.natCast_add, Int.cast_ofNat_Int] at hlt'
      have hob : oneBk bars us (ss.length + 1) = oneB bars us := by unfold oneBk; rw [if_neg (by omega)]
      rw [hob] at rb
      clear hob hlt
      have hown2 := own_ri_sets HOW.out rs (by decide) (.int .i64 (oneB bars us : Nat)) (.slice Av (oneW ss us ss.length).length cv)
      rw [HNL.out] at hown2
      obtain ⟨ob, hob⟩ : ∃ n, oneB bars us = n := ⟨_, rfl⟩
      rw [hob] at rb hown2
      have HO := Lib.hid hown2.ri
      clear hown2
      have HOB := Lib.hid hob
      clear hob
      have lbx := bx.lt
      have bxc0 := bx.cell 0
      have bxc1 := bx.cell 1
      simp at bxc0 bxc1
      have lrb := rb.lt
      have rbc0 := rb.cell 0
      have rbc1 := rb.cell 1
      simp at rbc0 rbc1
      have lrs := rs.lt
      have rsc0 := rs.cell 0
      have rsc1 := rs.cell 1
      simp at rsc0 rsc1
      have f0 := rs.frozen 0
      have f1 := rs.frozen 1
      have hCf : Below n0 w ((wr.setCell ⟨n0 + 1, 0, none⟩ (.int .i64 (ob : Int))).setCell ⟨n0 + 1, 1, none⟩ (.slice Av nl cv)) := Below.setCell (Below.setCell hC HQ.out.2.1 _) HQ.out.2.1 _
      have b2 := ((rs.set 0 (.int .i64 (ob : Int))).set 1 (.slice Av nl cv))
      simp at b2
      have HCF := Lib.hid hCf
      clear hCf hC rs
      go_wp2_with fail
      clear lbx bxc0 bxc1 lrb rbc0 rbc1 lrs rsc0 rsc1
      have y0 := b2.cell 0
      have y1 := b2.cell 1
      simp at y0 y1
      refine bodyPost_ret (v := .agg #[.int .i64 (ob : Int), .slice Av nl cv]) (by simp [results, Try.results44, go_sem, y0, y1]) rfl ⟨_, by rw [HOB.out], HO.out, (by (try rw [hn0]); exact HCF.out)⟩
    have hlt' : (k : Int) ≤ (ss.length : Int) := by omega
    have hnle := numAt_le HU.out k
    obtain ⟨n, hn⟩ : ∃ n, numAt us k = n := ⟨_, rfl⟩
    rw [hn] at hnle
    have HN := Lib.hid hn
    have g1 : IntKind.i64.wrap (n : Int) = (n : Int) := by rw [IntKind.wrap_i64]; omega
    by_cases hu0 : us.length = 0
    case pos =>
      have zu : ¬ ((us.length : Int) > 0) := by omega
      have HZ := Lib.hid (show (n : Int) = 0 by rw [← hn]; unfold numAt; rw [if_pos hu0]; rfl)
      clear hn hu0
      have lbx := bx.lt
      have bxc0 := bx.cell 0
      have bxc1 := bx.cell 1
      simp at bxc0 bxc1
      have lrb := rb.lt
      have rbc0 := rb.cell 0
      have rbc1 := rb.cell 1
      simp at rbc0 rbc1
      go_upto_region 8 with fail
      clear lbx bxc0 bxc1
      clear lrb rbc0 rbc1
      clear zu
      by_cases hk0 : k = 0
      case pos =>
        have hrm : n % bars.length = oneB bars us := by have := HN.out; rw [hk0] at this; rw [← this]; rfl
        have hrm2 : (n : Int) % (bars.length : Int) = (oneB bars us : Int) := by rw [← Int.natCast_emod, hrm]
        have hown2 := own_ri_set HOW.out rb (by decide) 0 (.int .i64 (oneB bars us : Nat))
        rw [HNL.out] at hown2
        have hz : oneW ss us (k - 1) = oneW ss us (1 - 1) := by rw [hk0]
        rw [hz] at hown2
        have d0 : ((k : Int) == 0) = true := by rw [hk0]; rfl
        have r1 : (0 : Int) % (bars.length : Int) = (oneB bars us : Int) := by have h9 := hrm2; rw [HZ.out] at h9; exact h9
        have r2 : (0 : Int).tmod (bars.length : Int) = (oneB bars us : Int) := by rw [Int.tmod_eq_emod_of_nonneg (by omega), r1]
        have y0 : ((bars.length : Int) == 0) = false := beq_eq_false_iff_ne.2 (by omega)
        have y1 : (bars.length : Int) ≠ 0 := by omega
        have hol : oneB bars us < bars.length := Nat.mod_lt _ hbp
        obtain ⟨ob, hob⟩ : ∃ n, oneB bars us = n := ⟨_, rfl⟩
        rw [hob] at r1 r2 hol hown2
        have HO2 := Lib.hid hown2
        have HOB := Lib.hid hob
        have w1 : IntKind.i64.wrap (ob : Int) = (ob : Int) := by rw [IntKind.wrap_i64]; omega
        have wk : IntKind.i64.wrap ((k : Int) + 1) = (k : Int) + 1 := by rw [IntKind.wrap_i64]; omega
        have HK0 := Lib.hid hk0
        clear hob hrm hrm2 hown2 hz hk0
        have lbx := bx.lt
        have bxc0 := bx.cell 0
        have bxc1 := bx.cell 1
        simp at bxc0 bxc1
        have lrb := rb.lt
        have rbc0 := rb.cell 0
        have rbc1 := rb.cell 1
        simp at rbc0 rbc1
        have rbf0 := rb.frozen 0
        have HC2 : Hid (Below n0 w (wr.setCell ⟨n0 + 1 + 1, 0, none⟩ (.int .i64 (ob : Int)))) := Lib.hid (Below.setCell hC HQ.out.2.2 _)
        have hb2 := rb.set 0 (.int .i64 (ob : Int))
        simp at hb2
        have HRB := Lib.hid hb2
        have HRX := Lib.hid (bx.far (p := ⟨n0 + 1 + 1, 0, none⟩) (by show n0 ≠ n0 + 1 + 1; omega) (.int .i64 (ob : Int)))
        have HRS := Lib.hid (rs.far (p := ⟨n0 + 1 + 1, 0, none⟩) (by show n0 + 1 ≠ n0 + 1 + 1; omega) (.int .i64 (ob : Int)))
        clear hb2 bx rs rb hC
        go_wp2_with fail
        go_roundw
        case rel =>
          refine ⟨1, .slice Av nl cv, by omega, ?_, HRX.out, HRS.out, ?_, HO2.out, HC2.out⟩
          · rw [HK0.out]; rfl
          · have : oneBk bars us 1 = ob := by unfold oneBk; rw [if_neg (by decide), HOB.out]
            rw [this]; exact HRB.out
        case measure => simp [intOf]; omega
      obtain ⟨j, hj⟩ : ∃ j, k = j + 1 := ⟨k - 1, by omega⟩
      have hjs : j < ss.length := by omega
      obtain ⟨A', cap', bb', off', hve, hA, hc⟩ := RP.cells hS
      obtain ⟨rfl, hbb'⟩ := hA (by omega)
      injection hve with q1 q2 q3
      subst q1 q3
      obtain ⟨u, d1, hu1⟩ := hc j hjs
      obtain ⟨At, ct, rfl⟩ := hu1.slice
      have hwp := HV.out.wpos _ (nthS_mem hjs)
      have HOS := Lib.hid (oneW_succ ss us j)
      have hkj : k - 1 = j := by omega
      have HNK : Hid (numAt us (j + 1) = n) := Lib.hid (by rw [← hj]; exact HN.out)
      obtain ⟨q, hq⟩ : ∃ q, n % (nthS ss j).length = q := ⟨_, rfl⟩
      have hql : q < (nthS ss j).length := by rw [← hq]; exact Nat.mod_lt _ hwp.1
      have HQQ := Lib.hid hq
      obtain ⟨p, hp⟩ : ∃ p, (nthS ss j).length = p := ⟨_, rfl⟩
      rw [hp] at d1 hql hwp hq
      have r0 : (n : Int).tmod (p : Int) = (q : Int) := by rw [Int.tmod_eq_emod_of_nonneg (by omega), ← Int.natCast_emod, hq]
      have r2 : (0 : Int).tmod (p : Int) = (q : Int) := by have h9 := r0; rw [HZ.out] at h9; exact h9
      have y0 : ((p : Int) == 0) = false := beq_eq_false_iff_ne.2 (by omega)
      have y1 : (p : Int) ≠ 0 := by omega
      have y3 : (p = 0) = False := eq_false (by omega)
      have w1 : IntKind.i64.wrap (q : Int) = (q : Int) := by rw [IntKind.wrap_i64]; omega
      have w2 : IntKind.i64.wrap ((k : Int) - 1) = (j : Int) := by rw [IntKind.wrap_i64]; omega
      have wk : IntKind.i64.wrap ((k : Int) + 1) = (k : Int) + 1 := by rw [IntKind.wrap_i64]; omega
      have dk : ((k : Int) == 0) = false := beq_eq_false_iff_ne.2 (by omega)
      have hji : (j : Int) < (ss.length : Int) := by omega
      have HJ := Lib.hid hj
      have HKJ := Lib.hid hkj
      have hown := HOW.out
      rw [hkj] at hown
      have HPP := Lib.hid hp
      clear hA hc q2 hu1 hwp hq hp r0 hkj hj hk0
      have lbx := bx.lt
      have bxc0 := bx.cell 0
      have bxc1 := bx.cell 1
      simp at bxc0 bxc1
      have lrb := rb.lt
      have rbc0 := rb.cell 0
      have rbc1 := rb.cell 1
      simp at rbc0 rbc1
      go_upto_region 10 with fail
      refine wp_region_noPanic (plain_any [0, 1, 2, 3, 4, 5, 6, 7, 8, 9, 10, 11] (Below wr.heap.size wr) mixed ?_)
      refine any_tk 0 ?_
      have d0z : Below wr.heap.size wr wr.drew := by exact bel_of
      refine any_tk 1 ?_
      refine any_tk 2 ?_
      refine any_tk 3 ?_
      refine any_tk 4 ?_
      refine any_tk 5 ?_
      refine any_tk 6 ?_
      refine any_tk 7 ?_
      refine any_tk 8 ?_
      refine any_tk 9 ?_
      refine any_tk 10 ?_
      refine any_tk 11 ?_
      have qz1 := d0z.size
      have ez1 : Below wr.heap.size wr (wr.drew.alloc (.cells #[.int .i64 (q : Int)] 3)) := by exact bel_of
      refine any_run1 (i := 12) (by kernel_rfl) (by rfl) (by kernel_rfl) ?_
      intro K hK
      go_wp2_with fail
      refine hK _ _ (fun _ => ez1) ?_
      clear hK K
      have b9 : BK (wr.drew.alloc (.cells #[.int .i64 (q : Int)] 3)) (wr.drew.heap.size) #[.int .i64 (q : Int)] 3 := BK.new' _ _ _ _ rfl
      have o9 := own_below hown ez1
      have bx9 := bx.below ez1 bx.lt
      have rs9 := rs.below ez1 rs.lt
      have rb9 := rb.below ez1 rb.lt
      obtain ⟨v9, w9, hrun, hown', hbel, hsz, hkeep⟩ := app_b_i int_info int_slice o9 b9 (by rw [oneW_len]; omega) (by have := ez1.size; have := hC.size; omega)
      have hC9 := hbel w (hC.trans (ez1.mono (by have := hC.size; omega)))
      replace bx9 := hkeep _ _ _ bx9 (by decide)
      replace rs9 := hkeep _ _ _ rs9 (by decide)
      replace rb9 := hkeep _ _ _ rb9 (by decide)
      obtain ⟨A9, c9, rfl⟩ := own_slice hown'
      have hln : (oneW ss us j ++ [(q : Int)]).length = j + 1 := by rw [List.length_append, oneW_len]; rfl
      have hwq : oneW ss us (j + 1) = oneW ss us j ++ [(q : Int)] := by rw [HOS.out, HNK.out, HQQ.out]
      have hjl : (oneW ss us j).length = nl := by have h8 := HNL.out; have h9 := HKJ.out; rw [oneW_len] at h8 ⊢; omega
      rw [hln, hjl] at hrun
      clear hjl
      have hown3 := own_ri_set hown' rb9 (by decide) 1 (.slice A9 (j + 1) c9)
      rw [← hwq, oneW_len] at hown3
      have HO9 := Lib.hid hown3
      have hb2 := rb9.set 1 (.slice A9 (j + 1) c9)
      simp at hb2
      have HRB := Lib.hid hb2
      have HRX := Lib.hid (bx9.far (p := ⟨n0 + 1 + 1, 1, none⟩) (by show n0 ≠ n0 + 1 + 1; omega) (.slice A9 (j + 1) c9))
      have HRS := Lib.hid (rs9.far (p := ⟨n0 + 1 + 1, 1, none⟩) (by show n0 + 1 ≠ n0 + 1 + 1; omega) (.slice A9 (j + 1) c9))
      have HC9 : Hid (Below n0 w (w9.setCell ⟨n0 + 1 + 1, 1, none⟩ (.slice A9 (j + 1) c9))) := Lib.hid (Below.setCell hC9 HQ.out.2.2 _)
      have HRUN := Lib.hid hrun
      have lr9 := rb9.lt
      have rc9 := rb9.cell 1
      simp at rc9
      have rf9 := rb9.frozen 1
      clear hrun hown' hbel b9 o9 hC9 hsz hkeep hown hown3 hb2 hln hwq bx9 rs9 rb9
      refine any_run1 (i := 13) (by kernel_rfl) (by rfl) (by kernel_rfl) ?_
      intro K hK
      refine wp_append_run (.tmp 35) (.tmp 46) 40 _ rfl HRUN.out ?_
      refine hK _ _ (fun hx => (Bool.false_ne_true (hx.symm.trans (by kernel_rfl))).elim) ?_
      clear hK K
      simp only [List.getElem_toArray, List.getElem_cons_succ, List.getElem_cons_zero, Act.put, List.setIfInBounds_toArray, List.set_cons_succ, List.set_cons_zero]
      refine any_run1 (i := 14) (by kernel_rfl) (by rfl) (by kernel_rfl) ?_
      intro K hK
      go_wp2_with fail
      refine hK _ _ (fun hx => (Bool.false_ne_true (hx.symm.trans (by kernel_rfl))).elim) ?_
      clear hK K
      refine any_run1 (i := 15) (by kernel_rfl) (by rfl) (by kernel_rfl) ?_
      intro K hK
      go_wp2_with fail
      refine hK _ _ (fun hx => (Bool.false_ne_true (hx.symm.trans (by kernel_rfl))).elim) ?_
      clear hK K
      refine any_done (by kernel_rfl) (NoPanic.normal ?_)
      clear bx rs rb lr9 rc9 rf9
      go_wp2_with fail
      go_roundw
      case rel =>
        refine ⟨k + 1, .slice A9 (j + 1) c9, by omega, by go_num, HRX.out, HRS.out, ?_, ?_, HC9.out⟩
        · have : oneBk bars us (k + 1) = oneBk bars us k := by unfold oneBk; rw [if_neg (by omega), if_neg (by have := HJ.out; omega)]
          rw [this]; exact HRB.out
        · rw [show k + 1 - 1 = j + 1 by have := HJ.out; omega]; exact HO9.out
      case measure => simp [intOf]; omega
    have zu : (us.length : Int) > 0 := by omega
    obtain ⟨s, hs⟩ : ∃ s, k % us.length = s := ⟨_, rfl⟩
    have hsl : s < us.length := by rw [← hs]; exact Nat.mod_lt _ (by omega)
    have hng : us.getD s 0 = n := by rw [← hn, ← hs]; unfold numAt; rw [if_neg hu0]
    have e1 : (k : Int) % (us.length : Int) = (s : Int) := by rw [← Int.natCast_emod, hs]
    have t1 : (k : Int).tmod (us.length : Int) = (s : Int) := by rw [Int.tmod_eq_emod_of_nonneg (by omega), e1]
    have ye0 : ((us.length : Int) == 0) = false := beq_eq_false_iff_ne.2 (by omega)
    have ye2 : (us.length : Int) ≠ 0 := by omega
    obtain ⟨A', cap', bb, off, hve, hA, hc⟩ := RU.cells hU
    obtain ⟨rfl, hbb⟩ := hA (by omega)
    injection hve with q1 q2 q3
    subst q1 q3
    have hcl := hc s hsl
    rw [hng] at hcl
    clear hA hc q2 hs hn hng hu0
    have lbx := bx.lt
    have bxc0 := bx.cell 0
    have bxc1 := bx.cell 1
    simp at bxc0 bxc1
    have lrb := rb.lt
    have rbc0 := rb.cell 0
    have rbc1 := rb.cell 1
    simp at rbc0 rbc1
    go_upto_region 8 with fail
    clear lbx bxc0 bxc1
    clear lrb rbc0 rbc1
    clear zu e1 t1 ye0 ye2 hcl hbb hsl
    by_cases hk0 : k = 0
    case pos =>
      have hrm : n % bars.length = oneB bars us := by have := HN.out; rw [hk0] at this; rw [← this]; rfl
      have hrm2 : (n : Int) % (bars.length : Int) = (oneB bars us : Int) := by rw [← Int.natCast_emod, hrm]
      have hown2 := own_ri_set HOW.out rb (by decide) 0 (.int .i64 (oneB bars us : Nat))
      rw [HNL.out] at hown2
      have hz : oneW ss us (k - 1) = oneW ss us (1 - 1) := by rw [hk0]
      rw [hz] at hown2
      have d0 : ((k : Int) == 0) = true := by rw [hk0]; rfl
      have r1 : (n : Int) % (bars.length : Int) = (oneB bars us : Int) := by exact hrm2
      have r2 : (n : Int).tmod (bars.length : Int) = (oneB bars us : Int) := by rw [Int.tmod_eq_emod_of_nonneg (by omega), r1]
      have y0 : ((bars.length : Int) == 0) = false := beq_eq_false_iff_ne.2 (by omega)
      have y1 : (bars.length : Int) ≠ 0 := by omega
      have hol : oneB bars us < bars.length := Nat.mod_lt _ hbp
      obtain ⟨ob, hob⟩ : ∃ n, oneB bars us = n := ⟨_, rfl⟩
      rw [hob] at r1 r2 hol hown2
      have HO2 := Lib.hid hown2
      have HOB := Lib.hid hob
      have w1 : IntKind.i64.wrap (ob : Int) = (ob : Int) := by rw [IntKind.wrap_i64]; omega
      have wk : IntKind.i64.wrap ((k : Int) + 1) = (k : Int) + 1 := by rw [IntKind.wrap_i64]; omega
      have HK0 := Lib.hid hk0
      clear hob hrm hrm2 hown2 hz hk0
      have lbx := bx.lt
      have bxc0 := bx.cell 0
      have bxc1 := bx.cell 1
      simp at bxc0 bxc1
      have lrb := rb.lt
      have rbc0 := rb.cell 0
      have rbc1 := rb.cell 1
      simp at rbc0 rbc1
      have rbf0 := rb.frozen 0
      have HC2 : Hid (Below n0 w (wr.setCell ⟨n0 + 1 + 1, 0, none⟩ (.int .i64 (ob : Int)))) := Lib.hid (Below.setCell hC HQ.out.2.2 _)
      have hb2 := rb.set 0 (.int .i64 (ob : Int))
      simp at hb2
      have HRB := Lib.hid hb2
      have HRX := Lib.hid (bx.far (p := ⟨n0 + 1 + 1, 0, none⟩) (by show n0 ≠ n0 + 1 + 1; omega) (.int .i64 (ob : Int)))
      have HRS := Lib.hid (rs.far (p := ⟨n0 + 1 + 1, 0, none⟩) (by show n0 + 1 ≠ n0 + 1 + 1; omega) (.int .i64 (ob : Int)))
      clear hb2 bx rs rb hC
      go_wp2_with fail
      go_roundw
      case rel =>
        refine ⟨1, .slice Av nl cv, by omega, ?_, HRX.out, HRS.out, ?_, HO2.out, HC2.out⟩
        · rw [HK0.out]; rfl
        · have : oneBk bars us 1 = ob := by unfold oneBk; rw [if_neg (by decide), HOB.out]
          rw [this]; exact HRB.out
      case measure => simp [intOf]; omega
    obtain ⟨j, hj⟩ : ∃ j, k = j + 1 := ⟨k - 1, by omega⟩
    have hjs : j < ss.length := by omega
    obtain ⟨A', cap', bb', off', hve, hA, hc⟩ := RP.cells hS
    obtain ⟨rfl, hbb'⟩ := hA (by omega)
    injection hve with q1 q2 q3
    subst q1 q3
    obtain ⟨u, d1, hu1⟩ := hc j hjs
    obtain ⟨At, ct, rfl⟩ := hu1.slice
    have hwp := HV.out.wpos _ (nthS_mem hjs)
    have HOS := Lib.hid (oneW_succ ss us j)
    have hkj : k - 1 = j := by omega
    have HNK : Hid (numAt us (j + 1) = n) := Lib.hid (by rw [← hj]; exact HN.out)
    obtain ⟨q, hq⟩ : ∃ q, n % (nthS ss j).length = q := ⟨_, rfl⟩
    have hql : q < (nthS ss j).length := by rw [← hq]; exact Nat.mod_lt _ hwp.1
    have HQQ := Lib.hid hq
    obtain ⟨p, hp⟩ : ∃ p, (nthS ss j).length = p := ⟨_, rfl⟩
    rw [hp] at d1 hql hwp hq
    have r0 : (n : Int).tmod (p : Int) = (q : Int) := by rw [Int.tmod_eq_emod_of_nonneg (by omega), ← Int.natCast_emod, hq]
    have r2 : (n : Int).tmod (p : Int) = (q : Int) := by exact r0
    have y0 : ((p : Int) == 0) = false := beq_eq_false_iff_ne.2 (by omega)
    have y1 : (p : Int) ≠ 0 := by omega
    have y3 : (p = 0) = False := eq_false (by omega)
    have w1 : IntKind.i64.wrap (q : Int) = (q : Int) := by rw [IntKind.wrap_i64]; omega
    have w2 : IntKind.i64.wrap ((k : Int) - 1) = (j : Int) := by rw [IntKind.wrap_i64]; omega
    have wk : IntKind.i64.wrap ((k : Int) + 1) = (k : Int) + 1 := by rw [IntKind.wrap_i64]; omega
    have dk : ((k : Int) == 0) = false := beq_eq_false_iff_ne.2 (by omega)
    have hji : (j : Int) < (ss.length : Int) := by omega
    have HJ := Lib.hid hj
    have HKJ := Lib.hid hkj
    have hown := HOW.out
    rw [hkj] at hown
    have HPP := Lib.hid hp
    clear hA hc q2 hu1 hwp hq hp r0 hkj hj hk0
    have lbx := bx.lt
    have bxc0 := bx.cell 0
    have bxc1 := bx.cell 1
    simp at bxc0 bxc1
    have lrb := rb.lt
    have rbc0 := rb.cell 0
    have rbc1 := rb.cell 1
    simp at rbc0 rbc1
    go_upto_region 10 with fail
    refine wp_region_noPanic (plain_any [0, 1, 2, 3, 4, 5, 6, 7, 8, 9, 10, 11] (Below wr.heap.size wr) mixed ?_)
    refine any_tk 0 ?_
    have d0z : Below wr.heap.size wr wr.drew := by exact bel_of
    refine any_tk 1 ?_
    refine any_tk 2 ?_
    refine any_tk 3 ?_
    refine any_tk 4 ?_
    refine any_tk 5 ?_
    refine any_tk 6 ?_
    refine any_tk 7 ?_
    refine any_tk 8 ?_
    refine any_tk 9 ?_
    refine any_tk 10 ?_
    refine any_tk 11 ?_
    have qz1 := d0z.size
    have ez1 : Below wr.heap.size wr (wr.drew.alloc (.cells #[.int .i64 (q : Int)] 3)) := by exact bel_of
    refine any_run1 (i := 12) (by kernel_rfl) (by rfl) (by kernel_rfl) ?_
    intro K hK
    go_wp2_with fail
    refine hK _ _ (fun _ => ez1) ?_
    clear hK K
    have b9 : BK (wr.drew.alloc (.cells #[.int .i64 (q : Int)] 3)) (wr.drew.heap.size) #[.int .i64 (q : Int)] 3 := BK.new' _ _ _ _ rfl
    have o9 := own_below hown ez1
    have bx9 := bx.below ez1 bx.lt
    have rs9 := rs.below ez1 rs.lt
    have rb9 := rb.below ez1 rb.lt
    obtain ⟨v9, w9, hrun, hown', hbel, hsz, hkeep⟩ := app_b_i int_info int_slice o9 b9 (by rw [oneW_len]; omega) (by have := ez1.size; have := hC.size; omega)
    have hC9 := hbel w (hC.trans (ez1.mono (by have := hC.size; omega)))
    replace bx9 := hkeep _ _ _ bx9 (by decide)
    replace rs9 := hkeep _ _ _ rs9 (by decide)
    replace rb9 := hkeep _ _ _ rb9 (by decide)
    obtain ⟨A9, c9, rfl⟩ := own_slice hown'
    have hln : (oneW ss us j ++ [(q : Int)]).length = j + 1 := by rw [List.length_append, oneW_len]; rfl
    have hwq : oneW ss us (j + 1) = oneW ss us j ++ [(q : Int)] := by rw [HOS.out, HNK.out, HQQ.out]
    have hjl : (oneW ss us j).length = nl := by have h8 := HNL.out; have h9 := HKJ.out; rw [oneW_len] at h8 ⊢; omega
    rw [hln, hjl] at hrun
    clear hjl
    have hown3 := own_ri_set hown' rb9 (by decide) 1 (.slice A9 (j + 1) c9)
    rw [← hwq, oneW_len] at hown3
    have HO9 := Lib.hid hown3
    have hb2 := rb9.set 1 (.slice A9 (j + 1) c9)
    simp at hb2
    have HRB := Lib.hid hb2
    have HRX := Lib.hid (bx9.far (p := ⟨n0 + 1 + 1, 1, none⟩) (by show n0 ≠ n0 + 1 + 1; omega) (.slice A9 (j + 1) c9))
    have HRS := Lib.hid (rs9.far (p := ⟨n0 + 1 + 1, 1, none⟩) (by show n0 + 1 ≠ n0 + 1 + 1; omega) (.slice A9 (j + 1) c9))
    have HC9 : Hid (Below n0 w (w9.setCell ⟨n0 + 1 + 1, 1, none⟩ (.slice A9 (j + 1) c9))) := Lib.hid (Below.setCell hC9 HQ.out.2.2 _)
    have HRUN := Lib.hid hrun
    have lr9 := rb9.lt
    have rc9 := rb9.cell 1
    simp at rc9
    have rf9 := rb9.frozen 1
    clear hrun hown' hbel b9 o9 hC9 hsz hkeep hown hown3 hb2 hln hwq bx9 rs9 rb9
    refine any_run1 (i := 13) (by kernel_rfl) (by rfl) (by kernel_rfl) ?_
    intro K hK
    refine wp_append_run (.tmp 35) (.tmp 46) 40 _ rfl HRUN.out ?_
    refine hK _ _ (fun hx => (Bool.false_ne_true (hx.symm.trans (by kernel_rfl))).elim) ?_
    clear hK K
    simp only [List.getElem_toArray, List.getElem_cons_succ, List.getElem_cons_zero, Act.put, List.setIfInBounds_toArray, List.set_cons_succ, List.set_cons_zero]
    refine any_run1 (i := 14) (by kernel_rfl) (by rfl) (by kernel_rfl) ?_
    intro K hK
    go_wp2_with fail
    refine hK _ _ (fun hx => (Bool.false_ne_true (hx.symm.trans (by kernel_rfl))).elim) ?_
    clear hK K
    refine any_run1 (i := 15) (by kernel_rfl) (by rfl) (by kernel_rfl) ?_
    intro K hK
    go_wp2_with fail
    refine hK _ _ (fun hx => (Bool.false_ne_true (hx.symm.trans (by kernel_rfl))).elim) ?_
    clear hK K
    refine any_done (by kernel_rfl) (NoPanic.normal ?_)
    clear bx rs rb lr9 rc9 rf9
    go_wp2_with fail
    go_roundw
    case rel =>
      refine ⟨k + 1, .slice A9 (j + 1) c9, by omega, by go_num, HRX.out, HRS.out, ?_, ?_, HC9.out⟩
      · have : oneBk bars us (k + 1) = oneBk bars us k := by unfold oneBk; rw [if_neg (by omega), if_neg (by have := HJ.out; omega)]
        rw [this]; exact HRB.out
      · rw [show k + 1 - 1 = j + 1 by have := HJ.out; omega]; exact HO9.out
    case measure => simp [intOf]; omega
end Go.Proofs.Ytkibdciomheekaa

set_option linter.all false
namespace Go.Proofs.Ytkibdciomheekaa
open Go.RowKit Hp

/-- The hardness that is meant in a range. -/
def truH (ys : List Nat) (k : Nat) (r : Rg) : Int := r.lo + (numAt ys k : Int) % (r.hi - r.lo + 1)
/-- The range before the step k. -/
def truR (r : Rg) (ws : List Wy) (ys : List Nat) : Nat → Rg
  | 0 => r
  | k + 1 => aft (nthW ws k) (truH ys k (truR r ws ys k))
def truL (r : Rg) (ws : List Wy) (ys : List Nat) (n : Nat) : List Int := (List.range n).map fun k => truH ys k (truR r ws ys k)
theorem truL_succ (r : Rg) (ws : List Wy) (ys : List Nat) (n : Nat) : truL r ws ys (n + 1) = truL r ws ys n ++ [truH ys n (truR r ws ys n)] := by simp [truL, List.range_succ]
theorem truL_len (r : Rg) (ws : List Wy) (ys : List Nat) (n : Nat) : (truL r ws ys n).length = n := by simp [truL]
theorem truH_in {ys : List Nat} {k : Nat} {r : Rg} (h : OkR r) : inR (truH ys k r) r = true := by
  obtain ⟨h1, h2, h3⟩ := h
  have a := Int.emod_nonneg (numAt ys k : Int) (show r.hi - r.lo + 1 ≠ 0 by omega)
  have b := Int.emod_lt_of_pos (numAt ys k : Int) (show 0 < r.hi - r.lo + 1 by omega)
  refine inR_iff.2 ?_
  unfold truH
  omega
theorem truR_ok {r : Rg} {ws : List Wy} (ys : List Nat) (h : OkR r) (ok : ∀ w ∈ ws, OkW w) : ∀ k, k ≤ ws.length → OkR (truR r ws ys k)
  | 0, _ => h
  | k + 1, hk => by
    have ih := truR_ok ys h ok k (by omega)
    have hi := inR_iff.1 (truH_in (ys := ys) (k := k) ih)
    exact aft_rng (ok _ (nthW_mem (by omega))) (by have := ih.2.1; omega)
theorem truL_at {r : Rg} {ws : List Wy} {ys : List Nat} {n k : Nat} (h : k < n) : nthI (truL r ws ys n) k = truH ys k (truR r ws ys k) := by simp [nthI, truL, h]
theorem truL_hist {r : Rg} {ws : List Wy} (ys : List Nat) (h : OkR r) (ok : ∀ w ∈ ws, OkW w) : histB r ws (truL r ws ys (ws.length + 1)) = true := by
  have : ∀ j, j ≤ ws.length → histB (truR r ws ys (ws.length - j)) (ws.drop (ws.length - j)) ((truL r ws ys (ws.length + 1)).drop (ws.length - j)) = true := by
    intro j
    induction j with
    | zero =>
      intro _
      rw [Nat.sub_zero, hist_end (truL_len ..), truL_at (by omega)]
      exact truH_in (truR_ok ys h ok _ (Nat.le_refl _))
    | succ j ih =>
      intro hj
      have h1 := ih (by omega)
      rw [hist_step (by omega) (by rw [truL_len]; omega), truL_at (by omega), show ws.length - (j + 1) + 1 = ws.length - j by omega, Bool.and_eq_true]
      refine ⟨truH_in (truR_ok ys h ok _ (by omega)), ?_⟩
      have e : aft (nthW ws (ws.length - (j + 1))) (truH ys (ws.length - (j + 1)) (truR r ws ys (ws.length - (j + 1)))) = truR r ws ys (ws.length - j) := by
        rw [show ws.length - j = ws.length - (j + 1) + 1 by omega]; rfl
      rw [e]; exact h1
  have h2 := this ws.length (Nat.le_refl _)
  rw [Nat.sub_self] at h2
  exact h2
def truV (bars : List Rg) (ss : List Stp) (b : Int) (ks : List Int) (ys : List Nat) : List Int := truL (nthB bars b.toNat) (pick ss (nats ks)) ys (ss.length + 1)
theorem truV_len {bars : List Rg} {ss : List Stp} {b : Int} {ks : List Int} {ys : List Nat} : (truV bars ss b ks ys).length = ss.length + 1 := truL_len ..
theorem truV_hist {bars : List Rg} {ss : List Stp} {b : Int} {ks : List Int} (ys : List Nat) (OR : OkRec bars ss b ks) : histB (nthB bars b.toNat) (pick ss (nats ks)) (truV bars ss b ks ys) = true := by
  have := truL_hist ys (OR.works.bok _ (nthB_mem OR.bhi)) (pick_ok OR.works.sok OR.ways)
  rw [pick_len OR.ways] at this
  exact this
theorem truV_ok {bars : List Rg} {ss : List Stp} {b : Int} {ks : List Int} (ys : List Nat) (OR : OkRec bars ss b ks) : histE bars ss b ks (truV bars ss b ks ys) = 0 := by
  rw [histE_at (recE_of OR) truV_len (truV_hist ys OR), if_pos rfl]

set_option maxHeartbeats 8000000 in
set_option maxRecDepth 100000 in
theorem true_any (bars : List Rg) (ss : List Stp) (b : Int) (ks : List Int) (ys : List Nat) (vb vs vk vy : Value) (w : World) (hf : Fit bars ss) (OR : OkRec bars ss b ks) (hy : ∀ x ∈ ys, x ≤ 4294967295) (hly : ys.length ≤ 20) (hB : RR w w.heap.size vb bars) (hS : RP w w.heap.size vs ss) (hR : RI w w.heap.size vk ks) (hY : RU .u32 w w.heap.size vy ys) :
    Calls Try.prog 45 #[.agg #[vb, vs], .agg #[.int .i64 b, vk], vy] w fun e w' => ∃ v, e = .returned v ∧ RI w' w'.heap.size v (truV bars ss b ks ys) ∧ Below w.heap.size w w' := by
  have HF := Lib.hid hf
  have HY := Lib.hid hy
  have hs6 := OR.works.sfew
  have HOK := Lib.hid (pick_ok OR.works.sok OR.ways)
  have HPL := Lib.hid (pick_len OR.ways)
  have HBR := Lib.hid (OR.works.bok _ (nthB_mem OR.bhi))
  have HWP := Lib.hid OR.works.wpos
  have hke : ks.length = ss.length := by have := allR_len OR.ways; simpa [nats] using this
  have HKE := Lib.hid hke
  have HOR := Lib.hid OR
  have hb0 := OR.blo
  have hb1 := OR.bhi
  clear hf hy OR hke
  obtain ⟨Ab, cb, rfl⟩ := hB.slice
  obtain ⟨As, cs, rfl⟩ := hS.slice
  obtain ⟨Ar, cr, rfl⟩ := ri_slice hR
  obtain ⟨Ay, cy, rfl⟩ := ru_slice hY
  obtain ⟨n0, hn0⟩ : ∃ n, w.heap.size = n := ⟨_, rfl⟩
  have hC : Below n0 w w := Below.refl _ _
  go_enter Try.func45, Try.ntmps45
  have HB0 := Lib.hid hB
  have HS0 := Lib.hid hS
  have HR0 := Lib.hid hR
  have HY0 := Lib.hid hY
  rw [hn0] at HB0 HS0 HR0 HY0
  go_upto_region 1 with fail
  have hqbx : n0 ≤ n0 := by have := hC.size; omega
  have bx : BK (w.alloc (.cells #[.slice Ab bars.length cb, .slice As ss.length cs] 25)) (n0) #[.slice Ab bars.length cb, .slice As ss.length cs] 25 := BK.new' _ _ _ (n0) hn0
  have hsbx : (w.alloc (.cells #[.slice Ab bars.length cb, .slice As ss.length cs] 25)).heap.size = n0 + 1 := by simp [hn0]
  replace hC : Below n0 w (w.alloc (.cells #[.slice Ab bars.length cb, .slice As ss.length cs] 25)) := Below.alloc hC (by have := hC.size; omega) _
  replace hB := (RS.below hB (w' := (w.alloc (.cells #[.slice Ab bars.length cb, .slice As ss.length cs] 25))) (Below.alloc (Below.refl _ _) (Nat.le_refl _) _)).more (B' := (w.alloc (.cells #[.slice Ab bars.length cb, .slice As ss.length cs] 25)).heap.size) (by simp)
  replace hS := (RP.below hS (w' := (w.alloc (.cells #[.slice Ab bars.length cb, .slice As ss.length cs] 25))) (Below.alloc (Below.refl _ _) (Nat.le_refl _) _)).more (B' := (w.alloc (.cells #[.slice Ab bars.length cb, .slice As ss.length cs] 25)).heap.size) (by simp)
  replace hR := (RS.below hR (w' := (w.alloc (.cells #[.slice Ab bars.length cb, .slice As ss.length cs] 25))) (Below.alloc (Below.refl _ _) (Nat.le_refl _) _)).more (B' := (w.alloc (.cells #[.slice Ab bars.length cb, .slice As ss.length cs] 25)).heap.size) (by simp)
  replace hY := (RU.below hY (w' := (w.alloc (.cells #[.slice Ab bars.length cb, .slice As ss.length cs] 25))) (Below.alloc (Below.refl _ _) (Nat.le_refl _) _)).more (B' := (w.alloc (.cells #[.slice Ab bars.length cb, .slice As ss.length cs] 25)).heap.size) (by simp)
  generalize (w.alloc (.cells #[.slice Ab bars.length cb, .slice As ss.length cs] 25)) = Wbx at *
  have hqwx : n0 ≤ n0 + 1 := by have := hC.size; omega
  have wx : BK (Wbx.alloc (.cells #[.int .i64 b, .slice Ar ks.length cr] 42)) (n0 + 1) #[.int .i64 b, .slice Ar ks.length cr] 42 := BK.new' _ _ _ (n0 + 1) hsbx
  have hswx : (Wbx.alloc (.cells #[.int .i64 b, .slice Ar ks.length cr] 42)).heap.size = n0 + 1 + 1 := by simp [hsbx]
  replace hC : Below n0 w (Wbx.alloc (.cells #[.int .i64 b, .slice Ar ks.length cr] 42)) := Below.alloc hC (by have := hC.size; omega) _
  replace hB := (RS.below hB (w' := (Wbx.alloc (.cells #[.int .i64 b, .slice Ar ks.length cr] 42))) (Below.alloc (Below.refl _ _) (Nat.le_refl _) _)).more (B' := (Wbx.alloc (.cells #[.int .i64 b, .slice Ar ks.length cr] 42)).heap.size) (by simp)
  replace hS := (RP.below hS (w' := (Wbx.alloc (.cells #[.int .i64 b, .slice Ar ks.length cr] 42))) (Below.alloc (Below.refl _ _) (Nat.le_refl _) _)).more (B' := (Wbx.alloc (.cells #[.int .i64 b, .slice Ar ks.length cr] 42)).heap.size) (by simp)
  replace hR := (RS.below hR (w' := (Wbx.alloc (.cells #[.int .i64 b, .slice Ar ks.length cr] 42))) (Below.alloc (Below.refl _ _) (Nat.le_refl _) _)).more (B' := (Wbx.alloc (.cells #[.int .i64 b, .slice Ar ks.length cr] 42)).heap.size) (by simp)
  replace hY := (RU.below hY (w' := (Wbx.alloc (.cells #[.int .i64 b, .slice Ar ks.length cr] 42))) (Below.alloc (Below.refl _ _) (Nat.le_refl _) _)).more (B' := (Wbx.alloc (.cells #[.int .i64 b, .slice Ar ks.length cr] 42)).heap.size) (by simp)
  replace bx := bx.alloc (.cells #[.int .i64 b, .slice Ar ks.length cr] 42)
  generalize (Wbx.alloc (.cells #[.int .i64 b, .slice Ar ks.length cr] 42)) = Wwx at *
  clear hsbx
  obtain ⟨A', cap', bb, off, hve, hA, hc⟩ := RR.cells hB
  obtain ⟨rfl, hbb⟩ := hA (by omega)
  injection hve with q1 q2 q3
  subst q1 q3
  obtain ⟨d0, d1⟩ := hc b.toNat hb1
  obtain ⟨nb, rfl⟩ : ∃ n : Nat, b = n := ⟨b.toNat, by omega⟩
  rw [Int.toNat_natCast] at d0 d1 hb1 HBR
  have hb2 : (nb : Int) < (bars.length : Int) := by omega
  obtain ⟨r0, hr⟩ : ∃ r, nthB bars nb = r := ⟨_, rfl⟩
  rw [hr] at d0 d1 HBR
  have HR1 := Lib.hid hr
  clear hA hc q2 hr
  have lbx := bx.lt
  have bxc0 := bx.cell 0
  have bxc1 := bx.cell 1
  simp at bxc0 bxc1
  have lwx := wx.lt
  have wxc0 := wx.cell 0
  have wxc1 := wx.cell 1
  simp at wxc0 wxc1
  go_upto_region 2 with fail
  clear lbx bxc0 bxc1
  clear lwx wxc0 wxc1
  clear d0 d1 hbb hb2
  have hqrx : n0 ≤ n0 + 1 + 1 := by have := hC.size; omega
  have rx : BK (Wwx.alloc (.cells #[.int .i64 r0.lo, .int .i64 r0.hi] 33)) (n0 + 1 + 1) #[.int .i64 r0.lo, .int .i64 r0.hi] 33 := BK.new' _ _ _ (n0 + 1 + 1) hswx
  have hsrx : (Wwx.alloc (.cells #[.int .i64 r0.lo, .int .i64 r0.hi] 33)).heap.size = n0 + 1 + 1 + 1 := by simp [hswx]
  replace hC : Below n0 w (Wwx.alloc (.cells #[.int .i64 r0.lo, .int .i64 r0.hi] 33)) := Below.alloc hC (by have := hC.size; omega) _
  replace hB := (RS.below hB (w' := (Wwx.alloc (.cells #[.int .i64 r0.lo, .int .i64 r0.hi] 33))) (Below.alloc (Below.refl _ _) (Nat.le_refl _) _)).more (B' := (Wwx.alloc (.cells #[.int .i64 r0.lo, .int .i64 r0.hi] 33)).heap.size) (by simp)
  replace hS := (RP.below hS (w' := (Wwx.alloc (.cells #[.int .i64 r0.lo, .int .i64 r0.hi] 33))) (Below.alloc (Below.refl _ _) (Nat.le_refl _) _)).more (B' := (Wwx.alloc (.cells #[.int .i64 r0.lo, .int .i64 r0.hi] 33)).heap.size) (by simp)
  replace hR := (RS.below hR (w' := (Wwx.alloc (.cells #[.int .i64 r0.lo, .int .i64 r0.hi] 33))) (Below.alloc (Below.refl _ _) (Nat.le_refl _) _)).more (B' := (Wwx.alloc (.cells #[.int .i64 r0.lo, .int .i64 r0.hi] 33)).heap.size) (by simp)
  replace hY := (RU.below hY (w' := (Wwx.alloc (.cells #[.int .i64 r0.lo, .int .i64 r0.hi] 33))) (Below.alloc (Below.refl _ _) (Nat.le_refl _) _)).more (B' := (Wwx.alloc (.cells #[.int .i64 r0.lo, .int .i64 r0.hi] 33)).heap.size) (by simp)
  replace bx := bx.alloc (.cells #[.int .i64 r0.lo, .int .i64 r0.hi] 33)
  replace wx := wx.alloc (.cells #[.int .i64 r0.lo, .int .i64 r0.hi] 33)
  generalize (Wwx.alloc (.cells #[.int .i64 r0.lo, .int .i64 r0.hi] 33)) = Wrx at *
  clear hswx
  clear hsrx
  generalize Wrx = W0 at *
  have HQ := Lib.hid (And.intro hqbx (And.intro hqwx hqrx))
  clear hqbx hqwx hqrx
  obtain ⟨ws, hws⟩ : ∃ ws, pick ss (nats ks) = ws := ⟨_, rfl⟩
  have HOKW := HOK
  have HPLW := HPL
  rw [hws] at HOKW HPLW
  have HWS := Lib.hid hws
  clear hws
  go_wp2_with fail
  go_loopw [8, 9] (fun acc i wr => ∃ (k : Nat) (r : Rg), k ≤ ss.length + 1 ∧ i = .int .i64 (k : Int) ∧ BK wr (n0) #[.slice (some ⟨bb, off, none⟩) bars.length cb, .slice As ss.length cs] 25 ∧ BK wr (n0 + 1) #[.int .i64 (nb : Int), .slice Ar ks.length cr] 42 ∧ BK wr (n0 + 1 + 1) #[.int .i64 r.lo, .int .i64 r.hi] 33 ∧ (k ≤ ss.length → r = truR r0 ws ys k) ∧ OwnI 2 wr n0 acc (truL r0 ws ys k) ∧ Below n0 w wr) (fun _ i _ => ss.length + 1 - (intOf i).toNat)
  case atStart => exact ⟨0, r0, Nat.zero_le _, rfl, bx, wx, rx, fun _ => rfl, OwnI.nil _ _ _, hC⟩
  case round =>
    clear bx wx rx hC hB hS hR hY
    obtain ⟨k, r, hk, rfl, bx, wx, rx, hrk, hown, hC⟩ := hrel
    have hB := RS.more (RS.below HB0.out hC) (B' := wr.heap.size) (by have := hC.size; omega)
    have hS := RP.more (RP.below HS0.out hC) (B' := wr.heap.size) (by have := hC.size; omega)
    have hR := RS.more (RS.below HR0.out hC) (B' := wr.heap.size) (by have := hC.size; omega)
    have hY := RU.more (RU.below HY0.out hC) (B' := wr.heap.size) (by have := hC.size; omega)
    have HRK := Lib.hid hrk
    have HOW := Lib.hid hown
    clear hown hrk
    by_cases hlt : k < ss.length + 1
    case neg =>
      obtain rfl : k = ss.length + 1 := by omega
      obtain ⟨Av, cv, rfl⟩ := own_slice HOW.out
      rw [truL_len] at HOW ⊢
      have hke := HKE.out
      have hlt' : ¬ ((ss.length + 1 : Nat) : Int) ≤ (ks.length : Int) := by omega
      simp only [Int.natCast_add, Int.cast_ofNat_Int] at hlt'
      have HO : Hid (RI wr wr.heap.size (.slice Av (ss.length + 1) cv) (truV bars ss (nb : Int) ks ys)) := Lib.hid (by
        have h := HOW.out.ri
        unfold truV
        rw [HWS.out, Int.toNat_natCast, HR1.out]
        exact h)
      clear hlt hke
      have lbx := bx.lt
      have bxc0 := bx.cell 0
      have bxc1 := bx.cell 1
      simp at bxc0 bxc1
      have lwx := wx.lt
      have wxc0 := wx.cell 0
      have wxc1 := wx.cell 1
      simp at wxc0 wxc1
      have lrx := rx.lt
      have rxc0 := rx.cell 0
      have rxc1 := rx.cell 1
      simp at rxc0 rxc1
      go_wp2_with fail
      go_ret
      exact ⟨_, rfl, HO.out, by (try rw [hn0]); exact hC⟩
    obtain ⟨Av, cv, rfl⟩ := own_slice HOW.out
    rw [truL_len] at HOW ⊢
    have hke := HKE.out
    have hlt' : (k : Int) ≤ (ks.length : Int) := by omega
    have hre := HRK.out (by omega)
    have hro : OkR r := by rw [hre]; exact truR_ok ys HBR.out HOKW.out k (by rw [HPLW.out]; omega)
    obtain ⟨lo, hi⟩ := r
    have ho1 := hro.1
    have ho2 := hro.2.1
    have ho3 := hro.2.2
    have hin := inR_iff.1 (truH_in (ys := ys) (k := k) hro)
    dsimp only at ho1 ho2 ho3 hin rx
    have HTS := Lib.hid (truL_succ r0 ws ys k)
    rw [← hre] at HTS
    have HRE := Lib.hid hre
    have hnle := numAt_le HY.out k
    obtain ⟨n, hn⟩ : ∃ n, numAt ys k = n := ⟨_, rfl⟩
    rw [hn] at hnle
    have HTH : Hid (truH ys k ⟨lo, hi⟩ = lo + (n : Int) % (hi - lo + 1)) := Lib.hid (by rw [← hn]; rfl)
    clear hre hro hke
    
    by_cases hu0 : ys.length = 0
    case pos =>
      have zu : ¬ ((ys.length : Int) > 0) := by omega
      have HZ := Lib.hid (show truH ys k ⟨lo, hi⟩ = lo by rw [HTH.out, ← hn]; unfold numAt; rw [if_pos hu0]; simp)
      clear hn hu0
      have lbx := bx.lt
      have bxc0 := bx.cell 0
      have bxc1 := bx.cell 1
      simp at bxc0 bxc1
      have lwx := wx.lt
      have wxc0 := wx.cell 0
      have wxc1 := wx.cell 1
      simp at wxc0 wxc1
      have lrx := rx.lt
      have rxc0 := rx.cell 0
      have rxc1 := rx.cell 1
      simp at rxc0 rxc1
      go_upto_region 9 with fail
      clear lbx bxc0 bxc1
      clear lwx wxc0 wxc1
      clear lrx rxc0 rxc1
      clear zu
      have hwz : n0 ≤ wr.heap.size := by have := hC.size; omega
      obtain ⟨v9, w9, hrun, hown', hC9, hs', hkeep⟩ := app_i64 HOW.out lo (by rw [truL_len]; omega) hwz hC wr.heap.size rfl
      rw [← HZ.out, ← HTS.out] at hown'
      obtain ⟨A9, c9, rfl⟩ := own_slice hown'
      rw [truL_len] at hrun hown'
      have HO9 := Lib.hid hown'
      have HRUN := Lib.hid hrun
      replace bx := hkeep _ _ _ bx (by decide)
      replace wx := hkeep _ _ _ wx (by decide)
      replace rx := hkeep _ _ _ rx (by decide)
      clear hrun hown' hs' hkeep hwz hC hB hS hR hY
      by_cases hk2 : k < ss.length
      case neg =>
        have hke := HKE.out
        have hk3 : ¬ (k : Int) < (ks.length : Int) := by omega
        clear hke
        have lbx := bx.lt
        have bxc0 := bx.cell 0
        have bxc1 := bx.cell 1
        simp at bxc0 bxc1
        have lwx := wx.lt
        have wxc0 := wx.cell 0
        have wxc1 := wx.cell 1
        simp at wxc0 wxc1
        go_wp2_with (at_builtin; refine wpList_append_run rfl (.tmp 46) (.tmp 48) 43 _ rfl HRUN.out ?_)
        clear lbx bxc0 bxc1
        clear lwx wxc0 wxc1
        go_roundw
        case rel => exact ⟨k + 1, ⟨lo, hi⟩, by omega, by go_num, bx, wx, rx, fun h => by omega, HO9.out, hC9⟩
        case measure => simp [intOf]; omega
      have hke := HKE.out
      have hk3 : (k : Int) < (ks.length : Int) := by omega
      have hk4 : (k : Int) < (ss.length : Int) := by omega
      have hS := RP.more (RP.below HS0.out hC9) (B' := w9.heap.size) (by have := hC9.size; omega)
      have hR := RS.more (RS.below HR0.out hC9) (B' := w9.heap.size) (by have := hC9.size; omega)
      obtain ⟨A1, cap1, b1, o1, hve, hA, hc⟩ := RP.cells hS
      obtain ⟨rfl, hbb1⟩ := hA (by omega)
      injection hve with q1 q2 q3
      subst q1 q3
      obtain ⟨u, d1, hu1⟩ := hc k hk2
      obtain ⟨A2, cap2, b2, o2, rfl, hA2, hc2⟩ := RW.cells hu1
      obtain ⟨A3, cap3, b3, o3, hve3, hA3, hc3⟩ := RI.cells hR
      obtain ⟨rfl, hbb3⟩ := hA3 (by omega)
      injection hve3 with q1 q2 q3
      subst q1 q3
      have d3 := hc3 k (by omega)
      obtain ⟨q, hq⟩ : ∃ q : Nat, (nthI ks k).toNat = q := ⟨_, rfl⟩
      have hqi : nthI ks k = (q : Int) := by
        have := HOR.out.nn (nthI ks k) (by
          have h9 : k < ks.length := by omega
          have : nthI ks k = ks[k] := by simp [nthI, h9]
          rw [this]; exact List.getElem_mem _)
        omega
      have hql : q < (nthS ss k).length := by
        have := (mem_allR_iff.1 HOR.out.ways).2 k hk2
        rw [nats_at, hq] at this
        exact this
      rw [hqi] at d3
      obtain ⟨rfl, hbb2⟩ := hA2 (by omega)
      obtain ⟨u2, d2, hu2⟩ := hc2 q hql
      have hyk : nthW (nthS ss k) q = nthW ws k := by
        rw [← HWS.out, pick_at hk2 (by simp [nats]; omega), hq]
      rw [hyk] at hu2
      have hoy := HOKW.out _ (nthW_mem (show k < ws.length by rw [HPLW.out]; omega))
      obtain ⟨y, hy⟩ : ∃ y, nthW ws k = y := ⟨_, rfl⟩
      rw [hy] at hu2 hoy
      obtain ⟨Ay2, cy2, rfl⟩ := hu2.slice
      have HIN : Hid (inB 0 1000 lo = true) := Lib.hid (by have h9 := hin; rw [HZ.out] at h9; unfold inB; simp; omega)
      have HAF := Lib.hid (after_in (wayE_of hoy) HIN.out)
      have HYL := Lib.hid (show y.length ≤ maxLen from Nat.le_trans hoy.few (by decide))
      obtain ⟨⟨l1, x1⟩, hx1⟩ : ∃ z, aft y lo = z := ⟨_, rfl⟩
      have HX1 := Lib.hid hx1
      rw [hx1] at HAF
      have HNX : Hid ((⟨l1, x1⟩ : Rg) = truR r0 ws ys (k + 1)) := Lib.hid (by
        show _ = aft (nthW ws k) (truH ys k (truR r0 ws ys k))
        rw [← HRE.out, HZ.out, hy, hx1])
      have hqlI : (q : Int) < ((nthS ss k).length : Int) := by omega
      obtain ⟨p, hp⟩ : ∃ p, (nthS ss k).length = p := ⟨_, rfl⟩
      rw [hp] at d1 hql hqlI
      clear hA hc hA2 hc2 hA3 hc3 hq hqi hyk hoy hy hx1 q2 hu1 hp hke
      have lbx := bx.lt
      have bxc0 := bx.cell 0
      have bxc1 := bx.cell 1
      simp at bxc0 bxc1
      have lwx := wx.lt
      have wxc0 := wx.cell 0
      have wxc1 := wx.cell 1
      simp at wxc0 wxc1
      go_upto_region 11 with (at_builtin; refine wpList_append_run rfl (.tmp 46) (.tmp 48) 43 _ rfl HRUN.out ?_)
      refine wp_region_noPanic (plain_any [0, 1, 2, 3, 4, 5, 6, 7, 8, 9, 10, 11, 12, 13, 15] (Below w9.heap.size w9) mixed ?_)
      refine any_tk 0 ?_
      have d0z : Below w9.heap.size w9 w9.drew := by exact bel_of
      refine any_tk 1 ?_
      refine any_tk 2 ?_
      refine any_tk 3 ?_
      refine any_tk 4 ?_
      refine any_tk 5 ?_
      refine any_tk 6 ?_
      refine any_tk 7 ?_
      refine any_tk 8 ?_
      refine any_tk 9 ?_
      refine any_tk 10 ?_
      refine any_tk 11 ?_
      refine any_tk 12 ?_
      refine any_tk 13 ?_
      have qz1 := d0z.size
      refine any_run1 (i := 14) (by kernel_rfl) (by rfl) (by kernel_rfl) ?_
      intro K hK
      go_wp2_with fail
      refine (afterXR_any y _ lo _ HYL.out ((RK.below hu2 d0z).more d0z.size)).mono ?_
      rintro e vz1 ⟨rfl, hb⟩
      rw [HAF.out.1, HAF.out.2]
      unfold rV
      have ez1 : Below w9.heap.size w9 vz1 := d0z.trans (hb.mono d0z.size)
      clear hb
      refine hK _ _ (fun _ => ez1) ?_
      clear hK K
      refine any_tk 15 ?_
      have rx2 := rx.below ez1 rx.lt
      have bx2 := bx.below ez1 bx.lt
      have wx2 := wx.below ez1 wx.lt
      have HO2 := Lib.hid (own_ri_sets (own_below HO9.out ez1) rx2 (by decide) (.int .i64 l1) (.int .i64 x1))
      have hC2 : Below n0 w vz1 := hC9.trans (ez1.mono (by have := hC9.size; omega))
      have HC2 : Hid (Below n0 w ((vz1.setCell ⟨n0 + 1 + 1, 0, none⟩ (.int .i64 l1)).setCell ⟨n0 + 1 + 1, 1, none⟩ (.int .i64 x1))) := Lib.hid (Below.setCell (Below.setCell hC2 HQ.out.2.2 _) HQ.out.2.2 _)
      have HBX := Lib.hid ((bx2.far (p := ⟨n0 + 1 + 1, 0, none⟩) (by show n0 ≠ n0 + 1 + 1; omega) (.int .i64 l1)).far (p := ⟨n0 + 1 + 1, 1, none⟩) (by show n0 ≠ n0 + 1 + 1; omega) (.int .i64 x1))
      have HWX := Lib.hid ((wx2.far (p := ⟨n0 + 1 + 1, 0, none⟩) (by show n0 + 1 ≠ n0 + 1 + 1; omega) (.int .i64 l1)).far (p := ⟨n0 + 1 + 1, 1, none⟩) (by show n0 + 1 ≠ n0 + 1 + 1; omega) (.int .i64 x1))
      have rx3 := (rx2.set 0 (.int .i64 l1)).set 1 (.int .i64 x1)
      simp at rx3
      have HRX := Lib.hid rx3
      have lr := rx2.lt
      have rc0 := rx2.cell 0
      have rc1 := rx2.cell 1
      simp at rc0 rc1
      have rf0 := rx2.frozen 0
      have rf1 := rx2.frozen 1
      clear rx3 bx wx rx bx2 wx2 rx2 hC2 lbx bxc0 bxc1 lwx wxc0 wxc1 d1 d2 d3 hu2 hS hR
      refine any_run2 (i := 16) (j := 17) (by kernel_rfl) (by rfl) (by rfl) (by rfl) (by rfl) ?_ ?_
      ·skip
       intro K hK
       go_wp2_with fail
       refine hK _ _ (fun _ => ez1) ?_
       clear hK K
       refine any_run2 (i := 17) (j := 18) (by kernel_rfl) (by rfl) (by rfl) (by rfl) (by rfl) ?_ ?_
       ·skip
        intro K hK
        go_wp2_with fail
        refine hK _ _ (fun _ => ez1) ?_
        clear hK K
        refine any_run1 (i := 18) (by kernel_rfl) (by rfl) (by kernel_rfl) ?_
        intro K hK
        go_wp2_with fail
        refine hK _ _ (fun hx => (Bool.false_ne_true (hx.symm.trans (by kernel_rfl))).elim) ?_
        clear hK K
        refine any_done (by kernel_rfl) (NoPanic.normal ?_)
        clear lr rc0 rc1 rf0 rf1
        go_wp2_with fail
        go_roundw
        case rel => exact ⟨k + 1, ⟨l1, x1⟩, by omega, by go_num, HBX.out, HWX.out, HRX.out, fun _ => HNX.out, HO2.out, HC2.out⟩
        case measure => simp [intOf]; omega
       ·skip
        intro K hK
        go_wp2_with fail
        refine hK _ _ (fun hx => (Bool.false_ne_true (hx.symm.trans (by kernel_rfl))).elim) ?_
        clear hK K
        refine any_run1 (i := 17) (by kernel_rfl) (by rfl) (by kernel_rfl) ?_
        intro K hK
        go_wp2_with fail
        refine hK _ _ (fun hx => (Bool.false_ne_true (hx.symm.trans (by kernel_rfl))).elim) ?_
        clear hK K
        refine any_done (by kernel_rfl) (NoPanic.normal ?_)
        clear lr rc0 rc1 rf0 rf1
        go_wp2_with fail
        go_roundw
        case rel => exact ⟨k + 1, ⟨l1, x1⟩, by omega, by go_num, HBX.out, HWX.out, HRX.out, fun _ => HNX.out, HO2.out, HC2.out⟩
        case measure => simp [intOf]; omega
      ·skip
       intro K hK
       go_wp2_with fail
       refine hK _ _ (fun _ => ez1) ?_
       clear hK K
       refine any_run1 (i := 16) (by kernel_rfl) (by rfl) (by kernel_rfl) ?_
       intro K hK
       go_wp2_with fail
       refine hK _ _ (fun _ => ez1) ?_
       clear hK K
       refine any_run1 (i := 18) (by kernel_rfl) (by rfl) (by kernel_rfl) ?_
       intro K hK
       go_wp2_with fail
       refine hK _ _ (fun hx => (Bool.false_ne_true (hx.symm.trans (by kernel_rfl))).elim) ?_
       clear hK K
       refine any_done (by kernel_rfl) (NoPanic.normal ?_)
       clear lr rc0 rc1 rf0 rf1
       go_wp2_with fail
       go_roundw
       case rel => exact ⟨k + 1, ⟨l1, x1⟩, by omega, by go_num, HBX.out, HWX.out, HRX.out, fun _ => HNX.out, HO2.out, HC2.out⟩
       case measure => simp [intOf]; omega
    have zu : (ys.length : Int) > 0 := by omega
    obtain ⟨s, hs⟩ : ∃ s, k % ys.length = s := ⟨_, rfl⟩
    have hsl : s < ys.length := by rw [← hs]; exact Nat.mod_lt _ (by omega)
    have hng : ys.getD s 0 = n := by rw [← hn, ← hs]; unfold numAt; rw [if_neg hu0]
    have t1 : (k : Int).tmod (ys.length : Int) = (s : Int) := by rw [Int.tmod_eq_emod_of_nonneg (by omega), ← Int.natCast_emod, hs]
    have ye0 : ((ys.length : Int) == 0) = false := beq_eq_false_iff_ne.2 (by omega)
    have ye2 : (ys.length : Int) ≠ 0 := by omega
    have ye3 : (ys.length = 0) = False := eq_false hu0
    have yf0 : (hi - lo + 1 == 0) = false := beq_eq_false_iff_ne.2 (by omega)
    have yf2 : hi - lo + 1 ≠ 0 := by omega
    have yf3 : (hi - lo + 1 = 0) = False := eq_false yf2
    have h0x : 0 ≤ (n : Int) % (hi - lo + 1) := Int.emod_nonneg _ yf2
    have h0y : (n : Int) % (hi - lo + 1) < hi - lo + 1 := Int.emod_lt_of_pos _ (by omega)
    obtain ⟨x, hx⟩ : ∃ x, (n : Int) % (hi - lo + 1) = x := ⟨_, rfl⟩
    rw [hx] at HTH h0x h0y
    have t2 : (n : Int).tmod (hi - lo + 1) = x := by rw [Int.tmod_eq_emod_of_nonneg (by omega), hx]
    have w1 : IntKind.i64.wrap (n : Int) = (n : Int) := by rw [IntKind.wrap_i64]; omega
    have w2 : IntKind.i64.wrap (hi - lo) = hi - lo := by rw [IntKind.wrap_i64]; omega
    have w3 : IntKind.i64.wrap (hi - lo + 1) = hi - lo + 1 := by rw [IntKind.wrap_i64]; omega
    have w4 : IntKind.i64.wrap x = x := by rw [IntKind.wrap_i64]; omega
    obtain ⟨h, hh⟩ : ∃ h, lo + x = h := ⟨_, rfl⟩
    have w5 : IntKind.i64.wrap (lo + x) = h := by rw [IntKind.wrap_i64]; omega
    rw [hh] at HTH
    obtain ⟨A', cap', b5, o5, hve, hA, hc⟩ := RU.cells hY
    obtain ⟨rfl, hbb5⟩ := hA (by omega)
    injection hve with q1 q2 q3
    subst q1 q3
    have hcl := hc s hsl
    rw [hng] at hcl
    clear hA hc q2 hs hn hng hu0 hx h0x h0y hh
    have lbx := bx.lt
    have bxc0 := bx.cell 0
    have bxc1 := bx.cell 1
    simp at bxc0 bxc1
    have lwx := wx.lt
    have wxc0 := wx.cell 0
    have wxc1 := wx.cell 1
    simp at wxc0 wxc1
    have lrx := rx.lt
    have rxc0 := rx.cell 0
    have rxc1 := rx.cell 1
    simp at rxc0 rxc1
    go_upto_region 8 with fail
    refine wp_region_noPanic (plain_any [0, 1, 2, 3, 4, 5, 6, 7, 8, 9, 10, 11, 12, 13, 14, 15, 16] (Below wr.heap.size wr) mixed ?_)
    refine any_tk 0 ?_
    have d0z : Below wr.heap.size wr wr.drew := by exact bel_of
    refine any_tk 1 ?_
    refine any_tk 2 ?_
    refine any_tk 3 ?_
    refine any_tk 4 ?_
    refine any_tk 5 ?_
    refine any_tk 6 ?_
    refine any_tk 7 ?_
    refine any_tk 8 ?_
    refine any_tk 9 ?_
    refine any_tk 10 ?_
    refine any_tk 11 ?_
    refine any_tk 12 ?_
    refine any_tk 13 ?_
    refine any_tk 14 ?_
    refine any_tk 15 ?_
    refine any_tk 16 ?_
    refine any_run1 (i := 17) (by kernel_rfl) (by rfl) (by kernel_rfl) ?_
    intro K hK
    go_wp2_with fail
    refine hK _ _ (fun _ => d0z) ?_
    clear hK K
    refine any_done (by kernel_rfl) (NoPanic.normal ?_)
    go_upto_region 9 with fail
    clear lbx bxc0 bxc1 lwx wxc0 wxc1 lrx rxc0 rxc1 hcl hbb5 t1 t2 ye0 ye2 ye3 yf0 yf2 yf3 w1 w2 w3 w4 w5 hsl zu
    replace bx := bx.drew
    replace wx := wx.drew
    replace rx := rx.drew
    have HOW2 := Lib.hid (own_below HOW.out d0z)
    replace hC : Below n0 w wr.drew := hC.trans (d0z.mono (by have := hC.size; omega))
    clear d0z HOW
    have HOW := HOW2
    clear HOW2 hB hS hR hY
    generalize wr.drew = wr at *
    have hB := hC
    have hS := hC
    have hR := hC
    have hY := hC
    have hwz : n0 ≤ wr.heap.size := by have := hC.size; omega
    obtain ⟨v9, w9, hrun, hown', hC9, hs', hkeep⟩ := app_i64 HOW.out h (by rw [truL_len]; omega) hwz hC wr.heap.size rfl
    rw [← HTH.out, ← HTS.out] at hown'
    obtain ⟨A9, c9, rfl⟩ := own_slice hown'
    rw [truL_len] at hrun hown'
    have HO9 := Lib.hid hown'
    have HRUN := Lib.hid hrun
    replace bx := hkeep _ _ _ bx (by decide)
    replace wx := hkeep _ _ _ wx (by decide)
    replace rx := hkeep _ _ _ rx (by decide)
    clear hrun hown' hs' hkeep hwz hC hB hS hR hY
    by_cases hk2 : k < ss.length
    case neg =>
      have hke := HKE.out
      have hk3 : ¬ (k : Int) < (ks.length : Int) := by omega
      clear hke
      have lbx := bx.lt
      have bxc0 := bx.cell 0
      have bxc1 := bx.cell 1
      simp at bxc0 bxc1
      have lwx := wx.lt
      have wxc0 := wx.cell 0
      have wxc1 := wx.cell 1
      simp at wxc0 wxc1
      go_wp2_with (at_builtin; refine wpList_append_run rfl (.tmp 46) (.tmp 48) 43 _ rfl HRUN.out ?_)
      clear lbx bxc0 bxc1
      clear lwx wxc0 wxc1
      go_roundw
      case rel => exact ⟨k + 1, ⟨lo, hi⟩, by omega, by go_num, bx, wx, rx, fun h => by omega, HO9.out, hC9⟩
      case measure => simp [intOf]; omega
    have hke := HKE.out
    have hk3 : (k : Int) < (ks.length : Int) := by omega
    have hk4 : (k : Int) < (ss.length : Int) := by omega
    have hS := RP.more (RP.below HS0.out hC9) (B' := w9.heap.size) (by have := hC9.size; omega)
    have hR := RS.more (RS.below HR0.out hC9) (B' := w9.heap.size) (by have := hC9.size; omega)
    obtain ⟨A1, cap1, b1, o1, hve, hA, hc⟩ := RP.cells hS
    obtain ⟨rfl, hbb1⟩ := hA (by omega)
    injection hve with q1 q2 q3
    subst q1 q3
    obtain ⟨u, d1, hu1⟩ := hc k hk2
    obtain ⟨A2, cap2, b2, o2, rfl, hA2, hc2⟩ := RW.cells hu1
    obtain ⟨A3, cap3, b3, o3, hve3, hA3, hc3⟩ := RI.cells hR
    obtain ⟨rfl, hbb3⟩ := hA3 (by omega)
    injection hve3 with q1 q2 q3
    subst q1 q3
    have d3 := hc3 k (by omega)
    obtain ⟨q, hq⟩ : ∃ q : Nat, (nthI ks k).toNat = q := ⟨_, rfl⟩
    have hqi : nthI ks k = (q : Int) := by
      have := HOR.out.nn (nthI ks k) (by
        have h9 : k < ks.length := by omega
        have : nthI ks k = ks[k] := by simp [nthI, h9]
        rw [this]; exact List.getElem_mem _)
      omega
    have hql : q < (nthS ss k).length := by
      have := (mem_allR_iff.1 HOR.out.ways).2 k hk2
      rw [nats_at, hq] at this
      exact this
    rw [hqi] at d3
    obtain ⟨rfl, hbb2⟩ := hA2 (by omega)
    obtain ⟨u2, d2, hu2⟩ := hc2 q hql
    have hyk : nthW (nthS ss k) q = nthW ws k := by
      rw [← HWS.out, pick_at hk2 (by simp [nats]; omega), hq]
    rw [hyk] at hu2
    have hoy := HOKW.out _ (nthW_mem (show k < ws.length by rw [HPLW.out]; omega))
    obtain ⟨y, hy⟩ : ∃ y, nthW ws k = y := ⟨_, rfl⟩
    rw [hy] at hu2 hoy
    obtain ⟨Ay2, cy2, rfl⟩ := hu2.slice
    have HIN : Hid (inB 0 1000 h = true) := Lib.hid (by have h9 := hin; rw [HTH.out] at h9; unfold inB; simp; omega)
    have HAF := Lib.hid (after_in (wayE_of hoy) HIN.out)
    have HYL := Lib.hid (show y.length ≤ maxLen from Nat.le_trans hoy.few (by decide))
    obtain ⟨⟨l1, x1⟩, hx1⟩ : ∃ z, aft y h = z := ⟨_, rfl⟩
    have HX1 := Lib.hid hx1
    rw [hx1] at HAF
    have HNX : Hid ((⟨l1, x1⟩ : Rg) = truR r0 ws ys (k + 1)) := Lib.hid (by
      show _ = aft (nthW ws k) (truH ys k (truR r0 ws ys k))
      rw [← HRE.out, HTH.out, hy, hx1])
    have hqlI : (q : Int) < ((nthS ss k).length : Int) := by omega
    obtain ⟨p, hp⟩ : ∃ p, (nthS ss k).length = p := ⟨_, rfl⟩
    rw [hp] at d1 hql hqlI
    clear hA hc hA2 hc2 hA3 hc3 hq hqi hyk hoy hy hx1 q2 hu1 hp hke
    have lbx := bx.lt
    have bxc0 := bx.cell 0
    have bxc1 := bx.cell 1
    simp at bxc0 bxc1
    have lwx := wx.lt
    have wxc0 := wx.cell 0
    have wxc1 := wx.cell 1
    simp at wxc0 wxc1
    go_upto_region 11 with (at_builtin; refine wpList_append_run rfl (.tmp 46) (.tmp 48) 43 _ rfl HRUN.out ?_)
    refine wp_region_noPanic (plain_any [0, 1, 2, 3, 4, 5, 6, 7, 8, 9, 10, 11, 12, 13, 15] (Below w9.heap.size w9) mixed ?_)
    refine any_tk 0 ?_
    have d0z : Below w9.heap.size w9 w9.drew := by exact bel_of
    refine any_tk 1 ?_
    refine any_tk 2 ?_
    refine any_tk 3 ?_
    refine any_tk 4 ?_
    refine any_tk 5 ?_
    refine any_tk 6 ?_
    refine any_tk 7 ?_
    refine any_tk 8 ?_
    refine any_tk 9 ?_
    refine any_tk 10 ?_
    refine any_tk 11 ?_
    refine any_tk 12 ?_
    refine any_tk 13 ?_
    have qz1 := d0z.size
    refine any_run1 (i := 14) (by kernel_rfl) (by rfl) (by kernel_rfl) ?_
    intro K hK
    go_wp2_with fail
    refine (afterXR_any y _ h _ HYL.out ((RK.below hu2 d0z).more d0z.size)).mono ?_
    rintro e vz1 ⟨rfl, hb⟩
    rw [HAF.out.1, HAF.out.2]
    unfold rV
    have ez1 : Below w9.heap.size w9 vz1 := d0z.trans (hb.mono d0z.size)
    clear hb
    refine hK _ _ (fun _ => ez1) ?_
    clear hK K
    refine any_tk 15 ?_
    have rx2 := rx.below ez1 rx.lt
    have bx2 := bx.below ez1 bx.lt
    have wx2 := wx.below ez1 wx.lt
    have HO2 := Lib.hid (own_ri_sets (own_below HO9.out ez1) rx2 (by decide) (.int .i64 l1) (.int .i64 x1))
    have hC2 : Below n0 w vz1 := hC9.trans (ez1.mono (by have := hC9.size; omega))
    have HC2 : Hid (Below n0 w ((vz1.setCell ⟨n0 + 1 + 1, 0, none⟩ (.int .i64 l1)).setCell ⟨n0 + 1 + 1, 1, none⟩ (.int .i64 x1))) := Lib.hid (Below.setCell (Below.setCell hC2 HQ.out.2.2 _) HQ.out.2.2 _)
    have HBX := Lib.hid ((bx2.far (p := ⟨n0 + 1 + 1, 0, none⟩) (by show n0 ≠ n0 + 1 + 1; omega) (.int .i64 l1)).far (p := ⟨n0 + 1 + 1, 1, none⟩) (by show n0 ≠ n0 + 1 + 1; omega) (.int .i64 x1))
    have HWX := Lib.hid ((wx2.far (p := ⟨n0 + 1 + 1, 0, none⟩) (by show n0 + 1 ≠ n0 + 1 + 1; omega) (.int .i64 l1)).far (p := ⟨n0 + 1 + 1, 1, none⟩) (by show n0 + 1 ≠ n0 + 1 + 1; omega) (.int .i64 x1))
    have rx3 := (rx2.set 0 (.int .i64 l1)).set 1 (.int .i64 x1)
    simp at rx3
    have HRX := Lib.hid rx3
    have lr := rx2.lt
    have rc0 := rx2.cell 0
    have rc1 := rx2.cell 1
    simp at rc0 rc1
    have rf0 := rx2.frozen 0
    have rf1 := rx2.frozen 1
    clear rx3 bx wx rx bx2 wx2 rx2 hC2 lbx bxc0 bxc1 lwx wxc0 wxc1 d1 d2 d3 hu2 hS hR
    refine any_run2 (i := 16) (j := 17) (by kernel_rfl) (by rfl) (by rfl) (by rfl) (by rfl) ?_ ?_
    ·skip
     intro K hK
     go_wp2_with fail
     refine hK _ _ (fun _ => ez1) ?_
     clear hK K
     refine any_run2 (i := 17) (j := 18) (by kernel_rfl) (by rfl) (by rfl) (by rfl) (by rfl) ?_ ?_
     ·skip
      intro K hK
      go_wp2_with fail
      refine hK _ _ (fun _ => ez1) ?_
      clear hK K
      refine any_run1 (i := 18) (by kernel_rfl) (by rfl) (by kernel_rfl) ?_
      intro K hK
      go_wp2_with fail
      refine hK _ _ (fun hx => (Bool.false_ne_true (hx.symm.trans (by kernel_rfl))).elim) ?_
      clear hK K
      refine any_done (by kernel_rfl) (NoPanic.normal ?_)
      clear lr rc0 rc1 rf0 rf1
      go_wp2_with fail
      go_roundw
      case rel => exact ⟨k + 1, ⟨l1, x1⟩, by omega, by go_num, HBX.out, HWX.out, HRX.out, fun _ => HNX.out, HO2.out, HC2.out⟩
      case measure => simp [intOf]; omega
     ·skip
      intro K hK
      go_wp2_with fail
      refine hK _ _ (fun hx => (Bool.false_ne_true (hx.symm.trans (by kernel_rfl))).elim) ?_
      clear hK K
      refine any_run1 (i := 17) (by kernel_rfl) (by rfl) (by kernel_rfl) ?_
      intro K hK
      go_wp2_with fail
      refine hK _ _ (fun hx => (Bool.false_ne_true (hx.symm.trans (by kernel_rfl))).elim) ?_
      clear hK K
      refine any_done (by kernel_rfl) (NoPanic.normal ?_)
      clear lr rc0 rc1 rf0 rf1
      go_wp2_with fail
      go_roundw
      case rel => exact ⟨k + 1, ⟨l1, x1⟩, by omega, by go_num, HBX.out, HWX.out, HRX.out, fun _ => HNX.out, HO2.out, HC2.out⟩
      case measure => simp [intOf]; omega
    ·skip
     intro K hK
     go_wp2_with fail
     refine hK _ _ (fun _ => ez1) ?_
     clear hK K
     refine any_run1 (i := 16) (by kernel_rfl) (by rfl) (by kernel_rfl) ?_
     intro K hK
     go_wp2_with fail
     refine hK _ _ (fun _ => ez1) ?_
     clear hK K
     refine any_run1 (i := 18) (by kernel_rfl) (by rfl) (by kernel_rfl) ?_
     intro K hK
     go_wp2_with fail
     refine hK _ _ (fun hx => (Bool.false_ne_true (hx.symm.trans (by kernel_rfl))).elim) ?_
     clear hK K
     refine any_done (by kernel_rfl) (NoPanic.normal ?_)
     clear lr rc0 rc1 rf0 rf1
     go_wp2_with fail
     go_roundw
     case rel => exact ⟨k + 1, ⟨l1, x1⟩, by omega, by go_num, HBX.out, HWX.out, HRX.out, fun _ => HNX.out, HO2.out, HC2.out⟩
     case measure => simp [intOf]; omega
end Go.Proofs.Ytkibdciomheekaa

set_option linter.all false
namespace Go.Proofs.Ytkibdciomheekaa
open Go.RowKit Hp

theorem nthB_cons (x : Rg) (l : List Rg) (i : Nat) : nthB (x :: l) (i + 1) = nthB l i := rfl
theorem nthB_of {l : List Rg} {i : Nat} {r : Rg} (h : l[i]? = some r) : nthB l i = r := by simp [nthB, h]
theorem nthI_of {l : List Int} {i : Nat} {x : Int} (h : l[i]? = some x) : nthI l i = x := by simp [nthI, h]
theorem hadL_in : ∀ {ws : List Wy} {r m : Rg}, (∀ w ∈ ws, OkW w) → OkR r → m.lo ≤ m.hi → meets (endR r ws) m = true → ∀ i, i ≤ ws.length →
    (nthB (thr r ws) i).lo ≤ (nthB (hadL r ws m) i).lo ∧ (nthB (hadL r ws m) i).hi ≤ (nthB (thr r ws) i).hi
  | ws, r, m, ok, hr, hm, h, 0, _ => by
    have h1 := hadL_head ok hr hm h
    rw [headR_nth] at h1
    have e : nthB (thr r ws) 0 = r := by cases ws <;> rfl
    rw [e]
    exact h1.2
  | w :: ws, r, m, ok, hr, hm, h, i + 1, hi => by
    show (nthB (r :: thr (via w r) ws) (i + 1)).lo ≤ (nthB (_ :: hadL (via w r) ws m) (i + 1)).lo ∧ (nthB (_ :: hadL (via w r) ws m) (i + 1)).hi ≤ (nthB (r :: thr (via w r) ws) (i + 1)).hi
    rw [nthB_cons, nthB_cons]
    exact hadL_in (fun v hv => ok v (List.mem_cons_of_mem _ hv)) (via_ok (ok w (List.mem_cons_self ..)) hr) hm h i (by simpa using hi)
  | [], r, m, ok, hr, hm, h, i + 1, hi => by simp at hi
theorem hadL_last : ∀ (ws : List Wy) (r m : Rg), nthB (hadL r ws m) ws.length = meet (endR r ws) m
  | [], r, m => rfl
  | w :: ws, r, m => hadL_last ws (via w r) m
section
variable {bars : List Rg} {ss : List Stp} {b : Int} {ks hs : List Int} {m : Rg} {i : Nat}
theorem rng_at (OR : OkRec bars ss b ks) (hi : i ≤ ss.length) : nthB (rngL bars ss b ks) i = endR (nthB bars b.toNat) ((pick ss (nats ks)).take i) := by
  unfold rngL
  rw [if_pos (recE_of OR)]
  exact nthB_of (thr_at _ _ _ (by rw [pick_len OR.ways]; exact hi))
theorem rng_ok (OR : OkRec bars ss b ks) (hi : i ≤ ss.length) : OkR (nthB (rngL bars ss b ks) i) := by
  rw [rng_at OR hi]
  exact endR_ok (fun w hw => pick_ok OR.works.sok OR.ways w (List.mem_of_mem_take hw)) (OR.works.bok _ (nthB_mem OR.bhi))
theorem rng_last (OR : OkRec bars ss b ks) : nthB (rngL bars ss b ks) ss.length = endR (nthB bars b.toNat) (pick ss (nats ks)) := by
  rw [rng_at OR (Nat.le_refl _), List.take_of_length_le (by rw [pick_len OR.ways]; exact Nat.le_refl _)]
theorem histE_histB (h : histE bars ss b ks hs = 0) : OkRec bars ss b ks ∧ hs.length = ss.length + 1 ∧ histB (nthB bars b.toNat) (pick ss (nats ks)) hs = true := by
  unfold histE at h
  split at h
  · rename_i q; exact absurd h q
  · rename_i q
    split at h
    · cases h
    · rename_i q2
      split at h
      · rename_i q3
        exact ⟨okRec_of (Decidable.not_not.1 q), by omega, q3⟩
      · cases h
theorem hist_rng (h : histE bars ss b ks hs = 0) (hi : i ≤ ss.length) : inR (nthI hs i) (nthB (rngL bars ss b ks) i) = true := by
  obtain ⟨OR, hl, hB⟩ := histE_histB h
  obtain ⟨x, hx, h2⟩ := hist_in (pick_ok OR.works.sok OR.ways) (OR.works.bok _ (nthB_mem OR.bhi)) hB i (by rw [pick_len OR.ways]; exact hi)
  rw [rng_at OR hi, nthI_of hx]
  exact h2
theorem hadE_of (OR : OkRec bars ss b ks) (hm : OkR m) (h : meets (nthB (rngL bars ss b ks) ss.length) m = true) : hadE bars ss b ks m = 0 := by
  rw [rng_last OR] at h
  unfold hadE
  rw [if_neg (by rw [recE_of OR]; exact fun h => h rfl), if_neg (by rw [hard_iff.2 hm]; exact Bool.noConfusion), if_pos h]
theorem had_one (OR : OkRec bars ss b ks) {e : Int} (h : inR e (nthB (rngL bars ss b ks) ss.length) = true) : hadE bars ss b ks ⟨e, e⟩ = 0 := by
  have ok := rng_ok (i := ss.length) OR (Nat.le_refl _)
  have h1 := inR_iff.1 h
  refine hadE_of OR ⟨Int.le_refl _, ?_, ?_⟩ (meets_iff.2 ⟨?_, ?_⟩)
  · have := ok.2.1; show (0 : Int) ≤ e; omega
  · have := ok.2.2; show e ≤ 1000; omega
  · exact h1.1
  · exact h1.2
theorem of_had (h : hadE bars ss b ks m = 0) : OkRec bars ss b ks ∧ OkR m ∧ meets (nthB (rngL bars ss b ks) ss.length) m = true := by
  obtain ⟨h1, h2, h3⟩ := of_hadE h
  exact ⟨h1, h2, by rw [rng_last h1]; exact h3⟩
theorem had_last (h : hadE bars ss b ks m = 0) : nthB (hadV bars ss b ks m) ss.length = meet (nthB (rngL bars ss b ks) ss.length) m := by
  have OR := (of_had h).1
  rw [rng_last OR]
  unfold hadV
  rw [if_pos h]
  have := hadL_last (pick ss (nats ks)) (nthB bars b.toNat) m
  rw [pick_len OR.ways] at this
  exact this
theorem had_in (h : hadE bars ss b ks m = 0) (hi : i ≤ ss.length) : (nthB (rngL bars ss b ks) i).lo ≤ (nthB (hadV bars ss b ks m) i).lo ∧ (nthB (hadV bars ss b ks m) i).hi ≤ (nthB (rngL bars ss b ks) i).hi := by
  obtain ⟨OR, hm, hmt⟩ := of_hadE h
  unfold hadV rngL
  rw [if_pos h, if_pos (recE_of OR)]
  exact hadL_in (pick_ok OR.works.sok OR.ways) (OR.works.bok _ (nthB_mem OR.bhi)) hm.1 hmt i (by rw [pick_len OR.ways]; exact hi)
theorem hist_hadV (h : hadE bars ss b ks m = 0) (hh : histE bars ss b ks hs = 0) (hl : inR (nthI hs ss.length) m = true) (hi : i ≤ ss.length) : inR (nthI hs i) (nthB (hadV bars ss b ks m) i) = true := by
  obtain ⟨OR, hm, hmt⟩ := of_hadE h
  obtain ⟨_, hlen, hB⟩ := histE_histB hh
  have hx : hs[(pick ss (nats ks)).length]? = some (nthI hs ss.length) := by
    rw [pick_len OR.ways]
    have hq : ss.length < hs.length := by omega
    simp [nthI, hq]
  obtain ⟨y, hy, d, hd, hin⟩ := hist_had (pick_ok OR.works.sok OR.ways) (OR.works.bok _ (nthB_mem OR.bhi)) hm.1 hB hx hl i (by rw [pick_len OR.ways]; exact hi)
  unfold hadV
  rw [if_pos h, nthI_of hy, nthB_of hd]
  exact hin
theorem histV_last (h : hadE bars ss b ks m = 0) : inR (nthI (histV bars ss b ks m) ss.length) m = true := by
  obtain ⟨x, hx, hm⟩ := (histV_ok h).2
  rw [nthI_of hx]; exact hm
theorem histV_had (h : hadE bars ss b ks m = 0) (hi : i ≤ ss.length) : inR (nthI (histV bars ss b ks m) i) (nthB (hadV bars ss b ks m) i) = true :=
  hist_hadV h (histV_histE h) (histV_last h) hi
end
end Go.Proofs.Ytkibdciomheekaa

namespace Hp
open Go.Proofs.Ytkibdciomheekaa
theorem pick_take2 : ∀ (ss : List Stp) (ks : List Nat) (k : Nat), pick (ss.take k) (ks.take k) = (pick ss ks).take k
  | ss, ks, 0 => by simp [pick]
  | [], ks, k + 1 => by simp [pick]
  | s :: ss, [], k + 1 => by simp [pick]
  | s :: ss, q :: ks, k + 1 => by
    show nthW s q :: pick (ss.take k) (ks.take k) = nthW s q :: (pick ss ks).take k
    rw [pick_take2 ss ks k]
theorem pick_drop : ∀ (ss : List Stp) (ks : List Nat) (k : Nat), ss.length = ks.length → pick (ss.drop k) (ks.drop k) = (pick ss ks).drop k
  | ss, ks, 0, _ => rfl
  | [], [], k + 1, _ => rfl
  | s :: ss, q :: ks, k + 1, h => by
    show pick (ss.drop k) (ks.drop k) = (pick ss ks).drop k
    exact pick_drop ss ks k (by simpa using h)
  | [], _ :: _, k + 1, h => by simp at h
  | _ :: _, [], k + 1, h => by simp at h
theorem hist_take : ∀ {ws : List Wy} {r : Rg} {hs : List Int}, histB r ws hs = true → ∀ k, histB r (ws.take k) (hs.take (k + 1)) = true
  | [], r, [h], e, k => by simpa using e
  | w :: ws, r, h :: hs, e, 0 => by
    have := Bool.and_eq_true_iff.1 e
    simpa [histB] using this.1
  | w :: ws, r, h :: hs, e, k + 1 => by
    have := Bool.and_eq_true_iff.1 e
    show (inR h r && histB (aft w h) (ws.take k) (hs.take (k + 1))) = true
    rw [Bool.and_eq_true]
    exact ⟨this.1, hist_take this.2 k⟩
  | [], _, [], e, _ => by cases e
  | [], _, _ :: _ :: _, e, _ => by cases e
  | _ :: _, _, [], e, _ => by cases e
theorem hist_drop : ∀ {ws : List Wy} {r R : Rg} {hs : List Int} (k : Nat), histB r ws hs = true → k ≤ ws.length → inR (nthI hs k) R = true → histB R (ws.drop k) (hs.drop k) = true
  | [], r, R, [h], 0, e, _, hR => hR
  | w :: ws, r, R, h :: hs, 0, e, _, hR => by
    have := Bool.and_eq_true_iff.1 e
    exact Bool.and_eq_true_iff.2 ⟨hR, this.2⟩
  | w :: ws, r, R, h :: hs, k + 1, e, hk, hR => by
    have := Bool.and_eq_true_iff.1 e
    exact hist_drop k this.2 (by simpa using hk) hR
  | [], _, _, [], 0, e, _, _ => by cases e
  | [], _, _, _ :: _ :: _, 0, e, _, _ => by cases e
  | _ :: _, _, _, [], 0, e, _, _ => by cases e
  | [], _, _, _, k + 1, _, hk, _ => by simp at hk
  | _ :: _, _, _, [], k + 1, e, _, _ => by cases e
theorem thr_lo : ∀ {ws : List Wy} {r r' : Rg}, (∀ w ∈ ws, OkW w) → OkR r → OkR r' → r.lo ≤ r'.lo → ∀ i, i ≤ ws.length → (nthB (thr r ws) i).lo ≤ (nthB (thr r' ws) i).lo
  | ws, r, r', ok, h, h', hl, 0, _ => by cases ws <;> exact hl
  | w :: ws, r, r', ok, h, h', hl, i + 1, hi => by
    have o := ok w (List.mem_cons_self ..)
    exact thr_lo (ws := ws) (r := via w r) (r' := via w r') (fun v hv => ok v (List.mem_cons_of_mem _ hv)) (via_ok o h) (via_ok o h') (aft_mono o h.2.1 hl).1 i (by simpa using hi)
  | [], _, _, _, _, _, _, i + 1, hi => by simp at hi
theorem thr_hi : ∀ {ws : List Wy} {r r' : Rg}, (∀ w ∈ ws, OkW w) → OkR r → OkR r' → r.hi ≤ r'.hi → ∀ i, i ≤ ws.length → (nthB (thr r ws) i).hi ≤ (nthB (thr r' ws) i).hi
  | ws, r, r', ok, h, h', hl, 0, _ => by cases ws <;> exact hl
  | w :: ws, r, r', ok, h, h', hl, i + 1, hi => by
    have o := ok w (List.mem_cons_self ..)
    exact thr_hi (ws := ws) (r := via w r) (r' := via w r') (fun v hv => ok v (List.mem_cons_of_mem _ hv)) (via_ok o h) (via_ok o h') (aft_mono o (show 0 ≤ r.hi from by have := h.1; have := h.2.1; omega) hl).2 i (by simpa using hi)
  | [], _, _, _, _, _, _, i + 1, hi => by simp at hi
/-- The works with another range for a bar. -/
theorem okV_set {bars : List Rg} {ss : List Stp} (h : OkV bars ss) (b : Nat) {r : Rg} (hr : OkR r) : OkV (bars.set b r) ss :=
  ⟨by simpa using h.bpos, by simpa using h.bfew, h.sfew, h.wpos, fun x hx => by
    rcases List.mem_or_eq_of_mem_set hx with hx | rfl
    · exact h.bok x hx
    · exact hr, h.sok⟩
theorem okRec_set {bars : List Rg} {ss : List Stp} {b : Int} {ks : List Int} (h : OkRec bars ss b ks) {r : Rg} (hr : OkR r) : OkRec (bars.set b.toNat r) ss b ks :=
  ⟨okV_set h.works _ hr, h.blo, by simpa using h.bhi, h.ways, h.nn⟩
theorem nthB_set {bars : List Rg} {b : Nat} (h : b < bars.length) (r : Rg) : nthB (bars.set b r) b = r := by simp [nthB, h]
theorem okV_take {bars : List Rg} {ss : List Stp} (h : OkV bars ss) (k : Nat) : OkV bars (ss.take k) :=
  ⟨h.bpos, h.bfew, by have := h.sfew; rw [List.length_take]; omega, fun s hs => h.wpos s (List.mem_of_mem_take hs), h.bok, fun s hs => h.sok s (List.mem_of_mem_take hs)⟩
theorem okV_drop {bars : List Rg} {ss : List Stp} (h : OkV bars ss) (k : Nat) {r : Rg} (hr : OkR r) : OkV [r] (ss.drop k) :=
  ⟨by simp, by simp, by have := h.sfew; rw [List.length_drop]; omega, fun s hs => h.wpos s (List.mem_of_mem_drop hs), fun b hb => by rw [List.mem_singleton.1 hb]; exact hr, fun s hs => h.sok s (List.mem_of_mem_drop hs)⟩
theorem nats_take (ks : List Int) (k : Nat) : nats (ks.take k) = (nats ks).take k := by simp [nats]
theorem nats_drop (ks : List Int) (k : Nat) : nats (ks.drop k) = (nats ks).drop k := by simp [nats]
theorem allR_take {ss : List Stp} {ks : List Nat} (h : ks ∈ allR ss) (k : Nat) : ks.take k ∈ allR (ss.take k) := by
  obtain ⟨h1, h2⟩ := mem_allR_iff.1 h
  refine mem_allR_iff.2 ⟨by rw [List.length_take, List.length_take, h1], fun i hi => ?_⟩
  rw [List.length_take] at hi
  have e1 : (ks.take k).getD i 0 = ks.getD i 0 := by simp [List.getD_eq_getElem?_getD, List.getElem?_take_of_lt (show i < k by omega)]
  have e2 : nthS (ss.take k) i = nthS ss i := by simp [nthS, List.getD_eq_getElem?_getD, List.getElem?_take_of_lt (show i < k by omega)]
  rw [e1, e2]
  exact h2 i (by omega)
theorem allR_drop {ss : List Stp} {ks : List Nat} (h : ks ∈ allR ss) (k : Nat) : ks.drop k ∈ allR (ss.drop k) := by
  obtain ⟨h1, h2⟩ := mem_allR_iff.1 h
  refine mem_allR_iff.2 ⟨by rw [List.length_drop, List.length_drop, h1], fun i hi => ?_⟩
  rw [List.length_drop] at hi
  have e1 : (ks.drop k).getD i 0 = ks.getD (k + i) 0 := by simp [List.getD_eq_getElem?_getD]
  have e2 : nthS (ss.drop k) i = nthS ss (k + i) := by simp [nthS, List.getD_eq_getElem?_getD]
  rw [e1, e2]
  exact h2 (k + i) (by omega)
theorem okRec_take {bars : List Rg} {ss : List Stp} {b : Int} {ks : List Int} (h : OkRec bars ss b ks) (k : Nat) : OkRec bars (ss.take k) b (ks.take k) :=
  ⟨okV_take h.works k, h.blo, h.bhi, by rw [nats_take]; exact allR_take h.ways k, fun x hx => h.nn x (List.mem_of_mem_take hx)⟩
theorem okRec_drop {bars : List Rg} {ss : List Stp} {b : Int} {ks : List Int} (h : OkRec bars ss b ks) (k : Nat) {r : Rg} (hr : OkR r) : OkRec [r] (ss.drop k) 0 (ks.drop k) :=
  ⟨okV_drop h.works k hr, Int.le_refl _, by simp, by rw [nats_drop]; exact allR_drop h.ways k, fun x hx => h.nn x (List.mem_of_mem_drop hx)⟩
end Hp

set_option linter.all false
namespace Go.Proofs.Ytkibdciomheekaa
open Go.RowKit Hp

def fineP (bars : List Rg) (ss : List Stp) : Prop := ¬ greatP bars ss ∧ worksE bars ss = 0
def FinePost (bars : List Rg) (ss : List Stp) (w : World) (e : Ending) (w' : World) : Prop := ∃ q, e = .returned (.bool q) ∧ (q = true ↔ fineP bars ss) ∧ Below w.heap.size w w'
theorem FinePost.no {bars : List Rg} {ss : List Stp} {w w' : World} (h : ¬ fineP bars ss) (hb : Below w.heap.size w w') : FinePost bars ss w (.returned (.bool false)) w' := ⟨false, rfl, ⟨fun q => Bool.noConfusion q, fun q => (h q).elim⟩, hb⟩
theorem FinePost.yes {bars : List Rg} {ss : List Stp} {w w' : World} (h : fineP bars ss) (hb : Below w.heap.size w w') : FinePost bars ss w (.returned (.bool true)) w' := ⟨true, rfl, ⟨fun _ => h, fun _ => rfl⟩, hb⟩

set_option maxHeartbeats 8000000 in
set_option maxRecDepth 100000 in
theorem fine_any (bars : List Rg) (ss : List Stp) (vb vs : Value) (w : World) (hB : RR w w.heap.size vb bars) (hS : RP w w.heap.size vs ss) :
    Calls Try.prog 43 #[.agg #[vb, vs]] w (FinePost bars ss w) := by
  obtain ⟨Ab, cb, rfl⟩ := hB.slice
  obtain ⟨As, cs, rfl⟩ := hS.slice
  obtain ⟨n0, hn0⟩ : ∃ n, w.heap.size = n := ⟨_, rfl⟩
  have hC : Below n0 w w := Below.refl _ _
  go_enter Try.func43, Try.ntmps43
  go_upto_region 1 with fail
  have hqbx : n0 ≤ n0 := by have := hC.size; omega
  have bx : BK (w.alloc (.cells #[.slice Ab bars.length cb, .slice As ss.length cs] 25)) (n0) #[.slice Ab bars.length cb, .slice As ss.length cs] 25 := BK.new' _ _ _ (n0) hn0
  have hsbx : (w.alloc (.cells #[.slice Ab bars.length cb, .slice As ss.length cs] 25)).heap.size = n0 + 1 := by simp [hn0]
  replace hC : Below n0 w (w.alloc (.cells #[.slice Ab bars.length cb, .slice As ss.length cs] 25)) := Below.alloc hC (by have := hC.size; omega) _
  replace hB := (RS.below hB (w' := (w.alloc (.cells #[.slice Ab bars.length cb, .slice As ss.length cs] 25))) (Below.alloc (Below.refl _ _) (Nat.le_refl _) _)).more (B' := (w.alloc (.cells #[.slice Ab bars.length cb, .slice As ss.length cs] 25)).heap.size) (by simp)
  replace hS := (RP.below hS (w' := (w.alloc (.cells #[.slice Ab bars.length cb, .slice As ss.length cs] 25))) (Below.alloc (Below.refl _ _) (Nat.le_refl _) _)).more (B' := (w.alloc (.cells #[.slice Ab bars.length cb, .slice As ss.length cs] 25)).heap.size) (by simp)
  generalize (w.alloc (.cells #[.slice Ab bars.length cb, .slice As ss.length cs] 25)) = Wbx at *
  have lbx := bx.lt
  have bxc0 := bx.cell 0
  have bxc1 := bx.cell 1
  simp at bxc0 bxc1
  go_wp2_with fail
  clear lbx bxc0 bxc1
  clear hsbx
  refine (great_any bars ss _ _ _ hB hS).mono ?_
  rintro e w1 ⟨q, rfl, hq, hb⟩
  replace hC : Below n0 w w1 := hC.trans (hb.mono (by have := hC.size; omega))
  replace hB := (RS.below hB hb).more hb.size
  replace hS := (RP.below hS hb).more hb.size
  replace bx := bx.below hb bx.lt
  clear hb
  cases q
  case true =>
    have HE := Lib.hid (show ¬ fineP bars ss from fun h => h.1 (hq.1 rfl))
    clear hq
    go_wp2_with fail
    go_ret
    exact FinePost.no HE.out (by (try rw [hn0]); exact hC)
  have HG := Lib.hid (show ¬ greatP bars ss from fun h => Bool.noConfusion (hq.2 h))
  clear hq
  have lbx := bx.lt
  have bxc0 := bx.cell 0
  have bxc1 := bx.cell 1
  simp at bxc0 bxc1
  go_wp2_with fail
  clear lbx bxc0 bxc1
  refine (checkWorksR_any bars ss _ _ _ (great_fit HG.out) hB hS).mono ?_
  rintro e w2 ⟨rfl, hb⟩
  replace hC : Below n0 w w2 := hC.trans (hb.mono (by have := hC.size; omega))
  replace hB := (RS.below hB hb).more hb.size
  replace hS := (RP.below hS hb).more hb.size
  replace bx := bx.below hb bx.lt
  clear hb
  obtain ⟨e, he⟩ : ∃ e, worksE bars ss = e := ⟨_, rfl⟩
  rw [he]
  by_cases e0 : e = 0
  case neg =>
    have HE := Lib.hid (show ¬ fineP bars ss from fun h => e0 (he.symm.trans h.2))
    have b1 : (e == 0) = false := beq_eq_false_iff_ne.2 e0
    clear he e0
    go_wp2_with fail
    go_ret
    exact FinePost.no HE.out (by (try rw [hn0]); exact hC)
  subst e0
  have HE := Lib.hid (show fineP bars ss from ⟨HG.out, he⟩)
  clear he
  go_wp2_with fail
  go_ret
  exact FinePost.yes HE.out (by (try rw [hn0]); exact hC)
end Go.Proofs.Ytkibdciomheekaa

set_option linter.all false
namespace Go.Proofs.Ytkibdciomheekaa
open Go.RowKit Hp

theorem okV_small {bars : List Rg} {ss : List Stp} (h : OkV bars ss) : ¬ greatP bars ss := by
  rintro (q | q | ⟨k, hk, q⟩)
  · have := h.bfew; omega
  · have := h.sfew; omega
  · have h1 := (h.wpos _ (nthS_mem hk)).2
    rcases q with q | ⟨j, hj, q⟩
    · omega
    · have := (h.sok _ (nthS_mem hk) _ (nthW_mem hj)).few
      omega
theorem okV_fine {bars : List Rg} {ss : List Stp} (h : OkV bars ss) : fineP bars ss := ⟨okV_small h, worksE_of h⟩
section
variable {bars : List Rg} {ss : List Stp} {b : Int} {ks hs : List Int} {k : Nat}
theorem part_rng1 (OR : OkRec bars ss b ks) : rngL bars (ss.take k) b (ks.take k) = (rngL bars ss b ks).take (k + 1) := by
  unfold rngL
  rw [if_pos (recE_of OR), if_pos (recE_of (okRec_take OR k)), thr_take, nats_take, pick_take2]
theorem part_rng2 (OR : OkRec bars ss b ks) (hk : k ≤ ss.length) : rngL [nthB (rngL bars ss b ks) k] (ss.drop k) 0 (ks.drop k) = (rngL bars ss b ks).drop k := by
  have OR2 := okRec_drop OR k (rng_ok (i := k) OR hk)
  have hl : ss.length = (nats ks).length := (allR_len OR.ways).symm
  have h1 := rng_at OR hk
  rw [h1] at OR2 ⊢
  unfold rngL
  rw [if_pos (recE_of OR), if_pos (recE_of OR2), nats_drop, pick_drop _ _ _ hl, thr_drop _ _ _ (by rw [pick_len OR.ways]; exact hk)]
  rfl
theorem part_hist1 (h : histE bars ss b ks hs = 0) (hk : k ≤ ss.length) : histE bars (ss.take k) b (ks.take k) (hs.take (k + 1)) = 0 := by
  obtain ⟨OR, hl, hB⟩ := histE_histB h
  have h1 : histB (nthB bars b.toNat) (pick (ss.take k) (nats (ks.take k))) (hs.take (k + 1)) = true := by
    rw [nats_take, pick_take2]
    exact hist_take hB k
  rw [histE_at (recE_of (okRec_take OR k)) (by rw [List.length_take, List.length_take, hl]; omega) h1, if_pos rfl]
theorem part_hist2 (h : histE bars ss b ks hs = 0) (hk : k ≤ ss.length) : histE [nthB (rngL bars ss b ks) k] (ss.drop k) 0 (ks.drop k) (hs.drop k) = 0 := by
  obtain ⟨OR, hl, hB⟩ := histE_histB h
  have hl2 : ss.length = (nats ks).length := (allR_len OR.ways).symm
  have OR2 := okRec_drop OR k (rng_ok (i := k) OR hk)
  have h1 : histB (nthB [nthB (rngL bars ss b ks) k] (0 : Int).toNat) (pick (ss.drop k) (nats (ks.drop k))) (hs.drop k) = true := by
    rw [nats_drop, pick_drop _ _ _ hl2]
    exact hist_drop k hB (by rw [pick_len OR.ways]; exact hk) (hist_rng h hk)
  rw [histE_at (recE_of OR2) (by rw [List.length_drop, List.length_drop, hl]; omega) h1, if_pos rfl]
end
end Go.Proofs.Ytkibdciomheekaa

set_option linter.all false
namespace Go.Proofs.Ytkibdciomheekaa
open Go.RowKit

/-- The slots of M turned. -/
def setAll (M : List Nat) (u : Nat → Value) (t : Array Value) : Array Value := M.foldl (fun t i => t.setIfInBounds i (u i)) t
theorem region_keep {P : Program} {Q : Exit → Act → World → Prop} {a : Act} {w : World} {id : Nat} {os : Array Oper} (M : List Nat) (J : (Nat → Value) → World → Prop)
    (h1 : (Code.region id os true).wp P (fun e a' w' => e = .normal ∧ a'.tmps = setAll M (fun j => a'.tmps.getD j undef) a.tmps ∧ a'.defers = a.defers ∧ J (fun j => a'.tmps.getD j undef) w') a w)
    (h2 : ∀ u V, J u V → Q .normal { tmps := setAll M u a.tmps, defers := a.defers } V) : (Code.region id os true).wp P Q a w :=
  Code.wp_mono (fun e a' w' h => by
    obtain ⟨e1, e2, e3, e4⟩ := h
    subst e1
    have h5 := h2 _ _ e4
    rw [← e2, ← e3] at h5
    exact h5) h1
end Go.Proofs.Ytkibdciomheekaa

set_option linter.all false
namespace Go.Proofs.Ytkibdciomheekaa
open Go.RowKit Hp

theorem addr_add' (b off j : Nat) : (⟨b, off, none⟩ : Addr).add j = ⟨b, off + j, none⟩ := by unfold Addr.add; split <;> simp_all
section
variable {α : Type} {R : World → Nat → Value → α → Prop} {w : World} {B : Nat} {l : List α} {A : Option Addr} {c k : Nat}
theorem RN.cap (h : RN R w B (.slice A l.length c) l) : l.length ≤ c := by
  obtain ⟨A', c', b, off, hv, hl, _⟩ := h
  injection hv with _ _ q3
  omega
theorem RN.take (h : RN R w B (.slice A l.length c) l) (hk : k ≤ l.length) : RN R w B (.slice A k c) (l.take k) := by
  obtain ⟨A', c', b, off, hv, hl, hA, hc⟩ := h
  injection hv with q1 q2 q3
  subst q1; subst q3
  have hlen : (l.take k).length = k := by rw [List.length_take]; omega
  refine ⟨A, c, b, off, by rw [hlen], by rw [hlen]; omega, fun hn => hA (by rw [hlen] at hn; omega), fun j x hx => hc j x ?_⟩
  have hj : j < k := by have := (List.getElem?_eq_some_iff.1 hx).1; rw [hlen] at this; exact this
  rw [List.getElem?_take_of_lt hj] at hx
  exact hx
theorem RN.drop (h : RN R w B (.slice A l.length c) l) (hk : k ≤ l.length) : RN R w B (.slice (if c = k then A else Option.map (fun x => x.add k) A) (l.length - k) (c - k)) (l.drop k) := by
  obtain ⟨A', c', b, off, hv, hl, hA, hc⟩ := h
  injection hv with q1 q2 q3
  subst q1; subst q3
  have hlen : (l.drop k).length = l.length - k := List.length_drop ..
  refine ⟨_, c - k, b, off + k, by rw [hlen], by rw [hlen]; omega, fun hn => ?_, fun j x hx => ?_⟩
  · rw [hlen] at hn
    obtain ⟨rfl, hb⟩ := hA (by omega)
    rw [if_neg (by omega), Option.map_some, addr_add']
    exact ⟨rfl, hb⟩
  · rw [List.getElem?_drop] at hx
    have := hc (k + j) x hx
    rw [← Nat.add_assoc] at this
    exact this
end
section
variable {w : World} {B sz n c k : Nat} {A : Option Addr} {cs : List Value}
theorem RS.take (h : RS w B sz (.slice A n c) n cs) (hk : k ≤ n) : RS w B sz (.slice A k c) k (cs.take (k * sz)) := by
  obtain ⟨A', c', b, off, hv, ⟨hl, hcap⟩, hA, hc⟩ := h
  injection hv with q1 q2 q3
  subst q1; subst q3
  have hks : k * sz ≤ n * sz := Nat.mul_le_mul_right _ hk
  have hlen : (cs.take (k * sz)).length = k * sz := by rw [List.length_take, hl]; omega
  refine ⟨A, c, b, off, rfl, ⟨hlen, by omega⟩, fun hn => hA (by omega), fun j hj => ?_⟩
  rw [hlen] at hj
  rw [hc j (by rw [hl]; omega), List.getElem?_take_of_lt hj]
theorem RS.drop1 (h : RS w B 1 (.slice A n c) n cs) (hk : k ≤ n) : RS w B 1 (.slice (if c = k then A else Option.map (fun x => x.add k) A) (n - k) (c - k)) (n - k) (cs.drop k) := by
  obtain ⟨A', c', b, off, hv, ⟨hl, hcap⟩, hA, hc⟩ := h
  injection hv with q1 q2 q3
  subst q1; subst q3
  have hlen : (cs.drop k).length = n - k := by rw [List.length_drop, hl]; omega
  refine ⟨_, c - k, b, off + k, rfl, ⟨by rw [hlen]; omega, by omega⟩, fun hn => ?_, fun j hj => ?_⟩
  · obtain ⟨rfl, hb⟩ := hA (by omega)
    rw [if_neg (by omega), Option.map_some, addr_add']
    exact ⟨rfl, hb⟩
  · rw [hlen] at hj
    rw [Nat.add_assoc, hc (k + j) (by omega), List.getElem?_drop]
theorem RS.drop2 (h : RS w B 2 (.slice A n c) n cs) (hk : k ≤ n) : RS w B 2 (.slice (if c = k then A else Option.map (fun x => x.add (k * 2)) A) (n - k) (c - k)) (n - k) (cs.drop (k * 2)) := by
  obtain ⟨A', c', b, off, hv, ⟨hl, hcap⟩, hA, hc⟩ := h
  injection hv with q1 q2 q3
  subst q1; subst q3
  have hlen : (cs.drop (k * 2)).length = (n - k) * 2 := by rw [List.length_drop, hl]; omega
  refine ⟨_, c - k, b, off + k * 2, rfl, ⟨hlen, by omega⟩, fun hn => ?_, fun j hj => ?_⟩
  · obtain ⟨rfl, hb⟩ := hA (by omega)
    rw [if_neg (by omega), Option.map_some, addr_add']
    exact ⟨rfl, hb⟩
  · rw [hlen] at hj
    rw [Nat.add_assoc, hc (k * 2 + j) (by omega), List.getElem?_drop]
theorem ofG_take {α : Type} (enc : α → List Value) (s : Nat) (he : ∀ x, (enc x).length = s) : ∀ (l : List α) (k : Nat), (ofG enc l).take (k * s) = ofG enc (l.take k)
  | l, 0 => by simp [ofG]
  | [], k + 1 => by simp [ofG]
  | x :: l, k + 1 => by
    show (enc x ++ ofG enc l).take ((k + 1) * s) = enc x ++ ofG enc (l.take k)
    rw [← ofG_take enc s he l k, show (k + 1) * s = (enc x).length + k * s by rw [he, Nat.succ_mul]; omega, List.take_length_add_append]
theorem ofG_drop {α : Type} (enc : α → List Value) (s : Nat) (he : ∀ x, (enc x).length = s) : ∀ (l : List α) (k : Nat), (ofG enc l).drop (k * s) = ofG enc (l.drop k)
  | l, 0 => by simp [ofG]
  | [], k + 1 => by simp [ofG]
  | x :: l, k + 1 => by
    show (enc x ++ ofG enc l).drop ((k + 1) * s) = ofG enc (l.drop k)
    rw [← ofG_drop enc s he l k, show (k + 1) * s = (enc x).length + k * s by rw [he, Nat.succ_mul]; omega, List.drop_length_add_append]
end
section
variable {w : World} {B c k : Nat} {A : Option Addr}
theorem RI.take {l : List Int} (h : RI w B (.slice A l.length c) l) (hk : k ≤ l.length) : RI w B (.slice A k c) (l.take k) := by
  have := RS.take h hk
  rw [Nat.mul_one] at this
  unfold RI
  rw [List.length_take, Nat.min_eq_left hk, show ofI (l.take k) = (ofI l).take k from List.map_take ..]
  exact this
theorem RI.drop {l : List Int} (h : RI w B (.slice A l.length c) l) (hk : k ≤ l.length) : RI w B (.slice (if c = k then A else Option.map (fun x => x.add k) A) (l.length - k) (c - k)) (l.drop k) := by
  have := RS.drop1 h hk
  unfold RI
  rw [List.length_drop, show ofI (l.drop k) = (ofI l).drop k from List.map_drop ..]
  exact this
theorem RR.take {l : List Rg} (h : RR w B (.slice A l.length c) l) (hk : k ≤ l.length) : RR w B (.slice A k c) (l.take k) := by
  have := RS.take h hk
  rw [ofG_take encR 2 encR_len] at this
  unfold RR
  rw [List.length_take, Nat.min_eq_left hk]
  exact this
theorem RR.drop {l : List Rg} (h : RR w B (.slice A l.length c) l) (hk : k ≤ l.length) : RR w B (.slice (if c = k then A else Option.map (fun x => x.add (k * 2)) A) (l.length - k) (c - k)) (l.drop k) := by
  have := RS.drop2 h hk
  rw [ofG_drop encR 2 encR_len] at this
  unfold RR
  rw [List.length_drop]
  exact this
theorem RP.take {l : List Stp} (h : RP w B (.slice A l.length c) l) (hk : k ≤ l.length) : RP w B (.slice A k c) (l.take k) := RN.take h hk
theorem RP.drop {l : List Stp} (h : RP w B (.slice A l.length c) l) (hk : k ≤ l.length) : RP w B (.slice (if c = k then A else Option.map (fun x => x.add k) A) (l.length - k) (c - k)) (l.drop k) := RN.drop h hk
end
end Go.Proofs.Ytkibdciomheekaa

set_option linter.all false
namespace Go.Proofs.Ytkibdciomheekaa
open Go.RowKit Hp

set_option maxHeartbeats 8000000 in
set_option maxRecDepth 100000 in
theorem heatParted_any (bars : List Rg) (ss : List Stp) (vb vs : Value) (us : List Nat) (vu : Value) (ys : List Nat) (vy : Value) (x1 : Nat) (w : World) (hB : RR w w.heap.size vb bars) (hS : RP w w.heap.size vs ss) (hU : RU .u8 w w.heap.size vu us) (hu : ∀ x ∈ us, x ≤ 255) (hY : RU .u32 w w.heap.size vy ys) (hy : ∀ x ∈ ys, x ≤ 4294967295) (h1 : x1 ≤ 255) :
    Calls Try.prog 12 #[.agg #[vb, vs], vu, vy, .int .u8 x1] w fun x w' => x = .returned (.bool true) ∧ Below w.heap.size w w' := by
  obtain ⟨Ab, cb, rfl⟩ := hB.slice
  obtain ⟨As, cs, rfl⟩ := hS.slice
  obtain ⟨Au, cu, rfl⟩ := ru_slice hU
  obtain ⟨Ay, cy, rfl⟩ := ru_slice hY
  obtain ⟨n0, hn0⟩ : ∃ n, w.heap.size = n := ⟨_, rfl⟩
  have hC : Below n0 w w := Below.refl _ _
  have HUS := Lib.hid hu
  have HYS := Lib.hid hy
  clear hu hy
  go_enter Try.func12, Try.ntmps12
  go_upto_region 1 with fail
  have hqbx : n0 ≤ n0 := by have := hC.size; omega
  have bx : BK (w.alloc (.cells #[.slice Ab bars.length cb, .slice As ss.length cs] 25)) (n0) #[.slice Ab bars.length cb, .slice As ss.length cs] 25 := BK.new' _ _ _ (n0) hn0
  have hsbx : (w.alloc (.cells #[.slice Ab bars.length cb, .slice As ss.length cs] 25)).heap.size = n0 + 1 := by simp [hn0]
  replace hC : Below n0 w (w.alloc (.cells #[.slice Ab bars.length cb, .slice As ss.length cs] 25)) := Below.alloc hC (by have := hC.size; omega) _
  replace hB := (RS.below hB (w' := (w.alloc (.cells #[.slice Ab bars.length cb, .slice As ss.length cs] 25))) (Below.alloc (Below.refl _ _) (Nat.le_refl _) _)).more (B' := (w.alloc (.cells #[.slice Ab bars.length cb, .slice As ss.length cs] 25)).heap.size) (by simp)
  replace hS := (RP.below hS (w' := (w.alloc (.cells #[.slice Ab bars.length cb, .slice As ss.length cs] 25))) (Below.alloc (Below.refl _ _) (Nat.le_refl _) _)).more (B' := (w.alloc (.cells #[.slice Ab bars.length cb, .slice As ss.length cs] 25)).heap.size) (by simp)
  replace hU := (RU.below hU (w' := (w.alloc (.cells #[.slice Ab bars.length cb, .slice As ss.length cs] 25))) (Below.alloc (Below.refl _ _) (Nat.le_refl _) _)).more (B' := (w.alloc (.cells #[.slice Ab bars.length cb, .slice As ss.length cs] 25)).heap.size) (by simp)
  replace hY := (RU.below hY (w' := (w.alloc (.cells #[.slice Ab bars.length cb, .slice As ss.length cs] 25))) (Below.alloc (Below.refl _ _) (Nat.le_refl _) _)).more (B' := (w.alloc (.cells #[.slice Ab bars.length cb, .slice As ss.length cs] 25)).heap.size) (by simp)
  generalize (w.alloc (.cells #[.slice Ab bars.length cb, .slice As ss.length cs] 25)) = Wbx at *
  have lbx := bx.lt
  have bxc0 := bx.cell 0
  have bxc1 := bx.cell 1
  simp at bxc0 bxc1
  go_wp2_with fail
  clear lbx bxc0 bxc1
  clear hsbx
  refine (fine_any bars ss _ _ _ hB hS).mono ?_
  rintro e w1 ⟨q, rfl, hq, hb⟩
  replace hC : Below n0 w w1 := hC.trans (hb.mono (by have := hC.size; omega))
  replace hB := (RS.below hB hb).more hb.size
  replace hS := (RP.below hS hb).more hb.size
  replace hU := (RU.below hU hb).more hb.size
  replace hY := (RU.below hY hb).more hb.size
  replace bx := bx.below hb bx.lt
  clear hb
  cases q
  case false =>
    clear hq
    go_wp2_with fail
    refine (works_any _).mono ?_
    rintro e w2 ⟨rfl, hb⟩
    replace hC : Below n0 w w2 := hC.trans (hb.mono (by have := hC.size; omega))
    replace hB := (RS.below hB hb).more hb.size
    replace hS := (RP.below hS hb).more hb.size
    replace hU := (RU.below hU hb).more hb.size
    replace hY := (RU.below hY hb).more hb.size
    replace bx := bx.below hb bx.lt
    clear hb
    go_wp2_with fail
    exact bodyPost_ret (v := .bool true) (by simp [results, Try.results12, go_sem]) rfl ⟨rfl, by first | exact hC | (rw [hn0]; exact hC) | (with_reducible rw [hn0]; exact bel_of) | exact bel_of⟩
  have hfp := hq.1 rfl
  have HF := Lib.hid (great_fit hfp.1)
  have HV := Lib.hid (okV_of hfp.2)
  clear hq hfp
  simp only [Bool.not_true]
  by_cases zhul : 20 < us.length
  case pos =>
    have zz : ((us.length : Nat) : Int) > 20 := by omega
    clear zhul
    have lbx := bx.lt
    have bxc0 := bx.cell 0
    have bxc1 := bx.cell 1
    simp at bxc0 bxc1
    go_wp2_with fail
    clear lbx bxc0 bxc1
    refine (works_any _).mono ?_
    rintro e w2 ⟨rfl, hb⟩
    replace hC : Below n0 w w2 := hC.trans (hb.mono (by have := hC.size; omega))
    replace hB := (RS.below hB hb).more hb.size
    replace hS := (RP.below hS hb).more hb.size
    replace hU := (RU.below hU hb).more hb.size
    replace hY := (RU.below hY hb).more hb.size
    replace bx := bx.below hb bx.lt
    clear hb
    go_wp2_with fail
    exact bodyPost_ret (v := .bool true) (by simp [results, Try.results12, go_sem]) rfl ⟨rfl, by first | exact hC | (rw [hn0]; exact hC) | (with_reducible rw [hn0]; exact bel_of) | exact bel_of⟩
  have hul : us.length ≤ 20 := by omega
  have zzhul : ¬ ((us.length : Nat) : Int) > 20 := by omega
  clear zhul
  by_cases zhyl : 20 < ys.length
  case pos =>
    have zz : ((ys.length : Nat) : Int) > 20 := by omega
    clear zhyl
    have lbx := bx.lt
    have bxc0 := bx.cell 0
    have bxc1 := bx.cell 1
    simp at bxc0 bxc1
    go_wp2_with fail
    clear lbx bxc0 bxc1
    refine (works_any _).mono ?_
    rintro e w2 ⟨rfl, hb⟩
    replace hC : Below n0 w w2 := hC.trans (hb.mono (by have := hC.size; omega))
    replace hB := (RS.below hB hb).more hb.size
    replace hS := (RP.below hS hb).more hb.size
    replace hU := (RU.below hU hb).more hb.size
    replace hY := (RU.below hY hb).more hb.size
    replace bx := bx.below hb bx.lt
    clear hb
    go_wp2_with fail
    exact bodyPost_ret (v := .bool true) (by simp [results, Try.results12, go_sem]) rfl ⟨rfl, by first | exact hC | (rw [hn0]; exact hC) | (with_reducible rw [hn0]; exact bel_of) | exact bel_of⟩
  have hyl : ys.length ≤ 20 := by omega
  have zzhyl : ¬ ((ys.length : Nat) : Int) > 20 := by omega
  clear zhyl
  have lbx := bx.lt
  have bxc0 := bx.cell 0
  have bxc1 := bx.cell 1
  simp at bxc0 bxc1
  go_wp2_with fail
  clear lbx bxc0 bxc1
  refine (one_any bars ss us _ _ _ _ HV.out HUS.out (by omega) hB hS hU).mono ?_
  rintro e w2 ⟨vk, rfl, hR, hb⟩
  replace hC : Below n0 w w2 := hC.trans (hb.mono (by have := hC.size; omega))
  replace hB := (RS.below hB hb).more hb.size
  replace hS := (RP.below hS hb).more hb.size
  replace hU := (RU.below hU hb).more hb.size
  replace hY := (RU.below hY hb).more hb.size
  replace bx := bx.below hb bx.lt
  clear hb
  have hor := one_rec HV.out us
  obtain ⟨ks, hks⟩ : ∃ l, oneW ss us ss.length = l := ⟨_, rfl⟩
  obtain ⟨b, hbb⟩ : ∃ b : Int, ((oneB bars us : Nat) : Int) = b := ⟨_, rfl⟩
  rw [hks] at hR hor
  rw [hbb] at hor ⊢
  have HOR := Lib.hid hor
  have hs6 := hor.works.sfew
  have hkl := (recE_lens (recE_of hor)).1
  have HKS := Lib.hid hkl
  have HKL2 := Lib.hid (show ks.length ≤ 1000 by omega)
  obtain ⟨Ar, cr, rfl⟩ := ri_slice hR
  clear hks hbb hor hkl
  go_upto_region 4 with fail
  obtain ⟨m1, hm1⟩ : ∃ n, w2.heap.size = n := ⟨_, rfl⟩
  try rw [hm1]
  have hqwx : n0 ≤ m1 := by have := hC.size; omega
  have wx : BK (w2.alloc (.cells #[.int .i64 b, .slice Ar ks.length cr] 42)) (m1) #[.int .i64 b, .slice Ar ks.length cr] 42 := BK.new' _ _ _ (m1) hm1
  have hswx : (w2.alloc (.cells #[.int .i64 b, .slice Ar ks.length cr] 42)).heap.size = m1 + 1 := by simp [hm1]
  replace hC : Below n0 w (w2.alloc (.cells #[.int .i64 b, .slice Ar ks.length cr] 42)) := Below.alloc hC (by have := hC.size; omega) _
  replace hB := (RS.below hB (w' := (w2.alloc (.cells #[.int .i64 b, .slice Ar ks.length cr] 42))) (Below.alloc (Below.refl _ _) (Nat.le_refl _) _)).more (B' := (w2.alloc (.cells #[.int .i64 b, .slice Ar ks.length cr] 42)).heap.size) (by simp)
  replace hS := (RP.below hS (w' := (w2.alloc (.cells #[.int .i64 b, .slice Ar ks.length cr] 42))) (Below.alloc (Below.refl _ _) (Nat.le_refl _) _)).more (B' := (w2.alloc (.cells #[.int .i64 b, .slice Ar ks.length cr] 42)).heap.size) (by simp)
  replace hU := (RU.below hU (w' := (w2.alloc (.cells #[.int .i64 b, .slice Ar ks.length cr] 42))) (Below.alloc (Below.refl _ _) (Nat.le_refl _) _)).more (B' := (w2.alloc (.cells #[.int .i64 b, .slice Ar ks.length cr] 42)).heap.size) (by simp)
  replace hY := (RU.below hY (w' := (w2.alloc (.cells #[.int .i64 b, .slice Ar ks.length cr] 42))) (Below.alloc (Below.refl _ _) (Nat.le_refl _) _)).more (B' := (w2.alloc (.cells #[.int .i64 b, .slice Ar ks.length cr] 42)).heap.size) (by simp)
  replace bx := bx.alloc (.cells #[.int .i64 b, .slice Ar ks.length cr] 42)
  replace hR := (RS.below hR (w' := (w2.alloc (.cells #[.int .i64 b, .slice Ar ks.length cr] 42))) (Below.alloc (Below.refl _ _) (Nat.le_refl _) _)).more (B' := (w2.alloc (.cells #[.int .i64 b, .slice Ar ks.length cr] 42)).heap.size) (by simp)
  generalize (w2.alloc (.cells #[.int .i64 b, .slice Ar ks.length cr] 42)) = Wwx at *
  clear hm1
  clear hswx
  have lbx := bx.lt
  have bxc0 := bx.cell 0
  have bxc1 := bx.cell 1
  simp at bxc0 bxc1
  have lwx := wx.lt
  have wxc0 := wx.cell 0
  have wxc1 := wx.cell 1
  simp at wxc0 wxc1
  go_wp2_with fail
  clear lbx bxc0 bxc1
  clear lwx wxc0 wxc1
  refine (true_any bars ss b ks ys _ _ _ _ _ HF.out HOR.out HYS.out (by omega) hB hS hR hY).mono ?_
  rintro e w3 ⟨vh, rfl, hH, hb⟩
  replace hC : Below n0 w w3 := hC.trans (hb.mono (by have := hC.size; omega))
  replace hB := (RS.below hB hb).more hb.size
  replace hS := (RP.below hS hb).more hb.size
  replace hU := (RU.below hU hb).more hb.size
  replace hY := (RU.below hY hb).more hb.size
  replace bx := bx.below hb bx.lt
  replace hR := (RS.below hR hb).more hb.size
  replace wx := wx.below hb wx.lt
  clear hb
  have hhe := truV_ok ys HOR.out
  have hhl := truV_len (bars := bars) (ss := ss) (b := b) (ks := ks) (ys := ys)
  obtain ⟨hs, hhs⟩ : ∃ l, truV bars ss b ks ys = l := ⟨_, rfl⟩
  rw [hhs] at hH hhe hhl
  have HHE := Lib.hid hhe
  have HHL := Lib.hid hhl
  have HHL2 := Lib.hid (show hs.length ≤ 1000 by omega)
  have HTV := Lib.hid hhs
  obtain ⟨Ah, ch, rfl⟩ := ri_slice hH
  clear hhs hhe hhl
  clear hU hY
  clear zzhul zzhyl hul hyl
  obtain ⟨k, hk⟩ : ∃ k, x1 % (ss.length + 1) = k := ⟨_, rfl⟩
  have hkl : k ≤ ss.length := by have := Nat.mod_lt x1 (show ss.length + 1 > 0 by omega); omega
  have e1 : (x1 : Int) % ((ss.length : Int) + 1) = (k : Int) := by rw [show (ss.length : Int) + 1 = ((ss.length + 1 : Nat) : Int) by omega, ← Int.natCast_emod, hk]
  have t1 : (x1 : Int).tmod ((ss.length : Int) + 1) = (k : Int) := by rw [Int.tmod_eq_emod_of_nonneg (by omega), e1]
  have y0 : ((ss.length : Int) + 1 == 0) = false := beq_eq_false_iff_ne.2 (by omega)
  have y1 : (ss.length : Int) + 1 ≠ 0 := by omega
  have g1 : IntKind.i64.wrap (x1 : Int) = (x1 : Int) := by rw [IntKind.wrap_i64]; omega
  have g2 : IntKind.i64.wrap (k : Int) = (k : Int) := by rw [IntKind.wrap_i64]; omega
  have g3 : IntKind.i64.wrap ((ss.length : Int) + 1) = (ss.length : Int) + 1 := by rw [IntKind.wrap_i64]; omega
  clear hk
  have lbx := bx.lt
  have bxc0 := bx.cell 0
  have bxc1 := bx.cell 1
  simp at bxc0 bxc1
  have lwx := wx.lt
  have wxc0 := wx.cell 0
  have wxc1 := wx.cell 1
  simp at wxc0 wxc1
  go_wp2_with fail
  clear lbx bxc0 bxc1
  clear lwx wxc0 wxc1
  refine (ranges_any bars ss b ks _ _ _ _ HF.out HKL2.out hB hS hR).mono ?_
  rintro e w4 ⟨vl, rfl, hL, hb⟩
  replace hC : Below n0 w w4 := hC.trans (hb.mono (by have := hC.size; omega))
  replace hB := (RS.below hB hb).more hb.size
  replace hS := (RP.below hS hb).more hb.size
  replace bx := bx.below hb bx.lt
  replace hR := (RS.below hR hb).more hb.size
  replace wx := wx.below hb wx.lt
  replace hH := (RS.below hH hb).more hb.size
  clear hb
  rw [recE_of HOR.out]
  have hll := rngL_len' (recE_of HOR.out)
  obtain ⟨L, hLe⟩ : ∃ l, rngL bars ss b ks = l := ⟨_, rfl⟩
  rw [hLe] at hL hll
  have HLE := Lib.hid hLe
  have HLL := Lib.hid hll
  have hl7 : L.length ≤ 1000 := by omega
  obtain ⟨Al, cl, rfl⟩ := rr_slice hL
  clear hLe hll
  clear e1 t1 y0 y1 g1 g2 g3
  have nlh : (((L.length : Nat) : Int) != ((hs.length : Nat) : Int)) = false := by rw [HLL.out, HHL.out]; simp
  go_wp2_with fail
  clear nlh
  have hcs : ss.length ≤ cs := by
    obtain ⟨A', c', b', o', hv, hc', _⟩ := hS
    injection hv with _ _ q3
    omega
  have hkc : k ≤ cs := by omega
  have hkc' : (k : Int) ≤ (cs : Int) := by omega
  have hkl' : (k : Int) ≤ (ss.length : Int) := by omega
  have lbx := bx.lt
  have bxc0 := bx.cell 0
  have bxc1 := bx.cell 1
  simp at bxc0 bxc1
  have lwx := wx.lt
  have wxc0 := wx.cell 0
  have wxc1 := wx.cell 1
  simp at wxc0 wxc1
  go_upto_region 9 with fail
  have d0ya : Below w4.heap.size w4 w4.drew := by exact bel_of
  refine wp_region_noPanic (plain_any [0, 1, 2, 3, 4, 5, 6] (Below w4.heap.size w4) mixed ?_)
  refine any_tk 0 ?_
  refine any_tk 1 ?_
  refine any_tk 2 ?_
  refine any_tk 3 ?_
  refine any_tk 4 ?_
  refine any_tk 5 ?_
  refine any_tk 6 ?_
  have dya1 : Below w4.heap.size w4 w4.drew := by exact bel_of
  have hdr : Below w4.heap.size w4 w4.drew := Below.drew (Below.refl _ _)
  clear hdr
  generalize w4.drew = uya2 at *
  refine any_run1 (i := 7) (by kernel_rfl) (by rfl) (by kernel_rfl) ?_
  intro K hK
  have qya4 := dya1.size
  have eya3 : Below w4.heap.size w4 (uya2.alloc (.cells #[.slice none 0 0, .slice none 0 0] 25)) := Below.alloc dya1 dya1.size _
  have hnx : Below uya2.heap.size uya2 (uya2.alloc (.cells #[.slice none 0 0, .slice none 0 0] 25)) := Below.alloc (Below.refl _ _) (Nat.le_refl _) _
  go_wp2_with fail
  have xx : BK (uya2.alloc (.cells #[.slice none 0 0, .slice none 0 0] 25)) uya2.heap.size #[.slice none 0 0, .slice none 0 0] 25 := BK.new _ _ _
  refine hK _ _ (fun _ => eya3) ?_
  clear hK K hnx
  generalize (uya2.alloc (.cells #[.slice none 0 0, .slice none 0 0] 25)) = vya5 at *
  obtain ⟨gxx, hgxx⟩ : ∃ g, uya2.heap.size = g := ⟨_, rfl⟩
  have hqxx : w4.heap.size ≤ gxx := by omega
  rw [hgxx] at xx
  try rw [hgxx]
  clear hgxx
  refine any_run1 (i := 8) (by kernel_rfl) (by rfl) (by kernel_rfl) ?_
  intro K hK
  have lxx := xx.lt
  have y0 := xx.cell 0
  have f0 := xx.frozen 0
  have y1 := xx.cell 1
  have f1 := xx.frozen 1
  simp at y0 y1
  go_wp2_with fail
  have eya6 : Below w4.heap.size w4 ((vya5.setCell ⟨gxx, 0, none⟩ (.slice Ab bars.length cb)).setCell ⟨gxx, 1, none⟩ (.slice As k cs)) := by exact bel_of
  have xx_ := ((xx.set 0 (.slice Ab bars.length cb)).set 1 (.slice As k cs))
  simp at xx_
  clear xx; have xx := xx_; clear xx_
  clear y0 f0 y1 f1
  refine hK _ _ (fun _ => eya6) ?_
  clear hK K
  generalize ((vya5.setCell ⟨gxx, 0, none⟩ (.slice Ab bars.length cb)).setCell ⟨gxx, 1, none⟩ (.slice As k cs)) = vya7 at *
  refine any_done (by kernel_rfl) (NoPanic.normal ?_)
  have hb := eya6
  replace hC : Below n0 w vya7 := hC.trans (hb.mono (by have := hC.size; omega))
  replace hB := (RS.below hB hb).more hb.size
  replace hS := (RP.below hS hb).more hb.size
  replace bx := bx.below hb bx.lt
  replace hR := (RS.below hR hb).more hb.size
  replace wx := wx.below hb wx.lt
  replace hH := (RS.below hH hb).more hb.size
  replace hL := (RS.below hL hb).more hb.size
  clear hb
  clear lbx bxc0 bxc1
  clear lwx wxc0 wxc1
  have hkL : k < L.length := by have := HLL.out; omega
  have hkL' : (k : Int) < (L.length : Int) := by omega
  obtain ⟨A_l, c_l, b_l, o_l, hve, hA, hc⟩ := RR.cells hL
  obtain ⟨rfl, hb_l⟩ := hA (by omega)
  injection hve with q1 q2 q3
  first | (subst q1; subst q3) | (injection q1 with q1; injection q1 with q4 q5; subst q4; subst q5; subst q3)
  obtain ⟨d_l0, d_l1⟩ := hc k hkL
  clear hA hc q2
  have hok := rng_ok HOR.out (i := k) hkl
  rw [HLE.out] at hok
  obtain ⟨⟨ra, rb⟩, hr⟩ : ∃ r, nthB L k = r := ⟨_, rfl⟩
  rw [hr] at hok d_l0 d_l1
  dsimp only at d_l0 d_l1
  have HRK := Lib.hid hr
  have HOK := Lib.hid hok
  clear hr hok
  go_wp2_with fail
  go_upto_region 10 with fail
  have lbx := bx.lt
  have bxc0 := bx.cell 0
  have bxc1 := bx.cell 1
  simp at bxc0 bxc1
  have lwx := wx.lt
  have wxc0 := wx.cell 0
  have wxc1 := wx.cell 1
  simp at wxc0 wxc1
  obtain ⟨At, hAt⟩ : ∃ A, (if cs = k then As else Option.map (fun x => x.add k) As) = A := ⟨_, rfl⟩
  refine region_keep [15, 72, 73, 74, 75, 76, 77, 78, 79, 80, 81] (fun u V => ∃ gy gb, u 15 = .pointer (some ⟨gy, 0, none⟩) ∧ BK V gy #[.slice (some ⟨gb, 0, none⟩) 1 1, .slice At (ss.length - k) (cs - k)] 25 ∧ BK V gb #[.int .i64 ra, .int .i64 rb] 33 ∧ Below vya7.heap.size vya7 V) ?_ ?_
  ·skip
   have d0yb : Below vya7.heap.size vya7 vya7.drew := by exact bel_of
   refine wp_region_noPanic (plain_any [0, 1, 2, 3, 5, 6, 7, 8, 9] (Below vya7.heap.size vya7) mixed ?_)
   refine any_tk 0 ?_
   refine any_tk 1 ?_
   refine any_tk 2 ?_
   refine any_tk 3 ?_
   refine any_tk 5 ?_
   refine any_tk 6 ?_
   refine any_tk 7 ?_
   refine any_tk 8 ?_
   have dyb1 : Below vya7.heap.size vya7 vya7.drew := by exact bel_of
   have hdr : Below vya7.heap.size vya7 vya7.drew := Below.drew (Below.refl _ _)
   clear hdr
   generalize vya7.drew = uyb2 at *
   refine any_run2 (i := 4) (j := 10) (by kernel_rfl) (by rfl) (by rfl) (by rfl) (by rfl) ?_ ?_
   ·skip
    intro K hK
    have qyb4 := dyb1.size
    have eyb3 : Below vya7.heap.size vya7 (uyb2.alloc (.cells #[.int .i64 ra, .int .i64 rb] 33)) := Below.alloc dyb1 dyb1.size _
    have hnx : Below uyb2.heap.size uyb2 (uyb2.alloc (.cells #[.int .i64 ra, .int .i64 rb] 33)) := Below.alloc (Below.refl _ _) (Nat.le_refl _) _
    go_wp2_with fail
    have kb : BK (uyb2.alloc (.cells #[.int .i64 ra, .int .i64 rb] 33)) uyb2.heap.size #[.int .i64 ra, .int .i64 rb] 33 := BK.new _ _ _
    refine hK _ _ (fun _ => eyb3) ?_
    clear hK K hnx
    generalize (uyb2.alloc (.cells #[.int .i64 ra, .int .i64 rb] 33)) = vyb5 at *
    obtain ⟨gkb, hgkb⟩ : ∃ g, uyb2.heap.size = g := ⟨_, rfl⟩
    have hqkb : vya7.heap.size ≤ gkb := by omega
    rw [hgkb] at kb
    try rw [hgkb]
    clear hgkb
    refine any_tk 9 ?_
    refine any_run1 (i := 10) (by kernel_rfl) (by rfl) (by kernel_rfl) ?_
    intro K hK
    have qyb7 := eyb3.size
    have eyb6 : Below vya7.heap.size vya7 (vyb5.alloc (.cells #[.slice none 0 0, .slice none 0 0] 25)) := Below.alloc eyb3 eyb3.size _
    have hnx : Below vyb5.heap.size vyb5 (vyb5.alloc (.cells #[.slice none 0 0, .slice none 0 0] 25)) := Below.alloc (Below.refl _ _) (Nat.le_refl _) _
    go_wp2_with fail
    have nekbky : gkb ≠ vyb5.heap.size := Nat.ne_of_lt kb.lt
    replace kb := kb.below hnx kb.lt
    have ky : BK (vyb5.alloc (.cells #[.slice none 0 0, .slice none 0 0] 25)) vyb5.heap.size #[.slice none 0 0, .slice none 0 0] 25 := BK.new _ _ _
    refine hK _ _ (fun _ => eyb6) ?_
    clear hK K hnx
    generalize (vyb5.alloc (.cells #[.slice none 0 0, .slice none 0 0] 25)) = vyb8 at *
    obtain ⟨gky, hgky⟩ : ∃ g, vyb5.heap.size = g := ⟨_, rfl⟩
    have hqky : vya7.heap.size ≤ gky := by omega
    rw [hgky] at ky nekbky
    try rw [hgky]
    clear hgky
    refine any_run1 (i := 11) (by kernel_rfl) (by rfl) (by kernel_rfl) ?_
    intro K hK
    have lky := ky.lt
    have y0 := ky.cell 0
    have f0 := ky.frozen 0
    have y1 := ky.cell 1
    have f1 := ky.frozen 1
    simp at y0 y1
    go_wp2_with fail
    have eyb9 : Below vya7.heap.size vya7 ((vyb8.setCell ⟨gky, 0, none⟩ (.slice (some ⟨gkb, 0, none⟩) 1 1)).setCell ⟨gky, 1, none⟩ (.slice At (ss.length - k) (cs - k))) := by exact bel_of
    have kb_ : BK ((vyb8.setCell ⟨gky, 0, none⟩ (.slice (some ⟨gkb, 0, none⟩) 1 1)).setCell ⟨gky, 1, none⟩ (.slice At (ss.length - k) (cs - k))) gkb _ _ := (BK.far (BK.far kb (p := ⟨gky, 0, none⟩) (by first | assumption | exact Ne.symm (by assumption)) _) (p := ⟨gky, 1, none⟩) (by first | assumption | exact Ne.symm (by assumption)) _); clear kb; have kb := kb_; clear kb_
    have ky_ := ((ky.set 0 (.slice (some ⟨gkb, 0, none⟩) 1 1)).set 1 (.slice At (ss.length - k) (cs - k)))
    simp at ky_
    clear ky; have ky := ky_; clear ky_
    clear y0 f0 y1 f1
    refine hK _ _ (fun _ => eyb9) ?_
    clear hK K
    generalize ((vyb8.setCell ⟨gky, 0, none⟩ (.slice (some ⟨gkb, 0, none⟩) 1 1)).setCell ⟨gky, 1, none⟩ (.slice At (ss.length - k) (cs - k))) = vyb10 at *
    refine any_done (by kernel_rfl) (NoPanic.normal ?_)
    exact ⟨rfl, by simp [setAll], rfl, _, _, rfl, ky, kb, eyb9⟩
   ·skip
    intro K hK
    have qyb12 := dyb1.size
    have eyb11 : Below vya7.heap.size vya7 (uyb2.alloc (.cells #[.slice none 0 0, .slice none 0 0] 25)) := Below.alloc dyb1 dyb1.size _
    have hnx : Below uyb2.heap.size uyb2 (uyb2.alloc (.cells #[.slice none 0 0, .slice none 0 0] 25)) := Below.alloc (Below.refl _ _) (Nat.le_refl _) _
    go_wp2_with fail
    have ky : BK (uyb2.alloc (.cells #[.slice none 0 0, .slice none 0 0] 25)) uyb2.heap.size #[.slice none 0 0, .slice none 0 0] 25 := BK.new _ _ _
    refine hK _ _ (fun _ => eyb11) ?_
    clear hK K hnx
    generalize (uyb2.alloc (.cells #[.slice none 0 0, .slice none 0 0] 25)) = vyb13 at *
    obtain ⟨gky, hgky⟩ : ∃ g, uyb2.heap.size = g := ⟨_, rfl⟩
    have hqky : vya7.heap.size ≤ gky := by omega
    rw [hgky] at ky
    try rw [hgky]
    clear hgky
    refine any_run1 (i := 4) (by kernel_rfl) (by rfl) (by kernel_rfl) ?_
    intro K hK
    have qyb15 := eyb11.size
    have eyb14 : Below vya7.heap.size vya7 (vyb13.alloc (.cells #[.int .i64 ra, .int .i64 rb] 33)) := Below.alloc eyb11 eyb11.size _
    have hnx : Below vyb13.heap.size vyb13 (vyb13.alloc (.cells #[.int .i64 ra, .int .i64 rb] 33)) := Below.alloc (Below.refl _ _) (Nat.le_refl _) _
    go_wp2_with fail
    have nekykb : gky ≠ vyb13.heap.size := Nat.ne_of_lt ky.lt
    replace ky := ky.below hnx ky.lt
    have kb : BK (vyb13.alloc (.cells #[.int .i64 ra, .int .i64 rb] 33)) vyb13.heap.size #[.int .i64 ra, .int .i64 rb] 33 := BK.new _ _ _
    refine hK _ _ (fun _ => eyb14) ?_
    clear hK K hnx
    generalize (vyb13.alloc (.cells #[.int .i64 ra, .int .i64 rb] 33)) = vyb16 at *
    obtain ⟨gkb, hgkb⟩ : ∃ g, vyb13.heap.size = g := ⟨_, rfl⟩
    have hqkb : vya7.heap.size ≤ gkb := by omega
    rw [hgkb] at kb nekykb
    try rw [hgkb]
    clear hgkb
    refine any_tk 9 ?_
    refine any_run1 (i := 11) (by kernel_rfl) (by rfl) (by kernel_rfl) ?_
    intro K hK
    have lky := ky.lt
    have y0 := ky.cell 0
    have f0 := ky.frozen 0
    have y1 := ky.cell 1
    have f1 := ky.frozen 1
    simp at y0 y1
    go_wp2_with fail
    have eyb17 : Below vya7.heap.size vya7 ((vyb16.setCell ⟨gky, 0, none⟩ (.slice (some ⟨gkb, 0, none⟩) 1 1)).setCell ⟨gky, 1, none⟩ (.slice At (ss.length - k) (cs - k))) := by exact bel_of
    have kb_ : BK ((vyb16.setCell ⟨gky, 0, none⟩ (.slice (some ⟨gkb, 0, none⟩) 1 1)).setCell ⟨gky, 1, none⟩ (.slice At (ss.length - k) (cs - k))) gkb _ _ := (BK.far (BK.far kb (p := ⟨gky, 0, none⟩) (by first | assumption | exact Ne.symm (by assumption)) _) (p := ⟨gky, 1, none⟩) (by first | assumption | exact Ne.symm (by assumption)) _); clear kb; have kb := kb_; clear kb_
    have ky_ := ((ky.set 0 (.slice (some ⟨gkb, 0, none⟩) 1 1)).set 1 (.slice At (ss.length - k) (cs - k)))
    simp at ky_
    clear ky; have ky := ky_; clear ky_
    clear y0 f0 y1 f1
    refine hK _ _ (fun _ => eyb17) ?_
    clear hK K
    generalize ((vyb16.setCell ⟨gky, 0, none⟩ (.slice (some ⟨gkb, 0, none⟩) 1 1)).setCell ⟨gky, 1, none⟩ (.slice At (ss.length - k) (cs - k))) = vyb18 at *
    refine any_done (by kernel_rfl) (NoPanic.normal ?_)
    exact ⟨rfl, by simp [setAll], rfl, _, _, rfl, ky, kb, eyb17⟩
  rintro u V ⟨gy, gb, hu15, yy, bb, hbz⟩
  simp only [setAll, List.foldl, List.setIfInBounds_toArray, List.set_cons_succ, List.set_cons_zero, hu15]
  clear hu15 d_l0 d_l1 hb_l hkL' hkL
  clear lbx bxc0 bxc1
  clear lwx wxc0 wxc1
  replace hC : Below n0 w V := hC.trans (hbz.mono (by have := hC.size; omega))
  replace hB := (RS.below hB hbz).more hbz.size
  replace hS := (RP.below hS hbz).more hbz.size
  replace bx := bx.below hbz bx.lt
  replace hR := (RS.below hR hbz).more hbz.size
  replace wx := wx.below hbz wx.lt
  replace hH := (RS.below hH hbz).more hbz.size
  replace hL := (RS.below hL hbz).more hbz.size
  replace xx := xx.below hbz xx.lt
  clear hbz
  have hBy : RR V V.heap.size (.slice (some ⟨gb, 0, none⟩) 1 1) [⟨ra, rb⟩] := rs_new bb bb.lt rfl
  have hSy := RP.drop (k := k) hS hkl
  rw [hAt] at hSy
  have hSx := RP.take (k := k) hS hkl
  have HVy := Lib.hid (okV_drop HV.out k HOK.out)
  have HFy := Lib.hid (great_fit (okV_small HVy.out))
  have HFx := Lib.hid (great_fit (okV_small (okV_take HV.out k)))
  have HPy := Lib.hid (okV_fine HVy.out)
  have hln1 : (ss.drop k).length = ss.length - k := List.length_drop ..
  clear hAt
  clear hln1
  have lbx := bx.lt
  have bxc0 := bx.cell 0
  have bxc1 := bx.cell 1
  simp at bxc0 bxc1
  have lwx := wx.lt
  have wxc0 := wx.cell 0
  have wxc1 := wx.cell 1
  simp at wxc0 wxc1
  have lxx := xx.lt
  have xxc0 := xx.cell 0
  have xxc1 := xx.cell 1
  simp at xxc0 xxc1
  have lyy := yy.lt
  have yyc0 := yy.cell 0
  have yyc1 := yy.cell 1
  simp at yyc0 yyc1
  go_wp2_with fail
  clear lbx bxc0 bxc1
  clear lwx wxc0 wxc1
  clear lxx xxc0 xxc1
  clear lyy yyc0 yyc1
  refine (fine_any [⟨ra, rb⟩] (ss.drop k) _ _ _ hBy hSy).mono ?_
  rintro e w5 ⟨q, rfl, hq, hb⟩
  replace hC : Below n0 w w5 := hC.trans (hb.mono (by have := hC.size; omega))
  replace hB := (RS.below hB hb).more hb.size
  replace hS := (RP.below hS hb).more hb.size
  replace bx := bx.below hb bx.lt
  replace hR := (RS.below hR hb).more hb.size
  replace wx := wx.below hb wx.lt
  replace hH := (RS.below hH hb).more hb.size
  replace hL := (RS.below hL hb).more hb.size
  replace xx := xx.below hb xx.lt
  replace yy := yy.below hb yy.lt
  replace bb := bb.below hb bb.lt
  replace hBy := (RS.below hBy hb).more hb.size
  replace hSy := (RP.below hSy hb).more hb.size
  replace hSx := (RP.below hSx hb).more hb.size
  clear hb
  obtain rfl : q = true := hq.2 HPy.out
  clear hq
  have hcr : ks.length ≤ cr := (RS.cap hR).2
  have hkk : k ≤ ks.length := by have := HKS.out; omega
  have hkr : (k : Int) ≤ (cr : Int) := by omega
  have hkk' : (k : Int) ≤ (ks.length : Int) := by omega
  obtain ⟨Art, hArt⟩ : ∃ A, (if cr = k then Ar else Option.map (fun x => x.add k) Ar) = A := ⟨_, rfl⟩
  simp only [Bool.not_true]
  go_upto_region 13 with fail
  have lwx := wx.lt
  have wxc0 := wx.cell 0
  have wxc1 := wx.cell 1
  simp at wxc0 wxc1
  refine region_keep [16, 17, 85, 86, 87, 88, 89, 90, 91, 92, 93, 94, 95, 96] (fun u V => ∃ gp gq, u 16 = .pointer (some ⟨gp, 0, none⟩) ∧ u 17 = .pointer (some ⟨gq, 0, none⟩) ∧ BK V gp #[.int .i64 b, .slice Ar k cr] 42 ∧ BK V gq #[.int .i64 0, .slice Art (ks.length - k) (cr - k)] 42 ∧ Below w5.heap.size w5 V) ?_ ?_
  ·skip
   have d0yc : Below w5.heap.size w5 w5.drew := by exact bel_of
   refine wp_region_noPanic (plain_any [0, 1, 2, 3, 4, 5, 7, 8, 9, 10] (Below w5.heap.size w5) mixed ?_)
   refine any_tk 0 ?_
   refine any_tk 1 ?_
   refine any_tk 2 ?_
   refine any_tk 3 ?_
   refine any_tk 4 ?_
   refine any_tk 5 ?_
   refine any_tk 7 ?_
   refine any_tk 8 ?_
   refine any_tk 9 ?_
   refine any_tk 10 ?_
   have dyc1 : Below w5.heap.size w5 w5.drew := by exact bel_of
   have hdr : Below w5.heap.size w5 w5.drew := Below.drew (Below.refl _ _)
   clear hdr
   generalize w5.drew = uyc2 at *
   refine any_run3 (i := 6) (j := 12) (k := 13) (by kernel_rfl) (by rfl) (by rfl) (by rfl) (by rfl) (by rfl) (by rfl) ?_ ?_ ?_
   ·skip
    intro K hK
    have qyc5 := dyc1.size
    go_wp2_with fail
    refine (recipe_any b _ _ _ _).mono ?_
    rintro e vyc4 ⟨rfl, hb⟩
    have eyc3 : Below w5.heap.size w5 vyc4 := dyc1.trans (hb.mono dyc1.size)
    clear hb
    refine hK _ _ (fun _ => eyc3) ?_
    clear hK K
    refine any_run3 (i := 11) (j := 12) (k := 13) (by kernel_rfl) (by rfl) (by rfl) (by rfl) (by rfl) (by rfl) (by rfl) ?_ ?_ ?_
    ·skip
     intro K hK
     have qyc8 := eyc3.size
     go_wp2_with fail
     refine (recipe_any 0 _ _ _ _).mono ?_
     rintro e vyc7 ⟨rfl, hb⟩
     have eyc6 : Below w5.heap.size w5 vyc7 := eyc3.trans (hb.mono eyc3.size)
     clear hb
     refine hK _ _ (fun _ => eyc6) ?_
     clear hK K
     refine any_run2 (i := 12) (j := 13) (by kernel_rfl) (by rfl) (by rfl) (by rfl) (by rfl) ?_ ?_
     ·skip
      intro K hK
      have qyc10 := eyc6.size
      have eyc9 : Below w5.heap.size w5 (vyc7.alloc (.cells #[.int .i64 0, .slice none 0 0] 42)) := Below.alloc eyc6 eyc6.size _
      have hnx : Below vyc7.heap.size vyc7 (vyc7.alloc (.cells #[.int .i64 0, .slice none 0 0] 42)) := Below.alloc (Below.refl _ _) (Nat.le_refl _) _
      go_wp2_with fail
      have kp : BK (vyc7.alloc (.cells #[.int .i64 0, .slice none 0 0] 42)) vyc7.heap.size #[.int .i64 0, .slice none 0 0] 42 := BK.new _ _ _
      refine hK _ _ (fun _ => eyc9) ?_
      clear hK K hnx
      generalize (vyc7.alloc (.cells #[.int .i64 0, .slice none 0 0] 42)) = vyc11 at *
      obtain ⟨gkp, hgkp⟩ : ∃ g, vyc7.heap.size = g := ⟨_, rfl⟩
      have hqkp : w5.heap.size ≤ gkp := by omega
      rw [hgkp] at kp
      try rw [hgkp]
      clear hgkp
      refine any_run1 (i := 13) (by kernel_rfl) (by rfl) (by kernel_rfl) ?_
      intro K hK
      have qyc13 := eyc9.size
      have eyc12 : Below w5.heap.size w5 (vyc11.alloc (.cells #[.int .i64 0, .slice none 0 0] 42)) := Below.alloc eyc9 eyc9.size _
      have hnx : Below vyc11.heap.size vyc11 (vyc11.alloc (.cells #[.int .i64 0, .slice none 0 0] 42)) := Below.alloc (Below.refl _ _) (Nat.le_refl _) _
      go_wp2_with fail
      have nekpkq : gkp ≠ vyc11.heap.size := Nat.ne_of_lt kp.lt
      replace kp := kp.below hnx kp.lt
      have kq : BK (vyc11.alloc (.cells #[.int .i64 0, .slice none 0 0] 42)) vyc11.heap.size #[.int .i64 0, .slice none 0 0] 42 := BK.new _ _ _
      refine hK _ _ (fun _ => eyc12) ?_
      clear hK K hnx
      generalize (vyc11.alloc (.cells #[.int .i64 0, .slice none 0 0] 42)) = vyc14 at *
      obtain ⟨gkq, hgkq⟩ : ∃ g, vyc11.heap.size = g := ⟨_, rfl⟩
      have hqkq : w5.heap.size ≤ gkq := by omega
      rw [hgkq] at kq nekpkq
      try rw [hgkq]
      clear hgkq
      refine any_run1 (i := 14) (by kernel_rfl) (by rfl) (by kernel_rfl) ?_
      intro K hK
      have lkp := kp.lt
      have y0 := kp.cell 0
      have f0 := kp.frozen 0
      have y1 := kp.cell 1
      have f1 := kp.frozen 1
      simp at y0 y1
      go_wp2_with fail
      have eyc15 : Below w5.heap.size w5 ((vyc14.setCell ⟨gkp, 0, none⟩ (.int .i64 b)).setCell ⟨gkp, 1, none⟩ (.slice Ar k cr)) := by exact bel_of
      have kq_ : BK ((vyc14.setCell ⟨gkp, 0, none⟩ (.int .i64 b)).setCell ⟨gkp, 1, none⟩ (.slice Ar k cr)) gkq _ _ := (BK.far (BK.far kq (p := ⟨gkp, 0, none⟩) (by first | assumption | exact Ne.symm (by assumption)) _) (p := ⟨gkp, 1, none⟩) (by first | assumption | exact Ne.symm (by assumption)) _); clear kq; have kq := kq_; clear kq_
      have kp_ := ((kp.set 0 (.int .i64 b)).set 1 (.slice Ar k cr))
      simp at kp_
      clear kp; have kp := kp_; clear kp_
      clear y0 f0 y1 f1
      refine hK _ _ (fun _ => eyc15) ?_
      clear hK K
      generalize ((vyc14.setCell ⟨gkp, 0, none⟩ (.int .i64 b)).setCell ⟨gkp, 1, none⟩ (.slice Ar k cr)) = vyc16 at *
      refine any_run1 (i := 15) (by kernel_rfl) (by rfl) (by kernel_rfl) ?_
      intro K hK
      have lkq := kq.lt
      have y0 := kq.cell 0
      have f0 := kq.frozen 0
      have y1 := kq.cell 1
      have f1 := kq.frozen 1
      simp at y0 y1
      go_wp2_with fail
      have eyc17 : Below w5.heap.size w5 ((vyc16.setCell ⟨gkq, 0, none⟩ (.int .i64 0)).setCell ⟨gkq, 1, none⟩ (.slice Art (ks.length - k) (cr - k))) := by exact bel_of
      have kp_ : BK ((vyc16.setCell ⟨gkq, 0, none⟩ (.int .i64 0)).setCell ⟨gkq, 1, none⟩ (.slice Art (ks.length - k) (cr - k))) gkp _ _ := (BK.far (BK.far kp (p := ⟨gkq, 0, none⟩) (by first | assumption | exact Ne.symm (by assumption)) _) (p := ⟨gkq, 1, none⟩) (by first | assumption | exact Ne.symm (by assumption)) _); clear kp; have kp := kp_; clear kp_
      have kq_ := ((kq.set 0 (.int .i64 0)).set 1 (.slice Art (ks.length - k) (cr - k)))
      simp at kq_
      clear kq; have kq := kq_; clear kq_
      clear y0 f0 y1 f1
      refine hK _ _ (fun _ => eyc17) ?_
      clear hK K
      generalize ((vyc16.setCell ⟨gkq, 0, none⟩ (.int .i64 0)).setCell ⟨gkq, 1, none⟩ (.slice Art (ks.length - k) (cr - k))) = vyc18 at *
      refine any_done (by kernel_rfl) (NoPanic.normal ?_)
      exact ⟨rfl, by simp [setAll], rfl, _, _, rfl, rfl, kp, kq, eyc17⟩
     ·skip
      intro K hK
      have qyc20 := eyc6.size
      have eyc19 : Below w5.heap.size w5 (vyc7.alloc (.cells #[.int .i64 0, .slice none 0 0] 42)) := Below.alloc eyc6 eyc6.size _
      have hnx : Below vyc7.heap.size vyc7 (vyc7.alloc (.cells #[.int .i64 0, .slice none 0 0] 42)) := Below.alloc (Below.refl _ _) (Nat.le_refl _) _
      go_wp2_with fail
      have kq : BK (vyc7.alloc (.cells #[.int .i64 0, .slice none 0 0] 42)) vyc7.heap.size #[.int .i64 0, .slice none 0 0] 42 := BK.new _ _ _
      refine hK _ _ (fun _ => eyc19) ?_
      clear hK K hnx
      generalize (vyc7.alloc (.cells #[.int .i64 0, .slice none 0 0] 42)) = vyc21 at *
      obtain ⟨gkq, hgkq⟩ : ∃ g, vyc7.heap.size = g := ⟨_, rfl⟩
      have hqkq : w5.heap.size ≤ gkq := by omega
      rw [hgkq] at kq
      try rw [hgkq]
      clear hgkq
      refine any_run1 (i := 12) (by kernel_rfl) (by rfl) (by kernel_rfl) ?_
      intro K hK
      have qyc23 := eyc19.size
      have eyc22 : Below w5.heap.size w5 (vyc21.alloc (.cells #[.int .i64 0, .slice none 0 0] 42)) := Below.alloc eyc19 eyc19.size _
      have hnx : Below vyc21.heap.size vyc21 (vyc21.alloc (.cells #[.int .i64 0, .slice none 0 0] 42)) := Below.alloc (Below.refl _ _) (Nat.le_refl _) _
      go_wp2_with fail
      have nekqkp : gkq ≠ vyc21.heap.size := Nat.ne_of_lt kq.lt
      replace kq := kq.below hnx kq.lt
      have kp : BK (vyc21.alloc (.cells #[.int .i64 0, .slice none 0 0] 42)) vyc21.heap.size #[.int .i64 0, .slice none 0 0] 42 := BK.new _ _ _
      refine hK _ _ (fun _ => eyc22) ?_
      clear hK K hnx
      generalize (vyc21.alloc (.cells #[.int .i64 0, .slice none 0 0] 42)) = vyc24 at *
      obtain ⟨gkp, hgkp⟩ : ∃ g, vyc21.heap.size = g := ⟨_, rfl⟩
      have hqkp : w5.heap.size ≤ gkp := by omega
      rw [hgkp] at kp nekqkp
      try rw [hgkp]
      clear hgkp
      refine any_run1 (i := 14) (by kernel_rfl) (by rfl) (by kernel_rfl) ?_
      intro K hK
      have lkp := kp.lt
      have y0 := kp.cell 0
      have f0 := kp.frozen 0
      have y1 := kp.cell 1
      have f1 := kp.frozen 1
      simp at y0 y1
      go_wp2_with fail
      have eyc25 : Below w5.heap.size w5 ((vyc24.setCell ⟨gkp, 0, none⟩ (.int .i64 b)).setCell ⟨gkp, 1, none⟩ (.slice Ar k cr)) := by exact bel_of
      have kq_ : BK ((vyc24.setCell ⟨gkp, 0, none⟩ (.int .i64 b)).setCell ⟨gkp, 1, none⟩ (.slice Ar k cr)) gkq _ _ := (BK.far (BK.far kq (p := ⟨gkp, 0, none⟩) (by first | assumption | exact Ne.symm (by assumption)) _) (p := ⟨gkp, 1, none⟩) (by first | assumption | exact Ne.symm (by assumption)) _); clear kq; have kq := kq_; clear kq_
      have kp_ := ((kp.set 0 (.int .i64 b)).set 1 (.slice Ar k cr))
      simp at kp_
      clear kp; have kp := kp_; clear kp_
      clear y0 f0 y1 f1
      refine hK _ _ (fun _ => eyc25) ?_
      clear hK K
      generalize ((vyc24.setCell ⟨gkp, 0, none⟩ (.int .i64 b)).setCell ⟨gkp, 1, none⟩ (.slice Ar k cr)) = vyc26 at *
      refine any_run1 (i := 15) (by kernel_rfl) (by rfl) (by kernel_rfl) ?_
      intro K hK
      have lkq := kq.lt
      have y0 := kq.cell 0
      have f0 := kq.frozen 0
      have y1 := kq.cell 1
      have f1 := kq.frozen 1
      simp at y0 y1
      go_wp2_with fail
      have eyc27 : Below w5.heap.size w5 ((vyc26.setCell ⟨gkq, 0, none⟩ (.int .i64 0)).setCell ⟨gkq, 1, none⟩ (.slice Art (ks.length - k) (cr - k))) := by exact bel_of
      have kp_ : BK ((vyc26.setCell ⟨gkq, 0, none⟩ (.int .i64 0)).setCell ⟨gkq, 1, none⟩ (.slice Art (ks.length - k) (cr - k))) gkp _ _ := (BK.far (BK.far kp (p := ⟨gkq, 0, none⟩) (by first | assumption | exact Ne.symm (by assumption)) _) (p := ⟨gkq, 1, none⟩) (by first | assumption | exact Ne.symm (by assumption)) _); clear kp; have kp := kp_; clear kp_
      have kq_ := ((kq.set 0 (.int .i64 0)).set 1 (.slice Art (ks.length - k) (cr - k)))
      simp at kq_
      clear kq; have kq := kq_; clear kq_
      clear y0 f0 y1 f1
      refine hK _ _ (fun _ => eyc27) ?_
      clear hK K
      generalize ((vyc26.setCell ⟨gkq, 0, none⟩ (.int .i64 0)).setCell ⟨gkq, 1, none⟩ (.slice Art (ks.length - k) (cr - k))) = vyc28 at *
      refine any_done (by kernel_rfl) (NoPanic.normal ?_)
      exact ⟨rfl, by simp [setAll], rfl, _, _, rfl, rfl, kp, kq, eyc27⟩
    ·skip
     intro K hK
     have qyc30 := eyc3.size
     have eyc29 : Below w5.heap.size w5 (vyc4.alloc (.cells #[.int .i64 0, .slice none 0 0] 42)) := Below.alloc eyc3 eyc3.size _
     have hnx : Below vyc4.heap.size vyc4 (vyc4.alloc (.cells #[.int .i64 0, .slice none 0 0] 42)) := Below.alloc (Below.refl _ _) (Nat.le_refl _) _
     go_wp2_with fail
     have kp : BK (vyc4.alloc (.cells #[.int .i64 0, .slice none 0 0] 42)) vyc4.heap.size #[.int .i64 0, .slice none 0 0] 42 := BK.new _ _ _
     refine hK _ _ (fun _ => eyc29) ?_
     clear hK K hnx
     generalize (vyc4.alloc (.cells #[.int .i64 0, .slice none 0 0] 42)) = vyc31 at *
     obtain ⟨gkp, hgkp⟩ : ∃ g, vyc4.heap.size = g := ⟨_, rfl⟩
     have hqkp : w5.heap.size ≤ gkp := by omega
     rw [hgkp] at kp
     try rw [hgkp]
     clear hgkp
     refine any_run2 (i := 11) (j := 13) (by kernel_rfl) (by rfl) (by rfl) (by rfl) (by rfl) ?_ ?_
     ·skip
      intro K hK
      have qyc34 := eyc29.size
      go_wp2_with fail
      refine (recipe_any 0 _ _ _ _).mono ?_
      rintro e vyc33 ⟨rfl, hb⟩
      have eyc32 : Below w5.heap.size w5 vyc33 := eyc29.trans (hb.mono eyc29.size)
      replace kp := kp.below hb kp.lt
      clear hb
      refine hK _ _ (fun _ => eyc32) ?_
      clear hK K
      refine any_run1 (i := 13) (by kernel_rfl) (by rfl) (by kernel_rfl) ?_
      intro K hK
      have qyc36 := eyc32.size
      have eyc35 : Below w5.heap.size w5 (vyc33.alloc (.cells #[.int .i64 0, .slice none 0 0] 42)) := Below.alloc eyc32 eyc32.size _
      have hnx : Below vyc33.heap.size vyc33 (vyc33.alloc (.cells #[.int .i64 0, .slice none 0 0] 42)) := Below.alloc (Below.refl _ _) (Nat.le_refl _) _
      go_wp2_with fail
      have nekpkq : gkp ≠ vyc33.heap.size := Nat.ne_of_lt kp.lt
      replace kp := kp.below hnx kp.lt
      have kq : BK (vyc33.alloc (.cells #[.int .i64 0, .slice none 0 0] 42)) vyc33.heap.size #[.int .i64 0, .slice none 0 0] 42 := BK.new _ _ _
      refine hK _ _ (fun _ => eyc35) ?_
      clear hK K hnx
      generalize (vyc33.alloc (.cells #[.int .i64 0, .slice none 0 0] 42)) = vyc37 at *
      obtain ⟨gkq, hgkq⟩ : ∃ g, vyc33.heap.size = g := ⟨_, rfl⟩
      have hqkq : w5.heap.size ≤ gkq := by omega
      rw [hgkq] at kq nekpkq
      try rw [hgkq]
      clear hgkq
      refine any_run1 (i := 14) (by kernel_rfl) (by rfl) (by kernel_rfl) ?_
      intro K hK
      have lkp := kp.lt
      have y0 := kp.cell 0
      have f0 := kp.frozen 0
      have y1 := kp.cell 1
      have f1 := kp.frozen 1
      simp at y0 y1
      go_wp2_with fail
      have eyc38 : Below w5.heap.size w5 ((vyc37.setCell ⟨gkp, 0, none⟩ (.int .i64 b)).setCell ⟨gkp, 1, none⟩ (.slice Ar k cr)) := by exact bel_of
      have kq_ : BK ((vyc37.setCell ⟨gkp, 0, none⟩ (.int .i64 b)).setCell ⟨gkp, 1, none⟩ (.slice Ar k cr)) gkq _ _ := (BK.far (BK.far kq (p := ⟨gkp, 0, none⟩) (by first | assumption | exact Ne.symm (by assumption)) _) (p := ⟨gkp, 1, none⟩) (by first | assumption | exact Ne.symm (by assumption)) _); clear kq; have kq := kq_; clear kq_
      have kp_ := ((kp.set 0 (.int .i64 b)).set 1 (.slice Ar k cr))
      simp at kp_
      clear kp; have kp := kp_; clear kp_
      clear y0 f0 y1 f1
      refine hK _ _ (fun _ => eyc38) ?_
      clear hK K
      generalize ((vyc37.setCell ⟨gkp, 0, none⟩ (.int .i64 b)).setCell ⟨gkp, 1, none⟩ (.slice Ar k cr)) = vyc39 at *
      refine any_run1 (i := 15) (by kernel_rfl) (by rfl) (by kernel_rfl) ?_
      intro K hK
      have lkq := kq.lt
      have y0 := kq.cell 0
      have f0 := kq.frozen 0
      have y1 := kq.cell 1
      have f1 := kq.frozen 1
      simp at y0 y1
      go_wp2_with fail
      have eyc40 : Below w5.heap.size w5 ((vyc39.setCell ⟨gkq, 0, none⟩ (.int .i64 0)).setCell ⟨gkq, 1, none⟩ (.slice Art (ks.length - k) (cr - k))) := by exact bel_of
      have kp_ : BK ((vyc39.setCell ⟨gkq, 0, none⟩ (.int .i64 0)).setCell ⟨gkq, 1, none⟩ (.slice Art (ks.length - k) (cr - k))) gkp _ _ := (BK.far (BK.far kp (p := ⟨gkq, 0, none⟩) (by first | assumption | exact Ne.symm (by assumption)) _) (p := ⟨gkq, 1, none⟩) (by first | assumption | exact Ne.symm (by assumption)) _); clear kp; have kp := kp_; clear kp_
      have kq_ := ((kq.set 0 (.int .i64 0)).set 1 (.slice Art (ks.length - k) (cr - k)))
      simp at kq_
      clear kq; have kq := kq_; clear kq_
      clear y0 f0 y1 f1
      refine hK _ _ (fun _ => eyc40) ?_
      clear hK K
      generalize ((vyc39.setCell ⟨gkq, 0, none⟩ (.int .i64 0)).setCell ⟨gkq, 1, none⟩ (.slice Art (ks.length - k) (cr - k))) = vyc41 at *
      refine any_done (by kernel_rfl) (NoPanic.normal ?_)
      exact ⟨rfl, by simp [setAll], rfl, _, _, rfl, rfl, kp, kq, eyc40⟩
     ·skip
      intro K hK
      have qyc43 := eyc29.size
      have eyc42 : Below w5.heap.size w5 (vyc31.alloc (.cells #[.int .i64 0, .slice none 0 0] 42)) := Below.alloc eyc29 eyc29.size _
      have hnx : Below vyc31.heap.size vyc31 (vyc31.alloc (.cells #[.int .i64 0, .slice none 0 0] 42)) := Below.alloc (Below.refl _ _) (Nat.le_refl _) _
      go_wp2_with fail
      have nekpkq : gkp ≠ vyc31.heap.size := Nat.ne_of_lt kp.lt
      replace kp := kp.below hnx kp.lt
      have kq : BK (vyc31.alloc (.cells #[.int .i64 0, .slice none 0 0] 42)) vyc31.heap.size #[.int .i64 0, .slice none 0 0] 42 := BK.new _ _ _
      refine hK _ _ (fun _ => eyc42) ?_
      clear hK K hnx
      generalize (vyc31.alloc (.cells #[.int .i64 0, .slice none 0 0] 42)) = vyc44 at *
      obtain ⟨gkq, hgkq⟩ : ∃ g, vyc31.heap.size = g := ⟨_, rfl⟩
      have hqkq : w5.heap.size ≤ gkq := by omega
      rw [hgkq] at kq nekpkq
      try rw [hgkq]
      clear hgkq
      refine any_run1 (i := 11) (by kernel_rfl) (by rfl) (by kernel_rfl) ?_
      intro K hK
      have qyc47 := eyc42.size
      go_wp2_with fail
      refine (recipe_any 0 _ _ _ _).mono ?_
      rintro e vyc46 ⟨rfl, hb⟩
      have eyc45 : Below w5.heap.size w5 vyc46 := eyc42.trans (hb.mono eyc42.size)
      replace kp := kp.below hb kp.lt
      replace kq := kq.below hb kq.lt
      clear hb
      refine hK _ _ (fun _ => eyc45) ?_
      clear hK K
      refine any_run1 (i := 14) (by kernel_rfl) (by rfl) (by kernel_rfl) ?_
      intro K hK
      have lkp := kp.lt
      have y0 := kp.cell 0
      have f0 := kp.frozen 0
      have y1 := kp.cell 1
      have f1 := kp.frozen 1
      simp at y0 y1
      go_wp2_with fail
      have eyc48 : Below w5.heap.size w5 ((vyc46.setCell ⟨gkp, 0, none⟩ (.int .i64 b)).setCell ⟨gkp, 1, none⟩ (.slice Ar k cr)) := by exact bel_of
      have kq_ : BK ((vyc46.setCell ⟨gkp, 0, none⟩ (.int .i64 b)).setCell ⟨gkp, 1, none⟩ (.slice Ar k cr)) gkq _ _ := (BK.far (BK.far kq (p := ⟨gkp, 0, none⟩) (by first | assumption | exact Ne.symm (by assumption)) _) (p := ⟨gkp, 1, none⟩) (by first | assumption | exact Ne.symm (by assumption)) _); clear kq; have kq := kq_; clear kq_
      have kp_ := ((kp.set 0 (.int .i64 b)).set 1 (.slice Ar k cr))
      simp at kp_
      clear kp; have kp := kp_; clear kp_
      clear y0 f0 y1 f1
      refine hK _ _ (fun _ => eyc48) ?_
      clear hK K
      generalize ((vyc46.setCell ⟨gkp, 0, none⟩ (.int .i64 b)).setCell ⟨gkp, 1, none⟩ (.slice Ar k cr)) = vyc49 at *
      refine any_run1 (i := 15) (by kernel_rfl) (by rfl) (by kernel_rfl) ?_
      intro K hK
      have lkq := kq.lt
      have y0 := kq.cell 0
      have f0 := kq.frozen 0
      have y1 := kq.cell 1
      have f1 := kq.frozen 1
      simp at y0 y1
      go_wp2_with fail
      have eyc50 : Below w5.heap.size w5 ((vyc49.setCell ⟨gkq, 0, none⟩ (.int .i64 0)).setCell ⟨gkq, 1, none⟩ (.slice Art (ks.length - k) (cr - k))) := by exact bel_of
      have kp_ : BK ((vyc49.setCell ⟨gkq, 0, none⟩ (.int .i64 0)).setCell ⟨gkq, 1, none⟩ (.slice Art (ks.length - k) (cr - k))) gkp _ _ := (BK.far (BK.far kp (p := ⟨gkq, 0, none⟩) (by first | assumption | exact Ne.symm (by assumption)) _) (p := ⟨gkq, 1, none⟩) (by first | assumption | exact Ne.symm (by assumption)) _); clear kp; have kp := kp_; clear kp_
      have kq_ := ((kq.set 0 (.int .i64 0)).set 1 (.slice Art (ks.length - k) (cr - k)))
      simp at kq_
      clear kq; have kq := kq_; clear kq_
      clear y0 f0 y1 f1
      refine hK _ _ (fun _ => eyc50) ?_
      clear hK K
      generalize ((vyc49.setCell ⟨gkq, 0, none⟩ (.int .i64 0)).setCell ⟨gkq, 1, none⟩ (.slice Art (ks.length - k) (cr - k))) = vyc51 at *
      refine any_done (by kernel_rfl) (NoPanic.normal ?_)
      exact ⟨rfl, by simp [setAll], rfl, _, _, rfl, rfl, kp, kq, eyc50⟩
    ·skip
     intro K hK
     have qyc53 := eyc3.size
     have eyc52 : Below w5.heap.size w5 (vyc4.alloc (.cells #[.int .i64 0, .slice none 0 0] 42)) := Below.alloc eyc3 eyc3.size _
     have hnx : Below vyc4.heap.size vyc4 (vyc4.alloc (.cells #[.int .i64 0, .slice none 0 0] 42)) := Below.alloc (Below.refl _ _) (Nat.le_refl _) _
     go_wp2_with fail
     have kq : BK (vyc4.alloc (.cells #[.int .i64 0, .slice none 0 0] 42)) vyc4.heap.size #[.int .i64 0, .slice none 0 0] 42 := BK.new _ _ _
     refine hK _ _ (fun _ => eyc52) ?_
     clear hK K hnx
     generalize (vyc4.alloc (.cells #[.int .i64 0, .slice none 0 0] 42)) = vyc54 at *
     obtain ⟨gkq, hgkq⟩ : ∃ g, vyc4.heap.size = g := ⟨_, rfl⟩
     have hqkq : w5.heap.size ≤ gkq := by omega
     rw [hgkq] at kq
     try rw [hgkq]
     clear hgkq
     refine any_run2 (i := 11) (j := 12) (by kernel_rfl) (by rfl) (by rfl) (by rfl) (by rfl) ?_ ?_
     ·skip
      intro K hK
      have qyc57 := eyc52.size
      go_wp2_with fail
      refine (recipe_any 0 _ _ _ _).mono ?_
      rintro e vyc56 ⟨rfl, hb⟩
      have eyc55 : Below w5.heap.size w5 vyc56 := eyc52.trans (hb.mono eyc52.size)
      replace kq := kq.below hb kq.lt
      clear hb
      refine hK _ _ (fun _ => eyc55) ?_
      clear hK K
      refine any_run1 (i := 12) (by kernel_rfl) (by rfl) (by kernel_rfl) ?_
      intro K hK
      have qyc59 := eyc55.size
      have eyc58 : Below w5.heap.size w5 (vyc56.alloc (.cells #[.int .i64 0, .slice none 0 0] 42)) := Below.alloc eyc55 eyc55.size _
      have hnx : Below vyc56.heap.size vyc56 (vyc56.alloc (.cells #[.int .i64 0, .slice none 0 0] 42)) := Below.alloc (Below.refl _ _) (Nat.le_refl _) _
      go_wp2_with fail
      have nekqkp : gkq ≠ vyc56.heap.size := Nat.ne_of_lt kq.lt
      replace kq := kq.below hnx kq.lt
      have kp : BK (vyc56.alloc (.cells #[.int .i64 0, .slice none 0 0] 42)) vyc56.heap.size #[.int .i64 0, .slice none 0 0] 42 := BK.new _ _ _
      refine hK _ _ (fun _ => eyc58) ?_
      clear hK K hnx
      generalize (vyc56.alloc (.cells #[.int .i64 0, .slice none 0 0] 42)) = vyc60 at *
      obtain ⟨gkp, hgkp⟩ : ∃ g, vyc56.heap.size = g := ⟨_, rfl⟩
      have hqkp : w5.heap.size ≤ gkp := by omega
      rw [hgkp] at kp nekqkp
      try rw [hgkp]
      clear hgkp
      refine any_run1 (i := 14) (by kernel_rfl) (by rfl) (by kernel_rfl) ?_
      intro K hK
      have lkp := kp.lt
      have y0 := kp.cell 0
      have f0 := kp.frozen 0
      have y1 := kp.cell 1
      have f1 := kp.frozen 1
      simp at y0 y1
      go_wp2_with fail
      have eyc61 : Below w5.heap.size w5 ((vyc60.setCell ⟨gkp, 0, none⟩ (.int .i64 b)).setCell ⟨gkp, 1, none⟩ (.slice Ar k cr)) := by exact bel_of
      have kq_ : BK ((vyc60.setCell ⟨gkp, 0, none⟩ (.int .i64 b)).setCell ⟨gkp, 1, none⟩ (.slice Ar k cr)) gkq _ _ := (BK.far (BK.far kq (p := ⟨gkp, 0, none⟩) (by first | assumption | exact Ne.symm (by assumption)) _) (p := ⟨gkp, 1, none⟩) (by first | assumption | exact Ne.symm (by assumption)) _); clear kq; have kq := kq_; clear kq_
      have kp_ := ((kp.set 0 (.int .i64 b)).set 1 (.slice Ar k cr))
      simp at kp_
      clear kp; have kp := kp_; clear kp_
      clear y0 f0 y1 f1
      refine hK _ _ (fun _ => eyc61) ?_
      clear hK K
      generalize ((vyc60.setCell ⟨gkp, 0, none⟩ (.int .i64 b)).setCell ⟨gkp, 1, none⟩ (.slice Ar k cr)) = vyc62 at *
      refine any_run1 (i := 15) (by kernel_rfl) (by rfl) (by kernel_rfl) ?_
      intro K hK
      have lkq := kq.lt
      have y0 := kq.cell 0
      have f0 := kq.frozen 0
      have y1 := kq.cell 1
      have f1 := kq.frozen 1
      simp at y0 y1
      go_wp2_with fail
      have eyc63 : Below w5.heap.size w5 ((vyc62.setCell ⟨gkq, 0, none⟩ (.int .i64 0)).setCell ⟨gkq, 1, none⟩ (.slice Art (ks.length - k) (cr - k))) := by exact bel_of
      have kp_ : BK ((vyc62.setCell ⟨gkq, 0, none⟩ (.int .i64 0)).setCell ⟨gkq, 1, none⟩ (.slice Art (ks.length - k) (cr - k))) gkp _ _ := (BK.far (BK.far kp (p := ⟨gkq, 0, none⟩) (by first | assumption | exact Ne.symm (by assumption)) _) (p := ⟨gkq, 1, none⟩) (by first | assumption | exact Ne.symm (by assumption)) _); clear kp; have kp := kp_; clear kp_
      have kq_ := ((kq.set 0 (.int .i64 0)).set 1 (.slice Art (ks.length - k) (cr - k)))
      simp at kq_
      clear kq; have kq := kq_; clear kq_
      clear y0 f0 y1 f1
      refine hK _ _ (fun _ => eyc63) ?_
      clear hK K
      generalize ((vyc62.setCell ⟨gkq, 0, none⟩ (.int .i64 0)).setCell ⟨gkq, 1, none⟩ (.slice Art (ks.length - k) (cr - k))) = vyc64 at *
      refine any_done (by kernel_rfl) (NoPanic.normal ?_)
      exact ⟨rfl, by simp [setAll], rfl, _, _, rfl, rfl, kp, kq, eyc63⟩
     ·skip
      intro K hK
      have qyc66 := eyc52.size
      have eyc65 : Below w5.heap.size w5 (vyc54.alloc (.cells #[.int .i64 0, .slice none 0 0] 42)) := Below.alloc eyc52 eyc52.size _
      have hnx : Below vyc54.heap.size vyc54 (vyc54.alloc (.cells #[.int .i64 0, .slice none 0 0] 42)) := Below.alloc (Below.refl _ _) (Nat.le_refl _) _
      go_wp2_with fail
      have nekqkp : gkq ≠ vyc54.heap.size := Nat.ne_of_lt kq.lt
      replace kq := kq.below hnx kq.lt
      have kp : BK (vyc54.alloc (.cells #[.int .i64 0, .slice none 0 0] 42)) vyc54.heap.size #[.int .i64 0, .slice none 0 0] 42 := BK.new _ _ _
      refine hK _ _ (fun _ => eyc65) ?_
      clear hK K hnx
      generalize (vyc54.alloc (.cells #[.int .i64 0, .slice none 0 0] 42)) = vyc67 at *
      obtain ⟨gkp, hgkp⟩ : ∃ g, vyc54.heap.size = g := ⟨_, rfl⟩
      have hqkp : w5.heap.size ≤ gkp := by omega
      rw [hgkp] at kp nekqkp
      try rw [hgkp]
      clear hgkp
      refine any_run1 (i := 11) (by kernel_rfl) (by rfl) (by kernel_rfl) ?_
      intro K hK
      have qyc70 := eyc65.size
      go_wp2_with fail
      refine (recipe_any 0 _ _ _ _).mono ?_
      rintro e vyc69 ⟨rfl, hb⟩
      have eyc68 : Below w5.heap.size w5 vyc69 := eyc65.trans (hb.mono eyc65.size)
      replace kq := kq.below hb kq.lt
      replace kp := kp.below hb kp.lt
      clear hb
      refine hK _ _ (fun _ => eyc68) ?_
      clear hK K
      refine any_run1 (i := 14) (by kernel_rfl) (by rfl) (by kernel_rfl) ?_
      intro K hK
      have lkp := kp.lt
      have y0 := kp.cell 0
      have f0 := kp.frozen 0
      have y1 := kp.cell 1
      have f1 := kp.frozen 1
      simp at y0 y1
      go_wp2_with fail
      have eyc71 : Below w5.heap.size w5 ((vyc69.setCell ⟨gkp, 0, none⟩ (.int .i64 b)).setCell ⟨gkp, 1, none⟩ (.slice Ar k cr)) := by exact bel_of
      have kq_ : BK ((vyc69.setCell ⟨gkp, 0, none⟩ (.int .i64 b)).setCell ⟨gkp, 1, none⟩ (.slice Ar k cr)) gkq _ _ := (BK.far (BK.far kq (p := ⟨gkp, 0, none⟩) (by first | assumption | exact Ne.symm (by assumption)) _) (p := ⟨gkp, 1, none⟩) (by first | assumption | exact Ne.symm (by assumption)) _); clear kq; have kq := kq_; clear kq_
      have kp_ := ((kp.set 0 (.int .i64 b)).set 1 (.slice Ar k cr))
      simp at kp_
      clear kp; have kp := kp_; clear kp_
      clear y0 f0 y1 f1
      refine hK _ _ (fun _ => eyc71) ?_
      clear hK K
      generalize ((vyc69.setCell ⟨gkp, 0, none⟩ (.int .i64 b)).setCell ⟨gkp, 1, none⟩ (.slice Ar k cr)) = vyc72 at *
      refine any_run1 (i := 15) (by kernel_rfl) (by rfl) (by kernel_rfl) ?_
      intro K hK
      have lkq := kq.lt
      have y0 := kq.cell 0
      have f0 := kq.frozen 0
      have y1 := kq.cell 1
      have f1 := kq.frozen 1
      simp at y0 y1
      go_wp2_with fail
      have eyc73 : Below w5.heap.size w5 ((vyc72.setCell ⟨gkq, 0, none⟩ (.int .i64 0)).setCell ⟨gkq, 1, none⟩ (.slice Art (ks.length - k) (cr - k))) := by exact bel_of
      have kp_ : BK ((vyc72.setCell ⟨gkq, 0, none⟩ (.int .i64 0)).setCell ⟨gkq, 1, none⟩ (.slice Art (ks.length - k) (cr - k))) gkp _ _ := (BK.far (BK.far kp (p := ⟨gkq, 0, none⟩) (by first | assumption | exact Ne.symm (by assumption)) _) (p := ⟨gkq, 1, none⟩) (by first | assumption | exact Ne.symm (by assumption)) _); clear kp; have kp := kp_; clear kp_
      have kq_ := ((kq.set 0 (.int .i64 0)).set 1 (.slice Art (ks.length - k) (cr - k)))
      simp at kq_
      clear kq; have kq := kq_; clear kq_
      clear y0 f0 y1 f1
      refine hK _ _ (fun _ => eyc73) ?_
      clear hK K
      generalize ((vyc72.setCell ⟨gkq, 0, none⟩ (.int .i64 0)).setCell ⟨gkq, 1, none⟩ (.slice Art (ks.length - k) (cr - k))) = vyc74 at *
      refine any_done (by kernel_rfl) (NoPanic.normal ?_)
      exact ⟨rfl, by simp [setAll], rfl, _, _, rfl, rfl, kp, kq, eyc73⟩
   ·skip
    intro K hK
    have qyc76 := dyc1.size
    have eyc75 : Below w5.heap.size w5 (uyc2.alloc (.cells #[.int .i64 0, .slice none 0 0] 42)) := Below.alloc dyc1 dyc1.size _
    have hnx : Below uyc2.heap.size uyc2 (uyc2.alloc (.cells #[.int .i64 0, .slice none 0 0] 42)) := Below.alloc (Below.refl _ _) (Nat.le_refl _) _
    go_wp2_with fail
    have kp : BK (uyc2.alloc (.cells #[.int .i64 0, .slice none 0 0] 42)) uyc2.heap.size #[.int .i64 0, .slice none 0 0] 42 := BK.new _ _ _
    refine hK _ _ (fun _ => eyc75) ?_
    clear hK K hnx
    generalize (uyc2.alloc (.cells #[.int .i64 0, .slice none 0 0] 42)) = vyc77 at *
    obtain ⟨gkp, hgkp⟩ : ∃ g, uyc2.heap.size = g := ⟨_, rfl⟩
    have hqkp : w5.heap.size ≤ gkp := by omega
    rw [hgkp] at kp
    try rw [hgkp]
    clear hgkp
    refine any_run2 (i := 6) (j := 13) (by kernel_rfl) (by rfl) (by rfl) (by rfl) (by rfl) ?_ ?_
    ·skip
     intro K hK
     have qyc80 := eyc75.size
     go_wp2_with fail
     refine (recipe_any b _ _ _ _).mono ?_
     rintro e vyc79 ⟨rfl, hb⟩
     have eyc78 : Below w5.heap.size w5 vyc79 := eyc75.trans (hb.mono eyc75.size)
     replace kp := kp.below hb kp.lt
     clear hb
     refine hK _ _ (fun _ => eyc78) ?_
     clear hK K
     refine any_run2 (i := 11) (j := 13) (by kernel_rfl) (by rfl) (by rfl) (by rfl) (by rfl) ?_ ?_
     ·skip
      intro K hK
      have qyc83 := eyc78.size
      go_wp2_with fail
      refine (recipe_any 0 _ _ _ _).mono ?_
      rintro e vyc82 ⟨rfl, hb⟩
      have eyc81 : Below w5.heap.size w5 vyc82 := eyc78.trans (hb.mono eyc78.size)
      replace kp := kp.below hb kp.lt
      clear hb
      refine hK _ _ (fun _ => eyc81) ?_
      clear hK K
      refine any_run1 (i := 13) (by kernel_rfl) (by rfl) (by kernel_rfl) ?_
      intro K hK
      have qyc85 := eyc81.size
      have eyc84 : Below w5.heap.size w5 (vyc82.alloc (.cells #[.int .i64 0, .slice none 0 0] 42)) := Below.alloc eyc81 eyc81.size _
      have hnx : Below vyc82.heap.size vyc82 (vyc82.alloc (.cells #[.int .i64 0, .slice none 0 0] 42)) := Below.alloc (Below.refl _ _) (Nat.le_refl _) _
      go_wp2_with fail
      have nekpkq : gkp ≠ vyc82.heap.size := Nat.ne_of_lt kp.lt
      replace kp := kp.below hnx kp.lt
      have kq : BK (vyc82.alloc (.cells #[.int .i64 0, .slice none 0 0] 42)) vyc82.heap.size #[.int .i64 0, .slice none 0 0] 42 := BK.new _ _ _
      refine hK _ _ (fun _ => eyc84) ?_
      clear hK K hnx
      generalize (vyc82.alloc (.cells #[.int .i64 0, .slice none 0 0] 42)) = vyc86 at *
      obtain ⟨gkq, hgkq⟩ : ∃ g, vyc82.heap.size = g := ⟨_, rfl⟩
      have hqkq : w5.heap.size ≤ gkq := by omega
      rw [hgkq] at kq nekpkq
      try rw [hgkq]
      clear hgkq
      refine any_run1 (i := 14) (by kernel_rfl) (by rfl) (by kernel_rfl) ?_
      intro K hK
      have lkp := kp.lt
      have y0 := kp.cell 0
      have f0 := kp.frozen 0
      have y1 := kp.cell 1
      have f1 := kp.frozen 1
      simp at y0 y1
      go_wp2_with fail
      have eyc87 : Below w5.heap.size w5 ((vyc86.setCell ⟨gkp, 0, none⟩ (.int .i64 b)).setCell ⟨gkp, 1, none⟩ (.slice Ar k cr)) := by exact bel_of
      have kq_ : BK ((vyc86.setCell ⟨gkp, 0, none⟩ (.int .i64 b)).setCell ⟨gkp, 1, none⟩ (.slice Ar k cr)) gkq _ _ := (BK.far (BK.far kq (p := ⟨gkp, 0, none⟩) (by first | assumption | exact Ne.symm (by assumption)) _) (p := ⟨gkp, 1, none⟩) (by first | assumption | exact Ne.symm (by assumption)) _); clear kq; have kq := kq_; clear kq_
      have kp_ := ((kp.set 0 (.int .i64 b)).set 1 (.slice Ar k cr))
      simp at kp_
      clear kp; have kp := kp_; clear kp_
      clear y0 f0 y1 f1
      refine hK _ _ (fun _ => eyc87) ?_
      clear hK K
      generalize ((vyc86.setCell ⟨gkp, 0, none⟩ (.int .i64 b)).setCell ⟨gkp, 1, none⟩ (.slice Ar k cr)) = vyc88 at *
      refine any_run1 (i := 15) (by kernel_rfl) (by rfl) (by kernel_rfl) ?_
      intro K hK
      have lkq := kq.lt
      have y0 := kq.cell 0
      have f0 := kq.frozen 0
      have y1 := kq.cell 1
      have f1 := kq.frozen 1
      simp at y0 y1
      go_wp2_with fail
      have eyc89 : Below w5.heap.size w5 ((vyc88.setCell ⟨gkq, 0, none⟩ (.int .i64 0)).setCell ⟨gkq, 1, none⟩ (.slice Art (ks.length - k) (cr - k))) := by exact bel_of
      have kp_ : BK ((vyc88.setCell ⟨gkq, 0, none⟩ (.int .i64 0)).setCell ⟨gkq, 1, none⟩ (.slice Art (ks.length - k) (cr - k))) gkp _ _ := (BK.far (BK.far kp (p := ⟨gkq, 0, none⟩) (by first | assumption | exact Ne.symm (by assumption)) _) (p := ⟨gkq, 1, none⟩) (by first | assumption | exact Ne.symm (by assumption)) _); clear kp; have kp := kp_; clear kp_
      have kq_ := ((kq.set 0 (.int .i64 0)).set 1 (.slice Art (ks.length - k) (cr - k)))
      simp at kq_
      clear kq; have kq := kq_; clear kq_
      clear y0 f0 y1 f1
      refine hK _ _ (fun _ => eyc89) ?_
      clear hK K
      generalize ((vyc88.setCell ⟨gkq, 0, none⟩ (.int .i64 0)).setCell ⟨gkq, 1, none⟩ (.slice Art (ks.length - k) (cr - k))) = vyc90 at *
      refine any_done (by kernel_rfl) (NoPanic.normal ?_)
      exact ⟨rfl, by simp [setAll], rfl, _, _, rfl, rfl, kp, kq, eyc89⟩
     ·skip
      intro K hK
      have qyc92 := eyc78.size
      have eyc91 : Below w5.heap.size w5 (vyc79.alloc (.cells #[.int .i64 0, .slice none 0 0] 42)) := Below.alloc eyc78 eyc78.size _
      have hnx : Below vyc79.heap.size vyc79 (vyc79.alloc (.cells #[.int .i64 0, .slice none 0 0] 42)) := Below.alloc (Below.refl _ _) (Nat.le_refl _) _
      go_wp2_with fail
      have nekpkq : gkp ≠ vyc79.heap.size := Nat.ne_of_lt kp.lt
      replace kp := kp.below hnx kp.lt
      have kq : BK (vyc79.alloc (.cells #[.int .i64 0, .slice none 0 0] 42)) vyc79.heap.size #[.int .i64 0, .slice none 0 0] 42 := BK.new _ _ _
      refine hK _ _ (fun _ => eyc91) ?_
      clear hK K hnx
      generalize (vyc79.alloc (.cells #[.int .i64 0, .slice none 0 0] 42)) = vyc93 at *
      obtain ⟨gkq, hgkq⟩ : ∃ g, vyc79.heap.size = g := ⟨_, rfl⟩
      have hqkq : w5.heap.size ≤ gkq := by omega
      rw [hgkq] at kq nekpkq
      try rw [hgkq]
      clear hgkq
      refine any_run1 (i := 11) (by kernel_rfl) (by rfl) (by kernel_rfl) ?_
      intro K hK
      have qyc96 := eyc91.size
      go_wp2_with fail
      refine (recipe_any 0 _ _ _ _).mono ?_
      rintro e vyc95 ⟨rfl, hb⟩
      have eyc94 : Below w5.heap.size w5 vyc95 := eyc91.trans (hb.mono eyc91.size)
      replace kp := kp.below hb kp.lt
      replace kq := kq.below hb kq.lt
      clear hb
      refine hK _ _ (fun _ => eyc94) ?_
      clear hK K
      refine any_run1 (i := 14) (by kernel_rfl) (by rfl) (by kernel_rfl) ?_
      intro K hK
      have lkp := kp.lt
      have y0 := kp.cell 0
      have f0 := kp.frozen 0
      have y1 := kp.cell 1
      have f1 := kp.frozen 1
      simp at y0 y1
      go_wp2_with fail
      have eyc97 : Below w5.heap.size w5 ((vyc95.setCell ⟨gkp, 0, none⟩ (.int .i64 b)).setCell ⟨gkp, 1, none⟩ (.slice Ar k cr)) := by exact bel_of
      have kq_ : BK ((vyc95.setCell ⟨gkp, 0, none⟩ (.int .i64 b)).setCell ⟨gkp, 1, none⟩ (.slice Ar k cr)) gkq _ _ := (BK.far (BK.far kq (p := ⟨gkp, 0, none⟩) (by first | assumption | exact Ne.symm (by assumption)) _) (p := ⟨gkp, 1, none⟩) (by first | assumption | exact Ne.symm (by assumption)) _); clear kq; have kq := kq_; clear kq_
      have kp_ := ((kp.set 0 (.int .i64 b)).set 1 (.slice Ar k cr))
      simp at kp_
      clear kp; have kp := kp_; clear kp_
      clear y0 f0 y1 f1
      refine hK _ _ (fun _ => eyc97) ?_
      clear hK K
      generalize ((vyc95.setCell ⟨gkp, 0, none⟩ (.int .i64 b)).setCell ⟨gkp, 1, none⟩ (.slice Ar k cr)) = vyc98 at *
      refine any_run1 (i := 15) (by kernel_rfl) (by rfl) (by kernel_rfl) ?_
      intro K hK
      have lkq := kq.lt
      have y0 := kq.cell 0
      have f0 := kq.frozen 0
      have y1 := kq.cell 1
      have f1 := kq.frozen 1
      simp at y0 y1
      go_wp2_with fail
      have eyc99 : Below w5.heap.size w5 ((vyc98.setCell ⟨gkq, 0, none⟩ (.int .i64 0)).setCell ⟨gkq, 1, none⟩ (.slice Art (ks.length - k) (cr - k))) := by exact bel_of
      have kp_ : BK ((vyc98.setCell ⟨gkq, 0, none⟩ (.int .i64 0)).setCell ⟨gkq, 1, none⟩ (.slice Art (ks.length - k) (cr - k))) gkp _ _ := (BK.far (BK.far kp (p := ⟨gkq, 0, none⟩) (by first | assumption | exact Ne.symm (by assumption)) _) (p := ⟨gkq, 1, none⟩) (by first | assumption | exact Ne.symm (by assumption)) _); clear kp; have kp := kp_; clear kp_
      have kq_ := ((kq.set 0 (.int .i64 0)).set 1 (.slice Art (ks.length - k) (cr - k)))
      simp at kq_
      clear kq; have kq := kq_; clear kq_
      clear y0 f0 y1 f1
      refine hK _ _ (fun _ => eyc99) ?_
      clear hK K
      generalize ((vyc98.setCell ⟨gkq, 0, none⟩ (.int .i64 0)).setCell ⟨gkq, 1, none⟩ (.slice Art (ks.length - k) (cr - k))) = vyc100 at *
      refine any_done (by kernel_rfl) (NoPanic.normal ?_)
      exact ⟨rfl, by simp [setAll], rfl, _, _, rfl, rfl, kp, kq, eyc99⟩
    ·skip
     intro K hK
     have qyc102 := eyc75.size
     have eyc101 : Below w5.heap.size w5 (vyc77.alloc (.cells #[.int .i64 0, .slice none 0 0] 42)) := Below.alloc eyc75 eyc75.size _
     have hnx : Below vyc77.heap.size vyc77 (vyc77.alloc (.cells #[.int .i64 0, .slice none 0 0] 42)) := Below.alloc (Below.refl _ _) (Nat.le_refl _) _
     go_wp2_with fail
     have nekpkq : gkp ≠ vyc77.heap.size := Nat.ne_of_lt kp.lt
     replace kp := kp.below hnx kp.lt
     have kq : BK (vyc77.alloc (.cells #[.int .i64 0, .slice none 0 0] 42)) vyc77.heap.size #[.int .i64 0, .slice none 0 0] 42 := BK.new _ _ _
     refine hK _ _ (fun _ => eyc101) ?_
     clear hK K hnx
     generalize (vyc77.alloc (.cells #[.int .i64 0, .slice none 0 0] 42)) = vyc103 at *
     obtain ⟨gkq, hgkq⟩ : ∃ g, vyc77.heap.size = g := ⟨_, rfl⟩
     have hqkq : w5.heap.size ≤ gkq := by omega
     rw [hgkq] at kq nekpkq
     try rw [hgkq]
     clear hgkq
     refine any_run1 (i := 6) (by kernel_rfl) (by rfl) (by kernel_rfl) ?_
     intro K hK
     have qyc106 := eyc101.size
     go_wp2_with fail
     refine (recipe_any b _ _ _ _).mono ?_
     rintro e vyc105 ⟨rfl, hb⟩
     have eyc104 : Below w5.heap.size w5 vyc105 := eyc101.trans (hb.mono eyc101.size)
     replace kp := kp.below hb kp.lt
     replace kq := kq.below hb kq.lt
     clear hb
     refine hK _ _ (fun _ => eyc104) ?_
     clear hK K
     refine any_run1 (i := 11) (by kernel_rfl) (by rfl) (by kernel_rfl) ?_
     intro K hK
     have qyc109 := eyc104.size
     go_wp2_with fail
     refine (recipe_any 0 _ _ _ _).mono ?_
     rintro e vyc108 ⟨rfl, hb⟩
     have eyc107 : Below w5.heap.size w5 vyc108 := eyc104.trans (hb.mono eyc104.size)
     replace kp := kp.below hb kp.lt
     replace kq := kq.below hb kq.lt
     clear hb
     refine hK _ _ (fun _ => eyc107) ?_
     clear hK K
     refine any_run1 (i := 14) (by kernel_rfl) (by rfl) (by kernel_rfl) ?_
     intro K hK
     have lkp := kp.lt
     have y0 := kp.cell 0
     have f0 := kp.frozen 0
     have y1 := kp.cell 1
     have f1 := kp.frozen 1
     simp at y0 y1
     go_wp2_with fail
     have eyc110 : Below w5.heap.size w5 ((vyc108.setCell ⟨gkp, 0, none⟩ (.int .i64 b)).setCell ⟨gkp, 1, none⟩ (.slice Ar k cr)) := by exact bel_of
     have kq_ : BK ((vyc108.setCell ⟨gkp, 0, none⟩ (.int .i64 b)).setCell ⟨gkp, 1, none⟩ (.slice Ar k cr)) gkq _ _ := (BK.far (BK.far kq (p := ⟨gkp, 0, none⟩) (by first | assumption | exact Ne.symm (by assumption)) _) (p := ⟨gkp, 1, none⟩) (by first | assumption | exact Ne.symm (by assumption)) _); clear kq; have kq := kq_; clear kq_
     have kp_ := ((kp.set 0 (.int .i64 b)).set 1 (.slice Ar k cr))
     simp at kp_
     clear kp; have kp := kp_; clear kp_
     clear y0 f0 y1 f1
     refine hK _ _ (fun _ => eyc110) ?_
     clear hK K
     generalize ((vyc108.setCell ⟨gkp, 0, none⟩ (.int .i64 b)).setCell ⟨gkp, 1, none⟩ (.slice Ar k cr)) = vyc111 at *
     refine any_run1 (i := 15) (by kernel_rfl) (by rfl) (by kernel_rfl) ?_
     intro K hK
     have lkq := kq.lt
     have y0 := kq.cell 0
     have f0 := kq.frozen 0
     have y1 := kq.cell 1
     have f1 := kq.frozen 1
     simp at y0 y1
     go_wp2_with fail
     have eyc112 : Below w5.heap.size w5 ((vyc111.setCell ⟨gkq, 0, none⟩ (.int .i64 0)).setCell ⟨gkq, 1, none⟩ (.slice Art (ks.length - k) (cr - k))) := by exact bel_of
     have kp_ : BK ((vyc111.setCell ⟨gkq, 0, none⟩ (.int .i64 0)).setCell ⟨gkq, 1, none⟩ (.slice Art (ks.length - k) (cr - k))) gkp _ _ := (BK.far (BK.far kp (p := ⟨gkq, 0, none⟩) (by first | assumption | exact Ne.symm (by assumption)) _) (p := ⟨gkq, 1, none⟩) (by first | assumption | exact Ne.symm (by assumption)) _); clear kp; have kp := kp_; clear kp_
     have kq_ := ((kq.set 0 (.int .i64 0)).set 1 (.slice Art (ks.length - k) (cr - k)))
     simp at kq_
     clear kq; have kq := kq_; clear kq_
     clear y0 f0 y1 f1
     refine hK _ _ (fun _ => eyc112) ?_
     clear hK K
     generalize ((vyc111.setCell ⟨gkq, 0, none⟩ (.int .i64 0)).setCell ⟨gkq, 1, none⟩ (.slice Art (ks.length - k) (cr - k))) = vyc113 at *
     refine any_done (by kernel_rfl) (NoPanic.normal ?_)
     exact ⟨rfl, by simp [setAll], rfl, _, _, rfl, rfl, kp, kq, eyc112⟩
   ·skip
    intro K hK
    have qyc115 := dyc1.size
    have eyc114 : Below w5.heap.size w5 (uyc2.alloc (.cells #[.int .i64 0, .slice none 0 0] 42)) := Below.alloc dyc1 dyc1.size _
    have hnx : Below uyc2.heap.size uyc2 (uyc2.alloc (.cells #[.int .i64 0, .slice none 0 0] 42)) := Below.alloc (Below.refl _ _) (Nat.le_refl _) _
    go_wp2_with fail
    have kq : BK (uyc2.alloc (.cells #[.int .i64 0, .slice none 0 0] 42)) uyc2.heap.size #[.int .i64 0, .slice none 0 0] 42 := BK.new _ _ _
    refine hK _ _ (fun _ => eyc114) ?_
    clear hK K hnx
    generalize (uyc2.alloc (.cells #[.int .i64 0, .slice none 0 0] 42)) = vyc116 at *
    obtain ⟨gkq, hgkq⟩ : ∃ g, uyc2.heap.size = g := ⟨_, rfl⟩
    have hqkq : w5.heap.size ≤ gkq := by omega
    rw [hgkq] at kq
    try rw [hgkq]
    clear hgkq
    refine any_run2 (i := 6) (j := 12) (by kernel_rfl) (by rfl) (by rfl) (by rfl) (by rfl) ?_ ?_
    ·skip
     intro K hK
     have qyc119 := eyc114.size
     go_wp2_with fail
     refine (recipe_any b _ _ _ _).mono ?_
     rintro e vyc118 ⟨rfl, hb⟩
     have eyc117 : Below w5.heap.size w5 vyc118 := eyc114.trans (hb.mono eyc114.size)
     replace kq := kq.below hb kq.lt
     clear hb
     refine hK _ _ (fun _ => eyc117) ?_
     clear hK K
     refine any_run2 (i := 11) (j := 12) (by kernel_rfl) (by rfl) (by rfl) (by rfl) (by rfl) ?_ ?_
     ·skip
      intro K hK
      have qyc122 := eyc117.size
      go_wp2_with fail
      refine (recipe_any 0 _ _ _ _).mono ?_
      rintro e vyc121 ⟨rfl, hb⟩
      have eyc120 : Below w5.heap.size w5 vyc121 := eyc117.trans (hb.mono eyc117.size)
      replace kq := kq.below hb kq.lt
      clear hb
      refine hK _ _ (fun _ => eyc120) ?_
      clear hK K
      refine any_run1 (i := 12) (by kernel_rfl) (by rfl) (by kernel_rfl) ?_
      intro K hK
      have qyc124 := eyc120.size
      have eyc123 : Below w5.heap.size w5 (vyc121.alloc (.cells #[.int .i64 0, .slice none 0 0] 42)) := Below.alloc eyc120 eyc120.size _
      have hnx : Below vyc121.heap.size vyc121 (vyc121.alloc (.cells #[.int .i64 0, .slice none 0 0] 42)) := Below.alloc (Below.refl _ _) (Nat.le_refl _) _
      go_wp2_with fail
      have nekqkp : gkq ≠ vyc121.heap.size := Nat.ne_of_lt kq.lt
      replace kq := kq.below hnx kq.lt
      have kp : BK (vyc121.alloc (.cells #[.int .i64 0, .slice none 0 0] 42)) vyc121.heap.size #[.int .i64 0, .slice none 0 0] 42 := BK.new _ _ _
      refine hK _ _ (fun _ => eyc123) ?_
      clear hK K hnx
      generalize (vyc121.alloc (.cells #[.int .i64 0, .slice none 0 0] 42)) = vyc125 at *
      obtain ⟨gkp, hgkp⟩ : ∃ g, vyc121.heap.size = g := ⟨_, rfl⟩
      have hqkp : w5.heap.size ≤ gkp := by omega
      rw [hgkp] at kp nekqkp
      try rw [hgkp]
      clear hgkp
      refine any_run1 (i := 14) (by kernel_rfl) (by rfl) (by kernel_rfl) ?_
      intro K hK
      have lkp := kp.lt
      have y0 := kp.cell 0
      have f0 := kp.frozen 0
      have y1 := kp.cell 1
      have f1 := kp.frozen 1
      simp at y0 y1
      go_wp2_with fail
      have eyc126 : Below w5.heap.size w5 ((vyc125.setCell ⟨gkp, 0, none⟩ (.int .i64 b)).setCell ⟨gkp, 1, none⟩ (.slice Ar k cr)) := by exact bel_of
      have kq_ : BK ((vyc125.setCell ⟨gkp, 0, none⟩ (.int .i64 b)).setCell ⟨gkp, 1, none⟩ (.slice Ar k cr)) gkq _ _ := (BK.far (BK.far kq (p := ⟨gkp, 0, none⟩) (by first | assumption | exact Ne.symm (by assumption)) _) (p := ⟨gkp, 1, none⟩) (by first | assumption | exact Ne.symm (by assumption)) _); clear kq; have kq := kq_; clear kq_
      have kp_ := ((kp.set 0 (.int .i64 b)).set 1 (.slice Ar k cr))
      simp at kp_
      clear kp; have kp := kp_; clear kp_
      clear y0 f0 y1 f1
      refine hK _ _ (fun _ => eyc126) ?_
      clear hK K
      generalize ((vyc125.setCell ⟨gkp, 0, none⟩ (.int .i64 b)).setCell ⟨gkp, 1, none⟩ (.slice Ar k cr)) = vyc127 at *
      refine any_run1 (i := 15) (by kernel_rfl) (by rfl) (by kernel_rfl) ?_
      intro K hK
      have lkq := kq.lt
      have y0 := kq.cell 0
      have f0 := kq.frozen 0
      have y1 := kq.cell 1
      have f1 := kq.frozen 1
      simp at y0 y1
      go_wp2_with fail
      have eyc128 : Below w5.heap.size w5 ((vyc127.setCell ⟨gkq, 0, none⟩ (.int .i64 0)).setCell ⟨gkq, 1, none⟩ (.slice Art (ks.length - k) (cr - k))) := by exact bel_of
      have kp_ : BK ((vyc127.setCell ⟨gkq, 0, none⟩ (.int .i64 0)).setCell ⟨gkq, 1, none⟩ (.slice Art (ks.length - k) (cr - k))) gkp _ _ := (BK.far (BK.far kp (p := ⟨gkq, 0, none⟩) (by first | assumption | exact Ne.symm (by assumption)) _) (p := ⟨gkq, 1, none⟩) (by first | assumption | exact Ne.symm (by assumption)) _); clear kp; have kp := kp_; clear kp_
      have kq_ := ((kq.set 0 (.int .i64 0)).set 1 (.slice Art (ks.length - k) (cr - k)))
      simp at kq_
      clear kq; have kq := kq_; clear kq_
      clear y0 f0 y1 f1
      refine hK _ _ (fun _ => eyc128) ?_
      clear hK K
      generalize ((vyc127.setCell ⟨gkq, 0, none⟩ (.int .i64 0)).setCell ⟨gkq, 1, none⟩ (.slice Art (ks.length - k) (cr - k))) = vyc129 at *
      refine any_done (by kernel_rfl) (NoPanic.normal ?_)
      exact ⟨rfl, by simp [setAll], rfl, _, _, rfl, rfl, kp, kq, eyc128⟩
     ·skip
      intro K hK
      have qyc131 := eyc117.size
      have eyc130 : Below w5.heap.size w5 (vyc118.alloc (.cells #[.int .i64 0, .slice none 0 0] 42)) := Below.alloc eyc117 eyc117.size _
      have hnx : Below vyc118.heap.size vyc118 (vyc118.alloc (.cells #[.int .i64 0, .slice none 0 0] 42)) := Below.alloc (Below.refl _ _) (Nat.le_refl _) _
      go_wp2_with fail
      have nekqkp : gkq ≠ vyc118.heap.size := Nat.ne_of_lt kq.lt
      replace kq := kq.below hnx kq.lt
      have kp : BK (vyc118.alloc (.cells #[.int .i64 0, .slice none 0 0] 42)) vyc118.heap.size #[.int .i64 0, .slice none 0 0] 42 := BK.new _ _ _
      refine hK _ _ (fun _ => eyc130) ?_
      clear hK K hnx
      generalize (vyc118.alloc (.cells #[.int .i64 0, .slice none 0 0] 42)) = vyc132 at *
      obtain ⟨gkp, hgkp⟩ : ∃ g, vyc118.heap.size = g := ⟨_, rfl⟩
      have hqkp : w5.heap.size ≤ gkp := by omega
      rw [hgkp] at kp nekqkp
      try rw [hgkp]
      clear hgkp
      refine any_run1 (i := 11) (by kernel_rfl) (by rfl) (by kernel_rfl) ?_
      intro K hK
      have qyc135 := eyc130.size
      go_wp2_with fail
      refine (recipe_any 0 _ _ _ _).mono ?_
      rintro e vyc134 ⟨rfl, hb⟩
      have eyc133 : Below w5.heap.size w5 vyc134 := eyc130.trans (hb.mono eyc130.size)
      replace kq := kq.below hb kq.lt
      replace kp := kp.below hb kp.lt
      clear hb
      refine hK _ _ (fun _ => eyc133) ?_
      clear hK K
      refine any_run1 (i := 14) (by kernel_rfl) (by rfl) (by kernel_rfl) ?_
      intro K hK
      have lkp := kp.lt
      have y0 := kp.cell 0
      have f0 := kp.frozen 0
      have y1 := kp.cell 1
      have f1 := kp.frozen 1
      simp at y0 y1
      go_wp2_with fail
      have eyc136 : Below w5.heap.size w5 ((vyc134.setCell ⟨gkp, 0, none⟩ (.int .i64 b)).setCell ⟨gkp, 1, none⟩ (.slice Ar k cr)) := by exact bel_of
      have kq_ : BK ((vyc134.setCell ⟨gkp, 0, none⟩ (.int .i64 b)).setCell ⟨gkp, 1, none⟩ (.slice Ar k cr)) gkq _ _ := (BK.far (BK.far kq (p := ⟨gkp, 0, none⟩) (by first | assumption | exact Ne.symm (by assumption)) _) (p := ⟨gkp, 1, none⟩) (by first | assumption | exact Ne.symm (by assumption)) _); clear kq; have kq := kq_; clear kq_
      have kp_ := ((kp.set 0 (.int .i64 b)).set 1 (.slice Ar k cr))
      simp at kp_
      clear kp; have kp := kp_; clear kp_
      clear y0 f0 y1 f1
      refine hK _ _ (fun _ => eyc136) ?_
      clear hK K
      generalize ((vyc134.setCell ⟨gkp, 0, none⟩ (.int .i64 b)).setCell ⟨gkp, 1, none⟩ (.slice Ar k cr)) = vyc137 at *
      refine any_run1 (i := 15) (by kernel_rfl) (by rfl) (by kernel_rfl) ?_
      intro K hK
      have lkq := kq.lt
      have y0 := kq.cell 0
      have f0 := kq.frozen 0
      have y1 := kq.cell 1
      have f1 := kq.frozen 1
      simp at y0 y1
      go_wp2_with fail
      have eyc138 : Below w5.heap.size w5 ((vyc137.setCell ⟨gkq, 0, none⟩ (.int .i64 0)).setCell ⟨gkq, 1, none⟩ (.slice Art (ks.length - k) (cr - k))) := by exact bel_of
      have kp_ : BK ((vyc137.setCell ⟨gkq, 0, none⟩ (.int .i64 0)).setCell ⟨gkq, 1, none⟩ (.slice Art (ks.length - k) (cr - k))) gkp _ _ := (BK.far (BK.far kp (p := ⟨gkq, 0, none⟩) (by first | assumption | exact Ne.symm (by assumption)) _) (p := ⟨gkq, 1, none⟩) (by first | assumption | exact Ne.symm (by assumption)) _); clear kp; have kp := kp_; clear kp_
      have kq_ := ((kq.set 0 (.int .i64 0)).set 1 (.slice Art (ks.length - k) (cr - k)))
      simp at kq_
      clear kq; have kq := kq_; clear kq_
      clear y0 f0 y1 f1
      refine hK _ _ (fun _ => eyc138) ?_
      clear hK K
      generalize ((vyc137.setCell ⟨gkq, 0, none⟩ (.int .i64 0)).setCell ⟨gkq, 1, none⟩ (.slice Art (ks.length - k) (cr - k))) = vyc139 at *
      refine any_done (by kernel_rfl) (NoPanic.normal ?_)
      exact ⟨rfl, by simp [setAll], rfl, _, _, rfl, rfl, kp, kq, eyc138⟩
    ·skip
     intro K hK
     have qyc141 := eyc114.size
     have eyc140 : Below w5.heap.size w5 (vyc116.alloc (.cells #[.int .i64 0, .slice none 0 0] 42)) := Below.alloc eyc114 eyc114.size _
     have hnx : Below vyc116.heap.size vyc116 (vyc116.alloc (.cells #[.int .i64 0, .slice none 0 0] 42)) := Below.alloc (Below.refl _ _) (Nat.le_refl _) _
     go_wp2_with fail
     have nekqkp : gkq ≠ vyc116.heap.size := Nat.ne_of_lt kq.lt
     replace kq := kq.below hnx kq.lt
     have kp : BK (vyc116.alloc (.cells #[.int .i64 0, .slice none 0 0] 42)) vyc116.heap.size #[.int .i64 0, .slice none 0 0] 42 := BK.new _ _ _
     refine hK _ _ (fun _ => eyc140) ?_
     clear hK K hnx
     generalize (vyc116.alloc (.cells #[.int .i64 0, .slice none 0 0] 42)) = vyc142 at *
     obtain ⟨gkp, hgkp⟩ : ∃ g, vyc116.heap.size = g := ⟨_, rfl⟩
     have hqkp : w5.heap.size ≤ gkp := by omega
     rw [hgkp] at kp nekqkp
     try rw [hgkp]
     clear hgkp
     refine any_run1 (i := 6) (by kernel_rfl) (by rfl) (by kernel_rfl) ?_
     intro K hK
     have qyc145 := eyc140.size
     go_wp2_with fail
     refine (recipe_any b _ _ _ _).mono ?_
     rintro e vyc144 ⟨rfl, hb⟩
     have eyc143 : Below w5.heap.size w5 vyc144 := eyc140.trans (hb.mono eyc140.size)
     replace kq := kq.below hb kq.lt
     replace kp := kp.below hb kp.lt
     clear hb
     refine hK _ _ (fun _ => eyc143) ?_
     clear hK K
     refine any_run1 (i := 11) (by kernel_rfl) (by rfl) (by kernel_rfl) ?_
     intro K hK
     have qyc148 := eyc143.size
     go_wp2_with fail
     refine (recipe_any 0 _ _ _ _).mono ?_
     rintro e vyc147 ⟨rfl, hb⟩
     have eyc146 : Below w5.heap.size w5 vyc147 := eyc143.trans (hb.mono eyc143.size)
     replace kq := kq.below hb kq.lt
     replace kp := kp.below hb kp.lt
     clear hb
     refine hK _ _ (fun _ => eyc146) ?_
     clear hK K
     refine any_run1 (i := 14) (by kernel_rfl) (by rfl) (by kernel_rfl) ?_
     intro K hK
     have lkp := kp.lt
     have y0 := kp.cell 0
     have f0 := kp.frozen 0
     have y1 := kp.cell 1
     have f1 := kp.frozen 1
     simp at y0 y1
     go_wp2_with fail
     have eyc149 : Below w5.heap.size w5 ((vyc147.setCell ⟨gkp, 0, none⟩ (.int .i64 b)).setCell ⟨gkp, 1, none⟩ (.slice Ar k cr)) := by exact bel_of
     have kq_ : BK ((vyc147.setCell ⟨gkp, 0, none⟩ (.int .i64 b)).setCell ⟨gkp, 1, none⟩ (.slice Ar k cr)) gkq _ _ := (BK.far (BK.far kq (p := ⟨gkp, 0, none⟩) (by first | assumption | exact Ne.symm (by assumption)) _) (p := ⟨gkp, 1, none⟩) (by first | assumption | exact Ne.symm (by assumption)) _); clear kq; have kq := kq_; clear kq_
     have kp_ := ((kp.set 0 (.int .i64 b)).set 1 (.slice Ar k cr))
     simp at kp_
     clear kp; have kp := kp_; clear kp_
     clear y0 f0 y1 f1
     refine hK _ _ (fun _ => eyc149) ?_
     clear hK K
     generalize ((vyc147.setCell ⟨gkp, 0, none⟩ (.int .i64 b)).setCell ⟨gkp, 1, none⟩ (.slice Ar k cr)) = vyc150 at *
     refine any_run1 (i := 15) (by kernel_rfl) (by rfl) (by kernel_rfl) ?_
     intro K hK
     have lkq := kq.lt
     have y0 := kq.cell 0
     have f0 := kq.frozen 0
     have y1 := kq.cell 1
     have f1 := kq.frozen 1
     simp at y0 y1
     go_wp2_with fail
     have eyc151 : Below w5.heap.size w5 ((vyc150.setCell ⟨gkq, 0, none⟩ (.int .i64 0)).setCell ⟨gkq, 1, none⟩ (.slice Art (ks.length - k) (cr - k))) := by exact bel_of
     have kp_ : BK ((vyc150.setCell ⟨gkq, 0, none⟩ (.int .i64 0)).setCell ⟨gkq, 1, none⟩ (.slice Art (ks.length - k) (cr - k))) gkp _ _ := (BK.far (BK.far kp (p := ⟨gkq, 0, none⟩) (by first | assumption | exact Ne.symm (by assumption)) _) (p := ⟨gkq, 1, none⟩) (by first | assumption | exact Ne.symm (by assumption)) _); clear kp; have kp := kp_; clear kp_
     have kq_ := ((kq.set 0 (.int .i64 0)).set 1 (.slice Art (ks.length - k) (cr - k)))
     simp at kq_
     clear kq; have kq := kq_; clear kq_
     clear y0 f0 y1 f1
     refine hK _ _ (fun _ => eyc151) ?_
     clear hK K
     generalize ((vyc150.setCell ⟨gkq, 0, none⟩ (.int .i64 0)).setCell ⟨gkq, 1, none⟩ (.slice Art (ks.length - k) (cr - k))) = vyc152 at *
     refine any_done (by kernel_rfl) (NoPanic.normal ?_)
     exact ⟨rfl, by simp [setAll], rfl, _, _, rfl, rfl, kp, kq, eyc151⟩
  rintro u V2 ⟨gp, gq, hu16, hu17, pp, qq, hbz⟩
  simp only [setAll, List.foldl, List.setIfInBounds_toArray, List.set_cons_succ, List.set_cons_zero, hu16, hu17]
  clear hu16 hu17
  clear lwx wxc0 wxc1
  replace hC : Below n0 w V2 := hC.trans (hbz.mono (by have := hC.size; omega))
  replace hB := (RS.below hB hbz).more hbz.size
  replace hS := (RP.below hS hbz).more hbz.size
  replace bx := bx.below hbz bx.lt
  replace hR := (RS.below hR hbz).more hbz.size
  replace wx := wx.below hbz wx.lt
  replace hH := (RS.below hH hbz).more hbz.size
  replace hL := (RS.below hL hbz).more hbz.size
  replace xx := xx.below hbz xx.lt
  replace yy := yy.below hbz yy.lt
  replace bb := bb.below hbz bb.lt
  replace hBy := (RS.below hBy hbz).more hbz.size
  replace hSy := (RP.below hSy hbz).more hbz.size
  replace hSx := (RP.below hSx hbz).more hbz.size
  clear hbz
  have hRp := RI.take (k := k) hR hkk
  have hRq := RI.drop (k := k) hR hkk
  rw [hArt] at hRq
  have hkr2 := HKS.out
  have HK2 := Lib.hid (show (ks.take k).length ≤ 1000 by rw [List.length_take]; omega)
  have HK3 := Lib.hid (show (ks.drop k).length ≤ 1000 by rw [List.length_drop]; omega)
  have p1 := part_rng1 (k := k) HOR.out
  have p2 := part_rng2 HOR.out hkl
  have p3 := part_hist1 HHE.out hkl
  have p4 := part_hist2 HHE.out hkl
  rw [HLE.out] at p1 p2 p4
  rw [HRK.out] at p2 p4
  have HP1 := Lib.hid p1
  have HP2 := Lib.hid p2
  have HP3 := Lib.hid p3
  have HP4 := Lib.hid p4
  have HE1 := Lib.hid (recE_of (okRec_take HOR.out k))
  have HE2 := Lib.hid (recE_of (okRec_drop HOR.out k HOK.out))
  clear p1 p2 p3 p4 hArt hkr hkk' hcr hkr2 hS hR bx wx bb
  have lxx := xx.lt
  have xxc0 := xx.cell 0
  have xxc1 := xx.cell 1
  simp at xxc0 xxc1
  have lyy := yy.lt
  have yyc0 := yy.cell 0
  have yyc1 := yy.cell 1
  simp at yyc0 yyc1
  have lpp := pp.lt
  have ppc0 := pp.cell 0
  have ppc1 := pp.cell 1
  simp at ppc0 ppc1
  have lqq := qq.lt
  have qqc0 := qq.cell 0
  have qqc1 := qq.cell 1
  simp at qqc0 qqc1
  go_wp2_with fail
  clear lxx xxc0 xxc1
  clear lyy yyc0 yyc1
  clear lpp ppc0 ppc1
  clear lqq qqc0 qqc1
  refine (ranges_any bars (ss.take k) b (ks.take k) _ _ _ _ HFx.out HK2.out hB hSx hRp).mono ?_
  rintro e w6 ⟨va, rfl, ha, hb⟩
  replace hC : Below n0 w w6 := hC.trans (hb.mono (by have := hC.size; omega))
  replace hB := (RS.below hB hb).more hb.size
  replace hH := (RS.below hH hb).more hb.size
  replace hL := (RS.below hL hb).more hb.size
  replace xx := xx.below hb xx.lt
  replace yy := yy.below hb yy.lt
  replace hBy := (RS.below hBy hb).more hb.size
  replace hSy := (RP.below hSy hb).more hb.size
  replace hSx := (RP.below hSx hb).more hb.size
  replace pp := pp.below hb pp.lt
  replace qq := qq.below hb qq.lt
  replace hRp := (RS.below hRp hb).more hb.size
  replace hRq := (RS.below hRq hb).more hb.size
  clear hb
  rw [HE1.out]
  rw [HP1.out] at ha
  obtain ⟨Aa, ca, rfl⟩ := rr_slice ha
  have hlt1 : (L.take (k + 1)).length = k + 1 := by rw [List.length_take, HLL.out]; omega
  rw [hlt1] at ha ⊢
  clear hlt1
  have lxx := xx.lt
  have xxc0 := xx.cell 0
  have xxc1 := xx.cell 1
  simp at xxc0 xxc1
  have lyy := yy.lt
  have yyc0 := yy.cell 0
  have yyc1 := yy.cell 1
  simp at yyc0 yyc1
  have lpp := pp.lt
  have ppc0 := pp.cell 0
  have ppc1 := pp.cell 1
  simp at ppc0 ppc1
  have lqq := qq.lt
  have qqc0 := qq.cell 0
  have qqc1 := qq.cell 1
  simp at qqc0 qqc1
  go_wp2_with fail
  clear lxx xxc0 xxc1
  clear lyy yyc0 yyc1
  clear lpp ppc0 ppc1
  clear lqq qqc0 qqc1
  refine (ranges_any [⟨ra, rb⟩] (ss.drop k) 0 (ks.drop k) _ _ _ _ HFy.out HK3.out hBy hSy hRq).mono ?_
  rintro e w7 ⟨vz, rfl, hz, hb⟩
  replace hC : Below n0 w w7 := hC.trans (hb.mono (by have := hC.size; omega))
  replace hB := (RS.below hB hb).more hb.size
  replace hH := (RS.below hH hb).more hb.size
  replace hL := (RS.below hL hb).more hb.size
  replace xx := xx.below hb xx.lt
  replace yy := yy.below hb yy.lt
  replace hBy := (RS.below hBy hb).more hb.size
  replace hSy := (RP.below hSy hb).more hb.size
  replace hSx := (RP.below hSx hb).more hb.size
  replace pp := pp.below hb pp.lt
  replace qq := qq.below hb qq.lt
  replace hRp := (RS.below hRp hb).more hb.size
  replace hRq := (RS.below hRq hb).more hb.size
  replace ha := (RS.below ha hb).more hb.size
  clear hb
  rw [HE2.out]
  rw [HP2.out] at hz
  obtain ⟨Az, cz, rfl⟩ := rr_slice hz
  rw [List.length_drop] at hz ⊢
  have hkL : k < L.length := by have := HLL.out; omega
  have hcl : L.length ≤ cl := (RS.cap hL).2
  have hch : hs.length ≤ ch := (RS.cap hH).2
  have hlh : hs.length = L.length := by rw [HHL.out, HLL.out]
  have hL1 := RR.take (k := k + 1) hL hkL
  have hL2 := RR.drop (k := k) hL (by omega)
  have hH1 := RI.take (k := k + 1) hH (by omega)
  have hH2 := RI.drop (k := k) hH (by omega)
  obtain ⟨Alt, hAlt⟩ : ∃ A : Option Addr, (if cl = k then some ⟨b_l, o_l, none⟩ else some ((⟨b_l, o_l, none⟩ : Addr).add (k * 2))) = A := ⟨_, rfl⟩
  obtain ⟨Aht, hAht⟩ : ∃ A, (if ch = k then Ah else Option.map (fun x => x.add k) Ah) = A := ⟨_, rfl⟩
  rw [Option.map_some, hAlt] at hL2
  rw [hAht] at hH2
  have hAlt2 : (if cl = k then some ⟨b_l, o_l, none⟩ else some (⟨b_l, o_l + k * 2, none⟩ : Addr)) = Alt := by rw [← hAlt, addr_add']
  have b1 : (k : Int) + 1 ≤ (cl : Int) := by omega
  have b2 : (k : Int) + 1 ≤ (ch : Int) := by omega
  have b3 : (k : Int) ≤ (L.length : Int) := by omega
  have b4 : (k : Int) ≤ (hs.length : Int) := by omega
  have b5 : (k : Int) ≤ (cl : Int) := by omega
  have b6 : (k : Int) ≤ (ch : Int) := by omega
  have wk : IntKind.i64.wrap ((k : Int) + 1) = (k : Int) + 1 := by rw [IntKind.wrap_i64]; omega
  have wk2 : ((k : Int) + 1).toNat = k + 1 := by omega
  have HT1 := Lib.hid (show (L.take (k + 1)).length ≤ 1000 by rw [List.length_take]; omega)
  have HT2 := Lib.hid (show (L.drop k).length ≤ 1000 by rw [List.length_drop]; omega)
  have HT3 := Lib.hid (show (hs.take (k + 1)).length ≤ 1000 by rw [List.length_take]; omega)
  have HT4 := Lib.hid (show (hs.drop k).length ≤ 1000 by rw [List.length_drop]; omega)
  clear hlh hcl hch hkL
  go_upto_region 16 with fail
  try simp only [List.append_eq, List.cons_append, List.nil_append]
  have lxx := xx.lt
  have xxc0 := xx.cell 0
  have xxc1 := xx.cell 1
  simp at xxc0 xxc1
  have lyy := yy.lt
  have yyc0 := yy.cell 0
  have yyc1 := yy.cell 1
  simp at yyc0 yyc1
  have lpp := pp.lt
  have ppc0 := pp.cell 0
  have ppc1 := pp.cell 1
  simp at ppc0 ppc1
  have lqq := qq.lt
  have qqc0 := qq.cell 0
  have qqc1 := qq.cell 1
  simp at qqc0 qqc1
  refine wp_region_noPanic (plain_any [0, 1, 2, 3, 4, 5, 6, 7, 8, 9, 10, 11, 13, 14, 15, 16, 17, 18, 20, 21, 22, 23, 24, 25, 26, 27, 29, 30, 31, 32, 33, 34, 35, 36, 38, 39, 40, 42] (Below w7.heap.size w7) mixed ?_)
  refine any_tk 0 ?_
  have d0z : Below w7.heap.size w7 w7.drew := by exact bel_of
  refine any_tk 1 ?_
  refine any_tk 2 ?_
  refine any_tk 3 ?_
  refine any_tk 4 ?_
  refine any_tk 5 ?_
  refine any_tk 6 ?_
  refine any_tk 7 ?_
  refine any_tk 8 ?_
  refine any_tk 9 ?_
  refine any_tk 10 ?_
  refine any_tk 11 ?_
  have qz1 := d0z.size
  refine any_run1 (i := 12) (by kernel_rfl) (by rfl) (by kernel_rfl) ?_
  intro K hK
  go_wp2_with fail
  refine (rangesL_any (L.take (k + 1)) (L.take (k + 1)) _ _ _ HT1.out HT1.out ((RS.below ha d0z).more d0z.size) ((RS.below hL1 d0z).more d0z.size)).mono ?_
  rintro e vz1 ⟨rfl, hb⟩
  rw [decide_eq_true rfl]
  have ez1 : Below w7.heap.size w7 vz1 := d0z.trans (hb.mono d0z.size)
  clear hb
  refine hK _ _ (fun _ => ez1) ?_
  clear hK K
  refine any_tk 13 ?_
  refine any_tk 14 ?_
  refine any_tk 15 ?_
  refine any_tk 16 ?_
  refine any_tk 17 ?_
  refine any_tk 18 ?_
  have qz2 := ez1.size
  refine any_run1 (i := 19) (by kernel_rfl) (by rfl) (by kernel_rfl) ?_
  intro K hK
  go_wp2_with fail
  refine (rangesL_any (L.drop k) (L.drop k) _ _ _ HT2.out HT2.out ((RS.below hz ez1).more ez1.size) ((RS.below hL2 ez1).more ez1.size)).mono ?_
  rintro e vz2 ⟨rfl, hb⟩
  rw [decide_eq_true rfl]
  have ez2 : Below w7.heap.size w7 vz2 := ez1.trans (hb.mono ez1.size)
  clear hb
  refine hK _ _ (fun _ => ez2) ?_
  clear hK K
  refine any_tk 20 ?_
  refine any_tk 21 ?_
  refine any_tk 22 ?_
  refine any_tk 23 ?_
  refine any_tk 24 ?_
  refine any_tk 25 ?_
  refine any_tk 26 ?_
  refine any_tk 27 ?_
  have qz3 := ez2.size
  refine any_run1 (i := 28) (by kernel_rfl) (by rfl) (by kernel_rfl) ?_
  intro K hK
  go_wp2_with fail
  refine (history_any bars (ss.take k) b (ks.take k) (hs.take (k + 1)) _ _ _ _ _ HFx.out HK2.out ((RS.below hB ez2).more ez2.size) ((RP.below hSx ez2).more ez2.size) ((RS.below hRp ez2).more ez2.size) ((RS.below hH1 ez2).more ez2.size) HT3.out).mono ?_
  rintro e vz3 ⟨rfl, hb⟩
  rw [HP3.out]
  have ez3 : Below w7.heap.size w7 vz3 := ez2.trans (hb.mono ez2.size)
  clear hb
  refine hK _ _ (fun _ => ez3) ?_
  clear hK K
  refine any_tk 29 ?_
  refine any_tk 30 ?_
  refine any_tk 31 ?_
  refine any_tk 32 ?_
  refine any_tk 33 ?_
  refine any_tk 34 ?_
  refine any_tk 35 ?_
  refine any_tk 36 ?_
  have qz4 := ez3.size
  refine any_run1 (i := 37) (by kernel_rfl) (by rfl) (by kernel_rfl) ?_
  intro K hK
  go_wp2_with fail
  refine (history_any [⟨ra, rb⟩] (ss.drop k) 0 (ks.drop k) (hs.drop k) _ _ _ _ _ HFy.out HK3.out ((RS.below hBy ez3).more ez3.size) ((RP.below hSy ez3).more ez3.size) ((RS.below hRq ez3).more ez3.size) ((RS.below hH2 ez3).more ez3.size) HT4.out).mono ?_
  rintro e vz4 ⟨rfl, hb⟩
  rw [HP4.out]
  have ez4 : Below w7.heap.size w7 vz4 := ez3.trans (hb.mono ez3.size)
  clear hb
  refine hK _ _ (fun _ => ez4) ?_
  clear hK K
  refine any_tk 38 ?_
  refine any_tk 39 ?_
  refine any_tk 40 ?_
  have qz5 := ez4.size
  refine any_run1 (i := 41) (by kernel_rfl) (by rfl) (by kernel_rfl) ?_
  intro K hK
  go_wp2_with fail
  refine (works_any _).mono ?_
  rintro e vz5 ⟨rfl, hb⟩
  have ez5 : Below w7.heap.size w7 vz5 := ez4.trans (hb.mono ez4.size)
  clear hb
  refine hK _ _ (fun _ => ez5) ?_
  clear hK K
  refine any_tk 42 ?_
  refine any_run1 (i := 43) (by kernel_rfl) (by rfl) (by kernel_rfl) ?_
  intro K hK
  go_wp2_with fail
  refine hK _ _ (fun _ => ez5) ?_
  clear hK K
  refine any_done (by kernel_rfl) (NoPanic.normal ?_)
  have hb := ez5
  replace hC : Below n0 w vz5 := hC.trans (hb.mono (by have := hC.size; omega))
  replace hB := (RS.below hB hb).more hb.size
  replace hH := (RS.below hH hb).more hb.size
  replace hL := (RS.below hL hb).more hb.size
  replace xx := xx.below hb xx.lt
  replace yy := yy.below hb yy.lt
  replace hBy := (RS.below hBy hb).more hb.size
  replace hSy := (RP.below hSy hb).more hb.size
  replace hSx := (RP.below hSx hb).more hb.size
  replace pp := pp.below hb pp.lt
  replace qq := qq.below hb qq.lt
  replace hRp := (RS.below hRp hb).more hb.size
  replace hRq := (RS.below hRq hb).more hb.size
  replace ha := (RS.below ha hb).more hb.size
  replace hz := (RS.below hz hb).more hb.size
  replace hL1 := (RS.below hL1 hb).more hb.size
  replace hL2 := (RS.below hL2 hb).more hb.size
  replace hH1 := (RS.below hH1 hb).more hb.size
  replace hH2 := (RS.below hH2 hb).more hb.size
  clear hb
  go_wp2_with fail
  exact bodyPost_ret (v := .bool true) (by simp [results, Try.results12, go_sem]) rfl ⟨rfl, by first | exact hC | (rw [hn0]; exact hC) | (with_reducible rw [hn0]; exact bel_of) | exact bel_of⟩
end Go.Proofs.Ytkibdciomheekaa

namespace Go.Proofs.Ytkibdciomheekaa.heatParted
open Go.ChangeShapes Go.WideShapes Go.ChangeAt Go.RowKit Go.Deep

set_option maxRecDepth 100000 in
theorem lifted (os : Os) (started : os.Started) (H : Type) (enc : TypeId × Value → H) :
    ReturnsInHanded {} Try.checked os 12 .any (Rows.heatPartedSpec.pre6 enc Try.prog Try.f12 Rows.heatPartedRow.domain false) (Rows.heatPartedSpec.post enc Try.prog Try.f12 false true false false) := by
  refine returnsInHanded_of_change (C := Try.checked) own started (by kernel_rfl) Try.func12
    (ChangeSpec.witness6 (enc := enc) (C := Try.checked) false ⟨#[], #[.agg #[.slice none 0 0, .slice none 0 0], .slice none 0 0, .slice none 0 0, .int .u8 0], []⟩ 8 (by kernel_rfl) (by kernel_rfl) (by kernel_rfl) (by kernel_rfl)) ?_
  intro W base args ds gs before hval0 hW hcnd _
  have hval : ∀ (j : Nat) t v, Try.f12.params[j]? = some t → args[j]? = some v → Value.okWide Try.prog W .any base t v := hval0
  have hW2 : DataW.Whole enc Try.prog Try.f12.params.toList Rows.heatPartedSpec.vars false W args.toList ds gs before := hW
  obtain ⟨p, q, hA0, hV, rfl, hfz, hnd⟩ := hW
  have hA : DataW.TrodAll enc Try.prog W 0 (fun _ => true) true Try.f12.params.toList args.toList ds p := hA0
  rw [Try.params12] at hA hval
  obtain ⟨v0, vs0, d0, ds0, p0, q0, hargs, rfl, rfl, h0, r0⟩ := trodAll_cons hA
  obtain ⟨v1, vs1, d1, ds1, p1, q1, rfl, rfl, rfl, h1, r1⟩ := trodAll_cons r0
  obtain ⟨v2, vs2, d2, ds2, p2, q2, rfl, rfl, rfl, h2, r2⟩ := trodAll_cons r1
  obtain ⟨v3, vs3, d3, ds3, p3, q3, rfl, rfl, rfl, h3, r3⟩ := trodAll_cons r2
  obtain ⟨rfl, rfl, rfl⟩ := trodAll_nil r3
  obtain rfl : args = #[v0, v1, v2, v3] := by cases args; simp_all
  obtain ⟨rfl, rfl⟩ := trodVars_none hV
  obtain ⟨vb0, vs0_, bars0, ss0, rfl, hB0, hS0⟩ := open_works (hval 0 25 v0 rfl rfl) h0
  obtain ⟨l1, g1, k1⟩ := open_u8s (hval 1 66 v1 rfl rfl) h1
  obtain ⟨l2, g2, k2⟩ := open_u32s (hval 2 67 v2 rfl rfl) h2
  obtain ⟨x3, rfl, g3⟩ := open_u8 (hval 3 5 v3 rfl rfl) h3
  refine (heatParted_any (bars := bars0) (ss := ss0) (vb := vb0) (vs := vs0_) (hB := hB0) (hS := hS0) (us := l1) (vu := v1) (hU := g1) (hu := k1) (ys := l2) (vy := v2) (hY := g2) (hy := k2) (x1 := x3) (h1 := g3) (w := W)).mono fun e W' ⟨he, hg⟩ => ?_
  subst he
  exact ⟨_, rfl, law_done hW2 rfl rfl rfl (by rw [Try.params12]; decide +kernel) hg⟩

theorem over : Rows.heatPartedRow.holds Try.pinned (OpenSpec.ofChange Rows.heatPartedSpec) :=
  OpenClaim.holds_of_wide 12 Try.f12 rfl rfl rfl rfl rfl rfl rfl ⟨rfl, rfl, rfl, rfl, rfl⟩ rfl rfl rfl rfl rfl (by kernel_rfl) Try.func12 (by kernel_rfl)
    (of_decide_eq_true (by kernel_rfl)) (by unfold Func.isWrapper; first | (rw [if_pos (by decide +kernel)]; kernel_rfl) | (rw [if_neg (by decide +kernel)]; exact ⟨rfl, rfl⟩))
    (fun os started H enc _ => lifted os started H enc)

theorem proved : Rows.HeatPartedSaid :=
  over
end Go.Proofs.Ytkibdciomheekaa.heatParted
namespace Go.Proofs.Ytkibdciomheekaa
theorem heatParted_proved : Rows.HeatPartedSaid := heatParted.proved
#print axioms heatParted_proved
end Go.Proofs.Ytkibdciomheekaa
