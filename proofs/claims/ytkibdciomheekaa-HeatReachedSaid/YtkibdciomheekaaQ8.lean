/- A read of a drawn region, taken. A recipe by numbers. A history by numbers. What the laws say of ranges, histories and what was had. A works that the laws build upon. What follows a region whose operations come in several orders, once. HeatReached: the walk. All hardnesses of a history are in the ranges of its recipe; each end of the last range, and a hardness between, is had by some history, which is returned if it was measured; for every works, numbers and hardness. -/
import Derived.Test.YtkibdciomheekaaP4
import Derived.Test.YtkibdciomheekaaP30
import Derived.Test.YtkibdciomheekaaP3
import Derived.Test.YtkibdciomheekaaP7
import Derived.Test.YtkibdciomheekaaP11
import Derived.Deep.QuietTactic
import Derived.BigQuiet
import Derived.Test.YtkibdciomheekaaP27
import Derived.Test.YtkibdciomheekaaP29
import Derived.Test.YtkibdciomheekaaRows
set_option linter.all false
set_option linter.unnecessarySimpa false
set_option linter.unusedSimpArgs false
set_option linter.unusedVariables false
set_option linter.unusedSectionVars false

set_option linter.all false
namespace Go.Proofs.Ytkibdciomheekaa
open Go.RowKit
section
variable {P : Program} {ops : Array Oper} {Q : Exit → Act → World → Prop} {md : Region.Mode} {E : List Nat}

/-- A read is taken; its value by the walk, and the frame in its literal form. -/
theorem any_tk {W0 : World} (i : Nat) {v : Value} {oi : Oper} {fuel : Nat} {listed : Array Bool} {a a' : Act} {w : World}
    (h : wpAnyF P md ops Q (Below W0.heap.size W0) E fuel (listed.setIfInBounds i true) a' w)
    (hi : ops[i]? = some oi := by rfl)
    (hB : takeB md ops E listed i = true := by kernel_rfl)
    (hQ : ∀ c (a : Act) d (v : Value) w, Q (.panic c) (a.put d v) w → Q (.panic c) a w := by exact fun _ _ _ _ _ hx => hx.elim)
    (hw : Region.wanted oi (yielded ops a.tmps) = true := by rfl)
    (hS : Below W0.heap.size W0 w := by exact bel_of)
    (hy : ∀ X, Below W0.heap.size W0 X → (execOp a.eval oi).run P X = .ok (.value v) X := by (intro X hX; obtain ⟨r1, r2⟩ := Below.rules hX; clear hX; go_simp; rfl))
    (ha : a.put oi.dst v = a' := by (simp only [List.getElem_toArray, List.getElem_cons_succ, List.getElem_cons_zero, Act.put, List.setIfInBounds_toArray, List.set_cons_succ, List.set_cons_zero]; rfl)) :
    wpAnyF P md ops Q (Below W0.heap.size W0) E (fuel + 1) listed a w := any_take i v hi hB hQ (.inl ⟨hw, hy⟩) hS (ha ▸ h)
end
end Go.Proofs.Ytkibdciomheekaa

set_option linter.all false
namespace Go.Proofs.Ytkibdciomheekaa
open Go.RowKit Hp

/-- The number that is meant for a place. -/
def numAt (us : List Nat) (i : Nat) : Nat := if us.length = 0 then 0 else us.getD (i % us.length) 0
def oneB (bars : List Rg) (us : List Nat) : Nat := numAt us 0 % bars.length
def oneW (ss : List Stp) (us : List Nat) (n : Nat) : List Int := (List.range n).map fun (i : Nat) => ((numAt us (i + 1) % (nthS ss i).length : Nat) : Int)
theorem oneW_zero (ss : List Stp) (us : List Nat) : oneW ss us 0 = [] := rfl
theorem oneW_succ (ss : List Stp) (us : List Nat) (n : Nat) : oneW ss us (n + 1) = oneW ss us n ++ [((numAt us (n + 1) % (nthS ss n).length : Nat) : Int)] := by simp [oneW, List.range_succ]
theorem oneW_len (ss : List Stp) (us : List Nat) (n : Nat) : (oneW ss us n).length = n := by simp [oneW]
theorem numAt_le {us : List Nat} {B : Nat} (h : ∀ x ∈ us, x ≤ B) (i : Nat) : numAt us i ≤ B := by
  unfold numAt
  split
  · exact Nat.zero_le _
  · rename_i q
    have hi : i % us.length < us.length := Nat.mod_lt _ (by omega)
    rw [List.getD_eq_getElem?_getD, List.getElem?_eq_getElem hi]
    exact h _ (List.getElem_mem hi)
def oneBk (bars : List Rg) (us : List Nat) (k : Nat) : Nat := if k = 0 then 0 else oneB bars us
theorem own_ri_set {W : World} {T g : Nat} {A : Option Addr} {n c base : Nat} {l : List Int} {cs : Array Value} {t : TypeId} (h : OwnI T W base (.slice A n c) l) (hg : BK W g cs t) (ht : t ≠ T) (o : Nat) (u : Value) :
    OwnI T (W.setCell ⟨g, o, none⟩ u) base (.slice A n c) l := by
  have hne : (Value.slice A n c).ownBlock ≠ some g := fun hq => by
    obtain ⟨c', hc⟩ := own_block h hq
    unfold BK at hg
    rw [hg] at hc; injection hc with hc; injection hc with _ hc; exact ht hc
  exact own_far h (p := ⟨g, o, none⟩) hne u
theorem own_ri_sets {W : World} {T g : Nat} {A : Option Addr} {n c base : Nat} {l : List Int} {cs : Array Value} {t : TypeId} (h : OwnI T W base (.slice A n c) l) (hg : BK W g cs t) (ht : t ≠ T) (u v : Value) :
    OwnI T ((W.setCell ⟨g, 0, none⟩ u).setCell ⟨g, 1, none⟩ v) base (.slice A n c) l := by
  have hne : (Value.slice A n c).ownBlock ≠ some g := fun hq => by
    obtain ⟨c', hc⟩ := own_block h hq
    unfold BK at hg
    rw [hg] at hc; injection hc with hc; injection hc with _ hc; exact ht hc
  exact own_far (own_far h (p := ⟨g, 0, none⟩) hne u) (p := ⟨g, 1, none⟩) hne v
theorem one_rec {bars : List Rg} {ss : List Stp} (h : OkV bars ss) (us : List Nat) : OkRec bars ss (oneB bars us : Nat) (oneW ss us ss.length) := by
  refine ⟨h, by omega, ?_, ?_, ?_⟩
  · show ((oneB bars us : Nat) : Int).toNat < bars.length
    rw [Int.toNat_natCast]
    exact Nat.mod_lt _ h.bpos
  · refine mem_allR_iff.2 ⟨by simp [nats, oneW_len], fun i hi => ?_⟩
    have : (nats (oneW ss us ss.length)).getD i 0 = numAt us (i + 1) % (nthS ss i).length := by
      simp [nats, oneW, hi]
      rw [← Int.natCast_emod, Int.toNat_natCast]
    rw [this]
    exact Nat.mod_lt _ (h.wpos _ (nthS_mem hi)).1
  · intro k hk
    obtain ⟨i, _, rfl⟩ := List.mem_map.1 hk
    omega
theorem RU.cells {k : IntKind} {w : World} {B : Nat} {v : Value} {l : List Nat} (h : RU k w B v l) : ∃ A cap b off, v = .slice A l.length cap ∧ (l.length ≠ 0 → A = some ⟨b, off, none⟩ ∧ b < B) ∧ ∀ j, j < l.length → w.cell? ⟨b, off + j, none⟩ = some (.int k (l.getD j 0 : Nat)) := by
  obtain ⟨A, cap, b, off, hv, hl, hA, hc⟩ := h
  refine ⟨A, cap, b, off, hv, hA, fun j hj => ?_⟩
  rw [hc j (by simpa using hj)]
  simp [hj]
def OnePost (bars : List Rg) (ss : List Stp) (us : List Nat) (w : World) (e : Ending) (w' : World) : Prop :=
  ∃ vk, e = .returned (.agg #[.int .i64 (oneB bars us : Nat), vk]) ∧ RI w' w'.heap.size vk (oneW ss us ss.length) ∧ Below w.heap.size w w'

set_option maxHeartbeats 8000000 in
set_option maxRecDepth 100000 in
theorem one_any (bars : List Rg) (ss : List Stp) (us : List Nat) (vb vs vu : Value) (w : World) (hV : OkV bars ss) (hu : ∀ x ∈ us, x ≤ 255) (hlu : us.length ≤ 20) (hB : RR w w.heap.size vb bars) (hS : RP w w.heap.size vs ss) (hU : RU .u8 w w.heap.size vu us) :
    Calls Try.prog 44 #[.agg #[vb, vs], vu] w (OnePost bars ss us w) := by
  have HV := Lib.hid hV
  have HU := Lib.hid hu
  have hs6 := hV.sfew
  have hbp := hV.bpos
  have hb6 := hV.bfew
  clear hV hu
  obtain ⟨Ab, cb, rfl⟩ := hB.slice
  obtain ⟨As, cs, rfl⟩ := hS.slice
  obtain ⟨Au, cu, rfl⟩ := ru_slice hU
  obtain ⟨n0, hn0⟩ : ∃ n, w.heap.size = n := ⟨_, rfl⟩
  have hC : Below n0 w w := Below.refl _ _
  go_enter Try.func44, Try.ntmps44
  have HB0 := Lib.hid hB
  have HS0 := Lib.hid hS
  have HU0 := Lib.hid hU
  go_upto_region 1 with fail
  have hqbx : n0 ≤ n0 := by have := hC.size; omega
  have bx : BK (w.alloc (.cells #[.slice Ab bars.length cb, .slice As ss.length cs] 25)) (n0) #[.slice Ab bars.length cb, .slice As ss.length cs] 25 := BK.new' _ _ _ (n0) hn0
  have hsbx : (w.alloc (.cells #[.slice Ab bars.length cb, .slice As ss.length cs] 25)).heap.size = n0 + 1 := by simp [hn0]
  replace hC : Below n0 w (w.alloc (.cells #[.slice Ab bars.length cb, .slice As ss.length cs] 25)) := Below.alloc hC (by have := hC.size; omega) _
  replace hB := (RS.below hB (w' := (w.alloc (.cells #[.slice Ab bars.length cb, .slice As ss.length cs] 25))) (Below.alloc (Below.refl _ _) (Nat.le_refl _) _)).more (B' := (w.alloc (.cells #[.slice Ab bars.length cb, .slice As ss.length cs] 25)).heap.size) (by simp)
  replace hS := (RP.below hS (w' := (w.alloc (.cells #[.slice Ab bars.length cb, .slice As ss.length cs] 25))) (Below.alloc (Below.refl _ _) (Nat.le_refl _) _)).more (B' := (w.alloc (.cells #[.slice Ab bars.length cb, .slice As ss.length cs] 25)).heap.size) (by simp)
  replace hU := (RU.below hU (w' := (w.alloc (.cells #[.slice Ab bars.length cb, .slice As ss.length cs] 25))) (Below.alloc (Below.refl _ _) (Nat.le_refl _) _)).more (B' := (w.alloc (.cells #[.slice Ab bars.length cb, .slice As ss.length cs] 25)).heap.size) (by simp)
  generalize (w.alloc (.cells #[.slice Ab bars.length cb, .slice As ss.length cs] 25)) = Wbx at *
  have hqrs : n0 ≤ n0 + 1 := by have := hC.size; omega
  have rs : BK (Wbx.alloc (.cells #[.int .i64 0, .slice none 0 0] 42)) (n0 + 1) #[.int .i64 0, .slice none 0 0] 42 := BK.new' _ _ _ (n0 + 1) hsbx
  have hsrs : (Wbx.alloc (.cells #[.int .i64 0, .slice none 0 0] 42)).heap.size = n0 + 1 + 1 := by simp [hsbx]
  replace hC : Below n0 w (Wbx.alloc (.cells #[.int .i64 0, .slice none 0 0] 42)) := Below.alloc hC (by have := hC.size; omega) _
  replace hB := (RS.below hB (w' := (Wbx.alloc (.cells #[.int .i64 0, .slice none 0 0] 42))) (Below.alloc (Below.refl _ _) (Nat.le_refl _) _)).more (B' := (Wbx.alloc (.cells #[.int .i64 0, .slice none 0 0] 42)).heap.size) (by simp)
  replace hS := (RP.below hS (w' := (Wbx.alloc (.cells #[.int .i64 0, .slice none 0 0] 42))) (Below.alloc (Below.refl _ _) (Nat.le_refl _) _)).more (B' := (Wbx.alloc (.cells #[.int .i64 0, .slice none 0 0] 42)).heap.size) (by simp)
  replace hU := (RU.below hU (w' := (Wbx.alloc (.cells #[.int .i64 0, .slice none 0 0] 42))) (Below.alloc (Below.refl _ _) (Nat.le_refl _) _)).more (B' := (Wbx.alloc (.cells #[.int .i64 0, .slice none 0 0] 42)).heap.size) (by simp)
  replace bx := bx.alloc (.cells #[.int .i64 0, .slice none 0 0] 42)
  generalize (Wbx.alloc (.cells #[.int .i64 0, .slice none 0 0] 42)) = Wrs at *
  clear hsbx
  go_upto_region 2 with fail
  have hqrb : n0 ≤ n0 + 1 + 1 := by have := hC.size; omega
  have rb : BK (Wrs.alloc (.cells #[.int .i64 0, .slice none 0 0] 42)) (n0 + 1 + 1) #[.int .i64 0, .slice none 0 0] 42 := BK.new' _ _ _ (n0 + 1 + 1) hsrs
  have hsrb : (Wrs.alloc (.cells #[.int .i64 0, .slice none 0 0] 42)).heap.size = n0 + 1 + 1 + 1 := by simp [hsrs]
  replace hC : Below n0 w (Wrs.alloc (.cells #[.int .i64 0, .slice none 0 0] 42)) := Below.alloc hC (by have := hC.size; omega) _
  replace hB := (RS.below hB (w' := (Wrs.alloc (.cells #[.int .i64 0, .slice none 0 0] 42))) (Below.alloc (Below.refl _ _) (Nat.le_refl _) _)).more (B' := (Wrs.alloc (.cells #[.int .i64 0, .slice none 0 0] 42)).heap.size) (by simp)
  replace hS := (RP.below hS (w' := (Wrs.alloc (.cells #[.int .i64 0, .slice none 0 0] 42))) (Below.alloc (Below.refl _ _) (Nat.le_refl _) _)).more (B' := (Wrs.alloc (.cells #[.int .i64 0, .slice none 0 0] 42)).heap.size) (by simp)
  replace hU := (RU.below hU (w' := (Wrs.alloc (.cells #[.int .i64 0, .slice none 0 0] 42))) (Below.alloc (Below.refl _ _) (Nat.le_refl _) _)).more (B' := (Wrs.alloc (.cells #[.int .i64 0, .slice none 0 0] 42)).heap.size) (by simp)
  replace bx := bx.alloc (.cells #[.int .i64 0, .slice none 0 0] 42)
  replace rs := rs.alloc (.cells #[.int .i64 0, .slice none 0 0] 42)
  generalize (Wrs.alloc (.cells #[.int .i64 0, .slice none 0 0] 42)) = Wrb at *
  clear hsrs
  clear hsrb
  generalize Wrb = W0 at *
  have HQ := Lib.hid (And.intro hqbx (And.intro hqrs hqrb))
  clear hqbx hqrs hqrb
  go_wp2_with fail
  go_loopw [6] (fun i wr => ∃ (k : Nat) (v : Value), k ≤ ss.length + 1 ∧ i = .int .i64 (k : Int) ∧ BK wr (n0) #[.slice Ab bars.length cb, .slice As ss.length cs] 25 ∧ BK wr (n0 + 1) #[.int .i64 0, .slice none 0 0] 42 ∧ BK wr (n0 + 1 + 1) #[.int .i64 (oneBk bars us k : Nat), v] 42 ∧ OwnI 3 wr n0 v (oneW ss us (k - 1)) ∧ Below n0 w wr) (fun i _ => ss.length + 1 - (intOf i).toNat)
  case atStart => exact ⟨0, _, Nat.zero_le _, rfl, bx, rs, rb, OwnI.nil _ _ _, hC⟩
  case round =>
    clear bx rs rb hC hB hS hU
    obtain ⟨k, v, hk, rfl, bx, rs, rb, hown, hC⟩ := hrel
    rw [hn0] at HB0 HS0 HU0
    have hB := RS.more (RS.below HB0.out hC) (B' := wr.heap.size) (by have := hC.size; omega)
    have hS := RP.more (RP.below HS0.out hC) (B' := wr.heap.size) (by have := hC.size; omega)
    have hU := RU.more (RU.below HU0.out hC) (B' := wr.heap.size) (by have := hC.size; omega)
    obtain ⟨Av, cv, rfl⟩ := own_slice hown
    have hll := oneW_len ss us (k - 1)
    have HOW := Lib.hid hown
    have HLL := Lib.hid hll
    clear hown hll
    obtain ⟨nl, hnl⟩ : ∃ n, (oneW ss us (k - 1)).length = n := ⟨_, rfl⟩
    rw [hnl] at rb
    have HNL := Lib.hid hnl
    clear hnl
    by_cases hlt : k < ss.length + 1
    case neg =>
      obtain rfl : k = ss.length + 1 := by omega
      rw [Nat.add_sub_cancel] at HOW HNL
      have hlt' : ¬ ((ss.length + 1 : Nat) : Int) ≤ (ss.length : Int) := by omega
      simp only [Int.natCast_add, Int.cast_ofNat_Int] at hlt'
      have hob : oneBk bars us (ss.length + 1) = oneB bars us := by unfold oneBk; rw [if_neg (by omega)]
      rw [hob] at rb
      clear hob hlt
      have hown2 := own_ri_sets HOW.out rs (by decide) (.int .i64 (oneB bars us : Nat)) (.slice Av (oneW ss us ss.length).length cv)
      rw [HNL.out] at hown2
      obtain ⟨ob, hob⟩ : ∃ n, oneB bars us = n := ⟨_, rfl⟩
      rw [hob] at rb hown2
      have HO := Lib.hid hown2.ri
      clear hown2
      have HOB := Lib.hid hob
      clear hob
      have lbx := bx.lt
      have bxc0 := bx.cell 0
      have bxc1 := bx.cell 1
      simp at bxc0 bxc1
      have lrb := rb.lt
      have rbc0 := rb.cell 0
      have rbc1 := rb.cell 1
      simp at rbc0 rbc1
      have lrs := rs.lt
      have rsc0 := rs.cell 0
      have rsc1 := rs.cell 1
      simp at rsc0 rsc1
      have f0 := rs.frozen 0
      have f1 := rs.frozen 1
      have hCf : Below n0 w ((wr.setCell ⟨n0 + 1, 0, none⟩ (.int .i64 (ob : Int))).setCell ⟨n0 + 1, 1, none⟩ (.slice Av nl cv)) := Below.setCell (Below.setCell hC HQ.out.2.1 _) HQ.out.2.1 _
      have b2 := ((rs.set 0 (.int .i64 (ob : Int))).set 1 (.slice Av nl cv))
      simp at b2
      have HCF := Lib.hid hCf
      clear hCf hC rs
      go_wp2_with fail
      clear lbx bxc0 bxc1 lrb rbc0 rbc1 lrs rsc0 rsc1
      have y0 := b2.cell 0
      have y1 := b2.cell 1
      simp at y0 y1
      refine bodyPost_ret (v := .agg #[.int .i64 (ob : Int), .slice Av nl cv]) (by simp [results, Try.results44, go_sem, y0, y1]) rfl ⟨_, by rw [HOB.out], HO.out, (by (try rw [hn0]); exact HCF.out)⟩
    have hlt' : (k : Int) ≤ (ss.length : Int) := by omega
    have hnle := numAt_le HU.out k
    obtain ⟨n, hn⟩ : ∃ n, numAt us k = n := ⟨_, rfl⟩
    rw [hn] at hnle
    have HN := Lib.hid hn
    have g1 : IntKind.i64.wrap (n : Int) = (n : Int) := by rw [IntKind.wrap_i64]; omega
    by_cases hu0 : us.length = 0
    case pos =>
      have zu : ¬ ((us.length : Int) > 0) := by omega
      have HZ := Lib.hid (show (n : Int) = 0 by rw [← hn]; unfold numAt; rw [if_pos hu0]; rfl)
      clear hn hu0
      have lbx := bx.lt
      have bxc0 := bx.cell 0
      have bxc1 := bx.cell 1
      simp at bxc0 bxc1
      have lrb := rb.lt
      have rbc0 := rb.cell 0
      have rbc1 := rb.cell 1
      simp at rbc0 rbc1
      go_upto_region 8 with fail
      clear lbx bxc0 bxc1
      clear lrb rbc0 rbc1
      clear zu
      by_cases hk0 : k = 0
      case pos =>
        have hrm : n % bars.length = oneB bars us := by have := HN.out; rw [hk0] at this; rw [← this]; rfl
        have hrm2 : (n : Int) % (bars.length : Int) = (oneB bars us : Int) := by rw [← Int.natCast_emod, hrm]
        have hown2 := own_ri_set HOW.out rb (by decide) 0 (.int .i64 (oneB bars us : Nat))
        rw [HNL.out] at hown2
        have hz : oneW ss us (k - 1) = oneW ss us (1 - 1) := by rw [hk0]
        rw [hz] at hown2
        have d0 : ((k : Int) == 0) = true := by rw [hk0]; rfl
        have r1 : (0 : Int) % (bars.length : Int) = (oneB bars us : Int) := by have h9 := hrm2; rw [HZ.out] at h9; exact h9
        have r2 : (0 : Int).tmod (bars.length : Int) = (oneB bars us : Int) := by rw [Int.tmod_eq_emod_of_nonneg (by omega), r1]
        have y0 : ((bars.length : Int) == 0) = false := beq_eq_false_iff_ne.2 (by omega)
        have y1 : (bars.length : Int) ≠ 0 := by omega
        have hol : oneB bars us < bars.length := Nat.mod_lt _ hbp
        obtain ⟨ob, hob⟩ : ∃ n, oneB bars us = n := ⟨_, rfl⟩
        rw [hob] at r1 r2 hol hown2
        have HO2 := Lib.hid hown2
        have HOB := Lib.hid hob
        have w1 : IntKind.i64.wrap (ob : Int) = (ob : Int) := by rw [IntKind.wrap_i64]; omega
        have wk : IntKind.i64.wrap ((k : Int) + 1) = (k : Int) + 1 := by rw [IntKind.wrap_i64]; omega
        have HK0 := Lib.hid hk0
        clear hob hrm hrm2 hown2 hz hk0
        have lbx := bx.lt
        have bxc0 := bx.cell 0
        have bxc1 := bx.cell 1
        simp at bxc0 bxc1
        have lrb := rb.lt
        have rbc0 := rb.cell 0
        have rbc1 := rb.cell 1
        simp at rbc0 rbc1
        have rbf0 := rb.frozen 0
        have HC2 : Hid (Below n0 w (wr.setCell ⟨n0 + 1 + 1, 0, none⟩ (.int .i64 (ob : Int)))) := Lib.hid (Below.setCell hC HQ.out.2.2 _)
        have hb2 := rb.set 0 (.int .i64 (ob : Int))
        simp at hb2
        have HRB := Lib.hid hb2
        have HRX := Lib.hid (bx.far (p := ⟨n0 + 1 + 1, 0, none⟩) (by show n0 ≠ n0 + 1 + 1; omega) (.int .i64 (ob : Int)))
        have HRS := Lib.hid (rs.far (p := ⟨n0 + 1 + 1, 0, none⟩) (by show n0 + 1 ≠ n0 + 1 + 1; omega) (.int .i64 (ob : Int)))
        clear hb2 bx rs rb hC
        go_wp2_with fail
        go_roundw
        case rel =>
          refine ⟨1, .slice Av nl cv, by omega, ?_, HRX.out, HRS.out, ?_, HO2.out, HC2.out⟩
          · rw [HK0.out]; rfl
          · have : oneBk bars us 1 = ob := by unfold oneBk; rw [if_neg (by decide), HOB.out]
            rw [this]; exact HRB.out
        case measure => simp [intOf]; omega
      obtain ⟨j, hj⟩ : ∃ j, k = j + 1 := ⟨k - 1, by omega⟩
      have hjs : j < ss.length := by omega
      obtain ⟨A', cap', bb', off', hve, hA, hc⟩ := RP.cells hS
      obtain ⟨rfl, hbb'⟩ := hA (by omega)
      injection hve with q1 q2 q3
      subst q1 q3
      obtain ⟨u, d1, hu1⟩ := hc j hjs
      obtain ⟨At, ct, rfl⟩ := hu1.slice
      have hwp := HV.out.wpos _ (nthS_mem hjs)
      have HOS := Lib.hid (oneW_succ ss us j)
      have hkj : k - 1 = j := by omega
      have HNK : Hid (numAt us (j + 1) = n) := Lib.hid (by rw [← hj]; exact HN.out)
      obtain ⟨q, hq⟩ : ∃ q, n % (nthS ss j).length = q := ⟨_, rfl⟩
      have hql : q < (nthS ss j).length := by rw [← hq]; exact Nat.mod_lt _ hwp.1
      have HQQ := Lib.hid hq
      obtain ⟨p, hp⟩ : ∃ p, (nthS ss j).length = p := ⟨_, rfl⟩
      rw [hp] at d1 hql hwp hq
      have r0 : (n : Int).tmod (p : Int) = (q : Int) := by rw [Int.tmod_eq_emod_of_nonneg (by omega), ← Int.natCast_emod, hq]
      have r2 : (0 : Int).tmod (p : Int) = (q : Int) := by have h9 := r0; rw [HZ.out] at h9; exact h9
      have y0 : ((p : Int) == 0) = false := beq_eq_false_iff_ne.2 (by omega)
      have y1 : (p : Int) ≠ 0 := by omega
      have y3 : (p = 0) = False := eq_false (by omega)
      have w1 : IntKind.i64.wrap (q : Int) = (q : Int) := by rw [IntKind.wrap_i64]; omega
      have w2 : IntKind.i64.wrap ((k : Int) - 1) = (j : Int) := by rw [IntKind.wrap_i64]; omega
      have wk : IntKind.i64.wrap ((k : Int) + 1) = (k : Int) + 1 := by rw [IntKind.wrap_i64]; omega
      have dk : ((k : Int) == 0) = false := beq_eq_false_iff_ne.2 (by omega)
      have hji : (j : Int) < (ss.length : Int) := by omega
      have HJ := Lib.hid hj
      have HKJ := Lib.hid hkj
      have hown := HOW.out
      rw [hkj] at hown
      have HPP := Lib.hid hp
      clear hA hc q2 hu1 hwp hq hp r0 hkj hj hk0
      have lbx := bx.lt
      have bxc0 := bx.cell 0
      have bxc1 := bx.cell 1
      simp at bxc0 bxc1
      have lrb := rb.lt
      have rbc0 := rb.cell 0
      have rbc1 := rb.cell 1
      simp at rbc0 rbc1
      go_upto_region 10 with fail
      refine wp_region_noPanic (plain_any [0, 1, 2, 3, 4, 5, 6, 7, 8, 9, 10, 11] (Below wr.heap.size wr) mixed ?_)
      refine any_tk 0 ?_
      have d0z : Below wr.heap.size wr wr.drew := by exact bel_of
      refine any_tk 1 ?_
      refine any_tk 2 ?_
      refine any_tk 3 ?_
      refine any_tk 4 ?_
      refine any_tk 5 ?_
      refine any_tk 6 ?_
      refine any_tk 7 ?_
      refine any_tk 8 ?_
      refine any_tk 9 ?_
      refine any_tk 10 ?_
      refine any_tk 11 ?_
      have qz1 := d0z.size
      have ez1 : Below wr.heap.size wr (wr.drew.alloc (.cells #[.int .i64 (q : Int)] 3)) := by exact bel_of
      refine any_run1 (i := 12) (by kernel_rfl) (by rfl) (by kernel_rfl) ?_
      intro K hK
      go_wp2_with fail
      refine hK _ _ (fun _ => ez1) ?_
      clear hK K
      have b9 : BK (wr.drew.alloc (.cells #[.int .i64 (q : Int)] 3)) (wr.drew.heap.size) #[.int .i64 (q : Int)] 3 := BK.new' _ _ _ _ rfl
      have o9 := own_below hown ez1
      have bx9 := bx.below ez1 bx.lt
      have rs9 := rs.below ez1 rs.lt
      have rb9 := rb.below ez1 rb.lt
      obtain ⟨v9, w9, hrun, hown', hbel, hsz, hkeep⟩ := app_b_i int_info int_slice o9 b9 (by rw [oneW_len]; omega) (by have := ez1.size; have := hC.size; omega)
      have hC9 := hbel w (hC.trans (ez1.mono (by have := hC.size; omega)))
      replace bx9 := hkeep _ _ _ bx9 (by decide)
      replace rs9 := hkeep _ _ _ rs9 (by decide)
      replace rb9 := hkeep _ _ _ rb9 (by decide)
      obtain ⟨A9, c9, rfl⟩ := own_slice hown'
      have hln : (oneW ss us j ++ [(q : Int)]).length = j + 1 := by rw [List.length_append, oneW_len]; rfl
      have hwq : oneW ss us (j + 1) = oneW ss us j ++ [(q : Int)] := by rw [HOS.out, HNK.out, HQQ.out]
      have hjl : (oneW ss us j).length = nl := by have h8 := HNL.out; have h9 := HKJ.out; rw [oneW_len] at h8 ⊢; omega
      rw [hln, hjl] at hrun
      clear hjl
      have hown3 := own_ri_set hown' rb9 (by decide) 1 (.slice A9 (j + 1) c9)
      rw [← hwq, oneW_len] at hown3
      have HO9 := Lib.hid hown3
      have hb2 := rb9.set 1 (.slice A9 (j + 1) c9)
      simp at hb2
      have HRB := Lib.hid hb2
      have HRX := Lib.hid (bx9.far (p := ⟨n0 + 1 + 1, 1, none⟩) (by show n0 ≠ n0 + 1 + 1; omega) (.slice A9 (j + 1) c9))
      have HRS := Lib.hid (rs9.far (p := ⟨n0 + 1 + 1, 1, none⟩) (by show n0 + 1 ≠ n0 + 1 + 1; omega) (.slice A9 (j + 1) c9))
      have HC9 : Hid (Below n0 w (w9.setCell ⟨n0 + 1 + 1, 1, none⟩ (.slice A9 (j + 1) c9))) := Lib.hid (Below.setCell hC9 HQ.out.2.2 _)
      have HRUN := Lib.hid hrun
      have lr9 := rb9.lt
      have rc9 := rb9.cell 1
      simp at rc9
      have rf9 := rb9.frozen 1
      clear hrun hown' hbel b9 o9 hC9 hsz hkeep hown hown3 hb2 hln hwq bx9 rs9 rb9
      refine any_run1 (i := 13) (by kernel_rfl) (by rfl) (by kernel_rfl) ?_
      intro K hK
      refine wp_append_run (.tmp 35) (.tmp 46) 40 _ rfl HRUN.out ?_
      refine hK _ _ (fun hx => (Bool.false_ne_true (hx.symm.trans (by kernel_rfl))).elim) ?_
      clear hK K
      simp only [List.getElem_toArray, List.getElem_cons_succ, List.getElem_cons_zero, Act.put, List.setIfInBounds_toArray, List.set_cons_succ, List.set_cons_zero]
      refine any_run1 (i := 14) (by kernel_rfl) (by rfl) (by kernel_rfl) ?_
      intro K hK
      go_wp2_with fail
      refine hK _ _ (fun hx => (Bool.false_ne_true (hx.symm.trans (by kernel_rfl))).elim) ?_
      clear hK K
      refine any_run1 (i := 15) (by kernel_rfl) (by rfl) (by kernel_rfl) ?_
      intro K hK
      go_wp2_with fail
      refine hK _ _ (fun hx => (Bool.false_ne_true (hx.symm.trans (by kernel_rfl))).elim) ?_
      clear hK K
      refine any_done (by kernel_rfl) (NoPanic.normal ?_)
      clear bx rs rb lr9 rc9 rf9
      go_wp2_with fail
      go_roundw
      case rel =>
        refine ⟨k + 1, .slice A9 (j + 1) c9, by omega, by go_num, HRX.out, HRS.out, ?_, ?_, HC9.out⟩
        · have : oneBk bars us (k + 1) = oneBk bars us k := by unfold oneBk; rw [if_neg (by omega), if_neg (by have := HJ.out; omega)]
          rw [this]; exact HRB.out
        · rw [show k + 1 - 1 = j + 1 by have := HJ.out; omega]; exact HO9.out
      case measure => simp [intOf]; omega
    have zu : (us.length : Int) > 0 := by omega
    obtain ⟨s, hs⟩ : ∃ s, k % us.length = s := ⟨_, rfl⟩
    have hsl : s < us.length := by rw [← hs]; exact Nat.mod_lt _ (by omega)
    have hng : us.getD s 0 = n := by rw [← hn, ← hs]; unfold numAt; rw [if_neg hu0]
    have e1 : (k : Int) % (us.length : Int) = (s : Int) := by rw [← Int.natCast_emod, hs]
    have t1 : (k : Int).tmod (us.length : Int) = (s : Int) := by rw [Int.tmod_eq_emod_of_nonneg (by omega), e1]
    have ye0 : ((us.length : Int) == 0) = false := beq_eq_false_iff_ne.2 (by omega)
    have ye2 : (us.length : Int) ≠ 0 := by omega
    obtain ⟨A', cap', bb, off, hve, hA, hc⟩ := RU.cells hU
    obtain ⟨rfl, hbb⟩ := hA (by omega)
    injection hve with q1 q2 q3
    subst q1 q3
    have hcl := hc s hsl
    rw [hng] at hcl
    clear hA hc q2 hs hn hng hu0
    have lbx := bx.lt
    have bxc0 := bx.cell 0
    have bxc1 := bx.cell 1
    simp at bxc0 bxc1
    have lrb := rb.lt
    have rbc0 := rb.cell 0
    have rbc1 := rb.cell 1
    simp at rbc0 rbc1
    go_upto_region 8 with fail
    clear lbx bxc0 bxc1
    clear lrb rbc0 rbc1
    clear zu e1 t1 ye0 ye2 hcl hbb hsl
    by_cases hk0 : k = 0
    case pos =>
      have hrm : n % bars.length = oneB bars us := by have := HN.out; rw [hk0] at this; rw [← this]; rfl
      have hrm2 : (n : Int) % (bars.length : Int) = (oneB bars us : Int) := by rw [← Int.natCast_emod, hrm]
      have hown2 := own_ri_set HOW.out rb (by decide) 0 (.int .i64 (oneB bars us : Nat))
      rw [HNL.out] at hown2
      have hz : oneW ss us (k - 1) = oneW ss us (1 - 1) := by rw [hk0]
      rw [hz] at hown2
      have d0 : ((k : Int) == 0) = true := by rw [hk0]; rfl
      have r1 : (n : Int) % (bars.length : Int) = (oneB bars us : Int) := by exact hrm2
      have r2 : (n : Int).tmod (bars.length : Int) = (oneB bars us : Int) := by rw [Int.tmod_eq_emod_of_nonneg (by omega), r1]
      have y0 : ((bars.length : Int) == 0) = false := beq_eq_false_iff_ne.2 (by omega)
      have y1 : (bars.length : Int) ≠ 0 := by omega
      have hol : oneB bars us < bars.length := Nat.mod_lt _ hbp
      obtain ⟨ob, hob⟩ : ∃ n, oneB bars us = n := ⟨_, rfl⟩
      rw [hob] at r1 r2 hol hown2
      have HO2 := Lib.hid hown2
      have HOB := Lib.hid hob
      have w1 : IntKind.i64.wrap (ob : Int) = (ob : Int) := by rw [IntKind.wrap_i64]; omega
      have wk : IntKind.i64.wrap ((k : Int) + 1) = (k : Int) + 1 := by rw [IntKind.wrap_i64]; omega
      have HK0 := Lib.hid hk0
      clear hob hrm hrm2 hown2 hz hk0
      have lbx := bx.lt
      have bxc0 := bx.cell 0
      have bxc1 := bx.cell 1
      simp at bxc0 bxc1
      have lrb := rb.lt
      have rbc0 := rb.cell 0
      have rbc1 := rb.cell 1
      simp at rbc0 rbc1
      have rbf0 := rb.frozen 0
      have HC2 : Hid (Below n0 w (wr.setCell ⟨n0 + 1 + 1, 0, none⟩ (.int .i64 (ob : Int)))) := Lib.hid (Below.setCell hC HQ.out.2.2 _)
      have hb2 := rb.set 0 (.int .i64 (ob : Int))
      simp at hb2
      have HRB := Lib.hid hb2
      have HRX := Lib.hid (bx.far (p := ⟨n0 + 1 + 1, 0, none⟩) (by show n0 ≠ n0 + 1 + 1; omega) (.int .i64 (ob : Int)))
      have HRS := Lib.hid (rs.far (p := ⟨n0 + 1 + 1, 0, none⟩) (by show n0 + 1 ≠ n0 + 1 + 1; omega) (.int .i64 (ob : Int)))
      clear hb2 bx rs rb hC
      go_wp2_with fail
      go_roundw
      case rel =>
        refine ⟨1, .slice Av nl cv, by omega, ?_, HRX.out, HRS.out, ?_, HO2.out, HC2.out⟩
        · rw [HK0.out]; rfl
        · have : oneBk bars us 1 = ob := by unfold oneBk; rw [if_neg (by decide), HOB.out]
          rw [this]; exact HRB.out
      case measure => simp [intOf]; omega
    obtain ⟨j, hj⟩ : ∃ j, k = j + 1 := ⟨k - 1, by omega⟩
    have hjs : j < ss.length := by omega
    obtain ⟨A', cap', bb', off', hve, hA, hc⟩ := RP.cells hS
    obtain ⟨rfl, hbb'⟩ := hA (by omega)
    injection hve with q1 q2 q3
    subst q1 q3
    obtain ⟨u, d1, hu1⟩ := hc j hjs
    obtain ⟨At, ct, rfl⟩ := hu1.slice
    have hwp := HV.out.wpos _ (nthS_mem hjs)
    have HOS := Lib.hid (oneW_succ ss us j)
    have hkj : k - 1 = j := by omega
    have HNK : Hid (numAt us (j + 1) = n) := Lib.hid (by rw [← hj]; exact HN.out)
    obtain ⟨q, hq⟩ : ∃ q, n % (nthS ss j).length = q := ⟨_, rfl⟩
    have hql : q < (nthS ss j).length := by rw [← hq]; exact Nat.mod_lt _ hwp.1
    have HQQ := Lib.hid hq
    obtain ⟨p, hp⟩ : ∃ p, (nthS ss j).length = p := ⟨_, rfl⟩
    rw [hp] at d1 hql hwp hq
    have r0 : (n : Int).tmod (p : Int) = (q : Int) := by rw [Int.tmod_eq_emod_of_nonneg (by omega), ← Int.natCast_emod, hq]
    have r2 : (n : Int).tmod (p : Int) = (q : Int) := by exact r0
    have y0 : ((p : Int) == 0) = false := beq_eq_false_iff_ne.2 (by omega)
    have y1 : (p : Int) ≠ 0 := by omega
    have y3 : (p = 0) = False := eq_false (by omega)
    have w1 : IntKind.i64.wrap (q : Int) = (q : Int) := by rw [IntKind.wrap_i64]; omega
    have w2 : IntKind.i64.wrap ((k : Int) - 1) = (j : Int) := by rw [IntKind.wrap_i64]; omega
    have wk : IntKind.i64.wrap ((k : Int) + 1) = (k : Int) + 1 := by rw [IntKind.wrap_i64]; omega
    have dk : ((k : Int) == 0) = false := beq_eq_false_iff_ne.2 (by omega)
    have hji : (j : Int) < (ss.length : Int) := by omega
    have HJ := Lib.hid hj
    have HKJ := Lib.hid hkj
    have hown := HOW.out
    rw [hkj] at hown
    have HPP := Lib.hid hp
    clear hA hc q2 hu1 hwp hq hp r0 hkj hj hk0
    have lbx := bx.lt
    have bxc0 := bx.cell 0
    have bxc1 := bx.cell 1
    simp at bxc0 bxc1
    have lrb := rb.lt
    have rbc0 := rb.cell 0
    have rbc1 := rb.cell 1
    simp at rbc0 rbc1
    go_upto_region 10 with fail
    refine wp_region_noPanic (plain_any [0, 1, 2, 3, 4, 5, 6, 7, 8, 9, 10, 11] (Below wr.heap.size wr) mixed ?_)
    refine any_tk 0 ?_
    have d0z : Below wr.heap.size wr wr.drew := by exact bel_of
    refine any_tk 1 ?_
    refine any_tk 2 ?_
    refine any_tk 3 ?_
    refine any_tk 4 ?_
    refine any_tk 5 ?_
    refine any_tk 6 ?_
    refine any_tk 7 ?_
    refine any_tk 8 ?_
    refine any_tk 9 ?_
    refine any_tk 10 ?_
    refine any_tk 11 ?_
    have qz1 := d0z.size
    have ez1 : Below wr.heap.size wr (wr.drew.alloc (.cells #[.int .i64 (q : Int)] 3)) := by exact bel_of
    refine any_run1 (i := 12) (by kernel_rfl) (by rfl) (by kernel_rfl) ?_
    intro K hK
    go_wp2_with fail
    refine hK _ _ (fun _ => ez1) ?_
    clear hK K
    have b9 : BK (wr.drew.alloc (.cells #[.int .i64 (q : Int)] 3)) (wr.drew.heap.size) #[.int .i64 (q : Int)] 3 := BK.new' _ _ _ _ rfl
    have o9 := own_below hown ez1
    have bx9 := bx.below ez1 bx.lt
    have rs9 := rs.below ez1 rs.lt
    have rb9 := rb.below ez1 rb.lt
    obtain ⟨v9, w9, hrun, hown', hbel, hsz, hkeep⟩ := app_b_i int_info int_slice o9 b9 (by rw [oneW_len]; omega) (by have := ez1.size; have := hC.size; omega)
    have hC9 := hbel w (hC.trans (ez1.mono (by have := hC.size; omega)))
    replace bx9 := hkeep _ _ _ bx9 (by decide)
    replace rs9 := hkeep _ _ _ rs9 (by decide)
    replace rb9 := hkeep _ _ _ rb9 (by decide)
    obtain ⟨A9, c9, rfl⟩ := own_slice hown'
    have hln : (oneW ss us j ++ [(q : Int)]).length = j + 1 := by rw [List.length_append, oneW_len]; rfl
    have hwq : oneW ss us (j + 1) = oneW ss us j ++ [(q : Int)] := by rw [HOS.out, HNK.out, HQQ.out]
    have hjl : (oneW ss us j).length = nl := by have h8 := HNL.out; have h9 := HKJ.out; rw [oneW_len] at h8 ⊢; omega
    rw [hln, hjl] at hrun
    clear hjl
    have hown3 := own_ri_set hown' rb9 (by decide) 1 (.slice A9 (j + 1) c9)
    rw [← hwq, oneW_len] at hown3
    have HO9 := Lib.hid hown3
    have hb2 := rb9.set 1 (.slice A9 (j + 1) c9)
    simp at hb2
    have HRB := Lib.hid hb2
    have HRX := Lib.hid (bx9.far (p := ⟨n0 + 1 + 1, 1, none⟩) (by show n0 ≠ n0 + 1 + 1; omega) (.slice A9 (j + 1) c9))
    have HRS := Lib.hid (rs9.far (p := ⟨n0 + 1 + 1, 1, none⟩) (by show n0 + 1 ≠ n0 + 1 + 1; omega) (.slice A9 (j + 1) c9))
    have HC9 : Hid (Below n0 w (w9.setCell ⟨n0 + 1 + 1, 1, none⟩ (.slice A9 (j + 1) c9))) := Lib.hid (Below.setCell hC9 HQ.out.2.2 _)
    have HRUN := Lib.hid hrun
    have lr9 := rb9.lt
    have rc9 := rb9.cell 1
    simp at rc9
    have rf9 := rb9.frozen 1
    clear hrun hown' hbel b9 o9 hC9 hsz hkeep hown hown3 hb2 hln hwq bx9 rs9 rb9
    refine any_run1 (i := 13) (by kernel_rfl) (by rfl) (by kernel_rfl) ?_
    intro K hK
    refine wp_append_run (.tmp 35) (.tmp 46) 40 _ rfl HRUN.out ?_
    refine hK _ _ (fun hx => (Bool.false_ne_true (hx.symm.trans (by kernel_rfl))).elim) ?_
    clear hK K
    simp only [List.getElem_toArray, List.getElem_cons_succ, List.getElem_cons_zero, Act.put, List.setIfInBounds_toArray, List.set_cons_succ, List.set_cons_zero]
    refine any_run1 (i := 14) (by kernel_rfl) (by rfl) (by kernel_rfl) ?_
    intro K hK
    go_wp2_with fail
    refine hK _ _ (fun hx => (Bool.false_ne_true (hx.symm.trans (by kernel_rfl))).elim) ?_
    clear hK K
    refine any_run1 (i := 15) (by kernel_rfl) (by rfl) (by kernel_rfl) ?_
    intro K hK
    go_wp2_with fail
    refine hK _ _ (fun hx => (Bool.false_ne_true (hx.symm.trans (by kernel_rfl))).elim) ?_
    clear hK K
    refine any_done (by kernel_rfl) (NoPanic.normal ?_)
    clear bx rs rb lr9 rc9 rf9
    go_wp2_with fail
    go_roundw
    case rel =>
      refine ⟨k + 1, .slice A9 (j + 1) c9, by omega, by go_num, HRX.out, HRS.out, ?_, ?_, HC9.out⟩
      · have : oneBk bars us (k + 1) = oneBk bars us k := by unfold oneBk; rw [if_neg (by omega), if_neg (by have := HJ.out; omega)]
        rw [this]; exact HRB.out
      · rw [show k + 1 - 1 = j + 1 by have := HJ.out; omega]; exact HO9.out
    case measure => simp [intOf]; omega
end Go.Proofs.Ytkibdciomheekaa

set_option linter.all false
namespace Go.Proofs.Ytkibdciomheekaa
open Go.RowKit Hp

/-- The hardness that is meant in a range. -/
def truH (ys : List Nat) (k : Nat) (r : Rg) : Int := r.lo + (numAt ys k : Int) % (r.hi - r.lo + 1)
/-- The range before the step k. -/
def truR (r : Rg) (ws : List Wy) (ys : List Nat) : Nat → Rg
  | 0 => r
  | k + 1 => aft (nthW ws k) (truH ys k (truR r ws ys k))
def truL (r : Rg) (ws : List Wy) (ys : List Nat) (n : Nat) : List Int := (List.range n).map fun k => truH ys k (truR r ws ys k)
theorem truL_succ (r : Rg) (ws : List Wy) (ys : List Nat) (n : Nat) : truL r ws ys (n + 1) = truL r ws ys n ++ [truH ys n (truR r ws ys n)] := by simp [truL, List.range_succ]
theorem truL_len (r : Rg) (ws : List Wy) (ys : List Nat) (n : Nat) : (truL r ws ys n).length = n := by simp [truL]
theorem truH_in {ys : List Nat} {k : Nat} {r : Rg} (h : OkR r) : inR (truH ys k r) r = true := by
  obtain ⟨h1, h2, h3⟩ := h
  have a := Int.emod_nonneg (numAt ys k : Int) (show r.hi - r.lo + 1 ≠ 0 by omega)
  have b := Int.emod_lt_of_pos (numAt ys k : Int) (show 0 < r.hi - r.lo + 1 by omega)
  refine inR_iff.2 ?_
  unfold truH
  omega
theorem truR_ok {r : Rg} {ws : List Wy} (ys : List Nat) (h : OkR r) (ok : ∀ w ∈ ws, OkW w) : ∀ k, k ≤ ws.length → OkR (truR r ws ys k)
  | 0, _ => h
  | k + 1, hk => by
    have ih := truR_ok ys h ok k (by omega)
    have hi := inR_iff.1 (truH_in (ys := ys) (k := k) ih)
    exact aft_rng (ok _ (nthW_mem (by omega))) (by have := ih.2.1; omega)
theorem truL_at {r : Rg} {ws : List Wy} {ys : List Nat} {n k : Nat} (h : k < n) : nthI (truL r ws ys n) k = truH ys k (truR r ws ys k) := by simp [nthI, truL, h]
theorem truL_hist {r : Rg} {ws : List Wy} (ys : List Nat) (h : OkR r) (ok : ∀ w ∈ ws, OkW w) : histB r ws (truL r ws ys (ws.length + 1)) = true := by
  have : ∀ j, j ≤ ws.length → histB (truR r ws ys (ws.length - j)) (ws.drop (ws.length - j)) ((truL r ws ys (ws.length + 1)).drop (ws.length - j)) = true := by
    intro j
    induction j with
    | zero =>
      intro _
      rw [Nat.sub_zero, hist_end (truL_len ..), truL_at (by omega)]
      exact truH_in (truR_ok ys h ok _ (Nat.le_refl _))
    | succ j ih =>
      intro hj
      have h1 := ih (by omega)
      rw [hist_step (by omega) (by rw [truL_len]; omega), truL_at (by omega), show ws.length - (j + 1) + 1 = ws.length - j by omega, Bool.and_eq_true]
      refine ⟨truH_in (truR_ok ys h ok _ (by omega)), ?_⟩
      have e : aft (nthW ws (ws.length - (j + 1))) (truH ys (ws.length - (j + 1)) (truR r ws ys (ws.length - (j + 1)))) = truR r ws ys (ws.length - j) := by
        rw [show ws.length - j = ws.length - (j + 1) + 1 by omega]; rfl
      rw [e]; exact h1
  have h2 := this ws.length (Nat.le_refl _)
  rw [Nat.sub_self] at h2
  exact h2
def truV (bars : List Rg) (ss : List Stp) (b : Int) (ks : List Int) (ys : List Nat) : List Int := truL (nthB bars b.toNat) (pick ss (nats ks)) ys (ss.length + 1)
theorem truV_len {bars : List Rg} {ss : List Stp} {b : Int} {ks : List Int} {ys : List Nat} : (truV bars ss b ks ys).length = ss.length + 1 := truL_len ..
theorem truV_hist {bars : List Rg} {ss : List Stp} {b : Int} {ks : List Int} (ys : List Nat) (OR : OkRec bars ss b ks) : histB (nthB bars b.toNat) (pick ss (nats ks)) (truV bars ss b ks ys) = true := by
  have := truL_hist ys (OR.works.bok _ (nthB_mem OR.bhi)) (pick_ok OR.works.sok OR.ways)
  rw [pick_len OR.ways] at this
  exact this
theorem truV_ok {bars : List Rg} {ss : List Stp} {b : Int} {ks : List Int} (ys : List Nat) (OR : OkRec bars ss b ks) : histE bars ss b ks (truV bars ss b ks ys) = 0 := by
  rw [histE_at (recE_of OR) truV_len (truV_hist ys OR), if_pos rfl]

set_option maxHeartbeats 8000000 in
set_option maxRecDepth 100000 in
theorem true_any (bars : List Rg) (ss : List Stp) (b : Int) (ks : List Int) (ys : List Nat) (vb vs vk vy : Value) (w : World) (hf : Fit bars ss) (OR : OkRec bars ss b ks) (hy : ∀ x ∈ ys, x ≤ 4294967295) (hly : ys.length ≤ 20) (hB : RR w w.heap.size vb bars) (hS : RP w w.heap.size vs ss) (hR : RI w w.heap.size vk ks) (hY : RU .u32 w w.heap.size vy ys) :
    Calls Try.prog 45 #[.agg #[vb, vs], .agg #[.int .i64 b, vk], vy] w fun e w' => ∃ v, e = .returned v ∧ RI w' w'.heap.size v (truV bars ss b ks ys) ∧ Below w.heap.size w w' := by
  have HF := Lib.hid hf
  have HY := Lib.hid hy
  have hs6 := OR.works.sfew
  have HOK := Lib.hid (pick_ok OR.works.sok OR.ways)
  have HPL := Lib.hid (pick_len OR.ways)
  have HBR := Lib.hid (OR.works.bok _ (nthB_mem OR.bhi))
  have HWP := Lib.hid OR.works.wpos
  have hke : ks.length = ss.length := by have := allR_len OR.ways; simpa [nats] using this
  have HKE := Lib.hid hke
  have HOR := Lib.hid OR
  have hb0 := OR.blo
  have hb1 := OR.bhi
  clear hf hy OR hke
  obtain ⟨Ab, cb, rfl⟩ := hB.slice
  obtain ⟨As, cs, rfl⟩ := hS.slice
  obtain ⟨Ar, cr, rfl⟩ := ri_slice hR
  obtain ⟨Ay, cy, rfl⟩ := ru_slice hY
  obtain ⟨n0, hn0⟩ : ∃ n, w.heap.size = n := ⟨_, rfl⟩
  have hC : Below n0 w w := Below.refl _ _
  go_enter Try.func45, Try.ntmps45
  have HB0 := Lib.hid hB
  have HS0 := Lib.hid hS
  have HR0 := Lib.hid hR
  have HY0 := Lib.hid hY
  rw [hn0] at HB0 HS0 HR0 HY0
  go_upto_region 1 with fail
  have hqbx : n0 ≤ n0 := by have := hC.size; omega
  have bx : BK (w.alloc (.cells #[.slice Ab bars.length cb, .slice As ss.length cs] 25)) (n0) #[.slice Ab bars.length cb, .slice As ss.length cs] 25 := BK.new' _ _ _ (n0) hn0
  have hsbx : (w.alloc (.cells #[.slice Ab bars.length cb, .slice As ss.length cs] 25)).heap.size = n0 + 1 := by simp [hn0]
  replace hC : Below n0 w (w.alloc (.cells #[.slice Ab bars.length cb, .slice As ss.length cs] 25)) := Below.alloc hC (by have := hC.size; omega) _
  replace hB := (RS.below hB (w' := (w.alloc (.cells #[.slice Ab bars.length cb, .slice As ss.length cs] 25))) (Below.alloc (Below.refl _ _) (Nat.le_refl _) _)).more (B' := (w.alloc (.cells #[.slice Ab bars.length cb, .slice As ss.length cs] 25)).heap.size) (by simp)
  replace hS := (RP.below hS (w' := (w.alloc (.cells #[.slice Ab bars.length cb, .slice As ss.length cs] 25))) (Below.alloc (Below.refl _ _) (Nat.le_refl _) _)).more (B' := (w.alloc (.cells #[.slice Ab bars.length cb, .slice As ss.length cs] 25)).heap.size) (by simp)
  replace hR := (RS.below hR (w' := (w.alloc (.cells #[.slice Ab bars.length cb, .slice As ss.length cs] 25))) (Below.alloc (Below.refl _ _) (Nat.le_refl _) _)).more (B' := (w.alloc (.cells #[.slice Ab bars.length cb, .slice As ss.length cs] 25)).heap.size) (by simp)
  replace hY := (RU.below hY (w' := (w.alloc (.cells #[.slice Ab bars.length cb, .slice As ss.length cs] 25))) (Below.alloc (Below.refl _ _) (Nat.le_refl _) _)).more (B' := (w.alloc (.cells #[.slice Ab bars.length cb, .slice As ss.length cs] 25)).heap.size) (by simp)
  generalize (w.alloc (.cells #[.slice Ab bars.length cb, .slice As ss.length cs] 25)) = Wbx at *
  have hqwx : n0 ≤ n0 + 1 := by have := hC.size; omega
  have wx : BK (Wbx.alloc (.cells #[.int .i64 b, .slice Ar ks.length cr] 42)) (n0 + 1) #[.int .i64 b, .slice Ar ks.length cr] 42 := BK.new' _ _ _ (n0 + 1) hsbx
  have hswx : (Wbx.alloc (.cells #[.int .i64 b, .slice Ar ks.length cr] 42)).heap.size = n0 + 1 + 1 := by simp [hsbx]
  replace hC : Below n0 w (Wbx.alloc (.cells #[.int .i64 b, .slice Ar ks.length cr] 42)) := Below.alloc hC (by have := hC.size; omega) _
  replace hB := (RS.below hB (w' := (Wbx.alloc (.cells #[.int .i64 b, .slice Ar ks.length cr] 42))) (Below.alloc (Below.refl _ _) (Nat.le_refl _) _)).more (B' := (Wbx.alloc (.cells #[.int .i64 b, .slice Ar ks.length cr] 42)).heap.size) (by simp)
  replace hS := (RP.below hS (w' := (Wbx.alloc (.cells #[.int .i64 b, .slice Ar ks.length cr] 42))) (Below.alloc (Below.refl _ _) (Nat.le_refl _) _)).more (B' := (Wbx.alloc (.cells #[.int .i64 b, .slice Ar ks.length cr] 42)).heap.size) (by simp)
  replace hR := (RS.below hR (w' := (Wbx.alloc (.cells #[.int .i64 b, .slice Ar ks.length cr] 42))) (Below.alloc (Below.refl _ _) (Nat.le_refl _) _)).more (B' := (Wbx.alloc (.cells #[.int .i64 b, .slice Ar ks.length cr] 42)).heap.size) (by simp)
  replace hY := (RU.below hY (w' := (Wbx.alloc (.cells #[.int .i64 b, .slice Ar ks.length cr] 42))) (Below.alloc (Below.refl _ _) (Nat.le_refl _) _)).more (B' := (Wbx.alloc (.cells #[.int .i64 b, .slice Ar ks.length cr] 42)).heap.size) (by simp)
  replace bx := bx.alloc (.cells #[.int .i64 b, .slice Ar ks.length cr] 42)
  generalize (Wbx.alloc (.cells #[.int .i64 b, .slice Ar ks.length cr] 42)) = Wwx at *
  clear hsbx
  obtain ⟨A', cap', bb, off, hve, hA, hc⟩ := RR.cells hB
  obtain ⟨rfl, hbb⟩ := hA (by omega)
  injection hve with q1 q2 q3
  subst q1 q3
  obtain ⟨d0, d1⟩ := hc b.toNat hb1
  obtain ⟨nb, rfl⟩ : ∃ n : Nat, b = n := ⟨b.toNat, by omega⟩
  rw [Int.toNat_natCast] at d0 d1 hb1 HBR
  have hb2 : (nb : Int) < (bars.length : Int) := by omega
  obtain ⟨r0, hr⟩ : ∃ r, nthB bars nb = r := ⟨_, rfl⟩
  rw [hr] at d0 d1 HBR
  have HR1 := Lib.hid hr
  clear hA hc q2 hr
  have lbx := bx.lt
  have bxc0 := bx.cell 0
  have bxc1 := bx.cell 1
  simp at bxc0 bxc1
  have lwx := wx.lt
  have wxc0 := wx.cell 0
  have wxc1 := wx.cell 1
  simp at wxc0 wxc1
  go_upto_region 2 with fail
  clear lbx bxc0 bxc1
  clear lwx wxc0 wxc1
  clear d0 d1 hbb hb2
  have hqrx : n0 ≤ n0 + 1 + 1 := by have := hC.size; omega
  have rx : BK (Wwx.alloc (.cells #[.int .i64 r0.lo, .int .i64 r0.hi] 33)) (n0 + 1 + 1) #[.int .i64 r0.lo, .int .i64 r0.hi] 33 := BK.new' _ _ _ (n0 + 1 + 1) hswx
  have hsrx : (Wwx.alloc (.cells #[.int .i64 r0.lo, .int .i64 r0.hi] 33)).heap.size = n0 + 1 + 1 + 1 := by simp [hswx]
  replace hC : Below n0 w (Wwx.alloc (.cells #[.int .i64 r0.lo, .int .i64 r0.hi] 33)) := Below.alloc hC (by have := hC.size; omega) _
  replace hB := (RS.below hB (w' := (Wwx.alloc (.cells #[.int .i64 r0.lo, .int .i64 r0.hi] 33))) (Below.alloc (Below.refl _ _) (Nat.le_refl _) _)).more (B' := (Wwx.alloc (.cells #[.int .i64 r0.lo, .int .i64 r0.hi] 33)).heap.size) (by simp)
  replace hS := (RP.below hS (w' := (Wwx.alloc (.cells #[.int .i64 r0.lo, .int .i64 r0.hi] 33))) (Below.alloc (Below.refl _ _) (Nat.le_refl _) _)).more (B' := (Wwx.alloc (.cells #[.int .i64 r0.lo, .int .i64 r0.hi] 33)).heap.size) (by simp)
  replace hR := (RS.below hR (w' := (Wwx.alloc (.cells #[.int .i64 r0.lo, .int .i64 r0.hi] 33))) (Below.alloc (Below.refl _ _) (Nat.le_refl _) _)).more (B' := (Wwx.alloc (.cells #[.int .i64 r0.lo, .int .i64 r0.hi] 33)).heap.size) (by simp)
  replace hY := (RU.below hY (w' := (Wwx.alloc (.cells #[.int .i64 r0.lo, .int .i64 r0.hi] 33))) (Below.alloc (Below.refl _ _) (Nat.le_refl _) _)).more (B' := (Wwx.alloc (.cells #[.int .i64 r0.lo, .int .i64 r0.hi] 33)).heap.size) (by simp)
  replace bx := bx.alloc (.cells #[.int .i64 r0.lo, .int .i64 r0.hi] 33)
  replace wx := wx.alloc (.cells #[.int .i64 r0.lo, .int .i64 r0.hi] 33)
  generalize (Wwx.alloc (.cells #[.int .i64 r0.lo, .int .i64 r0.hi] 33)) = Wrx at *
  clear hswx
  clear hsrx
  generalize Wrx = W0 at *
  have HQ := Lib.hid (And.intro hqbx (And.intro hqwx hqrx))
  clear hqbx hqwx hqrx
  obtain ⟨ws, hws⟩ : ∃ ws, pick ss (nats ks) = ws := ⟨_, rfl⟩
  have HOKW := HOK
  have HPLW := HPL
  rw [hws] at HOKW HPLW
  have HWS := Lib.hid hws
  clear hws
  go_wp2_with fail
  go_loopw [8, 9] (fun acc i wr => ∃ (k : Nat) (r : Rg), k ≤ ss.length + 1 ∧ i = .int .i64 (k : Int) ∧ BK wr (n0) #[.slice (some ⟨bb, off, none⟩) bars.length cb, .slice As ss.length cs] 25 ∧ BK wr (n0 + 1) #[.int .i64 (nb : Int), .slice Ar ks.length cr] 42 ∧ BK wr (n0 + 1 + 1) #[.int .i64 r.lo, .int .i64 r.hi] 33 ∧ (k ≤ ss.length → r = truR r0 ws ys k) ∧ OwnI 2 wr n0 acc (truL r0 ws ys k) ∧ Below n0 w wr) (fun _ i _ => ss.length + 1 - (intOf i).toNat)
  case atStart => exact ⟨0, r0, Nat.zero_le _, rfl, bx, wx, rx, fun _ => rfl, OwnI.nil _ _ _, hC⟩
  case round =>
    clear bx wx rx hC hB hS hR hY
    obtain ⟨k, r, hk, rfl, bx, wx, rx, hrk, hown, hC⟩ := hrel
    have hB := RS.more (RS.below HB0.out hC) (B' := wr.heap.size) (by have := hC.size; omega)
    have hS := RP.more (RP.below HS0.out hC) (B' := wr.heap.size) (by have := hC.size; omega)
    have hR := RS.more (RS.below HR0.out hC) (B' := wr.heap.size) (by have := hC.size; omega)
    have hY := RU.more (RU.below HY0.out hC) (B' := wr.heap.size) (by have := hC.size; omega)
    have HRK := Lib.hid hrk
    have HOW := Lib.hid hown
    clear hown hrk
    by_cases hlt : k < ss.length + 1
    case neg =>
      obtain rfl : k = ss.length + 1 := by omega
      obtain ⟨Av, cv, rfl⟩ := own_slice HOW.out
      rw [truL_len] at HOW ⊢
      have hke := HKE.out
      have hlt' : ¬ ((ss.length + 1 : Nat) : Int) ≤ (ks.length : Int) := by omega
      simp only [Int.natCast_add, Int.cast_ofNat_Int] at hlt'
      have HO : Hid (RI wr wr.heap.size (.slice Av (ss.length + 1) cv) (truV bars ss (nb : Int) ks ys)) := Lib.hid (by
        have h := HOW.out.ri
        unfold truV
        rw [HWS.out, Int.toNat_natCast, HR1.out]
        exact h)
      clear hlt hke
      have lbx := bx.lt
      have bxc0 := bx.cell 0
      have bxc1 := bx.cell 1
      simp at bxc0 bxc1
      have lwx := wx.lt
      have wxc0 := wx.cell 0
      have wxc1 := wx.cell 1
      simp at wxc0 wxc1
      have lrx := rx.lt
      have rxc0 := rx.cell 0
      have rxc1 := rx.cell 1
      simp at rxc0 rxc1
      go_wp2_with fail
      go_ret
      exact ⟨_, rfl, HO.out, by (try rw [hn0]); exact hC⟩
    obtain ⟨Av, cv, rfl⟩ := own_slice HOW.out
    rw [truL_len] at HOW ⊢
    have hke := HKE.out
    have hlt' : (k : Int) ≤ (ks.length : Int) := by omega
    have hre := HRK.out (by omega)
    have hro : OkR r := by rw [hre]; exact truR_ok ys HBR.out HOKW.out k (by rw [HPLW.out]; omega)
    obtain ⟨lo, hi⟩ := r
    have ho1 := hro.1
    have ho2 := hro.2.1
    have ho3 := hro.2.2
    have hin := inR_iff.1 (truH_in (ys := ys) (k := k) hro)
    dsimp only at ho1 ho2 ho3 hin rx
    have HTS := Lib.hid (truL_succ r0 ws ys k)
    rw [← hre] at HTS
    have HRE := Lib.hid hre
    have hnle := numAt_le HY.out k
    obtain ⟨n, hn⟩ : ∃ n, numAt ys k = n := ⟨_, rfl⟩
    rw [hn] at hnle
    have HTH : Hid (truH ys k ⟨lo, hi⟩ = lo + (n : Int) % (hi - lo + 1)) := Lib.hid (by rw [← hn]; rfl)
    clear hre hro hke
    
    by_cases hu0 : ys.length = 0
    case pos =>
      have zu : ¬ ((ys.length : Int) > 0) := by omega
      have HZ := Lib.hid (show truH ys k ⟨lo, hi⟩ = lo by rw [HTH.out, ← hn]; unfold numAt; rw [if_pos hu0]; simp)
      clear hn hu0
      have lbx := bx.lt
      have bxc0 := bx.cell 0
      have bxc1 := bx.cell 1
      simp at bxc0 bxc1
      have lwx := wx.lt
      have wxc0 := wx.cell 0
      have wxc1 := wx.cell 1
      simp at wxc0 wxc1
      have lrx := rx.lt
      have rxc0 := rx.cell 0
      have rxc1 := rx.cell 1
      simp at rxc0 rxc1
      go_upto_region 9 with fail
      clear lbx bxc0 bxc1
      clear lwx wxc0 wxc1
      clear lrx rxc0 rxc1
      clear zu
      have hwz : n0 ≤ wr.heap.size := by have := hC.size; omega
      obtain ⟨v9, w9, hrun, hown', hC9, hs', hkeep⟩ := app_i64 HOW.out lo (by rw [truL_len]; omega) hwz hC wr.heap.size rfl
      rw [← HZ.out, ← HTS.out] at hown'
      obtain ⟨A9, c9, rfl⟩ := own_slice hown'
      rw [truL_len] at hrun hown'
      have HO9 := Lib.hid hown'
      have HRUN := Lib.hid hrun
      replace bx := hkeep _ _ _ bx (by decide)
      replace wx := hkeep _ _ _ wx (by decide)
      replace rx := hkeep _ _ _ rx (by decide)
      clear hrun hown' hs' hkeep hwz hC hB hS hR hY
      by_cases hk2 : k < ss.length
      case neg =>
        have hke := HKE.out
        have hk3 : ¬ (k : Int) < (ks.length : Int) := by omega
        clear hke
        have lbx := bx.lt
        have bxc0 := bx.cell 0
        have bxc1 := bx.cell 1
        simp at bxc0 bxc1
        have lwx := wx.lt
        have wxc0 := wx.cell 0
        have wxc1 := wx.cell 1
        simp at wxc0 wxc1
        go_wp2_with (at_builtin; refine wpList_append_run rfl (.tmp 46) (.tmp 48) 43 _ rfl HRUN.out ?_)
        clear lbx bxc0 bxc1
        clear lwx wxc0 wxc1
        go_roundw
        case rel => exact ⟨k + 1, ⟨lo, hi⟩, by omega, by go_num, bx, wx, rx, fun h => by omega, HO9.out, hC9⟩
        case measure => simp [intOf]; omega
      have hke := HKE.out
      have hk3 : (k : Int) < (ks.length : Int) := by omega
      have hk4 : (k : Int) < (ss.length : Int) := by omega
      have hS := RP.more (RP.below HS0.out hC9) (B' := w9.heap.size) (by have := hC9.size; omega)
      have hR := RS.more (RS.below HR0.out hC9) (B' := w9.heap.size) (by have := hC9.size; omega)
      obtain ⟨A1, cap1, b1, o1, hve, hA, hc⟩ := RP.cells hS
      obtain ⟨rfl, hbb1⟩ := hA (by omega)
      injection hve with q1 q2 q3
      subst q1 q3
      obtain ⟨u, d1, hu1⟩ := hc k hk2
      obtain ⟨A2, cap2, b2, o2, rfl, hA2, hc2⟩ := RW.cells hu1
      obtain ⟨A3, cap3, b3, o3, hve3, hA3, hc3⟩ := RI.cells hR
      obtain ⟨rfl, hbb3⟩ := hA3 (by omega)
      injection hve3 with q1 q2 q3
      subst q1 q3
      have d3 := hc3 k (by omega)
      obtain ⟨q, hq⟩ : ∃ q : Nat, (nthI ks k).toNat = q := ⟨_, rfl⟩
      have hqi : nthI ks k = (q : Int) := by
        have := HOR.out.nn (nthI ks k) (by
          have h9 : k < ks.length := by omega
          have : nthI ks k = ks[k] := by simp [nthI, h9]
          rw [this]; exact List.getElem_mem _)
        omega
      have hql : q < (nthS ss k).length := by
        have := (mem_allR_iff.1 HOR.out.ways).2 k hk2
        rw [nats_at, hq] at this
        exact this
      rw [hqi] at d3
      obtain ⟨rfl, hbb2⟩ := hA2 (by omega)
      obtain ⟨u2, d2, hu2⟩ := hc2 q hql
      have hyk : nthW (nthS ss k) q = nthW ws k := by
        rw [← HWS.out, pick_at hk2 (by simp [nats]; omega), hq]
      rw [hyk] at hu2
      have hoy := HOKW.out _ (nthW_mem (show k < ws.length by rw [HPLW.out]; omega))
      obtain ⟨y, hy⟩ : ∃ y, nthW ws k = y := ⟨_, rfl⟩
      rw [hy] at hu2 hoy
      obtain ⟨Ay2, cy2, rfl⟩ := hu2.slice
      have HIN : Hid (inB 0 1000 lo = true) := Lib.hid (by have h9 := hin; rw [HZ.out] at h9; unfold inB; simp; omega)
      have HAF := Lib.hid (after_in (wayE_of hoy) HIN.out)
      have HYL := Lib.hid (show y.length ≤ maxLen from Nat.le_trans hoy.few (by decide))
      obtain ⟨⟨l1, x1⟩, hx1⟩ : ∃ z, aft y lo = z := ⟨_, rfl⟩
      have HX1 := Lib.hid hx1
      rw [hx1] at HAF
      have HNX : Hid ((⟨l1, x1⟩ : Rg) = truR r0 ws ys (k + 1)) := Lib.hid (by
        show _ = aft (nthW ws k) (truH ys k (truR r0 ws ys k))
        rw [← HRE.out, HZ.out, hy, hx1])
      have hqlI : (q : Int) < ((nthS ss k).length : Int) := by omega
      obtain ⟨p, hp⟩ : ∃ p, (nthS ss k).length = p := ⟨_, rfl⟩
      rw [hp] at d1 hql hqlI
      clear hA hc hA2 hc2 hA3 hc3 hq hqi hyk hoy hy hx1 q2 hu1 hp hke
      have lbx := bx.lt
      have bxc0 := bx.cell 0
      have bxc1 := bx.cell 1
      simp at bxc0 bxc1
      have lwx := wx.lt
      have wxc0 := wx.cell 0
      have wxc1 := wx.cell 1
      simp at wxc0 wxc1
      go_upto_region 11 with (at_builtin; refine wpList_append_run rfl (.tmp 46) (.tmp 48) 43 _ rfl HRUN.out ?_)
      refine wp_region_noPanic (plain_any [0, 1, 2, 3, 4, 5, 6, 7, 8, 9, 10, 11, 12, 13, 15] (Below w9.heap.size w9) mixed ?_)
      refine any_tk 0 ?_
      have d0z : Below w9.heap.size w9 w9.drew := by exact bel_of
      refine any_tk 1 ?_
      refine any_tk 2 ?_
      refine any_tk 3 ?_
      refine any_tk 4 ?_
      refine any_tk 5 ?_
      refine any_tk 6 ?_
      refine any_tk 7 ?_
      refine any_tk 8 ?_
      refine any_tk 9 ?_
      refine any_tk 10 ?_
      refine any_tk 11 ?_
      refine any_tk 12 ?_
      refine any_tk 13 ?_
      have qz1 := d0z.size
      refine any_run1 (i := 14) (by kernel_rfl) (by rfl) (by kernel_rfl) ?_
      intro K hK
      go_wp2_with fail
      refine (afterXR_any y _ lo _ HYL.out ((RK.below hu2 d0z).more d0z.size)).mono ?_
      rintro e vz1 ⟨rfl, hb⟩
      rw [HAF.out.1, HAF.out.2]
      unfold rV
      have ez1 : Below w9.heap.size w9 vz1 := d0z.trans (hb.mono d0z.size)
      clear hb
      refine hK _ _ (fun _ => ez1) ?_
      clear hK K
      refine any_tk 15 ?_
      have rx2 := rx.below ez1 rx.lt
      have bx2 := bx.below ez1 bx.lt
      have wx2 := wx.below ez1 wx.lt
      have HO2 := Lib.hid (own_ri_sets (own_below HO9.out ez1) rx2 (by decide) (.int .i64 l1) (.int .i64 x1))
      have hC2 : Below n0 w vz1 := hC9.trans (ez1.mono (by have := hC9.size; omega))
      have HC2 : Hid (Below n0 w ((vz1.setCell ⟨n0 + 1 + 1, 0, none⟩ (.int .i64 l1)).setCell ⟨n0 + 1 + 1, 1, none⟩ (.int .i64 x1))) := Lib.hid (Below.setCell (Below.setCell hC2 HQ.out.2.2 _) HQ.out.2.2 _)
      have HBX := Lib.hid ((bx2.far (p := ⟨n0 + 1 + 1, 0, none⟩) (by show n0 ≠ n0 + 1 + 1; omega) (.int .i64 l1)).far (p := ⟨n0 + 1 + 1, 1, none⟩) (by show n0 ≠ n0 + 1 + 1; omega) (.int .i64 x1))
      have HWX := Lib.hid ((wx2.far (p := ⟨n0 + 1 + 1, 0, none⟩) (by show n0 + 1 ≠ n0 + 1 + 1; omega) (.int .i64 l1)).far (p := ⟨n0 + 1 + 1, 1, none⟩) (by show n0 + 1 ≠ n0 + 1 + 1; omega) (.int .i64 x1))
      have rx3 := (rx2.set 0 (.int .i64 l1)).set 1 (.int .i64 x1)
      simp at rx3
      have HRX := Lib.hid rx3
      have lr := rx2.lt
      have rc0 := rx2.cell 0
      have rc1 := rx2.cell 1
      simp at rc0 rc1
      have rf0 := rx2.frozen 0
      have rf1 := rx2.frozen 1
      clear rx3 bx wx rx bx2 wx2 rx2 hC2 lbx bxc0 bxc1 lwx wxc0 wxc1 d1 d2 d3 hu2 hS hR
      refine any_run2 (i := 16) (j := 17) (by kernel_rfl) (by rfl) (by rfl) (by rfl) (by rfl) ?_ ?_
      ·skip
       intro K hK
       go_wp2_with fail
       refine hK _ _ (fun _ => ez1) ?_
       clear hK K
       refine any_run2 (i := 17) (j := 18) (by kernel_rfl) (by rfl) (by rfl) (by rfl) (by rfl) ?_ ?_
       ·skip
        intro K hK
        go_wp2_with fail
        refine hK _ _ (fun _ => ez1) ?_
        clear hK K
        refine any_run1 (i := 18) (by kernel_rfl) (by rfl) (by kernel_rfl) ?_
        intro K hK
        go_wp2_with fail
        refine hK _ _ (fun hx => (Bool.false_ne_true (hx.symm.trans (by kernel_rfl))).elim) ?_
        clear hK K
        refine any_done (by kernel_rfl) (NoPanic.normal ?_)
        clear lr rc0 rc1 rf0 rf1
        go_wp2_with fail
        go_roundw
        case rel => exact ⟨k + 1, ⟨l1, x1⟩, by omega, by go_num, HBX.out, HWX.out, HRX.out, fun _ => HNX.out, HO2.out, HC2.out⟩
        case measure => simp [intOf]; omega
       ·skip
        intro K hK
        go_wp2_with fail
        refine hK _ _ (fun hx => (Bool.false_ne_true (hx.symm.trans (by kernel_rfl))).elim) ?_
        clear hK K
        refine any_run1 (i := 17) (by kernel_rfl) (by rfl) (by kernel_rfl) ?_
        intro K hK
        go_wp2_with fail
        refine hK _ _ (fun hx => (Bool.false_ne_true (hx.symm.trans (by kernel_rfl))).elim) ?_
        clear hK K
        refine any_done (by kernel_rfl) (NoPanic.normal ?_)
        clear lr rc0 rc1 rf0 rf1
        go_wp2_with fail
        go_roundw
        case rel => exact ⟨k + 1, ⟨l1, x1⟩, by omega, by go_num, HBX.out, HWX.out, HRX.out, fun _ => HNX.out, HO2.out, HC2.out⟩
        case measure => simp [intOf]; omega
      ·skip
       intro K hK
       go_wp2_with fail
       refine hK _ _ (fun _ => ez1) ?_
       clear hK K
       refine any_run1 (i := 16) (by kernel_rfl) (by rfl) (by kernel_rfl) ?_
       intro K hK
       go_wp2_with fail
       refine hK _ _ (fun _ => ez1) ?_
       clear hK K
       refine any_run1 (i := 18) (by kernel_rfl) (by rfl) (by kernel_rfl) ?_
       intro K hK
       go_wp2_with fail
       refine hK _ _ (fun hx => (Bool.false_ne_true (hx.symm.trans (by kernel_rfl))).elim) ?_
       clear hK K
       refine any_done (by kernel_rfl) (NoPanic.normal ?_)
       clear lr rc0 rc1 rf0 rf1
       go_wp2_with fail
       go_roundw
       case rel => exact ⟨k + 1, ⟨l1, x1⟩, by omega, by go_num, HBX.out, HWX.out, HRX.out, fun _ => HNX.out, HO2.out, HC2.out⟩
       case measure => simp [intOf]; omega
    have zu : (ys.length : Int) > 0 := by omega
    obtain ⟨s, hs⟩ : ∃ s, k % ys.length = s := ⟨_, rfl⟩
    have hsl : s < ys.length := by rw [← hs]; exact Nat.mod_lt _ (by omega)
    have hng : ys.getD s 0 = n := by rw [← hn, ← hs]; unfold numAt; rw [if_neg hu0]
    have t1 : (k : Int).tmod (ys.length : Int) = (s : Int) := by rw [Int.tmod_eq_emod_of_nonneg (by omega), ← Int.natCast_emod, hs]
    have ye0 : ((ys.length : Int) == 0) = false := beq_eq_false_iff_ne.2 (by omega)
    have ye2 : (ys.length : Int) ≠ 0 := by omega
    have ye3 : (ys.length = 0) = False := eq_false hu0
    have yf0 : (hi - lo + 1 == 0) = false := beq_eq_false_iff_ne.2 (by omega)
    have yf2 : hi - lo + 1 ≠ 0 := by omega
    have yf3 : (hi - lo + 1 = 0) = False := eq_false yf2
    have h0x : 0 ≤ (n : Int) % (hi - lo + 1) := Int.emod_nonneg _ yf2
    have h0y : (n : Int) % (hi - lo + 1) < hi - lo + 1 := Int.emod_lt_of_pos _ (by omega)
    obtain ⟨x, hx⟩ : ∃ x, (n : Int) % (hi - lo + 1) = x := ⟨_, rfl⟩
    rw [hx] at HTH h0x h0y
    have t2 : (n : Int).tmod (hi - lo + 1) = x := by rw [Int.tmod_eq_emod_of_nonneg (by omega), hx]
    have w1 : IntKind.i64.wrap (n : Int) = (n : Int) := by rw [IntKind.wrap_i64]; omega
    have w2 : IntKind.i64.wrap (hi - lo) = hi - lo := by rw [IntKind.wrap_i64]; omega
    have w3 : IntKind.i64.wrap (hi - lo + 1) = hi - lo + 1 := by rw [IntKind.wrap_i64]; omega
    have w4 : IntKind.i64.wrap x = x := by rw [IntKind.wrap_i64]; omega
    obtain ⟨h, hh⟩ : ∃ h, lo + x = h := ⟨_, rfl⟩
    have w5 : IntKind.i64.wrap (lo + x) = h := by rw [IntKind.wrap_i64]; omega
    rw [hh] at HTH
    obtain ⟨A', cap', b5, o5, hve, hA, hc⟩ := RU.cells hY
    obtain ⟨rfl, hbb5⟩ := hA (by omega)
    injection hve with q1 q2 q3
    subst q1 q3
    have hcl := hc s hsl
    rw [hng] at hcl
    clear hA hc q2 hs hn hng hu0 hx h0x h0y hh
    have lbx := bx.lt
    have bxc0 := bx.cell 0
    have bxc1 := bx.cell 1
    simp at bxc0 bxc1
    have lwx := wx.lt
    have wxc0 := wx.cell 0
    have wxc1 := wx.cell 1
    simp at wxc0 wxc1
    have lrx := rx.lt
    have rxc0 := rx.cell 0
    have rxc1 := rx.cell 1
    simp at rxc0 rxc1
    go_upto_region 8 with fail
    refine wp_region_noPanic (plain_any [0, 1, 2, 3, 4, 5, 6, 7, 8, 9, 10, 11, 12, 13, 14, 15, 16] (Below wr.heap.size wr) mixed ?_)
    refine any_tk 0 ?_
    have d0z : Below wr.heap.size wr wr.drew := by exact bel_of
    refine any_tk 1 ?_
    refine any_tk 2 ?_
    refine any_tk 3 ?_
    refine any_tk 4 ?_
    refine any_tk 5 ?_
    refine any_tk 6 ?_
    refine any_tk 7 ?_
    refine any_tk 8 ?_
    refine any_tk 9 ?_
    refine any_tk 10 ?_
    refine any_tk 11 ?_
    refine any_tk 12 ?_
    refine any_tk 13 ?_
    refine any_tk 14 ?_
    refine any_tk 15 ?_
    refine any_tk 16 ?_
    refine any_run1 (i := 17) (by kernel_rfl) (by rfl) (by kernel_rfl) ?_
    intro K hK
    go_wp2_with fail
    refine hK _ _ (fun _ => d0z) ?_
    clear hK K
    refine any_done (by kernel_rfl) (NoPanic.normal ?_)
    go_upto_region 9 with fail
    clear lbx bxc0 bxc1 lwx wxc0 wxc1 lrx rxc0 rxc1 hcl hbb5 t1 t2 ye0 ye2 ye3 yf0 yf2 yf3 w1 w2 w3 w4 w5 hsl zu
    replace bx := bx.drew
    replace wx := wx.drew
    replace rx := rx.drew
    have HOW2 := Lib.hid (own_below HOW.out d0z)
    replace hC : Below n0 w wr.drew := hC.trans (d0z.mono (by have := hC.size; omega))
    clear d0z HOW
    have HOW := HOW2
    clear HOW2 hB hS hR hY
    generalize wr.drew = wr at *
    have hB := hC
    have hS := hC
    have hR := hC
    have hY := hC
    have hwz : n0 ≤ wr.heap.size := by have := hC.size; omega
    obtain ⟨v9, w9, hrun, hown', hC9, hs', hkeep⟩ := app_i64 HOW.out h (by rw [truL_len]; omega) hwz hC wr.heap.size rfl
    rw [← HTH.out, ← HTS.out] at hown'
    obtain ⟨A9, c9, rfl⟩ := own_slice hown'
    rw [truL_len] at hrun hown'
    have HO9 := Lib.hid hown'
    have HRUN := Lib.hid hrun
    replace bx := hkeep _ _ _ bx (by decide)
    replace wx := hkeep _ _ _ wx (by decide)
    replace rx := hkeep _ _ _ rx (by decide)
    clear hrun hown' hs' hkeep hwz hC hB hS hR hY
    by_cases hk2 : k < ss.length
    case neg =>
      have hke := HKE.out
      have hk3 : ¬ (k : Int) < (ks.length : Int) := by omega
      clear hke
      have lbx := bx.lt
      have bxc0 := bx.cell 0
      have bxc1 := bx.cell 1
      simp at bxc0 bxc1
      have lwx := wx.lt
      have wxc0 := wx.cell 0
      have wxc1 := wx.cell 1
      simp at wxc0 wxc1
      go_wp2_with (at_builtin; refine wpList_append_run rfl (.tmp 46) (.tmp 48) 43 _ rfl HRUN.out ?_)
      clear lbx bxc0 bxc1
      clear lwx wxc0 wxc1
      go_roundw
      case rel => exact ⟨k + 1, ⟨lo, hi⟩, by omega, by go_num, bx, wx, rx, fun h => by omega, HO9.out, hC9⟩
      case measure => simp [intOf]; omega
    have hke := HKE.out
    have hk3 : (k : Int) < (ks.length : Int) := by omega
    have hk4 : (k : Int) < (ss.length : Int) := by omega
    have hS := RP.more (RP.below HS0.out hC9) (B' := w9.heap.size) (by have := hC9.size; omega)
    have hR := RS.more (RS.below HR0.out hC9) (B' := w9.heap.size) (by have := hC9.size; omega)
    obtain ⟨A1, cap1, b1, o1, hve, hA, hc⟩ := RP.cells hS
    obtain ⟨rfl, hbb1⟩ := hA (by omega)
    injection hve with q1 q2 q3
    subst q1 q3
    obtain ⟨u, d1, hu1⟩ := hc k hk2
    obtain ⟨A2, cap2, b2, o2, rfl, hA2, hc2⟩ := RW.cells hu1
    obtain ⟨A3, cap3, b3, o3, hve3, hA3, hc3⟩ := RI.cells hR
    obtain ⟨rfl, hbb3⟩ := hA3 (by omega)
    injection hve3 with q1 q2 q3
    subst q1 q3
    have d3 := hc3 k (by omega)
    obtain ⟨q, hq⟩ : ∃ q : Nat, (nthI ks k).toNat = q := ⟨_, rfl⟩
    have hqi : nthI ks k = (q : Int) := by
      have := HOR.out.nn (nthI ks k) (by
        have h9 : k < ks.length := by omega
        have : nthI ks k = ks[k] := by simp [nthI, h9]
        rw [this]; exact List.getElem_mem _)
      omega
    have hql : q < (nthS ss k).length := by
      have := (mem_allR_iff.1 HOR.out.ways).2 k hk2
      rw [nats_at, hq] at this
      exact this
    rw [hqi] at d3
    obtain ⟨rfl, hbb2⟩ := hA2 (by omega)
    obtain ⟨u2, d2, hu2⟩ := hc2 q hql
    have hyk : nthW (nthS ss k) q = nthW ws k := by
      rw [← HWS.out, pick_at hk2 (by simp [nats]; omega), hq]
    rw [hyk] at hu2
    have hoy := HOKW.out _ (nthW_mem (show k < ws.length by rw [HPLW.out]; omega))
    obtain ⟨y, hy⟩ : ∃ y, nthW ws k = y := ⟨_, rfl⟩
    rw [hy] at hu2 hoy
    obtain ⟨Ay2, cy2, rfl⟩ := hu2.slice
    have HIN : Hid (inB 0 1000 h = true) := Lib.hid (by have h9 := hin; rw [HTH.out] at h9; unfold inB; simp; omega)
    have HAF := Lib.hid (after_in (wayE_of hoy) HIN.out)
    have HYL := Lib.hid (show y.length ≤ maxLen from Nat.le_trans hoy.few (by decide))
    obtain ⟨⟨l1, x1⟩, hx1⟩ : ∃ z, aft y h = z := ⟨_, rfl⟩
    have HX1 := Lib.hid hx1
    rw [hx1] at HAF
    have HNX : Hid ((⟨l1, x1⟩ : Rg) = truR r0 ws ys (k + 1)) := Lib.hid (by
      show _ = aft (nthW ws k) (truH ys k (truR r0 ws ys k))
      rw [← HRE.out, HTH.out, hy, hx1])
    have hqlI : (q : Int) < ((nthS ss k).length : Int) := by omega
    obtain ⟨p, hp⟩ : ∃ p, (nthS ss k).length = p := ⟨_, rfl⟩
    rw [hp] at d1 hql hqlI
    clear hA hc hA2 hc2 hA3 hc3 hq hqi hyk hoy hy hx1 q2 hu1 hp hke
    have lbx := bx.lt
    have bxc0 := bx.cell 0
    have bxc1 := bx.cell 1
    simp at bxc0 bxc1
    have lwx := wx.lt
    have wxc0 := wx.cell 0
    have wxc1 := wx.cell 1
    simp at wxc0 wxc1
    go_upto_region 11 with (at_builtin; refine wpList_append_run rfl (.tmp 46) (.tmp 48) 43 _ rfl HRUN.out ?_)
    refine wp_region_noPanic (plain_any [0, 1, 2, 3, 4, 5, 6, 7, 8, 9, 10, 11, 12, 13, 15] (Below w9.heap.size w9) mixed ?_)
    refine any_tk 0 ?_
    have d0z : Below w9.heap.size w9 w9.drew := by exact bel_of
    refine any_tk 1 ?_
    refine any_tk 2 ?_
    refine any_tk 3 ?_
    refine any_tk 4 ?_
    refine any_tk 5 ?_
    refine any_tk 6 ?_
    refine any_tk 7 ?_
    refine any_tk 8 ?_
    refine any_tk 9 ?_
    refine any_tk 10 ?_
    refine any_tk 11 ?_
    refine any_tk 12 ?_
    refine any_tk 13 ?_
    have qz1 := d0z.size
    refine any_run1 (i := 14) (by kernel_rfl) (by rfl) (by kernel_rfl) ?_
    intro K hK
    go_wp2_with fail
    refine (afterXR_any y _ h _ HYL.out ((RK.below hu2 d0z).more d0z.size)).mono ?_
    rintro e vz1 ⟨rfl, hb⟩
    rw [HAF.out.1, HAF.out.2]
    unfold rV
    have ez1 : Below w9.heap.size w9 vz1 := d0z.trans (hb.mono d0z.size)
    clear hb
    refine hK _ _ (fun _ => ez1) ?_
    clear hK K
    refine any_tk 15 ?_
    have rx2 := rx.below ez1 rx.lt
    have bx2 := bx.below ez1 bx.lt
    have wx2 := wx.below ez1 wx.lt
    have HO2 := Lib.hid (own_ri_sets (own_below HO9.out ez1) rx2 (by decide) (.int .i64 l1) (.int .i64 x1))
    have hC2 : Below n0 w vz1 := hC9.trans (ez1.mono (by have := hC9.size; omega))
    have HC2 : Hid (Below n0 w ((vz1.setCell ⟨n0 + 1 + 1, 0, none⟩ (.int .i64 l1)).setCell ⟨n0 + 1 + 1, 1, none⟩ (.int .i64 x1))) := Lib.hid (Below.setCell (Below.setCell hC2 HQ.out.2.2 _) HQ.out.2.2 _)
    have HBX := Lib.hid ((bx2.far (p := ⟨n0 + 1 + 1, 0, none⟩) (by show n0 ≠ n0 + 1 + 1; omega) (.int .i64 l1)).far (p := ⟨n0 + 1 + 1, 1, none⟩) (by show n0 ≠ n0 + 1 + 1; omega) (.int .i64 x1))
    have HWX := Lib.hid ((wx2.far (p := ⟨n0 + 1 + 1, 0, none⟩) (by show n0 + 1 ≠ n0 + 1 + 1; omega) (.int .i64 l1)).far (p := ⟨n0 + 1 + 1, 1, none⟩) (by show n0 + 1 ≠ n0 + 1 + 1; omega) (.int .i64 x1))
    have rx3 := (rx2.set 0 (.int .i64 l1)).set 1 (.int .i64 x1)
    simp at rx3
    have HRX := Lib.hid rx3
    have lr := rx2.lt
    have rc0 := rx2.cell 0
    have rc1 := rx2.cell 1
    simp at rc0 rc1
    have rf0 := rx2.frozen 0
    have rf1 := rx2.frozen 1
    clear rx3 bx wx rx bx2 wx2 rx2 hC2 lbx bxc0 bxc1 lwx wxc0 wxc1 d1 d2 d3 hu2 hS hR
    refine any_run2 (i := 16) (j := 17) (by kernel_rfl) (by rfl) (by rfl) (by rfl) (by rfl) ?_ ?_
    ·skip
     intro K hK
     go_wp2_with fail
     refine hK _ _ (fun _ => ez1) ?_
     clear hK K
     refine any_run2 (i := 17) (j := 18) (by kernel_rfl) (by rfl) (by rfl) (by rfl) (by rfl) ?_ ?_
     ·skip
      intro K hK
      go_wp2_with fail
      refine hK _ _ (fun _ => ez1) ?_
      clear hK K
      refine any_run1 (i := 18) (by kernel_rfl) (by rfl) (by kernel_rfl) ?_
      intro K hK
      go_wp2_with fail
      refine hK _ _ (fun hx => (Bool.false_ne_true (hx.symm.trans (by kernel_rfl))).elim) ?_
      clear hK K
      refine any_done (by kernel_rfl) (NoPanic.normal ?_)
      clear lr rc0 rc1 rf0 rf1
      go_wp2_with fail
      go_roundw
      case rel => exact ⟨k + 1, ⟨l1, x1⟩, by omega, by go_num, HBX.out, HWX.out, HRX.out, fun _ => HNX.out, HO2.out, HC2.out⟩
      case measure => simp [intOf]; omega
     ·skip
      intro K hK
      go_wp2_with fail
      refine hK _ _ (fun hx => (Bool.false_ne_true (hx.symm.trans (by kernel_rfl))).elim) ?_
      clear hK K
      refine any_run1 (i := 17) (by kernel_rfl) (by rfl) (by kernel_rfl) ?_
      intro K hK
      go_wp2_with fail
      refine hK _ _ (fun hx => (Bool.false_ne_true (hx.symm.trans (by kernel_rfl))).elim) ?_
      clear hK K
      refine any_done (by kernel_rfl) (NoPanic.normal ?_)
      clear lr rc0 rc1 rf0 rf1
      go_wp2_with fail
      go_roundw
      case rel => exact ⟨k + 1, ⟨l1, x1⟩, by omega, by go_num, HBX.out, HWX.out, HRX.out, fun _ => HNX.out, HO2.out, HC2.out⟩
      case measure => simp [intOf]; omega
    ·skip
     intro K hK
     go_wp2_with fail
     refine hK _ _ (fun _ => ez1) ?_
     clear hK K
     refine any_run1 (i := 16) (by kernel_rfl) (by rfl) (by kernel_rfl) ?_
     intro K hK
     go_wp2_with fail
     refine hK _ _ (fun _ => ez1) ?_
     clear hK K
     refine any_run1 (i := 18) (by kernel_rfl) (by rfl) (by kernel_rfl) ?_
     intro K hK
     go_wp2_with fail
     refine hK _ _ (fun hx => (Bool.false_ne_true (hx.symm.trans (by kernel_rfl))).elim) ?_
     clear hK K
     refine any_done (by kernel_rfl) (NoPanic.normal ?_)
     clear lr rc0 rc1 rf0 rf1
     go_wp2_with fail
     go_roundw
     case rel => exact ⟨k + 1, ⟨l1, x1⟩, by omega, by go_num, HBX.out, HWX.out, HRX.out, fun _ => HNX.out, HO2.out, HC2.out⟩
     case measure => simp [intOf]; omega
end Go.Proofs.Ytkibdciomheekaa

set_option linter.all false
namespace Go.Proofs.Ytkibdciomheekaa
open Go.RowKit Hp

theorem nthB_cons (x : Rg) (l : List Rg) (i : Nat) : nthB (x :: l) (i + 1) = nthB l i := rfl
theorem nthB_of {l : List Rg} {i : Nat} {r : Rg} (h : l[i]? = some r) : nthB l i = r := by simp [nthB, h]
theorem nthI_of {l : List Int} {i : Nat} {x : Int} (h : l[i]? = some x) : nthI l i = x := by simp [nthI, h]
theorem hadL_in : ∀ {ws : List Wy} {r m : Rg}, (∀ w ∈ ws, OkW w) → OkR r → m.lo ≤ m.hi → meets (endR r ws) m = true → ∀ i, i ≤ ws.length →
    (nthB (thr r ws) i).lo ≤ (nthB (hadL r ws m) i).lo ∧ (nthB (hadL r ws m) i).hi ≤ (nthB (thr r ws) i).hi
  | ws, r, m, ok, hr, hm, h, 0, _ => by
    have h1 := hadL_head ok hr hm h
    rw [headR_nth] at h1
    have e : nthB (thr r ws) 0 = r := by cases ws <;> rfl
    rw [e]
    exact h1.2
  | w :: ws, r, m, ok, hr, hm, h, i + 1, hi => by
    show (nthB (r :: thr (via w r) ws) (i + 1)).lo ≤ (nthB (_ :: hadL (via w r) ws m) (i + 1)).lo ∧ (nthB (_ :: hadL (via w r) ws m) (i + 1)).hi ≤ (nthB (r :: thr (via w r) ws) (i + 1)).hi
    rw [nthB_cons, nthB_cons]
    exact hadL_in (fun v hv => ok v (List.mem_cons_of_mem _ hv)) (via_ok (ok w (List.mem_cons_self ..)) hr) hm h i (by simpa using hi)
  | [], r, m, ok, hr, hm, h, i + 1, hi => by simp at hi
theorem hadL_last : ∀ (ws : List Wy) (r m : Rg), nthB (hadL r ws m) ws.length = meet (endR r ws) m
  | [], r, m => rfl
  | w :: ws, r, m => hadL_last ws (via w r) m
section
variable {bars : List Rg} {ss : List Stp} {b : Int} {ks hs : List Int} {m : Rg} {i : Nat}
theorem rng_at (OR : OkRec bars ss b ks) (hi : i ≤ ss.length) : nthB (rngL bars ss b ks) i = endR (nthB bars b.toNat) ((pick ss (nats ks)).take i) := by
  unfold rngL
  rw [if_pos (recE_of OR)]
  exact nthB_of (thr_at _ _ _ (by rw [pick_len OR.ways]; exact hi))
theorem rng_ok (OR : OkRec bars ss b ks) (hi : i ≤ ss.length) : OkR (nthB (rngL bars ss b ks) i) := by
  rw [rng_at OR hi]
  exact endR_ok (fun w hw => pick_ok OR.works.sok OR.ways w (List.mem_of_mem_take hw)) (OR.works.bok _ (nthB_mem OR.bhi))
theorem rng_last (OR : OkRec bars ss b ks) : nthB (rngL bars ss b ks) ss.length = endR (nthB bars b.toNat) (pick ss (nats ks)) := by
  rw [rng_at OR (Nat.le_refl _), List.take_of_length_le (by rw [pick_len OR.ways]; exact Nat.le_refl _)]
theorem histE_histB (h : histE bars ss b ks hs = 0) : OkRec bars ss b ks ∧ hs.length = ss.length + 1 ∧ histB (nthB bars b.toNat) (pick ss (nats ks)) hs = true := by
  unfold histE at h
  split at h
  · rename_i q; exact absurd h q
  · rename_i q
    split at h
    · cases h
    · rename_i q2
      split at h
      · rename_i q3
        exact ⟨okRec_of (Decidable.not_not.1 q), by omega, q3⟩
      · cases h
theorem hist_rng (h : histE bars ss b ks hs = 0) (hi : i ≤ ss.length) : inR (nthI hs i) (nthB (rngL bars ss b ks) i) = true := by
  obtain ⟨OR, hl, hB⟩ := histE_histB h
  obtain ⟨x, hx, h2⟩ := hist_in (pick_ok OR.works.sok OR.ways) (OR.works.bok _ (nthB_mem OR.bhi)) hB i (by rw [pick_len OR.ways]; exact hi)
  rw [rng_at OR hi, nthI_of hx]
  exact h2
theorem hadE_of (OR : OkRec bars ss b ks) (hm : OkR m) (h : meets (nthB (rngL bars ss b ks) ss.length) m = true) : hadE bars ss b ks m = 0 := by
  rw [rng_last OR] at h
  unfold hadE
  rw [if_neg (by rw [recE_of OR]; exact fun h => h rfl), if_neg (by rw [hard_iff.2 hm]; exact Bool.noConfusion), if_pos h]
theorem had_one (OR : OkRec bars ss b ks) {e : Int} (h : inR e (nthB (rngL bars ss b ks) ss.length) = true) : hadE bars ss b ks ⟨e, e⟩ = 0 := by
  have ok := rng_ok (i := ss.length) OR (Nat.le_refl _)
  have h1 := inR_iff.1 h
  refine hadE_of OR ⟨Int.le_refl _, ?_, ?_⟩ (meets_iff.2 ⟨?_, ?_⟩)
  · have := ok.2.1; show (0 : Int) ≤ e; omega
  · have := ok.2.2; show e ≤ 1000; omega
  · exact h1.1
  · exact h1.2
theorem of_had (h : hadE bars ss b ks m = 0) : OkRec bars ss b ks ∧ OkR m ∧ meets (nthB (rngL bars ss b ks) ss.length) m = true := by
  obtain ⟨h1, h2, h3⟩ := of_hadE h
  exact ⟨h1, h2, by rw [rng_last h1]; exact h3⟩
theorem had_last (h : hadE bars ss b ks m = 0) : nthB (hadV bars ss b ks m) ss.length = meet (nthB (rngL bars ss b ks) ss.length) m := by
  have OR := (of_had h).1
  rw [rng_last OR]
  unfold hadV
  rw [if_pos h]
  have := hadL_last (pick ss (nats ks)) (nthB bars b.toNat) m
  rw [pick_len OR.ways] at this
  exact this
theorem had_in (h : hadE bars ss b ks m = 0) (hi : i ≤ ss.length) : (nthB (rngL bars ss b ks) i).lo ≤ (nthB (hadV bars ss b ks m) i).lo ∧ (nthB (hadV bars ss b ks m) i).hi ≤ (nthB (rngL bars ss b ks) i).hi := by
  obtain ⟨OR, hm, hmt⟩ := of_hadE h
  unfold hadV rngL
  rw [if_pos h, if_pos (recE_of OR)]
  exact hadL_in (pick_ok OR.works.sok OR.ways) (OR.works.bok _ (nthB_mem OR.bhi)) hm.1 hmt i (by rw [pick_len OR.ways]; exact hi)
theorem hist_hadV (h : hadE bars ss b ks m = 0) (hh : histE bars ss b ks hs = 0) (hl : inR (nthI hs ss.length) m = true) (hi : i ≤ ss.length) : inR (nthI hs i) (nthB (hadV bars ss b ks m) i) = true := by
  obtain ⟨OR, hm, hmt⟩ := of_hadE h
  obtain ⟨_, hlen, hB⟩ := histE_histB hh
  have hx : hs[(pick ss (nats ks)).length]? = some (nthI hs ss.length) := by
    rw [pick_len OR.ways]
    have hq : ss.length < hs.length := by omega
    simp [nthI, hq]
  obtain ⟨y, hy, d, hd, hin⟩ := hist_had (pick_ok OR.works.sok OR.ways) (OR.works.bok _ (nthB_mem OR.bhi)) hm.1 hB hx hl i (by rw [pick_len OR.ways]; exact hi)
  unfold hadV
  rw [if_pos h, nthI_of hy, nthB_of hd]
  exact hin
theorem histV_last (h : hadE bars ss b ks m = 0) : inR (nthI (histV bars ss b ks m) ss.length) m = true := by
  obtain ⟨x, hx, hm⟩ := (histV_ok h).2
  rw [nthI_of hx]; exact hm
theorem histV_had (h : hadE bars ss b ks m = 0) (hi : i ≤ ss.length) : inR (nthI (histV bars ss b ks m) i) (nthB (hadV bars ss b ks m) i) = true :=
  hist_hadV h (histV_histE h) (histV_last h) hi
end
end Go.Proofs.Ytkibdciomheekaa

set_option linter.all false
namespace Go.Proofs.Ytkibdciomheekaa
open Go.RowKit Hp

def fineP (bars : List Rg) (ss : List Stp) : Prop := ¬ greatP bars ss ∧ worksE bars ss = 0
def FinePost (bars : List Rg) (ss : List Stp) (w : World) (e : Ending) (w' : World) : Prop := ∃ q, e = .returned (.bool q) ∧ (q = true ↔ fineP bars ss) ∧ Below w.heap.size w w'
theorem FinePost.no {bars : List Rg} {ss : List Stp} {w w' : World} (h : ¬ fineP bars ss) (hb : Below w.heap.size w w') : FinePost bars ss w (.returned (.bool false)) w' := ⟨false, rfl, ⟨fun q => Bool.noConfusion q, fun q => (h q).elim⟩, hb⟩
theorem FinePost.yes {bars : List Rg} {ss : List Stp} {w w' : World} (h : fineP bars ss) (hb : Below w.heap.size w w') : FinePost bars ss w (.returned (.bool true)) w' := ⟨true, rfl, ⟨fun _ => h, fun _ => rfl⟩, hb⟩

set_option maxHeartbeats 8000000 in
set_option maxRecDepth 100000 in
theorem fine_any (bars : List Rg) (ss : List Stp) (vb vs : Value) (w : World) (hB : RR w w.heap.size vb bars) (hS : RP w w.heap.size vs ss) :
    Calls Try.prog 43 #[.agg #[vb, vs]] w (FinePost bars ss w) := by
  obtain ⟨Ab, cb, rfl⟩ := hB.slice
  obtain ⟨As, cs, rfl⟩ := hS.slice
  obtain ⟨n0, hn0⟩ : ∃ n, w.heap.size = n := ⟨_, rfl⟩
  have hC : Below n0 w w := Below.refl _ _
  go_enter Try.func43, Try.ntmps43
  go_upto_region 1 with fail
  have hqbx : n0 ≤ n0 := by have := hC.size; omega
  have bx : BK (w.alloc (.cells #[.slice Ab bars.length cb, .slice As ss.length cs] 25)) (n0) #[.slice Ab bars.length cb, .slice As ss.length cs] 25 := BK.new' _ _ _ (n0) hn0
  have hsbx : (w.alloc (.cells #[.slice Ab bars.length cb, .slice As ss.length cs] 25)).heap.size = n0 + 1 := by simp [hn0]
  replace hC : Below n0 w (w.alloc (.cells #[.slice Ab bars.length cb, .slice As ss.length cs] 25)) := Below.alloc hC (by have := hC.size; omega) _
  replace hB := (RS.below hB (w' := (w.alloc (.cells #[.slice Ab bars.length cb, .slice As ss.length cs] 25))) (Below.alloc (Below.refl _ _) (Nat.le_refl _) _)).more (B' := (w.alloc (.cells #[.slice Ab bars.length cb, .slice As ss.length cs] 25)).heap.size) (by simp)
  replace hS := (RP.below hS (w' := (w.alloc (.cells #[.slice Ab bars.length cb, .slice As ss.length cs] 25))) (Below.alloc (Below.refl _ _) (Nat.le_refl _) _)).more (B' := (w.alloc (.cells #[.slice Ab bars.length cb, .slice As ss.length cs] 25)).heap.size) (by simp)
  generalize (w.alloc (.cells #[.slice Ab bars.length cb, .slice As ss.length cs] 25)) = Wbx at *
  have lbx := bx.lt
  have bxc0 := bx.cell 0
  have bxc1 := bx.cell 1
  simp at bxc0 bxc1
  go_wp2_with fail
  clear lbx bxc0 bxc1
  clear hsbx
  refine (great_any bars ss _ _ _ hB hS).mono ?_
  rintro e w1 ⟨q, rfl, hq, hb⟩
  replace hC : Below n0 w w1 := hC.trans (hb.mono (by have := hC.size; omega))
  replace hB := (RS.below hB hb).more hb.size
  replace hS := (RP.below hS hb).more hb.size
  replace bx := bx.below hb bx.lt
  clear hb
  cases q
  case true =>
    have HE := Lib.hid (show ¬ fineP bars ss from fun h => h.1 (hq.1 rfl))
    clear hq
    go_wp2_with fail
    go_ret
    exact FinePost.no HE.out (by (try rw [hn0]); exact hC)
  have HG := Lib.hid (show ¬ greatP bars ss from fun h => Bool.noConfusion (hq.2 h))
  clear hq
  have lbx := bx.lt
  have bxc0 := bx.cell 0
  have bxc1 := bx.cell 1
  simp at bxc0 bxc1
  go_wp2_with fail
  clear lbx bxc0 bxc1
  refine (checkWorksR_any bars ss _ _ _ (great_fit HG.out) hB hS).mono ?_
  rintro e w2 ⟨rfl, hb⟩
  replace hC : Below n0 w w2 := hC.trans (hb.mono (by have := hC.size; omega))
  replace hB := (RS.below hB hb).more hb.size
  replace hS := (RP.below hS hb).more hb.size
  replace bx := bx.below hb bx.lt
  clear hb
  obtain ⟨e, he⟩ : ∃ e, worksE bars ss = e := ⟨_, rfl⟩
  rw [he]
  by_cases e0 : e = 0
  case neg =>
    have HE := Lib.hid (show ¬ fineP bars ss from fun h => e0 (he.symm.trans h.2))
    have b1 : (e == 0) = false := beq_eq_false_iff_ne.2 e0
    clear he e0
    go_wp2_with fail
    go_ret
    exact FinePost.no HE.out (by (try rw [hn0]); exact hC)
  subst e0
  have HE := Lib.hid (show fineP bars ss from ⟨HG.out, he⟩)
  clear he
  go_wp2_with fail
  go_ret
  exact FinePost.yes HE.out (by (try rw [hn0]); exact hC)
end Go.Proofs.Ytkibdciomheekaa

set_option linter.all false
namespace Go.Proofs.Ytkibdciomheekaa
open Go.RowKit

/-- The slots of M turned. -/
def setAll (M : List Nat) (u : Nat → Value) (t : Array Value) : Array Value := M.foldl (fun t i => t.setIfInBounds i (u i)) t
theorem region_keep {P : Program} {Q : Exit → Act → World → Prop} {a : Act} {w : World} {id : Nat} {os : Array Oper} (M : List Nat) (J : (Nat → Value) → World → Prop)
    (h1 : (Code.region id os true).wp P (fun e a' w' => e = .normal ∧ a'.tmps = setAll M (fun j => a'.tmps.getD j undef) a.tmps ∧ a'.defers = a.defers ∧ J (fun j => a'.tmps.getD j undef) w') a w)
    (h2 : ∀ u V, J u V → Q .normal { tmps := setAll M u a.tmps, defers := a.defers } V) : (Code.region id os true).wp P Q a w :=
  Code.wp_mono (fun e a' w' h => by
    obtain ⟨e1, e2, e3, e4⟩ := h
    subst e1
    have h5 := h2 _ _ e4
    rw [← e2, ← e3] at h5
    exact h5) h1
end Go.Proofs.Ytkibdciomheekaa

set_option linter.all false
namespace Go.Proofs.Ytkibdciomheekaa
open Go.RowKit Hp

set_option maxHeartbeats 8000000 in
set_option maxRecDepth 100000 in
theorem heatReached_any (bars : List Rg) (ss : List Stp) (vb vs : Value) (us : List Nat) (vu : Value) (ys : List Nat) (vy : Value) (x1 : Nat) (w : World) (hB : RR w w.heap.size vb bars) (hS : RP w w.heap.size vs ss) (hU : RU .u8 w w.heap.size vu us) (hu : ∀ x ∈ us, x ≤ 255) (hY : RU .u32 w w.heap.size vy ys) (hy : ∀ x ∈ ys, x ≤ 4294967295) (h1 : x1 ≤ 65535) :
    Calls Try.prog 8 #[.agg #[vb, vs], vu, vy, .int .u16 x1] w fun x w' => x = .returned (.bool true) ∧ Below w.heap.size w w' := by
  obtain ⟨Ab, cb, rfl⟩ := hB.slice
  obtain ⟨As, cs, rfl⟩ := hS.slice
  obtain ⟨Au, cu, rfl⟩ := ru_slice hU
  obtain ⟨Ay, cy, rfl⟩ := ru_slice hY
  obtain ⟨n0, hn0⟩ : ∃ n, w.heap.size = n := ⟨_, rfl⟩
  have hC : Below n0 w w := Below.refl _ _
  have HUS := Lib.hid hu
  have HYS := Lib.hid hy
  clear hu hy
  go_enter Try.func8, Try.ntmps8
  go_upto_region 1 with fail
  have hqbx : n0 ≤ n0 := by have := hC.size; omega
  have bx : BK (w.alloc (.cells #[.slice Ab bars.length cb, .slice As ss.length cs] 25)) (n0) #[.slice Ab bars.length cb, .slice As ss.length cs] 25 := BK.new' _ _ _ (n0) hn0
  have hsbx : (w.alloc (.cells #[.slice Ab bars.length cb, .slice As ss.length cs] 25)).heap.size = n0 + 1 := by simp [hn0]
  replace hC : Below n0 w (w.alloc (.cells #[.slice Ab bars.length cb, .slice As ss.length cs] 25)) := Below.alloc hC (by have := hC.size; omega) _
  replace hB := (RS.below hB (w' := (w.alloc (.cells #[.slice Ab bars.length cb, .slice As ss.length cs] 25))) (Below.alloc (Below.refl _ _) (Nat.le_refl _) _)).more (B' := (w.alloc (.cells #[.slice Ab bars.length cb, .slice As ss.length cs] 25)).heap.size) (by simp)
  replace hS := (RP.below hS (w' := (w.alloc (.cells #[.slice Ab bars.length cb, .slice As ss.length cs] 25))) (Below.alloc (Below.refl _ _) (Nat.le_refl _) _)).more (B' := (w.alloc (.cells #[.slice Ab bars.length cb, .slice As ss.length cs] 25)).heap.size) (by simp)
  replace hU := (RU.below hU (w' := (w.alloc (.cells #[.slice Ab bars.length cb, .slice As ss.length cs] 25))) (Below.alloc (Below.refl _ _) (Nat.le_refl _) _)).more (B' := (w.alloc (.cells #[.slice Ab bars.length cb, .slice As ss.length cs] 25)).heap.size) (by simp)
  replace hY := (RU.below hY (w' := (w.alloc (.cells #[.slice Ab bars.length cb, .slice As ss.length cs] 25))) (Below.alloc (Below.refl _ _) (Nat.le_refl _) _)).more (B' := (w.alloc (.cells #[.slice Ab bars.length cb, .slice As ss.length cs] 25)).heap.size) (by simp)
  generalize (w.alloc (.cells #[.slice Ab bars.length cb, .slice As ss.length cs] 25)) = Wbx at *
  have lbx := bx.lt
  have bxc0 := bx.cell 0
  have bxc1 := bx.cell 1
  simp at bxc0 bxc1
  go_wp2_with fail
  clear lbx bxc0 bxc1
  clear hsbx
  refine (fine_any bars ss _ _ _ hB hS).mono ?_
  rintro e w1 ⟨q, rfl, hq, hb⟩
  replace hC : Below n0 w w1 := hC.trans (hb.mono (by have := hC.size; omega))
  replace hB := (RS.below hB hb).more hb.size
  replace hS := (RP.below hS hb).more hb.size
  replace hU := (RU.below hU hb).more hb.size
  replace hY := (RU.below hY hb).more hb.size
  replace bx := bx.below hb bx.lt
  clear hb
  cases q
  case false =>
    clear hq
    go_wp2_with fail
    refine (works_any _).mono ?_
    rintro e w2 ⟨rfl, hb⟩
    replace hC : Below n0 w w2 := hC.trans (hb.mono (by have := hC.size; omega))
    replace hB := (RS.below hB hb).more hb.size
    replace hS := (RP.below hS hb).more hb.size
    replace hU := (RU.below hU hb).more hb.size
    replace hY := (RU.below hY hb).more hb.size
    replace bx := bx.below hb bx.lt
    clear hb
    go_wp2_with fail
    exact bodyPost_ret (v := .bool true) (by simp [results, Try.results8, go_sem]) rfl ⟨rfl, by first | exact hC | (rw [hn0]; exact hC) | (with_reducible rw [hn0]; exact bel_of) | exact bel_of⟩
  have hfp := hq.1 rfl
  have HF := Lib.hid (great_fit hfp.1)
  have HV := Lib.hid (okV_of hfp.2)
  clear hq hfp
  simp only [Bool.not_true]
  by_cases zhul : 20 < us.length
  case pos =>
    have zz : ((us.length : Nat) : Int) > 20 := by omega
    clear zhul
    have lbx := bx.lt
    have bxc0 := bx.cell 0
    have bxc1 := bx.cell 1
    simp at bxc0 bxc1
    go_wp2_with fail
    clear lbx bxc0 bxc1
    refine (works_any _).mono ?_
    rintro e w2 ⟨rfl, hb⟩
    replace hC : Below n0 w w2 := hC.trans (hb.mono (by have := hC.size; omega))
    replace hB := (RS.below hB hb).more hb.size
    replace hS := (RP.below hS hb).more hb.size
    replace hU := (RU.below hU hb).more hb.size
    replace hY := (RU.below hY hb).more hb.size
    replace bx := bx.below hb bx.lt
    clear hb
    go_wp2_with fail
    exact bodyPost_ret (v := .bool true) (by simp [results, Try.results8, go_sem]) rfl ⟨rfl, by first | exact hC | (rw [hn0]; exact hC) | (with_reducible rw [hn0]; exact bel_of) | exact bel_of⟩
  have hul : us.length ≤ 20 := by omega
  have zzhul : ¬ ((us.length : Nat) : Int) > 20 := by omega
  clear zhul
  by_cases zhyl : 20 < ys.length
  case pos =>
    have zz : ((ys.length : Nat) : Int) > 20 := by omega
    clear zhyl
    have lbx := bx.lt
    have bxc0 := bx.cell 0
    have bxc1 := bx.cell 1
    simp at bxc0 bxc1
    go_wp2_with fail
    clear lbx bxc0 bxc1
    refine (works_any _).mono ?_
    rintro e w2 ⟨rfl, hb⟩
    replace hC : Below n0 w w2 := hC.trans (hb.mono (by have := hC.size; omega))
    replace hB := (RS.below hB hb).more hb.size
    replace hS := (RP.below hS hb).more hb.size
    replace hU := (RU.below hU hb).more hb.size
    replace hY := (RU.below hY hb).more hb.size
    replace bx := bx.below hb bx.lt
    clear hb
    go_wp2_with fail
    exact bodyPost_ret (v := .bool true) (by simp [results, Try.results8, go_sem]) rfl ⟨rfl, by first | exact hC | (rw [hn0]; exact hC) | (with_reducible rw [hn0]; exact bel_of) | exact bel_of⟩
  have hyl : ys.length ≤ 20 := by omega
  have zzhyl : ¬ ((ys.length : Nat) : Int) > 20 := by omega
  clear zhyl
  have lbx := bx.lt
  have bxc0 := bx.cell 0
  have bxc1 := bx.cell 1
  simp at bxc0 bxc1
  go_wp2_with fail
  clear lbx bxc0 bxc1
  refine (one_any bars ss us _ _ _ _ HV.out HUS.out (by omega) hB hS hU).mono ?_
  rintro e w2 ⟨vk, rfl, hR, hb⟩
  replace hC : Below n0 w w2 := hC.trans (hb.mono (by have := hC.size; omega))
  replace hB := (RS.below hB hb).more hb.size
  replace hS := (RP.below hS hb).more hb.size
  replace hU := (RU.below hU hb).more hb.size
  replace hY := (RU.below hY hb).more hb.size
  replace bx := bx.below hb bx.lt
  clear hb
  have hor := one_rec HV.out us
  obtain ⟨ks, hks⟩ : ∃ l, oneW ss us ss.length = l := ⟨_, rfl⟩
  obtain ⟨b, hbb⟩ : ∃ b : Int, ((oneB bars us : Nat) : Int) = b := ⟨_, rfl⟩
  rw [hks] at hR hor
  rw [hbb] at hor ⊢
  have HOR := Lib.hid hor
  have hs6 := hor.works.sfew
  have hkl := (recE_lens (recE_of hor)).1
  have HKS := Lib.hid hkl
  have HKL2 := Lib.hid (show ks.length ≤ 1000 by omega)
  obtain ⟨Ar, cr, rfl⟩ := ri_slice hR
  clear hks hbb hor hkl
  go_upto_region 4 with fail
  obtain ⟨m1, hm1⟩ : ∃ n, w2.heap.size = n := ⟨_, rfl⟩
  try rw [hm1]
  have hqwx : n0 ≤ m1 := by have := hC.size; omega
  have wx : BK (w2.alloc (.cells #[.int .i64 b, .slice Ar ks.length cr] 42)) (m1) #[.int .i64 b, .slice Ar ks.length cr] 42 := BK.new' _ _ _ (m1) hm1
  have hswx : (w2.alloc (.cells #[.int .i64 b, .slice Ar ks.length cr] 42)).heap.size = m1 + 1 := by simp [hm1]
  replace hC : Below n0 w (w2.alloc (.cells #[.int .i64 b, .slice Ar ks.length cr] 42)) := Below.alloc hC (by have := hC.size; omega) _
  replace hB := (RS.below hB (w' := (w2.alloc (.cells #[.int .i64 b, .slice Ar ks.length cr] 42))) (Below.alloc (Below.refl _ _) (Nat.le_refl _) _)).more (B' := (w2.alloc (.cells #[.int .i64 b, .slice Ar ks.length cr] 42)).heap.size) (by simp)
  replace hS := (RP.below hS (w' := (w2.alloc (.cells #[.int .i64 b, .slice Ar ks.length cr] 42))) (Below.alloc (Below.refl _ _) (Nat.le_refl _) _)).more (B' := (w2.alloc (.cells #[.int .i64 b, .slice Ar ks.length cr] 42)).heap.size) (by simp)
  replace hU := (RU.below hU (w' := (w2.alloc (.cells #[.int .i64 b, .slice Ar ks.length cr] 42))) (Below.alloc (Below.refl _ _) (Nat.le_refl _) _)).more (B' := (w2.alloc (.cells #[.int .i64 b, .slice Ar ks.length cr] 42)).heap.size) (by simp)
  replace hY := (RU.below hY (w' := (w2.alloc (.cells #[.int .i64 b, .slice Ar ks.length cr] 42))) (Below.alloc (Below.refl _ _) (Nat.le_refl _) _)).more (B' := (w2.alloc (.cells #[.int .i64 b, .slice Ar ks.length cr] 42)).heap.size) (by simp)
  replace bx := bx.alloc (.cells #[.int .i64 b, .slice Ar ks.length cr] 42)
  replace hR := (RS.below hR (w' := (w2.alloc (.cells #[.int .i64 b, .slice Ar ks.length cr] 42))) (Below.alloc (Below.refl _ _) (Nat.le_refl _) _)).more (B' := (w2.alloc (.cells #[.int .i64 b, .slice Ar ks.length cr] 42)).heap.size) (by simp)
  generalize (w2.alloc (.cells #[.int .i64 b, .slice Ar ks.length cr] 42)) = Wwx at *
  clear hm1
  clear hswx
  have lbx := bx.lt
  have bxc0 := bx.cell 0
  have bxc1 := bx.cell 1
  simp at bxc0 bxc1
  have lwx := wx.lt
  have wxc0 := wx.cell 0
  have wxc1 := wx.cell 1
  simp at wxc0 wxc1
  go_wp2_with fail
  clear lbx bxc0 bxc1
  clear lwx wxc0 wxc1
  refine (true_any bars ss b ks ys _ _ _ _ _ HF.out HOR.out HYS.out (by omega) hB hS hR hY).mono ?_
  rintro e w3 ⟨vh, rfl, hH, hb⟩
  replace hC : Below n0 w w3 := hC.trans (hb.mono (by have := hC.size; omega))
  replace hB := (RS.below hB hb).more hb.size
  replace hS := (RP.below hS hb).more hb.size
  replace hU := (RU.below hU hb).more hb.size
  replace hY := (RU.below hY hb).more hb.size
  replace bx := bx.below hb bx.lt
  replace hR := (RS.below hR hb).more hb.size
  replace wx := wx.below hb wx.lt
  clear hb
  have hhe := truV_ok ys HOR.out
  have hhl := truV_len (bars := bars) (ss := ss) (b := b) (ks := ks) (ys := ys)
  obtain ⟨hs, hhs⟩ : ∃ l, truV bars ss b ks ys = l := ⟨_, rfl⟩
  rw [hhs] at hH hhe hhl
  have HHE := Lib.hid hhe
  have HHL := Lib.hid hhl
  have HHL2 := Lib.hid (show hs.length ≤ 1000 by omega)
  have HTV := Lib.hid hhs
  obtain ⟨Ah, ch, rfl⟩ := ri_slice hH
  clear hhs hhe hhl
  have lbx := bx.lt
  have bxc0 := bx.cell 0
  have bxc1 := bx.cell 1
  simp at bxc0 bxc1
  have lwx := wx.lt
  have wxc0 := wx.cell 0
  have wxc1 := wx.cell 1
  simp at wxc0 wxc1
  go_wp2_with fail
  clear lbx bxc0 bxc1
  clear lwx wxc0 wxc1
  refine (ranges_any bars ss b ks _ _ _ _ HF.out HKL2.out hB hS hR).mono ?_
  rintro e w4 ⟨vl, rfl, hL, hb⟩
  replace hC : Below n0 w w4 := hC.trans (hb.mono (by have := hC.size; omega))
  replace hB := (RS.below hB hb).more hb.size
  replace hS := (RP.below hS hb).more hb.size
  replace hU := (RU.below hU hb).more hb.size
  replace hY := (RU.below hY hb).more hb.size
  replace bx := bx.below hb bx.lt
  replace hR := (RS.below hR hb).more hb.size
  replace wx := wx.below hb wx.lt
  replace hH := (RS.below hH hb).more hb.size
  clear hb
  rw [recE_of HOR.out]
  have hll := rngL_len' (recE_of HOR.out)
  obtain ⟨L, hLe⟩ : ∃ l, rngL bars ss b ks = l := ⟨_, rfl⟩
  rw [hLe] at hL hll
  have HLE := Lib.hid hLe
  have HLL := Lib.hid hll
  have hl7 : L.length ≤ 1000 := by omega
  obtain ⟨Al, cl, rfl⟩ := rr_slice hL
  clear hLe hll
  have nlh : (((L.length : Nat) : Int) != ((hs.length : Nat) : Int)) = false := by rw [HLL.out, HHL.out]; simp
  have lbx := bx.lt
  have bxc0 := bx.cell 0
  have bxc1 := bx.cell 1
  simp at bxc0 bxc1
  have lwx := wx.lt
  have wxc0 := wx.cell 0
  have wxc1 := wx.cell 1
  simp at wxc0 wxc1
  go_wp2_with fail
  clear lbx bxc0 bxc1
  clear lwx wxc0 wxc1
  clear nlh zzhul zzhyl hul hyl
  refine (history_any bars ss b ks hs _ _ _ _ _ HF.out HKL2.out hB hS hR hH HHL2.out).mono ?_
  rintro e w5 ⟨rfl, hb⟩
  replace hC : Below n0 w w5 := hC.trans (hb.mono (by have := hC.size; omega))
  replace hB := (RS.below hB hb).more hb.size
  replace hS := (RP.below hS hb).more hb.size
  replace hU := (RU.below hU hb).more hb.size
  replace hY := (RU.below hY hb).more hb.size
  replace bx := bx.below hb bx.lt
  replace hR := (RS.below hR hb).more hb.size
  replace wx := wx.below hb wx.lt
  replace hH := (RS.below hH hb).more hb.size
  replace hL := (RS.below hL hb).more hb.size
  clear hb
  rw [HHE.out]
  go_wp2_with fail
  go_loopw [13] (fun i wr => ∃ k : Nat, k ≤ L.length ∧ i = .int .i64 (k : Int) ∧ Below w5.heap.size w5 wr) (fun i _ => L.length - (intOf i).toNat)
  case atStart => exact ⟨0, Nat.zero_le _, rfl, Below.refl _ _⟩
  case round =>
    obtain ⟨k, hkk, rfl, hb⟩ := hrel
    have hbrk := hb
    replace hC : Below n0 w wr := hC.trans (hb.mono (by have := hC.size; omega))
    replace hB := (RS.below hB hb).more hb.size
    replace hS := (RP.below hS hb).more hb.size
    replace hU := (RU.below hU hb).more hb.size
    replace hY := (RU.below hY hb).more hb.size
    replace bx := bx.below hb bx.lt
    replace hR := (RS.below hR hb).more hb.size
    replace wx := wx.below hb wx.lt
    replace hH := (RS.below hH hb).more hb.size
    replace hL := (RS.below hL hb).more hb.size
    clear hb
    by_cases hlt : k < L.length
    case pos =>
      have hlt' : (k : Int) < (L.length : Int) := by omega
      have hks : k ≤ ss.length := by have := HLL.out; omega
      have hkh : k < hs.length := by have := HHL.out; omega
      have hkh' : (k : Int) < (hs.length : Int) := by omega
      have hin := hist_rng HHE.out hks
      have hok := hard_iff.2 (rng_ok HOR.out hks)
      rw [HLE.out] at hin hok
      obtain ⟨A_h, c_h, b_h, o_h, hve, hA, hc⟩ := RI.cells hH
      obtain ⟨rfl, hb_h⟩ := hA (by omega)
      injection hve with q1 q2 q3
      first | (subst q1; subst q3) | (injection q1 with q1; injection q1 with q4 q5; subst q4; subst q5; subst q3)
      have d_h := hc k hkh
      clear hA hc q2
      obtain ⟨A_l, c_l, b_l, o_l, hve, hA, hc⟩ := RR.cells hL
      obtain ⟨rfl, hb_l⟩ := hA (by omega)
      injection hve with q1 q2 q3
      first | (subst q1; subst q3) | (injection q1 with q1; injection q1 with q4 q5; subst q4; subst q5; subst q3)
      obtain ⟨d_l0, d_l1⟩ := hc k hlt
      clear hA hc q2
      obtain ⟨x, hx⟩ : ∃ x, nthI hs k = x := ⟨_, rfl⟩
      obtain ⟨⟨lo, hi⟩, hr⟩ : ∃ r, nthB L k = r := ⟨_, rfl⟩
      rw [hx] at hin d_h
      rw [hr] at hin hok d_l0 d_l1
      dsimp only at d_l0 d_l1
      have HIN := Lib.hid hin
      have HOK := Lib.hid hok
      clear hin hok hx hr hks
      go_upto_region 11 with fail
      refine wp_region_noPanic (plain_any [0, 1, 2, 3, 4, 5, 6, 7, 9, 10, 11, 12, 13, 14, 16, 17] (Below wr.heap.size wr) mixed ?_)
      refine any_tk 0 ?_
      have d0z : Below wr.heap.size wr wr.drew := by exact bel_of
      refine any_tk 1 ?_
      refine any_tk 2 ?_
      refine any_tk 3 ?_
      refine any_tk 4 ?_
      refine any_tk 5 ?_
      refine any_tk 6 ?_
      refine any_tk 7 ?_
      have qz1 := d0z.size
      refine any_run1 (i := 8) (by kernel_rfl) (by rfl) (by kernel_rfl) ?_
      intro K hK
      go_wp2_with fail
      refine (in_any x ⟨lo, hi⟩ _).mono ?_
      rintro e vz1 ⟨rfl, hb⟩
      rw [HIN.out]
      have ez1 : Below wr.heap.size wr vz1 := d0z.trans (hb.mono d0z.size)
      clear hb
      refine hK _ _ (fun _ => ez1) ?_
      clear hK K
      refine any_tk 9 ?_
      refine any_tk 10 ?_
      refine any_tk 11 ?_
      refine any_tk 12 ?_
      refine any_tk 13 ?_
      refine any_tk 14 ?_
      have qz2 := ez1.size
      refine any_run1 (i := 15) (by kernel_rfl) (by rfl) (by kernel_rfl) ?_
      intro K hK
      go_wp2_with fail
      refine (isHardR_any ⟨lo, hi⟩ _).mono ?_
      rintro e vz2 ⟨rfl, hb⟩
      rw [HOK.out]
      have ez2 : Below wr.heap.size wr vz2 := ez1.trans (hb.mono ez1.size)
      clear hb
      refine hK _ _ (fun _ => ez2) ?_
      clear hK K
      refine any_tk 16 ?_
      refine any_tk 17 ?_
      refine any_done (by kernel_rfl) (NoPanic.normal ?_)
      have hb := ez2
      replace hC : Below n0 w vz2 := hC.trans (hb.mono (by have := hC.size; omega))
      replace hB := (RS.below hB hb).more hb.size
      replace hS := (RP.below hS hb).more hb.size
      replace hU := (RU.below hU hb).more hb.size
      replace hY := (RU.below hY hb).more hb.size
      replace bx := bx.below hb bx.lt
      replace hR := (RS.below hR hb).more hb.size
      replace wx := wx.below hb wx.lt
      replace hH := (RS.below hH hb).more hb.size
      replace hL := (RS.below hL hb).more hb.size
      replace hbrk := hbrk.trans (hb.mono hbrk.size)
      clear hb
      clear d_h d_l0 d_l1 hb_h hb_l hkh hkh'
      go_wp2_with fail
      go_roundw
      case rel => exact ⟨k + 1, by omega, by go_num, hbrk⟩
      case measure => simp [intOf]; omega
    have hlt' : ¬ (k : Int) < (L.length : Int) := by omega
    have hsl : ss.length < L.length := by have := HLL.out; omega
    have hsl' : (ss.length : Int) < (L.length : Int) := by omega
    have wl : IntKind.i64.wrap ((L.length : Int) - 1) = (ss.length : Int) := by have := HLL.out; rw [IntKind.wrap_i64]; omega
    have wl2 : (L.length : Int) - 1 = (ss.length : Int) := by have := HLL.out; omega
    have hok := rng_ok HOR.out (Nat.le_refl ss.length)
    rw [HLE.out] at hok
    obtain ⟨A_l, c_l, b_l, o_l, hve, hA, hc⟩ := RR.cells hL
    obtain ⟨rfl, hb_l⟩ := hA (by omega)
    injection hve with q1 q2 q3
    first | (subst q1; subst q3) | (injection q1 with q1; injection q1 with q4 q5; subst q4; subst q5; subst q3)
    obtain ⟨d_l0, d_l1⟩ := hc ss.length hsl
    clear hA hc q2
    obtain ⟨⟨la, lb⟩, hr⟩ : ∃ r, nthB L ss.length = r := ⟨_, rfl⟩
    rw [hr] at hok d_l0 d_l1
    dsimp only at d_l0 d_l1
    have HLA := Lib.hid hr
    obtain ⟨ho1, ho2, ho3⟩ := hok
    dsimp only at ho1 ho2 ho3
    clear hr hlt
    go_upto_region 14 with fail
    obtain ⟨m2, hm2⟩ : ∃ n, wr.heap.size = n := ⟨_, rfl⟩
    try rw [hm2]
    have hqlx : n0 ≤ m2 := by have := hC.size; omega
    have lx : BK (wr.alloc (.cells #[.int .i64 la, .int .i64 lb] 33)) (m2) #[.int .i64 la, .int .i64 lb] 33 := BK.new' _ _ _ (m2) hm2
    have hslx : (wr.alloc (.cells #[.int .i64 la, .int .i64 lb] 33)).heap.size = m2 + 1 := by simp [hm2]
    replace hC : Below n0 w (wr.alloc (.cells #[.int .i64 la, .int .i64 lb] 33)) := Below.alloc hC (by have := hC.size; omega) _
    replace hB := (RS.below hB (w' := (wr.alloc (.cells #[.int .i64 la, .int .i64 lb] 33))) (Below.alloc (Below.refl _ _) (Nat.le_refl _) _)).more (B' := (wr.alloc (.cells #[.int .i64 la, .int .i64 lb] 33)).heap.size) (by simp)
    replace hS := (RP.below hS (w' := (wr.alloc (.cells #[.int .i64 la, .int .i64 lb] 33))) (Below.alloc (Below.refl _ _) (Nat.le_refl _) _)).more (B' := (wr.alloc (.cells #[.int .i64 la, .int .i64 lb] 33)).heap.size) (by simp)
    replace hU := (RU.below hU (w' := (wr.alloc (.cells #[.int .i64 la, .int .i64 lb] 33))) (Below.alloc (Below.refl _ _) (Nat.le_refl _) _)).more (B' := (wr.alloc (.cells #[.int .i64 la, .int .i64 lb] 33)).heap.size) (by simp)
    replace hY := (RU.below hY (w' := (wr.alloc (.cells #[.int .i64 la, .int .i64 lb] 33))) (Below.alloc (Below.refl _ _) (Nat.le_refl _) _)).more (B' := (wr.alloc (.cells #[.int .i64 la, .int .i64 lb] 33)).heap.size) (by simp)
    replace bx := bx.alloc (.cells #[.int .i64 la, .int .i64 lb] 33)
    replace hR := (RS.below hR (w' := (wr.alloc (.cells #[.int .i64 la, .int .i64 lb] 33))) (Below.alloc (Below.refl _ _) (Nat.le_refl _) _)).more (B' := (wr.alloc (.cells #[.int .i64 la, .int .i64 lb] 33)).heap.size) (by simp)
    replace wx := wx.alloc (.cells #[.int .i64 la, .int .i64 lb] 33)
    replace hH := (RS.below hH (w' := (wr.alloc (.cells #[.int .i64 la, .int .i64 lb] 33))) (Below.alloc (Below.refl _ _) (Nat.le_refl _) _)).more (B' := (wr.alloc (.cells #[.int .i64 la, .int .i64 lb] 33)).heap.size) (by simp)
    replace hL := (RS.below hL (w' := (wr.alloc (.cells #[.int .i64 la, .int .i64 lb] 33))) (Below.alloc (Below.refl _ _) (Nat.le_refl _) _)).more (B' := (wr.alloc (.cells #[.int .i64 la, .int .i64 lb] 33)).heap.size) (by simp)
    generalize (wr.alloc (.cells #[.int .i64 la, .int .i64 lb] 33)) = Wlx at *
    clear hm2
    clear hslx
    clear d_l0 d_l1 hb_l hlt' wl wl2 hsl hsl'
    have yf0 : (lb - la + 1 == 0) = false := beq_eq_false_iff_ne.2 (by omega)
    have yf2 : lb - la + 1 ≠ 0 := by omega
    have yf3 : (lb - la + 1 = 0) = False := eq_false yf2
    have h0x : 0 ≤ (x1 : Int) % (lb - la + 1) := Int.emod_nonneg _ yf2
    have h0y : (x1 : Int) % (lb - la + 1) < lb - la + 1 := Int.emod_lt_of_pos _ (by omega)
    obtain ⟨x, hx⟩ : ∃ x, (x1 : Int) % (lb - la + 1) = x := ⟨_, rfl⟩
    rw [hx] at h0x h0y
    have t2 : (x1 : Int).tmod (lb - la + 1) = x := by rw [Int.tmod_eq_emod_of_nonneg (by omega), hx]
    have w1 : IntKind.i64.wrap (x1 : Int) = (x1 : Int) := by rw [IntKind.wrap_i64]; omega
    have w2 : IntKind.i64.wrap (lb - la) = lb - la := by rw [IntKind.wrap_i64]; omega
    have w3 : IntKind.i64.wrap (lb - la + 1) = lb - la + 1 := by rw [IntKind.wrap_i64]; omega
    have w4 : IntKind.i64.wrap x = x := by rw [IntKind.wrap_i64]; omega
    obtain ⟨e3, he3⟩ : ∃ h, la + x = h := ⟨_, rfl⟩
    have w5 : IntKind.i64.wrap (la + x) = e3 := by rw [IntKind.wrap_i64]; omega
    have HEN : Hid (∀ j, j < 3 → inR (nthI [la, lb, e3] j) ⟨la, lb⟩ = true) := Lib.hid (by
      intro j hj
      refine inR_iff.2 ?_
      match j, hj with
      | 0, _ => exact ⟨Int.le_refl _, ho1⟩
      | 1, _ => exact ⟨ho1, Int.le_refl _⟩
      | 2, _ => show la ≤ e3 ∧ e3 ≤ lb; omega)
    clear hx he3 h0x h0y
    have llx := lx.lt
    have lxc0 := lx.cell 0
    have lxc1 := lx.cell 1
    simp at lxc0 lxc1
    refine wp_region_noPanic (plain_any [0, 1, 2, 3, 4, 5, 6, 7, 8, 9, 10, 11, 12, 13, 14, 15] (Below Wlx.heap.size Wlx) mixed ?_)
    refine any_tk 0 ?_
    have d0z : Below Wlx.heap.size Wlx Wlx.drew := by exact bel_of
    refine any_tk 1 ?_
    refine any_tk 2 ?_
    refine any_tk 3 ?_
    refine any_tk 4 ?_
    refine any_tk 5 ?_
    refine any_tk 6 ?_
    refine any_tk 7 ?_
    refine any_tk 8 ?_
    refine any_tk 9 ?_
    refine any_tk 10 ?_
    refine any_tk 11 ?_
    refine any_tk 12 ?_
    refine any_tk 13 ?_
    refine any_tk 14 ?_
    refine any_tk 15 ?_
    have qz1 := d0z.size
    have ez1 : Below Wlx.heap.size Wlx (Wlx.drew.alloc (.cells #[.int .i64 la, .int .i64 lb, .int .i64 e3] 2)) := by exact bel_of
    refine any_run1 (i := 16) (by kernel_rfl) (by rfl) (by kernel_rfl) ?_
    intro K hK
    go_wp2_with fail
    refine hK _ _ (fun _ => ez1) ?_
    clear hK K
    have hes : RI (Wlx.drew.alloc (.cells #[.int .i64 la, .int .i64 lb, .int .i64 e3] 2)) (Wlx.drew.alloc (.cells #[.int .i64 la, .int .i64 lb, .int .i64 e3] 2)).heap.size (.slice (some ⟨_, 0, none⟩) 3 3) [la, lb, e3] := rs_new (BK.new _ _ _) (BK.new _ _ _).lt rfl
    refine any_run1 (i := 17) (by kernel_rfl) (by rfl) (by kernel_rfl) ?_
    intro K hK
    go_wp2_with fail
    refine hK _ _ (fun _ => ez1) ?_
    clear hK K
    refine any_done (by kernel_rfl) (NoPanic.normal ?_)
    have hb := ez1
    replace hC : Below n0 w (Wlx.drew.alloc (.cells #[.int .i64 la, .int .i64 lb, .int .i64 e3] 2)) := hC.trans (hb.mono (by have := hC.size; omega))
    replace hB := (RS.below hB hb).more hb.size
    replace hS := (RP.below hS hb).more hb.size
    replace hU := (RU.below hU hb).more hb.size
    replace hY := (RU.below hY hb).more hb.size
    replace bx := bx.below hb bx.lt
    replace hR := (RS.below hR hb).more hb.size
    replace wx := wx.below hb wx.lt
    replace hH := (RS.below hH hb).more hb.size
    replace hL := (RS.below hL hb).more hb.size
    replace lx := lx.below hb lx.lt
    clear hb
    clear llx lxc0 lxc1
    clear yf0 yf2 yf3 t2 w1 w2 w3 w4 w5
    obtain ⟨ge, hge⟩ : ∃ n, Wlx.heap.size = n := ⟨_, rfl⟩
    rw [show Wlx.drew.heap.size = ge from hge] at hes
    rw [hge, show (Wlx.alloc (.cells #[.int .i64 la, .int .i64 lb, .int .i64 e3] 2)).drew = Wlx.drew.alloc (.cells #[.int .i64 la, .int .i64 lb, .int .i64 e3] 2) from rfl]
    clear hge
    generalize (Wlx.drew.alloc (.cells #[.int .i64 la, .int .i64 lb, .int .i64 e3] 2)) = W2 at *
    go_wp2_with fail
    skip
    go_loopw [16] (fun i wr => ∃ k : Nat, k ≤ 3 ∧ i = .int .i64 (k : Int) ∧ Below W2.heap.size W2 wr) (fun i _ => 3 - (intOf i).toNat)
    case atStart => exact ⟨0, Nat.zero_le _, rfl, Below.refl _ _⟩
    case round =>
      obtain ⟨j, hkj, rfl, hb⟩ := hrel
      have hbrj := hb
      replace hC : Below n0 w wr := hC.trans (hb.mono (by have := hC.size; omega))
      replace hB := (RS.below hB hb).more hb.size
      replace hS := (RP.below hS hb).more hb.size
      replace hU := (RU.below hU hb).more hb.size
      replace hY := (RU.below hY hb).more hb.size
      replace bx := bx.below hb bx.lt
      replace hR := (RS.below hR hb).more hb.size
      replace wx := wx.below hb wx.lt
      replace hH := (RS.below hH hb).more hb.size
      replace hL := (RS.below hL hb).more hb.size
      replace hes := (RS.below hes hb).more hb.size
      clear hb
      by_cases hj3 : j < 3
      case neg =>
        have hj3' : ¬ (j : Int) < 3 := by omega
        go_wp2_with fail
        clear hbrj
        refine (works_any _).mono ?_
        rintro e w6 ⟨rfl, hb⟩
        replace hC : Below n0 w w6 := hC.trans (hb.mono (by have := hC.size; omega))
        replace hB := (RS.below hB hb).more hb.size
        replace hS := (RP.below hS hb).more hb.size
        replace hU := (RU.below hU hb).more hb.size
        replace hY := (RU.below hY hb).more hb.size
        replace bx := bx.below hb bx.lt
        replace hR := (RS.below hR hb).more hb.size
        replace wx := wx.below hb wx.lt
        replace hH := (RS.below hH hb).more hb.size
        replace hL := (RS.below hL hb).more hb.size
        replace hes := (RS.below hes hb).more hb.size
        clear hb
        go_wp2_with fail
        exact bodyPost_ret (v := .bool true) (by simp [results, Try.results8, go_sem]) rfl ⟨rfl, by first | exact hC | (rw [hn0]; exact hC) | (with_reducible rw [hn0]; exact bel_of) | exact bel_of⟩
      have hj3' : (j : Int) < 3 := by omega
      have hin := HEN.out j hj3
      obtain ⟨e, he⟩ : ∃ e, nthI [la, lb, e3] j = e := ⟨_, rfl⟩
      obtain ⟨A_e, c_e, b_e, o_e, hve, hA, hc⟩ := RI.cells hes
      obtain ⟨rfl, hb_e⟩ := hA (by simp)
      injection hve with q1 q2 q3
      injection q1 with q1
      injection q1 with q4 q5
      subst q4 q5
      have d_e := hc j hj3
      rw [he] at hin d_e
      rw [Nat.zero_add] at d_e
      rw [← HLA.out, ← HLE.out] at hin
      have HHD := Lib.hid (had_one HOR.out hin)
      clear hA hc q2 q3 hin he
      go_wp2_with fail
      go_upto_region 18 with fail
      refine region_keep [17, 117, 118, 119, 120, 121, 122, 123, 124, 125] (fun u V => ∃ gm, u 17 = .pointer (some ⟨gm, 0, none⟩) ∧ BK V gm #[.int .i64 e, .int .i64 e] 33 ∧ Below wr.heap.size wr V) ?_ ?_
      ·skip
       have d0y : Below wr.heap.size wr wr.drew := by exact bel_of
       refine wp_region_noPanic (plain_any [0, 1, 2, 3, 4, 5, 6, 7] (Below wr.heap.size wr) mixed ?_)
       refine any_tk 0 ?_
       refine any_tk 1 ?_
       refine any_tk 2 ?_
       refine any_tk 3 ?_
       refine any_tk 4 ?_
       refine any_tk 5 ?_
       refine any_tk 6 ?_
       refine any_tk 7 ?_
       have dy1 : Below wr.heap.size wr wr.drew := by exact bel_of
       have hdr : Below wr.heap.size wr wr.drew := Below.drew (Below.refl _ _)
       clear hdr
       generalize wr.drew = uy2 at *
       refine any_run2 (i := 8) (j := 9) (by kernel_rfl) (by rfl) (by rfl) (by rfl) (by rfl) ?_ ?_
       ·skip
        intro K hK
        have qy5 := dy1.size
        go_wp2_with fail
        refine (rg_any e e _).mono ?_
        rintro e vy4 ⟨rfl, hb⟩
        have ey3 : Below wr.heap.size wr vy4 := dy1.trans (hb.mono dy1.size)
        clear hb
        refine hK _ _ (fun _ => ey3) ?_
        clear hK K
        refine any_run1 (i := 9) (by kernel_rfl) (by rfl) (by kernel_rfl) ?_
        intro K hK
        have qy7 := ey3.size
        have ey6 : Below wr.heap.size wr (vy4.alloc (.cells #[.int .i64 0, .int .i64 0] 33)) := Below.alloc ey3 ey3.size _
        have hnx : Below vy4.heap.size vy4 (vy4.alloc (.cells #[.int .i64 0, .int .i64 0] 33)) := Below.alloc (Below.refl _ _) (Nat.le_refl _) _
        go_wp2_with fail
        have km : BK (vy4.alloc (.cells #[.int .i64 0, .int .i64 0] 33)) vy4.heap.size #[.int .i64 0, .int .i64 0] 33 := BK.new _ _ _
        refine hK _ _ (fun _ => ey6) ?_
        clear hK K hnx
        generalize (vy4.alloc (.cells #[.int .i64 0, .int .i64 0] 33)) = vy8 at *
        obtain ⟨gkm, hgkm⟩ : ∃ g, vy4.heap.size = g := ⟨_, rfl⟩
        have hqkm : wr.heap.size ≤ gkm := by omega
        rw [hgkm] at km
        try rw [hgkm]
        clear hgkm
        refine any_run1 (i := 10) (by kernel_rfl) (by rfl) (by kernel_rfl) ?_
        intro K hK
        have lkm := km.lt
        have y0 := km.cell 0
        have f0 := km.frozen 0
        have y1 := km.cell 1
        have f1 := km.frozen 1
        simp at y0 y1
        go_wp2_with fail
        have ey9 : Below wr.heap.size wr ((vy8.setCell ⟨gkm, 0, none⟩ (.int .i64 e)).setCell ⟨gkm, 1, none⟩ (.int .i64 e)) := by exact bel_of
        have km_ := ((km.set 0 (.int .i64 e)).set 1 (.int .i64 e))
        simp at km_
        clear km; have km := km_; clear km_
        clear y0 f0 y1 f1
        refine hK _ _ (fun _ => ey9) ?_
        clear hK K
        generalize ((vy8.setCell ⟨gkm, 0, none⟩ (.int .i64 e)).setCell ⟨gkm, 1, none⟩ (.int .i64 e)) = vy10 at *
        refine any_done (by kernel_rfl) (NoPanic.normal ?_)
        exact ⟨rfl, by simp [setAll], rfl, _, rfl, km, ey9⟩
       ·skip
        intro K hK
        have qy12 := dy1.size
        have ey11 : Below wr.heap.size wr (uy2.alloc (.cells #[.int .i64 0, .int .i64 0] 33)) := Below.alloc dy1 dy1.size _
        have hnx : Below uy2.heap.size uy2 (uy2.alloc (.cells #[.int .i64 0, .int .i64 0] 33)) := Below.alloc (Below.refl _ _) (Nat.le_refl _) _
        go_wp2_with fail
        have km : BK (uy2.alloc (.cells #[.int .i64 0, .int .i64 0] 33)) uy2.heap.size #[.int .i64 0, .int .i64 0] 33 := BK.new _ _ _
        refine hK _ _ (fun _ => ey11) ?_
        clear hK K hnx
        generalize (uy2.alloc (.cells #[.int .i64 0, .int .i64 0] 33)) = vy13 at *
        obtain ⟨gkm, hgkm⟩ : ∃ g, uy2.heap.size = g := ⟨_, rfl⟩
        have hqkm : wr.heap.size ≤ gkm := by omega
        rw [hgkm] at km
        try rw [hgkm]
        clear hgkm
        refine any_run1 (i := 8) (by kernel_rfl) (by rfl) (by kernel_rfl) ?_
        intro K hK
        have qy16 := ey11.size
        go_wp2_with fail
        refine (rg_any e e _).mono ?_
        rintro e vy15 ⟨rfl, hb⟩
        have ey14 : Below wr.heap.size wr vy15 := ey11.trans (hb.mono ey11.size)
        replace km := km.below hb km.lt
        clear hb
        refine hK _ _ (fun _ => ey14) ?_
        clear hK K
        refine any_run1 (i := 10) (by kernel_rfl) (by rfl) (by kernel_rfl) ?_
        intro K hK
        have lkm := km.lt
        have y0 := km.cell 0
        have f0 := km.frozen 0
        have y1 := km.cell 1
        have f1 := km.frozen 1
        simp at y0 y1
        go_wp2_with fail
        have ey17 : Below wr.heap.size wr ((vy15.setCell ⟨gkm, 0, none⟩ (.int .i64 e)).setCell ⟨gkm, 1, none⟩ (.int .i64 e)) := by exact bel_of
        have km_ := ((km.set 0 (.int .i64 e)).set 1 (.int .i64 e))
        simp at km_
        clear km; have km := km_; clear km_
        clear y0 f0 y1 f1
        refine hK _ _ (fun _ => ey17) ?_
        clear hK K
        generalize ((vy15.setCell ⟨gkm, 0, none⟩ (.int .i64 e)).setCell ⟨gkm, 1, none⟩ (.int .i64 e)) = vy18 at *
        refine any_done (by kernel_rfl) (NoPanic.normal ?_)
        exact ⟨rfl, by simp [setAll], rfl, _, rfl, km, ey17⟩
      rintro u V ⟨gm, hum, mx, hbz⟩
      simp only [setAll, List.foldl, List.setIfInBounds_toArray, List.set_cons_succ, List.set_cons_zero, hum]
      clear hum d_e hb_e
      replace hC : Below n0 w V := hC.trans (hbz.mono (by have := hC.size; omega))
      replace hB := (RS.below hB hbz).more hbz.size
      replace hS := (RP.below hS hbz).more hbz.size
      replace hU := (RU.below hU hbz).more hbz.size
      replace hY := (RU.below hY hbz).more hbz.size
      replace bx := bx.below hbz bx.lt
      replace hR := (RS.below hR hbz).more hbz.size
      replace wx := wx.below hbz wx.lt
      replace hH := (RS.below hH hbz).more hbz.size
      replace hL := (RS.below hL hbz).more hbz.size
      replace hes := (RS.below hes hbz).more hbz.size
      replace hbrj := hbrj.trans (hbz.mono hbrj.size)
      clear hbz
      skip
      have lbx := bx.lt
      have bxc0 := bx.cell 0
      have bxc1 := bx.cell 1
      simp at bxc0 bxc1
      have lwx := wx.lt
      have wxc0 := wx.cell 0
      have wxc1 := wx.cell 1
      simp at wxc0 wxc1
      have lmx := mx.lt
      have mxc0 := mx.cell 0
      have mxc1 := mx.cell 1
      simp at mxc0 mxc1
      go_wp2_with fail
      clear lbx bxc0 bxc1
      clear lwx wxc0 wxc1
      clear lmx mxc0 mxc1
      refine (historyX_any bars ss b ks ⟨e, e⟩ _ _ _ _ HF.out HKL2.out hB hS hR).mono ?_
      rintro e w6 ⟨vx, rfl, hYy, hb⟩
      replace hC : Below n0 w w6 := hC.trans (hb.mono (by have := hC.size; omega))
      replace hB := (RS.below hB hb).more hb.size
      replace hS := (RP.below hS hb).more hb.size
      replace hU := (RU.below hU hb).more hb.size
      replace hY := (RU.below hY hb).more hb.size
      replace bx := bx.below hb bx.lt
      replace hR := (RS.below hR hb).more hb.size
      replace wx := wx.below hb wx.lt
      replace hH := (RS.below hH hb).more hb.size
      replace hL := (RS.below hL hb).more hb.size
      replace hes := (RS.below hes hb).more hb.size
      replace hbrj := hbrj.trans (hb.mono hbrj.size)
      replace mx := mx.below hb mx.lt
      clear hb
      rw [HHD.out]
      have hxl := histV_len' HHD.out
      have hxe := histV_histE HHD.out
      have hxa := agree_histV HHD.out
      have hxd := fun i hi => histV_had (i := i) HHD.out hi
      obtain ⟨Y, hXe⟩ : ∃ l, histV bars ss b ks ⟨e, e⟩ = l := ⟨_, rfl⟩
      rw [hXe] at hYy hxl hxe hxa hxd
      have HXL := Lib.hid hxl
      have HXL2 := Lib.hid (show Y.length ≤ 1000 by omega)
      have HXE := Lib.hid hxe
      have HXA := Lib.hid hxa
      have HXD := Lib.hid hxd
      obtain ⟨Ax, cx, rfl⟩ := ri_slice hYy
      clear hXe hxl hxe hxa hxd
      have lbx := bx.lt
      have bxc0 := bx.cell 0
      have bxc1 := bx.cell 1
      simp at bxc0 bxc1
      have lwx := wx.lt
      have wxc0 := wx.cell 0
      have wxc1 := wx.cell 1
      simp at wxc0 wxc1
      have lmx := mx.lt
      have mxc0 := mx.cell 0
      have mxc1 := mx.cell 1
      simp at mxc0 mxc1
      go_wp2_with fail
      clear lbx bxc0 bxc1
      clear lwx wxc0 wxc1
      clear lmx mxc0 mxc1
      refine (hadX_any bars ss b ks ⟨e, e⟩ _ _ _ _ HF.out HKL2.out hB hS hR).mono ?_
      rintro e w7 ⟨vd, rfl, hD, hb⟩
      replace hC : Below n0 w w7 := hC.trans (hb.mono (by have := hC.size; omega))
      replace hB := (RS.below hB hb).more hb.size
      replace hS := (RP.below hS hb).more hb.size
      replace hU := (RU.below hU hb).more hb.size
      replace hY := (RU.below hY hb).more hb.size
      replace bx := bx.below hb bx.lt
      replace hR := (RS.below hR hb).more hb.size
      replace wx := wx.below hb wx.lt
      replace hH := (RS.below hH hb).more hb.size
      replace hL := (RS.below hL hb).more hb.size
      replace hes := (RS.below hes hb).more hb.size
      replace hbrj := hbrj.trans (hb.mono hbrj.size)
      replace mx := mx.below hb mx.lt
      replace hYy := (RS.below hYy hb).more hb.size
      clear hb
      rw [HHD.out]
      have hdl := hadV_len' HHD.out
      have hdi := fun i hi => had_in (i := i) HHD.out hi
      have hdx := had_last HHD.out
      rw [HLE.out] at hdi hdx
      rw [HLA.out] at hdx
      have hin2 := (of_had HHD.out).2.2
      rw [HLE.out, HLA.out] at hin2
      obtain ⟨D, hDe⟩ : ∃ l, hadV bars ss b ks ⟨e, e⟩ = l := ⟨_, rfl⟩
      rw [hDe] at hD hdl hdi hdx HXD
      have hme : meet ⟨la, lb⟩ ⟨e, e⟩ = ⟨e, e⟩ := by
        have h9 := meets_iff.1 hin2
        dsimp only at h9
        unfold meet
        dsimp only
        rw [Int.max_eq_right h9.1, Int.min_eq_right h9.2] <;> rfl
      rw [hme] at hdx
      have HDL := Lib.hid hdl
      have HDI := Lib.hid hdi
      have HDX := Lib.hid hdx
      have hd7 : D.length ≤ 1000 := by omega
      obtain ⟨Ad, cd, rfl⟩ := rr_slice hD
      clear hDe hdl hdi hdx hin2 hme
      have hdl2 : ss.length < D.length := by rw [HDL.out]; omega
      obtain ⟨A_d, c_d, b_d, o_d, hve, hA, hc⟩ := RR.cells hD
      obtain ⟨rfl, hb_d⟩ := hA (by omega)
      injection hve with q1 q2 q3
      first | (subst q1; subst q3) | (injection q1 with q1; injection q1 with q4 q5; subst q4; subst q5; subst q3)
      obtain ⟨d_d0, d_d1⟩ := hc ss.length hdl2
      clear hA hc q2
      rw [HDX.out] at d_d0 d_d1
      dsimp only at d_d0 d_d1
      have hdl3 : (ss.length : Int) < (D.length : Int) := by omega
      have wd : IntKind.i64.wrap ((D.length : Int) - 1) = (ss.length : Int) := by have := HDL.out; rw [IntKind.wrap_i64]; omega
      have wd2 : (D.length : Int) - 1 = (ss.length : Int) := by have := HDL.out; omega
      have wd3 : IntKind.i64.wrap (ss.length : Int) = (ss.length : Int) := by rw [IntKind.wrap_i64]; omega
      have ndx : (((D.length : Nat) : Int) != ((Y.length : Nat) : Int)) = false := by rw [HDL.out, HXL.out]; simp
      have lbx := bx.lt
      have bxc0 := bx.cell 0
      have bxc1 := bx.cell 1
      simp at bxc0 bxc1
      have lwx := wx.lt
      have wxc0 := wx.cell 0
      have wxc1 := wx.cell 1
      simp at wxc0 wxc1
      have lmx := mx.lt
      have mxc0 := mx.cell 0
      have mxc1 := mx.cell 1
      simp at mxc0 mxc1
      go_upto_region 21 with fail
      refine wp_region_noPanic (plain_any [0, 1, 2, 3, 4, 5, 6, 7, 8, 9, 11, 12, 13, 14, 15, 16, 17, 19, 20, 21, 22, 23, 24, 25, 26, 27, 28, 29, 30, 31, 32, 33, 34, 35, 36, 37] (Below w7.heap.size w7) mixed ?_)
      refine any_tk 0 ?_
      have d0z : Below w7.heap.size w7 w7.drew := by exact bel_of
      refine any_tk 1 ?_
      refine any_tk 2 ?_
      refine any_tk 3 ?_
      refine any_tk 4 ?_
      refine any_tk 5 ?_
      refine any_tk 6 ?_
      refine any_tk 7 ?_
      refine any_tk 8 ?_
      refine any_tk 9 ?_
      have qz1 := d0z.size
      refine any_run1 (i := 10) (by kernel_rfl) (by rfl) (by kernel_rfl) ?_
      intro K hK
      go_wp2_with fail
      refine (history_any bars ss b ks Y _ _ _ _ _ HF.out HKL2.out ((RS.below hB d0z).more d0z.size) ((RP.below hS d0z).more d0z.size) ((RS.below hR d0z).more d0z.size) ((RS.below hYy d0z).more d0z.size) HXL2.out).mono ?_
      rintro e vz1 ⟨rfl, hb⟩
      rw [HXE.out]
      have ez1 : Below w7.heap.size w7 vz1 := d0z.trans (hb.mono d0z.size)
      clear hb
      refine hK _ _ (fun _ => ez1) ?_
      clear hK K
      refine any_tk 11 ?_
      refine any_tk 12 ?_
      refine any_tk 13 ?_
      refine any_tk 14 ?_
      refine any_tk 15 ?_
      refine any_tk 16 ?_
      refine any_tk 17 ?_
      have qz2 := ez1.size
      refine any_run1 (i := 18) (by kernel_rfl) (by rfl) (by kernel_rfl) ?_
      intro K hK
      go_wp2_with fail
      refine (agrees_any bars ss b ks Y ⟨e, e⟩ _ _ _ _ _ HF.out HKL2.out ((RS.below hB ez1).more ez1.size) ((RP.below hS ez1).more ez1.size) ((RS.below hR ez1).more ez1.size) ((RS.below hYy ez1).more ez1.size) HXL2.out).mono ?_
      rintro e vz2 ⟨rfl, hb⟩
      rw [HXA.out]
      have ez2 : Below w7.heap.size w7 vz2 := ez1.trans (hb.mono ez1.size)
      clear hb
      refine hK _ _ (fun _ => ez2) ?_
      clear hK K
      refine any_tk 19 ?_
      refine any_tk 20 ?_
      refine any_tk 21 ?_
      refine any_tk 22 ?_
      refine any_tk 23 ?_
      refine any_tk 24 ?_
      refine any_tk 25 ?_
      refine any_tk 26 ?_
      refine any_tk 27 ?_
      refine any_tk 28 ?_
      refine any_tk 29 ?_
      refine any_tk 30 ?_
      refine any_tk 31 ?_
      refine any_tk 32 ?_
      refine any_tk 33 ?_
      refine any_tk 34 ?_
      refine any_tk 35 ?_
      refine any_tk 36 ?_
      refine any_tk 37 ?_
      refine any_done (by kernel_rfl) (NoPanic.normal ?_)
      have hb := ez2
      replace hC : Below n0 w vz2 := hC.trans (hb.mono (by have := hC.size; omega))
      replace hB := (RS.below hB hb).more hb.size
      replace hS := (RP.below hS hb).more hb.size
      replace hU := (RU.below hU hb).more hb.size
      replace hY := (RU.below hY hb).more hb.size
      replace bx := bx.below hb bx.lt
      replace hR := (RS.below hR hb).more hb.size
      replace wx := wx.below hb wx.lt
      replace hH := (RS.below hH hb).more hb.size
      replace hL := (RS.below hL hb).more hb.size
      replace hes := (RS.below hes hb).more hb.size
      replace hbrj := hbrj.trans (hb.mono hbrj.size)
      replace mx := mx.below hb mx.lt
      replace hYy := (RS.below hYy hb).more hb.size
      replace hD := (RS.below hD hb).more hb.size
      clear hb
      clear lbx bxc0 bxc1
      clear lwx wxc0 wxc1
      clear lmx mxc0 mxc1
      clear d_d0 d_d1 hb_d hdl2 hdl3 wd wd2 wd3 ndx
      have hy7 : Y.length ≤ 1000 := HXL2.out
      go_wp2_with fail
      skip
      go_loopw [22] (fun i wr => ∃ k : Nat, k ≤ Y.length ∧ i = .int .i64 (k : Int) ∧ Below vz2.heap.size vz2 wr) (fun i _ => Y.length - (intOf i).toNat)
      case atStart => exact ⟨0, Nat.zero_le _, rfl, Below.refl _ _⟩
      case round =>
        obtain ⟨i, hki, rfl, hb⟩ := hrel
        have hbri := hb
        replace hC : Below n0 w wr := hC.trans (hb.mono (by have := hC.size; omega))
        replace hB := (RS.below hB hb).more hb.size
        replace hS := (RP.below hS hb).more hb.size
        replace hU := (RU.below hU hb).more hb.size
        replace hY := (RU.below hY hb).more hb.size
        replace bx := bx.below hb bx.lt
        replace hR := (RS.below hR hb).more hb.size
        replace wx := wx.below hb wx.lt
        replace hH := (RS.below hH hb).more hb.size
        replace hL := (RS.below hL hb).more hb.size
        replace hes := (RS.below hes hb).more hb.size
        replace hbrj := hbrj.trans (hb.mono hbrj.size)
        replace hYy := (RS.below hYy hb).more hb.size
        replace hD := (RS.below hD hb).more hb.size
        clear hb
        by_cases hlt : i < Y.length
        case neg =>
          have hlt' : ¬ (i : Int) < (Y.length : Int) := by omega
          go_wp2_with fail
          go_roundw
          case rel => exact ⟨j + 1, by omega, by go_num, hbrj⟩
          case measure => simp [intOf]; omega
        have hlt' : (i : Int) < (Y.length : Int) := by omega
        have his : i ≤ ss.length := by have := HXL.out; omega
        have hiD : i < D.length := by have := HDL.out; omega
        have hiD' : (i : Int) < (D.length : Int) := by omega
        have hiL : i < L.length := by have := HLL.out; omega
        have hiL' : (i : Int) < (L.length : Int) := by omega
        have hin := HXD.out i his
        have hdi := HDI.out i his
        obtain ⟨A_y, c_y, b_y, o_y, hve, hA, hc⟩ := RI.cells hYy
        obtain ⟨rfl, hb_y⟩ := hA (by omega)
        injection hve with q1 q2 q3
        first | (subst q1; subst q3) | (injection q1 with q1; injection q1 with q4 q5; subst q4; subst q5; subst q3)
        have d_y := hc i hlt
        clear hA hc q2
        obtain ⟨A_d, c_d, b_d, o_d, hve, hA, hc⟩ := RR.cells hD
        obtain ⟨rfl, hb_d⟩ := hA (by omega)
        injection hve with q1 q2 q3
        first | (subst q1; subst q3) | (injection q1 with q1; injection q1 with q4 q5; subst q4; subst q5; subst q3)
        obtain ⟨d_d0, d_d1⟩ := hc i hiD
        clear hA hc q2
        obtain ⟨A_l, c_l, b_l, o_l, hve, hA, hc⟩ := RR.cells hL
        obtain ⟨rfl, hb_l⟩ := hA (by omega)
        injection hve with q1 q2 q3
        first | (subst q1; subst q3) | (injection q1 with q1; injection q1 with q4 q5; subst q4; subst q5; subst q3)
        obtain ⟨d_l0, d_l1⟩ := hc i hiL
        clear hA hc q2
        obtain ⟨x, hx⟩ : ∃ x, nthI Y i = x := ⟨_, rfl⟩
        obtain ⟨⟨dl, dh⟩, hr⟩ : ∃ r, nthB D i = r := ⟨_, rfl⟩
        obtain ⟨⟨ll, lh⟩, hr2⟩ : ∃ r, nthB L i = r := ⟨_, rfl⟩
        rw [hx] at hin d_y
        rw [hr] at hin hdi d_d0 d_d1
        rw [hr2] at hdi d_l0 d_l1
        dsimp only at d_l0 d_l1 d_d0 d_d1 hdi
        have HIN := Lib.hid hin
        have g1 : decide (dl < ll) = false := decide_eq_false (by omega)
        have g2 : decide (lh < dh) = false := decide_eq_false (by omega)
        clear hin hdi hx hr hr2 his
        go_upto_region 26 with fail
        refine wp_region_noPanic (plain_any [0, 1, 2, 3, 4, 5, 6, 7, 9, 10, 11, 12, 13, 14, 15, 16, 17, 18, 19, 20, 21, 22, 23, 24, 25, 26, 27, 28, 29, 30, 31, 32, 33, 34, 35] (Below wr.heap.size wr) mixed ?_)
        refine any_tk 0 ?_
        have d0z : Below wr.heap.size wr wr.drew := by exact bel_of
        refine any_tk 1 ?_
        refine any_tk 2 ?_
        refine any_tk 3 ?_
        refine any_tk 4 ?_
        refine any_tk 5 ?_
        refine any_tk 6 ?_
        refine any_tk 7 ?_
        have qz1 := d0z.size
        refine any_run1 (i := 8) (by kernel_rfl) (by rfl) (by kernel_rfl) ?_
        intro K hK
        go_wp2_with fail
        refine (in_any x ⟨dl, dh⟩ _).mono ?_
        rintro e vz1 ⟨rfl, hb⟩
        rw [HIN.out]
        have ez1 : Below wr.heap.size wr vz1 := d0z.trans (hb.mono d0z.size)
        clear hb
        refine hK _ _ (fun _ => ez1) ?_
        clear hK K
        refine any_tk 9 ?_
        refine any_tk 10 ?_
        refine any_tk 11 ?_
        refine any_tk 12 ?_
        refine any_tk 13 ?_
        refine any_tk 14 ?_
        refine any_tk 15 ?_
        refine any_tk 16 ?_
        refine any_tk 17 ?_
        refine any_tk 18 ?_
        refine any_tk 19 ?_
        refine any_tk 20 ?_
        refine any_tk 21 ?_
        refine any_tk 22 ?_
        refine any_tk 23 ?_
        refine any_tk 24 ?_
        refine any_tk 25 ?_
        refine any_tk 26 ?_
        refine any_tk 27 ?_
        refine any_tk 28 ?_
        refine any_tk 29 ?_
        refine any_tk 30 ?_
        refine any_tk 31 ?_
        refine any_tk 32 ?_
        refine any_tk 33 ?_
        refine any_tk 34 ?_
        refine any_tk 35 ?_
        refine any_done (by kernel_rfl) (NoPanic.normal ?_)
        have hb := ez1
        replace hC : Below n0 w vz1 := hC.trans (hb.mono (by have := hC.size; omega))
        replace hB := (RS.below hB hb).more hb.size
        replace hS := (RP.below hS hb).more hb.size
        replace hU := (RU.below hU hb).more hb.size
        replace hY := (RU.below hY hb).more hb.size
        replace bx := bx.below hb bx.lt
        replace hR := (RS.below hR hb).more hb.size
        replace wx := wx.below hb wx.lt
        replace hH := (RS.below hH hb).more hb.size
        replace hL := (RS.below hL hb).more hb.size
        replace hes := (RS.below hes hb).more hb.size
        replace hbrj := hbrj.trans (hb.mono hbrj.size)
        replace hYy := (RS.below hYy hb).more hb.size
        replace hD := (RS.below hD hb).more hb.size
        replace hbri := hbri.trans (hb.mono hbri.size)
        clear hb
        clear d_y d_d0 d_d1 d_l0 d_l1 hb_y hb_d hb_l g1 g2 hiD hiD' hiL hiL'
        go_wp2_with fail
        go_roundw
        case rel => exact ⟨i + 1, by omega, by go_num, hbri⟩
        case measure => simp [intOf]; omega
end Go.Proofs.Ytkibdciomheekaa

namespace Go.Proofs.Ytkibdciomheekaa.heatReached
open Go.ChangeShapes Go.WideShapes Go.ChangeAt Go.RowKit Go.Deep

set_option maxRecDepth 100000 in
theorem lifted (os : Os) (started : os.Started) (H : Type) (enc : TypeId × Value → H) :
    ReturnsInHanded {} Try.checked os 8 .any (Rows.heatReachedSpec.pre6 enc Try.prog Try.f8 Rows.heatReachedRow.domain false) (Rows.heatReachedSpec.post enc Try.prog Try.f8 false true false false) := by
  refine returnsInHanded_of_change (C := Try.checked) own started (by kernel_rfl) Try.func8
    (ChangeSpec.witness6 (enc := enc) (C := Try.checked) false ⟨#[], #[.agg #[.slice none 0 0, .slice none 0 0], .slice none 0 0, .slice none 0 0, .int .u16 0], []⟩ 8 (by kernel_rfl) (by kernel_rfl) (by kernel_rfl) (by kernel_rfl)) ?_
  intro W base args ds gs before hval0 hW hcnd _
  have hval : ∀ (j : Nat) t v, Try.f8.params[j]? = some t → args[j]? = some v → Value.okWide Try.prog W .any base t v := hval0
  have hW2 : DataW.Whole enc Try.prog Try.f8.params.toList Rows.heatReachedSpec.vars false W args.toList ds gs before := hW
  obtain ⟨p, q, hA0, hV, rfl, hfz, hnd⟩ := hW
  have hA : DataW.TrodAll enc Try.prog W 0 (fun _ => true) true Try.f8.params.toList args.toList ds p := hA0
  rw [Try.params8] at hA hval
  obtain ⟨v0, vs0, d0, ds0, p0, q0, hargs, rfl, rfl, h0, r0⟩ := trodAll_cons hA
  obtain ⟨v1, vs1, d1, ds1, p1, q1, rfl, rfl, rfl, h1, r1⟩ := trodAll_cons r0
  obtain ⟨v2, vs2, d2, ds2, p2, q2, rfl, rfl, rfl, h2, r2⟩ := trodAll_cons r1
  obtain ⟨v3, vs3, d3, ds3, p3, q3, rfl, rfl, rfl, h3, r3⟩ := trodAll_cons r2
  obtain ⟨rfl, rfl, rfl⟩ := trodAll_nil r3
  obtain rfl : args = #[v0, v1, v2, v3] := by cases args; simp_all
  obtain ⟨rfl, rfl⟩ := trodVars_none hV
  obtain ⟨vb0, vs0_, bars0, ss0, rfl, hB0, hS0⟩ := open_works (hval 0 25 v0 rfl rfl) h0
  obtain ⟨l1, g1, k1⟩ := open_u8s (hval 1 66 v1 rfl rfl) h1
  obtain ⟨l2, g2, k2⟩ := open_u32s (hval 2 67 v2 rfl rfl) h2
  obtain ⟨x3, rfl, g3⟩ := open_u16 (hval 3 68 v3 rfl rfl) h3
  refine (heatReached_any (bars := bars0) (ss := ss0) (vb := vb0) (vs := vs0_) (hB := hB0) (hS := hS0) (us := l1) (vu := v1) (hU := g1) (hu := k1) (ys := l2) (vy := v2) (hY := g2) (hy := k2) (x1 := x3) (h1 := g3) (w := W)).mono fun e W' ⟨he, hg⟩ => ?_
  subst he
  exact ⟨_, rfl, law_done hW2 rfl rfl rfl (by rw [Try.params8]; decide +kernel) hg⟩

theorem over : Rows.heatReachedRow.holds Try.pinned (OpenSpec.ofChange Rows.heatReachedSpec) :=
  OpenClaim.holds_of_wide 8 Try.f8 rfl rfl rfl rfl rfl rfl rfl ⟨rfl, rfl, rfl, rfl, rfl⟩ rfl rfl rfl rfl rfl (by kernel_rfl) Try.func8 (by kernel_rfl)
    (of_decide_eq_true (by kernel_rfl)) (by unfold Func.isWrapper; first | (rw [if_pos (by decide +kernel)]; kernel_rfl) | (rw [if_neg (by decide +kernel)]; exact ⟨rfl, rfl⟩))
    (fun os started H enc _ => lifted os started H enc)

theorem proved : Rows.HeatReachedSaid :=
  over
end Go.Proofs.Ytkibdciomheekaa.heatReached
namespace Go.Proofs.Ytkibdciomheekaa
theorem heatReached_proved : Rows.HeatReachedSaid := heatReached.proved
#print axioms heatReached_proved
end Go.Proofs.Ytkibdciomheekaa
