/- A read of a drawn region, taken. A recipe by numbers. What the laws say of ranges, histories and what was had. Plain: a recipe in two parts; a harder bar, and a wider one. A works that the laws build upon. A recipe in two parts: what the law compares. What follows a region whose operations come in several orders, once. Parts of lists: from the beginning, and to the end. A harder bar, and a wider one: what the law compares; and a list copied by append. HeatHarder: the walk. With a harder bar no end of the ranges is less, with a wider one no range is narrower; for every works and numbers. -/
import Derived.Test.YtkibdciomheekaaP4
import Derived.Test.YtkibdciomheekaaP30
import Derived.Test.YtkibdciomheekaaP3
import Derived.Test.YtkibdciomheekaaP11
import Derived.Test.YtkibdciomheekaaP1
import Derived.Test.YtkibdciomheekaaP7
import Derived.Test.YtkibdciomheekaaP27
import Derived.Test.YtkibdciomheekaaP13
import Derived.Test.YtkibdciomheekaaP29
import Derived.Test.YtkibdciomheekaaRows
set_option linter.all false
set_option linter.unnecessarySimpa false
set_option linter.unusedSimpArgs false
set_option linter.unusedVariables false
set_option linter.unusedSectionVars false

set_option linter.all false
namespace Go.Proofs.Ytkibdciomheekaa
open Go.RowKit
section
variable {P : Program} {ops : Array Oper} {Q : Exit → Act → World → Prop} {md : Region.Mode} {E : List Nat}

/-- A read is taken; its value by the walk, and the frame in its literal form. -/
theorem any_tk {W0 : World} (i : Nat) {v : Value} {oi : Oper} {fuel : Nat} {listed : Array Bool} {a a' : Act} {w : World}
    (h : wpAnyF P md ops Q (Below W0.heap.size W0) E fuel (listed.setIfInBounds i true) a' w)
    (hi : ops[i]? = some oi := by rfl)
    (hB : takeB md ops E listed i = true := by kernel_rfl)
    (hQ : ∀ c (a : Act) d (v : Value) w, Q (.panic c) (a.put d v) w → Q (.panic c) a w := by exact fun _ _ _ _ _ hx => hx.elim)
    (hw : Region.wanted oi (yielded ops a.tmps) = true := by rfl)
    (hS : Below W0.heap.size W0 w := by exact bel_of)
    (hy : ∀ X, Below W0.heap.size W0 X → (execOp a.eval oi).run P X = .ok (.value v) X := by (intro X hX; obtain ⟨r1, r2⟩ := Below.rules hX; clear hX; go_simp; rfl))
    (ha : a.put oi.dst v = a' := by (simp only [List.getElem_toArray, List.getElem_cons_succ, List.getElem_cons_zero, Act.put, List.setIfInBounds_toArray, List.set_cons_succ, List.set_cons_zero]; rfl)) :
    wpAnyF P md ops Q (Below W0.heap.size W0) E (fuel + 1) listed a w := any_take i v hi hB hQ (.inl ⟨hw, hy⟩) hS (ha ▸ h)
end
end Go.Proofs.Ytkibdciomheekaa

set_option linter.all false
namespace Go.Proofs.Ytkibdciomheekaa
open Go.RowKit Hp

/-- The number that is meant for a place. -/
def numAt (us : List Nat) (i : Nat) : Nat := if us.length = 0 then 0 else us.getD (i % us.length) 0
def oneB (bars : List Rg) (us : List Nat) : Nat := numAt us 0 % bars.length
def oneW (ss : List Stp) (us : List Nat) (n : Nat) : List Int := (List.range n).map fun (i : Nat) => ((numAt us (i + 1) % (nthS ss i).length : Nat) : Int)
theorem oneW_zero (ss : List Stp) (us : List Nat) : oneW ss us 0 = [] := rfl
theorem oneW_succ (ss : List Stp) (us : List Nat) (n : Nat) : oneW ss us (n + 1) = oneW ss us n ++ [((numAt us (n + 1) % (nthS ss n).length : Nat) : Int)] := by simp [oneW, List.range_succ]
theorem oneW_len (ss : List Stp) (us : List Nat) (n : Nat) : (oneW ss us n).length = n := by simp [oneW]
theorem numAt_le {us : List Nat} {B : Nat} (h : ∀ x ∈ us, x ≤ B) (i : Nat) : numAt us i ≤ B := by
  unfold numAt
  split
  · exact Nat.zero_le _
  · rename_i q
    have hi : i % us.length < us.length := Nat.mod_lt _ (by omega)
    rw [List.getD_eq_getElem?_getD, List.getElem?_eq_getElem hi]
    exact h _ (List.getElem_mem hi)
def oneBk (bars : List Rg) (us : List Nat) (k : Nat) : Nat := if k = 0 then 0 else oneB bars us
theorem own_ri_set {W : World} {T g : Nat} {A : Option Addr} {n c base : Nat} {l : List Int} {cs : Array Value} {t : TypeId} (h : OwnI T W base (.slice A n c) l) (hg : BK W g cs t) (ht : t ≠ T) (o : Nat) (u : Value) :
    OwnI T (W.setCell ⟨g, o, none⟩ u) base (.slice A n c) l := by
  have hne : (Value.slice A n c).ownBlock ≠ some g := fun hq => by
    obtain ⟨c', hc⟩ := own_block h hq
    unfold BK at hg
    rw [hg] at hc; injection hc with hc; injection hc with _ hc; exact ht hc
  exact own_far h (p := ⟨g, o, none⟩) hne u
theorem own_ri_sets {W : World} {T g : Nat} {A : Option Addr} {n c base : Nat} {l : List Int} {cs : Array Value} {t : TypeId} (h : OwnI T W base (.slice A n c) l) (hg : BK W g cs t) (ht : t ≠ T) (u v : Value) :
    OwnI T ((W.setCell ⟨g, 0, none⟩ u).setCell ⟨g, 1, none⟩ v) base (.slice A n c) l := by
  have hne : (Value.slice A n c).ownBlock ≠ some g := fun hq => by
    obtain ⟨c', hc⟩ := own_block h hq
    unfold BK at hg
    rw [hg] at hc; injection hc with hc; injection hc with _ hc; exact ht hc
  exact own_far (own_far h (p := ⟨g, 0, none⟩) hne u) (p := ⟨g, 1, none⟩) hne v
theorem one_rec {bars : List Rg} {ss : List Stp} (h : OkV bars ss) (us : List Nat) : OkRec bars ss (oneB bars us : Nat) (oneW ss us ss.length) := by
  refine ⟨h, by omega, ?_, ?_, ?_⟩
  · show ((oneB bars us : Nat) : Int).toNat < bars.length
    rw [Int.toNat_natCast]
    exact Nat.mod_lt _ h.bpos
  · refine mem_allR_iff.2 ⟨by simp [nats, oneW_len], fun i hi => ?_⟩
    have : (nats (oneW ss us ss.length)).getD i 0 = numAt us (i + 1) % (nthS ss i).length := by
      simp [nats, oneW, hi]
      rw [← Int.natCast_emod, Int.toNat_natCast]
    rw [this]
    exact Nat.mod_lt _ (h.wpos _ (nthS_mem hi)).1
  · intro k hk
    obtain ⟨i, _, rfl⟩ := List.mem_map.1 hk
    omega
theorem RU.cells {k : IntKind} {w : World} {B : Nat} {v : Value} {l : List Nat} (h : RU k w B v l) : ∃ A cap b off, v = .slice A l.length cap ∧ (l.length ≠ 0 → A = some ⟨b, off, none⟩ ∧ b < B) ∧ ∀ j, j < l.length → w.cell? ⟨b, off + j, none⟩ = some (.int k (l.getD j 0 : Nat)) := by
  obtain ⟨A, cap, b, off, hv, hl, hA, hc⟩ := h
  refine ⟨A, cap, b, off, hv, hA, fun j hj => ?_⟩
  rw [hc j (by simpa using hj)]
  simp [hj]
def OnePost (bars : List Rg) (ss : List Stp) (us : List Nat) (w : World) (e : Ending) (w' : World) : Prop :=
  ∃ vk, e = .returned (.agg #[.int .i64 (oneB bars us : Nat), vk]) ∧ RI w' w'.heap.size vk (oneW ss us ss.length) ∧ Below w.heap.size w w'

set_option maxHeartbeats 8000000 in
set_option maxRecDepth 100000 in
theorem one_any (bars : List Rg) (ss : List Stp) (us : List Nat) (vb vs vu : Value) (w : World) (hV : OkV bars ss) (hu : ∀ x ∈ us, x ≤ 255) (hlu : us.length ≤ 20) (hB : RR w w.heap.size vb bars) (hS : RP w w.heap.size vs ss) (hU : RU .u8 w w.heap.size vu us) :
    Calls Try.prog 44 #[.agg #[vb, vs], vu] w (OnePost bars ss us w) := by
  have HV := Lib.hid hV
  have HU := Lib.hid hu
  have hs6 := hV.sfew
  have hbp := hV.bpos
  have hb6 := hV.bfew
  clear hV hu
  obtain ⟨Ab, cb, rfl⟩ := hB.slice
  obtain ⟨As, cs, rfl⟩ := hS.slice
  obtain ⟨Au, cu, rfl⟩ := ru_slice hU
  obtain ⟨n0, hn0⟩ : ∃ n, w.heap.size = n := ⟨_, rfl⟩
  have hC : Below n0 w w := Below.refl _ _
  go_enter Try.func44, Try.ntmps44
  have HB0 := Lib.hid hB
  have HS0 := Lib.hid hS
  have HU0 := Lib.hid hU
  go_upto_region 1 with fail
  have hqbx : n0 ≤ n0 := by have := hC.size; omega
  have bx : BK (w.alloc (.cells #[.slice Ab bars.length cb, .slice As ss.length cs] 25)) (n0) #[.slice Ab bars.length cb, .slice As ss.length cs] 25 := BK.new' _ _ _ (n0) hn0
  have hsbx : (w.alloc (.cells #[.slice Ab bars.length cb, .slice As ss.length cs] 25)).heap.size = n0 + 1 := by simp [hn0]
  replace hC : Below n0 w (w.alloc (.cells #[.slice Ab bars.length cb, .slice As ss.length cs] 25)) := Below.alloc hC (by have := hC.size; omega) _
  replace hB := (RS.below hB (w' := (w.alloc (.cells #[.slice Ab bars.length cb, .slice As ss.length cs] 25))) (Below.alloc (Below.refl _ _) (Nat.le_refl _) _)).more (B' := (w.alloc (.cells #[.slice Ab bars.length cb, .slice As ss.length cs] 25)).heap.size) (by simp)
  replace hS := (RP.below hS (w' := (w.alloc (.cells #[.slice Ab bars.length cb, .slice As ss.length cs] 25))) (Below.alloc (Below.refl _ _) (Nat.le_refl _) _)).more (B' := (w.alloc (.cells #[.slice Ab bars.length cb, .slice As ss.length cs] 25)).heap.size) (by simp)
  replace hU := (RU.below hU (w' := (w.alloc (.cells #[.slice Ab bars.length cb, .slice As ss.length cs] 25))) (Below.alloc (Below.refl _ _) (Nat.le_refl _) _)).more (B' := (w.alloc (.cells #[.slice Ab bars.length cb, .slice As ss.length cs] 25)).heap.size) (by simp)
  generalize (w.alloc (.cells #[.slice Ab bars.length cb, .slice As ss.length cs] 25)) = Wbx at *
  have hqrs : n0 ≤ n0 + 1 := by have := hC.size; omega
  have rs : BK (Wbx.alloc (.cells #[.int .i64 0, .slice none 0 0] 42)) (n0 + 1) #[.int .i64 0, .slice none 0 0] 42 := BK.new' _ _ _ (n0 + 1) hsbx
  have hsrs : (Wbx.alloc (.cells #[.int .i64 0, .slice none 0 0] 42)).heap.size = n0 + 1 + 1 := by simp [hsbx]
  replace hC : Below n0 w (Wbx.alloc (.cells #[.int .i64 0, .slice none 0 0] 42)) := Below.alloc hC (by have := hC.size; omega) _
  replace hB := (RS.below hB (w' := (Wbx.alloc (.cells #[.int .i64 0, .slice none 0 0] 42))) (Below.alloc (Below.refl _ _) (Nat.le_refl _) _)).more (B' := (Wbx.alloc (.cells #[.int .i64 0, .slice none 0 0] 42)).heap.size) (by simp)
  replace hS := (RP.below hS (w' := (Wbx.alloc (.cells #[.int .i64 0, .slice none 0 0] 42))) (Below.alloc (Below.refl _ _) (Nat.le_refl _) _)).more (B' := (Wbx.alloc (.cells #[.int .i64 0, .slice none 0 0] 42)).heap.size) (by simp)
  replace hU := (RU.below hU (w' := (Wbx.alloc (.cells #[.int .i64 0, .slice none 0 0] 42))) (Below.alloc (Below.refl _ _) (Nat.le_refl _) _)).more (B' := (Wbx.alloc (.cells #[.int .i64 0, .slice none 0 0] 42)).heap.size) (by simp)
  replace bx := bx.alloc (.cells #[.int .i64 0, .slice none 0 0] 42)
  generalize (Wbx.alloc (.cells #[.int .i64 0, .slice none 0 0] 42)) = Wrs at *
  clear hsbx
  go_upto_region 2 with fail
  have hqrb : n0 ≤ n0 + 1 + 1 := by have := hC.size; omega
  have rb : BK (Wrs.alloc (.cells #[.int .i64 0, .slice none 0 0] 42)) (n0 + 1 + 1) #[.int .i64 0, .slice none 0 0] 42 := BK.new' _ _ _ (n0 + 1 + 1) hsrs
  have hsrb : (Wrs.alloc (.cells #[.int .i64 0, .slice none 0 0] 42)).heap.size = n0 + 1 + 1 + 1 := by simp [hsrs]
  replace hC : Below n0 w (Wrs.alloc (.cells #[.int .i64 0, .slice none 0 0] 42)) := Below.alloc hC (by have := hC.size; omega) _
  replace hB := (RS.below hB (w' := (Wrs.alloc (.cells #[.int .i64 0, .slice none 0 0] 42))) (Below.alloc (Below.refl _ _) (Nat.le_refl _) _)).more (B' := (Wrs.alloc (.cells #[.int .i64 0, .slice none 0 0] 42)).heap.size) (by simp)
  replace hS := (RP.below hS (w' := (Wrs.alloc (.cells #[.int .i64 0, .slice none 0 0] 42))) (Below.alloc (Below.refl _ _) (Nat.le_refl _) _)).more (B' := (Wrs.alloc (.cells #[.int .i64 0, .slice none 0 0] 42)).heap.size) (by simp)
  replace hU := (RU.below hU (w' := (Wrs.alloc (.cells #[.int .i64 0, .slice none 0 0] 42))) (Below.alloc (Below.refl _ _) (Nat.le_refl _) _)).more (B' := (Wrs.alloc (.cells #[.int .i64 0, .slice none 0 0] 42)).heap.size) (by simp)
  replace bx := bx.alloc (.cells #[.int .i64 0, .slice none 0 0] 42)
  replace rs := rs.alloc (.cells #[.int .i64 0, .slice none 0 0] 42)
  generalize (Wrs.alloc (.cells #[.int .i64 0, .slice none 0 0] 42)) = Wrb at *
  clear hsrs
  clear hsrb
  generalize Wrb = W0 at *
  have HQ := Lib.hid (And.intro hqbx (And.intro hqrs hqrb))
  clear hqbx hqrs hqrb
  go_wp2_with fail
  go_loopw [6] (fun i wr => ∃ (k : Nat) (v : Value), k ≤ ss.length + 1 ∧ i = .int .i64 (k : Int) ∧ BK wr (n0) #[.slice Ab bars.length cb, .slice As ss.length cs] 25 ∧ BK wr (n0 + 1) #[.int .i64 0, .slice none 0 0] 42 ∧ BK wr (n0 + 1 + 1) #[.int .i64 (oneBk bars us k : Nat), v] 42 ∧ OwnI 3 wr n0 v (oneW ss us (k - 1)) ∧ Below n0 w wr) (fun i _ => ss.length + 1 - (intOf i).toNat)
  case atStart => exact ⟨0, _, Nat.zero_le _, rfl, bx, rs, rb, OwnI.nil _ _ _, hC⟩
  case round =>
    clear bx rs rb hC hB hS hU
    obtain ⟨k, v, hk, rfl, bx, rs, rb, hown, hC⟩ := hrel
    rw [hn0] at HB0 HS0 HU0
    have hB := RS.more (RS.below HB0.out hC) (B' := wr.heap.size) (by have := hC.size; omega)
    have hS := RP.more (RP.below HS0.out hC) (B' := wr.heap.size) (by have := hC.size; omega)
    have hU := RU.more (RU.below HU0.out hC) (B' := wr.heap.size) (by have := hC.size; omega)
    obtain ⟨Av, cv, rfl⟩ := own_slice hown
    have hll := oneW_len ss us (k - 1)
    have HOW := Lib.hid hown
    have HLL := Lib.hid hll
    clear hown hll
    obtain ⟨nl, hnl⟩ : ∃ n, (oneW ss us (k - 1)).length = n := ⟨_, rfl⟩
    rw [hnl] at rb
    have HNL := Lib.hid hnl
    clear hnl
    by_cases hlt : k < ss.length + 1
    case neg =>
      obtain rfl : k = ss.length + 1 := by omega
      rw [Nat.add_sub_cancel] at HOW HNL
      have hlt' : ¬ ((ss.length + 1 : Nat) : Int) ≤ (ss.length : Int) := by omega
      simp only [Int.natCast_add, Int.cast_ofNat_Int] at hlt'
      have hob : oneBk bars us (ss.length + 1) = oneB bars us := by unfold oneBk; rw [if_neg (by omega)]
      rw [hob] at rb
      clear hob hlt
      have hown2 := own_ri_sets HOW.out rs (by decide) (.int .i64 (oneB bars us : Nat)) (.slice Av (oneW ss us ss.length).length cv)
      rw [HNL.out] at hown2
      obtain ⟨ob, hob⟩ : ∃ n, oneB bars us = n := ⟨_, rfl⟩
      rw [hob] at rb hown2
      have HO := Lib.hid hown2.ri
      clear hown2
      have HOB := Lib.hid hob
      clear hob
      have lbx := bx.lt
      have bxc0 := bx.cell 0
      have bxc1 := bx.cell 1
      simp at bxc0 bxc1
      have lrb := rb.lt
      have rbc0 := rb.cell 0
      have rbc1 := rb.cell 1
      simp at rbc0 rbc1
      have lrs := rs.lt
      have rsc0 := rs.cell 0
      have rsc1 := rs.cell 1
      simp at rsc0 rsc1
      have f0 := rs.frozen 0
      have f1 := rs.frozen 1
      have hCf : Below n0 w ((wr.setCell ⟨n0 + 1, 0, none⟩ (.int .i64 (ob : Int))).setCell ⟨n0 + 1, 1, none⟩ (.slice Av nl cv)) := Below.setCell (Below.setCell hC HQ.out.2.1 _) HQ.out.2.1 _
      have b2 := ((rs.set 0 (.int .i64 (ob : Int))).set 1 (.slice Av nl cv))
      simp at b2
      have HCF := Lib.hid hCf
      clear hCf hC rs
      go_wp2_with fail
      clear lbx bxc0 bxc1 lrb rbc0 rbc1 lrs rsc0 rsc1
      have y0 := b2.cell 0
      have y1 := b2.cell 1
      simp at y0 y1
      refine bodyPost_ret (v := .agg #[.int .i64 (ob : Int), .slice Av nl cv]) (by simp [results, Try.results44, go_sem, y0, y1]) rfl ⟨_, by rw [HOB.out], HO.out, (by (try rw [hn0]); exact HCF.out)⟩
    have hlt' : (k : Int) ≤ (ss.length : Int) := by omega
    have hnle := numAt_le HU.out k
    obtain ⟨n, hn⟩ : ∃ n, numAt us k = n := ⟨_, rfl⟩
    rw [hn] at hnle
    have HN := Lib.hid hn
    have g1 : IntKind.i64.wrap (n : Int) = (n : Int) := by rw [IntKind.wrap_i64]; omega
    by_cases hu0 : us.length = 0
    case pos =>
      have zu : ¬ ((us.length : Int) > 0) := by omega
      have HZ := Lib.hid (show (n : Int) = 0 by rw [← hn]; unfold numAt; rw [if_pos hu0]; rfl)
      clear hn hu0
      have lbx := bx.lt
      have bxc0 := bx.cell 0
      have bxc1 := bx.cell 1
      simp at bxc0 bxc1
      have lrb := rb.lt
      have rbc0 := rb.cell 0
      have rbc1 := rb.cell 1
      simp at rbc0 rbc1
      go_upto_region 8 with fail
      clear lbx bxc0 bxc1
      clear lrb rbc0 rbc1
      clear zu
      by_cases hk0 : k = 0
      case pos =>
        have hrm : n % bars.length = oneB bars us := by have := HN.out; rw [hk0] at this; rw [← this]; rfl
        have hrm2 : (n : Int) % (bars.length : Int) = (oneB bars us : Int) := by rw [← Int.natCast_emod, hrm]
        have hown2 := own_ri_set HOW.out rb (by decide) 0 (.int .i64 (oneB bars us : Nat))
        rw [HNL.out] at hown2
        have hz : oneW ss us (k - 1) = oneW ss us (1 - 1) := by rw [hk0]
        rw [hz] at hown2
        have d0 : ((k : Int) == 0) = true := by rw [hk0]; rfl
        have r1 : (0 : Int) % (bars.length : Int) = (oneB bars us : Int) := by have h9 := hrm2; rw [HZ.out] at h9; exact h9
        have r2 : (0 : Int).tmod (bars.length : Int) = (oneB bars us : Int) := by rw [Int.tmod_eq_emod_of_nonneg (by omega), r1]
        have y0 : ((bars.length : Int) == 0) = false := beq_eq_false_iff_ne.2 (by omega)
        have y1 : (bars.length : Int) ≠ 0 := by omega
        have hol : oneB bars us < bars.length := Nat.mod_lt _ hbp
        obtain ⟨ob, hob⟩ : ∃ n, oneB bars us = n := ⟨_, rfl⟩
        rw [hob] at r1 r2 hol hown2
        have HO2 := Lib.hid hown2
        have HOB := Lib.hid hob
        have w1 : IntKind.i64.wrap (ob : Int) = (ob : Int) := by rw [IntKind.wrap_i64]; omega
        have wk : IntKind.i64.wrap ((k : Int) + 1) = (k : Int) + 1 := by rw [IntKind.wrap_i64]; omega
        have HK0 := Lib.hid hk0
        clear hob hrm hrm2 hown2 hz hk0
        have lbx := bx.lt
        have bxc0 := bx.cell 0
        have bxc1 := bx.cell 1
        simp at bxc0 bxc1
        have lrb := rb.lt
        have rbc0 := rb.cell 0
        have rbc1 := rb.cell 1
        simp at rbc0 rbc1
        have rbf0 := rb.frozen 0
        have HC2 : Hid (Below n0 w (wr.setCell ⟨n0 + 1 + 1, 0, none⟩ (.int .i64 (ob : Int)))) := Lib.hid (Below.setCell hC HQ.out.2.2 _)
        have hb2 := rb.set 0 (.int .i64 (ob : Int))
        simp at hb2
        have HRB := Lib.hid hb2
        have HRX := Lib.hid (bx.far (p := ⟨n0 + 1 + 1, 0, none⟩) (by show n0 ≠ n0 + 1 + 1; omega) (.int .i64 (ob : Int)))
        have HRS := Lib.hid (rs.far (p := ⟨n0 + 1 + 1, 0, none⟩) (by show n0 + 1 ≠ n0 + 1 + 1; omega) (.int .i64 (ob : Int)))
        clear hb2 bx rs rb hC
        go_wp2_with fail
        go_roundw
        case rel =>
          refine ⟨1, .slice Av nl cv, by omega, ?_, HRX.out, HRS.out, ?_, HO2.out, HC2.out⟩
          · rw [HK0.out]; rfl
          · have : oneBk bars us 1 = ob := by unfold oneBk; rw [if_neg (by decide), HOB.out]
            rw [this]; exact HRB.out
        case measure => simp [intOf]; omega
      obtain ⟨j, hj⟩ : ∃ j, k = j + 1 := ⟨k - 1, by omega⟩
      have hjs : j < ss.length := by omega
      obtain ⟨A', cap', bb', off', hve, hA, hc⟩ := RP.cells hS
      obtain ⟨rfl, hbb'⟩ := hA (by omega)
      injection hve with q1 q2 q3
      subst q1 q3
      obtain ⟨u, d1, hu1⟩ := hc j hjs
      obtain ⟨At, ct, rfl⟩ := hu1.slice
      have hwp := HV.out.wpos _ (nthS_mem hjs)
      have HOS := Lib.hid (oneW_succ ss us j)
      have hkj : k - 1 = j := by omega
      have HNK : Hid (numAt us (j + 1) = n) := Lib.hid (by rw [← hj]; exact HN.out)
      obtain ⟨q, hq⟩ : ∃ q, n % (nthS ss j).length = q := ⟨_, rfl⟩
      have hql : q < (nthS ss j).length := by rw [← hq]; exact Nat.mod_lt _ hwp.1
      have HQQ := Lib.hid hq
      obtain ⟨p, hp⟩ : ∃ p, (nthS ss j).length = p := ⟨_, rfl⟩
      rw [hp] at d1 hql hwp hq
      have r0 : (n : Int).tmod (p : Int) = (q : Int) := by rw [Int.tmod_eq_emod_of_nonneg (by omega), ← Int.natCast_emod, hq]
      have r2 : (0 : Int).tmod (p : Int) = (q : Int) := by have h9 := r0; rw [HZ.out] at h9; exact h9
      have y0 : ((p : Int) == 0) = false := beq_eq_false_iff_ne.2 (by omega)
      have y1 : (p : Int) ≠ 0 := by omega
      have y3 : (p = 0) = False := eq_false (by omega)
      have w1 : IntKind.i64.wrap (q : Int) = (q : Int) := by rw [IntKind.wrap_i64]; omega
      have w2 : IntKind.i64.wrap ((k : Int) - 1) = (j : Int) := by rw [IntKind.wrap_i64]; omega
      have wk : IntKind.i64.wrap ((k : Int) + 1) = (k : Int) + 1 := by rw [IntKind.wrap_i64]; omega
      have dk : ((k : Int) == 0) = false := beq_eq_false_iff_ne.2 (by omega)
      have hji : (j : Int) < (ss.length : Int) := by omega
      have HJ := Lib.hid hj
      have HKJ := Lib.hid hkj
      have hown := HOW.out
      rw [hkj] at hown
      have HPP := Lib.hid hp
      clear hA hc q2 hu1 hwp hq hp r0 hkj hj hk0
      have lbx := bx.lt
      have bxc0 := bx.cell 0
      have bxc1 := bx.cell 1
      simp at bxc0 bxc1
      have lrb := rb.lt
      have rbc0 := rb.cell 0
      have rbc1 := rb.cell 1
      simp at rbc0 rbc1
      go_upto_region 10 with fail
      refine wp_region_noPanic (plain_any [0, 1, 2, 3, 4, 5, 6, 7, 8, 9, 10, 11] (Below wr.heap.size wr) mixed ?_)
      refine any_tk 0 ?_
      have d0z : Below wr.heap.size wr wr.drew := by exact bel_of
      refine any_tk 1 ?_
      refine any_tk 2 ?_
      refine any_tk 3 ?_
      refine any_tk 4 ?_
      refine any_tk 5 ?_
      refine any_tk 6 ?_
      refine any_tk 7 ?_
      refine any_tk 8 ?_
      refine any_tk 9 ?_
      refine any_tk 10 ?_
      refine any_tk 11 ?_
      have qz1 := d0z.size
      have ez1 : Below wr.heap.size wr (wr.drew.alloc (.cells #[.int .i64 (q : Int)] 3)) := by exact bel_of
      refine any_run1 (i := 12) (by kernel_rfl) (by rfl) (by kernel_rfl) ?_
      intro K hK
      go_wp2_with fail
      refine hK _ _ (fun _ => ez1) ?_
      clear hK K
      have b9 : BK (wr.drew.alloc (.cells #[.int .i64 (q : Int)] 3)) (wr.drew.heap.size) #[.int .i64 (q : Int)] 3 := BK.new' _ _ _ _ rfl
      have o9 := own_below hown ez1
      have bx9 := bx.below ez1 bx.lt
      have rs9 := rs.below ez1 rs.lt
      have rb9 := rb.below ez1 rb.lt
      obtain ⟨v9, w9, hrun, hown', hbel, hsz, hkeep⟩ := app_b_i int_info int_slice o9 b9 (by rw [oneW_len]; omega) (by have := ez1.size; have := hC.size; omega)
      have hC9 := hbel w (hC.trans (ez1.mono (by have := hC.size; omega)))
      replace bx9 := hkeep _ _ _ bx9 (by decide)
      replace rs9 := hkeep _ _ _ rs9 (by decide)
      replace rb9 := hkeep _ _ _ rb9 (by decide)
      obtain ⟨A9, c9, rfl⟩ := own_slice hown'
      have hln : (oneW ss us j ++ [(q : Int)]).length = j + 1 := by rw [List.length_append, oneW_len]; rfl
      have hwq : oneW ss us (j + 1) = oneW ss us j ++ [(q : Int)] := by rw [HOS.out, HNK.out, HQQ.out]
      have hjl : (oneW ss us j).length = nl := by have h8 := HNL.out; have h9 := HKJ.out; rw [oneW_len] at h8 ⊢; omega
      rw [hln, hjl] at hrun
      clear hjl
      have hown3 := own_ri_set hown' rb9 (by decide) 1 (.slice A9 (j + 1) c9)
      rw [← hwq, oneW_len] at hown3
      have HO9 := Lib.hid hown3
      have hb2 := rb9.set 1 (.slice A9 (j + 1) c9)
      simp at hb2
      have HRB := Lib.hid hb2
      have HRX := Lib.hid (bx9.far (p := ⟨n0 + 1 + 1, 1, none⟩) (by show n0 ≠ n0 + 1 + 1; omega) (.slice A9 (j + 1) c9))
      have HRS := Lib.hid (rs9.far (p := ⟨n0 + 1 + 1, 1, none⟩) (by show n0 + 1 ≠ n0 + 1 + 1; omega) (.slice A9 (j + 1) c9))
      have HC9 : Hid (Below n0 w (w9.setCell ⟨n0 + 1 + 1, 1, none⟩ (.slice A9 (j + 1) c9))) := Lib.hid (Below.setCell hC9 HQ.out.2.2 _)
      have HRUN := Lib.hid hrun
      have lr9 := rb9.lt
      have rc9 := rb9.cell 1
      simp at rc9
      have rf9 := rb9.frozen 1
      clear hrun hown' hbel b9 o9 hC9 hsz hkeep hown hown3 hb2 hln hwq bx9 rs9 rb9
      refine any_run1 (i := 13) (by kernel_rfl) (by rfl) (by kernel_rfl) ?_
      intro K hK
      refine wp_append_run (.tmp 35) (.tmp 46) 40 _ rfl HRUN.out ?_
      refine hK _ _ (fun hx => (Bool.false_ne_true (hx.symm.trans (by kernel_rfl))).elim) ?_
      clear hK K
      simp only [List.getElem_toArray, List.getElem_cons_succ, List.getElem_cons_zero, Act.put, List.setIfInBounds_toArray, List.set_cons_succ, List.set_cons_zero]
      refine any_run1 (i := 14) (by kernel_rfl) (by rfl) (by kernel_rfl) ?_
      intro K hK
      go_wp2_with fail
      refine hK _ _ (fun hx => (Bool.false_ne_true (hx.symm.trans (by kernel_rfl))).elim) ?_
      clear hK K
      refine any_run1 (i := 15) (by kernel_rfl) (by rfl) (by kernel_rfl) ?_
      intro K hK
      go_wp2_with fail
      refine hK _ _ (fun hx => (Bool.false_ne_true (hx.symm.trans (by kernel_rfl))).elim) ?_
      clear hK K
      refine any_done (by kernel_rfl) (NoPanic.normal ?_)
      clear bx rs rb lr9 rc9 rf9
      go_wp2_with fail
      go_roundw
      case rel =>
        refine ⟨k + 1, .slice A9 (j + 1) c9, by omega, by go_num, HRX.out, HRS.out, ?_, ?_, HC9.out⟩
        · have : oneBk bars us (k + 1) = oneBk bars us k := by unfold oneBk; rw [if_neg (by omega), if_neg (by have := HJ.out; omega)]
          rw [this]; exact HRB.out
        · rw [show k + 1 - 1 = j + 1 by have := HJ.out; omega]; exact HO9.out
      case measure => simp [intOf]; omega
    have zu : (us.length : Int) > 0 := by omega
    obtain ⟨s, hs⟩ : ∃ s, k % us.length = s := ⟨_, rfl⟩
    have hsl : s < us.length := by rw [← hs]; exact Nat.mod_lt _ (by omega)
    have hng : us.getD s 0 = n := by rw [← hn, ← hs]; unfold numAt; rw [if_neg hu0]
    have e1 : (k : Int) % (us.length : Int) = (s : Int) := by rw [← Int.natCast_emod, hs]
    have t1 : (k : Int).tmod (us.length : Int) = (s : Int) := by rw [Int.tmod_eq_emod_of_nonneg (by omega), e1]
    have ye0 : ((us.length : Int) == 0) = false := beq_eq_false_iff_ne.2 (by omega)
    have ye2 : (us.length : Int) ≠ 0 := by omega
    obtain ⟨A', cap', bb, off, hve, hA, hc⟩ := RU.cells hU
    obtain ⟨rfl, hbb⟩ := hA (by omega)
    injection hve with q1 q2 q3
    subst q1 q3
    have hcl := hc s hsl
    rw [hng] at hcl
    clear hA hc q2 hs hn hng hu0
    have lbx := bx.lt
    have bxc0 := bx.cell 0
    have bxc1 := bx.cell 1
    simp at bxc0 bxc1
    have lrb := rb.lt
    have rbc0 := rb.cell 0
    have rbc1 := rb.cell 1
    simp at rbc0 rbc1
    go_upto_region 8 with fail
    clear lbx bxc0 bxc1
    clear lrb rbc0 rbc1
    clear zu e1 t1 ye0 ye2 hcl hbb hsl
    by_cases hk0 : k = 0
    case pos =>
      have hrm : n % bars.length = oneB bars us := by have := HN.out; rw [hk0] at this; rw [← this]; rfl
      have hrm2 : (n : Int) % (bars.length : Int) = (oneB bars us : Int) := by rw [← Int.natCast_emod, hrm]
      have hown2 := own_ri_set HOW.out rb (by decide) 0 (.int .i64 (oneB bars us : Nat))
      rw [HNL.out] at hown2
      have hz : oneW ss us (k - 1) = oneW ss us (1 - 1) := by rw [hk0]
      rw [hz] at hown2
      have d0 : ((k : Int) == 0) = true := by rw [hk0]; rfl
      have r1 : (n : Int) % (bars.length : Int) = (oneB bars us : Int) := by exact hrm2
      have r2 : (n : Int).tmod (bars.length : Int) = (oneB bars us : Int) := by rw [Int.tmod_eq_emod_of_nonneg (by omega), r1]
      have y0 : ((bars.length : Int) == 0) = false := beq_eq_false_iff_ne.2 (by omega)
      have y1 : (bars.length : Int) ≠ 0 := by omega
      have hol : oneB bars us < bars.length := Nat.mod_lt _ hbp
      obtain ⟨ob, hob⟩ : ∃ n, oneB bars us = n := ⟨_, rfl⟩
      rw [hob] at r1 r2 hol hown2
      have HO2 := Lib.hid hown2
      have HOB := Lib.hid hob
      have w1 : IntKind.i64.wrap (ob : Int) = (ob : Int) := by rw [IntKind.wrap_i64]; omega
      have wk : IntKind.i64.wrap ((k : Int) + 1) = (k : Int) + 1 := by rw [IntKind.wrap_i64]; omega
      have HK0 := Lib.hid hk0
      clear hob hrm hrm2 hown2 hz hk0
      have lbx := bx.lt
      have bxc0 := bx.cell 0
      have bxc1 := bx.cell 1
      simp at bxc0 bxc1
      have lrb := rb.lt
      have rbc0 := rb.cell 0
      have rbc1 := rb.cell 1
      simp at rbc0 rbc1
      have rbf0 := rb.frozen 0
      have HC2 : Hid (Below n0 w (wr.setCell ⟨n0 + 1 + 1, 0, none⟩ (.int .i64 (ob : Int)))) := Lib.hid (Below.setCell hC HQ.out.2.2 _)
      have hb2 := rb.set 0 (.int .i64 (ob : Int))
      simp at hb2
      have HRB := Lib.hid hb2
      have HRX := Lib.hid (bx.far (p := ⟨n0 + 1 + 1, 0, none⟩) (by show n0 ≠ n0 + 1 + 1; omega) (.int .i64 (ob : Int)))
      have HRS := Lib.hid (rs.far (p := ⟨n0 + 1 + 1, 0, none⟩) (by show n0 + 1 ≠ n0 + 1 + 1; omega) (.int .i64 (ob : Int)))
      clear hb2 bx rs rb hC
      go_wp2_with fail
      go_roundw
      case rel =>
        refine ⟨1, .slice Av nl cv, by omega, ?_, HRX.out, HRS.out, ?_, HO2.out, HC2.out⟩
        · rw [HK0.out]; rfl
        · have : oneBk bars us 1 = ob := by unfold oneBk; rw [if_neg (by decide), HOB.out]
          rw [this]; exact HRB.out
      case measure => simp [intOf]; omega
    obtain ⟨j, hj⟩ : ∃ j, k = j + 1 := ⟨k - 1, by omega⟩
    have hjs : j < ss.length := by omega
    obtain ⟨A', cap', bb', off', hve, hA, hc⟩ := RP.cells hS
    obtain ⟨rfl, hbb'⟩ := hA (by omega)
    injection hve with q1 q2 q3
    subst q1 q3
    obtain ⟨u, d1, hu1⟩ := hc j hjs
    obtain ⟨At, ct, rfl⟩ := hu1.slice
    have hwp := HV.out.wpos _ (nthS_mem hjs)
    have HOS := Lib.hid (oneW_succ ss us j)
    have hkj : k - 1 = j := by omega
    have HNK : Hid (numAt us (j + 1) = n) := Lib.hid (by rw [← hj]; exact HN.out)
    obtain ⟨q, hq⟩ : ∃ q, n % (nthS ss j).length = q := ⟨_, rfl⟩
    have hql : q < (nthS ss j).length := by rw [← hq]; exact Nat.mod_lt _ hwp.1
    have HQQ := Lib.hid hq
    obtain ⟨p, hp⟩ : ∃ p, (nthS ss j).length = p := ⟨_, rfl⟩
    rw [hp] at d1 hql hwp hq
    have r0 : (n : Int).tmod (p : Int) = (q : Int) := by rw [Int.tmod_eq_emod_of_nonneg (by omega), ← Int.natCast_emod, hq]
    have r2 : (n : Int).tmod (p : Int) = (q : Int) := by exact r0
    have y0 : ((p : Int) == 0) = false := beq_eq_false_iff_ne.2 (by omega)
    have y1 : (p : Int) ≠ 0 := by omega
    have y3 : (p = 0) = False := eq_false (by omega)
    have w1 : IntKind.i64.wrap (q : Int) = (q : Int) := by rw [IntKind.wrap_i64]; omega
    have w2 : IntKind.i64.wrap ((k : Int) - 1) = (j : Int) := by rw [IntKind.wrap_i64]; omega
    have wk : IntKind.i64.wrap ((k : Int) + 1) = (k : Int) + 1 := by rw [IntKind.wrap_i64]; omega
    have dk : ((k : Int) == 0) = false := beq_eq_false_iff_ne.2 (by omega)
    have hji : (j : Int) < (ss.length : Int) := by omega
    have HJ := Lib.hid hj
    have HKJ := Lib.hid hkj
    have hown := HOW.out
    rw [hkj] at hown
    have HPP := Lib.hid hp
    clear hA hc q2 hu1 hwp hq hp r0 hkj hj hk0
    have lbx := bx.lt
    have bxc0 := bx.cell 0
    have bxc1 := bx.cell 1
    simp at bxc0 bxc1
    have lrb := rb.lt
    have rbc0 := rb.cell 0
    have rbc1 := rb.cell 1
    simp at rbc0 rbc1
    go_upto_region 10 with fail
    refine wp_region_noPanic (plain_any [0, 1, 2, 3, 4, 5, 6, 7, 8, 9, 10, 11] (Below wr.heap.size wr) mixed ?_)
    refine any_tk 0 ?_
    have d0z : Below wr.heap.size wr wr.drew := by exact bel_of
    refine any_tk 1 ?_
    refine any_tk 2 ?_
    refine any_tk 3 ?_
    refine any_tk 4 ?_
    refine any_tk 5 ?_
    refine any_tk 6 ?_
    refine any_tk 7 ?_
    refine any_tk 8 ?_
    refine any_tk 9 ?_
    refine any_tk 10 ?_
    refine any_tk 11 ?_
    have qz1 := d0z.size
    have ez1 : Below wr.heap.size wr (wr.drew.alloc (.cells #[.int .i64 (q : Int)] 3)) := by exact bel_of
    refine any_run1 (i := 12) (by kernel_rfl) (by rfl) (by kernel_rfl) ?_
    intro K hK
    go_wp2_with fail
    refine hK _ _ (fun _ => ez1) ?_
    clear hK K
    have b9 : BK (wr.drew.alloc (.cells #[.int .i64 (q : Int)] 3)) (wr.drew.heap.size) #[.int .i64 (q : Int)] 3 := BK.new' _ _ _ _ rfl
    have o9 := own_below hown ez1
    have bx9 := bx.below ez1 bx.lt
    have rs9 := rs.below ez1 rs.lt
    have rb9 := rb.below ez1 rb.lt
    obtain ⟨v9, w9, hrun, hown', hbel, hsz, hkeep⟩ := app_b_i int_info int_slice o9 b9 (by rw [oneW_len]; omega) (by have := ez1.size; have := hC.size; omega)
    have hC9 := hbel w (hC.trans (ez1.mono (by have := hC.size; omega)))
    replace bx9 := hkeep _ _ _ bx9 (by decide)
    replace rs9 := hkeep _ _ _ rs9 (by decide)
    replace rb9 := hkeep _ _ _ rb9 (by decide)
    obtain ⟨A9, c9, rfl⟩ := own_slice hown'
    have hln : (oneW ss us j ++ [(q : Int)]).length = j + 1 := by rw [List.length_append, oneW_len]; rfl
    have hwq : oneW ss us (j + 1) = oneW ss us j ++ [(q : Int)] := by rw [HOS.out, HNK.out, HQQ.out]
    have hjl : (oneW ss us j).length = nl := by have h8 := HNL.out; have h9 := HKJ.out; rw [oneW_len] at h8 ⊢; omega
    rw [hln, hjl] at hrun
    clear hjl
    have hown3 := own_ri_set hown' rb9 (by decide) 1 (.slice A9 (j + 1) c9)
    rw [← hwq, oneW_len] at hown3
    have HO9 := Lib.hid hown3
    have hb2 := rb9.set 1 (.slice A9 (j + 1) c9)
    simp at hb2
    have HRB := Lib.hid hb2
    have HRX := Lib.hid (bx9.far (p := ⟨n0 + 1 + 1, 1, none⟩) (by show n0 ≠ n0 + 1 + 1; omega) (.slice A9 (j + 1) c9))
    have HRS := Lib.hid (rs9.far (p := ⟨n0 + 1 + 1, 1, none⟩) (by show n0 + 1 ≠ n0 + 1 + 1; omega) (.slice A9 (j + 1) c9))
    have HC9 : Hid (Below n0 w (w9.setCell ⟨n0 + 1 + 1, 1, none⟩ (.slice A9 (j + 1) c9))) := Lib.hid (Below.setCell hC9 HQ.out.2.2 _)
    have HRUN := Lib.hid hrun
    have lr9 := rb9.lt
    have rc9 := rb9.cell 1
    simp at rc9
    have rf9 := rb9.frozen 1
    clear hrun hown' hbel b9 o9 hC9 hsz hkeep hown hown3 hb2 hln hwq bx9 rs9 rb9
    refine any_run1 (i := 13) (by kernel_rfl) (by rfl) (by kernel_rfl) ?_
    intro K hK
    refine wp_append_run (.tmp 35) (.tmp 46) 40 _ rfl HRUN.out ?_
    refine hK _ _ (fun hx => (Bool.false_ne_true (hx.symm.trans (by kernel_rfl))).elim) ?_
    clear hK K
    simp only [List.getElem_toArray, List.getElem_cons_succ, List.getElem_cons_zero, Act.put, List.setIfInBounds_toArray, List.set_cons_succ, List.set_cons_zero]
    refine any_run1 (i := 14) (by kernel_rfl) (by rfl) (by kernel_rfl) ?_
    intro K hK
    go_wp2_with fail
    refine hK _ _ (fun hx => (Bool.false_ne_true (hx.symm.trans (by kernel_rfl))).elim) ?_
    clear hK K
    refine any_run1 (i := 15) (by kernel_rfl) (by rfl) (by kernel_rfl) ?_
    intro K hK
    go_wp2_with fail
    refine hK _ _ (fun hx => (Bool.false_ne_true (hx.symm.trans (by kernel_rfl))).elim) ?_
    clear hK K
    refine any_done (by kernel_rfl) (NoPanic.normal ?_)
    clear bx rs rb lr9 rc9 rf9
    go_wp2_with fail
    go_roundw
    case rel =>
      refine ⟨k + 1, .slice A9 (j + 1) c9, by omega, by go_num, HRX.out, HRS.out, ?_, ?_, HC9.out⟩
      · have : oneBk bars us (k + 1) = oneBk bars us k := by unfold oneBk; rw [if_neg (by omega), if_neg (by have := HJ.out; omega)]
        rw [this]; exact HRB.out
      · rw [show k + 1 - 1 = j + 1 by have := HJ.out; omega]; exact HO9.out
    case measure => simp [intOf]; omega
end Go.Proofs.Ytkibdciomheekaa

set_option linter.all false
namespace Go.Proofs.Ytkibdciomheekaa
open Go.RowKit Hp

theorem nthB_cons (x : Rg) (l : List Rg) (i : Nat) : nthB (x :: l) (i + 1) = nthB l i := rfl
theorem nthB_of {l : List Rg} {i : Nat} {r : Rg} (h : l[i]? = some r) : nthB l i = r := by simp [nthB, h]
theorem nthI_of {l : List Int} {i : Nat} {x : Int} (h : l[i]? = some x) : nthI l i = x := by simp [nthI, h]
theorem hadL_in : ∀ {ws : List Wy} {r m : Rg}, (∀ w ∈ ws, OkW w) → OkR r → m.lo ≤ m.hi → meets (endR r ws) m = true → ∀ i, i ≤ ws.length →
    (nthB (thr r ws) i).lo ≤ (nthB (hadL r ws m) i).lo ∧ (nthB (hadL r ws m) i).hi ≤ (nthB (thr r ws) i).hi
  | ws, r, m, ok, hr, hm, h, 0, _ => by
    have h1 := hadL_head ok hr hm h
    rw [headR_nth] at h1
    have e : nthB (thr r ws) 0 = r := by cases ws <;> rfl
    rw [e]
    exact h1.2
  | w :: ws, r, m, ok, hr, hm, h, i + 1, hi => by
    show (nthB (r :: thr (via w r) ws) (i + 1)).lo ≤ (nthB (_ :: hadL (via w r) ws m) (i + 1)).lo ∧ (nthB (_ :: hadL (via w r) ws m) (i + 1)).hi ≤ (nthB (r :: thr (via w r) ws) (i + 1)).hi
    rw [nthB_cons, nthB_cons]
    exact hadL_in (fun v hv => ok v (List.mem_cons_of_mem _ hv)) (via_ok (ok w (List.mem_cons_self ..)) hr) hm h i (by simpa using hi)
  | [], r, m, ok, hr, hm, h, i + 1, hi => by simp at hi
theorem hadL_last : ∀ (ws : List Wy) (r m : Rg), nthB (hadL r ws m) ws.length = meet (endR r ws) m
  | [], r, m => rfl
  | w :: ws, r, m => hadL_last ws (via w r) m
section
variable {bars : List Rg} {ss : List Stp} {b : Int} {ks hs : List Int} {m : Rg} {i : Nat}
theorem rng_at (OR : OkRec bars ss b ks) (hi : i ≤ ss.length) : nthB (rngL bars ss b ks) i = endR (nthB bars b.toNat) ((pick ss (nats ks)).take i) := by
  unfold rngL
  rw [if_pos (recE_of OR)]
  exact nthB_of (thr_at _ _ _ (by rw [pick_len OR.ways]; exact hi))
theorem rng_ok (OR : OkRec bars ss b ks) (hi : i ≤ ss.length) : OkR (nthB (rngL bars ss b ks) i) := by
  rw [rng_at OR hi]
  exact endR_ok (fun w hw => pick_ok OR.works.sok OR.ways w (List.mem_of_mem_take hw)) (OR.works.bok _ (nthB_mem OR.bhi))
theorem rng_last (OR : OkRec bars ss b ks) : nthB (rngL bars ss b ks) ss.length = endR (nthB bars b.toNat) (pick ss (nats ks)) := by
  rw [rng_at OR (Nat.le_refl _), List.take_of_length_le (by rw [pick_len OR.ways]; exact Nat.le_refl _)]
theorem histE_histB (h : histE bars ss b ks hs = 0) : OkRec bars ss b ks ∧ hs.length = ss.length + 1 ∧ histB (nthB bars b.toNat) (pick ss (nats ks)) hs = true := by
  unfold histE at h
  split at h
  · rename_i q; exact absurd h q
  · rename_i q
    split at h
    · cases h
    · rename_i q2
      split at h
      · rename_i q3
        exact ⟨okRec_of (Decidable.not_not.1 q), by omega, q3⟩
      · cases h
theorem hist_rng (h : histE bars ss b ks hs = 0) (hi : i ≤ ss.length) : inR (nthI hs i) (nthB (rngL bars ss b ks) i) = true := by
  obtain ⟨OR, hl, hB⟩ := histE_histB h
  obtain ⟨x, hx, h2⟩ := hist_in (pick_ok OR.works.sok OR.ways) (OR.works.bok _ (nthB_mem OR.bhi)) hB i (by rw [pick_len OR.ways]; exact hi)
  rw [rng_at OR hi, nthI_of hx]
  exact h2
theorem hadE_of (OR : OkRec bars ss b ks) (hm : OkR m) (h : meets (nthB (rngL bars ss b ks) ss.length) m = true) : hadE bars ss b ks m = 0 := by
  rw [rng_last OR] at h
  unfold hadE
  rw [if_neg (by rw [recE_of OR]; exact fun h => h rfl), if_neg (by rw [hard_iff.2 hm]; exact Bool.noConfusion), if_pos h]
theorem had_one (OR : OkRec bars ss b ks) {e : Int} (h : inR e (nthB (rngL bars ss b ks) ss.length) = true) : hadE bars ss b ks ⟨e, e⟩ = 0 := by
  have ok := rng_ok (i := ss.length) OR (Nat.le_refl _)
  have h1 := inR_iff.1 h
  refine hadE_of OR ⟨Int.le_refl _, ?_, ?_⟩ (meets_iff.2 ⟨?_, ?_⟩)
  · have := ok.2.1; show (0 : Int) ≤ e; omega
  · have := ok.2.2; show e ≤ 1000; omega
  · exact h1.1
  · exact h1.2
theorem of_had (h : hadE bars ss b ks m = 0) : OkRec bars ss b ks ∧ OkR m ∧ meets (nthB (rngL bars ss b ks) ss.length) m = true := by
  obtain ⟨h1, h2, h3⟩ := of_hadE h
  exact ⟨h1, h2, by rw [rng_last h1]; exact h3⟩
theorem had_last (h : hadE bars ss b ks m = 0) : nthB (hadV bars ss b ks m) ss.length = meet (nthB (rngL bars ss b ks) ss.length) m := by
  have OR := (of_had h).1
  rw [rng_last OR]
  unfold hadV
  rw [if_pos h]
  have := hadL_last (pick ss (nats ks)) (nthB bars b.toNat) m
  rw [pick_len OR.ways] at this
  exact this
theorem had_in (h : hadE bars ss b ks m = 0) (hi : i ≤ ss.length) : (nthB (rngL bars ss b ks) i).lo ≤ (nthB (hadV bars ss b ks m) i).lo ∧ (nthB (hadV bars ss b ks m) i).hi ≤ (nthB (rngL bars ss b ks) i).hi := by
  obtain ⟨OR, hm, hmt⟩ := of_hadE h
  unfold hadV rngL
  rw [if_pos h, if_pos (recE_of OR)]
  exact hadL_in (pick_ok OR.works.sok OR.ways) (OR.works.bok _ (nthB_mem OR.bhi)) hm.1 hmt i (by rw [pick_len OR.ways]; exact hi)
theorem hist_hadV (h : hadE bars ss b ks m = 0) (hh : histE bars ss b ks hs = 0) (hl : inR (nthI hs ss.length) m = true) (hi : i ≤ ss.length) : inR (nthI hs i) (nthB (hadV bars ss b ks m) i) = true := by
  obtain ⟨OR, hm, hmt⟩ := of_hadE h
  obtain ⟨_, hlen, hB⟩ := histE_histB hh
  have hx : hs[(pick ss (nats ks)).length]? = some (nthI hs ss.length) := by
    rw [pick_len OR.ways]
    have hq : ss.length < hs.length := by omega
    simp [nthI, hq]
  obtain ⟨y, hy, d, hd, hin⟩ := hist_had (pick_ok OR.works.sok OR.ways) (OR.works.bok _ (nthB_mem OR.bhi)) hm.1 hB hx hl i (by rw [pick_len OR.ways]; exact hi)
  unfold hadV
  rw [if_pos h, nthI_of hy, nthB_of hd]
  exact hin
theorem histV_last (h : hadE bars ss b ks m = 0) : inR (nthI (histV bars ss b ks m) ss.length) m = true := by
  obtain ⟨x, hx, hm⟩ := (histV_ok h).2
  rw [nthI_of hx]; exact hm
theorem histV_had (h : hadE bars ss b ks m = 0) (hi : i ≤ ss.length) : inR (nthI (histV bars ss b ks m) i) (nthB (hadV bars ss b ks m) i) = true :=
  hist_hadV h (histV_histE h) (histV_last h) hi
end
end Go.Proofs.Ytkibdciomheekaa

namespace Hp
open Go.Proofs.Ytkibdciomheekaa
theorem pick_take2 : ∀ (ss : List Stp) (ks : List Nat) (k : Nat), pick (ss.take k) (ks.take k) = (pick ss ks).take k
  | ss, ks, 0 => by simp [pick]
  | [], ks, k + 1 => by simp [pick]
  | s :: ss, [], k + 1 => by simp [pick]
  | s :: ss, q :: ks, k + 1 => by
    show nthW s q :: pick (ss.take k) (ks.take k) = nthW s q :: (pick ss ks).take k
    rw [pick_take2 ss ks k]
theorem pick_drop : ∀ (ss : List Stp) (ks : List Nat) (k : Nat), ss.length = ks.length → pick (ss.drop k) (ks.drop k) = (pick ss ks).drop k
  | ss, ks, 0, _ => rfl
  | [], [], k + 1, _ => rfl
  | s :: ss, q :: ks, k + 1, h => by
    show pick (ss.drop k) (ks.drop k) = (pick ss ks).drop k
    exact pick_drop ss ks k (by simpa using h)
  | [], _ :: _, k + 1, h => by simp at h
  | _ :: _, [], k + 1, h => by simp at h
theorem hist_take : ∀ {ws : List Wy} {r : Rg} {hs : List Int}, histB r ws hs = true → ∀ k, histB r (ws.take k) (hs.take (k + 1)) = true
  | [], r, [h], e, k => by simpa using e
  | w :: ws, r, h :: hs, e, 0 => by
    have := Bool.and_eq_true_iff.1 e
    simpa [histB] using this.1
  | w :: ws, r, h :: hs, e, k + 1 => by
    have := Bool.and_eq_true_iff.1 e
    show (inR h r && histB (aft w h) (ws.take k) (hs.take (k + 1))) = true
    rw [Bool.and_eq_true]
    exact ⟨this.1, hist_take this.2 k⟩
  | [], _, [], e, _ => by cases e
  | [], _, _ :: _ :: _, e, _ => by cases e
  | _ :: _, _, [], e, _ => by cases e
theorem hist_drop : ∀ {ws : List Wy} {r R : Rg} {hs : List Int} (k : Nat), histB r ws hs = true → k ≤ ws.length → inR (nthI hs k) R = true → histB R (ws.drop k) (hs.drop k) = true
  | [], r, R, [h], 0, e, _, hR => hR
  | w :: ws, r, R, h :: hs, 0, e, _, hR => by
    have := Bool.and_eq_true_iff.1 e
    exact Bool.and_eq_true_iff.2 ⟨hR, this.2⟩
  | w :: ws, r, R, h :: hs, k + 1, e, hk, hR => by
    have := Bool.and_eq_true_iff.1 e
    exact hist_drop k this.2 (by simpa using hk) hR
  | [], _, _, [], 0, e, _, _ => by cases e
  | [], _, _, _ :: _ :: _, 0, e, _, _ => by cases e
  | _ :: _, _, _, [], 0, e, _, _ => by cases e
  | [], _, _, _, k + 1, _, hk, _ => by simp at hk
  | _ :: _, _, _, [], k + 1, e, _, _ => by cases e
theorem thr_lo : ∀ {ws : List Wy} {r r' : Rg}, (∀ w ∈ ws, OkW w) → OkR r → OkR r' → r.lo ≤ r'.lo → ∀ i, i ≤ ws.length → (nthB (thr r ws) i).lo ≤ (nthB (thr r' ws) i).lo
  | ws, r, r', ok, h, h', hl, 0, _ => by cases ws <;> exact hl
  | w :: ws, r, r', ok, h, h', hl, i + 1, hi => by
    have o := ok w (List.mem_cons_self ..)
    exact thr_lo (ws := ws) (r := via w r) (r' := via w r') (fun v hv => ok v (List.mem_cons_of_mem _ hv)) (via_ok o h) (via_ok o h') (aft_mono o h.2.1 hl).1 i (by simpa using hi)
  | [], _, _, _, _, _, _, i + 1, hi => by simp at hi
theorem thr_hi : ∀ {ws : List Wy} {r r' : Rg}, (∀ w ∈ ws, OkW w) → OkR r → OkR r' → r.hi ≤ r'.hi → ∀ i, i ≤ ws.length → (nthB (thr r ws) i).hi ≤ (nthB (thr r' ws) i).hi
  | ws, r, r', ok, h, h', hl, 0, _ => by cases ws <;> exact hl
  | w :: ws, r, r', ok, h, h', hl, i + 1, hi => by
    have o := ok w (List.mem_cons_self ..)
    exact thr_hi (ws := ws) (r := via w r) (r' := via w r') (fun v hv => ok v (List.mem_cons_of_mem _ hv)) (via_ok o h) (via_ok o h') (aft_mono o (show 0 ≤ r.hi from by have := h.1; have := h.2.1; omega) hl).2 i (by simpa using hi)
  | [], _, _, _, _, _, _, i + 1, hi => by simp at hi
/-- The works with another range for a bar. -/
theorem okV_set {bars : List Rg} {ss : List Stp} (h : OkV bars ss) (b : Nat) {r : Rg} (hr : OkR r) : OkV (bars.set b r) ss :=
  ⟨by simpa using h.bpos, by simpa using h.bfew, h.sfew, h.wpos, fun x hx => by
    rcases List.mem_or_eq_of_mem_set hx with hx | rfl
    · exact h.bok x hx
    · exact hr, h.sok⟩
theorem okRec_set {bars : List Rg} {ss : List Stp} {b : Int} {ks : List Int} (h : OkRec bars ss b ks) {r : Rg} (hr : OkR r) : OkRec (bars.set b.toNat r) ss b ks :=
  ⟨okV_set h.works _ hr, h.blo, by simpa using h.bhi, h.ways, h.nn⟩
theorem nthB_set {bars : List Rg} {b : Nat} (h : b < bars.length) (r : Rg) : nthB (bars.set b r) b = r := by simp [nthB, h]
theorem okV_take {bars : List Rg} {ss : List Stp} (h : OkV bars ss) (k : Nat) : OkV bars (ss.take k) :=
  ⟨h.bpos, h.bfew, by have := h.sfew; rw [List.length_take]; omega, fun s hs => h.wpos s (List.mem_of_mem_take hs), h.bok, fun s hs => h.sok s (List.mem_of_mem_take hs)⟩
theorem okV_drop {bars : List Rg} {ss : List Stp} (h : OkV bars ss) (k : Nat) {r : Rg} (hr : OkR r) : OkV [r] (ss.drop k) :=
  ⟨by simp, by simp, by have := h.sfew; rw [List.length_drop]; omega, fun s hs => h.wpos s (List.mem_of_mem_drop hs), fun b hb => by rw [List.mem_singleton.1 hb]; exact hr, fun s hs => h.sok s (List.mem_of_mem_drop hs)⟩
theorem nats_take (ks : List Int) (k : Nat) : nats (ks.take k) = (nats ks).take k := by simp [nats]
theorem nats_drop (ks : List Int) (k : Nat) : nats (ks.drop k) = (nats ks).drop k := by simp [nats]
theorem allR_take {ss : List Stp} {ks : List Nat} (h : ks ∈ allR ss) (k : Nat) : ks.take k ∈ allR (ss.take k) := by
  obtain ⟨h1, h2⟩ := mem_allR_iff.1 h
  refine mem_allR_iff.2 ⟨by rw [List.length_take, List.length_take, h1], fun i hi => ?_⟩
  rw [List.length_take] at hi
  have e1 : (ks.take k).getD i 0 = ks.getD i 0 := by simp [List.getD_eq_getElem?_getD, List.getElem?_take_of_lt (show i < k by omega)]
  have e2 : nthS (ss.take k) i = nthS ss i := by simp [nthS, List.getD_eq_getElem?_getD, List.getElem?_take_of_lt (show i < k by omega)]
  rw [e1, e2]
  exact h2 i (by omega)
theorem allR_drop {ss : List Stp} {ks : List Nat} (h : ks ∈ allR ss) (k : Nat) : ks.drop k ∈ allR (ss.drop k) := by
  obtain ⟨h1, h2⟩ := mem_allR_iff.1 h
  refine mem_allR_iff.2 ⟨by rw [List.length_drop, List.length_drop, h1], fun i hi => ?_⟩
  rw [List.length_drop] at hi
  have e1 : (ks.drop k).getD i 0 = ks.getD (k + i) 0 := by simp [List.getD_eq_getElem?_getD]
  have e2 : nthS (ss.drop k) i = nthS ss (k + i) := by simp [nthS, List.getD_eq_getElem?_getD]
  rw [e1, e2]
  exact h2 (k + i) (by omega)
theorem okRec_take {bars : List Rg} {ss : List Stp} {b : Int} {ks : List Int} (h : OkRec bars ss b ks) (k : Nat) : OkRec bars (ss.take k) b (ks.take k) :=
  ⟨okV_take h.works k, h.blo, h.bhi, by rw [nats_take]; exact allR_take h.ways k, fun x hx => h.nn x (List.mem_of_mem_take hx)⟩
theorem okRec_drop {bars : List Rg} {ss : List Stp} {b : Int} {ks : List Int} (h : OkRec bars ss b ks) (k : Nat) {r : Rg} (hr : OkR r) : OkRec [r] (ss.drop k) 0 (ks.drop k) :=
  ⟨okV_drop h.works k hr, Int.le_refl _, by simp, by rw [nats_drop]; exact allR_drop h.ways k, fun x hx => h.nn x (List.mem_of_mem_drop hx)⟩
end Hp

set_option linter.all false
namespace Go.Proofs.Ytkibdciomheekaa
open Go.RowKit Hp

def fineP (bars : List Rg) (ss : List Stp) : Prop := ¬ greatP bars ss ∧ worksE bars ss = 0
def FinePost (bars : List Rg) (ss : List Stp) (w : World) (e : Ending) (w' : World) : Prop := ∃ q, e = .returned (.bool q) ∧ (q = true ↔ fineP bars ss) ∧ Below w.heap.size w w'
theorem FinePost.no {bars : List Rg} {ss : List Stp} {w w' : World} (h : ¬ fineP bars ss) (hb : Below w.heap.size w w') : FinePost bars ss w (.returned (.bool false)) w' := ⟨false, rfl, ⟨fun q => Bool.noConfusion q, fun q => (h q).elim⟩, hb⟩
theorem FinePost.yes {bars : List Rg} {ss : List Stp} {w w' : World} (h : fineP bars ss) (hb : Below w.heap.size w w') : FinePost bars ss w (.returned (.bool true)) w' := ⟨true, rfl, ⟨fun _ => h, fun _ => rfl⟩, hb⟩

set_option maxHeartbeats 8000000 in
set_option maxRecDepth 100000 in
theorem fine_any (bars : List Rg) (ss : List Stp) (vb vs : Value) (w : World) (hB : RR w w.heap.size vb bars) (hS : RP w w.heap.size vs ss) :
    Calls Try.prog 43 #[.agg #[vb, vs]] w (FinePost bars ss w) := by
  obtain ⟨Ab, cb, rfl⟩ := hB.slice
  obtain ⟨As, cs, rfl⟩ := hS.slice
  obtain ⟨n0, hn0⟩ : ∃ n, w.heap.size = n := ⟨_, rfl⟩
  have hC : Below n0 w w := Below.refl _ _
  go_enter Try.func43, Try.ntmps43
  go_upto_region 1 with fail
  have hqbx : n0 ≤ n0 := by have := hC.size; omega
  have bx : BK (w.alloc (.cells #[.slice Ab bars.length cb, .slice As ss.length cs] 25)) (n0) #[.slice Ab bars.length cb, .slice As ss.length cs] 25 := BK.new' _ _ _ (n0) hn0
  have hsbx : (w.alloc (.cells #[.slice Ab bars.length cb, .slice As ss.length cs] 25)).heap.size = n0 + 1 := by simp [hn0]
  replace hC : Below n0 w (w.alloc (.cells #[.slice Ab bars.length cb, .slice As ss.length cs] 25)) := Below.alloc hC (by have := hC.size; omega) _
  replace hB := (RS.below hB (w' := (w.alloc (.cells #[.slice Ab bars.length cb, .slice As ss.length cs] 25))) (Below.alloc (Below.refl _ _) (Nat.le_refl _) _)).more (B' := (w.alloc (.cells #[.slice Ab bars.length cb, .slice As ss.length cs] 25)).heap.size) (by simp)
  replace hS := (RP.below hS (w' := (w.alloc (.cells #[.slice Ab bars.length cb, .slice As ss.length cs] 25))) (Below.alloc (Below.refl _ _) (Nat.le_refl _) _)).more (B' := (w.alloc (.cells #[.slice Ab bars.length cb, .slice As ss.length cs] 25)).heap.size) (by simp)
  generalize (w.alloc (.cells #[.slice Ab bars.length cb, .slice As ss.length cs] 25)) = Wbx at *
  have lbx := bx.lt
  have bxc0 := bx.cell 0
  have bxc1 := bx.cell 1
  simp at bxc0 bxc1
  go_wp2_with fail
  clear lbx bxc0 bxc1
  clear hsbx
  refine (great_any bars ss _ _ _ hB hS).mono ?_
  rintro e w1 ⟨q, rfl, hq, hb⟩
  replace hC : Below n0 w w1 := hC.trans (hb.mono (by have := hC.size; omega))
  replace hB := (RS.below hB hb).more hb.size
  replace hS := (RP.below hS hb).more hb.size
  replace bx := bx.below hb bx.lt
  clear hb
  cases q
  case true =>
    have HE := Lib.hid (show ¬ fineP bars ss from fun h => h.1 (hq.1 rfl))
    clear hq
    go_wp2_with fail
    go_ret
    exact FinePost.no HE.out (by (try rw [hn0]); exact hC)
  have HG := Lib.hid (show ¬ greatP bars ss from fun h => Bool.noConfusion (hq.2 h))
  clear hq
  have lbx := bx.lt
  have bxc0 := bx.cell 0
  have bxc1 := bx.cell 1
  simp at bxc0 bxc1
  go_wp2_with fail
  clear lbx bxc0 bxc1
  refine (checkWorksR_any bars ss _ _ _ (great_fit HG.out) hB hS).mono ?_
  rintro e w2 ⟨rfl, hb⟩
  replace hC : Below n0 w w2 := hC.trans (hb.mono (by have := hC.size; omega))
  replace hB := (RS.below hB hb).more hb.size
  replace hS := (RP.below hS hb).more hb.size
  replace bx := bx.below hb bx.lt
  clear hb
  obtain ⟨e, he⟩ : ∃ e, worksE bars ss = e := ⟨_, rfl⟩
  rw [he]
  by_cases e0 : e = 0
  case neg =>
    have HE := Lib.hid (show ¬ fineP bars ss from fun h => e0 (he.symm.trans h.2))
    have b1 : (e == 0) = false := beq_eq_false_iff_ne.2 e0
    clear he e0
    go_wp2_with fail
    go_ret
    exact FinePost.no HE.out (by (try rw [hn0]); exact hC)
  subst e0
  have HE := Lib.hid (show fineP bars ss from ⟨HG.out, he⟩)
  clear he
  go_wp2_with fail
  go_ret
  exact FinePost.yes HE.out (by (try rw [hn0]); exact hC)
end Go.Proofs.Ytkibdciomheekaa

set_option linter.all false
namespace Go.Proofs.Ytkibdciomheekaa
open Go.RowKit Hp

theorem okV_small {bars : List Rg} {ss : List Stp} (h : OkV bars ss) : ¬ greatP bars ss := by
  rintro (q | q | ⟨k, hk, q⟩)
  · have := h.bfew; omega
  · have := h.sfew; omega
  · have h1 := (h.wpos _ (nthS_mem hk)).2
    rcases q with q | ⟨j, hj, q⟩
    · omega
    · have := (h.sok _ (nthS_mem hk) _ (nthW_mem hj)).few
      omega
theorem okV_fine {bars : List Rg} {ss : List Stp} (h : OkV bars ss) : fineP bars ss := ⟨okV_small h, worksE_of h⟩
section
variable {bars : List Rg} {ss : List Stp} {b : Int} {ks hs : List Int} {k : Nat}
theorem part_rng1 (OR : OkRec bars ss b ks) : rngL bars (ss.take k) b (ks.take k) = (rngL bars ss b ks).take (k + 1) := by
  unfold rngL
  rw [if_pos (recE_of OR), if_pos (recE_of (okRec_take OR k)), thr_take, nats_take, pick_take2]
theorem part_rng2 (OR : OkRec bars ss b ks) (hk : k ≤ ss.length) : rngL [nthB (rngL bars ss b ks) k] (ss.drop k) 0 (ks.drop k) = (rngL bars ss b ks).drop k := by
  have OR2 := okRec_drop OR k (rng_ok (i := k) OR hk)
  have hl : ss.length = (nats ks).length := (allR_len OR.ways).symm
  have h1 := rng_at OR hk
  rw [h1] at OR2 ⊢
  unfold rngL
  rw [if_pos (recE_of OR), if_pos (recE_of OR2), nats_drop, pick_drop _ _ _ hl, thr_drop _ _ _ (by rw [pick_len OR.ways]; exact hk)]
  rfl
theorem part_hist1 (h : histE bars ss b ks hs = 0) (hk : k ≤ ss.length) : histE bars (ss.take k) b (ks.take k) (hs.take (k + 1)) = 0 := by
  obtain ⟨OR, hl, hB⟩ := histE_histB h
  have h1 : histB (nthB bars b.toNat) (pick (ss.take k) (nats (ks.take k))) (hs.take (k + 1)) = true := by
    rw [nats_take, pick_take2]
    exact hist_take hB k
  rw [histE_at (recE_of (okRec_take OR k)) (by rw [List.length_take, List.length_take, hl]; omega) h1, if_pos rfl]
theorem part_hist2 (h : histE bars ss b ks hs = 0) (hk : k ≤ ss.length) : histE [nthB (rngL bars ss b ks) k] (ss.drop k) 0 (ks.drop k) (hs.drop k) = 0 := by
  obtain ⟨OR, hl, hB⟩ := histE_histB h
  have hl2 : ss.length = (nats ks).length := (allR_len OR.ways).symm
  have OR2 := okRec_drop OR k (rng_ok (i := k) OR hk)
  have h1 : histB (nthB [nthB (rngL bars ss b ks) k] (0 : Int).toNat) (pick (ss.drop k) (nats (ks.drop k))) (hs.drop k) = true := by
    rw [nats_drop, pick_drop _ _ _ hl2]
    exact hist_drop k hB (by rw [pick_len OR.ways]; exact hk) (hist_rng h hk)
  rw [histE_at (recE_of OR2) (by rw [List.length_drop, List.length_drop, hl]; omega) h1, if_pos rfl]
end
end Go.Proofs.Ytkibdciomheekaa

set_option linter.all false
namespace Go.Proofs.Ytkibdciomheekaa
open Go.RowKit

/-- The slots of M turned. -/
def setAll (M : List Nat) (u : Nat → Value) (t : Array Value) : Array Value := M.foldl (fun t i => t.setIfInBounds i (u i)) t
theorem region_keep {P : Program} {Q : Exit → Act → World → Prop} {a : Act} {w : World} {id : Nat} {os : Array Oper} (M : List Nat) (J : (Nat → Value) → World → Prop)
    (h1 : (Code.region id os true).wp P (fun e a' w' => e = .normal ∧ a'.tmps = setAll M (fun j => a'.tmps.getD j undef) a.tmps ∧ a'.defers = a.defers ∧ J (fun j => a'.tmps.getD j undef) w') a w)
    (h2 : ∀ u V, J u V → Q .normal { tmps := setAll M u a.tmps, defers := a.defers } V) : (Code.region id os true).wp P Q a w :=
  Code.wp_mono (fun e a' w' h => by
    obtain ⟨e1, e2, e3, e4⟩ := h
    subst e1
    have h5 := h2 _ _ e4
    rw [← e2, ← e3] at h5
    exact h5) h1
end Go.Proofs.Ytkibdciomheekaa

set_option linter.all false
namespace Go.Proofs.Ytkibdciomheekaa
open Go.RowKit Hp

theorem addr_add' (b off j : Nat) : (⟨b, off, none⟩ : Addr).add j = ⟨b, off + j, none⟩ := by unfold Addr.add; split <;> simp_all
section
variable {α : Type} {R : World → Nat → Value → α → Prop} {w : World} {B : Nat} {l : List α} {A : Option Addr} {c k : Nat}
theorem RN.cap (h : RN R w B (.slice A l.length c) l) : l.length ≤ c := by
  obtain ⟨A', c', b, off, hv, hl, _⟩ := h
  injection hv with _ _ q3
  omega
theorem RN.take (h : RN R w B (.slice A l.length c) l) (hk : k ≤ l.length) : RN R w B (.slice A k c) (l.take k) := by
  obtain ⟨A', c', b, off, hv, hl, hA, hc⟩ := h
  injection hv with q1 q2 q3
  subst q1; subst q3
  have hlen : (l.take k).length = k := by rw [List.length_take]; omega
  refine ⟨A, c, b, off, by rw [hlen], by rw [hlen]; omega, fun hn => hA (by rw [hlen] at hn; omega), fun j x hx => hc j x ?_⟩
  have hj : j < k := by have := (List.getElem?_eq_some_iff.1 hx).1; rw [hlen] at this; exact this
  rw [List.getElem?_take_of_lt hj] at hx
  exact hx
theorem RN.drop (h : RN R w B (.slice A l.length c) l) (hk : k ≤ l.length) : RN R w B (.slice (if c = k then A else Option.map (fun x => x.add k) A) (l.length - k) (c - k)) (l.drop k) := by
  obtain ⟨A', c', b, off, hv, hl, hA, hc⟩ := h
  injection hv with q1 q2 q3
  subst q1; subst q3
  have hlen : (l.drop k).length = l.length - k := List.length_drop ..
  refine ⟨_, c - k, b, off + k, by rw [hlen], by rw [hlen]; omega, fun hn => ?_, fun j x hx => ?_⟩
  · rw [hlen] at hn
    obtain ⟨rfl, hb⟩ := hA (by omega)
    rw [if_neg (by omega), Option.map_some, addr_add']
    exact ⟨rfl, hb⟩
  · rw [List.getElem?_drop] at hx
    have := hc (k + j) x hx
    rw [← Nat.add_assoc] at this
    exact this
end
section
variable {w : World} {B sz n c k : Nat} {A : Option Addr} {cs : List Value}
theorem RS.take (h : RS w B sz (.slice A n c) n cs) (hk : k ≤ n) : RS w B sz (.slice A k c) k (cs.take (k * sz)) := by
  obtain ⟨A', c', b, off, hv, ⟨hl, hcap⟩, hA, hc⟩ := h
  injection hv with q1 q2 q3
  subst q1; subst q3
  have hks : k * sz ≤ n * sz := Nat.mul_le_mul_right _ hk
  have hlen : (cs.take (k * sz)).length = k * sz := by rw [List.length_take, hl]; omega
  refine ⟨A, c, b, off, rfl, ⟨hlen, by omega⟩, fun hn => hA (by omega), fun j hj => ?_⟩
  rw [hlen] at hj
  rw [hc j (by rw [hl]; omega), List.getElem?_take_of_lt hj]
theorem RS.drop1 (h : RS w B 1 (.slice A n c) n cs) (hk : k ≤ n) : RS w B 1 (.slice (if c = k then A else Option.map (fun x => x.add k) A) (n - k) (c - k)) (n - k) (cs.drop k) := by
  obtain ⟨A', c', b, off, hv, ⟨hl, hcap⟩, hA, hc⟩ := h
  injection hv with q1 q2 q3
  subst q1; subst q3
  have hlen : (cs.drop k).length = n - k := by rw [List.length_drop, hl]; omega
  refine ⟨_, c - k, b, off + k, rfl, ⟨by rw [hlen]; omega, by omega⟩, fun hn => ?_, fun j hj => ?_⟩
  · obtain ⟨rfl, hb⟩ := hA (by omega)
    rw [if_neg (by omega), Option.map_some, addr_add']
    exact ⟨rfl, hb⟩
  · rw [hlen] at hj
    rw [Nat.add_assoc, hc (k + j) (by omega), List.getElem?_drop]
theorem RS.drop2 (h : RS w B 2 (.slice A n c) n cs) (hk : k ≤ n) : RS w B 2 (.slice (if c = k then A else Option.map (fun x => x.add (k * 2)) A) (n - k) (c - k)) (n - k) (cs.drop (k * 2)) := by
  obtain ⟨A', c', b, off, hv, ⟨hl, hcap⟩, hA, hc⟩ := h
  injection hv with q1 q2 q3
  subst q1; subst q3
  have hlen : (cs.drop (k * 2)).length = (n - k) * 2 := by rw [List.length_drop, hl]; omega
  refine ⟨_, c - k, b, off + k * 2, rfl, ⟨hlen, by omega⟩, fun hn => ?_, fun j hj => ?_⟩
  · obtain ⟨rfl, hb⟩ := hA (by omega)
    rw [if_neg (by omega), Option.map_some, addr_add']
    exact ⟨rfl, hb⟩
  · rw [hlen] at hj
    rw [Nat.add_assoc, hc (k * 2 + j) (by omega), List.getElem?_drop]
theorem ofG_take {α : Type} (enc : α → List Value) (s : Nat) (he : ∀ x, (enc x).length = s) : ∀ (l : List α) (k : Nat), (ofG enc l).take (k * s) = ofG enc (l.take k)
  | l, 0 => by simp [ofG]
  | [], k + 1 => by simp [ofG]
  | x :: l, k + 1 => by
    show (enc x ++ ofG enc l).take ((k + 1) * s) = enc x ++ ofG enc (l.take k)
    rw [← ofG_take enc s he l k, show (k + 1) * s = (enc x).length + k * s by rw [he, Nat.succ_mul]; omega, List.take_length_add_append]
theorem ofG_drop {α : Type} (enc : α → List Value) (s : Nat) (he : ∀ x, (enc x).length = s) : ∀ (l : List α) (k : Nat), (ofG enc l).drop (k * s) = ofG enc (l.drop k)
  | l, 0 => by simp [ofG]
  | [], k + 1 => by simp [ofG]
  | x :: l, k + 1 => by
    show (enc x ++ ofG enc l).drop ((k + 1) * s) = ofG enc (l.drop k)
    rw [← ofG_drop enc s he l k, show (k + 1) * s = (enc x).length + k * s by rw [he, Nat.succ_mul]; omega, List.drop_length_add_append]
end
section
variable {w : World} {B c k : Nat} {A : Option Addr}
theorem RI.take {l : List Int} (h : RI w B (.slice A l.length c) l) (hk : k ≤ l.length) : RI w B (.slice A k c) (l.take k) := by
  have := RS.take h hk
  rw [Nat.mul_one] at this
  unfold RI
  rw [List.length_take, Nat.min_eq_left hk, show ofI (l.take k) = (ofI l).take k from List.map_take ..]
  exact this
theorem RI.drop {l : List Int} (h : RI w B (.slice A l.length c) l) (hk : k ≤ l.length) : RI w B (.slice (if c = k then A else Option.map (fun x => x.add k) A) (l.length - k) (c - k)) (l.drop k) := by
  have := RS.drop1 h hk
  unfold RI
  rw [List.length_drop, show ofI (l.drop k) = (ofI l).drop k from List.map_drop ..]
  exact this
theorem RR.take {l : List Rg} (h : RR w B (.slice A l.length c) l) (hk : k ≤ l.length) : RR w B (.slice A k c) (l.take k) := by
  have := RS.take h hk
  rw [ofG_take encR 2 encR_len] at this
  unfold RR
  rw [List.length_take, Nat.min_eq_left hk]
  exact this
theorem RR.drop {l : List Rg} (h : RR w B (.slice A l.length c) l) (hk : k ≤ l.length) : RR w B (.slice (if c = k then A else Option.map (fun x => x.add (k * 2)) A) (l.length - k) (c - k)) (l.drop k) := by
  have := RS.drop2 h hk
  rw [ofG_drop encR 2 encR_len] at this
  unfold RR
  rw [List.length_drop]
  exact this
theorem RP.take {l : List Stp} (h : RP w B (.slice A l.length c) l) (hk : k ≤ l.length) : RP w B (.slice A k c) (l.take k) := RN.take h hk
theorem RP.drop {l : List Stp} (h : RP w B (.slice A l.length c) l) (hk : k ≤ l.length) : RP w B (.slice (if c = k then A else Option.map (fun x => x.add k) A) (l.length - k) (c - k)) (l.drop k) := RN.drop h hk
end
end Go.Proofs.Ytkibdciomheekaa

set_option linter.all false
namespace Go.Proofs.Ytkibdciomheekaa
open Go.RowKit Hp

section
variable {bars : List Rg} {ss : List Stp} {b : Int} {ks : List Int} {r : Rg}
theorem set_rng (OR : OkRec bars ss b ks) (hr : OkR r) : rngL (bars.set b.toNat r) ss b ks = thr r (pick ss (nats ks)) := by
  unfold rngL
  rw [if_pos (recE_of (okRec_set OR hr)), nthB_set OR.bhi]
theorem set_lo (OR : OkRec bars ss b ks) (hr : OkR r) (h : (nthB bars b.toNat).lo ≤ r.lo) {i : Nat} (hi : i ≤ ss.length) : (nthB (rngL bars ss b ks) i).lo ≤ (nthB (rngL (bars.set b.toNat r) ss b ks) i).lo := by
  rw [set_rng OR hr]
  unfold rngL
  rw [if_pos (recE_of OR)]
  exact thr_lo (pick_ok OR.works.sok OR.ways) (OR.works.bok _ (nthB_mem OR.bhi)) hr h i (by rw [pick_len OR.ways]; exact hi)
theorem set_lo' (OR : OkRec bars ss b ks) (hr : OkR r) (h : r.lo ≤ (nthB bars b.toNat).lo) {i : Nat} (hi : i ≤ ss.length) : (nthB (rngL (bars.set b.toNat r) ss b ks) i).lo ≤ (nthB (rngL bars ss b ks) i).lo := by
  rw [set_rng OR hr]
  unfold rngL
  rw [if_pos (recE_of OR)]
  exact thr_lo (pick_ok OR.works.sok OR.ways) hr (OR.works.bok _ (nthB_mem OR.bhi)) h i (by rw [pick_len OR.ways]; exact hi)
theorem set_hi (OR : OkRec bars ss b ks) (hr : OkR r) (h : (nthB bars b.toNat).hi ≤ r.hi) {i : Nat} (hi : i ≤ ss.length) : (nthB (rngL bars ss b ks) i).hi ≤ (nthB (rngL (bars.set b.toNat r) ss b ks) i).hi := by
  rw [set_rng OR hr]
  unfold rngL
  rw [if_pos (recE_of OR)]
  exact thr_hi (pick_ok OR.works.sok OR.ways) (OR.works.bok _ (nthB_mem OR.bhi)) hr h i (by rw [pick_len OR.ways]; exact hi)
end
/-- A list of ranges that came in is appended to an empty one in a block. -/
theorem app_copy {base B g : Nat} {W : World} {l : List Rg} {src : Value} (hg : BK W g #[] 33) (hbg : base ≤ g) (hs : RR W B src l) (h0 : 0 < l.length) (hm : l.length ≤ 100000) (hbase : base ≤ W.heap.size) :
    ∃ g' c' w2, (Builtin.append_ #[22, 22] 22 #[.slice (some ⟨g, 0, none⟩) 0 0, src]).run Try.prog W = .ok (.slice (some ⟨g', 0, none⟩) l.length c') w2 ∧ OwnR w2 base (.slice (some ⟨g', 0, none⟩) l.length c') l ∧
      (∀ w0, Below base w0 W → Below base w0 w2) ∧ W.heap.size ≤ w2.heap.size ∧ (∀ k cs t, BK W k cs t → k ≠ g → BK w2 k cs t) ∧ (g' = g ∨ g' = W.heap.size) := by
  obtain ⟨i0, hi0, hz0, hz1, hz2⟩ := info_parts rg_info
  have hown : W.ownsRow base 33 2 (.slice (some ⟨g, 0, none⟩) 0 0) 0 [] := ⟨by simp, .inr ⟨g, 0, #[], rfl, hbg, hg, Nat.le_refl _, by unfold maxLen; omega, by simp, by simp⟩⟩
  have hne : ∀ (k : Nat), k ≠ g → some k ≠ (Value.slice (some ⟨g, 0, none⟩) 0 0).ownBlock := by
    intro k hk hq
    exact hk (by simpa [Value.ownBlock] using hq)
  obtain ⟨A, c, b, off, rfl, hl, hA, hc⟩ := hs
  obtain ⟨rfl, hb⟩ := hA (by have := ofG_length encR_len l; omega)
  obtain ⟨v', w2, hrun, hown', hgr, _, hob⟩ := run_append_own_at (P := Try.prog) (w := W) base 22 22 33 i0 (.agg #[.int .i64 0, .int .i64 0]) 2 16 rg_slice hi0 hz0 hz1 hz2 rfl (by decide) _ 0 [] hown ⟨b, off, none⟩ l.length c (ofG encR l) hl.1 (fun j u hu => by
    have hj : j < (ofG encR l).length := (List.getElem?_eq_some_iff.1 hu).1
    have e : (⟨b, off, none⟩ : Addr).add j = ⟨b, off + j, none⟩ := by unfold Addr.add; split <;> simp_all
    rw [e, hc j hj]; exact hu) (by
      intro u hu
      unfold ofG at hu
      obtain ⟨x, _, hx⟩ := List.mem_flatMap.1 hu
      simp [encR] at hx
      rcases hx with rfl | rfl <;> rfl) (by unfold maxLen; omega) (by omega) hbase
  rw [Nat.zero_add] at hown'
  rw [List.nil_append] at hown'
  have h2 := hown'.2
  rcases h2 with ⟨h3, h4⟩ | ⟨g', cap, cur, hv, h4⟩
  · exfalso
    have h5 := hown'.1
    rw [ofG_length encR_len] at h5
    first | (rw [h3] at h0; omega) | (have := h4; omega) | (simp at h4; omega)
  · subst hv
    exact ⟨g', cap, w2, hrun, hown', fun w0 hbw => Below.grown hbw hgr hbase fun k hk => (hown.lt k hk).1, hgr.size, fun k cs t' hk hkg => hk.grown hgr (hne k hkg), by simpa [Value.ownBlock] using hob⟩
/-- A list of its own when another block is written, or a list grows elsewhere. -/
theorem own_set_far {W : World} {base e sz n g : Nat} {v : Value} {xs : List Value} {cs : Array Value} {t : TypeId} (h : W.ownsRow base e sz v n xs) (hg : BK W g cs t) (ht : t ≠ e) (o : Nat) (u : Value) : (W.setCell ⟨g, o, none⟩ u).ownsRow base e sz v n xs := by
  have hne : v.ownBlock ≠ some g := fun hq => by
    obtain ⟨c', hc⟩ := own_block h hq
    unfold BK at hg
    rw [hg] at hc; injection hc with hc; injection hc with _ hc; exact ht hc
  exact own_far h (p := ⟨g, o, none⟩) hne u
theorem OwnR.keep_ne {W w2 : World} {base g g1 n c : Nat} {l : List Rg} (h : OwnR W base (.slice (some ⟨g1, 0, none⟩) n c) l) (hk : ∀ k cs t, BK W k cs t → k ≠ g → BK w2 k cs t) (hne : g1 ≠ g) : OwnR w2 base (.slice (some ⟨g1, 0, none⟩) n c) l := by
  obtain ⟨hl, h2⟩ := h
  refine ⟨hl, ?_⟩
  rcases h2 with h2 | ⟨g', cap, cur, h3, h4, h5, h6⟩
  · exact .inl h2
  · injection h3 with q1 q2 q3
    injection q1 with q1
    injection q1 with q1 q4
    subst q1
    exact .inr ⟨g1, cap, cur, by rw [q2, q3], h4, hk _ _ _ h5 hne, h6⟩
theorem OwnR.far2 {W : World} {base g1 g n c : Nat} {l : List Rg} (h : OwnR W base (.slice (some ⟨g1, 0, none⟩) n c) l) (hne : g1 ≠ g) (o o' : Nat) (u u' : Value) : OwnR ((W.setCell ⟨g, o, none⟩ u).setCell ⟨g, o', none⟩ u') base (.slice (some ⟨g1, 0, none⟩) n c) l := by
  have hq : (Value.slice (some ⟨g1, 0, none⟩) n c).ownBlock ≠ some g := by simpa [Value.ownBlock] using hne
  exact own_far (own_far h (p := ⟨g, o, none⟩) hq u) (p := ⟨g, o', none⟩) hq u'
end Go.Proofs.Ytkibdciomheekaa

set_option linter.all false
namespace Go.Proofs.Ytkibdciomheekaa
open Go.RowKit Hp

set_option maxHeartbeats 8000000 in
set_option maxRecDepth 100000 in
theorem heatHarder_any (bars : List Rg) (ss : List Stp) (vb vs : Value) (us : List Nat) (vu : Value) (x1 : Nat) (x2 y2 : Nat) (w : World) (hB : RR w w.heap.size vb bars) (hS : RP w w.heap.size vs ss) (hU : RU .u8 w w.heap.size vu us) (hu : ∀ x ∈ us, x ≤ 255) (h1 : x1 ≤ 65535) (h2 : x2 ≤ 65535 ∧ y2 ≤ 65535) :
    Calls Try.prog 11 #[.agg #[vb, vs], vu, .int .u16 x1, .agg #[.int .u16 x2, .int .u16 y2]] w fun x w' => x = .returned (.bool true) ∧ Below w.heap.size w w' := by
  obtain ⟨Ab, cb, rfl⟩ := hB.slice
  obtain ⟨As, cs, rfl⟩ := hS.slice
  obtain ⟨Au, cu, rfl⟩ := ru_slice hU
  obtain ⟨n0, hn0⟩ : ∃ n, w.heap.size = n := ⟨_, rfl⟩
  have hC : Below n0 w w := Below.refl _ _
  have HUS := Lib.hid hu
  clear hu
  obtain ⟨h2x, h2y⟩ := h2
  go_enter Try.func11, Try.ntmps11
  go_upto_region 1 with fail
  have hqbx : n0 ≤ n0 := by have := hC.size; omega
  have bx : BK (w.alloc (.cells #[.slice Ab bars.length cb, .slice As ss.length cs] 25)) (n0) #[.slice Ab bars.length cb, .slice As ss.length cs] 25 := BK.new' _ _ _ (n0) hn0
  have hsbx : (w.alloc (.cells #[.slice Ab bars.length cb, .slice As ss.length cs] 25)).heap.size = n0 + 1 := by simp [hn0]
  replace hC : Below n0 w (w.alloc (.cells #[.slice Ab bars.length cb, .slice As ss.length cs] 25)) := Below.alloc hC (by have := hC.size; omega) _
  replace hB := (RS.below hB (w' := (w.alloc (.cells #[.slice Ab bars.length cb, .slice As ss.length cs] 25))) (Below.alloc (Below.refl _ _) (Nat.le_refl _) _)).more (B' := (w.alloc (.cells #[.slice Ab bars.length cb, .slice As ss.length cs] 25)).heap.size) (by simp)
  replace hS := (RP.below hS (w' := (w.alloc (.cells #[.slice Ab bars.length cb, .slice As ss.length cs] 25))) (Below.alloc (Below.refl _ _) (Nat.le_refl _) _)).more (B' := (w.alloc (.cells #[.slice Ab bars.length cb, .slice As ss.length cs] 25)).heap.size) (by simp)
  replace hU := (RU.below hU (w' := (w.alloc (.cells #[.slice Ab bars.length cb, .slice As ss.length cs] 25))) (Below.alloc (Below.refl _ _) (Nat.le_refl _) _)).more (B' := (w.alloc (.cells #[.slice Ab bars.length cb, .slice As ss.length cs] 25)).heap.size) (by simp)
  generalize (w.alloc (.cells #[.slice Ab bars.length cb, .slice As ss.length cs] 25)) = Wbx at *
  have hqaz : n0 ≤ n0 + 1 := by have := hC.size; omega
  have az : BK (Wbx.alloc (.cells #[.int .u16 x2, .int .u16 y2] 80)) (n0 + 1) #[.int .u16 x2, .int .u16 y2] 80 := BK.new' _ _ _ (n0 + 1) hsbx
  have hsaz : (Wbx.alloc (.cells #[.int .u16 x2, .int .u16 y2] 80)).heap.size = n0 + 1 + 1 := by simp [hsbx]
  replace hC : Below n0 w (Wbx.alloc (.cells #[.int .u16 x2, .int .u16 y2] 80)) := Below.alloc hC (by have := hC.size; omega) _
  replace hB := (RS.below hB (w' := (Wbx.alloc (.cells #[.int .u16 x2, .int .u16 y2] 80))) (Below.alloc (Below.refl _ _) (Nat.le_refl _) _)).more (B' := (Wbx.alloc (.cells #[.int .u16 x2, .int .u16 y2] 80)).heap.size) (by simp)
  replace hS := (RP.below hS (w' := (Wbx.alloc (.cells #[.int .u16 x2, .int .u16 y2] 80))) (Below.alloc (Below.refl _ _) (Nat.le_refl _) _)).more (B' := (Wbx.alloc (.cells #[.int .u16 x2, .int .u16 y2] 80)).heap.size) (by simp)
  replace hU := (RU.below hU (w' := (Wbx.alloc (.cells #[.int .u16 x2, .int .u16 y2] 80))) (Below.alloc (Below.refl _ _) (Nat.le_refl _) _)).more (B' := (Wbx.alloc (.cells #[.int .u16 x2, .int .u16 y2] 80)).heap.size) (by simp)
  replace bx := bx.alloc (.cells #[.int .u16 x2, .int .u16 y2] 80)
  generalize (Wbx.alloc (.cells #[.int .u16 x2, .int .u16 y2] 80)) = Waz at *
  clear hsbx
  have lbx := bx.lt
  have bxc0 := bx.cell 0
  have bxc1 := bx.cell 1
  simp at bxc0 bxc1
  go_wp2_with fail
  clear lbx bxc0 bxc1
  clear hsaz
  refine (fine_any bars ss _ _ _ hB hS).mono ?_
  rintro e w1 ⟨q, rfl, hq, hb⟩
  replace hC : Below n0 w w1 := hC.trans (hb.mono (by have := hC.size; omega))
  replace hB := (RS.below hB hb).more hb.size
  replace hS := (RP.below hS hb).more hb.size
  replace hU := (RU.below hU hb).more hb.size
  replace bx := bx.below hb bx.lt
  replace az := az.below hb az.lt
  clear hb
  cases q
  case false =>
    clear hq
    go_wp2_with fail
    refine (works_any _).mono ?_
    rintro e w2 ⟨rfl, hb⟩
    replace hC : Below n0 w w2 := hC.trans (hb.mono (by have := hC.size; omega))
    replace hB := (RS.below hB hb).more hb.size
    replace hS := (RP.below hS hb).more hb.size
    replace hU := (RU.below hU hb).more hb.size
    replace bx := bx.below hb bx.lt
    replace az := az.below hb az.lt
    clear hb
    go_wp2_with fail
    exact bodyPost_ret (v := .bool true) (by simp [results, Try.results11, go_sem]) rfl ⟨rfl, by first | exact hC | (rw [hn0]; exact hC) | (with_reducible rw [hn0]; exact bel_of) | exact bel_of⟩
  have hfp := hq.1 rfl
  have HF := Lib.hid (great_fit hfp.1)
  have HV := Lib.hid (okV_of hfp.2)
  clear hq hfp
  simp only [Bool.not_true]
  by_cases zhul : 20 < us.length
  case pos =>
    have zz : ((us.length : Nat) : Int) > 20 := by omega
    clear zhul
    have lbx := bx.lt
    have bxc0 := bx.cell 0
    have bxc1 := bx.cell 1
    simp at bxc0 bxc1
    go_wp2_with fail
    clear lbx bxc0 bxc1
    refine (works_any _).mono ?_
    rintro e w2 ⟨rfl, hb⟩
    replace hC : Below n0 w w2 := hC.trans (hb.mono (by have := hC.size; omega))
    replace hB := (RS.below hB hb).more hb.size
    replace hS := (RP.below hS hb).more hb.size
    replace hU := (RU.below hU hb).more hb.size
    replace bx := bx.below hb bx.lt
    replace az := az.below hb az.lt
    clear hb
    go_wp2_with fail
    exact bodyPost_ret (v := .bool true) (by simp [results, Try.results11, go_sem]) rfl ⟨rfl, by first | exact hC | (rw [hn0]; exact hC) | (with_reducible rw [hn0]; exact bel_of) | exact bel_of⟩
  have hul : us.length ≤ 20 := by omega
  have zzhul : ¬ ((us.length : Nat) : Int) > 20 := by omega
  clear zhul
  have lbx := bx.lt
  have bxc0 := bx.cell 0
  have bxc1 := bx.cell 1
  simp at bxc0 bxc1
  go_wp2_with fail
  clear lbx bxc0 bxc1
  refine (one_any bars ss us _ _ _ _ HV.out HUS.out (by omega) hB hS hU).mono ?_
  rintro e w2 ⟨vk, rfl, hR, hb⟩
  replace hC : Below n0 w w2 := hC.trans (hb.mono (by have := hC.size; omega))
  replace hB := (RS.below hB hb).more hb.size
  replace hS := (RP.below hS hb).more hb.size
  replace hU := (RU.below hU hb).more hb.size
  replace bx := bx.below hb bx.lt
  replace az := az.below hb az.lt
  clear hb
  have hor := one_rec HV.out us
  obtain ⟨ks, hks⟩ : ∃ l, oneW ss us ss.length = l := ⟨_, rfl⟩
  obtain ⟨b, hbb⟩ : ∃ b : Int, ((oneB bars us : Nat) : Int) = b := ⟨_, rfl⟩
  rw [hks] at hR hor
  rw [hbb] at hor ⊢
  have HOR := Lib.hid hor
  have hs6 := hor.works.sfew
  have hkl := (recE_lens (recE_of hor)).1
  have HKS := Lib.hid hkl
  have HKL2 := Lib.hid (show ks.length ≤ 1000 by omega)
  obtain ⟨Ar, cr, rfl⟩ := ri_slice hR
  clear hks hbb hor hkl
  go_upto_region 4 with fail
  obtain ⟨m1, hm1⟩ : ∃ n, w2.heap.size = n := ⟨_, rfl⟩
  try rw [hm1]
  have hqwx : n0 ≤ m1 := by have := hC.size; omega
  have wx : BK (w2.alloc (.cells #[.int .i64 b, .slice Ar ks.length cr] 42)) (m1) #[.int .i64 b, .slice Ar ks.length cr] 42 := BK.new' _ _ _ (m1) hm1
  have hswx : (w2.alloc (.cells #[.int .i64 b, .slice Ar ks.length cr] 42)).heap.size = m1 + 1 := by simp [hm1]
  replace hC : Below n0 w (w2.alloc (.cells #[.int .i64 b, .slice Ar ks.length cr] 42)) := Below.alloc hC (by have := hC.size; omega) _
  replace hB := (RS.below hB (w' := (w2.alloc (.cells #[.int .i64 b, .slice Ar ks.length cr] 42))) (Below.alloc (Below.refl _ _) (Nat.le_refl _) _)).more (B' := (w2.alloc (.cells #[.int .i64 b, .slice Ar ks.length cr] 42)).heap.size) (by simp)
  replace hS := (RP.below hS (w' := (w2.alloc (.cells #[.int .i64 b, .slice Ar ks.length cr] 42))) (Below.alloc (Below.refl _ _) (Nat.le_refl _) _)).more (B' := (w2.alloc (.cells #[.int .i64 b, .slice Ar ks.length cr] 42)).heap.size) (by simp)
  replace hU := (RU.below hU (w' := (w2.alloc (.cells #[.int .i64 b, .slice Ar ks.length cr] 42))) (Below.alloc (Below.refl _ _) (Nat.le_refl _) _)).more (B' := (w2.alloc (.cells #[.int .i64 b, .slice Ar ks.length cr] 42)).heap.size) (by simp)
  replace bx := bx.alloc (.cells #[.int .i64 b, .slice Ar ks.length cr] 42)
  replace az := az.alloc (.cells #[.int .i64 b, .slice Ar ks.length cr] 42)
  replace hR := (RS.below hR (w' := (w2.alloc (.cells #[.int .i64 b, .slice Ar ks.length cr] 42))) (Below.alloc (Below.refl _ _) (Nat.le_refl _) _)).more (B' := (w2.alloc (.cells #[.int .i64 b, .slice Ar ks.length cr] 42)).heap.size) (by simp)
  generalize (w2.alloc (.cells #[.int .i64 b, .slice Ar ks.length cr] 42)) = Wwx at *
  clear hm1
  clear hswx
  clear zzhul hul hU
  skip
  have lbx := bx.lt
  have bxc0 := bx.cell 0
  have bxc1 := bx.cell 1
  simp at bxc0 bxc1
  refine region_keep [10, 11, 32, 33] (fun u V => ∃ gx gy, u 10 = .pointer (some ⟨gx, 0, none⟩) ∧ u 11 = .pointer (some ⟨gy, 0, none⟩) ∧ gx ≠ gy ∧ Wwx.heap.size ≤ gx ∧ Wwx.heap.size ≤ gy ∧ BK V gx #[.slice Ab bars.length cb, .slice As ss.length cs] 25 ∧ BK V gy #[.slice Ab bars.length cb, .slice As ss.length cs] 25 ∧ Below Wwx.heap.size Wwx V) ?_ ?_
  ·skip
   have d0yb : Below Wwx.heap.size Wwx Wwx.drew := by exact bel_of
   refine wp_region_noPanic (plain_any [0, 1] (Below Wwx.heap.size Wwx) mixed ?_)
   refine any_tk 0 ?_
   refine any_tk 1 ?_
   have dyb1 : Below Wwx.heap.size Wwx Wwx.drew := by exact bel_of
   have hdr : Below Wwx.heap.size Wwx Wwx.drew := Below.drew (Below.refl _ _)
   clear hdr
   generalize Wwx.drew = uyb2 at *
   refine any_run2 (i := 2) (j := 3) (by kernel_rfl) (by rfl) (by rfl) (by rfl) (by rfl) ?_ ?_
   ·skip
    intro K hK
    have qyb4 := dyb1.size
    have eyb3 : Below Wwx.heap.size Wwx (uyb2.alloc (.cells #[.slice none 0 0, .slice none 0 0] 25)) := Below.alloc dyb1 dyb1.size _
    have hnx : Below uyb2.heap.size uyb2 (uyb2.alloc (.cells #[.slice none 0 0, .slice none 0 0] 25)) := Below.alloc (Below.refl _ _) (Nat.le_refl _) _
    go_wp2_with fail
    have kx : BK (uyb2.alloc (.cells #[.slice none 0 0, .slice none 0 0] 25)) uyb2.heap.size #[.slice none 0 0, .slice none 0 0] 25 := BK.new _ _ _
    refine hK _ _ (fun _ => eyb3) ?_
    clear hK K hnx
    generalize (uyb2.alloc (.cells #[.slice none 0 0, .slice none 0 0] 25)) = vyb5 at *
    obtain ⟨gkx, hgkx⟩ : ∃ g, uyb2.heap.size = g := ⟨_, rfl⟩
    have hqkx : Wwx.heap.size ≤ gkx := by omega
    rw [hgkx] at kx
    try rw [hgkx]
    clear hgkx
    refine any_run1 (i := 3) (by kernel_rfl) (by rfl) (by kernel_rfl) ?_
    intro K hK
    have qyb7 := eyb3.size
    have eyb6 : Below Wwx.heap.size Wwx (vyb5.alloc (.cells #[.slice none 0 0, .slice none 0 0] 25)) := Below.alloc eyb3 eyb3.size _
    have hnx : Below vyb5.heap.size vyb5 (vyb5.alloc (.cells #[.slice none 0 0, .slice none 0 0] 25)) := Below.alloc (Below.refl _ _) (Nat.le_refl _) _
    go_wp2_with fail
    have nekxky : gkx ≠ vyb5.heap.size := Nat.ne_of_lt kx.lt
    replace kx := kx.below hnx kx.lt
    have ky : BK (vyb5.alloc (.cells #[.slice none 0 0, .slice none 0 0] 25)) vyb5.heap.size #[.slice none 0 0, .slice none 0 0] 25 := BK.new _ _ _
    refine hK _ _ (fun _ => eyb6) ?_
    clear hK K hnx
    generalize (vyb5.alloc (.cells #[.slice none 0 0, .slice none 0 0] 25)) = vyb8 at *
    obtain ⟨gky, hgky⟩ : ∃ g, vyb5.heap.size = g := ⟨_, rfl⟩
    have hqky : Wwx.heap.size ≤ gky := by omega
    rw [hgky] at ky nekxky
    try rw [hgky]
    clear hgky
    refine any_run1 (i := 4) (by kernel_rfl) (by rfl) (by kernel_rfl) ?_
    intro K hK
    have lkx := kx.lt
    have y0 := kx.cell 0
    have f0 := kx.frozen 0
    have y1 := kx.cell 1
    have f1 := kx.frozen 1
    simp at y0 y1
    go_wp2_with fail
    have eyb9 : Below Wwx.heap.size Wwx ((vyb8.setCell ⟨gkx, 0, none⟩ (.slice Ab bars.length cb)).setCell ⟨gkx, 1, none⟩ (.slice As ss.length cs)) := by exact bel_of
    have ky_ : BK ((vyb8.setCell ⟨gkx, 0, none⟩ (.slice Ab bars.length cb)).setCell ⟨gkx, 1, none⟩ (.slice As ss.length cs)) gky _ _ := (BK.far (BK.far ky (p := ⟨gkx, 0, none⟩) (by first | assumption | exact Ne.symm (by assumption)) _) (p := ⟨gkx, 1, none⟩) (by first | assumption | exact Ne.symm (by assumption)) _); clear ky; have ky := ky_; clear ky_
    have kx_ := ((kx.set 0 (.slice Ab bars.length cb)).set 1 (.slice As ss.length cs))
    simp at kx_
    clear kx; have kx := kx_; clear kx_
    clear y0 f0 y1 f1
    refine hK _ _ (fun _ => eyb9) ?_
    clear hK K
    generalize ((vyb8.setCell ⟨gkx, 0, none⟩ (.slice Ab bars.length cb)).setCell ⟨gkx, 1, none⟩ (.slice As ss.length cs)) = vyb10 at *
    refine any_run1 (i := 5) (by kernel_rfl) (by rfl) (by kernel_rfl) ?_
    intro K hK
    have lky := ky.lt
    have y0 := ky.cell 0
    have f0 := ky.frozen 0
    have y1 := ky.cell 1
    have f1 := ky.frozen 1
    simp at y0 y1
    go_wp2_with fail
    have eyb11 : Below Wwx.heap.size Wwx ((vyb10.setCell ⟨gky, 0, none⟩ (.slice Ab bars.length cb)).setCell ⟨gky, 1, none⟩ (.slice As ss.length cs)) := by exact bel_of
    have kx_ : BK ((vyb10.setCell ⟨gky, 0, none⟩ (.slice Ab bars.length cb)).setCell ⟨gky, 1, none⟩ (.slice As ss.length cs)) gkx _ _ := (BK.far (BK.far kx (p := ⟨gky, 0, none⟩) (by first | assumption | exact Ne.symm (by assumption)) _) (p := ⟨gky, 1, none⟩) (by first | assumption | exact Ne.symm (by assumption)) _); clear kx; have kx := kx_; clear kx_
    have ky_ := ((ky.set 0 (.slice Ab bars.length cb)).set 1 (.slice As ss.length cs))
    simp at ky_
    clear ky; have ky := ky_; clear ky_
    clear y0 f0 y1 f1
    refine hK _ _ (fun _ => eyb11) ?_
    clear hK K
    generalize ((vyb10.setCell ⟨gky, 0, none⟩ (.slice Ab bars.length cb)).setCell ⟨gky, 1, none⟩ (.slice As ss.length cs)) = vyb12 at *
    refine any_done (by kernel_rfl) (NoPanic.normal ?_)
    exact ⟨rfl, by simp [setAll], rfl, _, _, rfl, rfl, by omega, by omega, by omega, kx, ky, eyb11⟩
   ·skip
    intro K hK
    have qyb14 := dyb1.size
    have eyb13 : Below Wwx.heap.size Wwx (uyb2.alloc (.cells #[.slice none 0 0, .slice none 0 0] 25)) := Below.alloc dyb1 dyb1.size _
    have hnx : Below uyb2.heap.size uyb2 (uyb2.alloc (.cells #[.slice none 0 0, .slice none 0 0] 25)) := Below.alloc (Below.refl _ _) (Nat.le_refl _) _
    go_wp2_with fail
    have ky : BK (uyb2.alloc (.cells #[.slice none 0 0, .slice none 0 0] 25)) uyb2.heap.size #[.slice none 0 0, .slice none 0 0] 25 := BK.new _ _ _
    refine hK _ _ (fun _ => eyb13) ?_
    clear hK K hnx
    generalize (uyb2.alloc (.cells #[.slice none 0 0, .slice none 0 0] 25)) = vyb15 at *
    obtain ⟨gky, hgky⟩ : ∃ g, uyb2.heap.size = g := ⟨_, rfl⟩
    have hqky : Wwx.heap.size ≤ gky := by omega
    rw [hgky] at ky
    try rw [hgky]
    clear hgky
    refine any_run1 (i := 2) (by kernel_rfl) (by rfl) (by kernel_rfl) ?_
    intro K hK
    have qyb17 := eyb13.size
    have eyb16 : Below Wwx.heap.size Wwx (vyb15.alloc (.cells #[.slice none 0 0, .slice none 0 0] 25)) := Below.alloc eyb13 eyb13.size _
    have hnx : Below vyb15.heap.size vyb15 (vyb15.alloc (.cells #[.slice none 0 0, .slice none 0 0] 25)) := Below.alloc (Below.refl _ _) (Nat.le_refl _) _
    go_wp2_with fail
    have nekykx : gky ≠ vyb15.heap.size := Nat.ne_of_lt ky.lt
    replace ky := ky.below hnx ky.lt
    have kx : BK (vyb15.alloc (.cells #[.slice none 0 0, .slice none 0 0] 25)) vyb15.heap.size #[.slice none 0 0, .slice none 0 0] 25 := BK.new _ _ _
    refine hK _ _ (fun _ => eyb16) ?_
    clear hK K hnx
    generalize (vyb15.alloc (.cells #[.slice none 0 0, .slice none 0 0] 25)) = vyb18 at *
    obtain ⟨gkx, hgkx⟩ : ∃ g, vyb15.heap.size = g := ⟨_, rfl⟩
    have hqkx : Wwx.heap.size ≤ gkx := by omega
    rw [hgkx] at kx nekykx
    try rw [hgkx]
    clear hgkx
    refine any_run1 (i := 4) (by kernel_rfl) (by rfl) (by kernel_rfl) ?_
    intro K hK
    have lkx := kx.lt
    have y0 := kx.cell 0
    have f0 := kx.frozen 0
    have y1 := kx.cell 1
    have f1 := kx.frozen 1
    simp at y0 y1
    go_wp2_with fail
    have eyb19 : Below Wwx.heap.size Wwx ((vyb18.setCell ⟨gkx, 0, none⟩ (.slice Ab bars.length cb)).setCell ⟨gkx, 1, none⟩ (.slice As ss.length cs)) := by exact bel_of
    have ky_ : BK ((vyb18.setCell ⟨gkx, 0, none⟩ (.slice Ab bars.length cb)).setCell ⟨gkx, 1, none⟩ (.slice As ss.length cs)) gky _ _ := (BK.far (BK.far ky (p := ⟨gkx, 0, none⟩) (by first | assumption | exact Ne.symm (by assumption)) _) (p := ⟨gkx, 1, none⟩) (by first | assumption | exact Ne.symm (by assumption)) _); clear ky; have ky := ky_; clear ky_
    have kx_ := ((kx.set 0 (.slice Ab bars.length cb)).set 1 (.slice As ss.length cs))
    simp at kx_
    clear kx; have kx := kx_; clear kx_
    clear y0 f0 y1 f1
    refine hK _ _ (fun _ => eyb19) ?_
    clear hK K
    generalize ((vyb18.setCell ⟨gkx, 0, none⟩ (.slice Ab bars.length cb)).setCell ⟨gkx, 1, none⟩ (.slice As ss.length cs)) = vyb20 at *
    refine any_run1 (i := 5) (by kernel_rfl) (by rfl) (by kernel_rfl) ?_
    intro K hK
    have lky := ky.lt
    have y0 := ky.cell 0
    have f0 := ky.frozen 0
    have y1 := ky.cell 1
    have f1 := ky.frozen 1
    simp at y0 y1
    go_wp2_with fail
    have eyb21 : Below Wwx.heap.size Wwx ((vyb20.setCell ⟨gky, 0, none⟩ (.slice Ab bars.length cb)).setCell ⟨gky, 1, none⟩ (.slice As ss.length cs)) := by exact bel_of
    have kx_ : BK ((vyb20.setCell ⟨gky, 0, none⟩ (.slice Ab bars.length cb)).setCell ⟨gky, 1, none⟩ (.slice As ss.length cs)) gkx _ _ := (BK.far (BK.far kx (p := ⟨gky, 0, none⟩) (by first | assumption | exact Ne.symm (by assumption)) _) (p := ⟨gky, 1, none⟩) (by first | assumption | exact Ne.symm (by assumption)) _); clear kx; have kx := kx_; clear kx_
    have ky_ := ((ky.set 0 (.slice Ab bars.length cb)).set 1 (.slice As ss.length cs))
    simp at ky_
    clear ky; have ky := ky_; clear ky_
    clear y0 f0 y1 f1
    refine hK _ _ (fun _ => eyb21) ?_
    clear hK K
    generalize ((vyb20.setCell ⟨gky, 0, none⟩ (.slice Ab bars.length cb)).setCell ⟨gky, 1, none⟩ (.slice As ss.length cs)) = vyb22 at *
    refine any_done (by kernel_rfl) (NoPanic.normal ?_)
    exact ⟨rfl, by simp [setAll], rfl, _, _, rfl, rfl, by omega, by omega, by omega, kx, ky, eyb21⟩
  rintro u V ⟨gx, gy, hu10, hu11, hxy, hgx, hgy, xk, yk, hbz⟩
  simp only [setAll, List.foldl, List.setIfInBounds_toArray, List.set_cons_succ, List.set_cons_zero, hu10, hu11]
  clear hu10 hu11
  clear lbx bxc0 bxc1
  obtain ⟨m4, hm4⟩ : ∃ n, Wwx.heap.size = n := ⟨_, rfl⟩
  rw [hm4] at hbz hgx hgy hB hS hR
  have hbxl := bx.lt
  have hwxl := wx.lt
  have hazl := az.lt
  rw [hm4] at hbxl hwxl hazl
  have HM4 := Lib.hid (show n0 ≤ m4 by have := hC.size; omega)
  have HC4 := Lib.hid hC
  have HB4 := Lib.hid hB
  have HS4 := Lib.hid hS
  have HR4 := Lib.hid hR
  have HBX := Lib.hid (And.intro bx hbxl)
  have HWX := Lib.hid (And.intro wx hwxl)
  have HAZ := Lib.hid (And.intro az hazl)
  have HXY := Lib.hid (And.intro hxy (And.intro hgx hgy))
  have HM := Lib.hid hm4
  have hbp := HV.out.bpos
  have hb6 := HV.out.bfew
  clear hC hB hS hR bx wx az hbxl hwxl hazl hxy hgx hgy
  have hB := RS.more (RS.below HB4.out hbz) (B' := V.heap.size) (by have := hbz.size; rw [HM.out] at this; exact this)
  have bx := HBX.out.1.below hbz HBX.out.2
  obtain ⟨m5, hm5⟩ : ∃ n, V.heap.size = n := ⟨_, rfl⟩
  have HM5 := Lib.hid hm5
  have hml : m4 ≤ m5 := by rw [← hm5]; have := hbz.size; rw [HM.out] at this; exact this
  clear hm5
  have lbx := bx.lt
  have bxc0 := bx.cell 0
  have bxc1 := bx.cell 1
  simp at bxc0 bxc1
  go_wp2_with fail
  refine region_keep [34, 35, 36, 37, 38, 39, 40, 41, 42, 43] (fun u V' => ∃ g1 c1 g2 c2, g1 ≠ g2 ∧ m5 ≤ g1 ∧ m5 ≤ g2 ∧ BK V' gx #[.slice (some ⟨g1, 0, none⟩) bars.length c1, .slice As ss.length cs] 25 ∧ BK V' gy #[.slice (some ⟨g2, 0, none⟩) bars.length c2, .slice As ss.length cs] 25 ∧
    OwnR V' m5 (.slice (some ⟨g1, 0, none⟩) bars.length c1) bars ∧ OwnR V' m5 (.slice (some ⟨g2, 0, none⟩) bars.length c2) bars ∧ Below m4 Wwx V') ?_ ?_
  ·skip
   have d0yc : Below V.heap.size V V.drew := by exact bel_of
   refine wp_region_noPanic (plain_any [1, 2, 5, 6, 8] (Below V.heap.size V) mixed ?_)
   refine any_tk 1 ?_
   refine any_tk 2 ?_
   refine any_tk 5 ?_
   refine any_tk 6 ?_
   have dyc1 : Below V.heap.size V V.drew := by exact bel_of
   have hdr : Below V.heap.size V V.drew := Below.drew (Below.refl _ _)
   clear hdr
   generalize V.drew = uyc2 at *
   refine any_run2 (i := 0) (j := 4) (by kernel_rfl) (by rfl) (by rfl) (by rfl) (by rfl) ?_ ?_
   ·skip
    intro K hK
    have qyc4 := dyc1.size
    have eyc3 : Below V.heap.size V (uyc2.alloc (.cells #[] 33)) := Below.alloc dyc1 dyc1.size _
    have hnx : Below uyc2.heap.size uyc2 (uyc2.alloc (.cells #[] 33)) := Below.alloc (Below.refl _ _) (Nat.le_refl _) _
    go_wp2_with fail
    have k0 : BK (uyc2.alloc (.cells #[] 33)) uyc2.heap.size #[] 33 := BK.new _ _ _
    refine hK _ _ (fun _ => eyc3) ?_
    clear hK K hnx
    generalize (uyc2.alloc (.cells #[] 33)) = vyc5 at *
    obtain ⟨gk0, hgk0⟩ : ∃ g, uyc2.heap.size = g := ⟨_, rfl⟩
    have hqk0 : m5 ≤ gk0 := by have := HM5.out; omega
    rw [hgk0] at k0
    try rw [hgk0]
    clear hgk0
    refine any_run2 (i := 3) (j := 4) (by kernel_rfl) (by rfl) (by rfl) (by rfl) (by rfl) ?_ ?_
    ·skip
     intro K hK
     have ltk0 := k0.lt
     have qyc8 := eyc3.size
     obtain ⟨g1, c1, vyc7, hrun, o1, hbel, hsz, hkeep, hato1⟩ := app_copy (base := m5) k0 hqk0 (RS.more (RS.below hB eyc3) eyc3.size) hbp (by omega) (by have := HM5.out; omega)
     have eyc6 : Below V.heap.size V vyc7 := by have h9 := hbel V (by rw [← HM5.out]; exact eyc3); rw [← HM5.out] at h9; exact h9
     have HRUN := Lib.hid hrun
     clear hrun hbel hsz hkeep k0
     refine wp_append_run (.tmp 34) (.tmp 36) 22 _ rfl HRUN.out ?_
     refine hK _ _ (fun _ => eyc6) ?_
     clear hK K HRUN
     simp only [List.getElem_toArray, List.getElem_cons_succ, List.getElem_cons_zero, Act.put, List.setIfInBounds_toArray, List.set_cons_succ, List.set_cons_zero]
     refine any_tk 8 ?_
     refine any_run1 (i := 4) (by kernel_rfl) (by rfl) (by kernel_rfl) ?_
     intro K hK
     have nxo1k4 : g1 ≠ vyc7.heap.size := Nat.ne_of_lt o1.lt'.1
     have qyc10 := eyc6.size
     have eyc9 : Below V.heap.size V (vyc7.alloc (.cells #[] 33)) := Below.alloc eyc6 eyc6.size _
     have hnx : Below vyc7.heap.size vyc7 (vyc7.alloc (.cells #[] 33)) := Below.alloc (Below.refl _ _) (Nat.le_refl _) _
     go_wp2_with fail
     replace o1 : OwnR (vyc7.alloc (.cells #[] 33)) _ _ _ := own_below o1 hnx
     have k4 : BK (vyc7.alloc (.cells #[] 33)) vyc7.heap.size #[] 33 := BK.new _ _ _
     refine hK _ _ (fun _ => eyc9) ?_
     clear hK K hnx
     generalize (vyc7.alloc (.cells #[] 33)) = vyc11 at *
     obtain ⟨gk4, hgk4⟩ : ∃ g, vyc7.heap.size = g := ⟨_, rfl⟩
     have hqk4 : m5 ≤ gk4 := by have := HM5.out; omega
     rw [hgk4] at k4 nxo1k4
     try rw [hgk4]
     clear hgk4
     refine any_run1 (i := 7) (by kernel_rfl) (by rfl) (by kernel_rfl) ?_
     intro K hK
     have ltk4 := k4.lt
     have qyc14 := eyc9.size
     obtain ⟨g2, c2, vyc13, hrun, o2, hbel, hsz, hkeep, hato2⟩ := app_copy (base := m5) k4 hqk4 (RS.more (RS.below hB eyc9) eyc9.size) hbp (by omega) (by have := HM5.out; omega)
     have eyc12 : Below V.heap.size V vyc13 := by have h9 := hbel V (by rw [← HM5.out]; exact eyc9); rw [← HM5.out] at h9; exact h9
     have nfo1o2 : g1 ≠ g2 := by
       rcases hato2 with h4 | h4
       · rw [h4]; exact nxo1k4
       · rw [h4]; exact Nat.ne_of_lt o1.lt'.1
     replace o1 := OwnR.keep_ne o1 hkeep nxo1k4
     have HRUN := Lib.hid hrun
     clear hrun hbel hsz hkeep k4
     refine wp_append_run (.tmp 38) (.tmp 40) 22 _ rfl HRUN.out ?_
     refine hK _ _ (fun _ => eyc12) ?_
     clear hK K HRUN
     simp only [List.getElem_toArray, List.getElem_cons_succ, List.getElem_cons_zero, Act.put, List.setIfInBounds_toArray, List.set_cons_succ, List.set_cons_zero]
     refine any_run1 (i := 9) (by kernel_rfl) (by rfl) (by kernel_rfl) ?_
     intro K hK
     have F4 : Below m4 Wwx vyc13 := hbz.trans (eyc12.mono (by rw [HM5.out]; exact hml))
     have xk2 := xk.below eyc12 xk.lt
     clear xk
     have xk := xk2
     clear xk2
     have yk2 := yk.below eyc12 yk.lt
     clear yk
     have yk := yk2
     clear yk2
     have lk := xk.lt
     have y0 := xk.cell 0
     have f0 := xk.frozen 0
     simp at y0
     go_wp2_with fail
     replace F4 : Below m4 Wwx (vyc13.setCell ⟨gx, 0, none⟩ (.slice (some ⟨g1, 0, none⟩) bars.length c1)) := Below.setCell F4 HXY.out.2.1 _
     have o12 : OwnR (vyc13.setCell ⟨gx, 0, none⟩ (.slice (some ⟨g1, 0, none⟩) bars.length c1)) _ _ _ := own_set_far o1 xk (by decide) 0 (.slice (some ⟨g1, 0, none⟩) bars.length c1)
     clear o1
     have o1 := o12
     clear o12
     have o22 : OwnR (vyc13.setCell ⟨gx, 0, none⟩ (.slice (some ⟨g1, 0, none⟩) bars.length c1)) _ _ _ := own_set_far o2 xk (by decide) 0 (.slice (some ⟨g1, 0, none⟩) bars.length c1)
     clear o2
     have o2 := o22
     clear o22
     have yk2 := yk.far (p := ⟨gx, 0, none⟩) HXY.out.1.symm (.slice (some ⟨g1, 0, none⟩) bars.length c1)
     clear yk
     have yk := yk2
     clear yk2
     have xk2 := xk.set 0 (.slice (some ⟨g1, 0, none⟩) bars.length c1)
     simp at xk2
     clear xk lk y0 f0
     have xk := xk2
     clear xk2
     refine hK _ _ (fun hx => (Bool.false_ne_true (hx.symm.trans (by kernel_rfl))).elim) ?_
     clear hK K
     generalize (vyc13.setCell ⟨gx, 0, none⟩ (.slice (some ⟨g1, 0, none⟩) bars.length c1)) = vyc15 at *
     refine any_run1 (i := 10) (by kernel_rfl) (by rfl) (by kernel_rfl) ?_
     intro K hK
     go_wp2_with fail
     refine hK _ _ (fun hx => (Bool.false_ne_true (hx.symm.trans (by kernel_rfl))).elim) ?_
     clear hK K
     refine any_run1 (i := 11) (by kernel_rfl) (by rfl) (by kernel_rfl) ?_
     intro K hK
     have lk := yk.lt
     have y0 := yk.cell 0
     have f0 := yk.frozen 0
     simp at y0
     go_wp2_with fail
     replace F4 : Below m4 Wwx (vyc15.setCell ⟨gy, 0, none⟩ (.slice (some ⟨g2, 0, none⟩) bars.length c2)) := Below.setCell F4 HXY.out.2.2 _
     have o12 : OwnR (vyc15.setCell ⟨gy, 0, none⟩ (.slice (some ⟨g2, 0, none⟩) bars.length c2)) _ _ _ := own_set_far o1 yk (by decide) 0 (.slice (some ⟨g2, 0, none⟩) bars.length c2)
     clear o1
     have o1 := o12
     clear o12
     have o22 : OwnR (vyc15.setCell ⟨gy, 0, none⟩ (.slice (some ⟨g2, 0, none⟩) bars.length c2)) _ _ _ := own_set_far o2 yk (by decide) 0 (.slice (some ⟨g2, 0, none⟩) bars.length c2)
     clear o2
     have o2 := o22
     clear o22
     have xk2 := xk.far (p := ⟨gy, 0, none⟩) HXY.out.1 (.slice (some ⟨g2, 0, none⟩) bars.length c2)
     clear xk
     have xk := xk2
     clear xk2
     have yk2 := yk.set 0 (.slice (some ⟨g2, 0, none⟩) bars.length c2)
     simp at yk2
     clear yk lk y0 f0
     have yk := yk2
     clear yk2
     refine hK _ _ (fun hx => (Bool.false_ne_true (hx.symm.trans (by kernel_rfl))).elim) ?_
     clear hK K
     generalize (vyc15.setCell ⟨gy, 0, none⟩ (.slice (some ⟨g2, 0, none⟩) bars.length c2)) = vyc16 at *
     refine any_done (by kernel_rfl) (NoPanic.normal ?_)
     exact ⟨rfl, by simp [setAll], rfl, _, _, _, _, nfo1o2, o1.lt'.2, o2.lt'.2, xk, yk, o1, o2, F4⟩
    ·skip
     intro K hK
     have qyc18 := eyc3.size
     have eyc17 : Below V.heap.size V (vyc5.alloc (.cells #[] 33)) := Below.alloc eyc3 eyc3.size _
     have hnx : Below vyc5.heap.size vyc5 (vyc5.alloc (.cells #[] 33)) := Below.alloc (Below.refl _ _) (Nat.le_refl _) _
     go_wp2_with fail
     have nek0k4 : gk0 ≠ vyc5.heap.size := Nat.ne_of_lt k0.lt
     replace k0 := k0.below hnx k0.lt
     have k4 : BK (vyc5.alloc (.cells #[] 33)) vyc5.heap.size #[] 33 := BK.new _ _ _
     refine hK _ _ (fun _ => eyc17) ?_
     clear hK K hnx
     generalize (vyc5.alloc (.cells #[] 33)) = vyc19 at *
     obtain ⟨gk4, hgk4⟩ : ∃ g, vyc5.heap.size = g := ⟨_, rfl⟩
     have hqk4 : m5 ≤ gk4 := by have := HM5.out; omega
     rw [hgk4] at k4 nek0k4
     try rw [hgk4]
     clear hgk4
     refine any_run1 (i := 3) (by kernel_rfl) (by rfl) (by kernel_rfl) ?_
     intro K hK
     have ltk0 := k0.lt
     have ltk4 := k4.lt
     have qyc22 := eyc17.size
     obtain ⟨g1, c1, vyc21, hrun, o1, hbel, hsz, hkeep, hato1⟩ := app_copy (base := m5) k0 hqk0 (RS.more (RS.below hB eyc17) eyc17.size) hbp (by omega) (by have := HM5.out; omega)
     have eyc20 : Below V.heap.size V vyc21 := by have h9 := hbel V (by rw [← HM5.out]; exact eyc17); rw [← HM5.out] at h9; exact h9
     replace k4 := hkeep _ _ _ k4 (by first | assumption | exact Ne.symm (by assumption))
     skip
     have nxo1k4 : g1 ≠ gk4 := by
       rcases hato1 with h4 | h4
       · rw [h4]; first | assumption | exact Ne.symm (by assumption)
       · rw [h4]; exact (Nat.ne_of_lt ltk4).symm
     have HRUN := Lib.hid hrun
     clear hrun hbel hsz hkeep k0
     refine wp_append_run (.tmp 34) (.tmp 36) 22 _ rfl HRUN.out ?_
     refine hK _ _ (fun _ => eyc20) ?_
     clear hK K HRUN
     simp only [List.getElem_toArray, List.getElem_cons_succ, List.getElem_cons_zero, Act.put, List.setIfInBounds_toArray, List.set_cons_succ, List.set_cons_zero]
     refine any_tk 8 ?_
     refine any_run1 (i := 7) (by kernel_rfl) (by rfl) (by kernel_rfl) ?_
     intro K hK
     have ltk4 := k4.lt
     have qyc25 := eyc20.size
     obtain ⟨g2, c2, vyc24, hrun, o2, hbel, hsz, hkeep, hato2⟩ := app_copy (base := m5) k4 hqk4 (RS.more (RS.below hB eyc20) eyc20.size) hbp (by omega) (by have := HM5.out; omega)
     have eyc23 : Below V.heap.size V vyc24 := by have h9 := hbel V (by rw [← HM5.out]; exact eyc20); rw [← HM5.out] at h9; exact h9
     have nfo1o2 : g1 ≠ g2 := by
       rcases hato2 with h4 | h4
       · rw [h4]; exact nxo1k4
       · rw [h4]; exact Nat.ne_of_lt o1.lt'.1
     replace o1 := OwnR.keep_ne o1 hkeep nxo1k4
     have HRUN := Lib.hid hrun
     clear hrun hbel hsz hkeep k4
     refine wp_append_run (.tmp 38) (.tmp 40) 22 _ rfl HRUN.out ?_
     refine hK _ _ (fun _ => eyc23) ?_
     clear hK K HRUN
     simp only [List.getElem_toArray, List.getElem_cons_succ, List.getElem_cons_zero, Act.put, List.setIfInBounds_toArray, List.set_cons_succ, List.set_cons_zero]
     refine any_run1 (i := 9) (by kernel_rfl) (by rfl) (by kernel_rfl) ?_
     intro K hK
     have F4 : Below m4 Wwx vyc24 := hbz.trans (eyc23.mono (by rw [HM5.out]; exact hml))
     have xk2 := xk.below eyc23 xk.lt
     clear xk
     have xk := xk2
     clear xk2
     have yk2 := yk.below eyc23 yk.lt
     clear yk
     have yk := yk2
     clear yk2
     have lk := xk.lt
     have y0 := xk.cell 0
     have f0 := xk.frozen 0
     simp at y0
     go_wp2_with fail
     replace F4 : Below m4 Wwx (vyc24.setCell ⟨gx, 0, none⟩ (.slice (some ⟨g1, 0, none⟩) bars.length c1)) := Below.setCell F4 HXY.out.2.1 _
     have o12 : OwnR (vyc24.setCell ⟨gx, 0, none⟩ (.slice (some ⟨g1, 0, none⟩) bars.length c1)) _ _ _ := own_set_far o1 xk (by decide) 0 (.slice (some ⟨g1, 0, none⟩) bars.length c1)
     clear o1
     have o1 := o12
     clear o12
     have o22 : OwnR (vyc24.setCell ⟨gx, 0, none⟩ (.slice (some ⟨g1, 0, none⟩) bars.length c1)) _ _ _ := own_set_far o2 xk (by decide) 0 (.slice (some ⟨g1, 0, none⟩) bars.length c1)
     clear o2
     have o2 := o22
     clear o22
     have yk2 := yk.far (p := ⟨gx, 0, none⟩) HXY.out.1.symm (.slice (some ⟨g1, 0, none⟩) bars.length c1)
     clear yk
     have yk := yk2
     clear yk2
     have xk2 := xk.set 0 (.slice (some ⟨g1, 0, none⟩) bars.length c1)
     simp at xk2
     clear xk lk y0 f0
     have xk := xk2
     clear xk2
     refine hK _ _ (fun hx => (Bool.false_ne_true (hx.symm.trans (by kernel_rfl))).elim) ?_
     clear hK K
     generalize (vyc24.setCell ⟨gx, 0, none⟩ (.slice (some ⟨g1, 0, none⟩) bars.length c1)) = vyc26 at *
     refine any_run1 (i := 10) (by kernel_rfl) (by rfl) (by kernel_rfl) ?_
     intro K hK
     go_wp2_with fail
     refine hK _ _ (fun hx => (Bool.false_ne_true (hx.symm.trans (by kernel_rfl))).elim) ?_
     clear hK K
     refine any_run1 (i := 11) (by kernel_rfl) (by rfl) (by kernel_rfl) ?_
     intro K hK
     have lk := yk.lt
     have y0 := yk.cell 0
     have f0 := yk.frozen 0
     simp at y0
     go_wp2_with fail
     replace F4 : Below m4 Wwx (vyc26.setCell ⟨gy, 0, none⟩ (.slice (some ⟨g2, 0, none⟩) bars.length c2)) := Below.setCell F4 HXY.out.2.2 _
     have o12 : OwnR (vyc26.setCell ⟨gy, 0, none⟩ (.slice (some ⟨g2, 0, none⟩) bars.length c2)) _ _ _ := own_set_far o1 yk (by decide) 0 (.slice (some ⟨g2, 0, none⟩) bars.length c2)
     clear o1
     have o1 := o12
     clear o12
     have o22 : OwnR (vyc26.setCell ⟨gy, 0, none⟩ (.slice (some ⟨g2, 0, none⟩) bars.length c2)) _ _ _ := own_set_far o2 yk (by decide) 0 (.slice (some ⟨g2, 0, none⟩) bars.length c2)
     clear o2
     have o2 := o22
     clear o22
     have xk2 := xk.far (p := ⟨gy, 0, none⟩) HXY.out.1 (.slice (some ⟨g2, 0, none⟩) bars.length c2)
     clear xk
     have xk := xk2
     clear xk2
     have yk2 := yk.set 0 (.slice (some ⟨g2, 0, none⟩) bars.length c2)
     simp at yk2
     clear yk lk y0 f0
     have yk := yk2
     clear yk2
     refine hK _ _ (fun hx => (Bool.false_ne_true (hx.symm.trans (by kernel_rfl))).elim) ?_
     clear hK K
     generalize (vyc26.setCell ⟨gy, 0, none⟩ (.slice (some ⟨g2, 0, none⟩) bars.length c2)) = vyc27 at *
     refine any_done (by kernel_rfl) (NoPanic.normal ?_)
     exact ⟨rfl, by simp [setAll], rfl, _, _, _, _, nfo1o2, o1.lt'.2, o2.lt'.2, xk, yk, o1, o2, F4⟩
   ·skip
    intro K hK
    have qyc29 := dyc1.size
    have eyc28 : Below V.heap.size V (uyc2.alloc (.cells #[] 33)) := Below.alloc dyc1 dyc1.size _
    have hnx : Below uyc2.heap.size uyc2 (uyc2.alloc (.cells #[] 33)) := Below.alloc (Below.refl _ _) (Nat.le_refl _) _
    go_wp2_with fail
    have k4 : BK (uyc2.alloc (.cells #[] 33)) uyc2.heap.size #[] 33 := BK.new _ _ _
    refine hK _ _ (fun _ => eyc28) ?_
    clear hK K hnx
    generalize (uyc2.alloc (.cells #[] 33)) = vyc30 at *
    obtain ⟨gk4, hgk4⟩ : ∃ g, uyc2.heap.size = g := ⟨_, rfl⟩
    have hqk4 : m5 ≤ gk4 := by have := HM5.out; omega
    rw [hgk4] at k4
    try rw [hgk4]
    clear hgk4
    refine any_run1 (i := 0) (by kernel_rfl) (by rfl) (by kernel_rfl) ?_
    intro K hK
    have qyc32 := eyc28.size
    have eyc31 : Below V.heap.size V (vyc30.alloc (.cells #[] 33)) := Below.alloc eyc28 eyc28.size _
    have hnx : Below vyc30.heap.size vyc30 (vyc30.alloc (.cells #[] 33)) := Below.alloc (Below.refl _ _) (Nat.le_refl _) _
    go_wp2_with fail
    have nek4k0 : gk4 ≠ vyc30.heap.size := Nat.ne_of_lt k4.lt
    replace k4 := k4.below hnx k4.lt
    have k0 : BK (vyc30.alloc (.cells #[] 33)) vyc30.heap.size #[] 33 := BK.new _ _ _
    refine hK _ _ (fun _ => eyc31) ?_
    clear hK K hnx
    generalize (vyc30.alloc (.cells #[] 33)) = vyc33 at *
    obtain ⟨gk0, hgk0⟩ : ∃ g, vyc30.heap.size = g := ⟨_, rfl⟩
    have hqk0 : m5 ≤ gk0 := by have := HM5.out; omega
    rw [hgk0] at k0 nek4k0
    try rw [hgk0]
    clear hgk0
    refine any_run1 (i := 3) (by kernel_rfl) (by rfl) (by kernel_rfl) ?_
    intro K hK
    have ltk4 := k4.lt
    have ltk0 := k0.lt
    have qyc36 := eyc31.size
    obtain ⟨g1, c1, vyc35, hrun, o1, hbel, hsz, hkeep, hato1⟩ := app_copy (base := m5) k0 hqk0 (RS.more (RS.below hB eyc31) eyc31.size) hbp (by omega) (by have := HM5.out; omega)
    have eyc34 : Below V.heap.size V vyc35 := by have h9 := hbel V (by rw [← HM5.out]; exact eyc31); rw [← HM5.out] at h9; exact h9
    replace k4 := hkeep _ _ _ k4 (by first | assumption | exact Ne.symm (by assumption))
    skip
    have nxo1k4 : g1 ≠ gk4 := by
      rcases hato1 with h4 | h4
      · rw [h4]; first | assumption | exact Ne.symm (by assumption)
      · rw [h4]; exact (Nat.ne_of_lt ltk4).symm
    have HRUN := Lib.hid hrun
    clear hrun hbel hsz hkeep k0
    refine wp_append_run (.tmp 34) (.tmp 36) 22 _ rfl HRUN.out ?_
    refine hK _ _ (fun _ => eyc34) ?_
    clear hK K HRUN
    simp only [List.getElem_toArray, List.getElem_cons_succ, List.getElem_cons_zero, Act.put, List.setIfInBounds_toArray, List.set_cons_succ, List.set_cons_zero]
    refine any_tk 8 ?_
    refine any_run1 (i := 7) (by kernel_rfl) (by rfl) (by kernel_rfl) ?_
    intro K hK
    have ltk4 := k4.lt
    have qyc39 := eyc34.size
    obtain ⟨g2, c2, vyc38, hrun, o2, hbel, hsz, hkeep, hato2⟩ := app_copy (base := m5) k4 hqk4 (RS.more (RS.below hB eyc34) eyc34.size) hbp (by omega) (by have := HM5.out; omega)
    have eyc37 : Below V.heap.size V vyc38 := by have h9 := hbel V (by rw [← HM5.out]; exact eyc34); rw [← HM5.out] at h9; exact h9
    have nfo1o2 : g1 ≠ g2 := by
      rcases hato2 with h4 | h4
      · rw [h4]; exact nxo1k4
      · rw [h4]; exact Nat.ne_of_lt o1.lt'.1
    replace o1 := OwnR.keep_ne o1 hkeep nxo1k4
    have HRUN := Lib.hid hrun
    clear hrun hbel hsz hkeep k4
    refine wp_append_run (.tmp 38) (.tmp 40) 22 _ rfl HRUN.out ?_
    refine hK _ _ (fun _ => eyc37) ?_
    clear hK K HRUN
    simp only [List.getElem_toArray, List.getElem_cons_succ, List.getElem_cons_zero, Act.put, List.setIfInBounds_toArray, List.set_cons_succ, List.set_cons_zero]
    refine any_run1 (i := 9) (by kernel_rfl) (by rfl) (by kernel_rfl) ?_
    intro K hK
    have F4 : Below m4 Wwx vyc38 := hbz.trans (eyc37.mono (by rw [HM5.out]; exact hml))
    have xk2 := xk.below eyc37 xk.lt
    clear xk
    have xk := xk2
    clear xk2
    have yk2 := yk.below eyc37 yk.lt
    clear yk
    have yk := yk2
    clear yk2
    have lk := xk.lt
    have y0 := xk.cell 0
    have f0 := xk.frozen 0
    simp at y0
    go_wp2_with fail
    replace F4 : Below m4 Wwx (vyc38.setCell ⟨gx, 0, none⟩ (.slice (some ⟨g1, 0, none⟩) bars.length c1)) := Below.setCell F4 HXY.out.2.1 _
    have o12 : OwnR (vyc38.setCell ⟨gx, 0, none⟩ (.slice (some ⟨g1, 0, none⟩) bars.length c1)) _ _ _ := own_set_far o1 xk (by decide) 0 (.slice (some ⟨g1, 0, none⟩) bars.length c1)
    clear o1
    have o1 := o12
    clear o12
    have o22 : OwnR (vyc38.setCell ⟨gx, 0, none⟩ (.slice (some ⟨g1, 0, none⟩) bars.length c1)) _ _ _ := own_set_far o2 xk (by decide) 0 (.slice (some ⟨g1, 0, none⟩) bars.length c1)
    clear o2
    have o2 := o22
    clear o22
    have yk2 := yk.far (p := ⟨gx, 0, none⟩) HXY.out.1.symm (.slice (some ⟨g1, 0, none⟩) bars.length c1)
    clear yk
    have yk := yk2
    clear yk2
    have xk2 := xk.set 0 (.slice (some ⟨g1, 0, none⟩) bars.length c1)
    simp at xk2
    clear xk lk y0 f0
    have xk := xk2
    clear xk2
    refine hK _ _ (fun hx => (Bool.false_ne_true (hx.symm.trans (by kernel_rfl))).elim) ?_
    clear hK K
    generalize (vyc38.setCell ⟨gx, 0, none⟩ (.slice (some ⟨g1, 0, none⟩) bars.length c1)) = vyc40 at *
    refine any_run1 (i := 10) (by kernel_rfl) (by rfl) (by kernel_rfl) ?_
    intro K hK
    go_wp2_with fail
    refine hK _ _ (fun hx => (Bool.false_ne_true (hx.symm.trans (by kernel_rfl))).elim) ?_
    clear hK K
    refine any_run1 (i := 11) (by kernel_rfl) (by rfl) (by kernel_rfl) ?_
    intro K hK
    have lk := yk.lt
    have y0 := yk.cell 0
    have f0 := yk.frozen 0
    simp at y0
    go_wp2_with fail
    replace F4 : Below m4 Wwx (vyc40.setCell ⟨gy, 0, none⟩ (.slice (some ⟨g2, 0, none⟩) bars.length c2)) := Below.setCell F4 HXY.out.2.2 _
    have o12 : OwnR (vyc40.setCell ⟨gy, 0, none⟩ (.slice (some ⟨g2, 0, none⟩) bars.length c2)) _ _ _ := own_set_far o1 yk (by decide) 0 (.slice (some ⟨g2, 0, none⟩) bars.length c2)
    clear o1
    have o1 := o12
    clear o12
    have o22 : OwnR (vyc40.setCell ⟨gy, 0, none⟩ (.slice (some ⟨g2, 0, none⟩) bars.length c2)) _ _ _ := own_set_far o2 yk (by decide) 0 (.slice (some ⟨g2, 0, none⟩) bars.length c2)
    clear o2
    have o2 := o22
    clear o22
    have xk2 := xk.far (p := ⟨gy, 0, none⟩) HXY.out.1 (.slice (some ⟨g2, 0, none⟩) bars.length c2)
    clear xk
    have xk := xk2
    clear xk2
    have yk2 := yk.set 0 (.slice (some ⟨g2, 0, none⟩) bars.length c2)
    simp at yk2
    clear yk lk y0 f0
    have yk := yk2
    clear yk2
    refine hK _ _ (fun hx => (Bool.false_ne_true (hx.symm.trans (by kernel_rfl))).elim) ?_
    clear hK K
    generalize (vyc40.setCell ⟨gy, 0, none⟩ (.slice (some ⟨g2, 0, none⟩) bars.length c2)) = vyc41 at *
    refine any_done (by kernel_rfl) (NoPanic.normal ?_)
    exact ⟨rfl, by simp [setAll], rfl, _, _, _, _, nfo1o2, o1.lt'.2, o2.lt'.2, xk, yk, o1, o2, F4⟩
  clear xk yk
  rintro u V' ⟨g1, c1, g2, c2, h12, hl1, hl2, xk, yk, o1, o2, hbz⟩
  simp only [setAll, List.foldl, List.setIfInBounds_toArray, List.set_cons_succ, List.set_cons_zero]
  rw [← HM.out] at hbz
  clear hB bx lbx bxc0 bxc1
  have hC : Below n0 w V' := HC4.out.trans (hbz.mono (by rw [HM.out]; exact HM4.out))
  obtain ⟨nb, rfl⟩ : ∃ n : Nat, b = n := ⟨b.toNat, by have := HOR.out.blo; omega⟩
  have hb1 : nb < bars.length := by have := HOR.out.bhi; rw [Int.toNat_natCast] at this; exact this
  have hb2 : (nb : Int) < (bars.length : Int) := by omega
  have hbm : Below m4 Wwx V' := by rw [← HM.out]; exact hbz
  have hB := RS.more (RS.below HB4.out hbm) (B' := V'.heap.size) (by have := hbm.size; rw [HM.out] at this; exact this)
  have bx := HBX.out.1.below hbm HBX.out.2
  have wx := HWX.out.1.below hbm HWX.out.2
  clear hbm
  obtain ⟨A', cap', bb, off, hve, hA, hc⟩ := RR.cells hB
  obtain ⟨rfl, hbb⟩ := hA (by omega)
  injection hve with q1 q2 q3
  subst q1 q3
  obtain ⟨d0, d1⟩ := hc nb hb1
  have hro := HOR.out.works.bok _ (nthB_mem hb1)
  obtain ⟨⟨lo, hi⟩, hr⟩ : ∃ r, nthB bars nb = r := ⟨_, rfl⟩
  rw [hr] at d0 d1 hro
  dsimp only at d0 d1
  have HRN := Lib.hid hr
  obtain ⟨ho1, ho2, ho3⟩ := hro
  dsimp only at ho1 ho2 ho3
  clear hA hc q2 hr
  have lbx := bx.lt
  have bxc0 := bx.cell 0
  have bxc1 := bx.cell 1
  simp at bxc0 bxc1
  have lwx := wx.lt
  have wxc0 := wx.cell 0
  have wxc1 := wx.cell 1
  simp at wxc0 wxc1
  go_wp2_with fail
  go_upto_region 7 with fail
  clear lbx bxc0 bxc1
  clear lwx wxc0 wxc1
  clear d0 d1 hbb hB bx wx
  have HOL := Lib.hid (And.intro o1.lt'.1 o2.lt'.1)
  obtain ⟨m2, hm2⟩ : ∃ n, V'.heap.size = n := ⟨_, rfl⟩
  try rw [hm2]
  have hqox : n0 ≤ m2 := by have := hC.size; omega
  have ox : BK (V'.alloc (.cells #[.int .i64 lo, .int .i64 hi] 33)) (m2) #[.int .i64 lo, .int .i64 hi] 33 := BK.new' _ _ _ (m2) hm2
  have hsox : (V'.alloc (.cells #[.int .i64 lo, .int .i64 hi] 33)).heap.size = m2 + 1 := by simp [hm2]
  have hol := HOL.out
  rw [hm2] at hol
  clear HOL
  have HOL := Lib.hid hol
  clear hol
  replace hC : Below n0 w (V'.alloc (.cells #[.int .i64 lo, .int .i64 hi] 33)) := Below.alloc hC (by have := hC.size; omega) _
  replace xk := xk.alloc (.cells #[.int .i64 lo, .int .i64 hi] 33)
  replace yk := yk.alloc (.cells #[.int .i64 lo, .int .i64 hi] 33)
  replace o1 := own_below o1 (W' := (V'.alloc (.cells #[.int .i64 lo, .int .i64 hi] 33))) (Below.alloc (Below.refl _ _) (Nat.le_refl _) _)
  replace o2 := own_below o2 (W' := (V'.alloc (.cells #[.int .i64 lo, .int .i64 hi] 33))) (Below.alloc (Below.refl _ _) (Nat.le_refl _) _)
  replace hbz := hbz.trans ((Below.alloc (Below.refl _ _) (Nat.le_refl _) _ : Below _ _ (V'.alloc (.cells #[.int .i64 lo, .int .i64 hi] 33))).mono hbz.size)
  generalize (V'.alloc (.cells #[.int .i64 lo, .int .i64 hi] 33)) = Wox at *
  clear hm2
  clear hsox
  skip
  have o1' : OwnR Wox m5 _ bars := o1
  have o2' : OwnR Wox m5 _ bars := o2
  clear o1 o2
  have o1 := o1'
  have o2 := o2'
  clear o1' o2'
  have hne1 : gx ≠ g1 := by
    obtain ⟨cur, hb, _⟩ := o1.blk
    exact bk_ne xk hb (by decide)
  have hne2 : gy ≠ g1 := by
    obtain ⟨cur, hb, _⟩ := o1.blk
    exact bk_ne yk hb (by decide)
  have hne3 : gx ≠ g2 := by
    obtain ⟨cur, hb, _⟩ := o2.blk
    exact bk_ne xk hb (by decide)
  have hne4 : gy ≠ g2 := by
    obtain ⟨cur, hb, _⟩ := o2.blk
    exact bk_ne yk hb (by decide)
  have HNE := Lib.hid (And.intro (And.intro hne1 hne2) (And.intro (And.intro hne3 hne4) h12))
  clear hne1 hne2 hne3 hne4 h12
  have hox1 : g1 ≠ m2 := fun q => by
    have h8 := o1.lt'.1
    have h9 := HOL.out.1
    omega
  have hox2 : g2 ≠ m2 := fun q => by
    have h8 := o2.lt'.1
    have h9 := HOL.out.2
    omega
  have HOX := Lib.hid (And.intro hox1.symm hox2.symm)
  clear hox1 hox2
  have hbm : Below m4 Wwx Wox := by rw [← HM.out]; exact hbz
  have wx := HWX.out.1.below hbm HWX.out.2
  clear hbm
  have dl := o1.lt'.1
  have df0 := o1.fz (nb * 2)
  have df1 := o1.fz (nb * 2 + 1)
  obtain ⟨de0, de1⟩ := OwnR.at o1 hb1
  have lxk := xk.lt
  have xkc0 := xk.cell 0
  have xkc1 := xk.cell 1
  simp at xkc0 xkc1
  have lwx := wx.lt
  have wxc0 := wx.cell 0
  have wxc1 := wx.cell 1
  simp at wxc0 wxc1
  have lox := ox.lt
  have oxc0 := ox.cell 0
  have oxc1 := ox.cell 1
  simp at oxc0 oxc1
  obtain ⟨r1, hr1⟩ : ∃ x, min (1000 : Int) (lo + (x1 : Int)) = x := ⟨_, rfl⟩
  obtain ⟨r2, hr2⟩ : ∃ x, min (1000 : Int) (hi + (x1 : Int)) = x := ⟨_, rfl⟩
  have v1 : IntKind.i64.wrap (x1 : Int) = (x1 : Int) := by rw [IntKind.wrap_i64]; omega
  have v2 : IntKind.i64.wrap (lo + (x1 : Int)) = lo + (x1 : Int) := by rw [IntKind.wrap_i64]; omega
  have v3 : IntKind.i64.wrap (hi + (x1 : Int)) = hi + (x1 : Int) := by rw [IntKind.wrap_i64]; omega
  have v4 : (if lo + (x1 : Int) < 1000 then lo + (x1 : Int) else 1000) = r1 := by rw [← hr1]; split <;> omega
  have v5 : (if hi + (x1 : Int) < 1000 then hi + (x1 : Int) else 1000) = r2 := by rw [← hr2]; split <;> omega
  have HR1 := Lib.hid hr1
  have HR2 := Lib.hid hr2
  clear hr1 hr2
  refine wp_region_noPanic (plain_any [0, 1, 2, 3, 4, 5, 6, 7, 8, 9, 10, 11, 12, 13, 14, 15] (Below Wox.heap.size Wox) mixed ?_)
  refine any_tk 0 ?_
  have d0zp : Below Wox.heap.size Wox Wox.drew := by exact bel_of
  refine any_tk 1 ?_
  refine any_tk 2 ?_
  refine any_tk 3 ?_
  refine any_tk 4 ?_
  refine any_tk 5 ?_
  refine any_tk 6 ?_
  refine any_tk 7 ?_
  refine any_tk 8 ?_
  refine any_tk 9 ?_
  refine any_tk 10 ?_
  refine any_tk 11 ?_
  refine any_tk 12 ?_
  refine any_tk 13 ?_
  refine any_tk 14 ?_
  refine any_tk 15 ?_
  have qzp1 := d0zp.size
  refine any_run1 (i := 16) (by kernel_rfl) (by rfl) (by kernel_rfl) ?_
  intro K hK
  go_wp2_with fail
  refine (rg_any (r1) (r2) _).mono ?_
  rintro e vzp1 ⟨rfl, hb⟩
  have ezp1 : Below Wox.heap.size Wox vzp1 := d0zp.trans (hb.mono d0zp.size)
  clear hb
  refine hK _ _ (fun _ => ezp1) ?_
  clear hK K
  have o12 : OwnR vzp1 _ _ _ := own_below o1 ezp1
  have o22 : OwnR vzp1 _ _ _ := own_below o2 ezp1
  have dl2 := o12.lt'
  have df0 := o12.fz (nb * 2)
  have df1 := o12.fz (nb * 2 + 1)
  obtain ⟨de0, de1⟩ := OwnR.at o12 hb1
  have dl3 := dl2.1
  have hgm : m4 ≤ g1 := Nat.le_trans hml dl2.2
  have o13 := OwnR.set o12 hb1 ⟨r1, r2⟩
  dsimp only at o13
  have o23 := OwnR.far2 o22 HNE.out.2.2.symm (nb * 2) (nb * 2 + 1) (.int .i64 (r1)) (.int .i64 (r2))
  have xk3 := ((xk.below ezp1 xk.lt).far (p := ⟨g1, nb * 2, none⟩) HNE.out.1.1 (.int .i64 (r1))).far (p := ⟨g1, nb * 2 + 1, none⟩) HNE.out.1.1 (.int .i64 (r2))
  have yk3 := ((yk.below ezp1 yk.lt).far (p := ⟨g1, nb * 2, none⟩) HNE.out.1.2 (.int .i64 (r1))).far (p := ⟨g1, nb * 2 + 1, none⟩) HNE.out.1.2 (.int .i64 (r2))
  have ox3 := ((ox.below ezp1 ox.lt).far (p := ⟨g1, nb * 2, none⟩) HOX.out.1 (.int .i64 (r1))).far (p := ⟨g1, nb * 2 + 1, none⟩) HOX.out.1 (.int .i64 (r2))
  have hbz3 := Below.setCell (p := ⟨g1, nb * 2 + 1, none⟩) (Below.setCell (p := ⟨g1, nb * 2, none⟩) (hbz.trans (ezp1.mono hbz.size)) (by rw [HM.out]; exact hgm) (.int .i64 (r1))) (by rw [HM.out]; exact hgm) (.int .i64 (r2))
  have HS3 := Lib.hid (And.intro o13 (And.intro o23 (And.intro xk3 (And.intro yk3 (And.intro ox3 hbz3)))))
  clear o1 o2 o12 o22 o13 o23 xk3 yk3 ox3 hbz3 xk yk ox hbz dl2 hgm dl
  refine any_run1 (i := 17) (by kernel_rfl) (by rfl) (by kernel_rfl) ?_
  intro K hK
  go_wp2_with fail
  refine hK _ _ (fun hx => (Bool.false_ne_true (hx.symm.trans (by kernel_rfl))).elim) ?_
  clear hK K
  refine any_run1 (i := 18) (by kernel_rfl) (by rfl) (by kernel_rfl) ?_
  intro K hK
  go_wp2_with fail
  refine hK _ _ (fun hx => (Bool.false_ne_true (hx.symm.trans (by kernel_rfl))).elim) ?_
  clear hK K
  refine any_done (by kernel_rfl) (NoPanic.normal ?_)
  obtain ⟨o1, o2, xk, yk, ox, hbz⟩ := HS3.out
  generalize (((vzp1).setCell ⟨g1, nb * 2, none⟩ (.int .i64 (r1))).setCell ⟨g1, nb * 2 + 1, none⟩ (.int .i64 (r2))) = WN7 at *
  clear HS3 df0 df1 de0 de1 dl3
  clear lxk xkc0 xkc1 lwx wxc0 wxc1 lox oxc0 oxc1 wx
  clear v1 v2 v3 v4 v5
  go_wp2_with fail
  have hbm : Below m4 Wwx WN7 := by rw [← HM.out]; exact hbz
  have wx := HWX.out.1.below hbm HWX.out.2
  have az := HAZ.out.1.below hbm HAZ.out.2
  clear hbm
  have dl := o2.lt'.1
  have df0 := o2.fz (nb * 2)
  have df1 := o2.fz (nb * 2 + 1)
  obtain ⟨de0, de1⟩ := OwnR.at o2 hb1
  have lyk := yk.lt
  have ykc0 := yk.cell 0
  have ykc1 := yk.cell 1
  simp at ykc0 ykc1
  have lwx := wx.lt
  have wxc0 := wx.cell 0
  have wxc1 := wx.cell 1
  simp at wxc0 wxc1
  have lox := ox.lt
  have oxc0 := ox.cell 0
  have oxc1 := ox.cell 1
  simp at oxc0 oxc1
  have laz := az.lt
  have azc0 := az.cell 0
  have azc1 := az.cell 1
  simp at azc0 azc1
  obtain ⟨r3, hr3⟩ : ∃ x, max (0 : Int) (lo - (x2 : Int)) = x := ⟨_, rfl⟩
  obtain ⟨r4, hr4⟩ : ∃ x, min (1000 : Int) (hi + (y2 : Int)) = x := ⟨_, rfl⟩
  have v1 : IntKind.i64.wrap (x2 : Int) = (x2 : Int) := by rw [IntKind.wrap_i64]; omega
  have v6 : IntKind.i64.wrap (y2 : Int) = (y2 : Int) := by rw [IntKind.wrap_i64]; omega
  have v2 : IntKind.i64.wrap (lo - (x2 : Int)) = lo - (x2 : Int) := by rw [IntKind.wrap_i64]; omega
  have v3 : IntKind.i64.wrap (hi + (y2 : Int)) = hi + (y2 : Int) := by rw [IntKind.wrap_i64]; omega
  have v4 : (if 0 < lo - (x2 : Int) then lo - (x2 : Int) else 0) = r3 := by rw [← hr3]; split <;> omega
  have v7 : (if (x2 : Int) < lo then lo - (x2 : Int) else 0) = r3 := by rw [← hr3]; split <;> omega
  have v5 : (if hi + (y2 : Int) < 1000 then hi + (y2 : Int) else 1000) = r4 := by rw [← hr4]; split <;> omega
  have HR3 := Lib.hid hr3
  have HR4x := Lib.hid hr4
  clear hr3 hr4
  refine wp_region_noPanic (plain_any [0, 1, 2, 3, 4, 5, 6, 7, 8, 9, 10, 11, 12, 13, 14, 15, 16, 17] (Below WN7.heap.size WN7) mixed ?_)
  refine any_tk 0 ?_
  have d0zq : Below WN7.heap.size WN7 WN7.drew := by exact bel_of
  refine any_tk 1 ?_
  refine any_tk 2 ?_
  refine any_tk 3 ?_
  refine any_tk 4 ?_
  refine any_tk 5 ?_
  refine any_tk 6 ?_
  refine any_tk 7 ?_
  refine any_tk 8 ?_
  refine any_tk 9 ?_
  refine any_tk 10 ?_
  refine any_tk 11 ?_
  refine any_tk 12 ?_
  refine any_tk 13 ?_
  refine any_tk 14 ?_
  refine any_tk 15 ?_
  refine any_tk 16 ?_
  refine any_tk 17 ?_
  have qzq1 := d0zq.size
  refine any_run1 (i := 18) (by kernel_rfl) (by rfl) (by kernel_rfl) ?_
  intro K hK
  go_wp2_with fail
  refine (rg_any (r3) (r4) _).mono ?_
  rintro e vzq1 ⟨rfl, hb⟩
  have ezq1 : Below WN7.heap.size WN7 vzq1 := d0zq.trans (hb.mono d0zq.size)
  clear hb
  refine hK _ _ (fun _ => ezq1) ?_
  clear hK K
  have o22 : OwnR vzq1 _ _ _ := own_below o2 ezq1
  have o12 : OwnR vzq1 _ _ _ := own_below o1 ezq1
  have dl2 := o22.lt'
  have df0 := o22.fz (nb * 2)
  have df1 := o22.fz (nb * 2 + 1)
  obtain ⟨de0, de1⟩ := OwnR.at o22 hb1
  have dl3 := dl2.1
  have hgm : m4 ≤ g2 := Nat.le_trans hml dl2.2
  have o23 := OwnR.set o22 hb1 ⟨r3, r4⟩
  dsimp only at o23
  have o13 := OwnR.far2 o12 HNE.out.2.2 (nb * 2) (nb * 2 + 1) (.int .i64 (r3)) (.int .i64 (r4))
  have xk3 := ((xk.below ezq1 xk.lt).far (p := ⟨g2, nb * 2, none⟩) HNE.out.2.1.1 (.int .i64 (r3))).far (p := ⟨g2, nb * 2 + 1, none⟩) HNE.out.2.1.1 (.int .i64 (r4))
  have yk3 := ((yk.below ezq1 yk.lt).far (p := ⟨g2, nb * 2, none⟩) HNE.out.2.1.2 (.int .i64 (r3))).far (p := ⟨g2, nb * 2 + 1, none⟩) HNE.out.2.1.2 (.int .i64 (r4))
  have ox3 := ((ox.below ezq1 ox.lt).far (p := ⟨g2, nb * 2, none⟩) HOX.out.2 (.int .i64 (r3))).far (p := ⟨g2, nb * 2 + 1, none⟩) HOX.out.2 (.int .i64 (r4))
  have hbz3 := Below.setCell (p := ⟨g2, nb * 2 + 1, none⟩) (Below.setCell (p := ⟨g2, nb * 2, none⟩) (hbz.trans (ezq1.mono hbz.size)) (by rw [HM.out]; exact hgm) (.int .i64 (r3))) (by rw [HM.out]; exact hgm) (.int .i64 (r4))
  have HS3 := Lib.hid (And.intro o23 (And.intro o13 (And.intro xk3 (And.intro yk3 (And.intro ox3 hbz3)))))
  clear o2 o1 o22 o12 o23 o13 xk3 yk3 ox3 hbz3 xk yk ox hbz dl2 hgm dl
  refine any_run1 (i := 19) (by kernel_rfl) (by rfl) (by kernel_rfl) ?_
  intro K hK
  go_wp2_with fail
  refine hK _ _ (fun hx => (Bool.false_ne_true (hx.symm.trans (by kernel_rfl))).elim) ?_
  clear hK K
  refine any_run1 (i := 20) (by kernel_rfl) (by rfl) (by kernel_rfl) ?_
  intro K hK
  go_wp2_with fail
  refine hK _ _ (fun hx => (Bool.false_ne_true (hx.symm.trans (by kernel_rfl))).elim) ?_
  clear hK K
  refine any_done (by kernel_rfl) (NoPanic.normal ?_)
  obtain ⟨o2, o1, xk, yk, ox, hbz⟩ := HS3.out
  generalize (((vzq1).setCell ⟨g2, nb * 2, none⟩ (.int .i64 (r3))).setCell ⟨g2, nb * 2 + 1, none⟩ (.int .i64 (r4))) = WN8 at *
  clear HS3 df0 df1 de0 de1 dl3
  clear lyk ykc0 ykc1 lwx wxc0 wxc1 lox oxc0 oxc1 wx laz azc0 azc1 az
  clear v1 v2 v3 v4 v5 v6 v7
  clear hC
  have hC : Below n0 w WN8 := HC4.out.trans (hbz.mono (by rw [HM.out]; exact HM4.out))
  have hbm : Below m4 Wwx WN8 := by rw [← HM.out]; exact hbz
  have hB := RS.more (RS.below HB4.out hbm) (B' := WN8.heap.size) (by have := hbm.size; rw [HM.out] at this; exact this)
  have hS := RP.more (RP.below HS4.out hbm) (B' := WN8.heap.size) (by have := hbm.size; rw [HM.out] at this; exact this)
  have hR := RS.more (RS.below HR4.out hbm) (B' := WN8.heap.size) (by have := hbm.size; rw [HM.out] at this; exact this)
  have bx := HBX.out.1.below hbm HBX.out.2
  have wx := HWX.out.1.below hbm HWX.out.2
  clear hbm
  have hX := OwnR.ri o1
  have hY := OwnR.ri o2
  have hk1 : OkR ⟨r1, r2⟩ := by
    have := HR1.out
    have := HR2.out
    refine ⟨?_, ?_, ?_⟩ <;> dsimp only <;> omega
  have hk2 : OkR ⟨r3, r4⟩ := by
    have := HR3.out
    have := HR4x.out
    refine ⟨?_, ?_, ?_⟩ <;> dsimp only <;> omega
  have HO1 : Hid (OkRec (bars.set nb ⟨r1, r2⟩) ss (nb : Int) ks) := Lib.hid (okRec_set HOR.out hk1)
  have HO2 : Hid (OkRec (bars.set nb ⟨r3, r4⟩) ss (nb : Int) ks) := Lib.hid (okRec_set HOR.out hk2)
  have HF1 := Lib.hid (great_fit (okV_small HO1.out.works))
  have HF2 := Lib.hid (great_fit (okV_small HO2.out.works))
  have HLA : Hid (∀ i, i ≤ ss.length → ((nthB (rngL bars ss nb ks) i).lo ≤ (nthB (rngL (bars.set nb ⟨r1, r2⟩) ss nb ks) i).lo ∧ (nthB (rngL bars ss nb ks) i).hi ≤ (nthB (rngL (bars.set nb ⟨r1, r2⟩) ss nb ks) i).hi) ∧
      ((nthB (rngL (bars.set nb ⟨r3, r4⟩) ss nb ks) i).lo ≤ (nthB (rngL bars ss nb ks) i).lo ∧ (nthB (rngL bars ss nb ks) i).hi ≤ (nthB (rngL (bars.set nb ⟨r3, r4⟩) ss nb ks) i).hi)) := Lib.hid (fun i hi' => by
    have hn : nthB bars (nb : Int).toNat = ⟨lo, hi⟩ := HRN.out
    have e1 := HR1.out
    have e2 := HR2.out
    have e3 := HR3.out
    have e4 := HR4x.out
    exact ⟨⟨set_lo HOR.out hk1 (by rw [hn]; dsimp only; omega) hi', set_hi HOR.out hk1 (by rw [hn]; dsimp only; omega) hi'⟩, set_lo' HOR.out hk2 (by rw [hn]; dsimp only; omega) hi', set_hi HOR.out hk2 (by rw [hn]; dsimp only; omega) hi'⟩)
  clear hk1 hk2 ox o1 o2 hbz
  have lbx := bx.lt
  have bxc0 := bx.cell 0
  have bxc1 := bx.cell 1
  simp at bxc0 bxc1
  have lwx := wx.lt
  have wxc0 := wx.cell 0
  have wxc1 := wx.cell 1
  simp at wxc0 wxc1
  go_wp2_with fail
  clear lbx bxc0 bxc1
  clear lwx wxc0 wxc1
  refine (ranges_any bars ss nb ks _ _ _ _ HF.out HKL2.out hB hS hR).mono ?_
  rintro e w3 ⟨vl, rfl, hl, hb⟩
  replace hC : Below n0 w w3 := hC.trans (hb.mono (by have := hC.size; omega))
  replace hB := (RS.below hB hb).more hb.size
  replace hS := (RP.below hS hb).more hb.size
  replace hR := (RS.below hR hb).more hb.size
  replace bx := bx.below hb bx.lt
  replace wx := wx.below hb wx.lt
  replace xk := xk.below hb xk.lt
  replace yk := yk.below hb yk.lt
  replace hX := (RS.below hX hb).more hb.size
  replace hY := (RS.below hY hb).more hb.size
  clear hb
  rw [recE_of HOR.out]
  have hll := rngL_len' (recE_of HOR.out)
  obtain ⟨L, hLe⟩ : ∃ l, rngL bars ss nb ks = l := ⟨_, rfl⟩
  rw [hLe] at hl hll HLA
  have HL := Lib.hid hll
  have hl7l : L.length ≤ 1000 := by omega
  obtain ⟨All, cll, rfl⟩ := rr_slice hl
  clear hLe hll
  have lxk := xk.lt
  have xkc0 := xk.cell 0
  have xkc1 := xk.cell 1
  simp at xkc0 xkc1
  have lwx := wx.lt
  have wxc0 := wx.cell 0
  have wxc1 := wx.cell 1
  simp at wxc0 wxc1
  go_wp2_with fail
  clear lxk xkc0 xkc1
  clear lwx wxc0 wxc1
  refine (ranges_any (bars.set nb ⟨r1, r2⟩) ss nb ks _ _ _ _ HF1.out HKL2.out hX hS hR).mono ?_
  rintro e w4 ⟨vp, rfl, hp, hb⟩
  replace hC : Below n0 w w4 := hC.trans (hb.mono (by have := hC.size; omega))
  replace hB := (RS.below hB hb).more hb.size
  replace hS := (RP.below hS hb).more hb.size
  replace hR := (RS.below hR hb).more hb.size
  replace bx := bx.below hb bx.lt
  replace wx := wx.below hb wx.lt
  replace xk := xk.below hb xk.lt
  replace yk := yk.below hb yk.lt
  replace hX := (RS.below hX hb).more hb.size
  replace hY := (RS.below hY hb).more hb.size
  replace hl := (RS.below hl hb).more hb.size
  clear hb
  rw [recE_of HO1.out]
  have hll := rngL_len' (recE_of HO1.out)
  obtain ⟨LP, hLe⟩ : ∃ l, rngL (bars.set nb ⟨r1, r2⟩) ss nb ks = l := ⟨_, rfl⟩
  rw [hLe] at hp hll HLA
  have HLP := Lib.hid hll
  have hl7p : LP.length ≤ 1000 := by omega
  obtain ⟨Alp, clp, rfl⟩ := rr_slice hp
  clear hLe hll
  have lyk := yk.lt
  have ykc0 := yk.cell 0
  have ykc1 := yk.cell 1
  simp at ykc0 ykc1
  have lwx := wx.lt
  have wxc0 := wx.cell 0
  have wxc1 := wx.cell 1
  simp at wxc0 wxc1
  go_wp2_with fail
  clear lyk ykc0 ykc1
  clear lwx wxc0 wxc1
  refine (ranges_any (bars.set nb ⟨r3, r4⟩) ss nb ks _ _ _ _ HF2.out HKL2.out hY hS hR).mono ?_
  rintro e w5 ⟨vq, rfl, hq, hb⟩
  replace hC : Below n0 w w5 := hC.trans (hb.mono (by have := hC.size; omega))
  replace hB := (RS.below hB hb).more hb.size
  replace hS := (RP.below hS hb).more hb.size
  replace hR := (RS.below hR hb).more hb.size
  replace bx := bx.below hb bx.lt
  replace wx := wx.below hb wx.lt
  replace xk := xk.below hb xk.lt
  replace yk := yk.below hb yk.lt
  replace hX := (RS.below hX hb).more hb.size
  replace hY := (RS.below hY hb).more hb.size
  replace hl := (RS.below hl hb).more hb.size
  replace hp := (RS.below hp hb).more hb.size
  clear hb
  rw [recE_of HO2.out]
  have hll := rngL_len' (recE_of HO2.out)
  obtain ⟨LQ, hLe⟩ : ∃ l, rngL (bars.set nb ⟨r3, r4⟩) ss nb ks = l := ⟨_, rfl⟩
  rw [hLe] at hq hll HLA
  have HLQ := Lib.hid hll
  have hl7q : LQ.length ≤ 1000 := by omega
  obtain ⟨Alq, clq, rfl⟩ := rr_slice hq
  clear hLe hll
  have n1 : (((L.length : Nat) : Int) != ((LP.length : Nat) : Int)) = false := by rw [HL.out, HLP.out]; simp
  have n2 : (((L.length : Nat) : Int) != ((LQ.length : Nat) : Int)) = false := by rw [HL.out, HLQ.out]; simp
  go_wp2_with fail
  clear n1 n2
  go_loopw [19] (fun i wr => ∃ k : Nat, k ≤ L.length ∧ i = .int .i64 (k : Int) ∧ Below w5.heap.size w5 wr) (fun i _ => L.length - (intOf i).toNat)
  case atStart => exact ⟨0, Nat.zero_le _, rfl, Below.refl _ _⟩
  case round =>
    obtain ⟨k, hkk, rfl, hb⟩ := hrel
    have hbrk := hb
    replace hC : Below n0 w wr := hC.trans (hb.mono (by have := hC.size; omega))
    replace hB := (RS.below hB hb).more hb.size
    replace hS := (RP.below hS hb).more hb.size
    replace hR := (RS.below hR hb).more hb.size
    replace bx := bx.below hb bx.lt
    replace wx := wx.below hb wx.lt
    replace xk := xk.below hb xk.lt
    replace yk := yk.below hb yk.lt
    replace hX := (RS.below hX hb).more hb.size
    replace hY := (RS.below hY hb).more hb.size
    replace hl := (RS.below hl hb).more hb.size
    replace hp := (RS.below hp hb).more hb.size
    replace hq := (RS.below hq hb).more hb.size
    clear hb
    by_cases hlt : k < L.length
    case neg =>
      have hlt' : ¬ (k : Int) < (L.length : Int) := by omega
      go_wp2_with fail
      refine (works_any _).mono ?_
      rintro e w6 ⟨rfl, hb⟩
      replace hC : Below n0 w w6 := hC.trans (hb.mono (by have := hC.size; omega))
      replace hB := (RS.below hB hb).more hb.size
      replace hS := (RP.below hS hb).more hb.size
      replace hR := (RS.below hR hb).more hb.size
      replace bx := bx.below hb bx.lt
      replace wx := wx.below hb wx.lt
      replace xk := xk.below hb xk.lt
      replace yk := yk.below hb yk.lt
      replace hX := (RS.below hX hb).more hb.size
      replace hY := (RS.below hY hb).more hb.size
      replace hl := (RS.below hl hb).more hb.size
      replace hp := (RS.below hp hb).more hb.size
      replace hq := (RS.below hq hb).more hb.size
      clear hb
      go_wp2_with fail
      exact bodyPost_ret (v := .bool true) (by simp [results, Try.results11, go_sem]) rfl ⟨rfl, by first | exact hC | (rw [hn0]; exact hC) | (with_reducible rw [hn0]; exact bel_of) | exact bel_of⟩
    have hlt' : (k : Int) < (L.length : Int) := by omega
    have hks : k ≤ ss.length := by have := HL.out; omega
    have hp1 : k < LP.length := by have := HLP.out; omega
    have hp2 : (k : Int) < (LP.length : Int) := by omega
    have hq1 : k < LQ.length := by have := HLQ.out; omega
    have hq2 : (k : Int) < (LQ.length : Int) := by omega
    have hla := HLA.out k hks
    obtain ⟨A_l, c_l, b_l, o_l, hve, hA, hc⟩ := RR.cells hl
    obtain ⟨rfl, hb_l⟩ := hA (by omega)
    injection hve with q1 q2 q3
    first | (subst q1; subst q3) | (injection q1 with q1; injection q1 with q4 q5; subst q4; subst q5; subst q3)
    obtain ⟨d_l0, d_l1⟩ := hc k hlt
    clear hA hc q2
    obtain ⟨A_p, c_p, b_p, o_p, hve, hA, hc⟩ := RR.cells hp
    obtain ⟨rfl, hb_p⟩ := hA (by omega)
    injection hve with q1 q2 q3
    first | (subst q1; subst q3) | (injection q1 with q1; injection q1 with q4 q5; subst q4; subst q5; subst q3)
    obtain ⟨d_p0, d_p1⟩ := hc k hp1
    clear hA hc q2
    obtain ⟨A_q, c_q, b_q, o_q, hve, hA, hc⟩ := RR.cells hq
    obtain ⟨rfl, hb_q⟩ := hA (by omega)
    injection hve with q1 q2 q3
    first | (subst q1; subst q3) | (injection q1 with q1; injection q1 with q4 q5; subst q4; subst q5; subst q3)
    obtain ⟨d_q0, d_q1⟩ := hc k hq1
    clear hA hc q2
    obtain ⟨⟨a1, a2⟩, e1⟩ : ∃ r, nthB L k = r := ⟨_, rfl⟩
    obtain ⟨⟨b1, b2⟩, e2⟩ : ∃ r, nthB LP k = r := ⟨_, rfl⟩
    obtain ⟨⟨z1, z2⟩, e3⟩ : ∃ r, nthB LQ k = r := ⟨_, rfl⟩
    rw [e1] at d_l0 d_l1 hla
    rw [e2] at d_p0 d_p1 hla
    rw [e3] at d_q0 d_q1 hla
    dsimp only at d_l0 d_l1 d_p0 d_p1 d_q0 d_q1 hla
    have f1 : decide (b1 < a1) = false := decide_eq_false (by omega)
    have f2 : decide (b2 < a2) = false := decide_eq_false (by omega)
    have f3 : decide (a1 < z1) = false := decide_eq_false (by omega)
    have f4 : decide (z2 < a2) = false := decide_eq_false (by omega)
    clear hla e1 e2 e3 hks
    go_upto_region 17 with fail
    try simp only [List.append_eq, List.cons_append, List.nil_append]
    refine wp_region_noPanic (plain_any [0, 1, 2, 3, 4, 5, 6, 7, 8, 9, 10, 11, 12, 13, 14, 15, 16, 17, 18, 19, 20, 21, 22, 23, 24, 25, 26, 27, 28, 29, 30, 31, 32, 33, 34, 35, 36, 37, 38, 39, 40, 41, 42, 43, 44, 45, 46, 47, 48, 49] (Below wr.heap.size wr) mixed ?_)
    refine any_tk 0 ?_
    have d0z : Below wr.heap.size wr wr.drew := by exact bel_of
    refine any_tk 1 ?_
    refine any_tk 2 ?_
    refine any_tk 3 ?_
    refine any_tk 4 ?_
    refine any_tk 5 ?_
    refine any_tk 6 ?_
    refine any_tk 7 ?_
    refine any_tk 8 ?_
    refine any_tk 9 ?_
    refine any_tk 10 ?_
    refine any_tk 11 ?_
    refine any_tk 12 ?_
    refine any_tk 13 ?_
    refine any_tk 14 ?_
    refine any_tk 15 ?_
    refine any_tk 16 ?_
    refine any_tk 17 ?_
    refine any_tk 18 ?_
    refine any_tk 19 ?_
    refine any_tk 20 ?_
    refine any_tk 21 ?_
    refine any_tk 22 ?_
    refine any_tk 23 ?_
    refine any_tk 24 ?_
    refine any_tk 25 ?_
    refine any_tk 26 ?_
    refine any_tk 27 ?_
    refine any_tk 28 ?_
    refine any_tk 29 ?_
    refine any_tk 30 ?_
    refine any_tk 31 ?_
    refine any_tk 32 ?_
    refine any_tk 33 ?_
    refine any_tk 34 ?_
    refine any_tk 35 ?_
    refine any_tk 36 ?_
    refine any_tk 37 ?_
    refine any_tk 38 ?_
    refine any_tk 39 ?_
    refine any_tk 40 ?_
    refine any_tk 41 ?_
    refine any_tk 42 ?_
    refine any_tk 43 ?_
    refine any_tk 44 ?_
    refine any_tk 45 ?_
    refine any_tk 46 ?_
    refine any_tk 47 ?_
    refine any_tk 48 ?_
    refine any_tk 49 ?_
    refine any_done (by kernel_rfl) (NoPanic.normal ?_)
    have hb := d0z
    replace hC : Below n0 w wr.drew := hC.trans (hb.mono (by have := hC.size; omega))
    replace hB := (RS.below hB hb).more hb.size
    replace hS := (RP.below hS hb).more hb.size
    replace hR := (RS.below hR hb).more hb.size
    replace bx := bx.below hb bx.lt
    replace wx := wx.below hb wx.lt
    replace xk := xk.below hb xk.lt
    replace yk := yk.below hb yk.lt
    replace hX := (RS.below hX hb).more hb.size
    replace hY := (RS.below hY hb).more hb.size
    replace hl := (RS.below hl hb).more hb.size
    replace hp := (RS.below hp hb).more hb.size
    replace hq := (RS.below hq hb).more hb.size
    replace hbrk := hbrk.trans (hb.mono hbrk.size)
    clear hb
    clear d_l0 d_l1 d_p0 d_p1 d_q0 d_q1 hb_l hb_p hb_q f1 f2 f3 f4 hp1 hp2 hq1 hq2
    go_wp2_with fail
    go_roundw
    case rel => exact ⟨k + 1, by omega, by go_num, hbrk⟩
    case measure => simp [intOf]; omega
end Go.Proofs.Ytkibdciomheekaa

namespace Go.Proofs.Ytkibdciomheekaa.heatHarder
open Go.ChangeShapes Go.WideShapes Go.ChangeAt Go.RowKit Go.Deep

set_option maxRecDepth 100000 in
theorem lifted (os : Os) (started : os.Started) (H : Type) (enc : TypeId × Value → H) :
    ReturnsInHanded {} Try.checked os 11 .any (Rows.heatHarderSpec.pre6 enc Try.prog Try.f11 Rows.heatHarderRow.domain false) (Rows.heatHarderSpec.post enc Try.prog Try.f11 false true false false) := by
  refine returnsInHanded_of_change (C := Try.checked) own started (by kernel_rfl) Try.func11
    (ChangeSpec.witness6 (enc := enc) (C := Try.checked) false ⟨#[], #[.agg #[.slice none 0 0, .slice none 0 0], .slice none 0 0, .int .u16 0, .agg #[.int .u16 0, .int .u16 0]], []⟩ 8 (by kernel_rfl) (by kernel_rfl) (by kernel_rfl) (by kernel_rfl)) ?_
  intro W base args ds gs before hval0 hW hcnd _
  have hval : ∀ (j : Nat) t v, Try.f11.params[j]? = some t → args[j]? = some v → Value.okWide Try.prog W .any base t v := hval0
  have hW2 : DataW.Whole enc Try.prog Try.f11.params.toList Rows.heatHarderSpec.vars false W args.toList ds gs before := hW
  obtain ⟨p, q, hA0, hV, rfl, hfz, hnd⟩ := hW
  have hA : DataW.TrodAll enc Try.prog W 0 (fun _ => true) true Try.f11.params.toList args.toList ds p := hA0
  rw [Try.params11] at hA hval
  obtain ⟨v0, vs0, d0, ds0, p0, q0, hargs, rfl, rfl, h0, r0⟩ := trodAll_cons hA
  obtain ⟨v1, vs1, d1, ds1, p1, q1, rfl, rfl, rfl, h1, r1⟩ := trodAll_cons r0
  obtain ⟨v2, vs2, d2, ds2, p2, q2, rfl, rfl, rfl, h2, r2⟩ := trodAll_cons r1
  obtain ⟨v3, vs3, d3, ds3, p3, q3, rfl, rfl, rfl, h3, r3⟩ := trodAll_cons r2
  obtain ⟨rfl, rfl, rfl⟩ := trodAll_nil r3
  obtain rfl : args = #[v0, v1, v2, v3] := by cases args; simp_all
  obtain ⟨rfl, rfl⟩ := trodVars_none hV
  obtain ⟨vb0, vs0_, bars0, ss0, rfl, hB0, hS0⟩ := open_works (hval 0 25 v0 rfl rfl) h0
  obtain ⟨l1, g1, k1⟩ := open_u8s (hval 1 66 v1 rfl rfl) h1
  obtain ⟨x2, rfl, g2⟩ := open_u16 (hval 2 68 v2 rfl rfl) h2
  obtain ⟨x3, y3, rfl, g3⟩ := open_a16 (hval 3 80 v3 rfl rfl) h3
  refine (heatHarder_any (bars := bars0) (ss := ss0) (vb := vb0) (vs := vs0_) (hB := hB0) (hS := hS0) (us := l1) (vu := v1) (hU := g1) (hu := k1) (x1 := x2) (h1 := g2) (x2 := x3) (y2 := y3) (h2 := g3) (w := W)).mono fun e W' ⟨he, hg⟩ => ?_
  subst he
  exact ⟨_, rfl, law_done hW2 rfl rfl rfl (by rw [Try.params11]; decide +kernel) hg⟩

theorem over : Rows.heatHarderRow.holds Try.pinned (OpenSpec.ofChange Rows.heatHarderSpec) :=
  OpenClaim.holds_of_wide 11 Try.f11 rfl rfl rfl rfl rfl rfl rfl ⟨rfl, rfl, rfl, rfl, rfl⟩ rfl rfl rfl rfl rfl (by kernel_rfl) Try.func11 (by kernel_rfl)
    (of_decide_eq_true (by kernel_rfl)) (by unfold Func.isWrapper; first | (rw [if_pos (by decide +kernel)]; kernel_rfl) | (rw [if_neg (by decide +kernel)]; exact ⟨rfl, rfl⟩))
    (fun os started H enc _ => lifted os started H enc)

theorem proved : Rows.HeatHarderSaid :=
  over
end Go.Proofs.Ytkibdciomheekaa.heatHarder
namespace Go.Proofs.Ytkibdciomheekaa
theorem heatHarder_proved : Rows.HeatHarderSaid := heatHarder.proved
#print axioms heatHarder_proved
end Go.Proofs.Ytkibdciomheekaa
