/- Plain: a recipe in two parts; a harder bar, and a wider one. Plain: if less is left open, no recipe is added, no bar, no way, and no range of Had is wider. What is asked for, if less is left open. What the laws say of ranges, histories and what was had. A works that the laws build upon. A recipe in two parts: what the law compares. What HeatNarrower compares: if less is left open, nothing is added. Plain: recipes as lists of numbers, the bar first; how all of them are listed, step by step. Recipes in memory: a list of them that grows; each is its bar and its ways. What follows a region whose operations come in several orders, once. All recipes. The indexes of the numbers that are not 0. How many recipes have each number at a place. What the reference counts is what the program answers. The recipes that can have made a blade, of the reference. Which bars can have made a blade, and how many recipes, of the reference. Which ways of each step can have made a blade, of the reference. What to ask for next, of the reference. Has a works few enough recipes to be tried out. The lists of bars and ways as the laws compare them. A recipe by numbers. A history by numbers. Lists that grow side by side, in the cells of a row. What HeatBlamed compares: who can have made a blade, recipe by recipe. -/
import Derived.Test.YtkibdciomheekaaP3
import Derived.Test.YtkibdciomheekaaP1
import Derived.Test.YtkibdciomheekaaP25
import Derived.Test.YtkibdciomheekaaP29
import Derived.Test.YtkibdciomheekaaP10
import Derived.Test.YtkibdciomheekaaP7
import Derived.Test.YtkibdciomheekaaP27
import Derived.Test.YtkibdciomheekaaP24
import Derived.Test.YtkibdciomheekaaP26
import Derived.Test.YtkibdciomheekaaP14
import Derived.Test.YtkibdciomheekaaP28
import Derived.Deep.QuietTactic
import Derived.BigQuiet
set_option linter.all false
set_option linter.unnecessarySimpa false
set_option linter.unusedSimpArgs false
set_option linter.unusedVariables false
set_option linter.unusedSectionVars false

namespace Hp
open Go.Proofs.Ytkibdciomheekaa
theorem okV_take {bars : List Rg} {ss : List Stp} (h : OkV bars ss) (k : Nat) : OkV bars (ss.take k) :=
  ⟨h.bpos, h.bfew, by have := h.sfew; rw [List.length_take]; omega, fun s hs => h.wpos s (List.mem_of_mem_take hs), h.bok, fun s hs => h.sok s (List.mem_of_mem_take hs)⟩
end Hp

namespace Hp
section
variable {bars : List Rg} {ss : List Stp} {m x : Rg}
end
end Hp

set_option linter.all false
namespace Go.Proofs.Ytkibdciomheekaa
open Go.RowKit Hp

section
variable {bars : List Rg} {ss : List Stp} {m x : Rg}
end
end Go.Proofs.Ytkibdciomheekaa

set_option linter.all false
namespace Go.Proofs.Ytkibdciomheekaa
open Go.RowKit Hp

theorem nthB_of {l : List Rg} {i : Nat} {r : Rg} (h : l[i]? = some r) : nthB l i = r := by simp [nthB, h]
theorem nthI_of {l : List Int} {i : Nat} {x : Int} (h : l[i]? = some x) : nthI l i = x := by simp [nthI, h]
section
variable {bars : List Rg} {ss : List Stp} {b : Int} {ks hs : List Int} {m : Rg} {i : Nat}
theorem rng_at (OR : OkRec bars ss b ks) (hi : i ≤ ss.length) : nthB (rngL bars ss b ks) i = endR (nthB bars b.toNat) ((pick ss (nats ks)).take i) := by
  unfold rngL
  rw [if_pos (recE_of OR)]
  exact nthB_of (thr_at _ _ _ (by rw [pick_len OR.ways]; exact hi))
theorem rng_ok (OR : OkRec bars ss b ks) (hi : i ≤ ss.length) : OkR (nthB (rngL bars ss b ks) i) := by
  rw [rng_at OR hi]
  exact endR_ok (fun w hw => pick_ok OR.works.sok OR.ways w (List.mem_of_mem_take hw)) (OR.works.bok _ (nthB_mem OR.bhi))
theorem rng_last (OR : OkRec bars ss b ks) : nthB (rngL bars ss b ks) ss.length = endR (nthB bars b.toNat) (pick ss (nats ks)) := by
  rw [rng_at OR (Nat.le_refl _), List.take_of_length_le (by rw [pick_len OR.ways]; exact Nat.le_refl _)]
theorem histE_histB (h : histE bars ss b ks hs = 0) : OkRec bars ss b ks ∧ hs.length = ss.length + 1 ∧ histB (nthB bars b.toNat) (pick ss (nats ks)) hs = true := by
  unfold histE at h
  split at h
  · rename_i q; exact absurd h q
  · rename_i q
    split at h
    · cases h
    · rename_i q2
      split at h
      · rename_i q3
        exact ⟨okRec_of (Decidable.not_not.1 q), by omega, q3⟩
      · cases h
theorem hist_rng (h : histE bars ss b ks hs = 0) (hi : i ≤ ss.length) : inR (nthI hs i) (nthB (rngL bars ss b ks) i) = true := by
  obtain ⟨OR, hl, hB⟩ := histE_histB h
  obtain ⟨x, hx, h2⟩ := hist_in (pick_ok OR.works.sok OR.ways) (OR.works.bok _ (nthB_mem OR.bhi)) hB i (by rw [pick_len OR.ways]; exact hi)
  rw [rng_at OR hi, nthI_of hx]
  exact h2
theorem hadE_of (OR : OkRec bars ss b ks) (hm : OkR m) (h : meets (nthB (rngL bars ss b ks) ss.length) m = true) : hadE bars ss b ks m = 0 := by
  rw [rng_last OR] at h
  unfold hadE
  rw [if_neg (by rw [recE_of OR]; exact fun h => h rfl), if_neg (by rw [hard_iff.2 hm]; exact Bool.noConfusion), if_pos h]
theorem hist_hadV (h : hadE bars ss b ks m = 0) (hh : histE bars ss b ks hs = 0) (hl : inR (nthI hs ss.length) m = true) (hi : i ≤ ss.length) : inR (nthI hs i) (nthB (hadV bars ss b ks m) i) = true := by
  obtain ⟨OR, hm, hmt⟩ := of_hadE h
  obtain ⟨_, hlen, hB⟩ := histE_histB hh
  have hx : hs[(pick ss (nats ks)).length]? = some (nthI hs ss.length) := by
    rw [pick_len OR.ways]
    have hq : ss.length < hs.length := by omega
    simp [nthI, hq]
  obtain ⟨y, hy, d, hd, hin⟩ := hist_had (pick_ok OR.works.sok OR.ways) (OR.works.bok _ (nthB_mem OR.bhi)) hm.1 hB hx hl i (by rw [pick_len OR.ways]; exact hi)
  unfold hadV
  rw [if_pos h, nthI_of hy, nthB_of hd]
  exact hin
end
end Go.Proofs.Ytkibdciomheekaa

set_option linter.all false
namespace Go.Proofs.Ytkibdciomheekaa
open Go.RowKit Hp

def fineP (bars : List Rg) (ss : List Stp) : Prop := ¬ greatP bars ss ∧ worksE bars ss = 0
def FinePost (bars : List Rg) (ss : List Stp) (w : World) (e : Ending) (w' : World) : Prop := ∃ q, e = .returned (.bool q) ∧ (q = true ↔ fineP bars ss) ∧ Below w.heap.size w w'
theorem FinePost.no {bars : List Rg} {ss : List Stp} {w w' : World} (h : ¬ fineP bars ss) (hb : Below w.heap.size w w') : FinePost bars ss w (.returned (.bool false)) w' := ⟨false, rfl, ⟨fun q => Bool.noConfusion q, fun q => (h q).elim⟩, hb⟩
theorem FinePost.yes {bars : List Rg} {ss : List Stp} {w w' : World} (h : fineP bars ss) (hb : Below w.heap.size w w') : FinePost bars ss w (.returned (.bool true)) w' := ⟨true, rfl, ⟨fun _ => h, fun _ => rfl⟩, hb⟩

set_option maxHeartbeats 8000000 in
set_option maxRecDepth 100000 in
theorem fine_any (bars : List Rg) (ss : List Stp) (vb vs : Value) (w : World) (hB : RR w w.heap.size vb bars) (hS : RP w w.heap.size vs ss) :
    Calls Try.prog 43 #[.agg #[vb, vs]] w (FinePost bars ss w) := by
  obtain ⟨Ab, cb, rfl⟩ := hB.slice
  obtain ⟨As, cs, rfl⟩ := hS.slice
  obtain ⟨n0, hn0⟩ : ∃ n, w.heap.size = n := ⟨_, rfl⟩
  have hC : Below n0 w w := Below.refl _ _
  go_enter Try.func43, Try.ntmps43
  go_upto_region 1 with fail
  have hqbx : n0 ≤ n0 := by have := hC.size; omega
  have bx : BK (w.alloc (.cells #[.slice Ab bars.length cb, .slice As ss.length cs] 25)) (n0) #[.slice Ab bars.length cb, .slice As ss.length cs] 25 := BK.new' _ _ _ (n0) hn0
  have hsbx : (w.alloc (.cells #[.slice Ab bars.length cb, .slice As ss.length cs] 25)).heap.size = n0 + 1 := by simp [hn0]
  replace hC : Below n0 w (w.alloc (.cells #[.slice Ab bars.length cb, .slice As ss.length cs] 25)) := Below.alloc hC (by have := hC.size; omega) _
  replace hB := (RS.below hB (w' := (w.alloc (.cells #[.slice Ab bars.length cb, .slice As ss.length cs] 25))) (Below.alloc (Below.refl _ _) (Nat.le_refl _) _)).more (B' := (w.alloc (.cells #[.slice Ab bars.length cb, .slice As ss.length cs] 25)).heap.size) (by simp)
  replace hS := (RP.below hS (w' := (w.alloc (.cells #[.slice Ab bars.length cb, .slice As ss.length cs] 25))) (Below.alloc (Below.refl _ _) (Nat.le_refl _) _)).more (B' := (w.alloc (.cells #[.slice Ab bars.length cb, .slice As ss.length cs] 25)).heap.size) (by simp)
  generalize (w.alloc (.cells #[.slice Ab bars.length cb, .slice As ss.length cs] 25)) = Wbx at *
  have lbx := bx.lt
  have bxc0 := bx.cell 0
  have bxc1 := bx.cell 1
  simp at bxc0 bxc1
  go_wp2_with fail
  clear lbx bxc0 bxc1
  clear hsbx
  refine (great_any bars ss _ _ _ hB hS).mono ?_
  rintro e w1 ⟨q, rfl, hq, hb⟩
  replace hC : Below n0 w w1 := hC.trans (hb.mono (by have := hC.size; omega))
  replace hB := (RS.below hB hb).more hb.size
  replace hS := (RP.below hS hb).more hb.size
  replace bx := bx.below hb bx.lt
  clear hb
  cases q
  case true =>
    have HE := Lib.hid (show ¬ fineP bars ss from fun h => h.1 (hq.1 rfl))
    clear hq
    go_wp2_with fail
    go_ret
    exact FinePost.no HE.out (by (try rw [hn0]); exact hC)
  have HG := Lib.hid (show ¬ greatP bars ss from fun h => Bool.noConfusion (hq.2 h))
  clear hq
  have lbx := bx.lt
  have bxc0 := bx.cell 0
  have bxc1 := bx.cell 1
  simp at bxc0 bxc1
  go_wp2_with fail
  clear lbx bxc0 bxc1
  refine (checkWorksR_any bars ss _ _ _ (great_fit HG.out) hB hS).mono ?_
  rintro e w2 ⟨rfl, hb⟩
  replace hC : Below n0 w w2 := hC.trans (hb.mono (by have := hC.size; omega))
  replace hB := (RS.below hB hb).more hb.size
  replace hS := (RP.below hS hb).more hb.size
  replace bx := bx.below hb bx.lt
  clear hb
  obtain ⟨e, he⟩ : ∃ e, worksE bars ss = e := ⟨_, rfl⟩
  rw [he]
  by_cases e0 : e = 0
  case neg =>
    have HE := Lib.hid (show ¬ fineP bars ss from fun h => e0 (he.symm.trans h.2))
    have b1 : (e == 0) = false := beq_eq_false_iff_ne.2 e0
    clear he e0
    go_wp2_with fail
    go_ret
    exact FinePost.no HE.out (by (try rw [hn0]); exact hC)
  subst e0
  have HE := Lib.hid (show fineP bars ss from ⟨HG.out, he⟩)
  clear he
  go_wp2_with fail
  go_ret
  exact FinePost.yes HE.out (by (try rw [hn0]); exact hC)
end Go.Proofs.Ytkibdciomheekaa

set_option linter.all false
namespace Go.Proofs.Ytkibdciomheekaa
open Go.RowKit Hp

section
variable {bars : List Rg} {ss : List Stp} {b : Int} {ks hs : List Int} {k : Nat}
end
end Go.Proofs.Ytkibdciomheekaa

set_option linter.all false
namespace Go.Proofs.Ytkibdciomheekaa
open Go.RowKit Hp

section
variable {bars : List Rg} {ss : List Stp} {m x : Rg} {b : Int} {ks : List Int} {i : Nat}
theorem meas_ok (h : OkV bars ss) (hm : OkR m) : measE bars ss m = 0 := by
  unfold measE
  rw [worksE_of h, if_neg (by simp), if_pos (hard_iff.2 hm)]
theorem someV_none (h : OkV bars ss) (hm : OkR m) : someV bars m ss (-1) = [] ↔ makers bars ss m = [] := by
  rw [someV_bars h hm]
  constructor
  · intro q
    cases hq : makers bars ss m with
    | nil => rfl
    | cons r l =>
      have hr : r ∈ makers bars ss m := by rw [hq]; exact List.mem_cons_self ..
      have h3 : r.1 ∈ barsOf bars.length (makers bars ss m) := mem_barsOf.2 ⟨(mem_makers.1 hr).1, r, hr, rfl⟩
      have h4 := List.mem_map_of_mem (f := Int.ofNat) h3
      rw [q] at h4
      cases h4
  · intro q
    rw [q]
    simp [barsOf]
theorem barsE_two (h : OkV bars ss) (hm : OkR m) : barsE bars ss m = if makers bars ss m = [] then 17 else 0 := by
  unfold barsE
  rw [meas_ok h hm, if_neg (by simp)]
  by_cases q : makers bars ss m = []
  · rw [if_pos q, if_pos ((someV_none h hm).2 q)]
  · rw [if_neg q, if_neg (fun h2 => q ((someV_none h hm).1 h2))]
theorem wysL_few (h : OkV bars ss) : ∀ l ∈ wysL bars m ss ss.length, l.length ≤ 1000 := by
  intro l hl
  unfold wysL at hl
  obtain ⟨k, hk, rfl⟩ := List.mem_map.1 hl
  have := someV_len h m (i := k) (List.mem_range.1 hk)
  omega
theorem someV_few (h : OkV bars ss) (hm : OkR m) : (someV bars m ss (-1)).length ≤ 1000 := by
  rw [someV_bars h hm, List.length_map]
  have h1 : (barsOf bars.length (makers bars ss m)).length ≤ bars.length := by
    unfold barsOf
    have := List.length_filter_le (fun b => (makers bars ss m).any fun r => decide (r.1 = b)) (List.range bars.length)
    rw [List.length_range] at this
    exact this
  have := h.bfew
  omega
end
end Go.Proofs.Ytkibdciomheekaa

set_option linter.all false
namespace Go.Proofs.Ytkibdciomheekaa
open Go.RowKit Hp

def recI (r : Nat × List Nat) : List Int := Int.ofNat r.1 :: r.2.map Int.ofNat
def recL (nb : Nat) (ss : List Stp) : List (List Int) := (recs nb ss).map recI
theorem recL_nil (nb : Nat) : recL nb [] = (List.range nb).map fun (b : Nat) => [(b : Int)] := by
  unfold recL
  rw [recs_nil, List.map_map]
  rfl
/-- One step more: of the first m recipes each with each way; of the next one the first k ways. -/
def rcM (L : List (List Int)) (n m : Nat) : List (List Int) := (L.take m).flatMap fun r => (List.range n).map fun (k : Nat) => r ++ [(k : Int)]
def rcK (L : List (List Int)) (n m k : Nat) : List (List Int) := rcM L n m ++ (List.range k).map fun (k : Nat) => nthLi L m ++ [(k : Int)]
theorem rcM_zero (L : List (List Int)) (n : Nat) : rcM L n 0 = [] := by simp [rcM]
theorem rcK_zero (L : List (List Int)) (n m : Nat) : rcK L n m 0 = rcM L n m := by simp [rcK]
theorem rcK_succ (L : List (List Int)) (n m k : Nat) : rcK L n m (k + 1) = rcK L n m k ++ [nthLi L m ++ [(k : Int)]] := by
  unfold rcK
  rw [List.range_succ, List.map_append, List.append_assoc]
  rfl
theorem rcK_all {L : List (List Int)} {n m : Nat} (hm : m < L.length) : rcK L n m n = rcM L n (m + 1) := by
  unfold rcK rcM
  rw [List.take_succ, List.getElem?_eq_getElem hm, List.flatMap_append, nthLi_eq hm]
  simp
theorem recL_snoc (nb : Nat) (ss : List Stp) (s : Stp) : recL nb (ss ++ [s]) = rcM (recL nb ss) s.length (recL nb ss).length := by
  unfold recL rcM
  rw [recs_snoc, List.take_length, List.map_flatMap, List.flatMap_map]
  congr 1
  funext r
  rw [List.map_map]
  refine List.map_congr_left fun k _ => ?_
  simp [recI]
theorem take_nthS {ss : List Stp} {i : Nat} (hi : i < ss.length) : ss.take (i + 1) = ss.take i ++ [nthS ss i] := by
  rw [List.take_succ, List.getElem?_eq_getElem hi, nthS_eq hi]
  rfl
theorem recL_step {nb : Nat} {ss : List Stp} {i : Nat} (hi : i < ss.length) : rcM (recL nb (ss.take i)) (nthS ss i).length (recL nb (ss.take i)).length = recL nb (ss.take (i + 1)) := by
  rw [take_nthS hi, recL_snoc]
theorem flat_le {α β : Type} {F : α → List β} {c : Nat} (h : ∀ a, (F a).length ≤ c) : ∀ l : List α, (l.flatMap F).length ≤ l.length * c
  | [] => by simp
  | a :: l => by
    have h1 := flat_le h l
    have h2 := h a
    rw [List.flatMap_cons, List.length_append, List.length_cons, Nat.succ_mul]
    omega
theorem rcM_len (L : List (List Int)) (n m : Nat) : (rcM L n m).length ≤ L.length * n := by
  unfold rcM
  refine Nat.le_trans (flat_le (c := n) (fun r => by rw [List.length_map, List.length_range]; exact Nat.le_refl _) _) (Nat.mul_le_mul_right _ ?_)
  rw [List.length_take]
  omega
theorem rcK_len {L : List (List Int)} {n m k : Nat} (hk : k ≤ n) : (rcK L n m k).length ≤ L.length * n + 5 * 0 + n := by
  unfold rcK
  rw [List.length_append, List.length_map, List.length_range]
  have := rcM_len L n m
  omega
theorem recL_len {bars : List Rg} {ss : List Stp} (h : OkV bars ss) : ∀ i, i ≤ ss.length → (recL bars.length (ss.take i)).length ≤ 6 * 5 ^ i
  | 0, _ => by
    rw [List.take_zero, recL_nil, List.length_map, List.length_range]
    have := h.bfew
    omega
  | i + 1, hi => by
    have h1 := recL_len h i (by omega)
    have h2 := (h.wpos _ (nthS_mem (show i < ss.length by omega))).2
    rw [← recL_step (show i < ss.length by omega)]
    refine Nat.le_trans (rcM_len _ _ _) ?_
    rw [Nat.pow_succ, ← Nat.mul_assoc]
    exact Nat.mul_le_mul h1 h2
theorem recL_few {bars : List Rg} {ss : List Stp} (h : OkV bars ss) {i : Nat} (hi : i ≤ ss.length) : (recL bars.length (ss.take i)).length ≤ 93750 := by
  refine Nat.le_trans (recL_len h i hi) ?_
  have h1 := h.sfew
  have h2 : 5 ^ i ≤ 5 ^ 6 := Nat.pow_le_pow_right (by omega) (by omega)
  have h3 : 6 * 5 ^ i ≤ 6 * 5 ^ 6 := Nat.mul_le_mul_left _ h2
  refine Nat.le_trans h3 (by decide)
theorem rcK_few {bars : List Rg} {ss : List Stp} (h : OkV bars ss) {i m k : Nat} (hi : i < ss.length) (hk : k ≤ (nthS ss i).length) : (rcK (recL bars.length (ss.take i)) (nthS ss i).length m k).length ≤ 93755 := by
  have h1 := recL_len h i (by omega)
  have h2 := (h.wpos _ (nthS_mem hi)).2
  have h3 := rcK_len (L := recL bars.length (ss.take i)) (n := (nthS ss i).length) (m := m) hk
  have h4 : (recL bars.length (ss.take i)).length * (nthS ss i).length ≤ 6 * 5 ^ i * 5 := Nat.mul_le_mul h1 h2
  have h5 := h.sfew
  have h6 : 5 ^ i ≤ 5 ^ 5 := Nat.pow_le_pow_right (by omega) (by omega)
  have h7 : 6 * 5 ^ i * 5 ≤ 6 * 5 ^ 5 * 5 := Nat.mul_le_mul_right _ (Nat.mul_le_mul_left _ h6)
  have h8 : 6 * 5 ^ 5 * 5 = 93750 := by decide
  omega
section
variable {bars : List Rg} {ss : List Stp} {m : Rg}
theorem nats_of (l : List Nat) : nats (l.map Int.ofNat) = l := by
  induction l with
  | nil => rfl
  | cons a l ih =>
    unfold nats at ih ⊢
    rw [List.map_cons, List.map_cons, ih]
    rfl
theorem mem_recL {r : List Int} (h : r ∈ recL bars.length ss) : ∃ b ks, b < bars.length ∧ ks ∈ allR ss ∧ r = Int.ofNat b :: ks.map Int.ofNat := by
  unfold recL at h
  obtain ⟨⟨b, ks⟩, h1, rfl⟩ := List.mem_map.1 h
  unfold recs at h1
  rw [List.mem_flatMap] at h1
  obtain ⟨b', hb, h2⟩ := h1
  obtain ⟨ks', hk, he⟩ := List.mem_map.1 h2
  cases he
  exact ⟨b, ks, List.mem_range.1 hb, hk, rfl⟩
theorem recL_ok (h : OkV bars ss) {r : List Int} (hr : r ∈ recL bars.length ss) : OkRec bars ss (nthI r 0) r.tail := by
  obtain ⟨b, ks, hb, hk, rfl⟩ := mem_recL hr
  refine ⟨h, ?_, ?_, ?_, ?_⟩
  · show (0 : Int) ≤ Int.ofNat b
    exact Int.natCast_nonneg b
  · exact hb
  · show nats (ks.map Int.ofNat) ∈ allR ss
    rw [nats_of]; exact hk
  · intro k hk'
    obtain ⟨n, _, rfl⟩ := List.mem_map.1 (show k ∈ ks.map Int.ofNat from hk')
    exact Int.natCast_nonneg n
theorem recL_len1 (h : OkV bars ss) {r : List Int} (hr : r ∈ recL bars.length ss) : r.length = ss.length + 1 := by
  obtain ⟨b, ks, hb, hk, rfl⟩ := mem_recL hr
  have := allR_len hk
  simp [this]
/-- Whether a recipe can have made a blade. -/
def madI (bars : List Rg) (ss : List Stp) (m : Rg) (r : List Int) : Bool := meets (endR (nthB bars (nthI r 0).toNat) (pick ss (nats r.tail))) m
theorem madI_eq (r : Nat × List Nat) : madI bars ss m (recI r) = madeB bars ss m r := by
  unfold madI madeB recI
  show meets (endR (nthB bars r.1) (pick ss (nats (r.2.map Int.ofNat)))) m = _
  rw [nats_of]
theorem mkL_filter : mkL bars m ss = (recL bars.length ss).filter (madI bars ss m) := by
  unfold mkL makers recL
  rw [List.filter_map]
  have : (madI bars ss m ∘ recI) = madeB bars ss m := funext madI_eq
  rw [this]
  rfl
/-- The makers among the first k recipes. -/
def mkF (bars : List Rg) (ss : List Stp) (m : Rg) (k : Nat) : List (List Int) := ((recL bars.length ss).take k).filter (madI bars ss m)
theorem mkF_zero : mkF bars ss m 0 = [] := by simp [mkF]
theorem mkF_succ {k : Nat} (hk : k < (recL bars.length ss).length) : mkF bars ss m (k + 1) = if madI bars ss m (nthLi (recL bars.length ss) k) = true then mkF bars ss m k ++ [nthLi (recL bars.length ss) k] else mkF bars ss m k := by
  unfold mkF
  rw [List.take_succ, List.getElem?_eq_getElem hk, List.filter_append, nthLi_eq hk, Option.toList_some]
  split
  · rename_i h
    rw [List.filter_cons_of_pos (by simpa using h)]
    rfl
  · rename_i h
    rw [List.filter_cons_of_neg (by simpa using h)]
    simp
theorem mkF_all : mkF bars ss m (recL bars.length ss).length = mkL bars m ss := by
  rw [mkL_filter, mkF, List.take_length]
theorem mkF_len (k : Nat) : (mkF bars ss m k).length ≤ (recL bars.length ss).length := by
  unfold mkF
  refine Nat.le_trans (List.length_filter_le _ _) ?_
  rw [List.length_take]
  omega
end
end Go.Proofs.Ytkibdciomheekaa

set_option linter.all false
namespace Go.Proofs.Ytkibdciomheekaa
open Go.RowKit Hp

theorem rc_info : (Try.prog.info? 42).map (fun i => (i.zero, i.size, i.bytes)) = some (some (.agg #[.int .i64 0, .slice none 0 0]), 2, 32) := by kernel_rfl
theorem rc_slice : Try.prog.underlying 77 = some (.slice 42) := by kernel_rfl
def encP (p : Int × Value) : List Value := [.int .i64 p.1, p.2]
theorem encP_len (p : Int × Value) : (encP p).length = 2 := rfl
/-- The cells of the recipes: of each the bar, and the slice of its ways. -/
def RcE (W : World) (ps : List (Int × Value)) (L : List (List Int)) : Prop := ps.length = L.length ∧ ∀ (k : Nat) (r : List Int), L[k]? = some r → ∃ u, ps[k]? = some (nthI r 0, u) ∧ OwnI 3 W 0 u r.tail
theorem RcE.below {W W' : World} {ps : List (Int × Value)} {L : List (List Int)} (h : RcE W ps L) (hb : Below W.heap.size W W') : RcE W' ps L :=
  ⟨h.1, fun k r hr => by obtain ⟨u, h1, h2⟩ := h.2 k r hr; exact ⟨u, h1, OwnI.below h2 hb⟩⟩
theorem RcE.keep {W W' : World} {ps : List (Int × Value)} {L : List (List Int)} {t0 : Nat} (h : RcE W ps L) (hk : ∀ k cs t, BK W k cs t → t ≠ t0 → BK W' k cs t) (ht : 3 ≠ t0) : RcE W' ps L :=
  ⟨h.1, fun k r hr => by obtain ⟨u, h1, h2⟩ := h.2 k r hr; exact ⟨u, h1, own_keep h2 hk ht⟩⟩
theorem RcE.snoc {W : World} {ps : List (Int × Value)} {L : List (List Int)} (h : RcE W ps L) {r : List Int} {u : Value} (hu : OwnI 3 W 0 u r.tail) : RcE W (ps ++ [(nthI r 0, u)]) (L ++ [r]) := by
  refine ⟨by simp [h.1], fun k y hy => ?_⟩
  rcases Nat.lt_trichotomy k L.length with q | q | q
  · rw [List.getElem?_append_left q] at hy
    obtain ⟨u', q1, q2⟩ := h.2 k y hy
    exact ⟨u', by rw [List.getElem?_append_left (by rw [h.1]; exact q)]; exact q1, q2⟩
  · subst q
    simp at hy
    subst hy
    exact ⟨u, by rw [← h.1]; simp, hu⟩
  · rw [List.getElem?_eq_none (by simp; omega)] at hy
    cases hy
def RC (W : World) (v : Value) (L : List (List Int)) : Prop := ∃ ps, RcE W ps L ∧ RS W W.heap.size 2 v L.length (ofG encP ps)
def OwnRc (W : World) (base : Nat) (v : Value) (L : List (List Int)) : Prop := ∃ ps, RcE W ps L ∧ W.ownsRow base 42 2 v L.length (ofG encP ps)
theorem OwnRc.nil (W : World) (base : Nat) : OwnRc W base (.slice none 0 0) [] := ⟨[], ⟨rfl, fun k x hx => by simp at hx⟩, by simp [ofG], .inl ⟨rfl, rfl⟩⟩
theorem RC.below {W W' : World} {v : Value} {L : List (List Int)} (h : RC W v L) (hb : Below W.heap.size W W') : RC W' v L := by
  obtain ⟨ps, h1, h2⟩ := h
  exact ⟨ps, h1.below hb, (RS.below h2 hb).more hb.size⟩
theorem OwnRc.below {W W' : World} {base : Nat} {v : Value} {L : List (List Int)} (h : OwnRc W base v L) (hb : Below W.heap.size W W') : OwnRc W' base v L := by
  obtain ⟨ps, h1, h2⟩ := h
  exact ⟨ps, h1.below hb, own_below h2 hb⟩
theorem OwnRc.rc {W : World} {base : Nat} {v : Value} {L : List (List Int)} (h : OwnRc W base v L) : RC W v L := by
  obtain ⟨ps, h1, h2⟩ := h
  exact ⟨ps, h1, RS.of_own h2⟩
theorem OwnRc.slice {W : World} {base : Nat} {v : Value} {L : List (List Int)} (h : OwnRc W base v L) : ∃ A c, v = .slice A L.length c := by
  obtain ⟨ps, h1, h2⟩ := h
  exact own_slice h2
theorem RC.slice {W : World} {v : Value} {L : List (List Int)} (h : RC W v L) : ∃ A c, v = .slice A L.length c := by
  obtain ⟨ps, h1, A, cap, b, off, hv, _⟩ := h
  exact ⟨A, cap, hv⟩
theorem RC.cells {W : World} {v : Value} {L : List (List Int)} (h : RC W v L) : ∃ A cap b off, v = .slice A L.length cap ∧ (L.length ≠ 0 → A = some ⟨b, off, none⟩ ∧ b < W.heap.size) ∧
    ∀ k, k < L.length → ∃ u, W.cell? ⟨b, off + k * 2, none⟩ = some (.int .i64 (nthI (nthLi L k) 0)) ∧ W.cell? ⟨b, off + k * 2 + 1, none⟩ = some u ∧ OwnI 3 W 0 u (nthLi L k).tail := by
  obtain ⟨ps, h1, A, cap, b, off, hv, hl, hA, hc⟩ := h
  refine ⟨A, cap, b, off, hv, hA, fun k hk => ?_⟩
  obtain ⟨u, h2, h3⟩ := h1.2 k _ (List.getElem?_eq_getElem hk)
  rw [nthLi_eq hk]
  have h0 := fun j hj => ofG_at encP_len ps k j _ h2 hj
  have hlen := ofG_length encP_len ps
  have e0 := h0 0 (by omega); have e1 := h0 1 (by omega)
  rw [Nat.add_zero] at e0
  have hps := h1.1
  refine ⟨u, ?_, ?_, h3⟩
  · rw [hc (k * 2) (by omega), e0]; rfl
  · rw [Nat.add_assoc, hc (k * 2 + 1) (by omega), e1]; rfl
/-- A recipe is appended, in the block made last; in a block that is known. -/
theorem app_rc {base : Nat} {w0 w1 : World} {L : List (List Int)} {v u : Value} {r : List Int} (hown : OwnRc w1 base v L) (hu : OwnI 3 w1 0 u r.tail) (hn : L.length ≤ 100000) (hbase : base ≤ w1.heap.size) (hbw : Below base w0 w1) (B : Nat) (hB : w1.heap.size = B) :
    ∃ v' w2, (Builtin.append_ #[77, 77] 77 #[v, .slice (some ⟨B, 0, none⟩) 1 1]).run Try.prog (w1.alloc (.cells #[.int .i64 (nthI r 0), u] 42)) = .ok v' w2 ∧
      OwnRc w2 base v' (L ++ [r]) ∧ Below base w0 w2 ∧ w1.heap.size ≤ w2.heap.size := by
  obtain ⟨ps, e1, e2⟩ := hown
  have ho : u.oneCell' = true := by
    obtain ⟨A, c, rfl⟩ := own_slice hu
    rfl
  obtain ⟨g', cap', w2, h1, h2, h3, h4, h5⟩ := app_t rc_info rc_slice rfl (by decide) (by decide) e2 (news := encP (nthI r 0, u)) rfl (by intro x hx; simp [encP] at hx; rcases hx with rfl | rfl; rfl; exact ho) hn hbase hbw 77 42 B hB
  rw [ofG_app] at h2
  refine ⟨_, w2, h1, ⟨_, (e1.keep h5 (by decide)).snoc (own_keep hu h5 (by decide)), ?_⟩, h3, h4⟩
  rw [List.length_append]
  exact h2
theorem app_b_rc {base g tn : Nat} {W : World} {L : List (List Int)} {v u : Value} {r : List Int} {b : Int} (hown : OwnRc W base v L) (hb0 : nthI r 0 = b) (hu : OwnI 3 W 0 u r.tail) (hg : BK W g #[.int .i64 b, u] tn) (hn : L.length ≤ 100000) (hbase : base ≤ W.heap.size) :
    ∃ v' w2, (Builtin.append_ #[77, 77] 77 #[v, .slice (some ⟨g, 0, none⟩) 1 1]).run Try.prog W = .ok v' w2 ∧
      OwnRc w2 base v' (L ++ [r]) ∧ (∀ w0, Below base w0 W → Below base w0 w2) ∧ W.heap.size ≤ w2.heap.size := by
  subst hb0
  obtain ⟨ps, e1, e2⟩ := hown
  have ho : u.oneCell' = true := by
    obtain ⟨A, c, rfl⟩ := own_slice hu
    rfl
  obtain ⟨v', w2, h1, h2, h3, h4, h5⟩ := app_b rc_info rc_slice rfl (by decide) (by decide) e2 (news := encP (nthI r 0, u)) hg rfl (by intro x hx; simp [encP] at hx; rcases hx with rfl | rfl; rfl; exact ho) hn hbase 77
  rw [ofG_app] at h2
  refine ⟨_, w2, h1, ⟨_, (e1.keep h5 (by decide)).snoc (own_keep hu h5 (by decide)), ?_⟩, h3, h4⟩
  rw [List.length_append]
  exact h2
/-- Numbers that came in are appended to an empty list in a block; other blocks stay. -/
theorem app_src_i {base B m g : Nat} {W : World} {l : List Int} {src : Value} (hg : BK W g #[] 3) (hbg : base ≤ g) (hs : RI W B src l) (hl : l.length = m) (hm : m ≤ 100000) (hbase : base ≤ W.heap.size) :
    ∃ A c w2, (Builtin.append_ #[40, 40] 40 #[.slice (some ⟨g, 0, none⟩) 0 0, src]).run Try.prog W = .ok (.slice A m c) w2 ∧ OwnI 3 w2 base (.slice A m c) l ∧ (∀ w0, Below base w0 W → Below base w0 w2) ∧ W.heap.size ≤ w2.heap.size ∧ (∀ k cs t, BK W k cs t → 0 < cs.size → BK w2 k cs t) := by
  subst hl
  obtain ⟨v', w2, h1, h2, h3⟩ := app_src int_info int_slice rfl (by decide) (by decide) hg hbg hs (by
    intro u hu
    obtain ⟨x, _, rfl⟩ := List.mem_map.1 hu
    rfl) hm hbase 40
  obtain ⟨A, c, rfl⟩ := own_slice h2
  exact ⟨A, c, w2, h1, h2, h3⟩
end Go.Proofs.Ytkibdciomheekaa

set_option linter.all false
namespace Go.Proofs.Ytkibdciomheekaa
open Go.RowKit

/-- The slots of M turned. -/
def setAll (M : List Nat) (u : Nat → Value) (t : Array Value) : Array Value := M.foldl (fun t i => t.setIfInBounds i (u i)) t
theorem region_keep {P : Program} {Q : Exit → Act → World → Prop} {a : Act} {w : World} {id : Nat} {os : Array Oper} (M : List Nat) (J : (Nat → Value) → World → Prop)
    (h1 : (Code.region id os true).wp P (fun e a' w' => e = .normal ∧ a'.tmps = setAll M (fun j => a'.tmps.getD j undef) a.tmps ∧ a'.defers = a.defers ∧ J (fun j => a'.tmps.getD j undef) w') a w)
    (h2 : ∀ u V, J u V → Q .normal { tmps := setAll M u a.tmps, defers := a.defers } V) : (Code.region id os true).wp P Q a w :=
  Code.wp_mono (fun e a' w' h => by
    obtain ⟨e1, e2, e3, e4⟩ := h
    subst e1
    have h5 := h2 _ _ e4
    rw [← e2, ← e3] at h5
    exact h5) h1
end Go.Proofs.Ytkibdciomheekaa

set_option linter.all false
namespace Go.Proofs.Ytkibdciomheekaa
open Go.RowKit Hp

set_option maxHeartbeats 8000000 in
set_option maxRecDepth 100000 in
theorem recipes_any (bars : List Rg) (ss : List Stp) (vb vs : Value) (w : World) (hV : OkV bars ss) (hB : RR w w.heap.size vb bars) (hS : RP w w.heap.size vs ss) :
    Calls Try.prog 50 #[.agg #[vb, vs]] w fun e w' => ∃ v, e = .returned v ∧ RC w' v (recL bars.length ss) ∧ Below w.heap.size w w' := by
  have HV := Lib.hid hV
  clear hV
  obtain ⟨Ab, cb, rfl⟩ := hB.slice
  obtain ⟨As, cs, rfl⟩ := hS.slice
  obtain ⟨n0, hn0⟩ : ∃ n, w.heap.size = n := ⟨_, rfl⟩
  have hC : Below n0 w w := Below.refl _ _
  go_enter Try.func50, Try.ntmps50
  go_upto_region 1 with fail
  have hqbx : n0 ≤ n0 := by have := hC.size; omega
  have bx : BK (w.alloc (.cells #[.slice Ab bars.length cb, .slice As ss.length cs] 25)) (n0) #[.slice Ab bars.length cb, .slice As ss.length cs] 25 := BK.new' _ _ _ (n0) hn0
  have hsbx : (w.alloc (.cells #[.slice Ab bars.length cb, .slice As ss.length cs] 25)).heap.size = n0 + 1 := by simp [hn0]
  replace hC : Below n0 w (w.alloc (.cells #[.slice Ab bars.length cb, .slice As ss.length cs] 25)) := Below.alloc hC (by have := hC.size; omega) _
  replace hB := (RS.below hB (w' := (w.alloc (.cells #[.slice Ab bars.length cb, .slice As ss.length cs] 25))) (Below.alloc (Below.refl _ _) (Nat.le_refl _) _)).more (B' := (w.alloc (.cells #[.slice Ab bars.length cb, .slice As ss.length cs] 25)).heap.size) (by simp)
  replace hS := (RP.below hS (w' := (w.alloc (.cells #[.slice Ab bars.length cb, .slice As ss.length cs] 25))) (Below.alloc (Below.refl _ _) (Nat.le_refl _) _)).more (B' := (w.alloc (.cells #[.slice Ab bars.length cb, .slice As ss.length cs] 25)).heap.size) (by simp)
  generalize (w.alloc (.cells #[.slice Ab bars.length cb, .slice As ss.length cs] 25)) = Wbx at *
  clear hsbx
  obtain ⟨h0, hh0⟩ : ∃ h, Wbx.heap.size = h := ⟨_, rfl⟩
  have HH := Lib.hid hh0
  have hnb : n0 < h0 := by have := bx.lt; omega
  have HN1 := Lib.hid (show n0 ≤ h0 by omega)
  have HC := Lib.hid hC
  have HBX := Lib.hid bx
  have hb6 := HV.out.bfew
  have hs6 := HV.out.sfew
  obtain ⟨A', cap', bs, os, hve, hA, hc⟩ := RP.cells hS
  injection hve with q1 q2 q3
  have hbs : ss.length ≠ 0 → As = some ⟨bs, os, none⟩ ∧ bs < h0 := fun h => by
    rw [q1]; have := hA h; rw [hh0] at this; exact this
  have HBS := Lib.hid hbs
  have HSS : Hid (∀ k, k < ss.length → ∃ A c, Wbx.cell? ⟨bs, os + k, none⟩ = some (.slice A (nthS ss k).length c)) := Lib.hid (fun k hk => by
    obtain ⟨u, e1, e2⟩ := hc k hk
    obtain ⟨A, c, rfl⟩ := e2.slice
    exact ⟨A, c, e1⟩)
  clear hC hB hS bx hh0 hA hc hbs q1 q2 q3 cap' A'
  go_wp2_with fail
  go_loopw [3, 4] (fun acc v wr => ∃ k : Nat, k ≤ bars.length ∧ v = .int .i64 (k : Int) ∧ OwnRc wr h0 acc ((List.range k).map fun (b : Nat) => [(b : Int)]) ∧ Below h0 Wbx wr) (fun _ v _ => bars.length - (intOf v).toNat)
  case atStart => exact ⟨0, Nat.zero_le _, rfl, OwnRc.nil _ _, Below.refl _ _⟩
  case round =>
    obtain ⟨k, hk, rfl, hown, hb⟩ := hrel
    have hwz : h0 ≤ wr.heap.size := by have := hb.size; have := HH.out; omega
    have bx := HBX.out.below hb (by exact hnb)
    have lbx := bx.lt
    have bxc0 := bx.cell 0
    have bxc1 := bx.cell 1
    simp at bxc0 bxc1
    by_cases hlt : k < bars.length
    case pos =>
      have hlt' : (k : Int) < (bars.length : Int) := by omega
      obtain ⟨B5, hB5⟩ : ∃ B, wr.heap.size = B := ⟨_, rfl⟩
      obtain ⟨v', w8, hrun, hown', hb', hs'⟩ := app_rc (r := [(k : Int)]) (u := .slice none 0 0) hown (OwnI.nil _ _ _) (by rw [List.length_map, List.length_range]; omega) hwz hb B5 hB5
      rw [show nthI [(k : Int)] 0 = (k : Int) from rfl] at hrun
      have hown2 : OwnRc w8 h0 v' ((List.range (k + 1)).map fun (b : Nat) => [(b : Int)]) := by rw [List.range_succ, List.map_append]; exact hown'
      have HO := Lib.hid hown2
      have HB8 := Lib.hid hb'
      have HRUN := Lib.hid hrun
      clear hrun hown' hown2 hb' hs' hown hb bx
      go_wp2_with (at_builtin; refine wpList_append_run rfl (.tmp 16) (.tmp 19) 77 _ rfl HRUN.out ?_)
      go_roundw
      case rel => exact ⟨k + 1, by omega, by go_num, HO.out, HB8.out⟩
      case measure => simp [intOf]; omega
    have hlt' : ¬ (k : Int) < (bars.length : Int) := by omega
    obtain rfl : k = bars.length := by omega
    have HR0 : Hid (RC wr _ (recL bars.length (ss.take 0))) := Lib.hid (by rw [List.take_zero, recL_nil]; exact hown.rc)
    have HB0 := Lib.hid hb
    clear hown hb bx
    go_wp2_with fail
    clear lbx bxc0 bxc1 hlt hlt'
    go_loopw [3, 5] (fun acc v wi => ∃ i : Nat, i ≤ ss.length ∧ v = .int .i64 (i : Int) ∧ RC wi acc (recL bars.length (ss.take i)) ∧ Below h0 Wbx wi) (fun _ v _ => ss.length - (intOf v).toNat)
    case atStart => exact ⟨0, Nat.zero_le _, rfl, HR0.out, HB0.out⟩
    case round =>
      clear HR0 HB0 hwz
      rename World => wi
      obtain ⟨i, hi, rfl, hrc, hb⟩ := hrel
      have hwz : h0 ≤ wi.heap.size := by have := hb.size; have := HH.out; omega
      obtain ⟨A3, c3, rfl⟩ := hrc.slice
      have bx := HBX.out.below hb (by exact hnb)
      have lbx := bx.lt
      have bxc0 := bx.cell 0
      have bxc1 := bx.cell 1
      simp at bxc0 bxc1
      have HRC := Lib.hid hrc
      have HB := Lib.hid hb
      by_cases hlt : i < ss.length
      case neg =>
        have hlt' : ¬ (i : Int) < (ss.length : Int) := by omega
        obtain rfl : i = ss.length := by omega
        have HR : Hid (RC wi (.slice A3 (recL bars.length (ss.take ss.length)).length c3) (recL bars.length ss)) := Lib.hid (by have h := HRC.out; rw [List.take_length] at h ⊢; exact h)
        clear hrc hb bx HRC
        go_wp2_with fail
        exact bodyPost_ret (by simp [results, Try.results50, go_sem]) rfl ⟨_, rfl, HR.out, by (try rw [hn0]); exact HC.out.trans (HB.out.mono HN1.out)⟩
      have hlt' : (i : Int) < (ss.length : Int) := by omega
      have hst := recL_step (nb := bars.length) hlt
      have hfw := fun m k => rcK_few (m := m) (k := k) HV.out hlt
      have hlf := recL_few HV.out hi
      have hln := fun r hr => recL_len1 (bars := bars) (okV_take HV.out i) (r := r) hr
      obtain ⟨L, hL⟩ : ∃ L, recL bars.length (ss.take i) = L := ⟨_, rfl⟩
      rw [hL] at hst hfw hrc HRC hlf hln ⊢
      obtain ⟨Au, cu, hcu⟩ := HSS.out i hlt
      obtain ⟨n, hn⟩ : ∃ n, (nthS ss i).length = n := ⟨_, rfl⟩
      rw [hn] at hst hfw hcu
      have hn5 : n ≤ 5 := by rw [← hn]; exact (HV.out.wpos _ (nthS_mem hlt)).2
      obtain ⟨rfl, hbs⟩ := HBS.out (by omega)
      have HCU := Lib.hid hcu
      have HST := Lib.hid hst
      have HFW := Lib.hid hfw
      have HLN := Lib.hid hln
      obtain ⟨h1, hh1⟩ : ∃ h, wi.heap.size = h := ⟨_, rfl⟩
      have HH1 := Lib.hid hh1
      have h01 : h0 ≤ h1 := by omega
      clear hrc hb bx hcu hst hfw hln hL hn hh1 hwz
      go_wp2_with fail
      clear lbx bxc0 bxc1
      go_loopw [6, 7] (fun acc v w2 => ∃ m : Nat, m ≤ L.length ∧ v = .int .i64 (m : Int) ∧ OwnRc w2 h1 acc (rcM L n m) ∧ Below h1 wi w2) (fun _ v _ => L.length - (intOf v).toNat)
      case atStart => exact ⟨0, Nat.zero_le _, rfl, by rw [rcM_zero]; exact OwnRc.nil _ _, Below.refl _ _⟩
      case round =>
        rename World => w2
        obtain ⟨m, hm, rfl, hown, hb⟩ := hrel
        by_cases hlm : m < L.length
        case neg =>
          have hlm' : ¬ (m : Int) < (L.length : Int) := by omega
          obtain rfl : m = L.length := by omega
          have HR : Hid (RC w2 _ (recL bars.length (ss.take (i + 1)))) := Lib.hid (by have h := hown.rc; rw [HST.out] at h; exact h)
          have HB2 := Lib.hid hb
          clear hown hb
          go_wp2_with fail
          go_roundw
          case rel => exact ⟨i + 1, by omega, by go_num, HR.out, HB.out.trans (HB2.out.mono h01)⟩
          case measure => simp [intOf]; omega
        have hlm' : (m : Int) < (L.length : Int) := by omega
        have HOM := Lib.hid (show OwnRc w2 h1 _ (rcK L n m 0) by rw [rcK_zero]; exact hown)
        have HBM := Lib.hid hb
        clear hown hb
        go_wp2_with fail
        go_loopw [6, 8] (fun acc v w3 => ∃ k : Nat, k ≤ n ∧ v = .int .i64 (k : Int) ∧ OwnRc w3 h1 acc (rcK L n m k) ∧ Below h1 wi w3) (fun _ v _ => n - (intOf v).toNat)
        case atStart => exact ⟨0, Nat.zero_le _, rfl, HOM.out, HBM.out⟩
        case round =>
          clear HOM HBM
          rename World => w3
          obtain ⟨k, hk, rfl, hown, hb⟩ := hrel
          have hwz : h1 ≤ w3.heap.size := by have := hb.size; have := HH1.out; omega
          have hb0 : Below h0 Wbx w3 := HB.out.trans (hb.mono h01)
          have bx := HBX.out.below hb0 (by exact hnb)
          have lbx := bx.lt
          have bxc0 := bx.cell 0
          have bxc1 := bx.cell 1
          simp at bxc0 bxc1
          have hcu := HCU.out
          rw [← hb0.cell (by exact hbs)] at hcu
          have hbs3 : bs < w3.heap.size := by omega
          have HBK := Lib.hid hb
          have HOK := Lib.hid hown
          clear bx hb0 hb
          by_cases hlk : k < n
          case neg =>
            have hlk' : ¬ (k : Int) < (n : Int) := by omega
            obtain rfl : k = n := by omega
            have HO : Hid (OwnRc w3 h1 _ (rcM L k (m + 1))) := Lib.hid (by rw [← rcK_all hlm]; exact hown)
            clear hown HOK
            go_wp2_with fail
            go_roundw
            case rel => exact ⟨m + 1, by omega, by go_num, HO.out, HBK.out⟩
            case measure => simp [intOf]; omega
          have hlk' : (k : Int) < (n : Int) := by omega
          obtain ⟨A6, c6, rfl⟩ := hown.slice
          clear hown
          go_upto_region 16 with fail
          clear lbx bxc0 bxc1 hcu hbs3
          have hrc3 := HRC.out.below (by rw [HH1.out]; exact HBK.out)
          obtain ⟨A', cap', bl, ol, hve, hA, hc⟩ := RC.cells hrc3
          obtain ⟨rfl, hbl⟩ := hA (by omega)
          injection hve with q1 q2 q3
          subst q1 q3
          obtain ⟨u, e0, e1, hu⟩ := hc m hlm
          obtain ⟨Aw, cw, rfl⟩ := own_slice hu
          have hl1 := HLN.out _ (mem_nthLi hlm)
          have hks := rcK_succ L n m k
          have hkl := HFW.out m k hk
          obtain ⟨r, hr⟩ : ∃ r, nthLi L m = r := ⟨_, rfl⟩
          rw [hr] at e0 e1 hu hl1 hks
          obtain ⟨bb, t, rfl⟩ : ∃ bb t, r = bb :: t := by
            cases r with
            | nil => simp at hl1
            | cons b t => exact ⟨b, t, rfl⟩
          have e0b : w3.cell? ⟨bl, ol + m * 2, none⟩ = some (.int .i64 bb) := e0
          have hut : OwnI 3 w3 0 (.slice Aw t.length cw) t := hu
          have e1b : w3.cell? ⟨bl, ol + m * 2 + 1, none⟩ = some (.slice Aw t.length cw) := e1
          have htl : t.length ≤ 1000 := by
            rw [List.length_cons, List.length_take] at hl1; omega
          have HUT := Lib.hid hut
          have HKS := Lib.hid hks
          obtain ⟨N, hN⟩ : ∃ N, rcK L n m k = N := ⟨_, rfl⟩
          rw [hN] at HOK hkl HKS
          rw [hN]
          obtain ⟨nn, hnn⟩ : ∃ x, N.length = x := ⟨_, rfl⟩
          have HNN := Lib.hid hnn
          rw [hnn] at HOK
          rw [hnn]
          obtain ⟨tl, htl2⟩ : ∃ x, t.length = x := ⟨_, rfl⟩
          have HTL := Lib.hid htl2
          rw [htl2] at e1b HUT htl
          rw [hnn] at hkl
          clear hA hc q2 hrc3 e0 e1 hu hut hl1 hks hr hN hnn htl2
          refine region_keep [6, 45, 46, 47, 48, 49, 50, 51, 52, 53, 54, 55, 56, 57, 58, 59, 60, 61, 62, 63] (fun u V => ∃ A c, u 6 = .slice A (nn + 1) c ∧ OwnRc V h1 (.slice A (nn + 1) c) (N ++ [bb :: (t ++ [(k : Int)])]) ∧ Below h1 wi V) ?_ ?_
          ·skip
           have d0y : Below w3.heap.size w3 w3.drew := by exact bel_of
           refine wp_region_noPanic (plain_any [0, 1, 2, 3, 4, 5, 7, 8, 9, 10, 11, 13, 16] (Below w3.heap.size w3) mixed ?_)
           (refine any_take 0 ?_ (by rfl) (by kernel_rfl) (fun _ _ _ _ _ hx => hx.elim) (.inl ⟨by rfl, ?_⟩) (by with_reducible assumption) ?_; rotate_left; (intro X hX; obtain ⟨r1, r2⟩ := Below.rules hX; clear hX; go_simp; rfl); simp only [List.getElem_toArray, List.getElem_cons_succ, List.getElem_cons_zero, Act.put, List.setIfInBounds_toArray, List.set_cons_succ, List.set_cons_zero])
           (refine any_take 1 ?_ (by rfl) (by kernel_rfl) (fun _ _ _ _ _ hx => hx.elim) (.inl ⟨by rfl, ?_⟩) (by with_reducible assumption) ?_; rotate_left; (intro X hX; obtain ⟨r1, r2⟩ := Below.rules hX; clear hX; go_simp; rfl); simp only [List.getElem_toArray, List.getElem_cons_succ, List.getElem_cons_zero, Act.put, List.setIfInBounds_toArray, List.set_cons_succ, List.set_cons_zero])
           (refine any_take 2 ?_ (by rfl) (by kernel_rfl) (fun _ _ _ _ _ hx => hx.elim) (.inl ⟨by rfl, ?_⟩) (by with_reducible assumption) ?_; rotate_left; (intro X hX; obtain ⟨r1, r2⟩ := Below.rules hX; clear hX; go_simp; rfl); simp only [List.getElem_toArray, List.getElem_cons_succ, List.getElem_cons_zero, Act.put, List.setIfInBounds_toArray, List.set_cons_succ, List.set_cons_zero])
           (refine any_take 3 ?_ (by rfl) (by kernel_rfl) (fun _ _ _ _ _ hx => hx.elim) (.inl ⟨by rfl, ?_⟩) (by with_reducible assumption) ?_; rotate_left; (intro X hX; obtain ⟨r1, r2⟩ := Below.rules hX; clear hX; go_simp; rfl); simp only [List.getElem_toArray, List.getElem_cons_succ, List.getElem_cons_zero, Act.put, List.setIfInBounds_toArray, List.set_cons_succ, List.set_cons_zero])
           (refine any_take 4 ?_ (by rfl) (by kernel_rfl) (fun _ _ _ _ _ hx => hx.elim) (.inl ⟨by rfl, ?_⟩) (by with_reducible assumption) ?_; rotate_left; (intro X hX; obtain ⟨r1, r2⟩ := Below.rules hX; clear hX; go_simp; rfl); simp only [List.getElem_toArray, List.getElem_cons_succ, List.getElem_cons_zero, Act.put, List.setIfInBounds_toArray, List.set_cons_succ, List.set_cons_zero])
           (refine any_take 5 ?_ (by rfl) (by kernel_rfl) (fun _ _ _ _ _ hx => hx.elim) (.inl ⟨by rfl, ?_⟩) (by with_reducible assumption) ?_; rotate_left; (intro X hX; obtain ⟨r1, r2⟩ := Below.rules hX; clear hX; go_simp; rfl); simp only [List.getElem_toArray, List.getElem_cons_succ, List.getElem_cons_zero, Act.put, List.setIfInBounds_toArray, List.set_cons_succ, List.set_cons_zero])
           (refine any_take 7 ?_ (by rfl) (by kernel_rfl) (fun _ _ _ _ _ hx => hx.elim) (.inl ⟨by rfl, ?_⟩) (by with_reducible assumption) ?_; rotate_left; (intro X hX; obtain ⟨r1, r2⟩ := Below.rules hX; clear hX; go_simp; rfl); simp only [List.getElem_toArray, List.getElem_cons_succ, List.getElem_cons_zero, Act.put, List.setIfInBounds_toArray, List.set_cons_succ, List.set_cons_zero])
           (refine any_take 8 ?_ (by rfl) (by kernel_rfl) (fun _ _ _ _ _ hx => hx.elim) (.inl ⟨by rfl, ?_⟩) (by with_reducible assumption) ?_; rotate_left; (intro X hX; obtain ⟨r1, r2⟩ := Below.rules hX; clear hX; go_simp; rfl); simp only [List.getElem_toArray, List.getElem_cons_succ, List.getElem_cons_zero, Act.put, List.setIfInBounds_toArray, List.set_cons_succ, List.set_cons_zero])
           (refine any_take 9 ?_ (by rfl) (by kernel_rfl) (fun _ _ _ _ _ hx => hx.elim) (.inl ⟨by rfl, ?_⟩) (by with_reducible assumption) ?_; rotate_left; (intro X hX; obtain ⟨r1, r2⟩ := Below.rules hX; clear hX; go_simp; rfl); simp only [List.getElem_toArray, List.getElem_cons_succ, List.getElem_cons_zero, Act.put, List.setIfInBounds_toArray, List.set_cons_succ, List.set_cons_zero])
           (refine any_take 10 ?_ (by rfl) (by kernel_rfl) (fun _ _ _ _ _ hx => hx.elim) (.inl ⟨by rfl, ?_⟩) (by with_reducible assumption) ?_; rotate_left; (intro X hX; obtain ⟨r1, r2⟩ := Below.rules hX; clear hX; go_simp; rfl); simp only [List.getElem_toArray, List.getElem_cons_succ, List.getElem_cons_zero, Act.put, List.setIfInBounds_toArray, List.set_cons_succ, List.set_cons_zero])
           (refine any_take 11 ?_ (by rfl) (by kernel_rfl) (fun _ _ _ _ _ hx => hx.elim) (.inl ⟨by rfl, ?_⟩) (by with_reducible assumption) ?_; rotate_left; (intro X hX; obtain ⟨r1, r2⟩ := Below.rules hX; clear hX; go_simp; rfl); simp only [List.getElem_toArray, List.getElem_cons_succ, List.getElem_cons_zero, Act.put, List.setIfInBounds_toArray, List.set_cons_succ, List.set_cons_zero])
           (refine any_take 13 ?_ (by rfl) (by kernel_rfl) (fun _ _ _ _ _ hx => hx.elim) (.inl ⟨by rfl, ?_⟩) (by with_reducible assumption) ?_; rotate_left; (intro X hX; obtain ⟨r1, r2⟩ := Below.rules hX; clear hX; go_simp; rfl); simp only [List.getElem_toArray, List.getElem_cons_succ, List.getElem_cons_zero, Act.put, List.setIfInBounds_toArray, List.set_cons_succ, List.set_cons_zero])
           have dy1 : Below w3.heap.size w3 w3.drew := by exact bel_of
           have hdr : Below w3.heap.size w3 w3.drew := Below.drew (Below.refl _ _)
           clear hdr
           generalize w3.drew = uy2 at *
           refine any_run2 (i := 6) (j := 14) (by kernel_rfl) (by rfl) (by rfl) (by rfl) (by rfl) ?_ ?_
           ·skip
            intro K hK
            have qy4 := dy1.size
            have ey3 : Below w3.heap.size w3 (uy2.alloc (.cells #[] 3)) := Below.alloc dy1 dy1.size _
            have hnx : Below uy2.heap.size uy2 (uy2.alloc (.cells #[] 3)) := Below.alloc (Below.refl _ _) (Nat.le_refl _) _
            go_wp2_with fail
            have k6 : BK (uy2.alloc (.cells #[] 3)) uy2.heap.size #[] 3 := BK.new _ _ _
            refine hK _ _ (fun _ => ey3) ?_
            clear hK K hnx
            generalize (uy2.alloc (.cells #[] 3)) = vy5 at *
            obtain ⟨gk6, hgk6⟩ : ∃ g, uy2.heap.size = g := ⟨_, rfl⟩
            have hqk6 : w3.heap.size ≤ gk6 := by omega
            rw [hgk6] at k6
            try rw [hgk6]
            clear hgk6
            refine any_run2 (i := 12) (j := 14) (by kernel_rfl) (by rfl) (by rfl) (by rfl) (by rfl) ?_ ?_
            ·skip
             intro K hK
             have qy8 := ey3.size
             obtain ⟨A1, c1, vy7, hrun, o1, hbel, hsz, hkeep⟩ := app_src_i (base := w3.heap.size) k6 hqk6 (RS.more (RS.below (OwnI.ri HUT.out) ey3) ey3.size) HTL.out (by omega) (by omega)
             have ey6 : Below w3.heap.size w3 vy7 := hbel _ ey3
             have HRUN := Lib.hid hrun
             clear hrun hbel hsz hkeep k6
             refine wp_append_run (.tmp 51) (.tmp 56) 40 _ rfl HRUN.out ?_
             refine hK _ _ (fun _ => ey6) ?_
             clear hK K HRUN
             simp only [List.getElem_toArray, List.getElem_cons_succ, List.getElem_cons_zero, Act.put, List.setIfInBounds_toArray, List.set_cons_succ, List.set_cons_zero]
             refine any_run1 (i := 14) (by kernel_rfl) (by rfl) (by kernel_rfl) ?_
             intro K hK
             have qy10 := ey6.size
             have ey9 : Below w3.heap.size w3 (vy7.alloc (.cells #[.int .i64 (k : Int)] 3)) := Below.alloc ey6 ey6.size _
             have hnx : Below vy7.heap.size vy7 (vy7.alloc (.cells #[.int .i64 (k : Int)] 3)) := Below.alloc (Below.refl _ _) (Nat.le_refl _) _
             go_wp2_with fail
             replace o1 := OwnI.below o1 hnx
             have k14 : BK (vy7.alloc (.cells #[.int .i64 (k : Int)] 3)) vy7.heap.size #[.int .i64 (k : Int)] 3 := BK.new _ _ _
             refine hK _ _ (fun _ => ey9) ?_
             clear hK K hnx
             generalize (vy7.alloc (.cells #[.int .i64 (k : Int)] 3)) = vy11 at *
             obtain ⟨gk14, hgk14⟩ : ∃ g, vy7.heap.size = g := ⟨_, rfl⟩
             have hqk14 : w3.heap.size ≤ gk14 := by omega
             rw [hgk14] at k14
             try rw [hgk14]
             clear hgk14
             refine any_run1 (i := 15) (by kernel_rfl) (by rfl) (by kernel_rfl) ?_
             intro K hK
             have qy14 := ey9.size
             obtain ⟨v15, vy13, hrun, o2, hbel, hsz, hkeep⟩ := app_b_i int_info int_slice o1 k14 (by have := HTL.out; omega) (by omega)
             obtain ⟨A2, c2, rfl⟩ := own_slice o2
             obtain ⟨n2, hn2⟩ : ∃ x, (t ++ [(k : Int)]).length = x := ⟨_, rfl⟩
             rw [hn2] at o2 hrun
             clear hn2
             have ey12 : Below w3.heap.size w3 vy13 := hbel _ ey9
             clear o1 k14
             have HRUN := Lib.hid hrun
             clear hrun hbel hsz hkeep
             refine wp_append_run (.tmp 57) (.tmp 59) 40 _ rfl HRUN.out ?_
             refine hK _ _ (fun _ => ey12) ?_
             clear hK K HRUN
             simp only [List.getElem_toArray, List.getElem_cons_succ, List.getElem_cons_zero, Act.put, List.setIfInBounds_toArray, List.set_cons_succ, List.set_cons_zero]
             (refine any_take 16 ?_ (by rfl) (by kernel_rfl) (fun _ _ _ _ _ hx => hx.elim) (.inl ⟨by rfl, ?_⟩) (by with_reducible assumption) ?_; rotate_left; (intro X hX; obtain ⟨r1, r2⟩ := Below.rules hX; clear hX; go_simp; rfl); simp only [List.getElem_toArray, List.getElem_cons_succ, List.getElem_cons_zero, Act.put, List.setIfInBounds_toArray, List.set_cons_succ, List.set_cons_zero])
             refine any_run1 (i := 17) (by kernel_rfl) (by rfl) (by kernel_rfl) ?_
             intro K hK
             have qy16 := ey12.size
             have ey15 : Below w3.heap.size w3 (vy13.alloc (.cells #[.int .i64 bb, .slice A2 n2 c2] 42)) := Below.alloc ey12 ey12.size _
             have hnx : Below vy13.heap.size vy13 (vy13.alloc (.cells #[.int .i64 bb, .slice A2 n2 c2] 42)) := Below.alloc (Below.refl _ _) (Nat.le_refl _) _
             go_wp2_with fail
             replace o2 := OwnI.below o2 hnx
             have k17 : BK (vy13.alloc (.cells #[.int .i64 bb, .slice A2 n2 c2] 42)) vy13.heap.size #[.int .i64 bb, .slice A2 n2 c2] 42 := BK.new _ _ _
             refine hK _ _ (fun _ => ey15) ?_
             clear hK K hnx
             generalize (vy13.alloc (.cells #[.int .i64 bb, .slice A2 n2 c2] 42)) = vy17 at *
             obtain ⟨gk17, hgk17⟩ : ∃ g, vy13.heap.size = g := ⟨_, rfl⟩
             have hqk17 : w3.heap.size ≤ gk17 := by omega
             rw [hgk17] at k17
             try rw [hgk17]
             clear hgk17
             refine any_run1 (i := 18) (by kernel_rfl) (by rfl) (by kernel_rfl) ?_
             intro K hK
             obtain ⟨v18, vy18, hrun, o3, hbel, hsz⟩ := app_b_rc (r := bb :: (t ++ [(k : Int)])) (OwnRc.below HOK.out ey15) rfl (own_more o2 (Nat.zero_le _)) k17 (by have := HNN.out; omega) (by have := ey15.size; omega)
             have F4 : Below h1 wi vy18 := hbel _ (HBK.out.trans (ey15.mono hwz))
             clear k17 o2
             obtain ⟨A8, c8, rfl⟩ := o3.slice
             rw [List.length_append, HNN.out, List.length_singleton] at o3 hrun
             have HRUN := Lib.hid hrun
             clear hrun hbel hsz
             refine wp_append_run (.tmp 45) (.tmp 62) 77 _ rfl HRUN.out ?_
             refine hK _ _ (fun hx => (Bool.false_ne_true (hx.symm.trans (by kernel_rfl))).elim) ?_
             clear hK K HRUN
             simp only [List.getElem_toArray, List.getElem_cons_succ, List.getElem_cons_zero, Act.put, List.setIfInBounds_toArray, List.set_cons_succ, List.set_cons_zero]
             refine any_run1 (i := 19) (by kernel_rfl) (by rfl) (by kernel_rfl) ?_
             intro K hK
             go_wp2_with fail
             refine hK _ _ (fun hx => (Bool.false_ne_true (hx.symm.trans (by kernel_rfl))).elim) ?_
             clear hK K
             refine any_done (by kernel_rfl) (NoPanic.normal ?_)
             exact ⟨rfl, by simp [setAll], rfl, _, _, rfl, o3, F4⟩
            ·skip
             intro K hK
             have qy20 := ey3.size
             have ey19 : Below w3.heap.size w3 (vy5.alloc (.cells #[.int .i64 (k : Int)] 3)) := Below.alloc ey3 ey3.size _
             have hnx : Below vy5.heap.size vy5 (vy5.alloc (.cells #[.int .i64 (k : Int)] 3)) := Below.alloc (Below.refl _ _) (Nat.le_refl _) _
             go_wp2_with fail
             replace k6 := k6.below hnx k6.lt
             have k14 : BK (vy5.alloc (.cells #[.int .i64 (k : Int)] 3)) vy5.heap.size #[.int .i64 (k : Int)] 3 := BK.new _ _ _
             refine hK _ _ (fun _ => ey19) ?_
             clear hK K hnx
             generalize (vy5.alloc (.cells #[.int .i64 (k : Int)] 3)) = vy21 at *
             obtain ⟨gk14, hgk14⟩ : ∃ g, vy5.heap.size = g := ⟨_, rfl⟩
             have hqk14 : w3.heap.size ≤ gk14 := by omega
             rw [hgk14] at k14
             try rw [hgk14]
             clear hgk14
             refine any_run1 (i := 12) (by kernel_rfl) (by rfl) (by kernel_rfl) ?_
             intro K hK
             have qy24 := ey19.size
             obtain ⟨A1, c1, vy23, hrun, o1, hbel, hsz, hkeep⟩ := app_src_i (base := w3.heap.size) k6 hqk6 (RS.more (RS.below (OwnI.ri HUT.out) ey19) ey19.size) HTL.out (by omega) (by omega)
             have ey22 : Below w3.heap.size w3 vy23 := hbel _ ey19
             replace k14 := hkeep _ _ _ k14 (by simp)
             have HRUN := Lib.hid hrun
             clear hrun hbel hsz hkeep k6
             refine wp_append_run (.tmp 51) (.tmp 56) 40 _ rfl HRUN.out ?_
             refine hK _ _ (fun _ => ey22) ?_
             clear hK K HRUN
             simp only [List.getElem_toArray, List.getElem_cons_succ, List.getElem_cons_zero, Act.put, List.setIfInBounds_toArray, List.set_cons_succ, List.set_cons_zero]
             refine any_run1 (i := 15) (by kernel_rfl) (by rfl) (by kernel_rfl) ?_
             intro K hK
             have qy27 := ey22.size
             obtain ⟨v15, vy26, hrun, o2, hbel, hsz, hkeep⟩ := app_b_i int_info int_slice o1 k14 (by have := HTL.out; omega) (by omega)
             obtain ⟨A2, c2, rfl⟩ := own_slice o2
             obtain ⟨n2, hn2⟩ : ∃ x, (t ++ [(k : Int)]).length = x := ⟨_, rfl⟩
             rw [hn2] at o2 hrun
             clear hn2
             have ey25 : Below w3.heap.size w3 vy26 := hbel _ ey22
             clear o1 k14
             have HRUN := Lib.hid hrun
             clear hrun hbel hsz hkeep
             refine wp_append_run (.tmp 57) (.tmp 59) 40 _ rfl HRUN.out ?_
             refine hK _ _ (fun _ => ey25) ?_
             clear hK K HRUN
             simp only [List.getElem_toArray, List.getElem_cons_succ, List.getElem_cons_zero, Act.put, List.setIfInBounds_toArray, List.set_cons_succ, List.set_cons_zero]
             (refine any_take 16 ?_ (by rfl) (by kernel_rfl) (fun _ _ _ _ _ hx => hx.elim) (.inl ⟨by rfl, ?_⟩) (by with_reducible assumption) ?_; rotate_left; (intro X hX; obtain ⟨r1, r2⟩ := Below.rules hX; clear hX; go_simp; rfl); simp only [List.getElem_toArray, List.getElem_cons_succ, List.getElem_cons_zero, Act.put, List.setIfInBounds_toArray, List.set_cons_succ, List.set_cons_zero])
             refine any_run1 (i := 17) (by kernel_rfl) (by rfl) (by kernel_rfl) ?_
             intro K hK
             have qy29 := ey25.size
             have ey28 : Below w3.heap.size w3 (vy26.alloc (.cells #[.int .i64 bb, .slice A2 n2 c2] 42)) := Below.alloc ey25 ey25.size _
             have hnx : Below vy26.heap.size vy26 (vy26.alloc (.cells #[.int .i64 bb, .slice A2 n2 c2] 42)) := Below.alloc (Below.refl _ _) (Nat.le_refl _) _
             go_wp2_with fail
             replace o2 := OwnI.below o2 hnx
             have k17 : BK (vy26.alloc (.cells #[.int .i64 bb, .slice A2 n2 c2] 42)) vy26.heap.size #[.int .i64 bb, .slice A2 n2 c2] 42 := BK.new _ _ _
             refine hK _ _ (fun _ => ey28) ?_
             clear hK K hnx
             generalize (vy26.alloc (.cells #[.int .i64 bb, .slice A2 n2 c2] 42)) = vy30 at *
             obtain ⟨gk17, hgk17⟩ : ∃ g, vy26.heap.size = g := ⟨_, rfl⟩
             have hqk17 : w3.heap.size ≤ gk17 := by omega
             rw [hgk17] at k17
             try rw [hgk17]
             clear hgk17
             refine any_run1 (i := 18) (by kernel_rfl) (by rfl) (by kernel_rfl) ?_
             intro K hK
             obtain ⟨v18, vy31, hrun, o3, hbel, hsz⟩ := app_b_rc (r := bb :: (t ++ [(k : Int)])) (OwnRc.below HOK.out ey28) rfl (own_more o2 (Nat.zero_le _)) k17 (by have := HNN.out; omega) (by have := ey28.size; omega)
             have F4 : Below h1 wi vy31 := hbel _ (HBK.out.trans (ey28.mono hwz))
             clear k17 o2
             obtain ⟨A8, c8, rfl⟩ := o3.slice
             rw [List.length_append, HNN.out, List.length_singleton] at o3 hrun
             have HRUN := Lib.hid hrun
             clear hrun hbel hsz
             refine wp_append_run (.tmp 45) (.tmp 62) 77 _ rfl HRUN.out ?_
             refine hK _ _ (fun hx => (Bool.false_ne_true (hx.symm.trans (by kernel_rfl))).elim) ?_
             clear hK K HRUN
             simp only [List.getElem_toArray, List.getElem_cons_succ, List.getElem_cons_zero, Act.put, List.setIfInBounds_toArray, List.set_cons_succ, List.set_cons_zero]
             refine any_run1 (i := 19) (by kernel_rfl) (by rfl) (by kernel_rfl) ?_
             intro K hK
             go_wp2_with fail
             refine hK _ _ (fun hx => (Bool.false_ne_true (hx.symm.trans (by kernel_rfl))).elim) ?_
             clear hK K
             refine any_done (by kernel_rfl) (NoPanic.normal ?_)
             exact ⟨rfl, by simp [setAll], rfl, _, _, rfl, o3, F4⟩
           ·skip
            intro K hK
            have qy33 := dy1.size
            have ey32 : Below w3.heap.size w3 (uy2.alloc (.cells #[.int .i64 (k : Int)] 3)) := Below.alloc dy1 dy1.size _
            have hnx : Below uy2.heap.size uy2 (uy2.alloc (.cells #[.int .i64 (k : Int)] 3)) := Below.alloc (Below.refl _ _) (Nat.le_refl _) _
            go_wp2_with fail
            have k14 : BK (uy2.alloc (.cells #[.int .i64 (k : Int)] 3)) uy2.heap.size #[.int .i64 (k : Int)] 3 := BK.new _ _ _
            refine hK _ _ (fun _ => ey32) ?_
            clear hK K hnx
            generalize (uy2.alloc (.cells #[.int .i64 (k : Int)] 3)) = vy34 at *
            obtain ⟨gk14, hgk14⟩ : ∃ g, uy2.heap.size = g := ⟨_, rfl⟩
            have hqk14 : w3.heap.size ≤ gk14 := by omega
            rw [hgk14] at k14
            try rw [hgk14]
            clear hgk14
            refine any_run1 (i := 6) (by kernel_rfl) (by rfl) (by kernel_rfl) ?_
            intro K hK
            have qy36 := ey32.size
            have ey35 : Below w3.heap.size w3 (vy34.alloc (.cells #[] 3)) := Below.alloc ey32 ey32.size _
            have hnx : Below vy34.heap.size vy34 (vy34.alloc (.cells #[] 3)) := Below.alloc (Below.refl _ _) (Nat.le_refl _) _
            go_wp2_with fail
            replace k14 := k14.below hnx k14.lt
            have k6 : BK (vy34.alloc (.cells #[] 3)) vy34.heap.size #[] 3 := BK.new _ _ _
            refine hK _ _ (fun _ => ey35) ?_
            clear hK K hnx
            generalize (vy34.alloc (.cells #[] 3)) = vy37 at *
            obtain ⟨gk6, hgk6⟩ : ∃ g, vy34.heap.size = g := ⟨_, rfl⟩
            have hqk6 : w3.heap.size ≤ gk6 := by omega
            rw [hgk6] at k6
            try rw [hgk6]
            clear hgk6
            refine any_run1 (i := 12) (by kernel_rfl) (by rfl) (by kernel_rfl) ?_
            intro K hK
            have qy40 := ey35.size
            obtain ⟨A1, c1, vy39, hrun, o1, hbel, hsz, hkeep⟩ := app_src_i (base := w3.heap.size) k6 hqk6 (RS.more (RS.below (OwnI.ri HUT.out) ey35) ey35.size) HTL.out (by omega) (by omega)
            have ey38 : Below w3.heap.size w3 vy39 := hbel _ ey35
            replace k14 := hkeep _ _ _ k14 (by simp)
            have HRUN := Lib.hid hrun
            clear hrun hbel hsz hkeep k6
            refine wp_append_run (.tmp 51) (.tmp 56) 40 _ rfl HRUN.out ?_
            refine hK _ _ (fun _ => ey38) ?_
            clear hK K HRUN
            simp only [List.getElem_toArray, List.getElem_cons_succ, List.getElem_cons_zero, Act.put, List.setIfInBounds_toArray, List.set_cons_succ, List.set_cons_zero]
            refine any_run1 (i := 15) (by kernel_rfl) (by rfl) (by kernel_rfl) ?_
            intro K hK
            have qy43 := ey38.size
            obtain ⟨v15, vy42, hrun, o2, hbel, hsz, hkeep⟩ := app_b_i int_info int_slice o1 k14 (by have := HTL.out; omega) (by omega)
            obtain ⟨A2, c2, rfl⟩ := own_slice o2
            obtain ⟨n2, hn2⟩ : ∃ x, (t ++ [(k : Int)]).length = x := ⟨_, rfl⟩
            rw [hn2] at o2 hrun
            clear hn2
            have ey41 : Below w3.heap.size w3 vy42 := hbel _ ey38
            clear o1 k14
            have HRUN := Lib.hid hrun
            clear hrun hbel hsz hkeep
            refine wp_append_run (.tmp 57) (.tmp 59) 40 _ rfl HRUN.out ?_
            refine hK _ _ (fun _ => ey41) ?_
            clear hK K HRUN
            simp only [List.getElem_toArray, List.getElem_cons_succ, List.getElem_cons_zero, Act.put, List.setIfInBounds_toArray, List.set_cons_succ, List.set_cons_zero]
            (refine any_take 16 ?_ (by rfl) (by kernel_rfl) (fun _ _ _ _ _ hx => hx.elim) (.inl ⟨by rfl, ?_⟩) (by with_reducible assumption) ?_; rotate_left; (intro X hX; obtain ⟨r1, r2⟩ := Below.rules hX; clear hX; go_simp; rfl); simp only [List.getElem_toArray, List.getElem_cons_succ, List.getElem_cons_zero, Act.put, List.setIfInBounds_toArray, List.set_cons_succ, List.set_cons_zero])
            refine any_run1 (i := 17) (by kernel_rfl) (by rfl) (by kernel_rfl) ?_
            intro K hK
            have qy45 := ey41.size
            have ey44 : Below w3.heap.size w3 (vy42.alloc (.cells #[.int .i64 bb, .slice A2 n2 c2] 42)) := Below.alloc ey41 ey41.size _
            have hnx : Below vy42.heap.size vy42 (vy42.alloc (.cells #[.int .i64 bb, .slice A2 n2 c2] 42)) := Below.alloc (Below.refl _ _) (Nat.le_refl _) _
            go_wp2_with fail
            replace o2 := OwnI.below o2 hnx
            have k17 : BK (vy42.alloc (.cells #[.int .i64 bb, .slice A2 n2 c2] 42)) vy42.heap.size #[.int .i64 bb, .slice A2 n2 c2] 42 := BK.new _ _ _
            refine hK _ _ (fun _ => ey44) ?_
            clear hK K hnx
            generalize (vy42.alloc (.cells #[.int .i64 bb, .slice A2 n2 c2] 42)) = vy46 at *
            obtain ⟨gk17, hgk17⟩ : ∃ g, vy42.heap.size = g := ⟨_, rfl⟩
            have hqk17 : w3.heap.size ≤ gk17 := by omega
            rw [hgk17] at k17
            try rw [hgk17]
            clear hgk17
            refine any_run1 (i := 18) (by kernel_rfl) (by rfl) (by kernel_rfl) ?_
            intro K hK
            obtain ⟨v18, vy47, hrun, o3, hbel, hsz⟩ := app_b_rc (r := bb :: (t ++ [(k : Int)])) (OwnRc.below HOK.out ey44) rfl (own_more o2 (Nat.zero_le _)) k17 (by have := HNN.out; omega) (by have := ey44.size; omega)
            have F4 : Below h1 wi vy47 := hbel _ (HBK.out.trans (ey44.mono hwz))
            clear k17 o2
            obtain ⟨A8, c8, rfl⟩ := o3.slice
            rw [List.length_append, HNN.out, List.length_singleton] at o3 hrun
            have HRUN := Lib.hid hrun
            clear hrun hbel hsz
            refine wp_append_run (.tmp 45) (.tmp 62) 77 _ rfl HRUN.out ?_
            refine hK _ _ (fun hx => (Bool.false_ne_true (hx.symm.trans (by kernel_rfl))).elim) ?_
            clear hK K HRUN
            simp only [List.getElem_toArray, List.getElem_cons_succ, List.getElem_cons_zero, Act.put, List.setIfInBounds_toArray, List.set_cons_succ, List.set_cons_zero]
            refine any_run1 (i := 19) (by kernel_rfl) (by rfl) (by kernel_rfl) ?_
            intro K hK
            go_wp2_with fail
            refine hK _ _ (fun hx => (Bool.false_ne_true (hx.symm.trans (by kernel_rfl))).elim) ?_
            clear hK K
            refine any_done (by kernel_rfl) (NoPanic.normal ?_)
            exact ⟨rfl, by simp [setAll], rfl, _, _, rfl, o3, F4⟩
          rintro u V ⟨A, c, hu6, hown, hbV⟩
          simp only [setAll, List.foldl, List.setIfInBounds_toArray, List.set_cons_succ, List.set_cons_zero, hu6]
          have hown2 : OwnRc V h1 (.slice A (nn + 1) c) (rcK L n m (k + 1)) := by rw [HKS.out]; exact hown
          have HOV := Lib.hid hown2
          have HBV := Lib.hid hbV
          clear hown hown2 hbV hu6 e0b e1b HOK
          go_wp2_with fail
          go_roundw
          case rel => exact ⟨k + 1, by omega, by go_num, HOV.out, HBV.out⟩
          case measure => simp [intOf]; omega
end Go.Proofs.Ytkibdciomheekaa

set_option linter.all false
namespace Go.Proofs.Ytkibdciomheekaa
open Go.RowKit Hp

def posL (l : List Int) (n : Nat) : List Int := ((List.range n).filter fun i => decide (0 < nthI l i)).map fun (i : Nat) => (i : Int)
end Go.Proofs.Ytkibdciomheekaa

set_option linter.all false
namespace Go.Proofs.Ytkibdciomheekaa
open Go.RowKit Hp

/-- Of the first k recipes. -/
def cntK (L : List (List Int)) (st : Int) (k : Nat) : List Int := (List.range 6).map fun (c : Nat) => hits (L.take k) st (c : Int)
def cntL (L : List (List Int)) (st : Int) : List Int := (List.range 6).map fun (c : Nat) => hits L st (c : Int)
end Go.Proofs.Ytkibdciomheekaa

set_option linter.all false
namespace Go.Proofs.Ytkibdciomheekaa
open Go.RowKit Hp

section
variable {bars : List Rg} {ss : List Stp} {m : Rg} {i : Nat}
theorem mem_mkL {r : List Int} : r ∈ mkL bars m ss ↔ ∃ p ∈ makers bars ss m, r = Int.ofNat p.1 :: p.2.map Int.ofNat := by
  unfold mkL
  rw [List.mem_map]
  exact ⟨fun ⟨p, h, e⟩ => ⟨p, h, e.symm⟩, fun ⟨p, h, e⟩ => ⟨p, h, e.symm⟩⟩
theorem mk_ways_at {p : Nat × List Nat} (hp : p ∈ makers bars ss m) (hi : i < ss.length) : i < p.2.length ∧ p.2.getD i 0 < (nthS ss i).length := by
  obtain ⟨_, hw, _⟩ := mem_makers.1 hp
  obtain ⟨hl, hlt⟩ := mem_allR_iff.1 hw
  exact ⟨by omega, hlt i hi⟩
theorem mk_nth (p : Nat × List Nat) (hi : i < p.2.length) : nthI (Int.ofNat p.1 :: p.2.map Int.ofNat) (i + 1) = ((p.2.getD i 0 : Nat) : Int) := by
  simp [nthI, hi]
/-- The best question so far. -/
def askS (L : List (List Int)) (n : Nat) : Nat → Rg
  | 0 => ⟨0, (L.length : Int) + 1⟩
  | j + 1 => lsQ (qsL L n) j
end
end Go.Proofs.Ytkibdciomheekaa

set_option linter.all false
namespace Go.Proofs.Ytkibdciomheekaa
open Go.RowKit Hp

end Go.Proofs.Ytkibdciomheekaa

set_option linter.all false
namespace Go.Proofs.Ytkibdciomheekaa
open Go.RowKit Hp

theorem meas_two {bars : List Rg} {ss : List Stp} {m : Rg} (h : measE bars ss m = 0) : OkV bars ss ∧ OkR m := by
  unfold measE at h
  split at h
  · rename_i q; exact absurd h q
  · rename_i q
    split at h
    · rename_i q2
      exact ⟨okV_of (Decidable.not_not.1 q), hard_iff.1 q2⟩
    · cases h
end Go.Proofs.Ytkibdciomheekaa

set_option linter.all false
namespace Go.Proofs.Ytkibdciomheekaa
open Go.RowKit Hp

end Go.Proofs.Ytkibdciomheekaa

set_option linter.all false
namespace Go.Proofs.Ytkibdciomheekaa
open Go.RowKit Hp

end Go.Proofs.Ytkibdciomheekaa

set_option linter.all false
namespace Go.Proofs.Ytkibdciomheekaa
open Go.RowKit Hp

/-- How many recipes there are through the first k steps. -/
def recN (bars : List Rg) (ss : List Stp) : Nat → Nat
  | 0 => bars.length
  | k + 1 => recN bars ss k * (nthS ss k).length
theorem recN_le {bars : List Rg} {ss : List Stp} (hb : bars.length ≤ 6) (hs : ∀ s ∈ ss, s.length ≤ 6) : ∀ k, k ≤ ss.length → recN bars ss k ≤ 6 ^ (k + 1)
  | 0, _ => by simpa [recN] using hb
  | k + 1, hk => by
    have h1 := recN_le hb hs k (by omega)
    have h2 := hs _ (nthS_mem (show k < ss.length by omega))
    rw [Nat.pow_succ]
    exact Nat.mul_le_mul h1 h2
def fullP (bars : List Rg) (ss : List Stp) : Prop := worksE bars ss = 0 ∧ 400 < recN bars ss ss.length
def FullPost (bars : List Rg) (ss : List Stp) (w : World) (e : Ending) (w' : World) : Prop := ∃ q, e = .returned (.bool q) ∧ (q = true ↔ fullP bars ss) ∧ Below w.heap.size w w'
theorem FullPost.no {bars : List Rg} {ss : List Stp} {w w' : World} (h : worksE bars ss ≠ 0) (hb : Below w.heap.size w w') : FullPost bars ss w (.returned (.bool false)) w' := ⟨false, rfl, ⟨fun q => Bool.noConfusion q, fun q => (h q.1).elim⟩, hb⟩
theorem FullPost.of {bars : List Rg} {ss : List Stp} {w w' : World} (h : worksE bars ss = 0) (hb : Below w.heap.size w w') : FullPost bars ss w (.returned (.bool (decide ((400 : Int) < ((recN bars ss ss.length : Nat) : Int))))) w' := ⟨_, rfl, ⟨fun q => ⟨h, by have := of_decide_eq_true q; omega⟩, fun q => decide_eq_true (by have := q.2; omega)⟩, hb⟩

set_option maxHeartbeats 8000000 in
set_option maxRecDepth 100000 in
theorem full_any (bars : List Rg) (ss : List Stp) (vb vs : Value) (w : World) (hf : Fit bars ss) (hB : RR w w.heap.size vb bars) (hS : RP w w.heap.size vs ss) :
    Calls Try.prog 32 #[.agg #[vb, vs]] w (FullPost bars ss w) := by
  have HF := Lib.hid hf
  clear hf
  obtain ⟨Ab, cb, rfl⟩ := hB.slice
  obtain ⟨As, cs, rfl⟩ := hS.slice
  obtain ⟨n0, hn0⟩ : ∃ n, w.heap.size = n := ⟨_, rfl⟩
  have hC : Below n0 w w := Below.refl _ _
  go_enter Try.func32, Try.ntmps32
  go_upto_region 1 with fail
  have hqbx : n0 ≤ n0 := by have := hC.size; omega
  have bx : BK (w.alloc (.cells #[.slice Ab bars.length cb, .slice As ss.length cs] 25)) (n0) #[.slice Ab bars.length cb, .slice As ss.length cs] 25 := BK.new' _ _ _ (n0) hn0
  have hsbx : (w.alloc (.cells #[.slice Ab bars.length cb, .slice As ss.length cs] 25)).heap.size = n0 + 1 := by simp [hn0]
  replace hC : Below n0 w (w.alloc (.cells #[.slice Ab bars.length cb, .slice As ss.length cs] 25)) := Below.alloc hC (by have := hC.size; omega) _
  replace hB := (RS.below hB (w' := (w.alloc (.cells #[.slice Ab bars.length cb, .slice As ss.length cs] 25))) (Below.alloc (Below.refl _ _) (Nat.le_refl _) _)).more (B' := (w.alloc (.cells #[.slice Ab bars.length cb, .slice As ss.length cs] 25)).heap.size) (by simp)
  replace hS := (RP.below hS (w' := (w.alloc (.cells #[.slice Ab bars.length cb, .slice As ss.length cs] 25))) (Below.alloc (Below.refl _ _) (Nat.le_refl _) _)).more (B' := (w.alloc (.cells #[.slice Ab bars.length cb, .slice As ss.length cs] 25)).heap.size) (by simp)
  generalize (w.alloc (.cells #[.slice Ab bars.length cb, .slice As ss.length cs] 25)) = Wbx at *
  have lbx := bx.lt
  have bxc0 := bx.cell 0
  have bxc1 := bx.cell 1
  simp at bxc0 bxc1
  go_wp2_with fail
  clear lbx bxc0 bxc1
  clear hsbx
  refine (checkWorksR_any bars ss _ _ _ HF.out hB hS).mono ?_
  rintro e w1 ⟨rfl, hb⟩
  replace hC : Below n0 w w1 := hC.trans (hb.mono (by have := hC.size; omega))
  replace hB := (RS.below hB hb).more hb.size
  replace hS := (RP.below hS hb).more hb.size
  replace bx := bx.below hb bx.lt
  clear hb
  obtain ⟨e, he⟩ : ∃ e, worksE bars ss = e := ⟨_, rfl⟩
  rw [he]
  by_cases e0 : e = 0
  case neg =>
    have HE := Lib.hid (show worksE bars ss ≠ 0 by rw [he]; exact e0)
    have b1 : (e != 0) = true := by simp [e0]
    clear he e0
    go_wp2_with fail
    go_ret
    exact FullPost.no HE.out (by (try rw [hn0]); exact hC)
  subst e0
  have HE := Lib.hid he
  have hV := okV_of he
  have hs6 : ss.length ≤ 6 := hV.sfew
  have hb6 := hV.bfew
  have HR := Lib.hid (fun k hk => recN_le (bars := bars) (ss := ss) hV.bfew (fun s hs => Nat.le_trans (hV.wpos s hs).2 (by decide)) k hk)
  clear he hV
  have lbx := bx.lt
  have bxc0 := bx.cell 0
  have bxc1 := bx.cell 1
  simp at bxc0 bxc1
  go_wp2_with fail
  clear lbx bxc0 bxc1
  generalize w1 = W0 at *
  go_loopw [3, 4] (fun a i wr => ∃ k : Nat, k ≤ ss.length ∧ i = .int .i64 k ∧ a = .int .i64 (recN bars ss k : Nat) ∧ Below W0.heap.size W0 wr) (fun _ i _ => ss.length - (intOf i).toNat)
  case atStart => exact ⟨0, Nat.zero_le _, rfl, rfl, Below.refl _ _⟩
  case round =>
    obtain ⟨k, hk, rfl, rfl, hb⟩ := hrel
    have hbr := Lib.hid hb
    replace hC : Below n0 w wr := hC.trans (hb.mono (by have := hC.size; omega))
    replace hB := (RS.below hB hb).more hb.size
    replace hS := (RP.below hS hb).more hb.size
    replace bx := bx.below hb bx.lt
    clear hb
    by_cases hlt : k < ss.length
    case neg =>
      have hlt' : ¬ (k : Int) < (ss.length : Int) := by omega
      have hke : k = ss.length := by omega
      rw [hke]
      obtain ⟨n, hn⟩ : ∃ n, recN bars ss ss.length = n := ⟨_, rfl⟩
      have HP := Lib.hid (fun W hW => FullPost.of (w := w) (w' := W) HE.out hW)
      rw [hn] at HP ⊢
      rw [hke] at hlt'
      clear hke hn
      have lbx := bx.lt
      have bxc0 := bx.cell 0
      have bxc1 := bx.cell 1
      simp at bxc0 bxc1
      go_wp2_with fail
      go_ret
      exact HP.out _ (by (try rw [hn0]); exact hC)
    have hlt' : (k : Int) < (ss.length : Int) := by omega
    obtain ⟨A', cap', bb, off, hve, hA, hc⟩ := RP.cells hS
    obtain ⟨rfl, hbb⟩ := hA (by omega)
    injection hve with q1 q2 q3
    subst q1 q3
    obtain ⟨u, d0, hu⟩ := hc k hlt
    have hst : recN bars ss (k + 1) = recN bars ss k * (nthS ss k).length := rfl
    have h7 := HR.out (k + 1) (by omega)
    have h8 : 6 ^ (k + 1 + 1) ≤ 6 ^ 7 := Nat.pow_le_pow_right (by omega) (by omega)
    obtain ⟨s, hs⟩ : ∃ s, nthS ss k = s := ⟨_, rfl⟩
    rw [hs] at hu hst
    obtain ⟨n, hn⟩ : ∃ n, recN bars ss k = n := ⟨_, rfl⟩
    rw [hn] at hst ⊢
    obtain ⟨Aw, cw, rfl⟩ := hu.slice
    have wm : IntKind.i64.wrap ((n : Int) * (s.length : Int)) = ((recN bars ss (k + 1) : Nat) : Int) := by
      rw [hst, Int.natCast_mul]
      rw [hst] at h7
      have : ((n * s.length : Nat) : Int) ≤ 279936 := by
        have : n * s.length ≤ 279936 := Nat.le_trans h7 (Nat.le_trans h8 (by decide))
        omega
      rw [Int.natCast_mul] at this
      have h9 : (0 : Int) ≤ (n : Int) * (s.length : Int) := by
        rw [← Int.natCast_mul]
        omega
      rw [IntKind.wrap_i64]
      omega
    obtain ⟨N, hN⟩ : ∃ N, recN bars ss (k + 1) = N := ⟨_, rfl⟩
    rw [hN] at wm
    have HNN := Lib.hid hN
    clear hA hc q2 hs hst h7 h8 hn hN
    have lbx := bx.lt
    have bxc0 := bx.cell 0
    have bxc1 := bx.cell 1
    simp at bxc0 bxc1
    go_wp2_with fail
    go_roundw
    case rel => exact ⟨k + 1, by omega, by go_num, by rw [HNN.out], hbr.out⟩
    case measure => simp [intOf]; omega
end Go.Proofs.Ytkibdciomheekaa

set_option linter.all false
namespace Go.Proofs.Ytkibdciomheekaa
open Go.RowKit Hp

theorem RLi.next {w w' : World} {v : Value} {l : List (List Int)} (h : RLi w w.heap.size v l) (hb : Below w.heap.size w w') : RLi w' w'.heap.size v l :=
  RN.more (fun _ _ h => RS.more h hb.size) (RN.below (fun _ _ h => RS.below h hb) h hb) hb.size
section
variable {bars : List Rg} {ss : List Stp} {m : Rg}
def barsL (bars : List Rg) (ss : List Stp) (m : Rg) : List Int := if barsE bars ss m = 0 then someV bars m ss (-1) else []
def waysL (bars : List Rg) (ss : List Stp) (m : Rg) : List (List Int) := if barsE bars ss m = 0 then wysL bars m ss ss.length else []
theorem cnt_few (h : measE bars ss m = 0) : (mkL bars m ss).length ≤ 1000000 := mkL_few (meas_two h).1 m
end
end Go.Proofs.Ytkibdciomheekaa

set_option linter.all false
namespace Go.Proofs.Ytkibdciomheekaa
open Go.RowKit Hp

/-- The number that is meant for a place. -/
def numAt (us : List Nat) (i : Nat) : Nat := if us.length = 0 then 0 else us.getD (i % us.length) 0
def oneB (bars : List Rg) (us : List Nat) : Nat := numAt us 0 % bars.length
def oneW (ss : List Stp) (us : List Nat) (n : Nat) : List Int := (List.range n).map fun (i : Nat) => ((numAt us (i + 1) % (nthS ss i).length : Nat) : Int)
theorem oneW_succ (ss : List Stp) (us : List Nat) (n : Nat) : oneW ss us (n + 1) = oneW ss us n ++ [((numAt us (n + 1) % (nthS ss n).length : Nat) : Int)] := by simp [oneW, List.range_succ]
theorem oneW_len (ss : List Stp) (us : List Nat) (n : Nat) : (oneW ss us n).length = n := by simp [oneW]
theorem numAt_le {us : List Nat} {B : Nat} (h : ∀ x ∈ us, x ≤ B) (i : Nat) : numAt us i ≤ B := by
  unfold numAt
  split
  · exact Nat.zero_le _
  · rename_i q
    have hi : i % us.length < us.length := Nat.mod_lt _ (by omega)
    rw [List.getD_eq_getElem?_getD, List.getElem?_eq_getElem hi]
    exact h _ (List.getElem_mem hi)
def oneBk (bars : List Rg) (us : List Nat) (k : Nat) : Nat := if k = 0 then 0 else oneB bars us
theorem own_ri_set {W : World} {T g : Nat} {A : Option Addr} {n c base : Nat} {l : List Int} {cs : Array Value} {t : TypeId} (h : OwnI T W base (.slice A n c) l) (hg : BK W g cs t) (ht : t ≠ T) (o : Nat) (u : Value) :
    OwnI T (W.setCell ⟨g, o, none⟩ u) base (.slice A n c) l := by
  have hne : (Value.slice A n c).ownBlock ≠ some g := fun hq => by
    obtain ⟨c', hc⟩ := own_block h hq
    unfold BK at hg
    rw [hg] at hc; injection hc with hc; injection hc with _ hc; exact ht hc
  exact own_far h (p := ⟨g, o, none⟩) hne u
theorem own_ri_sets {W : World} {T g : Nat} {A : Option Addr} {n c base : Nat} {l : List Int} {cs : Array Value} {t : TypeId} (h : OwnI T W base (.slice A n c) l) (hg : BK W g cs t) (ht : t ≠ T) (u v : Value) :
    OwnI T ((W.setCell ⟨g, 0, none⟩ u).setCell ⟨g, 1, none⟩ v) base (.slice A n c) l := by
  have hne : (Value.slice A n c).ownBlock ≠ some g := fun hq => by
    obtain ⟨c', hc⟩ := own_block h hq
    unfold BK at hg
    rw [hg] at hc; injection hc with hc; injection hc with _ hc; exact ht hc
  exact own_far (own_far h (p := ⟨g, 0, none⟩) hne u) (p := ⟨g, 1, none⟩) hne v
theorem one_rec {bars : List Rg} {ss : List Stp} (h : OkV bars ss) (us : List Nat) : OkRec bars ss (oneB bars us : Nat) (oneW ss us ss.length) := by
  refine ⟨h, by omega, ?_, ?_, ?_⟩
  · show ((oneB bars us : Nat) : Int).toNat < bars.length
    rw [Int.toNat_natCast]
    exact Nat.mod_lt _ h.bpos
  · refine mem_allR_iff.2 ⟨by simp [nats, oneW_len], fun i hi => ?_⟩
    have : (nats (oneW ss us ss.length)).getD i 0 = numAt us (i + 1) % (nthS ss i).length := by
      simp [nats, oneW, hi]
      rw [← Int.natCast_emod, Int.toNat_natCast]
    rw [this]
    exact Nat.mod_lt _ (h.wpos _ (nthS_mem hi)).1
  · intro k hk
    obtain ⟨i, _, rfl⟩ := List.mem_map.1 hk
    omega
theorem RU.cells {k : IntKind} {w : World} {B : Nat} {v : Value} {l : List Nat} (h : RU k w B v l) : ∃ A cap b off, v = .slice A l.length cap ∧ (l.length ≠ 0 → A = some ⟨b, off, none⟩ ∧ b < B) ∧ ∀ j, j < l.length → w.cell? ⟨b, off + j, none⟩ = some (.int k (l.getD j 0 : Nat)) := by
  obtain ⟨A, cap, b, off, hv, hl, hA, hc⟩ := h
  refine ⟨A, cap, b, off, hv, hA, fun j hj => ?_⟩
  rw [hc j (by simpa using hj)]
  simp [hj]
def OnePost (bars : List Rg) (ss : List Stp) (us : List Nat) (w : World) (e : Ending) (w' : World) : Prop :=
  ∃ vk, e = .returned (.agg #[.int .i64 (oneB bars us : Nat), vk]) ∧ RI w' w'.heap.size vk (oneW ss us ss.length) ∧ Below w.heap.size w w'

set_option maxHeartbeats 8000000 in
set_option maxRecDepth 100000 in
theorem one_any (bars : List Rg) (ss : List Stp) (us : List Nat) (vb vs vu : Value) (w : World) (hV : OkV bars ss) (hu : ∀ x ∈ us, x ≤ 255) (hlu : us.length ≤ 20) (hB : RR w w.heap.size vb bars) (hS : RP w w.heap.size vs ss) (hU : RU .u8 w w.heap.size vu us) :
    Calls Try.prog 44 #[.agg #[vb, vs], vu] w (OnePost bars ss us w) := by
  have HV := Lib.hid hV
  have HU := Lib.hid hu
  have hs6 := hV.sfew
  have hbp := hV.bpos
  have hb6 := hV.bfew
  clear hV hu
  obtain ⟨Ab, cb, rfl⟩ := hB.slice
  obtain ⟨As, cs, rfl⟩ := hS.slice
  obtain ⟨Au, cu, rfl⟩ := ru_slice hU
  obtain ⟨n0, hn0⟩ : ∃ n, w.heap.size = n := ⟨_, rfl⟩
  have hC : Below n0 w w := Below.refl _ _
  go_enter Try.func44, Try.ntmps44
  have HB0 := Lib.hid hB
  have HS0 := Lib.hid hS
  have HU0 := Lib.hid hU
  go_upto_region 1 with fail
  have hqbx : n0 ≤ n0 := by have := hC.size; omega
  have bx : BK (w.alloc (.cells #[.slice Ab bars.length cb, .slice As ss.length cs] 25)) (n0) #[.slice Ab bars.length cb, .slice As ss.length cs] 25 := BK.new' _ _ _ (n0) hn0
  have hsbx : (w.alloc (.cells #[.slice Ab bars.length cb, .slice As ss.length cs] 25)).heap.size = n0 + 1 := by simp [hn0]
  replace hC : Below n0 w (w.alloc (.cells #[.slice Ab bars.length cb, .slice As ss.length cs] 25)) := Below.alloc hC (by have := hC.size; omega) _
  replace hB := (RS.below hB (w' := (w.alloc (.cells #[.slice Ab bars.length cb, .slice As ss.length cs] 25))) (Below.alloc (Below.refl _ _) (Nat.le_refl _) _)).more (B' := (w.alloc (.cells #[.slice Ab bars.length cb, .slice As ss.length cs] 25)).heap.size) (by simp)
  replace hS := (RP.below hS (w' := (w.alloc (.cells #[.slice Ab bars.length cb, .slice As ss.length cs] 25))) (Below.alloc (Below.refl _ _) (Nat.le_refl _) _)).more (B' := (w.alloc (.cells #[.slice Ab bars.length cb, .slice As ss.length cs] 25)).heap.size) (by simp)
  replace hU := (RU.below hU (w' := (w.alloc (.cells #[.slice Ab bars.length cb, .slice As ss.length cs] 25))) (Below.alloc (Below.refl _ _) (Nat.le_refl _) _)).more (B' := (w.alloc (.cells #[.slice Ab bars.length cb, .slice As ss.length cs] 25)).heap.size) (by simp)
  generalize (w.alloc (.cells #[.slice Ab bars.length cb, .slice As ss.length cs] 25)) = Wbx at *
  have hqrs : n0 ≤ n0 + 1 := by have := hC.size; omega
  have rs : BK (Wbx.alloc (.cells #[.int .i64 0, .slice none 0 0] 42)) (n0 + 1) #[.int .i64 0, .slice none 0 0] 42 := BK.new' _ _ _ (n0 + 1) hsbx
  have hsrs : (Wbx.alloc (.cells #[.int .i64 0, .slice none 0 0] 42)).heap.size = n0 + 1 + 1 := by simp [hsbx]
  replace hC : Below n0 w (Wbx.alloc (.cells #[.int .i64 0, .slice none 0 0] 42)) := Below.alloc hC (by have := hC.size; omega) _
  replace hB := (RS.below hB (w' := (Wbx.alloc (.cells #[.int .i64 0, .slice none 0 0] 42))) (Below.alloc (Below.refl _ _) (Nat.le_refl _) _)).more (B' := (Wbx.alloc (.cells #[.int .i64 0, .slice none 0 0] 42)).heap.size) (by simp)
  replace hS := (RP.below hS (w' := (Wbx.alloc (.cells #[.int .i64 0, .slice none 0 0] 42))) (Below.alloc (Below.refl _ _) (Nat.le_refl _) _)).more (B' := (Wbx.alloc (.cells #[.int .i64 0, .slice none 0 0] 42)).heap.size) (by simp)
  replace hU := (RU.below hU (w' := (Wbx.alloc (.cells #[.int .i64 0, .slice none 0 0] 42))) (Below.alloc (Below.refl _ _) (Nat.le_refl _) _)).more (B' := (Wbx.alloc (.cells #[.int .i64 0, .slice none 0 0] 42)).heap.size) (by simp)
  replace bx := bx.alloc (.cells #[.int .i64 0, .slice none 0 0] 42)
  generalize (Wbx.alloc (.cells #[.int .i64 0, .slice none 0 0] 42)) = Wrs at *
  clear hsbx
  go_upto_region 2 with fail
  have hqrb : n0 ≤ n0 + 1 + 1 := by have := hC.size; omega
  have rb : BK (Wrs.alloc (.cells #[.int .i64 0, .slice none 0 0] 42)) (n0 + 1 + 1) #[.int .i64 0, .slice none 0 0] 42 := BK.new' _ _ _ (n0 + 1 + 1) hsrs
  have hsrb : (Wrs.alloc (.cells #[.int .i64 0, .slice none 0 0] 42)).heap.size = n0 + 1 + 1 + 1 := by simp [hsrs]
  replace hC : Below n0 w (Wrs.alloc (.cells #[.int .i64 0, .slice none 0 0] 42)) := Below.alloc hC (by have := hC.size; omega) _
  replace hB := (RS.below hB (w' := (Wrs.alloc (.cells #[.int .i64 0, .slice none 0 0] 42))) (Below.alloc (Below.refl _ _) (Nat.le_refl _) _)).more (B' := (Wrs.alloc (.cells #[.int .i64 0, .slice none 0 0] 42)).heap.size) (by simp)
  replace hS := (RP.below hS (w' := (Wrs.alloc (.cells #[.int .i64 0, .slice none 0 0] 42))) (Below.alloc (Below.refl _ _) (Nat.le_refl _) _)).more (B' := (Wrs.alloc (.cells #[.int .i64 0, .slice none 0 0] 42)).heap.size) (by simp)
  replace hU := (RU.below hU (w' := (Wrs.alloc (.cells #[.int .i64 0, .slice none 0 0] 42))) (Below.alloc (Below.refl _ _) (Nat.le_refl _) _)).more (B' := (Wrs.alloc (.cells #[.int .i64 0, .slice none 0 0] 42)).heap.size) (by simp)
  replace bx := bx.alloc (.cells #[.int .i64 0, .slice none 0 0] 42)
  replace rs := rs.alloc (.cells #[.int .i64 0, .slice none 0 0] 42)
  generalize (Wrs.alloc (.cells #[.int .i64 0, .slice none 0 0] 42)) = Wrb at *
  clear hsrs
  clear hsrb
  generalize Wrb = W0 at *
  have HQ := Lib.hid (And.intro hqbx (And.intro hqrs hqrb))
  clear hqbx hqrs hqrb
  go_wp2_with fail
  go_loopw [6] (fun i wr => ∃ (k : Nat) (v : Value), k ≤ ss.length + 1 ∧ i = .int .i64 (k : Int) ∧ BK wr (n0) #[.slice Ab bars.length cb, .slice As ss.length cs] 25 ∧ BK wr (n0 + 1) #[.int .i64 0, .slice none 0 0] 42 ∧ BK wr (n0 + 1 + 1) #[.int .i64 (oneBk bars us k : Nat), v] 42 ∧ OwnI 3 wr n0 v (oneW ss us (k - 1)) ∧ Below n0 w wr) (fun i _ => ss.length + 1 - (intOf i).toNat)
  case atStart => exact ⟨0, _, Nat.zero_le _, rfl, bx, rs, rb, OwnI.nil _ _ _, hC⟩
  case round =>
    clear bx rs rb hC hB hS hU
    obtain ⟨k, v, hk, rfl, bx, rs, rb, hown, hC⟩ := hrel
    rw [hn0] at HB0 HS0 HU0
    have hB := RS.more (RS.below HB0.out hC) (B' := wr.heap.size) (by have := hC.size; omega)
    have hS := RP.more (RP.below HS0.out hC) (B' := wr.heap.size) (by have := hC.size; omega)
    have hU := RU.more (RU.below HU0.out hC) (B' := wr.heap.size) (by have := hC.size; omega)
    obtain ⟨Av, cv, rfl⟩ := own_slice hown
    have hll := oneW_len ss us (k - 1)
    have HOW := Lib.hid hown
    have HLL := Lib.hid hll
    clear hown hll
    obtain ⟨nl, hnl⟩ : ∃ n, (oneW ss us (k - 1)).length = n := ⟨_, rfl⟩
    rw [hnl] at rb
    have HNL := Lib.hid hnl
    clear hnl
    by_cases hlt : k < ss.length + 1
    case neg =>
      obtain rfl : k = ss.length + 1 := by omega
      rw [Nat.add_sub_cancel] at HOW HNL
      have hlt' : ¬ ((ss.length + 1 : Nat) : Int) ≤ (ss.length : Int) := by omega
      simp only [Int.natCast_add, Int.cast_ofNat_Int] at hlt'
      have hob : oneBk bars us (ss.length + 1) = oneB bars us := by unfold oneBk; rw [if_neg (by omega)]
      rw [hob] at rb
      clear hob hlt
      have hown2 := own_ri_sets HOW.out rs (by decide) (.int .i64 (oneB bars us : Nat)) (.slice Av (oneW ss us ss.length).length cv)
      rw [HNL.out] at hown2
      obtain ⟨ob, hob⟩ : ∃ n, oneB bars us = n := ⟨_, rfl⟩
      rw [hob] at rb hown2
      have HO := Lib.hid hown2.ri
      clear hown2
      have HOB := Lib.hid hob
      clear hob
      have lbx := bx.lt
      have bxc0 := bx.cell 0
      have bxc1 := bx.cell 1
      simp at bxc0 bxc1
      have lrb := rb.lt
      have rbc0 := rb.cell 0
      have rbc1 := rb.cell 1
      simp at rbc0 rbc1
      have lrs := rs.lt
      have rsc0 := rs.cell 0
      have rsc1 := rs.cell 1
      simp at rsc0 rsc1
      have f0 := rs.frozen 0
      have f1 := rs.frozen 1
      have hCf : Below n0 w ((wr.setCell ⟨n0 + 1, 0, none⟩ (.int .i64 (ob : Int))).setCell ⟨n0 + 1, 1, none⟩ (.slice Av nl cv)) := Below.setCell (Below.setCell hC HQ.out.2.1 _) HQ.out.2.1 _
      have b2 := ((rs.set 0 (.int .i64 (ob : Int))).set 1 (.slice Av nl cv))
      simp at b2
      have HCF := Lib.hid hCf
      clear hCf hC rs
      go_wp2_with fail
      clear lbx bxc0 bxc1 lrb rbc0 rbc1 lrs rsc0 rsc1
      have y0 := b2.cell 0
      have y1 := b2.cell 1
      simp at y0 y1
      refine bodyPost_ret (v := .agg #[.int .i64 (ob : Int), .slice Av nl cv]) (by simp [results, Try.results44, go_sem, y0, y1]) rfl ⟨_, by rw [HOB.out], HO.out, (by (try rw [hn0]); exact HCF.out)⟩
    have hlt' : (k : Int) ≤ (ss.length : Int) := by omega
    have hnle := numAt_le HU.out k
    obtain ⟨n, hn⟩ : ∃ n, numAt us k = n := ⟨_, rfl⟩
    rw [hn] at hnle
    have HN := Lib.hid hn
    have g1 : IntKind.i64.wrap (n : Int) = (n : Int) := by rw [IntKind.wrap_i64]; omega
    by_cases hu0 : us.length = 0
    case pos =>
      have zu : ¬ ((us.length : Int) > 0) := by omega
      have HZ := Lib.hid (show (n : Int) = 0 by rw [← hn]; unfold numAt; rw [if_pos hu0]; rfl)
      clear hn hu0
      have lbx := bx.lt
      have bxc0 := bx.cell 0
      have bxc1 := bx.cell 1
      simp at bxc0 bxc1
      have lrb := rb.lt
      have rbc0 := rb.cell 0
      have rbc1 := rb.cell 1
      simp at rbc0 rbc1
      go_upto_region 8 with fail
      clear lbx bxc0 bxc1
      clear lrb rbc0 rbc1
      clear zu
      by_cases hk0 : k = 0
      case pos =>
        have hrm : n % bars.length = oneB bars us := by have := HN.out; rw [hk0] at this; rw [← this]; rfl
        have hrm2 : (n : Int) % (bars.length : Int) = (oneB bars us : Int) := by rw [← Int.natCast_emod, hrm]
        have hown2 := own_ri_set HOW.out rb (by decide) 0 (.int .i64 (oneB bars us : Nat))
        rw [HNL.out] at hown2
        have hz : oneW ss us (k - 1) = oneW ss us (1 - 1) := by rw [hk0]
        rw [hz] at hown2
        have d0 : ((k : Int) == 0) = true := by rw [hk0]; rfl
        have r1 : (0 : Int) % (bars.length : Int) = (oneB bars us : Int) := by have h9 := hrm2; rw [HZ.out] at h9; exact h9
        have r2 : (0 : Int).tmod (bars.length : Int) = (oneB bars us : Int) := by rw [Int.tmod_eq_emod_of_nonneg (by omega), r1]
        have y0 : ((bars.length : Int) == 0) = false := beq_eq_false_iff_ne.2 (by omega)
        have y1 : (bars.length : Int) ≠ 0 := by omega
        have hol : oneB bars us < bars.length := Nat.mod_lt _ hbp
        obtain ⟨ob, hob⟩ : ∃ n, oneB bars us = n := ⟨_, rfl⟩
        rw [hob] at r1 r2 hol hown2
        have HO2 := Lib.hid hown2
        have HOB := Lib.hid hob
        have w1 : IntKind.i64.wrap (ob : Int) = (ob : Int) := by rw [IntKind.wrap_i64]; omega
        have wk : IntKind.i64.wrap ((k : Int) + 1) = (k : Int) + 1 := by rw [IntKind.wrap_i64]; omega
        have HK0 := Lib.hid hk0
        clear hob hrm hrm2 hown2 hz hk0
        have lbx := bx.lt
        have bxc0 := bx.cell 0
        have bxc1 := bx.cell 1
        simp at bxc0 bxc1
        have lrb := rb.lt
        have rbc0 := rb.cell 0
        have rbc1 := rb.cell 1
        simp at rbc0 rbc1
        have rbf0 := rb.frozen 0
        have HC2 : Hid (Below n0 w (wr.setCell ⟨n0 + 1 + 1, 0, none⟩ (.int .i64 (ob : Int)))) := Lib.hid (Below.setCell hC HQ.out.2.2 _)
        have hb2 := rb.set 0 (.int .i64 (ob : Int))
        simp at hb2
        have HRB := Lib.hid hb2
        have HRX := Lib.hid (bx.far (p := ⟨n0 + 1 + 1, 0, none⟩) (by show n0 ≠ n0 + 1 + 1; omega) (.int .i64 (ob : Int)))
        have HRS := Lib.hid (rs.far (p := ⟨n0 + 1 + 1, 0, none⟩) (by show n0 + 1 ≠ n0 + 1 + 1; omega) (.int .i64 (ob : Int)))
        clear hb2 bx rs rb hC
        go_wp2_with fail
        go_roundw
        case rel =>
          refine ⟨1, .slice Av nl cv, by omega, ?_, HRX.out, HRS.out, ?_, HO2.out, HC2.out⟩
          · rw [HK0.out]; rfl
          · have : oneBk bars us 1 = ob := by unfold oneBk; rw [if_neg (by decide), HOB.out]
            rw [this]; exact HRB.out
        case measure => simp [intOf]; omega
      obtain ⟨j, hj⟩ : ∃ j, k = j + 1 := ⟨k - 1, by omega⟩
      have hjs : j < ss.length := by omega
      obtain ⟨A', cap', bb', off', hve, hA, hc⟩ := RP.cells hS
      obtain ⟨rfl, hbb'⟩ := hA (by omega)
      injection hve with q1 q2 q3
      subst q1 q3
      obtain ⟨u, d1, hu1⟩ := hc j hjs
      obtain ⟨At, ct, rfl⟩ := hu1.slice
      have hwp := HV.out.wpos _ (nthS_mem hjs)
      have HOS := Lib.hid (oneW_succ ss us j)
      have hkj : k - 1 = j := by omega
      have HNK : Hid (numAt us (j + 1) = n) := Lib.hid (by rw [← hj]; exact HN.out)
      obtain ⟨q, hq⟩ : ∃ q, n % (nthS ss j).length = q := ⟨_, rfl⟩
      have hql : q < (nthS ss j).length := by rw [← hq]; exact Nat.mod_lt _ hwp.1
      have HQQ := Lib.hid hq
      obtain ⟨p, hp⟩ : ∃ p, (nthS ss j).length = p := ⟨_, rfl⟩
      rw [hp] at d1 hql hwp hq
      have r0 : (n : Int).tmod (p : Int) = (q : Int) := by rw [Int.tmod_eq_emod_of_nonneg (by omega), ← Int.natCast_emod, hq]
      have r2 : (0 : Int).tmod (p : Int) = (q : Int) := by have h9 := r0; rw [HZ.out] at h9; exact h9
      have y0 : ((p : Int) == 0) = false := beq_eq_false_iff_ne.2 (by omega)
      have y1 : (p : Int) ≠ 0 := by omega
      have y3 : (p = 0) = False := eq_false (by omega)
      have w1 : IntKind.i64.wrap (q : Int) = (q : Int) := by rw [IntKind.wrap_i64]; omega
      have w2 : IntKind.i64.wrap ((k : Int) - 1) = (j : Int) := by rw [IntKind.wrap_i64]; omega
      have wk : IntKind.i64.wrap ((k : Int) + 1) = (k : Int) + 1 := by rw [IntKind.wrap_i64]; omega
      have dk : ((k : Int) == 0) = false := beq_eq_false_iff_ne.2 (by omega)
      have hji : (j : Int) < (ss.length : Int) := by omega
      have HJ := Lib.hid hj
      have HKJ := Lib.hid hkj
      have hown := HOW.out
      rw [hkj] at hown
      have HPP := Lib.hid hp
      clear hA hc q2 hu1 hwp hq hp r0 hkj hj hk0
      have lbx := bx.lt
      have bxc0 := bx.cell 0
      have bxc1 := bx.cell 1
      simp at bxc0 bxc1
      have lrb := rb.lt
      have rbc0 := rb.cell 0
      have rbc1 := rb.cell 1
      simp at rbc0 rbc1
      go_upto_region 10 with fail
      refine wp_region_noPanic (plain_any [0, 1, 2, 3, 4, 5, 6, 7, 8, 9, 10, 11] (Below wr.heap.size wr) mixed ?_)
      (refine any_take 0 ?_ (by rfl) (by kernel_rfl) (fun _ _ _ _ _ hx => hx.elim) (.inl ⟨by rfl, ?_⟩) (by exact bel_of) ?_; rotate_left; (intro X hX; obtain ⟨r1, r2⟩ := Below.rules hX; clear hX; go_simp; rfl); simp only [List.getElem_toArray, List.getElem_cons_succ, List.getElem_cons_zero, Act.put, List.setIfInBounds_toArray, List.set_cons_succ, List.set_cons_zero])
      have d0z : Below wr.heap.size wr wr.drew := by exact bel_of
      (refine any_take 1 ?_ (by rfl) (by kernel_rfl) (fun _ _ _ _ _ hx => hx.elim) (.inl ⟨by rfl, ?_⟩) (by exact bel_of) ?_; rotate_left; (intro X hX; obtain ⟨r1, r2⟩ := Below.rules hX; clear hX; go_simp; rfl); simp only [List.getElem_toArray, List.getElem_cons_succ, List.getElem_cons_zero, Act.put, List.setIfInBounds_toArray, List.set_cons_succ, List.set_cons_zero])
      (refine any_take 2 ?_ (by rfl) (by kernel_rfl) (fun _ _ _ _ _ hx => hx.elim) (.inl ⟨by rfl, ?_⟩) (by exact bel_of) ?_; rotate_left; (intro X hX; obtain ⟨r1, r2⟩ := Below.rules hX; clear hX; go_simp; rfl); simp only [List.getElem_toArray, List.getElem_cons_succ, List.getElem_cons_zero, Act.put, List.setIfInBounds_toArray, List.set_cons_succ, List.set_cons_zero])
      (refine any_take 3 ?_ (by rfl) (by kernel_rfl) (fun _ _ _ _ _ hx => hx.elim) (.inl ⟨by rfl, ?_⟩) (by exact bel_of) ?_; rotate_left; (intro X hX; obtain ⟨r1, r2⟩ := Below.rules hX; clear hX; go_simp; rfl); simp only [List.getElem_toArray, List.getElem_cons_succ, List.getElem_cons_zero, Act.put, List.setIfInBounds_toArray, List.set_cons_succ, List.set_cons_zero])
      (refine any_take 4 ?_ (by rfl) (by kernel_rfl) (fun _ _ _ _ _ hx => hx.elim) (.inl ⟨by rfl, ?_⟩) (by exact bel_of) ?_; rotate_left; (intro X hX; obtain ⟨r1, r2⟩ := Below.rules hX; clear hX; go_simp; rfl); simp only [List.getElem_toArray, List.getElem_cons_succ, List.getElem_cons_zero, Act.put, List.setIfInBounds_toArray, List.set_cons_succ, List.set_cons_zero])
      (refine any_take 5 ?_ (by rfl) (by kernel_rfl) (fun _ _ _ _ _ hx => hx.elim) (.inl ⟨by rfl, ?_⟩) (by exact bel_of) ?_; rotate_left; (intro X hX; obtain ⟨r1, r2⟩ := Below.rules hX; clear hX; go_simp; rfl); simp only [List.getElem_toArray, List.getElem_cons_succ, List.getElem_cons_zero, Act.put, List.setIfInBounds_toArray, List.set_cons_succ, List.set_cons_zero])
      (refine any_take 6 ?_ (by rfl) (by kernel_rfl) (fun _ _ _ _ _ hx => hx.elim) (.inl ⟨by rfl, ?_⟩) (by exact bel_of) ?_; rotate_left; (intro X hX; obtain ⟨r1, r2⟩ := Below.rules hX; clear hX; go_simp; rfl); simp only [List.getElem_toArray, List.getElem_cons_succ, List.getElem_cons_zero, Act.put, List.setIfInBounds_toArray, List.set_cons_succ, List.set_cons_zero])
      (refine any_take 7 ?_ (by rfl) (by kernel_rfl) (fun _ _ _ _ _ hx => hx.elim) (.inl ⟨by rfl, ?_⟩) (by exact bel_of) ?_; rotate_left; (intro X hX; obtain ⟨r1, r2⟩ := Below.rules hX; clear hX; go_simp; rfl); simp only [List.getElem_toArray, List.getElem_cons_succ, List.getElem_cons_zero, Act.put, List.setIfInBounds_toArray, List.set_cons_succ, List.set_cons_zero])
      (refine any_take 8 ?_ (by rfl) (by kernel_rfl) (fun _ _ _ _ _ hx => hx.elim) (.inl ⟨by rfl, ?_⟩) (by exact bel_of) ?_; rotate_left; (intro X hX; obtain ⟨r1, r2⟩ := Below.rules hX; clear hX; go_simp; rfl); simp only [List.getElem_toArray, List.getElem_cons_succ, List.getElem_cons_zero, Act.put, List.setIfInBounds_toArray, List.set_cons_succ, List.set_cons_zero])
      (refine any_take 9 ?_ (by rfl) (by kernel_rfl) (fun _ _ _ _ _ hx => hx.elim) (.inl ⟨by rfl, ?_⟩) (by exact bel_of) ?_; rotate_left; (intro X hX; obtain ⟨r1, r2⟩ := Below.rules hX; clear hX; go_simp; rfl); simp only [List.getElem_toArray, List.getElem_cons_succ, List.getElem_cons_zero, Act.put, List.setIfInBounds_toArray, List.set_cons_succ, List.set_cons_zero])
      (refine any_take 10 ?_ (by rfl) (by kernel_rfl) (fun _ _ _ _ _ hx => hx.elim) (.inl ⟨by rfl, ?_⟩) (by exact bel_of) ?_; rotate_left; (intro X hX; obtain ⟨r1, r2⟩ := Below.rules hX; clear hX; go_simp; rfl); simp only [List.getElem_toArray, List.getElem_cons_succ, List.getElem_cons_zero, Act.put, List.setIfInBounds_toArray, List.set_cons_succ, List.set_cons_zero])
      (refine any_take 11 ?_ (by rfl) (by kernel_rfl) (fun _ _ _ _ _ hx => hx.elim) (.inl ⟨by rfl, ?_⟩) (by exact bel_of) ?_; rotate_left; (intro X hX; obtain ⟨r1, r2⟩ := Below.rules hX; clear hX; go_simp; rfl); simp only [List.getElem_toArray, List.getElem_cons_succ, List.getElem_cons_zero, Act.put, List.setIfInBounds_toArray, List.set_cons_succ, List.set_cons_zero])
      have qz1 := d0z.size
      have ez1 : Below wr.heap.size wr (wr.drew.alloc (.cells #[.int .i64 (q : Int)] 3)) := by exact bel_of
      refine any_run1 (i := 12) (by kernel_rfl) (by rfl) (by kernel_rfl) ?_
      intro K hK
      go_wp2_with fail
      refine hK _ _ (fun _ => ez1) ?_
      clear hK K
      have b9 : BK (wr.drew.alloc (.cells #[.int .i64 (q : Int)] 3)) (wr.drew.heap.size) #[.int .i64 (q : Int)] 3 := BK.new' _ _ _ _ rfl
      have o9 := own_below hown ez1
      have bx9 := bx.below ez1 bx.lt
      have rs9 := rs.below ez1 rs.lt
      have rb9 := rb.below ez1 rb.lt
      obtain ⟨v9, w9, hrun, hown', hbel, hsz, hkeep⟩ := app_b_i int_info int_slice o9 b9 (by rw [oneW_len]; omega) (by have := ez1.size; have := hC.size; omega)
      have hC9 := hbel w (hC.trans (ez1.mono (by have := hC.size; omega)))
      replace bx9 := hkeep _ _ _ bx9 (by decide)
      replace rs9 := hkeep _ _ _ rs9 (by decide)
      replace rb9 := hkeep _ _ _ rb9 (by decide)
      obtain ⟨A9, c9, rfl⟩ := own_slice hown'
      have hln : (oneW ss us j ++ [(q : Int)]).length = j + 1 := by rw [List.length_append, oneW_len]; rfl
      have hwq : oneW ss us (j + 1) = oneW ss us j ++ [(q : Int)] := by rw [HOS.out, HNK.out, HQQ.out]
      have hjl : (oneW ss us j).length = nl := by have h8 := HNL.out; have h9 := HKJ.out; rw [oneW_len] at h8 ⊢; omega
      rw [hln, hjl] at hrun
      clear hjl
      have hown3 := own_ri_set hown' rb9 (by decide) 1 (.slice A9 (j + 1) c9)
      rw [← hwq, oneW_len] at hown3
      have HO9 := Lib.hid hown3
      have hb2 := rb9.set 1 (.slice A9 (j + 1) c9)
      simp at hb2
      have HRB := Lib.hid hb2
      have HRX := Lib.hid (bx9.far (p := ⟨n0 + 1 + 1, 1, none⟩) (by show n0 ≠ n0 + 1 + 1; omega) (.slice A9 (j + 1) c9))
      have HRS := Lib.hid (rs9.far (p := ⟨n0 + 1 + 1, 1, none⟩) (by show n0 + 1 ≠ n0 + 1 + 1; omega) (.slice A9 (j + 1) c9))
      have HC9 : Hid (Below n0 w (w9.setCell ⟨n0 + 1 + 1, 1, none⟩ (.slice A9 (j + 1) c9))) := Lib.hid (Below.setCell hC9 HQ.out.2.2 _)
      have HRUN := Lib.hid hrun
      have lr9 := rb9.lt
      have rc9 := rb9.cell 1
      simp at rc9
      have rf9 := rb9.frozen 1
      clear hrun hown' hbel b9 o9 hC9 hsz hkeep hown hown3 hb2 hln hwq bx9 rs9 rb9
      refine any_run1 (i := 13) (by kernel_rfl) (by rfl) (by kernel_rfl) ?_
      intro K hK
      refine wp_append_run (.tmp 35) (.tmp 46) 40 _ rfl HRUN.out ?_
      refine hK _ _ (fun hx => (Bool.false_ne_true (hx.symm.trans (by kernel_rfl))).elim) ?_
      clear hK K
      simp only [List.getElem_toArray, List.getElem_cons_succ, List.getElem_cons_zero, Act.put, List.setIfInBounds_toArray, List.set_cons_succ, List.set_cons_zero]
      refine any_run1 (i := 14) (by kernel_rfl) (by rfl) (by kernel_rfl) ?_
      intro K hK
      go_wp2_with fail
      refine hK _ _ (fun hx => (Bool.false_ne_true (hx.symm.trans (by kernel_rfl))).elim) ?_
      clear hK K
      refine any_run1 (i := 15) (by kernel_rfl) (by rfl) (by kernel_rfl) ?_
      intro K hK
      go_wp2_with fail
      refine hK _ _ (fun hx => (Bool.false_ne_true (hx.symm.trans (by kernel_rfl))).elim) ?_
      clear hK K
      refine any_done (by kernel_rfl) (NoPanic.normal ?_)
      clear bx rs rb lr9 rc9 rf9
      go_wp2_with fail
      go_roundw
      case rel =>
        refine ⟨k + 1, .slice A9 (j + 1) c9, by omega, by go_num, HRX.out, HRS.out, ?_, ?_, HC9.out⟩
        · have : oneBk bars us (k + 1) = oneBk bars us k := by unfold oneBk; rw [if_neg (by omega), if_neg (by have := HJ.out; omega)]
          rw [this]; exact HRB.out
        · rw [show k + 1 - 1 = j + 1 by have := HJ.out; omega]; exact HO9.out
      case measure => simp [intOf]; omega
    have zu : (us.length : Int) > 0 := by omega
    obtain ⟨s, hs⟩ : ∃ s, k % us.length = s := ⟨_, rfl⟩
    have hsl : s < us.length := by rw [← hs]; exact Nat.mod_lt _ (by omega)
    have hng : us.getD s 0 = n := by rw [← hn, ← hs]; unfold numAt; rw [if_neg hu0]
    have e1 : (k : Int) % (us.length : Int) = (s : Int) := by rw [← Int.natCast_emod, hs]
    have t1 : (k : Int).tmod (us.length : Int) = (s : Int) := by rw [Int.tmod_eq_emod_of_nonneg (by omega), e1]
    have ye0 : ((us.length : Int) == 0) = false := beq_eq_false_iff_ne.2 (by omega)
    have ye2 : (us.length : Int) ≠ 0 := by omega
    obtain ⟨A', cap', bb, off, hve, hA, hc⟩ := RU.cells hU
    obtain ⟨rfl, hbb⟩ := hA (by omega)
    injection hve with q1 q2 q3
    subst q1 q3
    have hcl := hc s hsl
    rw [hng] at hcl
    clear hA hc q2 hs hn hng hu0
    have lbx := bx.lt
    have bxc0 := bx.cell 0
    have bxc1 := bx.cell 1
    simp at bxc0 bxc1
    have lrb := rb.lt
    have rbc0 := rb.cell 0
    have rbc1 := rb.cell 1
    simp at rbc0 rbc1
    go_upto_region 8 with fail
    clear lbx bxc0 bxc1
    clear lrb rbc0 rbc1
    clear zu e1 t1 ye0 ye2 hcl hbb hsl
    by_cases hk0 : k = 0
    case pos =>
      have hrm : n % bars.length = oneB bars us := by have := HN.out; rw [hk0] at this; rw [← this]; rfl
      have hrm2 : (n : Int) % (bars.length : Int) = (oneB bars us : Int) := by rw [← Int.natCast_emod, hrm]
      have hown2 := own_ri_set HOW.out rb (by decide) 0 (.int .i64 (oneB bars us : Nat))
      rw [HNL.out] at hown2
      have hz : oneW ss us (k - 1) = oneW ss us (1 - 1) := by rw [hk0]
      rw [hz] at hown2
      have d0 : ((k : Int) == 0) = true := by rw [hk0]; rfl
      have r1 : (n : Int) % (bars.length : Int) = (oneB bars us : Int) := by exact hrm2
      have r2 : (n : Int).tmod (bars.length : Int) = (oneB bars us : Int) := by rw [Int.tmod_eq_emod_of_nonneg (by omega), r1]
      have y0 : ((bars.length : Int) == 0) = false := beq_eq_false_iff_ne.2 (by omega)
      have y1 : (bars.length : Int) ≠ 0 := by omega
      have hol : oneB bars us < bars.length := Nat.mod_lt _ hbp
      obtain ⟨ob, hob⟩ : ∃ n, oneB bars us = n := ⟨_, rfl⟩
      rw [hob] at r1 r2 hol hown2
      have HO2 := Lib.hid hown2
      have HOB := Lib.hid hob
      have w1 : IntKind.i64.wrap (ob : Int) = (ob : Int) := by rw [IntKind.wrap_i64]; omega
      have wk : IntKind.i64.wrap ((k : Int) + 1) = (k : Int) + 1 := by rw [IntKind.wrap_i64]; omega
      have HK0 := Lib.hid hk0
      clear hob hrm hrm2 hown2 hz hk0
      have lbx := bx.lt
      have bxc0 := bx.cell 0
      have bxc1 := bx.cell 1
      simp at bxc0 bxc1
      have lrb := rb.lt
      have rbc0 := rb.cell 0
      have rbc1 := rb.cell 1
      simp at rbc0 rbc1
      have rbf0 := rb.frozen 0
      have HC2 : Hid (Below n0 w (wr.setCell ⟨n0 + 1 + 1, 0, none⟩ (.int .i64 (ob : Int)))) := Lib.hid (Below.setCell hC HQ.out.2.2 _)
      have hb2 := rb.set 0 (.int .i64 (ob : Int))
      simp at hb2
      have HRB := Lib.hid hb2
      have HRX := Lib.hid (bx.far (p := ⟨n0 + 1 + 1, 0, none⟩) (by show n0 ≠ n0 + 1 + 1; omega) (.int .i64 (ob : Int)))
      have HRS := Lib.hid (rs.far (p := ⟨n0 + 1 + 1, 0, none⟩) (by show n0 + 1 ≠ n0 + 1 + 1; omega) (.int .i64 (ob : Int)))
      clear hb2 bx rs rb hC
      go_wp2_with fail
      go_roundw
      case rel =>
        refine ⟨1, .slice Av nl cv, by omega, ?_, HRX.out, HRS.out, ?_, HO2.out, HC2.out⟩
        · rw [HK0.out]; rfl
        · have : oneBk bars us 1 = ob := by unfold oneBk; rw [if_neg (by decide), HOB.out]
          rw [this]; exact HRB.out
      case measure => simp [intOf]; omega
    obtain ⟨j, hj⟩ : ∃ j, k = j + 1 := ⟨k - 1, by omega⟩
    have hjs : j < ss.length := by omega
    obtain ⟨A', cap', bb', off', hve, hA, hc⟩ := RP.cells hS
    obtain ⟨rfl, hbb'⟩ := hA (by omega)
    injection hve with q1 q2 q3
    subst q1 q3
    obtain ⟨u, d1, hu1⟩ := hc j hjs
    obtain ⟨At, ct, rfl⟩ := hu1.slice
    have hwp := HV.out.wpos _ (nthS_mem hjs)
    have HOS := Lib.hid (oneW_succ ss us j)
    have hkj : k - 1 = j := by omega
    have HNK : Hid (numAt us (j + 1) = n) := Lib.hid (by rw [← hj]; exact HN.out)
    obtain ⟨q, hq⟩ : ∃ q, n % (nthS ss j).length = q := ⟨_, rfl⟩
    have hql : q < (nthS ss j).length := by rw [← hq]; exact Nat.mod_lt _ hwp.1
    have HQQ := Lib.hid hq
    obtain ⟨p, hp⟩ : ∃ p, (nthS ss j).length = p := ⟨_, rfl⟩
    rw [hp] at d1 hql hwp hq
    have r0 : (n : Int).tmod (p : Int) = (q : Int) := by rw [Int.tmod_eq_emod_of_nonneg (by omega), ← Int.natCast_emod, hq]
    have r2 : (n : Int).tmod (p : Int) = (q : Int) := by exact r0
    have y0 : ((p : Int) == 0) = false := beq_eq_false_iff_ne.2 (by omega)
    have y1 : (p : Int) ≠ 0 := by omega
    have y3 : (p = 0) = False := eq_false (by omega)
    have w1 : IntKind.i64.wrap (q : Int) = (q : Int) := by rw [IntKind.wrap_i64]; omega
    have w2 : IntKind.i64.wrap ((k : Int) - 1) = (j : Int) := by rw [IntKind.wrap_i64]; omega
    have wk : IntKind.i64.wrap ((k : Int) + 1) = (k : Int) + 1 := by rw [IntKind.wrap_i64]; omega
    have dk : ((k : Int) == 0) = false := beq_eq_false_iff_ne.2 (by omega)
    have hji : (j : Int) < (ss.length : Int) := by omega
    have HJ := Lib.hid hj
    have HKJ := Lib.hid hkj
    have hown := HOW.out
    rw [hkj] at hown
    have HPP := Lib.hid hp
    clear hA hc q2 hu1 hwp hq hp r0 hkj hj hk0
    have lbx := bx.lt
    have bxc0 := bx.cell 0
    have bxc1 := bx.cell 1
    simp at bxc0 bxc1
    have lrb := rb.lt
    have rbc0 := rb.cell 0
    have rbc1 := rb.cell 1
    simp at rbc0 rbc1
    go_upto_region 10 with fail
    refine wp_region_noPanic (plain_any [0, 1, 2, 3, 4, 5, 6, 7, 8, 9, 10, 11] (Below wr.heap.size wr) mixed ?_)
    (refine any_take 0 ?_ (by rfl) (by kernel_rfl) (fun _ _ _ _ _ hx => hx.elim) (.inl ⟨by rfl, ?_⟩) (by exact bel_of) ?_; rotate_left; (intro X hX; obtain ⟨r1, r2⟩ := Below.rules hX; clear hX; go_simp; rfl); simp only [List.getElem_toArray, List.getElem_cons_succ, List.getElem_cons_zero, Act.put, List.setIfInBounds_toArray, List.set_cons_succ, List.set_cons_zero])
    have d0z : Below wr.heap.size wr wr.drew := by exact bel_of
    (refine any_take 1 ?_ (by rfl) (by kernel_rfl) (fun _ _ _ _ _ hx => hx.elim) (.inl ⟨by rfl, ?_⟩) (by exact bel_of) ?_; rotate_left; (intro X hX; obtain ⟨r1, r2⟩ := Below.rules hX; clear hX; go_simp; rfl); simp only [List.getElem_toArray, List.getElem_cons_succ, List.getElem_cons_zero, Act.put, List.setIfInBounds_toArray, List.set_cons_succ, List.set_cons_zero])
    (refine any_take 2 ?_ (by rfl) (by kernel_rfl) (fun _ _ _ _ _ hx => hx.elim) (.inl ⟨by rfl, ?_⟩) (by exact bel_of) ?_; rotate_left; (intro X hX; obtain ⟨r1, r2⟩ := Below.rules hX; clear hX; go_simp; rfl); simp only [List.getElem_toArray, List.getElem_cons_succ, List.getElem_cons_zero, Act.put, List.setIfInBounds_toArray, List.set_cons_succ, List.set_cons_zero])
    (refine any_take 3 ?_ (by rfl) (by kernel_rfl) (fun _ _ _ _ _ hx => hx.elim) (.inl ⟨by rfl, ?_⟩) (by exact bel_of) ?_; rotate_left; (intro X hX; obtain ⟨r1, r2⟩ := Below.rules hX; clear hX; go_simp; rfl); simp only [List.getElem_toArray, List.getElem_cons_succ, List.getElem_cons_zero, Act.put, List.setIfInBounds_toArray, List.set_cons_succ, List.set_cons_zero])
    (refine any_take 4 ?_ (by rfl) (by kernel_rfl) (fun _ _ _ _ _ hx => hx.elim) (.inl ⟨by rfl, ?_⟩) (by exact bel_of) ?_; rotate_left; (intro X hX; obtain ⟨r1, r2⟩ := Below.rules hX; clear hX; go_simp; rfl); simp only [List.getElem_toArray, List.getElem_cons_succ, List.getElem_cons_zero, Act.put, List.setIfInBounds_toArray, List.set_cons_succ, List.set_cons_zero])
    (refine any_take 5 ?_ (by rfl) (by kernel_rfl) (fun _ _ _ _ _ hx => hx.elim) (.inl ⟨by rfl, ?_⟩) (by exact bel_of) ?_; rotate_left; (intro X hX; obtain ⟨r1, r2⟩ := Below.rules hX; clear hX; go_simp; rfl); simp only [List.getElem_toArray, List.getElem_cons_succ, List.getElem_cons_zero, Act.put, List.setIfInBounds_toArray, List.set_cons_succ, List.set_cons_zero])
    (refine any_take 6 ?_ (by rfl) (by kernel_rfl) (fun _ _ _ _ _ hx => hx.elim) (.inl ⟨by rfl, ?_⟩) (by exact bel_of) ?_; rotate_left; (intro X hX; obtain ⟨r1, r2⟩ := Below.rules hX; clear hX; go_simp; rfl); simp only [List.getElem_toArray, List.getElem_cons_succ, List.getElem_cons_zero, Act.put, List.setIfInBounds_toArray, List.set_cons_succ, List.set_cons_zero])
    (refine any_take 7 ?_ (by rfl) (by kernel_rfl) (fun _ _ _ _ _ hx => hx.elim) (.inl ⟨by rfl, ?_⟩) (by exact bel_of) ?_; rotate_left; (intro X hX; obtain ⟨r1, r2⟩ := Below.rules hX; clear hX; go_simp; rfl); simp only [List.getElem_toArray, List.getElem_cons_succ, List.getElem_cons_zero, Act.put, List.setIfInBounds_toArray, List.set_cons_succ, List.set_cons_zero])
    (refine any_take 8 ?_ (by rfl) (by kernel_rfl) (fun _ _ _ _ _ hx => hx.elim) (.inl ⟨by rfl, ?_⟩) (by exact bel_of) ?_; rotate_left; (intro X hX; obtain ⟨r1, r2⟩ := Below.rules hX; clear hX; go_simp; rfl); simp only [List.getElem_toArray, List.getElem_cons_succ, List.getElem_cons_zero, Act.put, List.setIfInBounds_toArray, List.set_cons_succ, List.set_cons_zero])
    (refine any_take 9 ?_ (by rfl) (by kernel_rfl) (fun _ _ _ _ _ hx => hx.elim) (.inl ⟨by rfl, ?_⟩) (by exact bel_of) ?_; rotate_left; (intro X hX; obtain ⟨r1, r2⟩ := Below.rules hX; clear hX; go_simp; rfl); simp only [List.getElem_toArray, List.getElem_cons_succ, List.getElem_cons_zero, Act.put, List.setIfInBounds_toArray, List.set_cons_succ, List.set_cons_zero])
    (refine any_take 10 ?_ (by rfl) (by kernel_rfl) (fun _ _ _ _ _ hx => hx.elim) (.inl ⟨by rfl, ?_⟩) (by exact bel_of) ?_; rotate_left; (intro X hX; obtain ⟨r1, r2⟩ := Below.rules hX; clear hX; go_simp; rfl); simp only [List.getElem_toArray, List.getElem_cons_succ, List.getElem_cons_zero, Act.put, List.setIfInBounds_toArray, List.set_cons_succ, List.set_cons_zero])
    (refine any_take 11 ?_ (by rfl) (by kernel_rfl) (fun _ _ _ _ _ hx => hx.elim) (.inl ⟨by rfl, ?_⟩) (by exact bel_of) ?_; rotate_left; (intro X hX; obtain ⟨r1, r2⟩ := Below.rules hX; clear hX; go_simp; rfl); simp only [List.getElem_toArray, List.getElem_cons_succ, List.getElem_cons_zero, Act.put, List.setIfInBounds_toArray, List.set_cons_succ, List.set_cons_zero])
    have qz1 := d0z.size
    have ez1 : Below wr.heap.size wr (wr.drew.alloc (.cells #[.int .i64 (q : Int)] 3)) := by exact bel_of
    refine any_run1 (i := 12) (by kernel_rfl) (by rfl) (by kernel_rfl) ?_
    intro K hK
    go_wp2_with fail
    refine hK _ _ (fun _ => ez1) ?_
    clear hK K
    have b9 : BK (wr.drew.alloc (.cells #[.int .i64 (q : Int)] 3)) (wr.drew.heap.size) #[.int .i64 (q : Int)] 3 := BK.new' _ _ _ _ rfl
    have o9 := own_below hown ez1
    have bx9 := bx.below ez1 bx.lt
    have rs9 := rs.below ez1 rs.lt
    have rb9 := rb.below ez1 rb.lt
    obtain ⟨v9, w9, hrun, hown', hbel, hsz, hkeep⟩ := app_b_i int_info int_slice o9 b9 (by rw [oneW_len]; omega) (by have := ez1.size; have := hC.size; omega)
    have hC9 := hbel w (hC.trans (ez1.mono (by have := hC.size; omega)))
    replace bx9 := hkeep _ _ _ bx9 (by decide)
    replace rs9 := hkeep _ _ _ rs9 (by decide)
    replace rb9 := hkeep _ _ _ rb9 (by decide)
    obtain ⟨A9, c9, rfl⟩ := own_slice hown'
    have hln : (oneW ss us j ++ [(q : Int)]).length = j + 1 := by rw [List.length_append, oneW_len]; rfl
    have hwq : oneW ss us (j + 1) = oneW ss us j ++ [(q : Int)] := by rw [HOS.out, HNK.out, HQQ.out]
    have hjl : (oneW ss us j).length = nl := by have h8 := HNL.out; have h9 := HKJ.out; rw [oneW_len] at h8 ⊢; omega
    rw [hln, hjl] at hrun
    clear hjl
    have hown3 := own_ri_set hown' rb9 (by decide) 1 (.slice A9 (j + 1) c9)
    rw [← hwq, oneW_len] at hown3
    have HO9 := Lib.hid hown3
    have hb2 := rb9.set 1 (.slice A9 (j + 1) c9)
    simp at hb2
    have HRB := Lib.hid hb2
    have HRX := Lib.hid (bx9.far (p := ⟨n0 + 1 + 1, 1, none⟩) (by show n0 ≠ n0 + 1 + 1; omega) (.slice A9 (j + 1) c9))
    have HRS := Lib.hid (rs9.far (p := ⟨n0 + 1 + 1, 1, none⟩) (by show n0 + 1 ≠ n0 + 1 + 1; omega) (.slice A9 (j + 1) c9))
    have HC9 : Hid (Below n0 w (w9.setCell ⟨n0 + 1 + 1, 1, none⟩ (.slice A9 (j + 1) c9))) := Lib.hid (Below.setCell hC9 HQ.out.2.2 _)
    have HRUN := Lib.hid hrun
    have lr9 := rb9.lt
    have rc9 := rb9.cell 1
    simp at rc9
    have rf9 := rb9.frozen 1
    clear hrun hown' hbel b9 o9 hC9 hsz hkeep hown hown3 hb2 hln hwq bx9 rs9 rb9
    refine any_run1 (i := 13) (by kernel_rfl) (by rfl) (by kernel_rfl) ?_
    intro K hK
    refine wp_append_run (.tmp 35) (.tmp 46) 40 _ rfl HRUN.out ?_
    refine hK _ _ (fun hx => (Bool.false_ne_true (hx.symm.trans (by kernel_rfl))).elim) ?_
    clear hK K
    simp only [List.getElem_toArray, List.getElem_cons_succ, List.getElem_cons_zero, Act.put, List.setIfInBounds_toArray, List.set_cons_succ, List.set_cons_zero]
    refine any_run1 (i := 14) (by kernel_rfl) (by rfl) (by kernel_rfl) ?_
    intro K hK
    go_wp2_with fail
    refine hK _ _ (fun hx => (Bool.false_ne_true (hx.symm.trans (by kernel_rfl))).elim) ?_
    clear hK K
    refine any_run1 (i := 15) (by kernel_rfl) (by rfl) (by kernel_rfl) ?_
    intro K hK
    go_wp2_with fail
    refine hK _ _ (fun hx => (Bool.false_ne_true (hx.symm.trans (by kernel_rfl))).elim) ?_
    clear hK K
    refine any_done (by kernel_rfl) (NoPanic.normal ?_)
    clear bx rs rb lr9 rc9 rf9
    go_wp2_with fail
    go_roundw
    case rel =>
      refine ⟨k + 1, .slice A9 (j + 1) c9, by omega, by go_num, HRX.out, HRS.out, ?_, ?_, HC9.out⟩
      · have : oneBk bars us (k + 1) = oneBk bars us k := by unfold oneBk; rw [if_neg (by omega), if_neg (by have := HJ.out; omega)]
        rw [this]; exact HRB.out
      · rw [show k + 1 - 1 = j + 1 by have := HJ.out; omega]; exact HO9.out
    case measure => simp [intOf]; omega
end Go.Proofs.Ytkibdciomheekaa

set_option linter.all false
namespace Go.Proofs.Ytkibdciomheekaa
open Go.RowKit Hp

/-- The hardness that is meant in a range. -/
def truH (ys : List Nat) (k : Nat) (r : Rg) : Int := r.lo + (numAt ys k : Int) % (r.hi - r.lo + 1)
/-- The range before the step k. -/
def truR (r : Rg) (ws : List Wy) (ys : List Nat) : Nat → Rg
  | 0 => r
  | k + 1 => aft (nthW ws k) (truH ys k (truR r ws ys k))
def truL (r : Rg) (ws : List Wy) (ys : List Nat) (n : Nat) : List Int := (List.range n).map fun k => truH ys k (truR r ws ys k)
theorem truL_succ (r : Rg) (ws : List Wy) (ys : List Nat) (n : Nat) : truL r ws ys (n + 1) = truL r ws ys n ++ [truH ys n (truR r ws ys n)] := by simp [truL, List.range_succ]
theorem truL_len (r : Rg) (ws : List Wy) (ys : List Nat) (n : Nat) : (truL r ws ys n).length = n := by simp [truL]
theorem truH_in {ys : List Nat} {k : Nat} {r : Rg} (h : OkR r) : inR (truH ys k r) r = true := by
  obtain ⟨h1, h2, h3⟩ := h
  have a := Int.emod_nonneg (numAt ys k : Int) (show r.hi - r.lo + 1 ≠ 0 by omega)
  have b := Int.emod_lt_of_pos (numAt ys k : Int) (show 0 < r.hi - r.lo + 1 by omega)
  refine inR_iff.2 ?_
  unfold truH
  omega
theorem truR_ok {r : Rg} {ws : List Wy} (ys : List Nat) (h : OkR r) (ok : ∀ w ∈ ws, OkW w) : ∀ k, k ≤ ws.length → OkR (truR r ws ys k)
  | 0, _ => h
  | k + 1, hk => by
    have ih := truR_ok ys h ok k (by omega)
    have hi := inR_iff.1 (truH_in (ys := ys) (k := k) ih)
    exact aft_rng (ok _ (nthW_mem (by omega))) (by have := ih.2.1; omega)
theorem truL_at {r : Rg} {ws : List Wy} {ys : List Nat} {n k : Nat} (h : k < n) : nthI (truL r ws ys n) k = truH ys k (truR r ws ys k) := by simp [nthI, truL, h]
theorem truL_hist {r : Rg} {ws : List Wy} (ys : List Nat) (h : OkR r) (ok : ∀ w ∈ ws, OkW w) : histB r ws (truL r ws ys (ws.length + 1)) = true := by
  have : ∀ j, j ≤ ws.length → histB (truR r ws ys (ws.length - j)) (ws.drop (ws.length - j)) ((truL r ws ys (ws.length + 1)).drop (ws.length - j)) = true := by
    intro j
    induction j with
    | zero =>
      intro _
      rw [Nat.sub_zero, hist_end (truL_len ..), truL_at (by omega)]
      exact truH_in (truR_ok ys h ok _ (Nat.le_refl _))
    | succ j ih =>
      intro hj
      have h1 := ih (by omega)
      rw [hist_step (by omega) (by rw [truL_len]; omega), truL_at (by omega), show ws.length - (j + 1) + 1 = ws.length - j by omega, Bool.and_eq_true]
      refine ⟨truH_in (truR_ok ys h ok _ (by omega)), ?_⟩
      have e : aft (nthW ws (ws.length - (j + 1))) (truH ys (ws.length - (j + 1)) (truR r ws ys (ws.length - (j + 1)))) = truR r ws ys (ws.length - j) := by
        rw [show ws.length - j = ws.length - (j + 1) + 1 by omega]; rfl
      rw [e]; exact h1
  have h2 := this ws.length (Nat.le_refl _)
  rw [Nat.sub_self] at h2
  exact h2
def truV (bars : List Rg) (ss : List Stp) (b : Int) (ks : List Int) (ys : List Nat) : List Int := truL (nthB bars b.toNat) (pick ss (nats ks)) ys (ss.length + 1)
theorem truV_len {bars : List Rg} {ss : List Stp} {b : Int} {ks : List Int} {ys : List Nat} : (truV bars ss b ks ys).length = ss.length + 1 := truL_len ..
theorem truV_hist {bars : List Rg} {ss : List Stp} {b : Int} {ks : List Int} (ys : List Nat) (OR : OkRec bars ss b ks) : histB (nthB bars b.toNat) (pick ss (nats ks)) (truV bars ss b ks ys) = true := by
  have := truL_hist ys (OR.works.bok _ (nthB_mem OR.bhi)) (pick_ok OR.works.sok OR.ways)
  rw [pick_len OR.ways] at this
  exact this
theorem truV_ok {bars : List Rg} {ss : List Stp} {b : Int} {ks : List Int} (ys : List Nat) (OR : OkRec bars ss b ks) : histE bars ss b ks (truV bars ss b ks ys) = 0 := by
  rw [histE_at (recE_of OR) truV_len (truV_hist ys OR), if_pos rfl]

set_option maxHeartbeats 8000000 in
set_option maxRecDepth 100000 in
theorem true_any (bars : List Rg) (ss : List Stp) (b : Int) (ks : List Int) (ys : List Nat) (vb vs vk vy : Value) (w : World) (hf : Fit bars ss) (OR : OkRec bars ss b ks) (hy : ∀ x ∈ ys, x ≤ 4294967295) (hly : ys.length ≤ 20) (hB : RR w w.heap.size vb bars) (hS : RP w w.heap.size vs ss) (hR : RI w w.heap.size vk ks) (hY : RU .u32 w w.heap.size vy ys) :
    Calls Try.prog 45 #[.agg #[vb, vs], .agg #[.int .i64 b, vk], vy] w fun e w' => ∃ v, e = .returned v ∧ RI w' w'.heap.size v (truV bars ss b ks ys) ∧ Below w.heap.size w w' := by
  have HF := Lib.hid hf
  have HY := Lib.hid hy
  have hs6 := OR.works.sfew
  have HOK := Lib.hid (pick_ok OR.works.sok OR.ways)
  have HPL := Lib.hid (pick_len OR.ways)
  have HBR := Lib.hid (OR.works.bok _ (nthB_mem OR.bhi))
  have HWP := Lib.hid OR.works.wpos
  have hke : ks.length = ss.length := by have := allR_len OR.ways; simpa [nats] using this
  have HKE := Lib.hid hke
  have HOR := Lib.hid OR
  have hb0 := OR.blo
  have hb1 := OR.bhi
  clear hf hy OR hke
  obtain ⟨Ab, cb, rfl⟩ := hB.slice
  obtain ⟨As, cs, rfl⟩ := hS.slice
  obtain ⟨Ar, cr, rfl⟩ := ri_slice hR
  obtain ⟨Ay, cy, rfl⟩ := ru_slice hY
  obtain ⟨n0, hn0⟩ : ∃ n, w.heap.size = n := ⟨_, rfl⟩
  have hC : Below n0 w w := Below.refl _ _
  go_enter Try.func45, Try.ntmps45
  have HB0 := Lib.hid hB
  have HS0 := Lib.hid hS
  have HR0 := Lib.hid hR
  have HY0 := Lib.hid hY
  rw [hn0] at HB0 HS0 HR0 HY0
  go_upto_region 1 with fail
  have hqbx : n0 ≤ n0 := by have := hC.size; omega
  have bx : BK (w.alloc (.cells #[.slice Ab bars.length cb, .slice As ss.length cs] 25)) (n0) #[.slice Ab bars.length cb, .slice As ss.length cs] 25 := BK.new' _ _ _ (n0) hn0
  have hsbx : (w.alloc (.cells #[.slice Ab bars.length cb, .slice As ss.length cs] 25)).heap.size = n0 + 1 := by simp [hn0]
  replace hC : Below n0 w (w.alloc (.cells #[.slice Ab bars.length cb, .slice As ss.length cs] 25)) := Below.alloc hC (by have := hC.size; omega) _
  replace hB := (RS.below hB (w' := (w.alloc (.cells #[.slice Ab bars.length cb, .slice As ss.length cs] 25))) (Below.alloc (Below.refl _ _) (Nat.le_refl _) _)).more (B' := (w.alloc (.cells #[.slice Ab bars.length cb, .slice As ss.length cs] 25)).heap.size) (by simp)
  replace hS := (RP.below hS (w' := (w.alloc (.cells #[.slice Ab bars.length cb, .slice As ss.length cs] 25))) (Below.alloc (Below.refl _ _) (Nat.le_refl _) _)).more (B' := (w.alloc (.cells #[.slice Ab bars.length cb, .slice As ss.length cs] 25)).heap.size) (by simp)
  replace hR := (RS.below hR (w' := (w.alloc (.cells #[.slice Ab bars.length cb, .slice As ss.length cs] 25))) (Below.alloc (Below.refl _ _) (Nat.le_refl _) _)).more (B' := (w.alloc (.cells #[.slice Ab bars.length cb, .slice As ss.length cs] 25)).heap.size) (by simp)
  replace hY := (RU.below hY (w' := (w.alloc (.cells #[.slice Ab bars.length cb, .slice As ss.length cs] 25))) (Below.alloc (Below.refl _ _) (Nat.le_refl _) _)).more (B' := (w.alloc (.cells #[.slice Ab bars.length cb, .slice As ss.length cs] 25)).heap.size) (by simp)
  generalize (w.alloc (.cells #[.slice Ab bars.length cb, .slice As ss.length cs] 25)) = Wbx at *
  have hqwx : n0 ≤ n0 + 1 := by have := hC.size; omega
  have wx : BK (Wbx.alloc (.cells #[.int .i64 b, .slice Ar ks.length cr] 42)) (n0 + 1) #[.int .i64 b, .slice Ar ks.length cr] 42 := BK.new' _ _ _ (n0 + 1) hsbx
  have hswx : (Wbx.alloc (.cells #[.int .i64 b, .slice Ar ks.length cr] 42)).heap.size = n0 + 1 + 1 := by simp [hsbx]
  replace hC : Below n0 w (Wbx.alloc (.cells #[.int .i64 b, .slice Ar ks.length cr] 42)) := Below.alloc hC (by have := hC.size; omega) _
  replace hB := (RS.below hB (w' := (Wbx.alloc (.cells #[.int .i64 b, .slice Ar ks.length cr] 42))) (Below.alloc (Below.refl _ _) (Nat.le_refl _) _)).more (B' := (Wbx.alloc (.cells #[.int .i64 b, .slice Ar ks.length cr] 42)).heap.size) (by simp)
  replace hS := (RP.below hS (w' := (Wbx.alloc (.cells #[.int .i64 b, .slice Ar ks.length cr] 42))) (Below.alloc (Below.refl _ _) (Nat.le_refl _) _)).more (B' := (Wbx.alloc (.cells #[.int .i64 b, .slice Ar ks.length cr] 42)).heap.size) (by simp)
  replace hR := (RS.below hR (w' := (Wbx.alloc (.cells #[.int .i64 b, .slice Ar ks.length cr] 42))) (Below.alloc (Below.refl _ _) (Nat.le_refl _) _)).more (B' := (Wbx.alloc (.cells #[.int .i64 b, .slice Ar ks.length cr] 42)).heap.size) (by simp)
  replace hY := (RU.below hY (w' := (Wbx.alloc (.cells #[.int .i64 b, .slice Ar ks.length cr] 42))) (Below.alloc (Below.refl _ _) (Nat.le_refl _) _)).more (B' := (Wbx.alloc (.cells #[.int .i64 b, .slice Ar ks.length cr] 42)).heap.size) (by simp)
  replace bx := bx.alloc (.cells #[.int .i64 b, .slice Ar ks.length cr] 42)
  generalize (Wbx.alloc (.cells #[.int .i64 b, .slice Ar ks.length cr] 42)) = Wwx at *
  clear hsbx
  obtain ⟨A', cap', bb, off, hve, hA, hc⟩ := RR.cells hB
  obtain ⟨rfl, hbb⟩ := hA (by omega)
  injection hve with q1 q2 q3
  subst q1 q3
  obtain ⟨d0, d1⟩ := hc b.toNat hb1
  obtain ⟨nb, rfl⟩ : ∃ n : Nat, b = n := ⟨b.toNat, by omega⟩
  rw [Int.toNat_natCast] at d0 d1 hb1 HBR
  have hb2 : (nb : Int) < (bars.length : Int) := by omega
  obtain ⟨r0, hr⟩ : ∃ r, nthB bars nb = r := ⟨_, rfl⟩
  rw [hr] at d0 d1 HBR
  have HR1 := Lib.hid hr
  clear hA hc q2 hr
  have lbx := bx.lt
  have bxc0 := bx.cell 0
  have bxc1 := bx.cell 1
  simp at bxc0 bxc1
  have lwx := wx.lt
  have wxc0 := wx.cell 0
  have wxc1 := wx.cell 1
  simp at wxc0 wxc1
  go_upto_region 2 with fail
  clear lbx bxc0 bxc1
  clear lwx wxc0 wxc1
  clear d0 d1 hbb hb2
  have hqrx : n0 ≤ n0 + 1 + 1 := by have := hC.size; omega
  have rx : BK (Wwx.alloc (.cells #[.int .i64 r0.lo, .int .i64 r0.hi] 33)) (n0 + 1 + 1) #[.int .i64 r0.lo, .int .i64 r0.hi] 33 := BK.new' _ _ _ (n0 + 1 + 1) hswx
  have hsrx : (Wwx.alloc (.cells #[.int .i64 r0.lo, .int .i64 r0.hi] 33)).heap.size = n0 + 1 + 1 + 1 := by simp [hswx]
  replace hC : Below n0 w (Wwx.alloc (.cells #[.int .i64 r0.lo, .int .i64 r0.hi] 33)) := Below.alloc hC (by have := hC.size; omega) _
  replace hB := (RS.below hB (w' := (Wwx.alloc (.cells #[.int .i64 r0.lo, .int .i64 r0.hi] 33))) (Below.alloc (Below.refl _ _) (Nat.le_refl _) _)).more (B' := (Wwx.alloc (.cells #[.int .i64 r0.lo, .int .i64 r0.hi] 33)).heap.size) (by simp)
  replace hS := (RP.below hS (w' := (Wwx.alloc (.cells #[.int .i64 r0.lo, .int .i64 r0.hi] 33))) (Below.alloc (Below.refl _ _) (Nat.le_refl _) _)).more (B' := (Wwx.alloc (.cells #[.int .i64 r0.lo, .int .i64 r0.hi] 33)).heap.size) (by simp)
  replace hR := (RS.below hR (w' := (Wwx.alloc (.cells #[.int .i64 r0.lo, .int .i64 r0.hi] 33))) (Below.alloc (Below.refl _ _) (Nat.le_refl _) _)).more (B' := (Wwx.alloc (.cells #[.int .i64 r0.lo, .int .i64 r0.hi] 33)).heap.size) (by simp)
  replace hY := (RU.below hY (w' := (Wwx.alloc (.cells #[.int .i64 r0.lo, .int .i64 r0.hi] 33))) (Below.alloc (Below.refl _ _) (Nat.le_refl _) _)).more (B' := (Wwx.alloc (.cells #[.int .i64 r0.lo, .int .i64 r0.hi] 33)).heap.size) (by simp)
  replace bx := bx.alloc (.cells #[.int .i64 r0.lo, .int .i64 r0.hi] 33)
  replace wx := wx.alloc (.cells #[.int .i64 r0.lo, .int .i64 r0.hi] 33)
  generalize (Wwx.alloc (.cells #[.int .i64 r0.lo, .int .i64 r0.hi] 33)) = Wrx at *
  clear hswx
  clear hsrx
  generalize Wrx = W0 at *
  have HQ := Lib.hid (And.intro hqbx (And.intro hqwx hqrx))
  clear hqbx hqwx hqrx
  obtain ⟨ws, hws⟩ : ∃ ws, pick ss (nats ks) = ws := ⟨_, rfl⟩
  have HOKW := HOK
  have HPLW := HPL
  rw [hws] at HOKW HPLW
  have HWS := Lib.hid hws
  clear hws
  go_wp2_with fail
  go_loopw [8, 9] (fun acc i wr => ∃ (k : Nat) (r : Rg), k ≤ ss.length + 1 ∧ i = .int .i64 (k : Int) ∧ BK wr (n0) #[.slice (some ⟨bb, off, none⟩) bars.length cb, .slice As ss.length cs] 25 ∧ BK wr (n0 + 1) #[.int .i64 (nb : Int), .slice Ar ks.length cr] 42 ∧ BK wr (n0 + 1 + 1) #[.int .i64 r.lo, .int .i64 r.hi] 33 ∧ (k ≤ ss.length → r = truR r0 ws ys k) ∧ OwnI 2 wr n0 acc (truL r0 ws ys k) ∧ Below n0 w wr) (fun _ i _ => ss.length + 1 - (intOf i).toNat)
  case atStart => exact ⟨0, r0, Nat.zero_le _, rfl, bx, wx, rx, fun _ => rfl, OwnI.nil _ _ _, hC⟩
  case round =>
    clear bx wx rx hC hB hS hR hY
    obtain ⟨k, r, hk, rfl, bx, wx, rx, hrk, hown, hC⟩ := hrel
    have hB := RS.more (RS.below HB0.out hC) (B' := wr.heap.size) (by have := hC.size; omega)
    have hS := RP.more (RP.below HS0.out hC) (B' := wr.heap.size) (by have := hC.size; omega)
    have hR := RS.more (RS.below HR0.out hC) (B' := wr.heap.size) (by have := hC.size; omega)
    have hY := RU.more (RU.below HY0.out hC) (B' := wr.heap.size) (by have := hC.size; omega)
    have HRK := Lib.hid hrk
    have HOW := Lib.hid hown
    clear hown hrk
    by_cases hlt : k < ss.length + 1
    case neg =>
      obtain rfl : k = ss.length + 1 := by omega
      obtain ⟨Av, cv, rfl⟩ := own_slice HOW.out
      rw [truL_len] at HOW ⊢
      have hke := HKE.out
      have hlt' : ¬ ((ss.length + 1 : Nat) : Int) ≤ (ks.length : Int) := by omega
      simp only [Int.natCast_add, Int.cast_ofNat_Int] at hlt'
      have HO : Hid (RI wr wr.heap.size (.slice Av (ss.length + 1) cv) (truV bars ss (nb : Int) ks ys)) := Lib.hid (by
        have h := HOW.out.ri
        unfold truV
        rw [HWS.out, Int.toNat_natCast, HR1.out]
        exact h)
      clear hlt hke
      have lbx := bx.lt
      have bxc0 := bx.cell 0
      have bxc1 := bx.cell 1
      simp at bxc0 bxc1
      have lwx := wx.lt
      have wxc0 := wx.cell 0
      have wxc1 := wx.cell 1
      simp at wxc0 wxc1
      have lrx := rx.lt
      have rxc0 := rx.cell 0
      have rxc1 := rx.cell 1
      simp at rxc0 rxc1
      go_wp2_with fail
      go_ret
      exact ⟨_, rfl, HO.out, by (try rw [hn0]); exact hC⟩
    obtain ⟨Av, cv, rfl⟩ := own_slice HOW.out
    rw [truL_len] at HOW ⊢
    have hke := HKE.out
    have hlt' : (k : Int) ≤ (ks.length : Int) := by omega
    have hre := HRK.out (by omega)
    have hro : OkR r := by rw [hre]; exact truR_ok ys HBR.out HOKW.out k (by rw [HPLW.out]; omega)
    obtain ⟨lo, hi⟩ := r
    have ho1 := hro.1
    have ho2 := hro.2.1
    have ho3 := hro.2.2
    have hin := inR_iff.1 (truH_in (ys := ys) (k := k) hro)
    dsimp only at ho1 ho2 ho3 hin rx
    have HTS := Lib.hid (truL_succ r0 ws ys k)
    rw [← hre] at HTS
    have HRE := Lib.hid hre
    have hnle := numAt_le HY.out k
    obtain ⟨n, hn⟩ : ∃ n, numAt ys k = n := ⟨_, rfl⟩
    rw [hn] at hnle
    have HTH : Hid (truH ys k ⟨lo, hi⟩ = lo + (n : Int) % (hi - lo + 1)) := Lib.hid (by rw [← hn]; rfl)
    clear hre hro hke
    
    by_cases hu0 : ys.length = 0
    case pos =>
      have zu : ¬ ((ys.length : Int) > 0) := by omega
      have HZ := Lib.hid (show truH ys k ⟨lo, hi⟩ = lo by rw [HTH.out, ← hn]; unfold numAt; rw [if_pos hu0]; simp)
      clear hn hu0
      have lbx := bx.lt
      have bxc0 := bx.cell 0
      have bxc1 := bx.cell 1
      simp at bxc0 bxc1
      have lwx := wx.lt
      have wxc0 := wx.cell 0
      have wxc1 := wx.cell 1
      simp at wxc0 wxc1
      have lrx := rx.lt
      have rxc0 := rx.cell 0
      have rxc1 := rx.cell 1
      simp at rxc0 rxc1
      go_upto_region 9 with fail
      clear lbx bxc0 bxc1
      clear lwx wxc0 wxc1
      clear lrx rxc0 rxc1
      clear zu
      have hwz : n0 ≤ wr.heap.size := by have := hC.size; omega
      obtain ⟨v9, w9, hrun, hown', hC9, hs', hkeep⟩ := app_i64 HOW.out lo (by rw [truL_len]; omega) hwz hC wr.heap.size rfl
      rw [← HZ.out, ← HTS.out] at hown'
      obtain ⟨A9, c9, rfl⟩ := own_slice hown'
      rw [truL_len] at hrun hown'
      have HO9 := Lib.hid hown'
      have HRUN := Lib.hid hrun
      replace bx := hkeep _ _ _ bx (by decide)
      replace wx := hkeep _ _ _ wx (by decide)
      replace rx := hkeep _ _ _ rx (by decide)
      clear hrun hown' hs' hkeep hwz hC hB hS hR hY
      by_cases hk2 : k < ss.length
      case neg =>
        have hke := HKE.out
        have hk3 : ¬ (k : Int) < (ks.length : Int) := by omega
        clear hke
        have lbx := bx.lt
        have bxc0 := bx.cell 0
        have bxc1 := bx.cell 1
        simp at bxc0 bxc1
        have lwx := wx.lt
        have wxc0 := wx.cell 0
        have wxc1 := wx.cell 1
        simp at wxc0 wxc1
        go_wp2_with (at_builtin; refine wpList_append_run rfl (.tmp 46) (.tmp 48) 43 _ rfl HRUN.out ?_)
        clear lbx bxc0 bxc1
        clear lwx wxc0 wxc1
        go_roundw
        case rel => exact ⟨k + 1, ⟨lo, hi⟩, by omega, by go_num, bx, wx, rx, fun h => by omega, HO9.out, hC9⟩
        case measure => simp [intOf]; omega
      have hke := HKE.out
      have hk3 : (k : Int) < (ks.length : Int) := by omega
      have hk4 : (k : Int) < (ss.length : Int) := by omega
      have hS := RP.more (RP.below HS0.out hC9) (B' := w9.heap.size) (by have := hC9.size; omega)
      have hR := RS.more (RS.below HR0.out hC9) (B' := w9.heap.size) (by have := hC9.size; omega)
      obtain ⟨A1, cap1, b1, o1, hve, hA, hc⟩ := RP.cells hS
      obtain ⟨rfl, hbb1⟩ := hA (by omega)
      injection hve with q1 q2 q3
      subst q1 q3
      obtain ⟨u, d1, hu1⟩ := hc k hk2
      obtain ⟨A2, cap2, b2, o2, rfl, hA2, hc2⟩ := RW.cells hu1
      obtain ⟨A3, cap3, b3, o3, hve3, hA3, hc3⟩ := RI.cells hR
      obtain ⟨rfl, hbb3⟩ := hA3 (by omega)
      injection hve3 with q1 q2 q3
      subst q1 q3
      have d3 := hc3 k (by omega)
      obtain ⟨q, hq⟩ : ∃ q : Nat, (nthI ks k).toNat = q := ⟨_, rfl⟩
      have hqi : nthI ks k = (q : Int) := by
        have := HOR.out.nn (nthI ks k) (by
          have h9 : k < ks.length := by omega
          have : nthI ks k = ks[k] := by simp [nthI, h9]
          rw [this]; exact List.getElem_mem _)
        omega
      have hql : q < (nthS ss k).length := by
        have := (mem_allR_iff.1 HOR.out.ways).2 k hk2
        rw [nats_at, hq] at this
        exact this
      rw [hqi] at d3
      obtain ⟨rfl, hbb2⟩ := hA2 (by omega)
      obtain ⟨u2, d2, hu2⟩ := hc2 q hql
      have hyk : nthW (nthS ss k) q = nthW ws k := by
        rw [← HWS.out, pick_at hk2 (by simp [nats]; omega), hq]
      rw [hyk] at hu2
      have hoy := HOKW.out _ (nthW_mem (show k < ws.length by rw [HPLW.out]; omega))
      obtain ⟨y, hy⟩ : ∃ y, nthW ws k = y := ⟨_, rfl⟩
      rw [hy] at hu2 hoy
      obtain ⟨Ay2, cy2, rfl⟩ := hu2.slice
      have HIN : Hid (inB 0 1000 lo = true) := Lib.hid (by have h9 := hin; rw [HZ.out] at h9; unfold inB; simp; omega)
      have HAF := Lib.hid (after_in (wayE_of hoy) HIN.out)
      have HYL := Lib.hid (show y.length ≤ maxLen from Nat.le_trans hoy.few (by decide))
      obtain ⟨⟨l1, x1⟩, hx1⟩ : ∃ z, aft y lo = z := ⟨_, rfl⟩
      have HX1 := Lib.hid hx1
      rw [hx1] at HAF
      have HNX : Hid ((⟨l1, x1⟩ : Rg) = truR r0 ws ys (k + 1)) := Lib.hid (by
        show _ = aft (nthW ws k) (truH ys k (truR r0 ws ys k))
        rw [← HRE.out, HZ.out, hy, hx1])
      have hqlI : (q : Int) < ((nthS ss k).length : Int) := by omega
      obtain ⟨p, hp⟩ : ∃ p, (nthS ss k).length = p := ⟨_, rfl⟩
      rw [hp] at d1 hql hqlI
      clear hA hc hA2 hc2 hA3 hc3 hq hqi hyk hoy hy hx1 q2 hu1 hp hke
      have lbx := bx.lt
      have bxc0 := bx.cell 0
      have bxc1 := bx.cell 1
      simp at bxc0 bxc1
      have lwx := wx.lt
      have wxc0 := wx.cell 0
      have wxc1 := wx.cell 1
      simp at wxc0 wxc1
      go_upto_region 11 with (at_builtin; refine wpList_append_run rfl (.tmp 46) (.tmp 48) 43 _ rfl HRUN.out ?_)
      refine wp_region_noPanic (plain_any [0, 1, 2, 3, 4, 5, 6, 7, 8, 9, 10, 11, 12, 13, 15] (Below w9.heap.size w9) mixed ?_)
      (refine any_take 0 ?_ (by rfl) (by kernel_rfl) (fun _ _ _ _ _ hx => hx.elim) (.inl ⟨by rfl, ?_⟩) (by exact bel_of) ?_; rotate_left; (intro X hX; obtain ⟨r1, r2⟩ := Below.rules hX; clear hX; go_simp; rfl); simp only [List.getElem_toArray, List.getElem_cons_succ, List.getElem_cons_zero, Act.put, List.setIfInBounds_toArray, List.set_cons_succ, List.set_cons_zero])
      have d0z : Below w9.heap.size w9 w9.drew := by exact bel_of
      (refine any_take 1 ?_ (by rfl) (by kernel_rfl) (fun _ _ _ _ _ hx => hx.elim) (.inl ⟨by rfl, ?_⟩) (by exact bel_of) ?_; rotate_left; (intro X hX; obtain ⟨r1, r2⟩ := Below.rules hX; clear hX; go_simp; rfl); simp only [List.getElem_toArray, List.getElem_cons_succ, List.getElem_cons_zero, Act.put, List.setIfInBounds_toArray, List.set_cons_succ, List.set_cons_zero])
      (refine any_take 2 ?_ (by rfl) (by kernel_rfl) (fun _ _ _ _ _ hx => hx.elim) (.inl ⟨by rfl, ?_⟩) (by exact bel_of) ?_; rotate_left; (intro X hX; obtain ⟨r1, r2⟩ := Below.rules hX; clear hX; go_simp; rfl); simp only [List.getElem_toArray, List.getElem_cons_succ, List.getElem_cons_zero, Act.put, List.setIfInBounds_toArray, List.set_cons_succ, List.set_cons_zero])
      (refine any_take 3 ?_ (by rfl) (by kernel_rfl) (fun _ _ _ _ _ hx => hx.elim) (.inl ⟨by rfl, ?_⟩) (by exact bel_of) ?_; rotate_left; (intro X hX; obtain ⟨r1, r2⟩ := Below.rules hX; clear hX; go_simp; rfl); simp only [List.getElem_toArray, List.getElem_cons_succ, List.getElem_cons_zero, Act.put, List.setIfInBounds_toArray, List.set_cons_succ, List.set_cons_zero])
      (refine any_take 4 ?_ (by rfl) (by kernel_rfl) (fun _ _ _ _ _ hx => hx.elim) (.inl ⟨by rfl, ?_⟩) (by exact bel_of) ?_; rotate_left; (intro X hX; obtain ⟨r1, r2⟩ := Below.rules hX; clear hX; go_simp; rfl); simp only [List.getElem_toArray, List.getElem_cons_succ, List.getElem_cons_zero, Act.put, List.setIfInBounds_toArray, List.set_cons_succ, List.set_cons_zero])
      (refine any_take 5 ?_ (by rfl) (by kernel_rfl) (fun _ _ _ _ _ hx => hx.elim) (.inl ⟨by rfl, ?_⟩) (by exact bel_of) ?_; rotate_left; (intro X hX; obtain ⟨r1, r2⟩ := Below.rules hX; clear hX; go_simp; rfl); simp only [List.getElem_toArray, List.getElem_cons_succ, List.getElem_cons_zero, Act.put, List.setIfInBounds_toArray, List.set_cons_succ, List.set_cons_zero])
      (refine any_take 6 ?_ (by rfl) (by kernel_rfl) (fun _ _ _ _ _ hx => hx.elim) (.inl ⟨by rfl, ?_⟩) (by exact bel_of) ?_; rotate_left; (intro X hX; obtain ⟨r1, r2⟩ := Below.rules hX; clear hX; go_simp; rfl); simp only [List.getElem_toArray, List.getElem_cons_succ, List.getElem_cons_zero, Act.put, List.setIfInBounds_toArray, List.set_cons_succ, List.set_cons_zero])
      (refine any_take 7 ?_ (by rfl) (by kernel_rfl) (fun _ _ _ _ _ hx => hx.elim) (.inl ⟨by rfl, ?_⟩) (by exact bel_of) ?_; rotate_left; (intro X hX; obtain ⟨r1, r2⟩ := Below.rules hX; clear hX; go_simp; rfl); simp only [List.getElem_toArray, List.getElem_cons_succ, List.getElem_cons_zero, Act.put, List.setIfInBounds_toArray, List.set_cons_succ, List.set_cons_zero])
      (refine any_take 8 ?_ (by rfl) (by kernel_rfl) (fun _ _ _ _ _ hx => hx.elim) (.inl ⟨by rfl, ?_⟩) (by exact bel_of) ?_; rotate_left; (intro X hX; obtain ⟨r1, r2⟩ := Below.rules hX; clear hX; go_simp; rfl); simp only [List.getElem_toArray, List.getElem_cons_succ, List.getElem_cons_zero, Act.put, List.setIfInBounds_toArray, List.set_cons_succ, List.set_cons_zero])
      (refine any_take 9 ?_ (by rfl) (by kernel_rfl) (fun _ _ _ _ _ hx => hx.elim) (.inl ⟨by rfl, ?_⟩) (by exact bel_of) ?_; rotate_left; (intro X hX; obtain ⟨r1, r2⟩ := Below.rules hX; clear hX; go_simp; rfl); simp only [List.getElem_toArray, List.getElem_cons_succ, List.getElem_cons_zero, Act.put, List.setIfInBounds_toArray, List.set_cons_succ, List.set_cons_zero])
      (refine any_take 10 ?_ (by rfl) (by kernel_rfl) (fun _ _ _ _ _ hx => hx.elim) (.inl ⟨by rfl, ?_⟩) (by exact bel_of) ?_; rotate_left; (intro X hX; obtain ⟨r1, r2⟩ := Below.rules hX; clear hX; go_simp; rfl); simp only [List.getElem_toArray, List.getElem_cons_succ, List.getElem_cons_zero, Act.put, List.setIfInBounds_toArray, List.set_cons_succ, List.set_cons_zero])
      (refine any_take 11 ?_ (by rfl) (by kernel_rfl) (fun _ _ _ _ _ hx => hx.elim) (.inl ⟨by rfl, ?_⟩) (by exact bel_of) ?_; rotate_left; (intro X hX; obtain ⟨r1, r2⟩ := Below.rules hX; clear hX; go_simp; rfl); simp only [List.getElem_toArray, List.getElem_cons_succ, List.getElem_cons_zero, Act.put, List.setIfInBounds_toArray, List.set_cons_succ, List.set_cons_zero])
      (refine any_take 12 ?_ (by rfl) (by kernel_rfl) (fun _ _ _ _ _ hx => hx.elim) (.inl ⟨by rfl, ?_⟩) (by exact bel_of) ?_; rotate_left; (intro X hX; obtain ⟨r1, r2⟩ := Below.rules hX; clear hX; go_simp; rfl); simp only [List.getElem_toArray, List.getElem_cons_succ, List.getElem_cons_zero, Act.put, List.setIfInBounds_toArray, List.set_cons_succ, List.set_cons_zero])
      (refine any_take 13 ?_ (by rfl) (by kernel_rfl) (fun _ _ _ _ _ hx => hx.elim) (.inl ⟨by rfl, ?_⟩) (by exact bel_of) ?_; rotate_left; (intro X hX; obtain ⟨r1, r2⟩ := Below.rules hX; clear hX; go_simp; rfl); simp only [List.getElem_toArray, List.getElem_cons_succ, List.getElem_cons_zero, Act.put, List.setIfInBounds_toArray, List.set_cons_succ, List.set_cons_zero])
      have qz1 := d0z.size
      refine any_run1 (i := 14) (by kernel_rfl) (by rfl) (by kernel_rfl) ?_
      intro K hK
      go_wp2_with fail
      refine (afterXR_any y _ lo _ HYL.out ((RK.below hu2 d0z).more d0z.size)).mono ?_
      rintro e vz1 ⟨rfl, hb⟩
      rw [HAF.out.1, HAF.out.2]
      unfold rV
      have ez1 : Below w9.heap.size w9 vz1 := d0z.trans (hb.mono d0z.size)
      clear hb
      refine hK _ _ (fun _ => ez1) ?_
      clear hK K
      (refine any_take 15 ?_ (by rfl) (by kernel_rfl) (fun _ _ _ _ _ hx => hx.elim) (.inl ⟨by rfl, ?_⟩) (by exact bel_of) ?_; rotate_left; (intro X hX; obtain ⟨r1, r2⟩ := Below.rules hX; clear hX; go_simp; rfl); simp only [List.getElem_toArray, List.getElem_cons_succ, List.getElem_cons_zero, Act.put, List.setIfInBounds_toArray, List.set_cons_succ, List.set_cons_zero])
      have rx2 := rx.below ez1 rx.lt
      have bx2 := bx.below ez1 bx.lt
      have wx2 := wx.below ez1 wx.lt
      have HO2 := Lib.hid (own_ri_sets (own_below HO9.out ez1) rx2 (by decide) (.int .i64 l1) (.int .i64 x1))
      have hC2 : Below n0 w vz1 := hC9.trans (ez1.mono (by have := hC9.size; omega))
      have HC2 : Hid (Below n0 w ((vz1.setCell ⟨n0 + 1 + 1, 0, none⟩ (.int .i64 l1)).setCell ⟨n0 + 1 + 1, 1, none⟩ (.int .i64 x1))) := Lib.hid (Below.setCell (Below.setCell hC2 HQ.out.2.2 _) HQ.out.2.2 _)
      have HBX := Lib.hid ((bx2.far (p := ⟨n0 + 1 + 1, 0, none⟩) (by show n0 ≠ n0 + 1 + 1; omega) (.int .i64 l1)).far (p := ⟨n0 + 1 + 1, 1, none⟩) (by show n0 ≠ n0 + 1 + 1; omega) (.int .i64 x1))
      have HWX := Lib.hid ((wx2.far (p := ⟨n0 + 1 + 1, 0, none⟩) (by show n0 + 1 ≠ n0 + 1 + 1; omega) (.int .i64 l1)).far (p := ⟨n0 + 1 + 1, 1, none⟩) (by show n0 + 1 ≠ n0 + 1 + 1; omega) (.int .i64 x1))
      have rx3 := (rx2.set 0 (.int .i64 l1)).set 1 (.int .i64 x1)
      simp at rx3
      have HRX := Lib.hid rx3
      have lr := rx2.lt
      have rc0 := rx2.cell 0
      have rc1 := rx2.cell 1
      simp at rc0 rc1
      have rf0 := rx2.frozen 0
      have rf1 := rx2.frozen 1
      clear rx3 bx wx rx bx2 wx2 rx2 hC2 lbx bxc0 bxc1 lwx wxc0 wxc1 d1 d2 d3 hu2 hS hR
      refine any_run2 (i := 16) (j := 17) (by kernel_rfl) (by rfl) (by rfl) (by rfl) (by rfl) ?_ ?_
      ·skip
       intro K hK
       go_wp2_with fail
       refine hK _ _ (fun _ => ez1) ?_
       clear hK K
       refine any_run2 (i := 17) (j := 18) (by kernel_rfl) (by rfl) (by rfl) (by rfl) (by rfl) ?_ ?_
       ·skip
        intro K hK
        go_wp2_with fail
        refine hK _ _ (fun _ => ez1) ?_
        clear hK K
        refine any_run1 (i := 18) (by kernel_rfl) (by rfl) (by kernel_rfl) ?_
        intro K hK
        go_wp2_with fail
        refine hK _ _ (fun hx => (Bool.false_ne_true (hx.symm.trans (by kernel_rfl))).elim) ?_
        clear hK K
        refine any_done (by kernel_rfl) (NoPanic.normal ?_)
        clear lr rc0 rc1 rf0 rf1
        go_wp2_with fail
        go_roundw
        case rel => exact ⟨k + 1, ⟨l1, x1⟩, by omega, by go_num, HBX.out, HWX.out, HRX.out, fun _ => HNX.out, HO2.out, HC2.out⟩
        case measure => simp [intOf]; omega
       ·skip
        intro K hK
        go_wp2_with fail
        refine hK _ _ (fun hx => (Bool.false_ne_true (hx.symm.trans (by kernel_rfl))).elim) ?_
        clear hK K
        refine any_run1 (i := 17) (by kernel_rfl) (by rfl) (by kernel_rfl) ?_
        intro K hK
        go_wp2_with fail
        refine hK _ _ (fun hx => (Bool.false_ne_true (hx.symm.trans (by kernel_rfl))).elim) ?_
        clear hK K
        refine any_done (by kernel_rfl) (NoPanic.normal ?_)
        clear lr rc0 rc1 rf0 rf1
        go_wp2_with fail
        go_roundw
        case rel => exact ⟨k + 1, ⟨l1, x1⟩, by omega, by go_num, HBX.out, HWX.out, HRX.out, fun _ => HNX.out, HO2.out, HC2.out⟩
        case measure => simp [intOf]; omega
      ·skip
       intro K hK
       go_wp2_with fail
       refine hK _ _ (fun _ => ez1) ?_
       clear hK K
       refine any_run1 (i := 16) (by kernel_rfl) (by rfl) (by kernel_rfl) ?_
       intro K hK
       go_wp2_with fail
       refine hK _ _ (fun _ => ez1) ?_
       clear hK K
       refine any_run1 (i := 18) (by kernel_rfl) (by rfl) (by kernel_rfl) ?_
       intro K hK
       go_wp2_with fail
       refine hK _ _ (fun hx => (Bool.false_ne_true (hx.symm.trans (by kernel_rfl))).elim) ?_
       clear hK K
       refine any_done (by kernel_rfl) (NoPanic.normal ?_)
       clear lr rc0 rc1 rf0 rf1
       go_wp2_with fail
       go_roundw
       case rel => exact ⟨k + 1, ⟨l1, x1⟩, by omega, by go_num, HBX.out, HWX.out, HRX.out, fun _ => HNX.out, HO2.out, HC2.out⟩
       case measure => simp [intOf]; omega
    have zu : (ys.length : Int) > 0 := by omega
    obtain ⟨s, hs⟩ : ∃ s, k % ys.length = s := ⟨_, rfl⟩
    have hsl : s < ys.length := by rw [← hs]; exact Nat.mod_lt _ (by omega)
    have hng : ys.getD s 0 = n := by rw [← hn, ← hs]; unfold numAt; rw [if_neg hu0]
    have t1 : (k : Int).tmod (ys.length : Int) = (s : Int) := by rw [Int.tmod_eq_emod_of_nonneg (by omega), ← Int.natCast_emod, hs]
    have ye0 : ((ys.length : Int) == 0) = false := beq_eq_false_iff_ne.2 (by omega)
    have ye2 : (ys.length : Int) ≠ 0 := by omega
    have ye3 : (ys.length = 0) = False := eq_false hu0
    have yf0 : (hi - lo + 1 == 0) = false := beq_eq_false_iff_ne.2 (by omega)
    have yf2 : hi - lo + 1 ≠ 0 := by omega
    have yf3 : (hi - lo + 1 = 0) = False := eq_false yf2
    have h0x : 0 ≤ (n : Int) % (hi - lo + 1) := Int.emod_nonneg _ yf2
    have h0y : (n : Int) % (hi - lo + 1) < hi - lo + 1 := Int.emod_lt_of_pos _ (by omega)
    obtain ⟨x, hx⟩ : ∃ x, (n : Int) % (hi - lo + 1) = x := ⟨_, rfl⟩
    rw [hx] at HTH h0x h0y
    have t2 : (n : Int).tmod (hi - lo + 1) = x := by rw [Int.tmod_eq_emod_of_nonneg (by omega), hx]
    have w1 : IntKind.i64.wrap (n : Int) = (n : Int) := by rw [IntKind.wrap_i64]; omega
    have w2 : IntKind.i64.wrap (hi - lo) = hi - lo := by rw [IntKind.wrap_i64]; omega
    have w3 : IntKind.i64.wrap (hi - lo + 1) = hi - lo + 1 := by rw [IntKind.wrap_i64]; omega
    have w4 : IntKind.i64.wrap x = x := by rw [IntKind.wrap_i64]; omega
    obtain ⟨h, hh⟩ : ∃ h, lo + x = h := ⟨_, rfl⟩
    have w5 : IntKind.i64.wrap (lo + x) = h := by rw [IntKind.wrap_i64]; omega
    rw [hh] at HTH
    obtain ⟨A', cap', b5, o5, hve, hA, hc⟩ := RU.cells hY
    obtain ⟨rfl, hbb5⟩ := hA (by omega)
    injection hve with q1 q2 q3
    subst q1 q3
    have hcl := hc s hsl
    rw [hng] at hcl
    clear hA hc q2 hs hn hng hu0 hx h0x h0y hh
    have lbx := bx.lt
    have bxc0 := bx.cell 0
    have bxc1 := bx.cell 1
    simp at bxc0 bxc1
    have lwx := wx.lt
    have wxc0 := wx.cell 0
    have wxc1 := wx.cell 1
    simp at wxc0 wxc1
    have lrx := rx.lt
    have rxc0 := rx.cell 0
    have rxc1 := rx.cell 1
    simp at rxc0 rxc1
    go_upto_region 8 with fail
    refine wp_region_noPanic (plain_any [0, 1, 2, 3, 4, 5, 6, 7, 8, 9, 10, 11, 12, 13, 14, 15, 16] (Below wr.heap.size wr) mixed ?_)
    (refine any_take 0 ?_ (by rfl) (by kernel_rfl) (fun _ _ _ _ _ hx => hx.elim) (.inl ⟨by rfl, ?_⟩) (by exact bel_of) ?_; rotate_left; (intro X hX; obtain ⟨r1, r2⟩ := Below.rules hX; clear hX; go_simp; rfl); simp only [List.getElem_toArray, List.getElem_cons_succ, List.getElem_cons_zero, Act.put, List.setIfInBounds_toArray, List.set_cons_succ, List.set_cons_zero])
    have d0z : Below wr.heap.size wr wr.drew := by exact bel_of
    (refine any_take 1 ?_ (by rfl) (by kernel_rfl) (fun _ _ _ _ _ hx => hx.elim) (.inl ⟨by rfl, ?_⟩) (by exact bel_of) ?_; rotate_left; (intro X hX; obtain ⟨r1, r2⟩ := Below.rules hX; clear hX; go_simp; rfl); simp only [List.getElem_toArray, List.getElem_cons_succ, List.getElem_cons_zero, Act.put, List.setIfInBounds_toArray, List.set_cons_succ, List.set_cons_zero])
    (refine any_take 2 ?_ (by rfl) (by kernel_rfl) (fun _ _ _ _ _ hx => hx.elim) (.inl ⟨by rfl, ?_⟩) (by exact bel_of) ?_; rotate_left; (intro X hX; obtain ⟨r1, r2⟩ := Below.rules hX; clear hX; go_simp; rfl); simp only [List.getElem_toArray, List.getElem_cons_succ, List.getElem_cons_zero, Act.put, List.setIfInBounds_toArray, List.set_cons_succ, List.set_cons_zero])
    (refine any_take 3 ?_ (by rfl) (by kernel_rfl) (fun _ _ _ _ _ hx => hx.elim) (.inl ⟨by rfl, ?_⟩) (by exact bel_of) ?_; rotate_left; (intro X hX; obtain ⟨r1, r2⟩ := Below.rules hX; clear hX; go_simp; rfl); simp only [List.getElem_toArray, List.getElem_cons_succ, List.getElem_cons_zero, Act.put, List.setIfInBounds_toArray, List.set_cons_succ, List.set_cons_zero])
    (refine any_take 4 ?_ (by rfl) (by kernel_rfl) (fun _ _ _ _ _ hx => hx.elim) (.inl ⟨by rfl, ?_⟩) (by exact bel_of) ?_; rotate_left; (intro X hX; obtain ⟨r1, r2⟩ := Below.rules hX; clear hX; go_simp; rfl); simp only [List.getElem_toArray, List.getElem_cons_succ, List.getElem_cons_zero, Act.put, List.setIfInBounds_toArray, List.set_cons_succ, List.set_cons_zero])
    (refine any_take 5 ?_ (by rfl) (by kernel_rfl) (fun _ _ _ _ _ hx => hx.elim) (.inl ⟨by rfl, ?_⟩) (by exact bel_of) ?_; rotate_left; (intro X hX; obtain ⟨r1, r2⟩ := Below.rules hX; clear hX; go_simp; rfl); simp only [List.getElem_toArray, List.getElem_cons_succ, List.getElem_cons_zero, Act.put, List.setIfInBounds_toArray, List.set_cons_succ, List.set_cons_zero])
    (refine any_take 6 ?_ (by rfl) (by kernel_rfl) (fun _ _ _ _ _ hx => hx.elim) (.inl ⟨by rfl, ?_⟩) (by exact bel_of) ?_; rotate_left; (intro X hX; obtain ⟨r1, r2⟩ := Below.rules hX; clear hX; go_simp; rfl); simp only [List.getElem_toArray, List.getElem_cons_succ, List.getElem_cons_zero, Act.put, List.setIfInBounds_toArray, List.set_cons_succ, List.set_cons_zero])
    (refine any_take 7 ?_ (by rfl) (by kernel_rfl) (fun _ _ _ _ _ hx => hx.elim) (.inl ⟨by rfl, ?_⟩) (by exact bel_of) ?_; rotate_left; (intro X hX; obtain ⟨r1, r2⟩ := Below.rules hX; clear hX; go_simp; rfl); simp only [List.getElem_toArray, List.getElem_cons_succ, List.getElem_cons_zero, Act.put, List.setIfInBounds_toArray, List.set_cons_succ, List.set_cons_zero])
    (refine any_take 8 ?_ (by rfl) (by kernel_rfl) (fun _ _ _ _ _ hx => hx.elim) (.inl ⟨by rfl, ?_⟩) (by exact bel_of) ?_; rotate_left; (intro X hX; obtain ⟨r1, r2⟩ := Below.rules hX; clear hX; go_simp; rfl); simp only [List.getElem_toArray, List.getElem_cons_succ, List.getElem_cons_zero, Act.put, List.setIfInBounds_toArray, List.set_cons_succ, List.set_cons_zero])
    (refine any_take 9 ?_ (by rfl) (by kernel_rfl) (fun _ _ _ _ _ hx => hx.elim) (.inl ⟨by rfl, ?_⟩) (by exact bel_of) ?_; rotate_left; (intro X hX; obtain ⟨r1, r2⟩ := Below.rules hX; clear hX; go_simp; rfl); simp only [List.getElem_toArray, List.getElem_cons_succ, List.getElem_cons_zero, Act.put, List.setIfInBounds_toArray, List.set_cons_succ, List.set_cons_zero])
    (refine any_take 10 ?_ (by rfl) (by kernel_rfl) (fun _ _ _ _ _ hx => hx.elim) (.inl ⟨by rfl, ?_⟩) (by exact bel_of) ?_; rotate_left; (intro X hX; obtain ⟨r1, r2⟩ := Below.rules hX; clear hX; go_simp; rfl); simp only [List.getElem_toArray, List.getElem_cons_succ, List.getElem_cons_zero, Act.put, List.setIfInBounds_toArray, List.set_cons_succ, List.set_cons_zero])
    (refine any_take 11 ?_ (by rfl) (by kernel_rfl) (fun _ _ _ _ _ hx => hx.elim) (.inl ⟨by rfl, ?_⟩) (by exact bel_of) ?_; rotate_left; (intro X hX; obtain ⟨r1, r2⟩ := Below.rules hX; clear hX; go_simp; rfl); simp only [List.getElem_toArray, List.getElem_cons_succ, List.getElem_cons_zero, Act.put, List.setIfInBounds_toArray, List.set_cons_succ, List.set_cons_zero])
    (refine any_take 12 ?_ (by rfl) (by kernel_rfl) (fun _ _ _ _ _ hx => hx.elim) (.inl ⟨by rfl, ?_⟩) (by exact bel_of) ?_; rotate_left; (intro X hX; obtain ⟨r1, r2⟩ := Below.rules hX; clear hX; go_simp; rfl); simp only [List.getElem_toArray, List.getElem_cons_succ, List.getElem_cons_zero, Act.put, List.setIfInBounds_toArray, List.set_cons_succ, List.set_cons_zero])
    (refine any_take 13 ?_ (by rfl) (by kernel_rfl) (fun _ _ _ _ _ hx => hx.elim) (.inl ⟨by rfl, ?_⟩) (by exact bel_of) ?_; rotate_left; (intro X hX; obtain ⟨r1, r2⟩ := Below.rules hX; clear hX; go_simp; rfl); simp only [List.getElem_toArray, List.getElem_cons_succ, List.getElem_cons_zero, Act.put, List.setIfInBounds_toArray, List.set_cons_succ, List.set_cons_zero])
    (refine any_take 14 ?_ (by rfl) (by kernel_rfl) (fun _ _ _ _ _ hx => hx.elim) (.inl ⟨by rfl, ?_⟩) (by exact bel_of) ?_; rotate_left; (intro X hX; obtain ⟨r1, r2⟩ := Below.rules hX; clear hX; go_simp; rfl); simp only [List.getElem_toArray, List.getElem_cons_succ, List.getElem_cons_zero, Act.put, List.setIfInBounds_toArray, List.set_cons_succ, List.set_cons_zero])
    (refine any_take 15 ?_ (by rfl) (by kernel_rfl) (fun _ _ _ _ _ hx => hx.elim) (.inl ⟨by rfl, ?_⟩) (by exact bel_of) ?_; rotate_left; (intro X hX; obtain ⟨r1, r2⟩ := Below.rules hX; clear hX; go_simp; rfl); simp only [List.getElem_toArray, List.getElem_cons_succ, List.getElem_cons_zero, Act.put, List.setIfInBounds_toArray, List.set_cons_succ, List.set_cons_zero])
    (refine any_take 16 ?_ (by rfl) (by kernel_rfl) (fun _ _ _ _ _ hx => hx.elim) (.inl ⟨by rfl, ?_⟩) (by exact bel_of) ?_; rotate_left; (intro X hX; obtain ⟨r1, r2⟩ := Below.rules hX; clear hX; go_simp; rfl); simp only [List.getElem_toArray, List.getElem_cons_succ, List.getElem_cons_zero, Act.put, List.setIfInBounds_toArray, List.set_cons_succ, List.set_cons_zero])
    refine any_run1 (i := 17) (by kernel_rfl) (by rfl) (by kernel_rfl) ?_
    intro K hK
    go_wp2_with fail
    refine hK _ _ (fun _ => d0z) ?_
    clear hK K
    refine any_done (by kernel_rfl) (NoPanic.normal ?_)
    go_upto_region 9 with fail
    clear lbx bxc0 bxc1 lwx wxc0 wxc1 lrx rxc0 rxc1 hcl hbb5 t1 t2 ye0 ye2 ye3 yf0 yf2 yf3 w1 w2 w3 w4 w5 hsl zu
    replace bx := bx.drew
    replace wx := wx.drew
    replace rx := rx.drew
    have HOW2 := Lib.hid (own_below HOW.out d0z)
    replace hC : Below n0 w wr.drew := hC.trans (d0z.mono (by have := hC.size; omega))
    clear d0z HOW
    have HOW := HOW2
    clear HOW2 hB hS hR hY
    generalize wr.drew = wr at *
    have hB := hC
    have hS := hC
    have hR := hC
    have hY := hC
    have hwz : n0 ≤ wr.heap.size := by have := hC.size; omega
    obtain ⟨v9, w9, hrun, hown', hC9, hs', hkeep⟩ := app_i64 HOW.out h (by rw [truL_len]; omega) hwz hC wr.heap.size rfl
    rw [← HTH.out, ← HTS.out] at hown'
    obtain ⟨A9, c9, rfl⟩ := own_slice hown'
    rw [truL_len] at hrun hown'
    have HO9 := Lib.hid hown'
    have HRUN := Lib.hid hrun
    replace bx := hkeep _ _ _ bx (by decide)
    replace wx := hkeep _ _ _ wx (by decide)
    replace rx := hkeep _ _ _ rx (by decide)
    clear hrun hown' hs' hkeep hwz hC hB hS hR hY
    by_cases hk2 : k < ss.length
    case neg =>
      have hke := HKE.out
      have hk3 : ¬ (k : Int) < (ks.length : Int) := by omega
      clear hke
      have lbx := bx.lt
      have bxc0 := bx.cell 0
      have bxc1 := bx.cell 1
      simp at bxc0 bxc1
      have lwx := wx.lt
      have wxc0 := wx.cell 0
      have wxc1 := wx.cell 1
      simp at wxc0 wxc1
      go_wp2_with (at_builtin; refine wpList_append_run rfl (.tmp 46) (.tmp 48) 43 _ rfl HRUN.out ?_)
      clear lbx bxc0 bxc1
      clear lwx wxc0 wxc1
      go_roundw
      case rel => exact ⟨k + 1, ⟨lo, hi⟩, by omega, by go_num, bx, wx, rx, fun h => by omega, HO9.out, hC9⟩
      case measure => simp [intOf]; omega
    have hke := HKE.out
    have hk3 : (k : Int) < (ks.length : Int) := by omega
    have hk4 : (k : Int) < (ss.length : Int) := by omega
    have hS := RP.more (RP.below HS0.out hC9) (B' := w9.heap.size) (by have := hC9.size; omega)
    have hR := RS.more (RS.below HR0.out hC9) (B' := w9.heap.size) (by have := hC9.size; omega)
    obtain ⟨A1, cap1, b1, o1, hve, hA, hc⟩ := RP.cells hS
    obtain ⟨rfl, hbb1⟩ := hA (by omega)
    injection hve with q1 q2 q3
    subst q1 q3
    obtain ⟨u, d1, hu1⟩ := hc k hk2
    obtain ⟨A2, cap2, b2, o2, rfl, hA2, hc2⟩ := RW.cells hu1
    obtain ⟨A3, cap3, b3, o3, hve3, hA3, hc3⟩ := RI.cells hR
    obtain ⟨rfl, hbb3⟩ := hA3 (by omega)
    injection hve3 with q1 q2 q3
    subst q1 q3
    have d3 := hc3 k (by omega)
    obtain ⟨q, hq⟩ : ∃ q : Nat, (nthI ks k).toNat = q := ⟨_, rfl⟩
    have hqi : nthI ks k = (q : Int) := by
      have := HOR.out.nn (nthI ks k) (by
        have h9 : k < ks.length := by omega
        have : nthI ks k = ks[k] := by simp [nthI, h9]
        rw [this]; exact List.getElem_mem _)
      omega
    have hql : q < (nthS ss k).length := by
      have := (mem_allR_iff.1 HOR.out.ways).2 k hk2
      rw [nats_at, hq] at this
      exact this
    rw [hqi] at d3
    obtain ⟨rfl, hbb2⟩ := hA2 (by omega)
    obtain ⟨u2, d2, hu2⟩ := hc2 q hql
    have hyk : nthW (nthS ss k) q = nthW ws k := by
      rw [← HWS.out, pick_at hk2 (by simp [nats]; omega), hq]
    rw [hyk] at hu2
    have hoy := HOKW.out _ (nthW_mem (show k < ws.length by rw [HPLW.out]; omega))
    obtain ⟨y, hy⟩ : ∃ y, nthW ws k = y := ⟨_, rfl⟩
    rw [hy] at hu2 hoy
    obtain ⟨Ay2, cy2, rfl⟩ := hu2.slice
    have HIN : Hid (inB 0 1000 h = true) := Lib.hid (by have h9 := hin; rw [HTH.out] at h9; unfold inB; simp; omega)
    have HAF := Lib.hid (after_in (wayE_of hoy) HIN.out)
    have HYL := Lib.hid (show y.length ≤ maxLen from Nat.le_trans hoy.few (by decide))
    obtain ⟨⟨l1, x1⟩, hx1⟩ : ∃ z, aft y h = z := ⟨_, rfl⟩
    have HX1 := Lib.hid hx1
    rw [hx1] at HAF
    have HNX : Hid ((⟨l1, x1⟩ : Rg) = truR r0 ws ys (k + 1)) := Lib.hid (by
      show _ = aft (nthW ws k) (truH ys k (truR r0 ws ys k))
      rw [← HRE.out, HTH.out, hy, hx1])
    have hqlI : (q : Int) < ((nthS ss k).length : Int) := by omega
    obtain ⟨p, hp⟩ : ∃ p, (nthS ss k).length = p := ⟨_, rfl⟩
    rw [hp] at d1 hql hqlI
    clear hA hc hA2 hc2 hA3 hc3 hq hqi hyk hoy hy hx1 q2 hu1 hp hke
    have lbx := bx.lt
    have bxc0 := bx.cell 0
    have bxc1 := bx.cell 1
    simp at bxc0 bxc1
    have lwx := wx.lt
    have wxc0 := wx.cell 0
    have wxc1 := wx.cell 1
    simp at wxc0 wxc1
    go_upto_region 11 with (at_builtin; refine wpList_append_run rfl (.tmp 46) (.tmp 48) 43 _ rfl HRUN.out ?_)
    refine wp_region_noPanic (plain_any [0, 1, 2, 3, 4, 5, 6, 7, 8, 9, 10, 11, 12, 13, 15] (Below w9.heap.size w9) mixed ?_)
    (refine any_take 0 ?_ (by rfl) (by kernel_rfl) (fun _ _ _ _ _ hx => hx.elim) (.inl ⟨by rfl, ?_⟩) (by exact bel_of) ?_; rotate_left; (intro X hX; obtain ⟨r1, r2⟩ := Below.rules hX; clear hX; go_simp; rfl); simp only [List.getElem_toArray, List.getElem_cons_succ, List.getElem_cons_zero, Act.put, List.setIfInBounds_toArray, List.set_cons_succ, List.set_cons_zero])
    have d0z : Below w9.heap.size w9 w9.drew := by exact bel_of
    (refine any_take 1 ?_ (by rfl) (by kernel_rfl) (fun _ _ _ _ _ hx => hx.elim) (.inl ⟨by rfl, ?_⟩) (by exact bel_of) ?_; rotate_left; (intro X hX; obtain ⟨r1, r2⟩ := Below.rules hX; clear hX; go_simp; rfl); simp only [List.getElem_toArray, List.getElem_cons_succ, List.getElem_cons_zero, Act.put, List.setIfInBounds_toArray, List.set_cons_succ, List.set_cons_zero])
    (refine any_take 2 ?_ (by rfl) (by kernel_rfl) (fun _ _ _ _ _ hx => hx.elim) (.inl ⟨by rfl, ?_⟩) (by exact bel_of) ?_; rotate_left; (intro X hX; obtain ⟨r1, r2⟩ := Below.rules hX; clear hX; go_simp; rfl); simp only [List.getElem_toArray, List.getElem_cons_succ, List.getElem_cons_zero, Act.put, List.setIfInBounds_toArray, List.set_cons_succ, List.set_cons_zero])
    (refine any_take 3 ?_ (by rfl) (by kernel_rfl) (fun _ _ _ _ _ hx => hx.elim) (.inl ⟨by rfl, ?_⟩) (by exact bel_of) ?_; rotate_left; (intro X hX; obtain ⟨r1, r2⟩ := Below.rules hX; clear hX; go_simp; rfl); simp only [List.getElem_toArray, List.getElem_cons_succ, List.getElem_cons_zero, Act.put, List.setIfInBounds_toArray, List.set_cons_succ, List.set_cons_zero])
    (refine any_take 4 ?_ (by rfl) (by kernel_rfl) (fun _ _ _ _ _ hx => hx.elim) (.inl ⟨by rfl, ?_⟩) (by exact bel_of) ?_; rotate_left; (intro X hX; obtain ⟨r1, r2⟩ := Below.rules hX; clear hX; go_simp; rfl); simp only [List.getElem_toArray, List.getElem_cons_succ, List.getElem_cons_zero, Act.put, List.setIfInBounds_toArray, List.set_cons_succ, List.set_cons_zero])
    (refine any_take 5 ?_ (by rfl) (by kernel_rfl) (fun _ _ _ _ _ hx => hx.elim) (.inl ⟨by rfl, ?_⟩) (by exact bel_of) ?_; rotate_left; (intro X hX; obtain ⟨r1, r2⟩ := Below.rules hX; clear hX; go_simp; rfl); simp only [List.getElem_toArray, List.getElem_cons_succ, List.getElem_cons_zero, Act.put, List.setIfInBounds_toArray, List.set_cons_succ, List.set_cons_zero])
    (refine any_take 6 ?_ (by rfl) (by kernel_rfl) (fun _ _ _ _ _ hx => hx.elim) (.inl ⟨by rfl, ?_⟩) (by exact bel_of) ?_; rotate_left; (intro X hX; obtain ⟨r1, r2⟩ := Below.rules hX; clear hX; go_simp; rfl); simp only [List.getElem_toArray, List.getElem_cons_succ, List.getElem_cons_zero, Act.put, List.setIfInBounds_toArray, List.set_cons_succ, List.set_cons_zero])
    (refine any_take 7 ?_ (by rfl) (by kernel_rfl) (fun _ _ _ _ _ hx => hx.elim) (.inl ⟨by rfl, ?_⟩) (by exact bel_of) ?_; rotate_left; (intro X hX; obtain ⟨r1, r2⟩ := Below.rules hX; clear hX; go_simp; rfl); simp only [List.getElem_toArray, List.getElem_cons_succ, List.getElem_cons_zero, Act.put, List.setIfInBounds_toArray, List.set_cons_succ, List.set_cons_zero])
    (refine any_take 8 ?_ (by rfl) (by kernel_rfl) (fun _ _ _ _ _ hx => hx.elim) (.inl ⟨by rfl, ?_⟩) (by exact bel_of) ?_; rotate_left; (intro X hX; obtain ⟨r1, r2⟩ := Below.rules hX; clear hX; go_simp; rfl); simp only [List.getElem_toArray, List.getElem_cons_succ, List.getElem_cons_zero, Act.put, List.setIfInBounds_toArray, List.set_cons_succ, List.set_cons_zero])
    (refine any_take 9 ?_ (by rfl) (by kernel_rfl) (fun _ _ _ _ _ hx => hx.elim) (.inl ⟨by rfl, ?_⟩) (by exact bel_of) ?_; rotate_left; (intro X hX; obtain ⟨r1, r2⟩ := Below.rules hX; clear hX; go_simp; rfl); simp only [List.getElem_toArray, List.getElem_cons_succ, List.getElem_cons_zero, Act.put, List.setIfInBounds_toArray, List.set_cons_succ, List.set_cons_zero])
    (refine any_take 10 ?_ (by rfl) (by kernel_rfl) (fun _ _ _ _ _ hx => hx.elim) (.inl ⟨by rfl, ?_⟩) (by exact bel_of) ?_; rotate_left; (intro X hX; obtain ⟨r1, r2⟩ := Below.rules hX; clear hX; go_simp; rfl); simp only [List.getElem_toArray, List.getElem_cons_succ, List.getElem_cons_zero, Act.put, List.setIfInBounds_toArray, List.set_cons_succ, List.set_cons_zero])
    (refine any_take 11 ?_ (by rfl) (by kernel_rfl) (fun _ _ _ _ _ hx => hx.elim) (.inl ⟨by rfl, ?_⟩) (by exact bel_of) ?_; rotate_left; (intro X hX; obtain ⟨r1, r2⟩ := Below.rules hX; clear hX; go_simp; rfl); simp only [List.getElem_toArray, List.getElem_cons_succ, List.getElem_cons_zero, Act.put, List.setIfInBounds_toArray, List.set_cons_succ, List.set_cons_zero])
    (refine any_take 12 ?_ (by rfl) (by kernel_rfl) (fun _ _ _ _ _ hx => hx.elim) (.inl ⟨by rfl, ?_⟩) (by exact bel_of) ?_; rotate_left; (intro X hX; obtain ⟨r1, r2⟩ := Below.rules hX; clear hX; go_simp; rfl); simp only [List.getElem_toArray, List.getElem_cons_succ, List.getElem_cons_zero, Act.put, List.setIfInBounds_toArray, List.set_cons_succ, List.set_cons_zero])
    (refine any_take 13 ?_ (by rfl) (by kernel_rfl) (fun _ _ _ _ _ hx => hx.elim) (.inl ⟨by rfl, ?_⟩) (by exact bel_of) ?_; rotate_left; (intro X hX; obtain ⟨r1, r2⟩ := Below.rules hX; clear hX; go_simp; rfl); simp only [List.getElem_toArray, List.getElem_cons_succ, List.getElem_cons_zero, Act.put, List.setIfInBounds_toArray, List.set_cons_succ, List.set_cons_zero])
    have qz1 := d0z.size
    refine any_run1 (i := 14) (by kernel_rfl) (by rfl) (by kernel_rfl) ?_
    intro K hK
    go_wp2_with fail
    refine (afterXR_any y _ h _ HYL.out ((RK.below hu2 d0z).more d0z.size)).mono ?_
    rintro e vz1 ⟨rfl, hb⟩
    rw [HAF.out.1, HAF.out.2]
    unfold rV
    have ez1 : Below w9.heap.size w9 vz1 := d0z.trans (hb.mono d0z.size)
    clear hb
    refine hK _ _ (fun _ => ez1) ?_
    clear hK K
    (refine any_take 15 ?_ (by rfl) (by kernel_rfl) (fun _ _ _ _ _ hx => hx.elim) (.inl ⟨by rfl, ?_⟩) (by exact bel_of) ?_; rotate_left; (intro X hX; obtain ⟨r1, r2⟩ := Below.rules hX; clear hX; go_simp; rfl); simp only [List.getElem_toArray, List.getElem_cons_succ, List.getElem_cons_zero, Act.put, List.setIfInBounds_toArray, List.set_cons_succ, List.set_cons_zero])
    have rx2 := rx.below ez1 rx.lt
    have bx2 := bx.below ez1 bx.lt
    have wx2 := wx.below ez1 wx.lt
    have HO2 := Lib.hid (own_ri_sets (own_below HO9.out ez1) rx2 (by decide) (.int .i64 l1) (.int .i64 x1))
    have hC2 : Below n0 w vz1 := hC9.trans (ez1.mono (by have := hC9.size; omega))
    have HC2 : Hid (Below n0 w ((vz1.setCell ⟨n0 + 1 + 1, 0, none⟩ (.int .i64 l1)).setCell ⟨n0 + 1 + 1, 1, none⟩ (.int .i64 x1))) := Lib.hid (Below.setCell (Below.setCell hC2 HQ.out.2.2 _) HQ.out.2.2 _)
    have HBX := Lib.hid ((bx2.far (p := ⟨n0 + 1 + 1, 0, none⟩) (by show n0 ≠ n0 + 1 + 1; omega) (.int .i64 l1)).far (p := ⟨n0 + 1 + 1, 1, none⟩) (by show n0 ≠ n0 + 1 + 1; omega) (.int .i64 x1))
    have HWX := Lib.hid ((wx2.far (p := ⟨n0 + 1 + 1, 0, none⟩) (by show n0 + 1 ≠ n0 + 1 + 1; omega) (.int .i64 l1)).far (p := ⟨n0 + 1 + 1, 1, none⟩) (by show n0 + 1 ≠ n0 + 1 + 1; omega) (.int .i64 x1))
    have rx3 := (rx2.set 0 (.int .i64 l1)).set 1 (.int .i64 x1)
    simp at rx3
    have HRX := Lib.hid rx3
    have lr := rx2.lt
    have rc0 := rx2.cell 0
    have rc1 := rx2.cell 1
    simp at rc0 rc1
    have rf0 := rx2.frozen 0
    have rf1 := rx2.frozen 1
    clear rx3 bx wx rx bx2 wx2 rx2 hC2 lbx bxc0 bxc1 lwx wxc0 wxc1 d1 d2 d3 hu2 hS hR
    refine any_run2 (i := 16) (j := 17) (by kernel_rfl) (by rfl) (by rfl) (by rfl) (by rfl) ?_ ?_
    ·skip
     intro K hK
     go_wp2_with fail
     refine hK _ _ (fun _ => ez1) ?_
     clear hK K
     refine any_run2 (i := 17) (j := 18) (by kernel_rfl) (by rfl) (by rfl) (by rfl) (by rfl) ?_ ?_
     ·skip
      intro K hK
      go_wp2_with fail
      refine hK _ _ (fun _ => ez1) ?_
      clear hK K
      refine any_run1 (i := 18) (by kernel_rfl) (by rfl) (by kernel_rfl) ?_
      intro K hK
      go_wp2_with fail
      refine hK _ _ (fun hx => (Bool.false_ne_true (hx.symm.trans (by kernel_rfl))).elim) ?_
      clear hK K
      refine any_done (by kernel_rfl) (NoPanic.normal ?_)
      clear lr rc0 rc1 rf0 rf1
      go_wp2_with fail
      go_roundw
      case rel => exact ⟨k + 1, ⟨l1, x1⟩, by omega, by go_num, HBX.out, HWX.out, HRX.out, fun _ => HNX.out, HO2.out, HC2.out⟩
      case measure => simp [intOf]; omega
     ·skip
      intro K hK
      go_wp2_with fail
      refine hK _ _ (fun hx => (Bool.false_ne_true (hx.symm.trans (by kernel_rfl))).elim) ?_
      clear hK K
      refine any_run1 (i := 17) (by kernel_rfl) (by rfl) (by kernel_rfl) ?_
      intro K hK
      go_wp2_with fail
      refine hK _ _ (fun hx => (Bool.false_ne_true (hx.symm.trans (by kernel_rfl))).elim) ?_
      clear hK K
      refine any_done (by kernel_rfl) (NoPanic.normal ?_)
      clear lr rc0 rc1 rf0 rf1
      go_wp2_with fail
      go_roundw
      case rel => exact ⟨k + 1, ⟨l1, x1⟩, by omega, by go_num, HBX.out, HWX.out, HRX.out, fun _ => HNX.out, HO2.out, HC2.out⟩
      case measure => simp [intOf]; omega
    ·skip
     intro K hK
     go_wp2_with fail
     refine hK _ _ (fun _ => ez1) ?_
     clear hK K
     refine any_run1 (i := 16) (by kernel_rfl) (by rfl) (by kernel_rfl) ?_
     intro K hK
     go_wp2_with fail
     refine hK _ _ (fun _ => ez1) ?_
     clear hK K
     refine any_run1 (i := 18) (by kernel_rfl) (by rfl) (by kernel_rfl) ?_
     intro K hK
     go_wp2_with fail
     refine hK _ _ (fun hx => (Bool.false_ne_true (hx.symm.trans (by kernel_rfl))).elim) ?_
     clear hK K
     refine any_done (by kernel_rfl) (NoPanic.normal ?_)
     clear lr rc0 rc1 rf0 rf1
     go_wp2_with fail
     go_roundw
     case rel => exact ⟨k + 1, ⟨l1, x1⟩, by omega, by go_num, HBX.out, HWX.out, HRX.out, fun _ => HNX.out, HO2.out, HC2.out⟩
     case measure => simp [intOf]; omega
end Go.Proofs.Ytkibdciomheekaa

set_option linter.all false
namespace Go.Proofs.Ytkibdciomheekaa
open Go.RowKit Hp

/-- The row g: in its cells lists of numbers, each in a row of its own, made later. -/
def SeenM (W : World) (g : Nat) (us : List Value) (S : Nat → List Int) : Prop :=
  BK W g us.toArray 40 ∧ (∀ j u, us[j]? = some u → OwnI 3 W (g + 1) u (S j)) ∧ ∀ (i j : Nat) (u v : Value) (b : Nat), us[i]? = some u → us[j]? = some v → i ≠ j → u.ownBlock = some b → v.ownBlock ≠ some b
theorem SeenM.below {W W' : World} {g : Nat} {us : List Value} {S : Nat → List Int} (h : SeenM W g us S) (hb : Below W.heap.size W W') : SeenM W' g us S :=
  ⟨h.1.below hb h.1.lt, fun j u hu => own_below (h.2.1 j u hu) hb, h.2.2⟩
theorem SeenM.cell {W : World} {g : Nat} {us : List Value} {S : Nat → List Int} (h : SeenM W g us S) {j : Nat} {u : Value} (hu : us[j]? = some u) : W.cell? ⟨g, j, none⟩ = some u := by
  rw [h.1.cell j]
  simpa using hu
theorem SeenM.ri {W : World} {g : Nat} {us : List Value} {S : Nat → List Int} (h : SeenM W g us S) {j : Nat} {u : Value} (hu : us[j]? = some u) : RI W W.heap.size u (S j) := OwnI.ri (h.2.1 j u hu)
theorem made_at (n : Nat) {j : Nat} {u : Value} (h : (List.replicate n (Value.slice none 0 0))[j]? = some u) : u = .slice none 0 0 := by
  rw [List.getElem?_replicate] at h
  split at h
  · injection h with h; exact h.symm
  · cases h
theorem madeCells_one (z : Value) (n : Nat) : madeCells #[z] n = (List.replicate n z).toArray := by
  unfold madeCells
  apply Array.ext
  · simp
  · intro i h1 h2
    simp [Nat.mod_one]
theorem make_li (n : Nat) (hn : n ≤ 2000) (W : World) :
    (Instr.makeSlice 56 (.int .i64 (n : Int)) (.int .i64 (n : Int))).run Try.prog W = .ok (.slice (some ⟨W.heap.size, 0, none⟩) n n) (W.alloc (.cells (List.replicate n (Value.slice none 0 0)).toArray 40)) := by
  obtain ⟨i, hi, hz, hs, hb⟩ := info_parts li_info
  have hr := run_make (P := Try.prog) W 56 40 i _ li_slice hi hz .i64 .i64 n n (by omega) (Int.le_refl _) (by rw [hb]; omega) (by omega)
  simp only [Int.toNat_natCast, hs, Nat.mul_one] at hr
  rw [← madeCells_one]
  exact hr
theorem SeenM.made (W : World) (n : Nat) (t : TypeId) (ht : t = 40) : SeenM (W.alloc (.cells (List.replicate n (Value.slice none 0 0)).toArray t)) W.heap.size (List.replicate n (Value.slice none 0 0)) (fun _ => []) := by
  subst ht
  refine ⟨BK.new _ _ _, fun j u hu => ?_, fun i j u v b hu hv _ hb => ?_⟩
  · rw [made_at n hu]; exact OwnI.nil _ _ _
  · rw [made_at n hu] at hb; cases hb
theorem own_lt {W : World} {base e sz n : Nat} {v : Value} {xs : List Value} (h : W.ownsRow base e sz v n xs) {b : Nat} (hb : v.ownBlock = some b) : base ≤ b ∧ b < W.heap.size := by
  rcases h.2 with ⟨rfl, _⟩ | ⟨g, cap, cur, rfl, h1, h2, _⟩
  · cases hb
  · simp [Value.ownBlock] at hb
    subst hb
    exact ⟨h1, (Array.getElem?_eq_some_iff.1 h2).1⟩
/-- A number is appended to one of them, and stored where it was. -/
theorem SeenM.app {W : World} {g j k tn : Nat} {us : List Value} {S : Nat → List Int} {u : Value} {x : Int} (h : SeenM W g us S) (hj : us[j]? = some u) (hk : BK W k #[.int .i64 x] tn) (hn : (S j).length ≤ 100000) :
    ∃ A n c w2, (Builtin.append_ #[40, 40] 40 #[u, .slice (some ⟨k, 0, none⟩) 1 1]).run Try.prog W = .ok (.slice A n c) w2 ∧ (∀ w0, Below (g + 1) w0 W → Below (g + 1) w0 w2) ∧ W.heap.size ≤ w2.heap.size ∧ BK w2 g us.toArray 40 ∧
      SeenM (w2.setCell ⟨g, j, none⟩ (.slice A n c)) g (us.set j (.slice A n c)) (fun i => if i = j then S j ++ [x] else S i) := by
  obtain ⟨h1, h2, h3⟩ := h
  have hg := h1.lt
  obtain ⟨i0, hi0, hz0, hz1, hz2⟩ := info_parts int_info
  have hown := h2 j u hj
  obtain ⟨g', cap', w2, hrun, hown', hgr, hat⟩ := app1 (P := Try.prog) 40 40 3 i0 (.int .i64 0) 1 8 int_slice hi0 hz0 hz1 hz2 rfl (by decide) (by decide) (g + 1) W u (S j).length (ofI (S j)) hown k [.int .i64 x] tn hk rfl (by simp [Value.oneCell']) hn (by omega)
  have hug : some g ≠ u.ownBlock := fun hq => by
    have := (own_lt hown hq.symm).1
    omega
  have hb2 : BK w2 g us.toArray 40 := h1.grown hgr hug
  refine ⟨_, _, _, w2, hrun, fun w0 hbw => Below.grown hbw hgr (by omega) fun k hk => (hown.lt k hk).1, hgr.size, hb2, ?_⟩
  have hne : ∀ (i : Nat) (v : Value), us[i]? = some v → i ≠ j → OwnI 3 w2 (g + 1) v (S i) := fun i v hv hij => by
    cases hvb : v.ownBlock with
    | none => exact (h2 i v hv).kept hgr (.inl hvb)
    | some b => exact (h2 i v hv).kept hgr (.inr fun hq => h3 i j v u b hv hj hij hvb (hq.symm.trans hvb))
  have hlt : j < us.length := (List.getElem?_eq_some_iff.1 hj).1
  refine ⟨?_, fun i v hv => ?_, fun i i' v v' b hv hv' hii hb => ?_⟩
  · have h5 := hb2.set j (.slice (some ⟨g', 0, none⟩) ((S j).length + 1) cap')
    rwa [List.setIfInBounds_toArray] at h5
  · dsimp only
    by_cases hij : i = j
    · subst hij
      rw [if_pos rfl]
      rw [List.getElem?_set_self hlt] at hv
      injection hv with hv
      subst hv
      have h5 : OwnI 3 w2 (g + 1) (.slice (some ⟨g', 0, none⟩) ((S i).length + 1) cap') (S i ++ [x]) := by
        unfold OwnI
        rw [← ofI_app, List.length_append]
        exact hown'
      exact own_far h5 (p := ⟨g, i, none⟩) (fun hq => by have := (own_lt h5 hq).1; dsimp only at this; omega) _
    · rw [if_neg hij]
      rw [List.getElem?_set_ne (Ne.symm hij)] at hv
      have h5 := hne i v hv hij
      exact own_far h5 (p := ⟨g, j, none⟩) (fun hq => by have := (own_lt h5 hq).1; dsimp only at this; omega) _
  · have key : ∀ (i : Nat) (v : Value), us[i]? = some v → i ≠ j → v.ownBlock ≠ some g' := fun i v hv hij hq => by
      rcases hat with h4 | h4
      · exact h3 i j v u g' hv hj hij hq h4
      · have := (own_lt (h2 i v hv) hq).2
        omega
    by_cases hij : i = j
    · subst hij
      rw [List.getElem?_set_self hlt] at hv
      rw [List.getElem?_set_ne hii] at hv'
      injection hv with hv
      subst hv
      have e : b = g' := by simpa [Value.ownBlock] using hb.symm
      subst e
      exact key i' v' hv' (Ne.symm hii)
    · rw [List.getElem?_set_ne (Ne.symm hij)] at hv
      by_cases hij' : i' = j
      · subst hij'
        rw [List.getElem?_set_self hlt] at hv'
        injection hv' with hv'
        subst hv'
        intro hq
        have e : g' = b := by simpa [Value.ownBlock] using hq
        subst e
        exact key i v hv hij hb
      · rw [List.getElem?_set_ne (Ne.symm hij')] at hv'
        exact h3 i i' v v' b hv hv' hii hb
section
variable {P : Program} {ops : Array Oper} {Q : Exit → Act → World → Prop} {md : Region.Mode} {E : List Nat}
theorem Below.rulesG {B : Nat} {W w1 : World} (hb : Below B W w1) : (∀ b o, b < B → w1.cell? ⟨b, o, none⟩ = W.cell? ⟨b, o, none⟩) ∧ (∀ b o, b < B → w1.frozen? ⟨b, o, none⟩ = W.frozen? ⟨b, o, none⟩) :=
  ⟨fun b o h => hb.cell (p := ⟨b, o, none⟩) h, fun b o h => hb.frozen (p := ⟨b, o, none⟩) h⟩
/-- A read is taken while only what lies below B stays. -/
theorem any_tg {W0 : World} {B : Nat} (i : Nat) {v : Value} {oi : Oper} {fuel : Nat} {listed : Array Bool} {a a' : Act} {w : World}
    (h : wpAnyF P md ops Q (Below B W0) E fuel (listed.setIfInBounds i true) a' w)
    (hi : ops[i]? = some oi := by rfl)
    (hB : takeB md ops E listed i = true := by kernel_rfl)
    (hQ : ∀ c (a : Act) d (v : Value) w, Q (.panic c) (a.put d v) w → Q (.panic c) a w := by exact fun _ _ _ _ _ hx => hx.elim)
    (hw : Region.wanted oi (yielded ops a.tmps) = true := by rfl)
    (hS : Below B W0 w := by first | with_reducible assumption | exact bel_of)
    (hy : ∀ X, Below B W0 X → (execOp a.eval oi).run P X = .ok (.value v) X := by (intro X hX; obtain ⟨r1, r2⟩ := Below.rulesG hX; clear hX; go_simp; rfl))
    (ha : a.put oi.dst v = a' := by (simp only [List.getElem_toArray, List.getElem_cons_succ, List.getElem_cons_zero, Act.put, List.setIfInBounds_toArray, List.set_cons_succ, List.set_cons_zero]; rfl)) :
    wpAnyF P md ops Q (Below B W0) E (fuel + 1) listed a w := any_take i v hi hB hQ (.inl ⟨hw, hy⟩) hS (ha ▸ h)
end
end Go.Proofs.Ytkibdciomheekaa

set_option linter.all false
namespace Go.Proofs.Ytkibdciomheekaa
open Go.RowKit Hp

theorem rcM_full (L : List (List Int)) (n : Nat) : (rcM L n L.length).length = L.length * n := by
  unfold rcM
  rw [List.take_length]
  induction L with
  | nil => simp
  | cons a l ih => rw [List.flatMap_cons, List.length_append, ih, List.length_map, List.length_range, List.length_cons, Nat.succ_mul]; omega
theorem recL_recN (bars : List Rg) (ss : List Stp) : ∀ i, i ≤ ss.length → (recL bars.length (ss.take i)).length = recN bars ss i
  | 0, _ => by rw [List.take_zero, recL_nil, List.length_map, List.length_range]; rfl
  | i + 1, hi => by
    have ih := recL_recN bars ss i (by omega)
    rw [← recL_step (show i < ss.length by omega), rcM_full, ih]
    rfl
theorem recL_400 {bars : List Rg} {ss : List Stp} (h : OkV bars ss) (hf : ¬ fullP bars ss) : (recL bars.length ss).length ≤ 400 := by
  have h1 := recL_recN bars ss ss.length (Nat.le_refl _)
  rw [List.take_length] at h1
  rw [h1]
  have h2 : ¬ 400 < recN bars ss ss.length := fun q => hf ⟨worksE_of h, q⟩
  omega
theorem SeenM.congr {W : World} {g : Nat} {us : List Value} {S S' : Nat → List Int} (h : SeenM W g us S) (he : ∀ j, j < us.length → S j = S' j) : SeenM W g us S' :=
  ⟨h.1, fun j u hu => by rw [← he j (List.getElem?_eq_some_iff.1 hu).1]; exact h.2.1 j u hu, h.2.2⟩
section
variable {bars : List Rg} {ss : List Stp} {m : Rg} {i k : Nat}
theorem had_rec (h : OkV bars ss) (hm : OkR m) {r : List Int} (hr : r ∈ recL bars.length ss) : hadE bars ss (nthI r 0) r.tail m = if madI bars ss m r = true then 0 else 17 := by
  have OR := recL_ok h hr
  unfold hadE
  rw [if_neg (by rw [recE_of OR]; exact fun h => h rfl), if_neg (by rw [hard_iff.2 hm]; exact Bool.noConfusion)]
  rfl
theorem rec_bars (h : OkV bars ss) (hm : OkR m) {r : List Int} (hr : r ∈ mkL bars m ss) : nthI r 0 ∈ someV bars m ss (-1) := by
  obtain ⟨p, hp, rfl⟩ := mem_mkL.1 hr
  rw [someV_bars h hm]
  exact List.mem_map_of_mem (mem_barsOf.2 ⟨(mem_makers.1 hp).1, p, hp, rfl⟩)
theorem rec_ways (h : OkV bars ss) (hm : OkR m) {r : List Int} (hr : r ∈ mkL bars m ss) (hi : i < ss.length) : nthI r (i + 1) ∈ nthLi (wysL bars m ss ss.length) i := by
  obtain ⟨p, hp, rfl⟩ := mem_mkL.1 hr
  obtain ⟨q1, q2⟩ := mk_ways_at hp hi
  rw [mk_nth p q1, nthLi_eq (by rw [wysL_len]; exact hi)]
  unfold wysL
  rw [List.getElem_map, List.getElem_range, someV_ways h hm hi]
  refine List.mem_map_of_mem (f := Int.ofNat) (mem_waysOf.2 ⟨q2, p, hp, ?_⟩)
  simp [q1]
theorem bars_rec (h : OkV bars ss) (hm : OkR m) {v : Int} (hv : v ∈ someV bars m ss (-1)) : v ∈ (mkL bars m ss).map fun r => nthI r 0 := by
  rw [someV_bars h hm] at hv
  obtain ⟨c, hc, rfl⟩ := List.mem_map.1 hv
  obtain ⟨_, p, hp, rfl⟩ := mem_barsOf.1 hc
  exact List.mem_map.2 ⟨_, mem_mkL.2 ⟨p, hp, rfl⟩, rfl⟩
theorem ways_rec (h : OkV bars ss) (hm : OkR m) (hi : i < ss.length) {v : Int} (hv : v ∈ nthLi (wysL bars m ss ss.length) i) : v ∈ (mkL bars m ss).map fun r => nthI r (i + 1) := by
  rw [nthLi_eq (by rw [wysL_len]; exact hi)] at hv
  unfold wysL at hv
  rw [List.getElem_map, List.getElem_range, someV_ways h hm hi] at hv
  obtain ⟨c, hc, rfl⟩ := List.mem_map.1 hv
  obtain ⟨_, p, hp, e⟩ := mem_waysOf.1 hc
  obtain ⟨q1, q2⟩ := mk_ways_at hp hi
  refine List.mem_map.2 ⟨_, mem_mkL.2 ⟨p, hp, rfl⟩, ?_⟩
  rw [mk_nth p q1, List.getD_eq_getElem?_getD, e]
  rfl
/-- What has been seen at a place among the first k recipes. -/
def snL (bars : List Rg) (ss : List Stp) (m : Rg) (j k : Nat) : List Int := (mkF bars ss m k).map fun r => nthI r j
theorem snL_zero (j : Nat) : snL bars ss m j 0 = [] := by unfold snL; rw [mkF_zero]; rfl
theorem snL_yes (j : Nat) (hk : k < (recL bars.length ss).length) (h : madI bars ss m (nthLi (recL bars.length ss) k) = true) : snL bars ss m j (k + 1) = snL bars ss m j k ++ [nthI (nthLi (recL bars.length ss) k) j] := by
  unfold snL
  rw [mkF_succ hk, if_pos h, List.map_append]
  rfl
theorem snL_no (j : Nat) (hk : k < (recL bars.length ss).length) (h : madI bars ss m (nthLi (recL bars.length ss) k) = false) : snL bars ss m j (k + 1) = snL bars ss m j k := by
  unfold snL
  rw [mkF_succ hk, if_neg (by rw [h]; exact Bool.noConfusion)]
theorem snL_all (j : Nat) : snL bars ss m j (recL bars.length ss).length = (mkL bars m ss).map fun r => nthI r j := by
  unfold snL
  rw [mkF_all]
theorem snL_len (j k : Nat) : (snL bars ss m j k).length = (mkF bars ss m k).length := by
  unfold snL
  rw [List.length_map]
theorem mkF_yes (hk : k < (recL bars.length ss).length) (h : madI bars ss m (nthLi (recL bars.length ss) k) = true) : (mkF bars ss m (k + 1)).length = (mkF bars ss m k).length + 1 := by
  rw [mkF_succ hk, if_pos h, List.length_append]
  rfl
theorem mkF_no (hk : k < (recL bars.length ss).length) (h : madI bars ss m (nthLi (recL bars.length ss) k) = false) : (mkF bars ss m (k + 1)).length = (mkF bars ss m k).length := by
  rw [mkF_succ hk, if_neg (by rw [h]; exact Bool.noConfusion)]
theorem rec_mk (hk : k < (recL bars.length ss).length) (h : madI bars ss m (nthLi (recL bars.length ss) k) = true) : nthLi (recL bars.length ss) k ∈ mkL bars m ss := by
  rw [mkL_filter]
  exact List.mem_filter.2 ⟨mem_nthLi hk, h⟩
section
variable {b : Int} {ks hs : List Int}
theorem nats_back {ks : List Int} (h : ∀ k ∈ ks, 0 ≤ k) : (nats ks).map Int.ofNat = ks := by
  induction ks with
  | nil => rfl
  | cons a l ih =>
    have h1 := h a (List.mem_cons_self ..)
    have h2 := ih fun k hk => h k (List.mem_cons_of_mem _ hk)
    unfold nats at h2 ⊢
    rw [List.map_cons, List.map_cons, h2]
    congr 1
    show Int.ofNat a.toNat = a
    have : Int.ofNat a.toNat = ((a.toNat : Nat) : Int) := rfl
    omega
theorem true_had (OR : OkRec bars ss b ks) (h : histE bars ss b ks hs = 0) (hm : OkR m) (hl : inR (nthI hs ss.length) m = true) : hadE bars ss b ks m = 0 := by
  have h1 := inR_iff.1 (hist_rng h (Nat.le_refl _))
  have h2 := inR_iff.1 hl
  exact hadE_of OR hm (meets_iff.2 ⟨by omega, by omega⟩)
theorem true_mk (OR : OkRec bars ss b ks) (hd : hadE bars ss b ks m = 0) : (b :: ks) ∈ mkL bars m ss := by
  obtain ⟨_, hm, hmt⟩ := of_hadE hd
  rw [mkL_filter]
  refine List.mem_filter.2 ⟨?_, hmt⟩
  unfold recL recs
  rw [List.mem_map]
  refine ⟨(b.toNat, nats ks), ?_, ?_⟩
  · rw [List.mem_flatMap]
    exact ⟨b.toNat, List.mem_range.2 OR.bhi, List.mem_map.2 ⟨nats ks, OR.ways, rfl⟩⟩
  · unfold recI
    dsimp only
    rw [nats_back OR.nn]
    congr 1
    have := OR.blo
    have e : Int.ofNat b.toNat = ((b.toNat : Nat) : Int) := rfl
    omega
theorem true_bars (OR : OkRec bars ss b ks) (hd : hadE bars ss b ks m = 0) : barsE bars ss m = 0 := by
  have hm := (of_hadE hd).2.1
  rw [barsE_two OR.works hm, if_neg]
  intro q
  obtain ⟨p, hp, _⟩ := mem_mkL.1 (true_mk OR hd)
  rw [q] at hp
  cases hp
theorem true_pos (OR : OkRec bars ss b ks) (hd : hadE bars ss b ks m = 0) : 1 ≤ ((mkL bars m ss).length : Int) := by
  have := List.length_pos_of_mem (true_mk OR hd)
  omega
end
end
end Go.Proofs.Ytkibdciomheekaa
