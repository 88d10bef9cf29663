/- Plain: a recipe in two parts; a harder bar, and a wider one. Plain: if less is left open, no recipe is added, no bar, no way, and no range of Had is wider. What is asked for, if less is left open. What the laws say of ranges, histories and what was had. A works that the laws build upon. A recipe in two parts: what the law compares. What HeatNarrower compares: if less is left open, nothing is added. Plain: recipes as lists of numbers, the bar first; how all of them are listed, step by step. Recipes in memory: a list of them that grows; each is its bar and its ways. What follows a region whose operations come in several orders, once. All recipes. The indexes of the numbers that are not 0. How many recipes have each number at a place. What the reference counts is what the program answers. The recipes that can have made a blade, of the reference. Which bars can have made a blade, and how many recipes, of the reference. Which ways of each step can have made a blade, of the reference. What to ask for next, of the reference. Has a works few enough recipes to be tried out. The lists of bars and ways as the laws compare them. A recipe by numbers. -/
import Derived.Test.YtkibdciomheekaaP3
import Derived.Test.YtkibdciomheekaaP1
import Derived.Test.YtkibdciomheekaaP25
import Derived.Test.YtkibdciomheekaaP29
import Derived.Test.YtkibdciomheekaaP10
import Derived.Test.YtkibdciomheekaaP7
import Derived.Test.YtkibdciomheekaaP27
import Derived.Test.YtkibdciomheekaaP24
import Derived.Test.YtkibdciomheekaaP26
import Derived.Test.YtkibdciomheekaaP14
import Derived.Test.YtkibdciomheekaaP28
set_option linter.all false
set_option linter.unnecessarySimpa false
set_option linter.unusedSimpArgs false
set_option linter.unusedVariables false
set_option linter.unusedSectionVars false

namespace Hp
open Go.Proofs.Ytkibdciomheekaa
theorem pick_take2 : ∀ (ss : List Stp) (ks : List Nat) (k : Nat), pick (ss.take k) (ks.take k) = (pick ss ks).take k
  | ss, ks, 0 => by simp [pick]
  | [], ks, k + 1 => by simp [pick]
  | s :: ss, [], k + 1 => by simp [pick]
  | s :: ss, q :: ks, k + 1 => by
    show nthW s q :: pick (ss.take k) (ks.take k) = nthW s q :: (pick ss ks).take k
    rw [pick_take2 ss ks k]
theorem pick_drop : ∀ (ss : List Stp) (ks : List Nat) (k : Nat), ss.length = ks.length → pick (ss.drop k) (ks.drop k) = (pick ss ks).drop k
  | ss, ks, 0, _ => rfl
  | [], [], k + 1, _ => rfl
  | s :: ss, q :: ks, k + 1, h => by
    show pick (ss.drop k) (ks.drop k) = (pick ss ks).drop k
    exact pick_drop ss ks k (by simpa using h)
  | [], _ :: _, k + 1, h => by simp at h
  | _ :: _, [], k + 1, h => by simp at h
theorem hist_take : ∀ {ws : List Wy} {r : Rg} {hs : List Int}, histB r ws hs = true → ∀ k, histB r (ws.take k) (hs.take (k + 1)) = true
  | [], r, [h], e, k => by simpa using e
  | w :: ws, r, h :: hs, e, 0 => by
    have := Bool.and_eq_true_iff.1 e
    simpa [histB] using this.1
  | w :: ws, r, h :: hs, e, k + 1 => by
    have := Bool.and_eq_true_iff.1 e
    show (inR h r && histB (aft w h) (ws.take k) (hs.take (k + 1))) = true
    rw [Bool.and_eq_true]
    exact ⟨this.1, hist_take this.2 k⟩
  | [], _, [], e, _ => by cases e
  | [], _, _ :: _ :: _, e, _ => by cases e
  | _ :: _, _, [], e, _ => by cases e
theorem hist_drop : ∀ {ws : List Wy} {r R : Rg} {hs : List Int} (k : Nat), histB r ws hs = true → k ≤ ws.length → inR (nthI hs k) R = true → histB R (ws.drop k) (hs.drop k) = true
  | [], r, R, [h], 0, e, _, hR => hR
  | w :: ws, r, R, h :: hs, 0, e, _, hR => by
    have := Bool.and_eq_true_iff.1 e
    exact Bool.and_eq_true_iff.2 ⟨hR, this.2⟩
  | w :: ws, r, R, h :: hs, k + 1, e, hk, hR => by
    have := Bool.and_eq_true_iff.1 e
    exact hist_drop k this.2 (by simpa using hk) hR
  | [], _, _, [], 0, e, _, _ => by cases e
  | [], _, _, _ :: _ :: _, 0, e, _, _ => by cases e
  | _ :: _, _, _, [], 0, e, _, _ => by cases e
  | [], _, _, _, k + 1, _, hk, _ => by simp at hk
  | _ :: _, _, _, [], k + 1, e, _, _ => by cases e
theorem thr_lo : ∀ {ws : List Wy} {r r' : Rg}, (∀ w ∈ ws, OkW w) → OkR r → OkR r' → r.lo ≤ r'.lo → ∀ i, i ≤ ws.length → (nthB (thr r ws) i).lo ≤ (nthB (thr r' ws) i).lo
  | ws, r, r', ok, h, h', hl, 0, _ => by cases ws <;> exact hl
  | w :: ws, r, r', ok, h, h', hl, i + 1, hi => by
    have o := ok w (List.mem_cons_self ..)
    exact thr_lo (ws := ws) (r := via w r) (r' := via w r') (fun v hv => ok v (List.mem_cons_of_mem _ hv)) (via_ok o h) (via_ok o h') (aft_mono o h.2.1 hl).1 i (by simpa using hi)
  | [], _, _, _, _, _, _, i + 1, hi => by simp at hi
theorem thr_hi : ∀ {ws : List Wy} {r r' : Rg}, (∀ w ∈ ws, OkW w) → OkR r → OkR r' → r.hi ≤ r'.hi → ∀ i, i ≤ ws.length → (nthB (thr r ws) i).hi ≤ (nthB (thr r' ws) i).hi
  | ws, r, r', ok, h, h', hl, 0, _ => by cases ws <;> exact hl
  | w :: ws, r, r', ok, h, h', hl, i + 1, hi => by
    have o := ok w (List.mem_cons_self ..)
    exact thr_hi (ws := ws) (r := via w r) (r' := via w r') (fun v hv => ok v (List.mem_cons_of_mem _ hv)) (via_ok o h) (via_ok o h') (aft_mono o (show 0 ≤ r.hi from by have := h.1; have := h.2.1; omega) hl).2 i (by simpa using hi)
  | [], _, _, _, _, _, _, i + 1, hi => by simp at hi
/-- The works with another range for a bar. -/
theorem okV_set {bars : List Rg} {ss : List Stp} (h : OkV bars ss) (b : Nat) {r : Rg} (hr : OkR r) : OkV (bars.set b r) ss :=
  ⟨by simpa using h.bpos, by simpa using h.bfew, h.sfew, h.wpos, fun x hx => by
    rcases List.mem_or_eq_of_mem_set hx with hx | rfl
    · exact h.bok x hx
    · exact hr, h.sok⟩
theorem okRec_set {bars : List Rg} {ss : List Stp} {b : Int} {ks : List Int} (h : OkRec bars ss b ks) {r : Rg} (hr : OkR r) : OkRec (bars.set b.toNat r) ss b ks :=
  ⟨okV_set h.works _ hr, h.blo, by simpa using h.bhi, h.ways, h.nn⟩
theorem nthB_set {bars : List Rg} {b : Nat} (h : b < bars.length) (r : Rg) : nthB (bars.set b r) b = r := by simp [nthB, h]
theorem okV_take {bars : List Rg} {ss : List Stp} (h : OkV bars ss) (k : Nat) : OkV bars (ss.take k) :=
  ⟨h.bpos, h.bfew, by have := h.sfew; rw [List.length_take]; omega, fun s hs => h.wpos s (List.mem_of_mem_take hs), h.bok, fun s hs => h.sok s (List.mem_of_mem_take hs)⟩
theorem okV_drop {bars : List Rg} {ss : List Stp} (h : OkV bars ss) (k : Nat) {r : Rg} (hr : OkR r) : OkV [r] (ss.drop k) :=
  ⟨by simp, by simp, by have := h.sfew; rw [List.length_drop]; omega, fun s hs => h.wpos s (List.mem_of_mem_drop hs), fun b hb => by rw [List.mem_singleton.1 hb]; exact hr, fun s hs => h.sok s (List.mem_of_mem_drop hs)⟩
theorem nats_take (ks : List Int) (k : Nat) : nats (ks.take k) = (nats ks).take k := by simp [nats]
theorem nats_drop (ks : List Int) (k : Nat) : nats (ks.drop k) = (nats ks).drop k := by simp [nats]
theorem allR_take {ss : List Stp} {ks : List Nat} (h : ks ∈ allR ss) (k : Nat) : ks.take k ∈ allR (ss.take k) := by
  obtain ⟨h1, h2⟩ := mem_allR_iff.1 h
  refine mem_allR_iff.2 ⟨by rw [List.length_take, List.length_take, h1], fun i hi => ?_⟩
  rw [List.length_take] at hi
  have e1 : (ks.take k).getD i 0 = ks.getD i 0 := by simp [List.getD_eq_getElem?_getD, List.getElem?_take_of_lt (show i < k by omega)]
  have e2 : nthS (ss.take k) i = nthS ss i := by simp [nthS, List.getD_eq_getElem?_getD, List.getElem?_take_of_lt (show i < k by omega)]
  rw [e1, e2]
  exact h2 i (by omega)
theorem allR_drop {ss : List Stp} {ks : List Nat} (h : ks ∈ allR ss) (k : Nat) : ks.drop k ∈ allR (ss.drop k) := by
  obtain ⟨h1, h2⟩ := mem_allR_iff.1 h
  refine mem_allR_iff.2 ⟨by rw [List.length_drop, List.length_drop, h1], fun i hi => ?_⟩
  rw [List.length_drop] at hi
  have e1 : (ks.drop k).getD i 0 = ks.getD (k + i) 0 := by simp [List.getD_eq_getElem?_getD]
  have e2 : nthS (ss.drop k) i = nthS ss (k + i) := by simp [nthS, List.getD_eq_getElem?_getD]
  rw [e1, e2]
  exact h2 (k + i) (by omega)
theorem okRec_take {bars : List Rg} {ss : List Stp} {b : Int} {ks : List Int} (h : OkRec bars ss b ks) (k : Nat) : OkRec bars (ss.take k) b (ks.take k) :=
  ⟨okV_take h.works k, h.blo, h.bhi, by rw [nats_take]; exact allR_take h.ways k, fun x hx => h.nn x (List.mem_of_mem_take hx)⟩
theorem okRec_drop {bars : List Rg} {ss : List Stp} {b : Int} {ks : List Int} (h : OkRec bars ss b ks) (k : Nat) {r : Rg} (hr : OkR r) : OkRec [r] (ss.drop k) 0 (ks.drop k) :=
  ⟨okV_drop h.works k hr, Int.le_refl _, by simp, by rw [nats_drop]; exact allR_drop h.ways k, fun x hx => h.nn x (List.mem_of_mem_drop hx)⟩
end Hp

namespace Hp
section
variable {bars : List Rg} {ss : List Stp} {m x : Rg}
theorem meets_mono {r : Rg} (h1 : m.lo ≤ x.lo) (h2 : x.hi ≤ m.hi) (h : meets r x = true) : meets r m = true := by
  have := meets_iff.1 h
  exact meets_iff.2 (by omega)
theorem makers_mono (h1 : m.lo ≤ x.lo) (h2 : x.hi ≤ m.hi) {r : Nat × List Nat} (h : r ∈ makers bars ss x) : r ∈ makers bars ss m := by
  obtain ⟨a, b, c⟩ := mem_makers.1 h
  exact mem_makers.2 ⟨a, b, meets_mono h1 h2 c⟩
theorem count_mono {α : Type} {p q : α → Bool} : ∀ (l : List α), (∀ a ∈ l, p a = true → q a = true) → (l.filter p).length ≤ (l.filter q).length
  | [], _ => Nat.le_refl _
  | a :: l, h => by
    have ih := count_mono l fun b hb => h b (List.mem_cons_of_mem _ hb)
    by_cases hp : p a = true
    · have hq := h a (List.mem_cons_self ..) hp
      rw [List.filter_cons_of_pos hp, List.filter_cons_of_pos hq]
      simpa using ih
    · rw [List.filter_cons_of_neg hp]
      by_cases hq : q a = true
      · rw [List.filter_cons_of_pos hq, List.length_cons]; omega
      · rw [List.filter_cons_of_neg hq]; exact ih
theorem makers_len (h1 : m.lo ≤ x.lo) (h2 : x.hi ≤ m.hi) : (makers bars ss x).length ≤ (makers bars ss m).length :=
  count_mono _ fun _ _ h => meets_mono h1 h2 h
theorem barsOf_mono (h1 : m.lo ≤ x.lo) (h2 : x.hi ≤ m.hi) {nb b : Nat} (h : b ∈ barsOf nb (makers bars ss x)) : b ∈ barsOf nb (makers bars ss m) := by
  obtain ⟨hb, r, hr, e⟩ := mem_barsOf.1 h
  exact mem_barsOf.2 ⟨hb, r, makers_mono h1 h2 hr, e⟩
theorem waysOf_mono (h1 : m.lo ≤ x.lo) (h2 : x.hi ≤ m.hi) {nw i k : Nat} (h : k ∈ waysOf nw i (makers bars ss x)) : k ∈ waysOf nw i (makers bars ss m) := by
  obtain ⟨hk, r, hr, e⟩ := mem_waysOf.1 h
  exact mem_waysOf.2 ⟨hk, r, makers_mono h1 h2 hr, e⟩
end
theorem headR_at (l : List Rg) : headR l = nthB l 0 := by cases l <;> rfl
theorem hadL_mono {m x : Rg} (hx : x.lo ≤ x.hi) (h1 : m.lo ≤ x.lo) (h2 : x.hi ≤ m.hi) : ∀ {ws : List Wy} {r : Rg}, (∀ w ∈ ws, OkW w) → OkR r → meets (endR r ws) x = true → ∀ i, i ≤ ws.length →
    (nthB (hadL r ws m) i).lo ≤ (nthB (hadL r ws x) i).lo ∧ (nthB (hadL r ws x) i).hi ≤ (nthB (hadL r ws m) i).hi
  | [], r, ok, hr, h, i, hi => by
    obtain rfl : i = 0 := by simpa using hi
    show max r.lo m.lo ≤ max r.lo x.lo ∧ min r.hi x.hi ≤ min r.hi m.hi
    omega
  | w :: ws, r, ok, hr, h, i + 1, hi => hadL_mono hx h1 h2 (ws := ws) (r := via w r) (fun v hv => ok v (List.mem_cons_of_mem _ hv)) (via_ok (ok w (List.mem_cons_self ..)) hr) h i (by simpa using hi)
  | w :: ws, r, ok, hr, h, 0, _ => by
    have o := ok w (List.mem_cons_self ..)
    have ih := hadL_mono hx h1 h2 (ws := ws) (r := via w r) (fun v hv => ok v (List.mem_cons_of_mem _ hv)) (via_ok o hr) h 0 (Nat.zero_le _)
    rw [← headR_at, ← headR_at] at ih
    have hd := hadL_head ok hr hx h
    show (backP w r (headR (hadL (via w r) ws m))).lo ≤ (backP w r (headR (hadL (via w r) ws x))).lo ∧ (backP w r (headR (hadL (via w r) ws x))).hi ≤ (backP w r (headR (hadL (via w r) ws m))).hi
    have hd' : (backP w r (headR (hadL (via w r) ws x))).lo ≤ (backP w r (headR (hadL (via w r) ws x))).hi := hd.1
    have key : ∀ y, inR y (backP w r (headR (hadL (via w r) ws x))) = true → inR y (backP w r (headR (hadL (via w r) ws m))) = true := fun y hy => by
      obtain ⟨a, b⟩ := (backP_in o hr).1 hy
      exact (backP_in o hr).2 ⟨a, meets_mono ih.1 ih.2 b⟩
    have a := inR_iff.1 (key _ (inR_iff.2 ⟨Int.le_refl _, hd'⟩))
    have b := inR_iff.1 (key _ (inR_iff.2 ⟨hd', Int.le_refl _⟩))
    exact ⟨a.1, b.2⟩
end Hp

set_option linter.all false
namespace Go.Proofs.Ytkibdciomheekaa
open Go.RowKit Hp

theorem lsQ_le (l : List Rg) : ∀ n j, j ≤ n → (lsQ l n).hi ≤ (nthB l j).hi
  | 0, j, h => by
    obtain rfl : j = 0 := by omega
    exact Int.le_refl _
  | n + 1, j, h => by
    unfold lsQ
    rcases Nat.lt_or_ge j (n + 1) with hj | hj
    · have := lsQ_le l n j (by omega)
      split <;> omega
    · obtain rfl : j = n + 1 := by omega
      split <;> omega
theorem lsQ_ex (l : List Rg) : ∀ n, ∃ j, j ≤ n ∧ lsQ l n = nthB l j
  | 0 => ⟨0, Nat.le_refl _, rfl⟩
  | n + 1 => by
    obtain ⟨j, hj, e⟩ := lsQ_ex l n
    unfold lsQ
    split
    · exact ⟨n + 1, Nat.le_refl _, rfl⟩
    · exact ⟨j, by omega, e⟩
theorem qsL_at (L : List (List Int)) {n j : Nat} (h : j < n) : (nthB (qsL L n) j).hi = wrs L ((j : Int) - 1) 6 := by simp [nthB, qsL, h]
section
variable {bars : List Rg} {ss : List Stp} {m x : Rg}
theorem hits_mono (h1 : m.lo ≤ x.lo) (h2 : x.hi ≤ m.hi) (a c : Int) : hits (mkL bars x ss) a c ≤ hits (mkL bars m ss) a c := by
  unfold hits mkL makers
  rw [List.filter_map, List.filter_map, List.length_map, List.length_map, List.filter_filter, List.filter_filter]
  have := count_mono (p := fun r : Nat × List Nat => ((fun r : List Int => decide (-1 ≤ a ∧ a + 1 < r.length ∧ nthI r (a + 1).toNat = c)) ∘ fun r : Nat × List Nat => Int.ofNat r.1 :: r.2.map Int.ofNat) r && madeB bars ss x r)
    (q := fun r : Nat × List Nat => ((fun r : List Int => decide (-1 ≤ a ∧ a + 1 < r.length ∧ nthI r (a + 1).toNat = c)) ∘ fun r : Nat × List Nat => Int.ofNat r.1 :: r.2.map Int.ofNat) r && madeB bars ss m r) (recs bars.length ss) (fun r _ hr => by
      rw [Bool.and_eq_true] at hr ⊢
      exact ⟨hr.1, meets_mono h1 h2 hr.2⟩)
  omega
theorem wrs_mono (h1 : m.lo ≤ x.lo) (h2 : x.hi ≤ m.hi) (a : Int) : ∀ k, wrs (mkL bars x ss) a k ≤ wrs (mkL bars m ss) a k
  | 0 => Int.le_refl _
  | k + 1 => by
    have ih := wrs_mono h1 h2 a k
    have := hits_mono (bars := bars) (ss := ss) h1 h2 a (k : Int)
    unfold wrs
    omega
/-- What is left at worst is not more, if less is left open. -/
theorem ask_mono (h1 : m.lo ≤ x.lo) (h2 : x.hi ≤ m.hi) : (lsQ (qsL (mkL bars x ss) (ss.length + 1)) ss.length).hi ≤ (lsQ (qsL (mkL bars m ss) (ss.length + 1)) ss.length).hi := by
  obtain ⟨j, hj, e⟩ := lsQ_ex (qsL (mkL bars m ss) (ss.length + 1)) ss.length
  have a := lsQ_le (qsL (mkL bars x ss) (ss.length + 1)) ss.length j hj
  rw [e]
  rw [qsL_at _ (by omega)] at a ⊢
  have := wrs_mono (bars := bars) (ss := ss) h1 h2 ((j : Int) - 1) 6
  omega
theorem ask_len : (lsQ (qsL (mkL bars m ss) (ss.length + 1)) ss.length).hi ≤ ((mkL bars m ss).length : Int) := by
  have a := lsQ_le (qsL (mkL bars m ss) (ss.length + 1)) ss.length 0 (Nat.zero_le _)
  rw [qsL_at _ (by omega)] at a
  have := (wrs_le (mkL bars m ss) (((0 : Nat) : Int) - 1) 6).2
  omega
theorem wrs_ge (L : List (List Int)) (a : Int) : ∀ k c : Nat, c < k → hits L a (c : Int) ≤ wrs L a k
  | 0, c, h => by omega
  | k + 1, c, h => by
    unfold wrs
    rcases Nat.lt_or_ge c k with hc | hc
    · have := wrs_ge L a k c hc
      omega
    · obtain rfl : c = k := by omega
      omega
theorem hits_pos {L : List (List Int)} {a c : Int} {r : List Int} (hr : r ∈ L) (h1 : -1 ≤ a) (h2 : a + 1 < r.length) (h3 : nthI r (a + 1).toNat = c) : 1 ≤ hits L a c := by
  unfold hits
  have : 0 < (L.filter fun r => decide (-1 ≤ a ∧ a + 1 < r.length ∧ nthI r (a + 1).toNat = c)).length := List.length_pos_of_mem (List.mem_filter.2 ⟨hr, decide_eq_true ⟨h1, h2, h3⟩⟩)
  omega
theorem ask_pos (h : OkV bars ss) (hne : makers bars ss m ≠ []) : 1 ≤ (lsQ (qsL (mkL bars m ss) (ss.length + 1)) ss.length).hi := by
  obtain ⟨j, hj, e⟩ := lsQ_ex (qsL (mkL bars m ss) (ss.length + 1)) ss.length
  rw [e, qsL_at _ (by omega)]
  obtain ⟨r, hr⟩ := List.exists_mem_of_ne_nil _ hne
  have hm : (Int.ofNat r.1 :: r.2.map Int.ofNat) ∈ mkL bars m ss := List.mem_map.2 ⟨r, hr, rfl⟩
  obtain ⟨hb, hw, _⟩ := mem_makers.1 hr
  obtain ⟨hl, hlt⟩ := mem_allR_iff.1 hw
  rcases Nat.eq_zero_or_pos j with h0 | h0
  · subst h0
    have h6 : r.1 < 6 := by have := h.bfew; omega
    have := wrs_ge (mkL bars m ss) (((0 : Nat) : Int) - 1) 6 r.1 h6
    have := hits_pos (a := ((0 : Nat) : Int) - 1) (c := (r.1 : Int)) hm (by omega) (by simp) (by simp [nthI])
    omega
  · obtain ⟨i, rfl⟩ : ∃ i, j = i + 1 := ⟨j - 1, by omega⟩
    have hi : i < ss.length := by omega
    have h5 := hlt i hi
    have h6 := (h.wpos _ (nthS_mem hi)).2
    have := wrs_ge (mkL bars m ss) (((i + 1 : Nat) : Int) - 1) 6 (r.2.getD i 0) (by omega)
    have := hits_pos (a := ((i + 1 : Nat) : Int) - 1) (c := ((r.2.getD i 0 : Nat) : Int)) hm (by omega) (by simp; omega) (by
      have e2 : (((i + 1 : Nat) : Int) - 1 + 1).toNat = i + 1 := by omega
      have hi2 : i < r.2.length := by omega
      rw [e2]
      simp [nthI, hi2])
    omega
end
end Go.Proofs.Ytkibdciomheekaa

set_option linter.all false
namespace Go.Proofs.Ytkibdciomheekaa
open Go.RowKit Hp

theorem nthB_cons (x : Rg) (l : List Rg) (i : Nat) : nthB (x :: l) (i + 1) = nthB l i := rfl
theorem nthB_of {l : List Rg} {i : Nat} {r : Rg} (h : l[i]? = some r) : nthB l i = r := by simp [nthB, h]
theorem nthI_of {l : List Int} {i : Nat} {x : Int} (h : l[i]? = some x) : nthI l i = x := by simp [nthI, h]
theorem hadL_in : ∀ {ws : List Wy} {r m : Rg}, (∀ w ∈ ws, OkW w) → OkR r → m.lo ≤ m.hi → meets (endR r ws) m = true → ∀ i, i ≤ ws.length →
    (nthB (thr r ws) i).lo ≤ (nthB (hadL r ws m) i).lo ∧ (nthB (hadL r ws m) i).hi ≤ (nthB (thr r ws) i).hi
  | ws, r, m, ok, hr, hm, h, 0, _ => by
    have h1 := hadL_head ok hr hm h
    rw [headR_nth] at h1
    have e : nthB (thr r ws) 0 = r := by cases ws <;> rfl
    rw [e]
    exact h1.2
  | w :: ws, r, m, ok, hr, hm, h, i + 1, hi => by
    show (nthB (r :: thr (via w r) ws) (i + 1)).lo ≤ (nthB (_ :: hadL (via w r) ws m) (i + 1)).lo ∧ (nthB (_ :: hadL (via w r) ws m) (i + 1)).hi ≤ (nthB (r :: thr (via w r) ws) (i + 1)).hi
    rw [nthB_cons, nthB_cons]
    exact hadL_in (fun v hv => ok v (List.mem_cons_of_mem _ hv)) (via_ok (ok w (List.mem_cons_self ..)) hr) hm h i (by simpa using hi)
  | [], r, m, ok, hr, hm, h, i + 1, hi => by simp at hi
theorem hadL_last : ∀ (ws : List Wy) (r m : Rg), nthB (hadL r ws m) ws.length = meet (endR r ws) m
  | [], r, m => rfl
  | w :: ws, r, m => hadL_last ws (via w r) m
section
variable {bars : List Rg} {ss : List Stp} {b : Int} {ks hs : List Int} {m : Rg} {i : Nat}
theorem rng_at (OR : OkRec bars ss b ks) (hi : i ≤ ss.length) : nthB (rngL bars ss b ks) i = endR (nthB bars b.toNat) ((pick ss (nats ks)).take i) := by
  unfold rngL
  rw [if_pos (recE_of OR)]
  exact nthB_of (thr_at _ _ _ (by rw [pick_len OR.ways]; exact hi))
theorem rng_ok (OR : OkRec bars ss b ks) (hi : i ≤ ss.length) : OkR (nthB (rngL bars ss b ks) i) := by
  rw [rng_at OR hi]
  exact endR_ok (fun w hw => pick_ok OR.works.sok OR.ways w (List.mem_of_mem_take hw)) (OR.works.bok _ (nthB_mem OR.bhi))
theorem rng_last (OR : OkRec bars ss b ks) : nthB (rngL bars ss b ks) ss.length = endR (nthB bars b.toNat) (pick ss (nats ks)) := by
  rw [rng_at OR (Nat.le_refl _), List.take_of_length_le (by rw [pick_len OR.ways]; exact Nat.le_refl _)]
theorem histE_histB (h : histE bars ss b ks hs = 0) : OkRec bars ss b ks ∧ hs.length = ss.length + 1 ∧ histB (nthB bars b.toNat) (pick ss (nats ks)) hs = true := by
  unfold histE at h
  split at h
  · rename_i q; exact absurd h q
  · rename_i q
    split at h
    · cases h
    · rename_i q2
      split at h
      · rename_i q3
        exact ⟨okRec_of (Decidable.not_not.1 q), by omega, q3⟩
      · cases h
theorem hist_rng (h : histE bars ss b ks hs = 0) (hi : i ≤ ss.length) : inR (nthI hs i) (nthB (rngL bars ss b ks) i) = true := by
  obtain ⟨OR, hl, hB⟩ := histE_histB h
  obtain ⟨x, hx, h2⟩ := hist_in (pick_ok OR.works.sok OR.ways) (OR.works.bok _ (nthB_mem OR.bhi)) hB i (by rw [pick_len OR.ways]; exact hi)
  rw [rng_at OR hi, nthI_of hx]
  exact h2
theorem hadE_of (OR : OkRec bars ss b ks) (hm : OkR m) (h : meets (nthB (rngL bars ss b ks) ss.length) m = true) : hadE bars ss b ks m = 0 := by
  rw [rng_last OR] at h
  unfold hadE
  rw [if_neg (by rw [recE_of OR]; exact fun h => h rfl), if_neg (by rw [hard_iff.2 hm]; exact Bool.noConfusion), if_pos h]
theorem had_one (OR : OkRec bars ss b ks) {e : Int} (h : inR e (nthB (rngL bars ss b ks) ss.length) = true) : hadE bars ss b ks ⟨e, e⟩ = 0 := by
  have ok := rng_ok (i := ss.length) OR (Nat.le_refl _)
  have h1 := inR_iff.1 h
  refine hadE_of OR ⟨Int.le_refl _, ?_, ?_⟩ (meets_iff.2 ⟨?_, ?_⟩)
  · have := ok.2.1; show (0 : Int) ≤ e; omega
  · have := ok.2.2; show e ≤ 1000; omega
  · exact h1.1
  · exact h1.2
theorem of_had (h : hadE bars ss b ks m = 0) : OkRec bars ss b ks ∧ OkR m ∧ meets (nthB (rngL bars ss b ks) ss.length) m = true := by
  obtain ⟨h1, h2, h3⟩ := of_hadE h
  exact ⟨h1, h2, by rw [rng_last h1]; exact h3⟩
theorem had_last (h : hadE bars ss b ks m = 0) : nthB (hadV bars ss b ks m) ss.length = meet (nthB (rngL bars ss b ks) ss.length) m := by
  have OR := (of_had h).1
  rw [rng_last OR]
  unfold hadV
  rw [if_pos h]
  have := hadL_last (pick ss (nats ks)) (nthB bars b.toNat) m
  rw [pick_len OR.ways] at this
  exact this
theorem had_in (h : hadE bars ss b ks m = 0) (hi : i ≤ ss.length) : (nthB (rngL bars ss b ks) i).lo ≤ (nthB (hadV bars ss b ks m) i).lo ∧ (nthB (hadV bars ss b ks m) i).hi ≤ (nthB (rngL bars ss b ks) i).hi := by
  obtain ⟨OR, hm, hmt⟩ := of_hadE h
  unfold hadV rngL
  rw [if_pos h, if_pos (recE_of OR)]
  exact hadL_in (pick_ok OR.works.sok OR.ways) (OR.works.bok _ (nthB_mem OR.bhi)) hm.1 hmt i (by rw [pick_len OR.ways]; exact hi)
theorem hist_hadV (h : hadE bars ss b ks m = 0) (hh : histE bars ss b ks hs = 0) (hl : inR (nthI hs ss.length) m = true) (hi : i ≤ ss.length) : inR (nthI hs i) (nthB (hadV bars ss b ks m) i) = true := by
  obtain ⟨OR, hm, hmt⟩ := of_hadE h
  obtain ⟨_, hlen, hB⟩ := histE_histB hh
  have hx : hs[(pick ss (nats ks)).length]? = some (nthI hs ss.length) := by
    rw [pick_len OR.ways]
    have hq : ss.length < hs.length := by omega
    simp [nthI, hq]
  obtain ⟨y, hy, d, hd, hin⟩ := hist_had (pick_ok OR.works.sok OR.ways) (OR.works.bok _ (nthB_mem OR.bhi)) hm.1 hB hx hl i (by rw [pick_len OR.ways]; exact hi)
  unfold hadV
  rw [if_pos h, nthI_of hy, nthB_of hd]
  exact hin
theorem histV_last (h : hadE bars ss b ks m = 0) : inR (nthI (histV bars ss b ks m) ss.length) m = true := by
  obtain ⟨x, hx, hm⟩ := (histV_ok h).2
  rw [nthI_of hx]; exact hm
theorem histV_had (h : hadE bars ss b ks m = 0) (hi : i ≤ ss.length) : inR (nthI (histV bars ss b ks m) i) (nthB (hadV bars ss b ks m) i) = true :=
  hist_hadV h (histV_histE h) (histV_last h) hi
end
end Go.Proofs.Ytkibdciomheekaa

set_option linter.all false
namespace Go.Proofs.Ytkibdciomheekaa
open Go.RowKit Hp

def fineP (bars : List Rg) (ss : List Stp) : Prop := ¬ greatP bars ss ∧ worksE bars ss = 0
def FinePost (bars : List Rg) (ss : List Stp) (w : World) (e : Ending) (w' : World) : Prop := ∃ q, e = .returned (.bool q) ∧ (q = true ↔ fineP bars ss) ∧ Below w.heap.size w w'
theorem FinePost.no {bars : List Rg} {ss : List Stp} {w w' : World} (h : ¬ fineP bars ss) (hb : Below w.heap.size w w') : FinePost bars ss w (.returned (.bool false)) w' := ⟨false, rfl, ⟨fun q => Bool.noConfusion q, fun q => (h q).elim⟩, hb⟩
theorem FinePost.yes {bars : List Rg} {ss : List Stp} {w w' : World} (h : fineP bars ss) (hb : Below w.heap.size w w') : FinePost bars ss w (.returned (.bool true)) w' := ⟨true, rfl, ⟨fun _ => h, fun _ => rfl⟩, hb⟩

set_option maxHeartbeats 8000000 in
set_option maxRecDepth 100000 in
theorem fine_any (bars : List Rg) (ss : List Stp) (vb vs : Value) (w : World) (hB : RR w w.heap.size vb bars) (hS : RP w w.heap.size vs ss) :
    Calls Try.prog 43 #[.agg #[vb, vs]] w (FinePost bars ss w) := by
  obtain ⟨Ab, cb, rfl⟩ := hB.slice
  obtain ⟨As, cs, rfl⟩ := hS.slice
  obtain ⟨n0, hn0⟩ : ∃ n, w.heap.size = n := ⟨_, rfl⟩
  have hC : Below n0 w w := Below.refl _ _
  go_enter Try.func43, Try.ntmps43
  go_upto_region 1 with fail
  have hqbx : n0 ≤ n0 := by have := hC.size; omega
  have bx : BK (w.alloc (.cells #[.slice Ab bars.length cb, .slice As ss.length cs] 25)) (n0) #[.slice Ab bars.length cb, .slice As ss.length cs] 25 := BK.new' _ _ _ (n0) hn0
  have hsbx : (w.alloc (.cells #[.slice Ab bars.length cb, .slice As ss.length cs] 25)).heap.size = n0 + 1 := by simp [hn0]
  replace hC : Below n0 w (w.alloc (.cells #[.slice Ab bars.length cb, .slice As ss.length cs] 25)) := Below.alloc hC (by have := hC.size; omega) _
  replace hB := (RS.below hB (w' := (w.alloc (.cells #[.slice Ab bars.length cb, .slice As ss.length cs] 25))) (Below.alloc (Below.refl _ _) (Nat.le_refl _) _)).more (B' := (w.alloc (.cells #[.slice Ab bars.length cb, .slice As ss.length cs] 25)).heap.size) (by simp)
  replace hS := (RP.below hS (w' := (w.alloc (.cells #[.slice Ab bars.length cb, .slice As ss.length cs] 25))) (Below.alloc (Below.refl _ _) (Nat.le_refl _) _)).more (B' := (w.alloc (.cells #[.slice Ab bars.length cb, .slice As ss.length cs] 25)).heap.size) (by simp)
  generalize (w.alloc (.cells #[.slice Ab bars.length cb, .slice As ss.length cs] 25)) = Wbx at *
  have lbx := bx.lt
  have bxc0 := bx.cell 0
  have bxc1 := bx.cell 1
  simp at bxc0 bxc1
  go_wp2_with fail
  clear lbx bxc0 bxc1
  clear hsbx
  refine (great_any bars ss _ _ _ hB hS).mono ?_
  rintro e w1 ⟨q, rfl, hq, hb⟩
  replace hC : Below n0 w w1 := hC.trans (hb.mono (by have := hC.size; omega))
  replace hB := (RS.below hB hb).more hb.size
  replace hS := (RP.below hS hb).more hb.size
  replace bx := bx.below hb bx.lt
  clear hb
  cases q
  case true =>
    have HE := Lib.hid (show ¬ fineP bars ss from fun h => h.1 (hq.1 rfl))
    clear hq
    go_wp2_with fail
    go_ret
    exact FinePost.no HE.out (by (try rw [hn0]); exact hC)
  have HG := Lib.hid (show ¬ greatP bars ss from fun h => Bool.noConfusion (hq.2 h))
  clear hq
  have lbx := bx.lt
  have bxc0 := bx.cell 0
  have bxc1 := bx.cell 1
  simp at bxc0 bxc1
  go_wp2_with fail
  clear lbx bxc0 bxc1
  refine (checkWorksR_any bars ss _ _ _ (great_fit HG.out) hB hS).mono ?_
  rintro e w2 ⟨rfl, hb⟩
  replace hC : Below n0 w w2 := hC.trans (hb.mono (by have := hC.size; omega))
  replace hB := (RS.below hB hb).more hb.size
  replace hS := (RP.below hS hb).more hb.size
  replace bx := bx.below hb bx.lt
  clear hb
  obtain ⟨e, he⟩ : ∃ e, worksE bars ss = e := ⟨_, rfl⟩
  rw [he]
  by_cases e0 : e = 0
  case neg =>
    have HE := Lib.hid (show ¬ fineP bars ss from fun h => e0 (he.symm.trans h.2))
    have b1 : (e == 0) = false := beq_eq_false_iff_ne.2 e0
    clear he e0
    go_wp2_with fail
    go_ret
    exact FinePost.no HE.out (by (try rw [hn0]); exact hC)
  subst e0
  have HE := Lib.hid (show fineP bars ss from ⟨HG.out, he⟩)
  clear he
  go_wp2_with fail
  go_ret
  exact FinePost.yes HE.out (by (try rw [hn0]); exact hC)
end Go.Proofs.Ytkibdciomheekaa

set_option linter.all false
namespace Go.Proofs.Ytkibdciomheekaa
open Go.RowKit Hp

theorem okV_small {bars : List Rg} {ss : List Stp} (h : OkV bars ss) : ¬ greatP bars ss := by
  rintro (q | q | ⟨k, hk, q⟩)
  · have := h.bfew; omega
  · have := h.sfew; omega
  · have h1 := (h.wpos _ (nthS_mem hk)).2
    rcases q with q | ⟨j, hj, q⟩
    · omega
    · have := (h.sok _ (nthS_mem hk) _ (nthW_mem hj)).few
      omega
theorem okV_fine {bars : List Rg} {ss : List Stp} (h : OkV bars ss) : fineP bars ss := ⟨okV_small h, worksE_of h⟩
section
variable {bars : List Rg} {ss : List Stp} {b : Int} {ks hs : List Int} {k : Nat}
theorem part_rng1 (OR : OkRec bars ss b ks) : rngL bars (ss.take k) b (ks.take k) = (rngL bars ss b ks).take (k + 1) := by
  unfold rngL
  rw [if_pos (recE_of OR), if_pos (recE_of (okRec_take OR k)), thr_take, nats_take, pick_take2]
theorem part_rng2 (OR : OkRec bars ss b ks) (hk : k ≤ ss.length) : rngL [nthB (rngL bars ss b ks) k] (ss.drop k) 0 (ks.drop k) = (rngL bars ss b ks).drop k := by
  have OR2 := okRec_drop OR k (rng_ok (i := k) OR hk)
  have hl : ss.length = (nats ks).length := (allR_len OR.ways).symm
  have h1 := rng_at OR hk
  rw [h1] at OR2 ⊢
  unfold rngL
  rw [if_pos (recE_of OR), if_pos (recE_of OR2), nats_drop, pick_drop _ _ _ hl, thr_drop _ _ _ (by rw [pick_len OR.ways]; exact hk)]
  rfl
theorem part_hist1 (h : histE bars ss b ks hs = 0) (hk : k ≤ ss.length) : histE bars (ss.take k) b (ks.take k) (hs.take (k + 1)) = 0 := by
  obtain ⟨OR, hl, hB⟩ := histE_histB h
  have h1 : histB (nthB bars b.toNat) (pick (ss.take k) (nats (ks.take k))) (hs.take (k + 1)) = true := by
    rw [nats_take, pick_take2]
    exact hist_take hB k
  rw [histE_at (recE_of (okRec_take OR k)) (by rw [List.length_take, List.length_take, hl]; omega) h1, if_pos rfl]
theorem part_hist2 (h : histE bars ss b ks hs = 0) (hk : k ≤ ss.length) : histE [nthB (rngL bars ss b ks) k] (ss.drop k) 0 (ks.drop k) (hs.drop k) = 0 := by
  obtain ⟨OR, hl, hB⟩ := histE_histB h
  have hl2 : ss.length = (nats ks).length := (allR_len OR.ways).symm
  have OR2 := okRec_drop OR k (rng_ok (i := k) OR hk)
  have h1 : histB (nthB [nthB (rngL bars ss b ks) k] (0 : Int).toNat) (pick (ss.drop k) (nats (ks.drop k))) (hs.drop k) = true := by
    rw [nats_drop, pick_drop _ _ _ hl2]
    exact hist_drop k hB (by rw [pick_len OR.ways]; exact hk) (hist_rng h hk)
  rw [histE_at (recE_of OR2) (by rw [List.length_drop, List.length_drop, hl]; omega) h1, if_pos rfl]
end
end Go.Proofs.Ytkibdciomheekaa

set_option linter.all false
namespace Go.Proofs.Ytkibdciomheekaa
open Go.RowKit Hp

section
variable {bars : List Rg} {ss : List Stp} {m x : Rg} {b : Int} {ks : List Int} {i : Nat}
theorem mkL_len : (mkL bars m ss).length = (makers bars ss m).length := by unfold mkL; rw [List.length_map]
theorem mkL_pos : 0 < ((mkL bars m ss).length : Int) ↔ makers bars ss m ≠ [] := by
  rw [mkL_len]
  cases makers bars ss m <;> simp
theorem mkL_mono (h1 : m.lo ≤ x.lo) (h2 : x.hi ≤ m.hi) : ((mkL bars x ss).length : Int) ≤ ((mkL bars m ss).length : Int) := by
  have := makers_len (bars := bars) (ss := ss) h1 h2
  rw [mkL_len, mkL_len]
  omega
theorem meas_ok (h : OkV bars ss) (hm : OkR m) : measE bars ss m = 0 := by
  unfold measE
  rw [worksE_of h, if_neg (by simp), if_pos (hard_iff.2 hm)]
theorem had_two (OR : OkRec bars ss b ks) (hm : OkR m) : hadE bars ss b ks m = 0 ∨ hadE bars ss b ks m = 17 := by
  unfold hadE
  rw [if_neg (by rw [recE_of OR]; exact fun h => h rfl), if_neg (by rw [hard_iff.2 hm]; exact Bool.noConfusion)]
  split
  · exact .inl rfl
  · exact .inr rfl
theorem had_mono (hm : OkR m) (h1 : m.lo ≤ x.lo) (h2 : x.hi ≤ m.hi) (h : hadE bars ss b ks x = 0) : hadE bars ss b ks m = 0 := by
  obtain ⟨OR, hx, hi⟩ := of_had h
  exact hadE_of OR hm (meets_mono h1 h2 hi)
theorem hadV_mono (hm : OkR m) (h1 : m.lo ≤ x.lo) (h2 : x.hi ≤ m.hi) (h : hadE bars ss b ks x = 0) (hi : i ≤ ss.length) :
    (nthB (hadV bars ss b ks m) i).lo ≤ (nthB (hadV bars ss b ks x) i).lo ∧ (nthB (hadV bars ss b ks x) i).hi ≤ (nthB (hadV bars ss b ks m) i).hi := by
  obtain ⟨OR, hx, hmt⟩ := of_hadE h
  unfold hadV
  rw [if_pos h, if_pos (had_mono hm h1 h2 h)]
  exact hadL_mono hx.1 h1 h2 (pick_ok OR.works.sok OR.ways) (OR.works.bok _ (nthB_mem OR.bhi)) hmt i (by rw [pick_len OR.ways]; exact hi)
theorem someV_none (h : OkV bars ss) (hm : OkR m) : someV bars m ss (-1) = [] ↔ makers bars ss m = [] := by
  rw [someV_bars h hm]
  constructor
  · intro q
    cases hq : makers bars ss m with
    | nil => rfl
    | cons r l =>
      have hr : r ∈ makers bars ss m := by rw [hq]; exact List.mem_cons_self ..
      have h3 : r.1 ∈ barsOf bars.length (makers bars ss m) := mem_barsOf.2 ⟨(mem_makers.1 hr).1, r, hr, rfl⟩
      have h4 := List.mem_map_of_mem (f := Int.ofNat) h3
      rw [q] at h4
      cases h4
  · intro q
    rw [q]
    simp [barsOf]
theorem barsE_two (h : OkV bars ss) (hm : OkR m) : barsE bars ss m = if makers bars ss m = [] then 17 else 0 := by
  unfold barsE
  rw [meas_ok h hm, if_neg (by simp)]
  by_cases q : makers bars ss m = []
  · rw [if_pos q, if_pos ((someV_none h hm).2 q)]
  · rw [if_neg q, if_neg (fun h2 => q ((someV_none h hm).1 h2))]
theorem barsE_pos (h : OkV bars ss) (hm : OkR m) : (barsE bars ss m == 0) = decide (0 < ((mkL bars m ss).length : Int)) := by
  rw [Bool.eq_iff_iff, beq_iff_eq, decide_eq_true_iff, mkL_pos, barsE_two h hm]
  split <;> simp_all
theorem barsE_mono (h : OkV bars ss) (hm : OkR m) (hx : OkR x) (h1 : m.lo ≤ x.lo) (h2 : x.hi ≤ m.hi) (h0 : barsE bars ss x = 0) : barsE bars ss m = 0 := by
  have a := barsE_pos h hm
  have c := barsE_pos h hx
  rw [h0] at c
  have d : 0 < ((mkL bars x ss).length : Int) := of_decide_eq_true c.symm
  have := mkL_mono (bars := bars) (ss := ss) h1 h2
  rw [decide_eq_true (show 0 < ((mkL bars m ss).length : Int) by omega)] at a
  exact beq_iff_eq.1 a
theorem bars_sub (h : OkV bars ss) (hm : OkR m) (hx : OkR x) (h1 : m.lo ≤ x.lo) (h2 : x.hi ≤ m.hi) {v : Int} (hv : v ∈ someV bars x ss (-1)) : v ∈ someV bars m ss (-1) := by
  rw [someV_bars h hx] at hv
  rw [someV_bars h hm]
  obtain ⟨c, hc, rfl⟩ := List.mem_map.1 hv
  exact List.mem_map_of_mem (barsOf_mono h1 h2 hc)
theorem ways_sub (h : OkV bars ss) (hm : OkR m) (hx : OkR x) (h1 : m.lo ≤ x.lo) (h2 : x.hi ≤ m.hi) (hi : i < ss.length) {v : Int} (hv : v ∈ nthLi (wysL bars x ss ss.length) i) : v ∈ nthLi (wysL bars m ss ss.length) i := by
  rw [nthLi_eq (by rw [wysL_len]; exact hi)] at hv ⊢
  unfold wysL at hv ⊢
  rw [List.getElem_map, List.getElem_range, someV_ways h hx hi] at hv
  rw [List.getElem_map, List.getElem_range, someV_ways h hm hi]
  obtain ⟨c, hc, rfl⟩ := List.mem_map.1 hv
  exact List.mem_map_of_mem (waysOf_mono h1 h2 hc)
theorem askQ_mono (h : OkV bars ss) (hm : OkR m) (hx : OkR x) (h1 : m.lo ≤ x.lo) (h2 : x.hi ≤ m.hi) (h0 : barsE bars ss x = 0) :
    (askQ bars ss x).hi ≤ (askQ bars ss m).hi ∧ 1 ≤ (askQ bars ss x).hi ∧ (askQ bars ss m).hi ≤ ((mkL bars m ss).length : Int) := by
  unfold askQ
  rw [if_pos h0, if_pos (barsE_mono h hm hx h1 h2 h0)]
  refine ⟨ask_mono h1 h2, ask_pos h ?_, ask_len⟩
  intro q
  rw [barsE_two h hx, if_pos q] at h0
  cases h0
theorem wysL_few (h : OkV bars ss) : ∀ l ∈ wysL bars m ss ss.length, l.length ≤ 1000 := by
  intro l hl
  unfold wysL at hl
  obtain ⟨k, hk, rfl⟩ := List.mem_map.1 hl
  have := someV_len h m (i := k) (List.mem_range.1 hk)
  omega
theorem someV_few (h : OkV bars ss) (hm : OkR m) : (someV bars m ss (-1)).length ≤ 1000 := by
  rw [someV_bars h hm, List.length_map]
  have h1 : (barsOf bars.length (makers bars ss m)).length ≤ bars.length := by
    unfold barsOf
    have := List.length_filter_le (fun b => (makers bars ss m).any fun r => decide (r.1 = b)) (List.range bars.length)
    rw [List.length_range] at this
    exact this
  have := h.bfew
  omega
end
end Go.Proofs.Ytkibdciomheekaa

set_option linter.all false
namespace Go.Proofs.Ytkibdciomheekaa
open Go.RowKit Hp

def recI (r : Nat × List Nat) : List Int := Int.ofNat r.1 :: r.2.map Int.ofNat
def recL (nb : Nat) (ss : List Stp) : List (List Int) := (recs nb ss).map recI
theorem recL_nil (nb : Nat) : recL nb [] = (List.range nb).map fun (b : Nat) => [(b : Int)] := by
  unfold recL
  rw [recs_nil, List.map_map]
  rfl
/-- One step more: of the first m recipes each with each way; of the next one the first k ways. -/
def rcM (L : List (List Int)) (n m : Nat) : List (List Int) := (L.take m).flatMap fun r => (List.range n).map fun (k : Nat) => r ++ [(k : Int)]
def rcK (L : List (List Int)) (n m k : Nat) : List (List Int) := rcM L n m ++ (List.range k).map fun (k : Nat) => nthLi L m ++ [(k : Int)]
theorem rcM_zero (L : List (List Int)) (n : Nat) : rcM L n 0 = [] := by simp [rcM]
theorem rcK_zero (L : List (List Int)) (n m : Nat) : rcK L n m 0 = rcM L n m := by simp [rcK]
theorem rcK_succ (L : List (List Int)) (n m k : Nat) : rcK L n m (k + 1) = rcK L n m k ++ [nthLi L m ++ [(k : Int)]] := by
  unfold rcK
  rw [List.range_succ, List.map_append, List.append_assoc]
  rfl
theorem rcK_all {L : List (List Int)} {n m : Nat} (hm : m < L.length) : rcK L n m n = rcM L n (m + 1) := by
  unfold rcK rcM
  rw [List.take_succ, List.getElem?_eq_getElem hm, List.flatMap_append, nthLi_eq hm]
  simp
theorem recL_snoc (nb : Nat) (ss : List Stp) (s : Stp) : recL nb (ss ++ [s]) = rcM (recL nb ss) s.length (recL nb ss).length := by
  unfold recL rcM
  rw [recs_snoc, List.take_length, List.map_flatMap, List.flatMap_map]
  congr 1
  funext r
  rw [List.map_map]
  refine List.map_congr_left fun k _ => ?_
  simp [recI]
theorem take_nthS {ss : List Stp} {i : Nat} (hi : i < ss.length) : ss.take (i + 1) = ss.take i ++ [nthS ss i] := by
  rw [List.take_succ, List.getElem?_eq_getElem hi, nthS_eq hi]
  rfl
theorem recL_step {nb : Nat} {ss : List Stp} {i : Nat} (hi : i < ss.length) : rcM (recL nb (ss.take i)) (nthS ss i).length (recL nb (ss.take i)).length = recL nb (ss.take (i + 1)) := by
  rw [take_nthS hi, recL_snoc]
theorem flat_le {α β : Type} {F : α → List β} {c : Nat} (h : ∀ a, (F a).length ≤ c) : ∀ l : List α, (l.flatMap F).length ≤ l.length * c
  | [] => by simp
  | a :: l => by
    have h1 := flat_le h l
    have h2 := h a
    rw [List.flatMap_cons, List.length_append, List.length_cons, Nat.succ_mul]
    omega
theorem rcM_len (L : List (List Int)) (n m : Nat) : (rcM L n m).length ≤ L.length * n := by
  unfold rcM
  refine Nat.le_trans (flat_le (c := n) (fun r => by rw [List.length_map, List.length_range]; exact Nat.le_refl _) _) (Nat.mul_le_mul_right _ ?_)
  rw [List.length_take]
  omega
theorem rcK_len {L : List (List Int)} {n m k : Nat} (hk : k ≤ n) : (rcK L n m k).length ≤ L.length * n + 5 * 0 + n := by
  unfold rcK
  rw [List.length_append, List.length_map, List.length_range]
  have := rcM_len L n m
  omega
theorem recL_len {bars : List Rg} {ss : List Stp} (h : OkV bars ss) : ∀ i, i ≤ ss.length → (recL bars.length (ss.take i)).length ≤ 6 * 5 ^ i
  | 0, _ => by
    rw [List.take_zero, recL_nil, List.length_map, List.length_range]
    have := h.bfew
    omega
  | i + 1, hi => by
    have h1 := recL_len h i (by omega)
    have h2 := (h.wpos _ (nthS_mem (show i < ss.length by omega))).2
    rw [← recL_step (show i < ss.length by omega)]
    refine Nat.le_trans (rcM_len _ _ _) ?_
    rw [Nat.pow_succ, ← Nat.mul_assoc]
    exact Nat.mul_le_mul h1 h2
theorem recL_few {bars : List Rg} {ss : List Stp} (h : OkV bars ss) {i : Nat} (hi : i ≤ ss.length) : (recL bars.length (ss.take i)).length ≤ 93750 := by
  refine Nat.le_trans (recL_len h i hi) ?_
  have h1 := h.sfew
  have h2 : 5 ^ i ≤ 5 ^ 6 := Nat.pow_le_pow_right (by omega) (by omega)
  have h3 : 6 * 5 ^ i ≤ 6 * 5 ^ 6 := Nat.mul_le_mul_left _ h2
  refine Nat.le_trans h3 (by decide)
theorem rcK_few {bars : List Rg} {ss : List Stp} (h : OkV bars ss) {i m k : Nat} (hi : i < ss.length) (hk : k ≤ (nthS ss i).length) : (rcK (recL bars.length (ss.take i)) (nthS ss i).length m k).length ≤ 93755 := by
  have h1 := recL_len h i (by omega)
  have h2 := (h.wpos _ (nthS_mem hi)).2
  have h3 := rcK_len (L := recL bars.length (ss.take i)) (n := (nthS ss i).length) (m := m) hk
  have h4 : (recL bars.length (ss.take i)).length * (nthS ss i).length ≤ 6 * 5 ^ i * 5 := Nat.mul_le_mul h1 h2
  have h5 := h.sfew
  have h6 : 5 ^ i ≤ 5 ^ 5 := Nat.pow_le_pow_right (by omega) (by omega)
  have h7 : 6 * 5 ^ i * 5 ≤ 6 * 5 ^ 5 * 5 := Nat.mul_le_mul_right _ (Nat.mul_le_mul_left _ h6)
  have h8 : 6 * 5 ^ 5 * 5 = 93750 := by decide
  omega
section
variable {bars : List Rg} {ss : List Stp} {m : Rg}
theorem nats_of (l : List Nat) : nats (l.map Int.ofNat) = l := by
  induction l with
  | nil => rfl
  | cons a l ih =>
    unfold nats at ih ⊢
    rw [List.map_cons, List.map_cons, ih]
    rfl
theorem mem_recL {r : List Int} (h : r ∈ recL bars.length ss) : ∃ b ks, b < bars.length ∧ ks ∈ allR ss ∧ r = Int.ofNat b :: ks.map Int.ofNat := by
  unfold recL at h
  obtain ⟨⟨b, ks⟩, h1, rfl⟩ := List.mem_map.1 h
  unfold recs at h1
  rw [List.mem_flatMap] at h1
  obtain ⟨b', hb, h2⟩ := h1
  obtain ⟨ks', hk, he⟩ := List.mem_map.1 h2
  cases he
  exact ⟨b, ks, List.mem_range.1 hb, hk, rfl⟩
theorem recL_ok (h : OkV bars ss) {r : List Int} (hr : r ∈ recL bars.length ss) : OkRec bars ss (nthI r 0) r.tail := by
  obtain ⟨b, ks, hb, hk, rfl⟩ := mem_recL hr
  refine ⟨h, ?_, ?_, ?_, ?_⟩
  · show (0 : Int) ≤ Int.ofNat b
    exact Int.natCast_nonneg b
  · exact hb
  · show nats (ks.map Int.ofNat) ∈ allR ss
    rw [nats_of]; exact hk
  · intro k hk'
    obtain ⟨n, _, rfl⟩ := List.mem_map.1 (show k ∈ ks.map Int.ofNat from hk')
    exact Int.natCast_nonneg n
theorem recL_len1 (h : OkV bars ss) {r : List Int} (hr : r ∈ recL bars.length ss) : r.length = ss.length + 1 := by
  obtain ⟨b, ks, hb, hk, rfl⟩ := mem_recL hr
  have := allR_len hk
  simp [this]
/-- Whether a recipe can have made a blade. -/
def madI (bars : List Rg) (ss : List Stp) (m : Rg) (r : List Int) : Bool := meets (endR (nthB bars (nthI r 0).toNat) (pick ss (nats r.tail))) m
theorem madI_eq (r : Nat × List Nat) : madI bars ss m (recI r) = madeB bars ss m r := by
  unfold madI madeB recI
  show meets (endR (nthB bars r.1) (pick ss (nats (r.2.map Int.ofNat)))) m = _
  rw [nats_of]
theorem mkL_filter : mkL bars m ss = (recL bars.length ss).filter (madI bars ss m) := by
  unfold mkL makers recL
  rw [List.filter_map]
  have : (madI bars ss m ∘ recI) = madeB bars ss m := funext madI_eq
  rw [this]
  rfl
/-- The makers among the first k recipes. -/
def mkF (bars : List Rg) (ss : List Stp) (m : Rg) (k : Nat) : List (List Int) := ((recL bars.length ss).take k).filter (madI bars ss m)
theorem mkF_zero : mkF bars ss m 0 = [] := by simp [mkF]
theorem mkF_succ {k : Nat} (hk : k < (recL bars.length ss).length) : mkF bars ss m (k + 1) = if madI bars ss m (nthLi (recL bars.length ss) k) = true then mkF bars ss m k ++ [nthLi (recL bars.length ss) k] else mkF bars ss m k := by
  unfold mkF
  rw [List.take_succ, List.getElem?_eq_getElem hk, List.filter_append, nthLi_eq hk, Option.toList_some]
  split
  · rename_i h
    rw [List.filter_cons_of_pos (by simpa using h)]
    rfl
  · rename_i h
    rw [List.filter_cons_of_neg (by simpa using h)]
    simp
theorem mkF_all : mkF bars ss m (recL bars.length ss).length = mkL bars m ss := by
  rw [mkL_filter, mkF, List.take_length]
theorem mkF_len (k : Nat) : (mkF bars ss m k).length ≤ (recL bars.length ss).length := by
  unfold mkF
  refine Nat.le_trans (List.length_filter_le _ _) ?_
  rw [List.length_take]
  omega
theorem mkL_sub {r : List Int} (hr : r ∈ mkL bars m ss) : r ∈ recL bars.length ss ∧ madI bars ss m r = true := by
  rw [mkL_filter] at hr
  exact List.mem_filter.1 hr
end
end Go.Proofs.Ytkibdciomheekaa

set_option linter.all false
namespace Go.Proofs.Ytkibdciomheekaa
open Go.RowKit Hp

theorem rc_info : (Try.prog.info? 42).map (fun i => (i.zero, i.size, i.bytes)) = some (some (.agg #[.int .i64 0, .slice none 0 0]), 2, 32) := by kernel_rfl
theorem rc_slice : Try.prog.underlying 77 = some (.slice 42) := by kernel_rfl
def encP (p : Int × Value) : List Value := [.int .i64 p.1, p.2]
theorem encP_len (p : Int × Value) : (encP p).length = 2 := rfl
/-- The cells of the recipes: of each the bar, and the slice of its ways. -/
def RcE (W : World) (ps : List (Int × Value)) (L : List (List Int)) : Prop := ps.length = L.length ∧ ∀ (k : Nat) (r : List Int), L[k]? = some r → ∃ u, ps[k]? = some (nthI r 0, u) ∧ OwnI 3 W 0 u r.tail
theorem RcE.below {W W' : World} {ps : List (Int × Value)} {L : List (List Int)} (h : RcE W ps L) (hb : Below W.heap.size W W') : RcE W' ps L :=
  ⟨h.1, fun k r hr => by obtain ⟨u, h1, h2⟩ := h.2 k r hr; exact ⟨u, h1, OwnI.below h2 hb⟩⟩
theorem RcE.keep {W W' : World} {ps : List (Int × Value)} {L : List (List Int)} {t0 : Nat} (h : RcE W ps L) (hk : ∀ k cs t, BK W k cs t → t ≠ t0 → BK W' k cs t) (ht : 3 ≠ t0) : RcE W' ps L :=
  ⟨h.1, fun k r hr => by obtain ⟨u, h1, h2⟩ := h.2 k r hr; exact ⟨u, h1, own_keep h2 hk ht⟩⟩
theorem RcE.snoc {W : World} {ps : List (Int × Value)} {L : List (List Int)} (h : RcE W ps L) {r : List Int} {u : Value} (hu : OwnI 3 W 0 u r.tail) : RcE W (ps ++ [(nthI r 0, u)]) (L ++ [r]) := by
  refine ⟨by simp [h.1], fun k y hy => ?_⟩
  rcases Nat.lt_trichotomy k L.length with q | q | q
  · rw [List.getElem?_append_left q] at hy
    obtain ⟨u', q1, q2⟩ := h.2 k y hy
    exact ⟨u', by rw [List.getElem?_append_left (by rw [h.1]; exact q)]; exact q1, q2⟩
  · subst q
    simp at hy
    subst hy
    exact ⟨u, by rw [← h.1]; simp, hu⟩
  · rw [List.getElem?_eq_none (by simp; omega)] at hy
    cases hy
def RC (W : World) (v : Value) (L : List (List Int)) : Prop := ∃ ps, RcE W ps L ∧ RS W W.heap.size 2 v L.length (ofG encP ps)
def OwnRc (W : World) (base : Nat) (v : Value) (L : List (List Int)) : Prop := ∃ ps, RcE W ps L ∧ W.ownsRow base 42 2 v L.length (ofG encP ps)
theorem OwnRc.nil (W : World) (base : Nat) : OwnRc W base (.slice none 0 0) [] := ⟨[], ⟨rfl, fun k x hx => by simp at hx⟩, by simp [ofG], .inl ⟨rfl, rfl⟩⟩
theorem RC.below {W W' : World} {v : Value} {L : List (List Int)} (h : RC W v L) (hb : Below W.heap.size W W') : RC W' v L := by
  obtain ⟨ps, h1, h2⟩ := h
  exact ⟨ps, h1.below hb, (RS.below h2 hb).more hb.size⟩
theorem OwnRc.below {W W' : World} {base : Nat} {v : Value} {L : List (List Int)} (h : OwnRc W base v L) (hb : Below W.heap.size W W') : OwnRc W' base v L := by
  obtain ⟨ps, h1, h2⟩ := h
  exact ⟨ps, h1.below hb, own_below h2 hb⟩
theorem OwnRc.rc {W : World} {base : Nat} {v : Value} {L : List (List Int)} (h : OwnRc W base v L) : RC W v L := by
  obtain ⟨ps, h1, h2⟩ := h
  exact ⟨ps, h1, RS.of_own h2⟩
theorem OwnRc.slice {W : World} {base : Nat} {v : Value} {L : List (List Int)} (h : OwnRc W base v L) : ∃ A c, v = .slice A L.length c := by
  obtain ⟨ps, h1, h2⟩ := h
  exact own_slice h2
theorem RC.slice {W : World} {v : Value} {L : List (List Int)} (h : RC W v L) : ∃ A c, v = .slice A L.length c := by
  obtain ⟨ps, h1, A, cap, b, off, hv, _⟩ := h
  exact ⟨A, cap, hv⟩
theorem RC.cells {W : World} {v : Value} {L : List (List Int)} (h : RC W v L) : ∃ A cap b off, v = .slice A L.length cap ∧ (L.length ≠ 0 → A = some ⟨b, off, none⟩ ∧ b < W.heap.size) ∧
    ∀ k, k < L.length → ∃ u, W.cell? ⟨b, off + k * 2, none⟩ = some (.int .i64 (nthI (nthLi L k) 0)) ∧ W.cell? ⟨b, off + k * 2 + 1, none⟩ = some u ∧ OwnI 3 W 0 u (nthLi L k).tail := by
  obtain ⟨ps, h1, A, cap, b, off, hv, hl, hA, hc⟩ := h
  refine ⟨A, cap, b, off, hv, hA, fun k hk => ?_⟩
  obtain ⟨u, h2, h3⟩ := h1.2 k _ (List.getElem?_eq_getElem hk)
  rw [nthLi_eq hk]
  have h0 := fun j hj => ofG_at encP_len ps k j _ h2 hj
  have hlen := ofG_length encP_len ps
  have e0 := h0 0 (by omega); have e1 := h0 1 (by omega)
  rw [Nat.add_zero] at e0
  have hps := h1.1
  refine ⟨u, ?_, ?_, h3⟩
  · rw [hc (k * 2) (by omega), e0]; rfl
  · rw [Nat.add_assoc, hc (k * 2 + 1) (by omega), e1]; rfl
/-- A recipe is appended, in the block made last; in a block that is known. -/
theorem app_rc {base : Nat} {w0 w1 : World} {L : List (List Int)} {v u : Value} {r : List Int} (hown : OwnRc w1 base v L) (hu : OwnI 3 w1 0 u r.tail) (hn : L.length ≤ 100000) (hbase : base ≤ w1.heap.size) (hbw : Below base w0 w1) (B : Nat) (hB : w1.heap.size = B) :
    ∃ v' w2, (Builtin.append_ #[77, 77] 77 #[v, .slice (some ⟨B, 0, none⟩) 1 1]).run Try.prog (w1.alloc (.cells #[.int .i64 (nthI r 0), u] 42)) = .ok v' w2 ∧
      OwnRc w2 base v' (L ++ [r]) ∧ Below base w0 w2 ∧ w1.heap.size ≤ w2.heap.size := by
  obtain ⟨ps, e1, e2⟩ := hown
  have ho : u.oneCell' = true := by
    obtain ⟨A, c, rfl⟩ := own_slice hu
    rfl
  obtain ⟨g', cap', w2, h1, h2, h3, h4, h5⟩ := app_t rc_info rc_slice rfl (by decide) (by decide) e2 (news := encP (nthI r 0, u)) rfl (by intro x hx; simp [encP] at hx; rcases hx with rfl | rfl; rfl; exact ho) hn hbase hbw 77 42 B hB
  rw [ofG_app] at h2
  refine ⟨_, w2, h1, ⟨_, (e1.keep h5 (by decide)).snoc (own_keep hu h5 (by decide)), ?_⟩, h3, h4⟩
  rw [List.length_append]
  exact h2
theorem app_b_rc {base g tn : Nat} {W : World} {L : List (List Int)} {v u : Value} {r : List Int} {b : Int} (hown : OwnRc W base v L) (hb0 : nthI r 0 = b) (hu : OwnI 3 W 0 u r.tail) (hg : BK W g #[.int .i64 b, u] tn) (hn : L.length ≤ 100000) (hbase : base ≤ W.heap.size) :
    ∃ v' w2, (Builtin.append_ #[77, 77] 77 #[v, .slice (some ⟨g, 0, none⟩) 1 1]).run Try.prog W = .ok v' w2 ∧
      OwnRc w2 base v' (L ++ [r]) ∧ (∀ w0, Below base w0 W → Below base w0 w2) ∧ W.heap.size ≤ w2.heap.size := by
  subst hb0
  obtain ⟨ps, e1, e2⟩ := hown
  have ho : u.oneCell' = true := by
    obtain ⟨A, c, rfl⟩ := own_slice hu
    rfl
  obtain ⟨v', w2, h1, h2, h3, h4, h5⟩ := app_b rc_info rc_slice rfl (by decide) (by decide) e2 (news := encP (nthI r 0, u)) hg rfl (by intro x hx; simp [encP] at hx; rcases hx with rfl | rfl; rfl; exact ho) hn hbase 77
  rw [ofG_app] at h2
  refine ⟨_, w2, h1, ⟨_, (e1.keep h5 (by decide)).snoc (own_keep hu h5 (by decide)), ?_⟩, h3, h4⟩
  rw [List.length_append]
  exact h2
/-- Numbers that came in are appended to an empty list in a block; other blocks stay. -/
theorem app_src_i {base B m g : Nat} {W : World} {l : List Int} {src : Value} (hg : BK W g #[] 3) (hbg : base ≤ g) (hs : RI W B src l) (hl : l.length = m) (hm : m ≤ 100000) (hbase : base ≤ W.heap.size) :
    ∃ A c w2, (Builtin.append_ #[40, 40] 40 #[.slice (some ⟨g, 0, none⟩) 0 0, src]).run Try.prog W = .ok (.slice A m c) w2 ∧ OwnI 3 w2 base (.slice A m c) l ∧ (∀ w0, Below base w0 W → Below base w0 w2) ∧ W.heap.size ≤ w2.heap.size ∧ (∀ k cs t, BK W k cs t → 0 < cs.size → BK w2 k cs t) := by
  subst hl
  obtain ⟨v', w2, h1, h2, h3⟩ := app_src int_info int_slice rfl (by decide) (by decide) hg hbg hs (by
    intro u hu
    obtain ⟨x, _, rfl⟩ := List.mem_map.1 hu
    rfl) hm hbase 40
  obtain ⟨A, c, rfl⟩ := own_slice h2
  exact ⟨A, c, w2, h1, h2, h3⟩
end Go.Proofs.Ytkibdciomheekaa

set_option linter.all false
namespace Go.Proofs.Ytkibdciomheekaa
open Go.RowKit

/-- The slots of M turned. -/
def setAll (M : List Nat) (u : Nat → Value) (t : Array Value) : Array Value := M.foldl (fun t i => t.setIfInBounds i (u i)) t
theorem region_keep {P : Program} {Q : Exit → Act → World → Prop} {a : Act} {w : World} {id : Nat} {os : Array Oper} (M : List Nat) (J : (Nat → Value) → World → Prop)
    (h1 : (Code.region id os true).wp P (fun e a' w' => e = .normal ∧ a'.tmps = setAll M (fun j => a'.tmps.getD j undef) a.tmps ∧ a'.defers = a.defers ∧ J (fun j => a'.tmps.getD j undef) w') a w)
    (h2 : ∀ u V, J u V → Q .normal { tmps := setAll M u a.tmps, defers := a.defers } V) : (Code.region id os true).wp P Q a w :=
  Code.wp_mono (fun e a' w' h => by
    obtain ⟨e1, e2, e3, e4⟩ := h
    subst e1
    have h5 := h2 _ _ e4
    rw [← e2, ← e3] at h5
    exact h5) h1
end Go.Proofs.Ytkibdciomheekaa

set_option linter.all false
namespace Go.Proofs.Ytkibdciomheekaa
open Go.RowKit Hp

set_option maxHeartbeats 8000000 in
set_option maxRecDepth 100000 in
theorem recipes_any (bars : List Rg) (ss : List Stp) (vb vs : Value) (w : World) (hV : OkV bars ss) (hB : RR w w.heap.size vb bars) (hS : RP w w.heap.size vs ss) :
    Calls Try.prog 50 #[.agg #[vb, vs]] w fun e w' => ∃ v, e = .returned v ∧ RC w' v (recL bars.length ss) ∧ Below w.heap.size w w' := by
  have HV := Lib.hid hV
  clear hV
  obtain ⟨Ab, cb, rfl⟩ := hB.slice
  obtain ⟨As, cs, rfl⟩ := hS.slice
  obtain ⟨n0, hn0⟩ : ∃ n, w.heap.size = n := ⟨_, rfl⟩
  have hC : Below n0 w w := Below.refl _ _
  go_enter Try.func50, Try.ntmps50
  go_upto_region 1 with fail
  have hqbx : n0 ≤ n0 := by have := hC.size; omega
  have bx : BK (w.alloc (.cells #[.slice Ab bars.length cb, .slice As ss.length cs] 25)) (n0) #[.slice Ab bars.length cb, .slice As ss.length cs] 25 := BK.new' _ _ _ (n0) hn0
  have hsbx : (w.alloc (.cells #[.slice Ab bars.length cb, .slice As ss.length cs] 25)).heap.size = n0 + 1 := by simp [hn0]
  replace hC : Below n0 w (w.alloc (.cells #[.slice Ab bars.length cb, .slice As ss.length cs] 25)) := Below.alloc hC (by have := hC.size; omega) _
  replace hB := (RS.below hB (w' := (w.alloc (.cells #[.slice Ab bars.length cb, .slice As ss.length cs] 25))) (Below.alloc (Below.refl _ _) (Nat.le_refl _) _)).more (B' := (w.alloc (.cells #[.slice Ab bars.length cb, .slice As ss.length cs] 25)).heap.size) (by simp)
  replace hS := (RP.below hS (w' := (w.alloc (.cells #[.slice Ab bars.length cb, .slice As ss.length cs] 25))) (Below.alloc (Below.refl _ _) (Nat.le_refl _) _)).more (B' := (w.alloc (.cells #[.slice Ab bars.length cb, .slice As ss.length cs] 25)).heap.size) (by simp)
  generalize (w.alloc (.cells #[.slice Ab bars.length cb, .slice As ss.length cs] 25)) = Wbx at *
  clear hsbx
  obtain ⟨h0, hh0⟩ : ∃ h, Wbx.heap.size = h := ⟨_, rfl⟩
  have HH := Lib.hid hh0
  have hnb : n0 < h0 := by have := bx.lt; omega
  have HN1 := Lib.hid (show n0 ≤ h0 by omega)
  have HC := Lib.hid hC
  have HBX := Lib.hid bx
  have hb6 := HV.out.bfew
  have hs6 := HV.out.sfew
  obtain ⟨A', cap', bs, os, hve, hA, hc⟩ := RP.cells hS
  injection hve with q1 q2 q3
  have hbs : ss.length ≠ 0 → As = some ⟨bs, os, none⟩ ∧ bs < h0 := fun h => by
    rw [q1]; have := hA h; rw [hh0] at this; exact this
  have HBS := Lib.hid hbs
  have HSS : Hid (∀ k, k < ss.length → ∃ A c, Wbx.cell? ⟨bs, os + k, none⟩ = some (.slice A (nthS ss k).length c)) := Lib.hid (fun k hk => by
    obtain ⟨u, e1, e2⟩ := hc k hk
    obtain ⟨A, c, rfl⟩ := e2.slice
    exact ⟨A, c, e1⟩)
  clear hC hB hS bx hh0 hA hc hbs q1 q2 q3 cap' A'
  go_wp2_with fail
  go_loopw [3, 4] (fun acc v wr => ∃ k : Nat, k ≤ bars.length ∧ v = .int .i64 (k : Int) ∧ OwnRc wr h0 acc ((List.range k).map fun (b : Nat) => [(b : Int)]) ∧ Below h0 Wbx wr) (fun _ v _ => bars.length - (intOf v).toNat)
  case atStart => exact ⟨0, Nat.zero_le _, rfl, OwnRc.nil _ _, Below.refl _ _⟩
  case round =>
    obtain ⟨k, hk, rfl, hown, hb⟩ := hrel
    have hwz : h0 ≤ wr.heap.size := by have := hb.size; have := HH.out; omega
    have bx := HBX.out.below hb (by exact hnb)
    have lbx := bx.lt
    have bxc0 := bx.cell 0
    have bxc1 := bx.cell 1
    simp at bxc0 bxc1
    by_cases hlt : k < bars.length
    case pos =>
      have hlt' : (k : Int) < (bars.length : Int) := by omega
      obtain ⟨B5, hB5⟩ : ∃ B, wr.heap.size = B := ⟨_, rfl⟩
      obtain ⟨v', w8, hrun, hown', hb', hs'⟩ := app_rc (r := [(k : Int)]) (u := .slice none 0 0) hown (OwnI.nil _ _ _) (by rw [List.length_map, List.length_range]; omega) hwz hb B5 hB5
      rw [show nthI [(k : Int)] 0 = (k : Int) from rfl] at hrun
      have hown2 : OwnRc w8 h0 v' ((List.range (k + 1)).map fun (b : Nat) => [(b : Int)]) := by rw [List.range_succ, List.map_append]; exact hown'
      have HO := Lib.hid hown2
      have HB8 := Lib.hid hb'
      have HRUN := Lib.hid hrun
      clear hrun hown' hown2 hb' hs' hown hb bx
      go_wp2_with (at_builtin; refine wpList_append_run rfl (.tmp 16) (.tmp 19) 77 _ rfl HRUN.out ?_)
      go_roundw
      case rel => exact ⟨k + 1, by omega, by go_num, HO.out, HB8.out⟩
      case measure => simp [intOf]; omega
    have hlt' : ¬ (k : Int) < (bars.length : Int) := by omega
    obtain rfl : k = bars.length := by omega
    have HR0 : Hid (RC wr _ (recL bars.length (ss.take 0))) := Lib.hid (by rw [List.take_zero, recL_nil]; exact hown.rc)
    have HB0 := Lib.hid hb
    clear hown hb bx
    go_wp2_with fail
    clear lbx bxc0 bxc1 hlt hlt'
    go_loopw [3, 5] (fun acc v wi => ∃ i : Nat, i ≤ ss.length ∧ v = .int .i64 (i : Int) ∧ RC wi acc (recL bars.length (ss.take i)) ∧ Below h0 Wbx wi) (fun _ v _ => ss.length - (intOf v).toNat)
    case atStart => exact ⟨0, Nat.zero_le _, rfl, HR0.out, HB0.out⟩
    case round =>
      clear HR0 HB0 hwz
      rename World => wi
      obtain ⟨i, hi, rfl, hrc, hb⟩ := hrel
      have hwz : h0 ≤ wi.heap.size := by have := hb.size; have := HH.out; omega
      obtain ⟨A3, c3, rfl⟩ := hrc.slice
      have bx := HBX.out.below hb (by exact hnb)
      have lbx := bx.lt
      have bxc0 := bx.cell 0
      have bxc1 := bx.cell 1
      simp at bxc0 bxc1
      have HRC := Lib.hid hrc
      have HB := Lib.hid hb
      by_cases hlt : i < ss.length
      case neg =>
        have hlt' : ¬ (i : Int) < (ss.length : Int) := by omega
        obtain rfl : i = ss.length := by omega
        have HR : Hid (RC wi (.slice A3 (recL bars.length (ss.take ss.length)).length c3) (recL bars.length ss)) := Lib.hid (by have h := HRC.out; rw [List.take_length] at h ⊢; exact h)
        clear hrc hb bx HRC
        go_wp2_with fail
        exact bodyPost_ret (by simp [results, Try.results50, go_sem]) rfl ⟨_, rfl, HR.out, by (try rw [hn0]); exact HC.out.trans (HB.out.mono HN1.out)⟩
      have hlt' : (i : Int) < (ss.length : Int) := by omega
      have hst := recL_step (nb := bars.length) hlt
      have hfw := fun m k => rcK_few (m := m) (k := k) HV.out hlt
      have hlf := recL_few HV.out hi
      have hln := fun r hr => recL_len1 (bars := bars) (okV_take HV.out i) (r := r) hr
      obtain ⟨L, hL⟩ : ∃ L, recL bars.length (ss.take i) = L := ⟨_, rfl⟩
      rw [hL] at hst hfw hrc HRC hlf hln ⊢
      obtain ⟨Au, cu, hcu⟩ := HSS.out i hlt
      obtain ⟨n, hn⟩ : ∃ n, (nthS ss i).length = n := ⟨_, rfl⟩
      rw [hn] at hst hfw hcu
      have hn5 : n ≤ 5 := by rw [← hn]; exact (HV.out.wpos _ (nthS_mem hlt)).2
      obtain ⟨rfl, hbs⟩ := HBS.out (by omega)
      have HCU := Lib.hid hcu
      have HST := Lib.hid hst
      have HFW := Lib.hid hfw
      have HLN := Lib.hid hln
      obtain ⟨h1, hh1⟩ : ∃ h, wi.heap.size = h := ⟨_, rfl⟩
      have HH1 := Lib.hid hh1
      have h01 : h0 ≤ h1 := by omega
      clear hrc hb bx hcu hst hfw hln hL hn hh1 hwz
      go_wp2_with fail
      clear lbx bxc0 bxc1
      go_loopw [6, 7] (fun acc v w2 => ∃ m : Nat, m ≤ L.length ∧ v = .int .i64 (m : Int) ∧ OwnRc w2 h1 acc (rcM L n m) ∧ Below h1 wi w2) (fun _ v _ => L.length - (intOf v).toNat)
      case atStart => exact ⟨0, Nat.zero_le _, rfl, by rw [rcM_zero]; exact OwnRc.nil _ _, Below.refl _ _⟩
      case round =>
        rename World => w2
        obtain ⟨m, hm, rfl, hown, hb⟩ := hrel
        by_cases hlm : m < L.length
        case neg =>
          have hlm' : ¬ (m : Int) < (L.length : Int) := by omega
          obtain rfl : m = L.length := by omega
          have HR : Hid (RC w2 _ (recL bars.length (ss.take (i + 1)))) := Lib.hid (by have h := hown.rc; rw [HST.out] at h; exact h)
          have HB2 := Lib.hid hb
          clear hown hb
          go_wp2_with fail
          go_roundw
          case rel => exact ⟨i + 1, by omega, by go_num, HR.out, HB.out.trans (HB2.out.mono h01)⟩
          case measure => simp [intOf]; omega
        have hlm' : (m : Int) < (L.length : Int) := by omega
        have HOM := Lib.hid (show OwnRc w2 h1 _ (rcK L n m 0) by rw [rcK_zero]; exact hown)
        have HBM := Lib.hid hb
        clear hown hb
        go_wp2_with fail
        go_loopw [6, 8] (fun acc v w3 => ∃ k : Nat, k ≤ n ∧ v = .int .i64 (k : Int) ∧ OwnRc w3 h1 acc (rcK L n m k) ∧ Below h1 wi w3) (fun _ v _ => n - (intOf v).toNat)
        case atStart => exact ⟨0, Nat.zero_le _, rfl, HOM.out, HBM.out⟩
        case round =>
          clear HOM HBM
          rename World => w3
          obtain ⟨k, hk, rfl, hown, hb⟩ := hrel
          have hwz : h1 ≤ w3.heap.size := by have := hb.size; have := HH1.out; omega
          have hb0 : Below h0 Wbx w3 := HB.out.trans (hb.mono h01)
          have bx := HBX.out.below hb0 (by exact hnb)
          have lbx := bx.lt
          have bxc0 := bx.cell 0
          have bxc1 := bx.cell 1
          simp at bxc0 bxc1
          have hcu := HCU.out
          rw [← hb0.cell (by exact hbs)] at hcu
          have hbs3 : bs < w3.heap.size := by omega
          have HBK := Lib.hid hb
          have HOK := Lib.hid hown
          clear bx hb0 hb
          by_cases hlk : k < n
          case neg =>
            have hlk' : ¬ (k : Int) < (n : Int) := by omega
            obtain rfl : k = n := by omega
            have HO : Hid (OwnRc w3 h1 _ (rcM L k (m + 1))) := Lib.hid (by rw [← rcK_all hlm]; exact hown)
            clear hown HOK
            go_wp2_with fail
            go_roundw
            case rel => exact ⟨m + 1, by omega, by go_num, HO.out, HBK.out⟩
            case measure => simp [intOf]; omega
          have hlk' : (k : Int) < (n : Int) := by omega
          obtain ⟨A6, c6, rfl⟩ := hown.slice
          clear hown
          go_upto_region 16 with fail
          clear lbx bxc0 bxc1 hcu hbs3
          have hrc3 := HRC.out.below (by rw [HH1.out]; exact HBK.out)
          obtain ⟨A', cap', bl, ol, hve, hA, hc⟩ := RC.cells hrc3
          obtain ⟨rfl, hbl⟩ := hA (by omega)
          injection hve with q1 q2 q3
          subst q1 q3
          obtain ⟨u, e0, e1, hu⟩ := hc m hlm
          obtain ⟨Aw, cw, rfl⟩ := own_slice hu
          have hl1 := HLN.out _ (mem_nthLi hlm)
          have hks := rcK_succ L n m k
          have hkl := HFW.out m k hk
          obtain ⟨r, hr⟩ : ∃ r, nthLi L m = r := ⟨_, rfl⟩
          rw [hr] at e0 e1 hu hl1 hks
          obtain ⟨bb, t, rfl⟩ : ∃ bb t, r = bb :: t := by
            cases r with
            | nil => simp at hl1
            | cons b t => exact ⟨b, t, rfl⟩
          have e0b : w3.cell? ⟨bl, ol + m * 2, none⟩ = some (.int .i64 bb) := e0
          have hut : OwnI 3 w3 0 (.slice Aw t.length cw) t := hu
          have e1b : w3.cell? ⟨bl, ol + m * 2 + 1, none⟩ = some (.slice Aw t.length cw) := e1
          have htl : t.length ≤ 1000 := by
            rw [List.length_cons, List.length_take] at hl1; omega
          have HUT := Lib.hid hut
          have HKS := Lib.hid hks
          obtain ⟨N, hN⟩ : ∃ N, rcK L n m k = N := ⟨_, rfl⟩
          rw [hN] at HOK hkl HKS
          rw [hN]
          obtain ⟨nn, hnn⟩ : ∃ x, N.length = x := ⟨_, rfl⟩
          have HNN := Lib.hid hnn
          rw [hnn] at HOK
          rw [hnn]
          obtain ⟨tl, htl2⟩ : ∃ x, t.length = x := ⟨_, rfl⟩
          have HTL := Lib.hid htl2
          rw [htl2] at e1b HUT htl
          rw [hnn] at hkl
          clear hA hc q2 hrc3 e0 e1 hu hut hl1 hks hr hN hnn htl2
          refine region_keep [6, 45, 46, 47, 48, 49, 50, 51, 52, 53, 54, 55, 56, 57, 58, 59, 60, 61, 62, 63] (fun u V => ∃ A c, u 6 = .slice A (nn + 1) c ∧ OwnRc V h1 (.slice A (nn + 1) c) (N ++ [bb :: (t ++ [(k : Int)])]) ∧ Below h1 wi V) ?_ ?_
          ·skip
           have d0y : Below w3.heap.size w3 w3.drew := by exact bel_of
           refine wp_region_noPanic (plain_any [0, 1, 2, 3, 4, 5, 7, 8, 9, 10, 11, 13, 16] (Below w3.heap.size w3) mixed ?_)
           refine any_tk 0 ?_
           refine any_tk 1 ?_
           refine any_tk 2 ?_
           refine any_tk 3 ?_
           refine any_tk 4 ?_
           refine any_tk 5 ?_
           refine any_tk 7 ?_
           refine any_tk 8 ?_
           refine any_tk 9 ?_
           refine any_tk 10 ?_
           refine any_tk 11 ?_
           refine any_tk 13 ?_
           have dy1 : Below w3.heap.size w3 w3.drew := by exact bel_of
           have hdr : Below w3.heap.size w3 w3.drew := Below.drew (Below.refl _ _)
           clear hdr
           generalize w3.drew = uy2 at *
           refine any_run2 (i := 6) (j := 14) (by kernel_rfl) (by rfl) (by rfl) (by rfl) (by rfl) ?_ ?_
           ·skip
            intro K hK
            have qy4 := dy1.size
            have ey3 : Below w3.heap.size w3 (uy2.alloc (.cells #[] 3)) := Below.alloc dy1 dy1.size _
            have hnx : Below uy2.heap.size uy2 (uy2.alloc (.cells #[] 3)) := Below.alloc (Below.refl _ _) (Nat.le_refl _) _
            go_wp2_with fail
            have k6 : BK (uy2.alloc (.cells #[] 3)) uy2.heap.size #[] 3 := BK.new _ _ _
            refine hK _ _ (fun _ => ey3) ?_
            clear hK K hnx
            generalize (uy2.alloc (.cells #[] 3)) = vy5 at *
            obtain ⟨gk6, hgk6⟩ : ∃ g, uy2.heap.size = g := ⟨_, rfl⟩
            have hqk6 : w3.heap.size ≤ gk6 := by omega
            rw [hgk6] at k6
            try rw [hgk6]
            clear hgk6
            refine any_run2 (i := 12) (j := 14) (by kernel_rfl) (by rfl) (by rfl) (by rfl) (by rfl) ?_ ?_
            ·skip
             intro K hK
             have qy8 := ey3.size
             obtain ⟨A1, c1, vy7, hrun, o1, hbel, hsz, hkeep⟩ := app_src_i (base := w3.heap.size) k6 hqk6 (RS.more (RS.below (OwnI.ri HUT.out) ey3) ey3.size) HTL.out (by omega) (by omega)
             have ey6 : Below w3.heap.size w3 vy7 := hbel _ ey3
             have HRUN := Lib.hid hrun
             clear hrun hbel hsz hkeep k6
             refine wp_append_run (.tmp 51) (.tmp 56) 40 _ rfl HRUN.out ?_
             refine hK _ _ (fun _ => ey6) ?_
             clear hK K HRUN
             simp only [List.getElem_toArray, List.getElem_cons_succ, List.getElem_cons_zero, Act.put, List.setIfInBounds_toArray, List.set_cons_succ, List.set_cons_zero]
             refine any_run1 (i := 14) (by kernel_rfl) (by rfl) (by kernel_rfl) ?_
             intro K hK
             have qy10 := ey6.size
             have ey9 : Below w3.heap.size w3 (vy7.alloc (.cells #[.int .i64 (k : Int)] 3)) := Below.alloc ey6 ey6.size _
             have hnx : Below vy7.heap.size vy7 (vy7.alloc (.cells #[.int .i64 (k : Int)] 3)) := Below.alloc (Below.refl _ _) (Nat.le_refl _) _
             go_wp2_with fail
             replace o1 := OwnI.below o1 hnx
             have k14 : BK (vy7.alloc (.cells #[.int .i64 (k : Int)] 3)) vy7.heap.size #[.int .i64 (k : Int)] 3 := BK.new _ _ _
             refine hK _ _ (fun _ => ey9) ?_
             clear hK K hnx
             generalize (vy7.alloc (.cells #[.int .i64 (k : Int)] 3)) = vy11 at *
             obtain ⟨gk14, hgk14⟩ : ∃ g, vy7.heap.size = g := ⟨_, rfl⟩
             have hqk14 : w3.heap.size ≤ gk14 := by omega
             rw [hgk14] at k14
             try rw [hgk14]
             clear hgk14
             refine any_run1 (i := 15) (by kernel_rfl) (by rfl) (by kernel_rfl) ?_
             intro K hK
             have qy14 := ey9.size
             obtain ⟨v15, vy13, hrun, o2, hbel, hsz, hkeep⟩ := app_b_i int_info int_slice o1 k14 (by have := HTL.out; omega) (by omega)
             obtain ⟨A2, c2, rfl⟩ := own_slice o2
             obtain ⟨n2, hn2⟩ : ∃ x, (t ++ [(k : Int)]).length = x := ⟨_, rfl⟩
             rw [hn2] at o2 hrun
             clear hn2
             have ey12 : Below w3.heap.size w3 vy13 := hbel _ ey9
             clear o1 k14
             have HRUN := Lib.hid hrun
             clear hrun hbel hsz hkeep
             refine wp_append_run (.tmp 57) (.tmp 59) 40 _ rfl HRUN.out ?_
             refine hK _ _ (fun _ => ey12) ?_
             clear hK K HRUN
             simp only [List.getElem_toArray, List.getElem_cons_succ, List.getElem_cons_zero, Act.put, List.setIfInBounds_toArray, List.set_cons_succ, List.set_cons_zero]
             refine any_tk 16 ?_
             refine any_run1 (i := 17) (by kernel_rfl) (by rfl) (by kernel_rfl) ?_
             intro K hK
             have qy16 := ey12.size
             have ey15 : Below w3.heap.size w3 (vy13.alloc (.cells #[.int .i64 bb, .slice A2 n2 c2] 42)) := Below.alloc ey12 ey12.size _
             have hnx : Below vy13.heap.size vy13 (vy13.alloc (.cells #[.int .i64 bb, .slice A2 n2 c2] 42)) := Below.alloc (Below.refl _ _) (Nat.le_refl _) _
             go_wp2_with fail
             replace o2 := OwnI.below o2 hnx
             have k17 : BK (vy13.alloc (.cells #[.int .i64 bb, .slice A2 n2 c2] 42)) vy13.heap.size #[.int .i64 bb, .slice A2 n2 c2] 42 := BK.new _ _ _
             refine hK _ _ (fun _ => ey15) ?_
             clear hK K hnx
             generalize (vy13.alloc (.cells #[.int .i64 bb, .slice A2 n2 c2] 42)) = vy17 at *
             obtain ⟨gk17, hgk17⟩ : ∃ g, vy13.heap.size = g := ⟨_, rfl⟩
             have hqk17 : w3.heap.size ≤ gk17 := by omega
             rw [hgk17] at k17
             try rw [hgk17]
             clear hgk17
             refine any_run1 (i := 18) (by kernel_rfl) (by rfl) (by kernel_rfl) ?_
             intro K hK
             obtain ⟨v18, vy18, hrun, o3, hbel, hsz⟩ := app_b_rc (r := bb :: (t ++ [(k : Int)])) (OwnRc.below HOK.out ey15) rfl (own_more o2 (Nat.zero_le _)) k17 (by have := HNN.out; omega) (by have := ey15.size; omega)
             have F4 : Below h1 wi vy18 := hbel _ (HBK.out.trans (ey15.mono hwz))
             clear k17 o2
             obtain ⟨A8, c8, rfl⟩ := o3.slice
             rw [List.length_append, HNN.out, List.length_singleton] at o3 hrun
             have HRUN := Lib.hid hrun
             clear hrun hbel hsz
             refine wp_append_run (.tmp 45) (.tmp 62) 77 _ rfl HRUN.out ?_
             refine hK _ _ (fun hx => (Bool.false_ne_true (hx.symm.trans (by kernel_rfl))).elim) ?_
             clear hK K HRUN
             simp only [List.getElem_toArray, List.getElem_cons_succ, List.getElem_cons_zero, Act.put, List.setIfInBounds_toArray, List.set_cons_succ, List.set_cons_zero]
             refine any_run1 (i := 19) (by kernel_rfl) (by rfl) (by kernel_rfl) ?_
             intro K hK
             go_wp2_with fail
             refine hK _ _ (fun hx => (Bool.false_ne_true (hx.symm.trans (by kernel_rfl))).elim) ?_
             clear hK K
             refine any_done (by kernel_rfl) (NoPanic.normal ?_)
             exact ⟨rfl, by simp [setAll], rfl, _, _, rfl, o3, F4⟩
            ·skip
             intro K hK
             have qy20 := ey3.size
             have ey19 : Below w3.heap.size w3 (vy5.alloc (.cells #[.int .i64 (k : Int)] 3)) := Below.alloc ey3 ey3.size _
             have hnx : Below vy5.heap.size vy5 (vy5.alloc (.cells #[.int .i64 (k : Int)] 3)) := Below.alloc (Below.refl _ _) (Nat.le_refl _) _
             go_wp2_with fail
             replace k6 := k6.below hnx k6.lt
             have k14 : BK (vy5.alloc (.cells #[.int .i64 (k : Int)] 3)) vy5.heap.size #[.int .i64 (k : Int)] 3 := BK.new _ _ _
             refine hK _ _ (fun _ => ey19) ?_
             clear hK K hnx
             generalize (vy5.alloc (.cells #[.int .i64 (k : Int)] 3)) = vy21 at *
             obtain ⟨gk14, hgk14⟩ : ∃ g, vy5.heap.size = g := ⟨_, rfl⟩
             have hqk14 : w3.heap.size ≤ gk14 := by omega
             rw [hgk14] at k14
             try rw [hgk14]
             clear hgk14
             refine any_run1 (i := 12) (by kernel_rfl) (by rfl) (by kernel_rfl) ?_
             intro K hK
             have qy24 := ey19.size
             obtain ⟨A1, c1, vy23, hrun, o1, hbel, hsz, hkeep⟩ := app_src_i (base := w3.heap.size) k6 hqk6 (RS.more (RS.below (OwnI.ri HUT.out) ey19) ey19.size) HTL.out (by omega) (by omega)
             have ey22 : Below w3.heap.size w3 vy23 := hbel _ ey19
             replace k14 := hkeep _ _ _ k14 (by simp)
             have HRUN := Lib.hid hrun
             clear hrun hbel hsz hkeep k6
             refine wp_append_run (.tmp 51) (.tmp 56) 40 _ rfl HRUN.out ?_
             refine hK _ _ (fun _ => ey22) ?_
             clear hK K HRUN
             simp only [List.getElem_toArray, List.getElem_cons_succ, List.getElem_cons_zero, Act.put, List.setIfInBounds_toArray, List.set_cons_succ, List.set_cons_zero]
             refine any_run1 (i := 15) (by kernel_rfl) (by rfl) (by kernel_rfl) ?_
             intro K hK
             have qy27 := ey22.size
             obtain ⟨v15, vy26, hrun, o2, hbel, hsz, hkeep⟩ := app_b_i int_info int_slice o1 k14 (by have := HTL.out; omega) (by omega)
             obtain ⟨A2, c2, rfl⟩ := own_slice o2
             obtain ⟨n2, hn2⟩ : ∃ x, (t ++ [(k : Int)]).length = x := ⟨_, rfl⟩
             rw [hn2] at o2 hrun
             clear hn2
             have ey25 : Below w3.heap.size w3 vy26 := hbel _ ey22
             clear o1 k14
             have HRUN := Lib.hid hrun
             clear hrun hbel hsz hkeep
             refine wp_append_run (.tmp 57) (.tmp 59) 40 _ rfl HRUN.out ?_
             refine hK _ _ (fun _ => ey25) ?_
             clear hK K HRUN
             simp only [List.getElem_toArray, List.getElem_cons_succ, List.getElem_cons_zero, Act.put, List.setIfInBounds_toArray, List.set_cons_succ, List.set_cons_zero]
             refine any_tk 16 ?_
             refine any_run1 (i := 17) (by kernel_rfl) (by rfl) (by kernel_rfl) ?_
             intro K hK
             have qy29 := ey25.size
             have ey28 : Below w3.heap.size w3 (vy26.alloc (.cells #[.int .i64 bb, .slice A2 n2 c2] 42)) := Below.alloc ey25 ey25.size _
             have hnx : Below vy26.heap.size vy26 (vy26.alloc (.cells #[.int .i64 bb, .slice A2 n2 c2] 42)) := Below.alloc (Below.refl _ _) (Nat.le_refl _) _
             go_wp2_with fail
             replace o2 := OwnI.below o2 hnx
             have k17 : BK (vy26.alloc (.cells #[.int .i64 bb, .slice A2 n2 c2] 42)) vy26.heap.size #[.int .i64 bb, .slice A2 n2 c2] 42 := BK.new _ _ _
             refine hK _ _ (fun _ => ey28) ?_
             clear hK K hnx
             generalize (vy26.alloc (.cells #[.int .i64 bb, .slice A2 n2 c2] 42)) = vy30 at *
             obtain ⟨gk17, hgk17⟩ : ∃ g, vy26.heap.size = g := ⟨_, rfl⟩
             have hqk17 : w3.heap.size ≤ gk17 := by omega
             rw [hgk17] at k17
             try rw [hgk17]
             clear hgk17
             refine any_run1 (i := 18) (by kernel_rfl) (by rfl) (by kernel_rfl) ?_
             intro K hK
             obtain ⟨v18, vy31, hrun, o3, hbel, hsz⟩ := app_b_rc (r := bb :: (t ++ [(k : Int)])) (OwnRc.below HOK.out ey28) rfl (own_more o2 (Nat.zero_le _)) k17 (by have := HNN.out; omega) (by have := ey28.size; omega)
             have F4 : Below h1 wi vy31 := hbel _ (HBK.out.trans (ey28.mono hwz))
             clear k17 o2
             obtain ⟨A8, c8, rfl⟩ := o3.slice
             rw [List.length_append, HNN.out, List.length_singleton] at o3 hrun
             have HRUN := Lib.hid hrun
             clear hrun hbel hsz
             refine wp_append_run (.tmp 45) (.tmp 62) 77 _ rfl HRUN.out ?_
             refine hK _ _ (fun hx => (Bool.false_ne_true (hx.symm.trans (by kernel_rfl))).elim) ?_
             clear hK K HRUN
             simp only [List.getElem_toArray, List.getElem_cons_succ, List.getElem_cons_zero, Act.put, List.setIfInBounds_toArray, List.set_cons_succ, List.set_cons_zero]
             refine any_run1 (i := 19) (by kernel_rfl) (by rfl) (by kernel_rfl) ?_
             intro K hK
             go_wp2_with fail
             refine hK _ _ (fun hx => (Bool.false_ne_true (hx.symm.trans (by kernel_rfl))).elim) ?_
             clear hK K
             refine any_done (by kernel_rfl) (NoPanic.normal ?_)
             exact ⟨rfl, by simp [setAll], rfl, _, _, rfl, o3, F4⟩
           ·skip
            intro K hK
            have qy33 := dy1.size
            have ey32 : Below w3.heap.size w3 (uy2.alloc (.cells #[.int .i64 (k : Int)] 3)) := Below.alloc dy1 dy1.size _
            have hnx : Below uy2.heap.size uy2 (uy2.alloc (.cells #[.int .i64 (k : Int)] 3)) := Below.alloc (Below.refl _ _) (Nat.le_refl _) _
            go_wp2_with fail
            have k14 : BK (uy2.alloc (.cells #[.int .i64 (k : Int)] 3)) uy2.heap.size #[.int .i64 (k : Int)] 3 := BK.new _ _ _
            refine hK _ _ (fun _ => ey32) ?_
            clear hK K hnx
            generalize (uy2.alloc (.cells #[.int .i64 (k : Int)] 3)) = vy34 at *
            obtain ⟨gk14, hgk14⟩ : ∃ g, uy2.heap.size = g := ⟨_, rfl⟩
            have hqk14 : w3.heap.size ≤ gk14 := by omega
            rw [hgk14] at k14
            try rw [hgk14]
            clear hgk14
            refine any_run1 (i := 6) (by kernel_rfl) (by rfl) (by kernel_rfl) ?_
            intro K hK
            have qy36 := ey32.size
            have ey35 : Below w3.heap.size w3 (vy34.alloc (.cells #[] 3)) := Below.alloc ey32 ey32.size _
            have hnx : Below vy34.heap.size vy34 (vy34.alloc (.cells #[] 3)) := Below.alloc (Below.refl _ _) (Nat.le_refl _) _
            go_wp2_with fail
            replace k14 := k14.below hnx k14.lt
            have k6 : BK (vy34.alloc (.cells #[] 3)) vy34.heap.size #[] 3 := BK.new _ _ _
            refine hK _ _ (fun _ => ey35) ?_
            clear hK K hnx
            generalize (vy34.alloc (.cells #[] 3)) = vy37 at *
            obtain ⟨gk6, hgk6⟩ : ∃ g, vy34.heap.size = g := ⟨_, rfl⟩
            have hqk6 : w3.heap.size ≤ gk6 := by omega
            rw [hgk6] at k6
            try rw [hgk6]
            clear hgk6
            refine any_run1 (i := 12) (by kernel_rfl) (by rfl) (by kernel_rfl) ?_
            intro K hK
            have qy40 := ey35.size
            obtain ⟨A1, c1, vy39, hrun, o1, hbel, hsz, hkeep⟩ := app_src_i (base := w3.heap.size) k6 hqk6 (RS.more (RS.below (OwnI.ri HUT.out) ey35) ey35.size) HTL.out (by omega) (by omega)
            have ey38 : Below w3.heap.size w3 vy39 := hbel _ ey35
            replace k14 := hkeep _ _ _ k14 (by simp)
            have HRUN := Lib.hid hrun
            clear hrun hbel hsz hkeep k6
            refine wp_append_run (.tmp 51) (.tmp 56) 40 _ rfl HRUN.out ?_
            refine hK _ _ (fun _ => ey38) ?_
            clear hK K HRUN
            simp only [List.getElem_toArray, List.getElem_cons_succ, List.getElem_cons_zero, Act.put, List.setIfInBounds_toArray, List.set_cons_succ, List.set_cons_zero]
            refine any_run1 (i := 15) (by kernel_rfl) (by rfl) (by kernel_rfl) ?_
            intro K hK
            have qy43 := ey38.size
            obtain ⟨v15, vy42, hrun, o2, hbel, hsz, hkeep⟩ := app_b_i int_info int_slice o1 k14 (by have := HTL.out; omega) (by omega)
            obtain ⟨A2, c2, rfl⟩ := own_slice o2
            obtain ⟨n2, hn2⟩ : ∃ x, (t ++ [(k : Int)]).length = x := ⟨_, rfl⟩
            rw [hn2] at o2 hrun
            clear hn2
            have ey41 : Below w3.heap.size w3 vy42 := hbel _ ey38
            clear o1 k14
            have HRUN := Lib.hid hrun
            clear hrun hbel hsz hkeep
            refine wp_append_run (.tmp 57) (.tmp 59) 40 _ rfl HRUN.out ?_
            refine hK _ _ (fun _ => ey41) ?_
            clear hK K HRUN
            simp only [List.getElem_toArray, List.getElem_cons_succ, List.getElem_cons_zero, Act.put, List.setIfInBounds_toArray, List.set_cons_succ, List.set_cons_zero]
            refine any_tk 16 ?_
            refine any_run1 (i := 17) (by kernel_rfl) (by rfl) (by kernel_rfl) ?_
            intro K hK
            have qy45 := ey41.size
            have ey44 : Below w3.heap.size w3 (vy42.alloc (.cells #[.int .i64 bb, .slice A2 n2 c2] 42)) := Below.alloc ey41 ey41.size _
            have hnx : Below vy42.heap.size vy42 (vy42.alloc (.cells #[.int .i64 bb, .slice A2 n2 c2] 42)) := Below.alloc (Below.refl _ _) (Nat.le_refl _) _
            go_wp2_with fail
            replace o2 := OwnI.below o2 hnx
            have k17 : BK (vy42.alloc (.cells #[.int .i64 bb, .slice A2 n2 c2] 42)) vy42.heap.size #[.int .i64 bb, .slice A2 n2 c2] 42 := BK.new _ _ _
            refine hK _ _ (fun _ => ey44) ?_
            clear hK K hnx
            generalize (vy42.alloc (.cells #[.int .i64 bb, .slice A2 n2 c2] 42)) = vy46 at *
            obtain ⟨gk17, hgk17⟩ : ∃ g, vy42.heap.size = g := ⟨_, rfl⟩
            have hqk17 : w3.heap.size ≤ gk17 := by omega
            rw [hgk17] at k17
            try rw [hgk17]
            clear hgk17
            refine any_run1 (i := 18) (by kernel_rfl) (by rfl) (by kernel_rfl) ?_
            intro K hK
            obtain ⟨v18, vy47, hrun, o3, hbel, hsz⟩ := app_b_rc (r := bb :: (t ++ [(k : Int)])) (OwnRc.below HOK.out ey44) rfl (own_more o2 (Nat.zero_le _)) k17 (by have := HNN.out; omega) (by have := ey44.size; omega)
            have F4 : Below h1 wi vy47 := hbel _ (HBK.out.trans (ey44.mono hwz))
            clear k17 o2
            obtain ⟨A8, c8, rfl⟩ := o3.slice
            rw [List.length_append, HNN.out, List.length_singleton] at o3 hrun
            have HRUN := Lib.hid hrun
            clear hrun hbel hsz
            refine wp_append_run (.tmp 45) (.tmp 62) 77 _ rfl HRUN.out ?_
            refine hK _ _ (fun hx => (Bool.false_ne_true (hx.symm.trans (by kernel_rfl))).elim) ?_
            clear hK K HRUN
            simp only [List.getElem_toArray, List.getElem_cons_succ, List.getElem_cons_zero, Act.put, List.setIfInBounds_toArray, List.set_cons_succ, List.set_cons_zero]
            refine any_run1 (i := 19) (by kernel_rfl) (by rfl) (by kernel_rfl) ?_
            intro K hK
            go_wp2_with fail
            refine hK _ _ (fun hx => (Bool.false_ne_true (hx.symm.trans (by kernel_rfl))).elim) ?_
            clear hK K
            refine any_done (by kernel_rfl) (NoPanic.normal ?_)
            exact ⟨rfl, by simp [setAll], rfl, _, _, rfl, o3, F4⟩
          rintro u V ⟨A, c, hu6, hown, hbV⟩
          simp only [setAll, List.foldl, List.setIfInBounds_toArray, List.set_cons_succ, List.set_cons_zero, hu6]
          have hown2 : OwnRc V h1 (.slice A (nn + 1) c) (rcK L n m (k + 1)) := by rw [HKS.out]; exact hown
          have HOV := Lib.hid hown2
          have HBV := Lib.hid hbV
          clear hown hown2 hbV hu6 e0b e1b HOK
          go_wp2_with fail
          go_roundw
          case rel => exact ⟨k + 1, by omega, by go_num, HOV.out, HBV.out⟩
          case measure => simp [intOf]; omega
end Go.Proofs.Ytkibdciomheekaa

set_option linter.all false
namespace Go.Proofs.Ytkibdciomheekaa
open Go.RowKit Hp

def posL (l : List Int) (n : Nat) : List Int := ((List.range n).filter fun i => decide (0 < nthI l i)).map fun (i : Nat) => (i : Int)
theorem posL_zero (l : List Int) : posL l 0 = [] := rfl
theorem posL_succ (l : List Int) (n : Nat) : posL l (n + 1) = if 0 < nthI l n then posL l n ++ [(n : Int)] else posL l n := by
  unfold posL
  rw [List.range_succ, List.filter_append, List.map_append]
  split
  · rename_i h
    rw [show ([n].filter fun i => decide (0 < nthI l i)) = [n] by simp [h]]
    rfl
  · rename_i h
    rw [show ([n].filter fun i => decide (0 < nthI l i)) = [] by simp [h]]
    simp
theorem posL_len (l : List Int) (n : Nat) : (posL l n).length ≤ n := by
  unfold posL
  rw [List.length_map]
  refine Nat.le_trans (List.length_filter_le _ _) ?_
  rw [List.length_range]
  exact Nat.le_refl _

set_option maxHeartbeats 8000000 in
set_option maxRecDepth 100000 in
theorem someR_any (l : List Int) (v : Value) (w : World) (hl : l.length ≤ 1000) (h : RI w w.heap.size v l) :
    Calls Try.prog 73 #[v] w fun e w' => ∃ v', e = .returned v' ∧ OwnI 3 w' w.heap.size v' (posL l l.length) ∧ Below w.heap.size w w' := by
  obtain ⟨A, cap, bb, off, rfl, hA, hc⟩ := h.cells
  have HC := Lib.hid hc
  have HA := Lib.hid hA
  clear hc hA h
  obtain ⟨n0, hn0⟩ : ∃ n, w.heap.size = n := ⟨_, rfl⟩
  have HN := Lib.hid hn0
  rw [hn0]
  clear hn0
  go_enter Try.func73, Try.ntmps73
  go_wp2_with fail
  go_loopw [3, 4] (fun acc i wr => ∃ k : Nat, k ≤ l.length ∧ i = .int .i64 k ∧ OwnI 3 wr n0 acc (posL l k) ∧ Below n0 w wr) (fun _ i _ => l.length - (intOf i).toNat)
  case atStart => exact ⟨0, Nat.zero_le _, rfl, OwnI.nil _ _ _, Below.refl _ _⟩
  case round =>
    obtain ⟨k, hk, rfl, hown, hbw⟩ := hrel
    have hwz : n0 ≤ wr.heap.size := by have := hbw.size; have := HN.out; omega
    have HOWN := Lib.hid hown
    have HB := Lib.hid hbw
    clear hown hbw
    by_cases hlt : k < l.length
    case neg =>
      have hlt' : ¬ (k : Int) < (l.length : Int) := by omega
      obtain rfl : k = l.length := by omega
      go_wp2_with fail
      exact bodyPost_ret (by simp [results, Try.results73, go_sem]) rfl ⟨_, rfl, HOWN.out, HB.out⟩
    have hlt' : (k : Int) < (l.length : Int) := by omega
    obtain ⟨rfl, hb⟩ := HA.out (by omega)
    have c0 := HC.out k hlt
    rw [← HB.out.cell (by have := HN.out; show bb < n0; omega)] at c0
    have hbr : bb < wr.heap.size := by have := HN.out; omega
    have hst := posL_succ l k
    obtain ⟨x, hx⟩ : ∃ x, nthI l k = x := ⟨_, rfl⟩
    rw [hx] at c0 hst
    have HST := Lib.hid hst
    clear hst hx
    by_cases he : 0 < x
    case neg =>
      have d1 : decide (0 < x) = false := decide_eq_false he
      have HO : Hid (OwnI 3 wr n0 _ (posL l (k + 1))) := Lib.hid (by rw [HST.out, if_neg he]; exact HOWN.out)
      clear he
      go_wp2_with fail
      go_roundw
      case rel => exact ⟨k + 1, by omega, by go_num, HO.out, HB.out⟩
      case measure => simp [intOf]; omega
    have d1 : decide (0 < x) = true := decide_eq_true he
    obtain ⟨B5, hB5⟩ : ∃ B, wr.heap.size = B := ⟨_, rfl⟩
    obtain ⟨v', w8, hrun, hown', hb', hs', _⟩ := app_int HOWN.out (k : Int) (by have := posL_len l k; omega) hwz HB.out B5 hB5
    have HO : Hid (OwnI 3 w8 n0 v' (posL l (k + 1))) := Lib.hid (by rw [HST.out, if_pos he]; exact hown')
    have HB8 := Lib.hid hb'
    have HRUN := Lib.hid hrun
    clear hrun hown' hb' hs' he
    go_wp2_with (at_builtin; refine wpList_append_run rfl (.tmp 16) (.tmp 18) 40 _ rfl HRUN.out ?_)
    go_roundw
    case rel => exact ⟨k + 1, by omega, by go_num, HO.out, HB8.out⟩
    case measure => simp [intOf]; omega
end Go.Proofs.Ytkibdciomheekaa

set_option linter.all false
namespace Go.Proofs.Ytkibdciomheekaa
open Go.RowKit Hp

set_option maxHeartbeats 8000000 in
set_option maxRecDepth 100000 in
theorem of_any (bb : Int) (t : List Int) (vk : Value) (st : Int) (w : World) (hR : RI w w.heap.size vk t) (h1 : -1 ≤ st) (h2 : st < t.length) (hl : t.length ≤ 1000) :
    Calls Try.prog 91 #[.agg #[.int .i64 bb, vk], .int .i64 st] w fun e w' => e = .returned (.int .i64 (nthI (bb :: t) (st + 1).toNat)) ∧ Below w.heap.size w w' := by
  obtain ⟨A, cap, b, off, rfl, hA, hc⟩ := hR.cells
  clear hR
  by_cases h0 : st < 0
  · obtain rfl : st = -1 := by omega
    have e : nthI (bb :: t) ((-1 : Int) + 1).toNat = bb := rfl
    rw [e]
    clear hA hc e
    go_enter Try.func91, Try.ntmps91
    go_wp2_with fail
    go_ret
    exact ⟨rfl, by exact bel_of⟩
  · obtain ⟨i, rfl⟩ : ∃ i : Nat, st = i := ⟨st.toNat, by omega⟩
    have hi : i < t.length := by omega
    obtain ⟨rfl, hb⟩ := hA (by omega)
    have d := hc i hi
    obtain ⟨x, hx⟩ : ∃ x, nthI t i = x := ⟨_, rfl⟩
    rw [hx] at d
    have e : nthI (bb :: t) ((i : Int) + 1).toNat = x := by
      rw [show ((i : Int) + 1).toNat = i + 1 by omega, ← hx]
      rfl
    rw [e]
    clear hA hc e hx h1
    go_enter Try.func91, Try.ntmps91
    go_wp2_with fail
    go_ret
    exact ⟨rfl, by exact bel_of⟩
/-- Of the first k recipes. -/
def cntK (L : List (List Int)) (st : Int) (k : Nat) : List Int := (List.range 6).map fun (c : Nat) => hits (L.take k) st (c : Int)
def cntL (L : List (List Int)) (st : Int) : List Int := (List.range 6).map fun (c : Nat) => hits L st (c : Int)
theorem cntK_zero (L : List (List Int)) (st : Int) : cntK L st 0 = [0, 0, 0, 0, 0, 0] := by unfold cntK hits; rw [List.take_zero]; rfl
theorem cntK_all (L : List (List Int)) (st : Int) : cntK L st L.length = cntL L st := by unfold cntK cntL; rw [List.take_length]
theorem cntK_len (L : List (List Int)) (st : Int) (k : Nat) : (cntK L st k).length = 6 := by simp [cntK]
theorem cntL_len (L : List (List Int)) (st : Int) : (cntL L st).length = 6 := by simp [cntL]
theorem hits_succ {L : List (List Int)} {st : Int} {k : Nat} (hk : k < L.length) (c : Int) : hits (L.take (k + 1)) st c = hits (L.take k) st c + if -1 ≤ st ∧ st + 1 < (nthLi L k).length ∧ nthI (nthLi L k) (st + 1).toNat = c then 1 else 0 := by
  unfold hits
  rw [List.take_succ, List.getElem?_eq_getElem hk, List.filter_append, nthLi_eq hk, List.length_append, Option.toList_some]
  split
  · rename_i h
    rw [show ([L[k]].filter fun r => decide (-1 ≤ st ∧ st + 1 < r.length ∧ nthI r (st + 1).toNat = c)) = [L[k]] by simp [h]]
    simp
  · rename_i h
    rw [show ([L[k]].filter fun r => decide (-1 ≤ st ∧ st + 1 < r.length ∧ nthI r (st + 1).toNat = c)) = [] by simpa using h]
    simp
theorem cntK_succ {L : List (List Int)} {st : Int} {k : Nat} (hk : k < L.length) (h1 : -1 ≤ st) (h2 : st + 1 < (nthLi L k).length) {c : Nat} (hc : nthI (nthLi L k) (st + 1).toNat = c) (h6 : c < 6) :
    cntK L st (k + 1) = (cntK L st k).set c (nthI (cntK L st k) c + 1) := by
  refine eq_of_nthI (by rw [List.length_set, cntK_len, cntK_len]) fun j hj => ?_
  rw [cntK_len] at hj
  rw [nthI_set (by rw [cntK_len]; exact h6)]
  have e : ∀ k, nthI (cntK L st k) j = hits (L.take k) st (j : Int) := fun k => by simp [nthI, cntK, hj]
  have ec : nthI (cntK L st k) c = hits (L.take k) st (c : Int) := by simp [nthI, cntK, h6]
  rw [e, e, ec, hits_succ hk, hc]
  by_cases q : c = j
  · subst q
    rw [if_pos rfl, if_pos ⟨h1, h2, rfl⟩]
  · rw [if_neg q, if_neg (by rintro ⟨_, _, q3⟩; omega)]
    omega
theorem cntK_at (L : List (List Int)) (st : Int) (k c : Nat) : 0 ≤ nthI (cntK L st k) c ∧ nthI (cntK L st k) c ≤ L.length := by
  by_cases h : c < 6
  · have e : nthI (cntK L st k) c = hits (L.take k) st (c : Int) := by simp [nthI, cntK, h]
    have := hits_le (L.take k) st (c : Int)
    have h3 : (L.take k).length ≤ L.length := by rw [List.length_take]; omega
    rw [e]
    omega
  · rw [nthI_out (by rw [cntK_len]; omega)]
    omega
theorem bk_set_i {W : World} {g : Nat} {l : List Int} {t : Nat} (h : BK W g (ofI l).toArray t) (c : Nat) (x : Int) : BK (W.setCell ⟨g, c, none⟩ (.int .i64 x)) g (ofI (l.set c x)).toArray t := by
  have h2 := h.set c (.int .i64 x)
  rwa [List.setIfInBounds_toArray, show (ofI l).set c (.int .i64 x) = ofI (l.set c x) by unfold ofI; rw [List.map_set]] at h2
theorem bk_at_i {W : World} {g : Nat} {l : List Int} {t : Nat} (h : BK W g (ofI l).toArray t) {c : Nat} (hc : c < l.length) : W.cell? ⟨g, c, none⟩ = some (.int .i64 (nthI l c)) := by
  rw [h.cell c]
  simp [ofI, nthI, hc]

set_option maxHeartbeats 8000000 in
set_option maxRecDepth 100000 in
theorem counts_any (L : List (List Int)) (st : Int) (Ab As : Option Addr) (nb cb ns cs : Nat) (vl : Value) (w : World) (hL : RC w vl L) (h1 : -1 ≤ st)
    (hr : ∀ r ∈ L, st + 1 < r.length ∧ r.length ≤ 100 ∧ 0 ≤ nthI r (st + 1).toNat ∧ nthI r (st + 1).toNat < 6) (hfw : L.length ≤ 1000000) :
    Calls Try.prog 74 #[.agg #[.slice Ab nb cb, .slice As ns cs], vl, .int .i64 st] w fun e w' => ∃ v, e = .returned v ∧ OwnI 3 w' w.heap.size v (cntL L st) ∧ Below w.heap.size w w' := by
  obtain ⟨A1, c1, rfl⟩ := hL.slice
  have HR := Lib.hid hr
  clear hr
  obtain ⟨n0, hn0⟩ : ∃ n, w.heap.size = n := ⟨_, rfl⟩
  have HN := Lib.hid hn0
  rw [hn0]
  have hbx : Below w.heap.size w (w.alloc (.cells #[.slice Ab nb cb, .slice As ns cs] 25)) := Below.alloc (Below.refl _ _) (Nat.le_refl _) _
  go_enter Try.func74, Try.ntmps74
  go_upto_region 1 with fail
  have hs1 : (w.alloc (.cells #[.slice Ab nb cb, .slice As ns cs] 25)).heap.size = n0 + 1 := by simp [hn0]
  rw [hn0] at hbx
  have HL := Lib.hid hL
  clear hL
  generalize (w.alloc (.cells #[.slice Ab nb cb, .slice As ns cs] 25)) = W1 at *
  have hmk : (Instr.makeSlice 40 (.int .i64 6) (.int .i64 6)).run Try.prog W1 = .ok (.slice (some ⟨W1.heap.size, 0, none⟩) 6 6) (W1.alloc (.cells (madeCells #[.int .i64 0] 6) 3)) := make_int 6 (by omega) W1
  have hbk : BK (W1.alloc (.cells (madeCells #[.int .i64 0] 6) 3)) (n0 + 1) (ofI [0, 0, 0, 0, 0, 0]).toArray 3 := by
    have h := BK.new' W1 (madeCells #[.int .i64 0] 6) 3 _ hs1
    have e : madeCells #[.int .i64 0] 6 = (ofI [0, 0, 0, 0, 0, 0]).toArray := by kernel_rfl
    rw [e] at h ⊢
    exact h
  have hb2 : Below W1.heap.size W1 (W1.alloc (.cells (madeCells #[.int .i64 0] 6) 3)) := Below.alloc (Below.refl _ _) (Nat.le_refl _) _
  have hb3 : Below n0 w (W1.alloc (.cells (madeCells #[.int .i64 0] 6) 3)) := hbx.trans (hb2.mono (by omega))
  rw [hs1] at hmk
  clear hb2 hbx hn0 hs1
  generalize W1.alloc (.cells (madeCells #[.int .i64 0] 6) 3) = W2 at *
  have HB3 := Lib.hid hb3
  have HBK := Lib.hid hbk
  obtain ⟨h0, hh0⟩ : ∃ h, W2.heap.size = h := ⟨_, rfl⟩
  have HH := Lib.hid hh0
  have hnh : n0 + 1 < h0 := by have := hbk.lt; omega
  clear hb3 hbk hh0
  go_wp2_with fail
  clear hmk
  go_loopw [8] (fun i wr => ∃ k : Nat, k ≤ L.length ∧ i = .int .i64 (k : Int) ∧ BK wr (n0 + 1) (ofI (cntK L st k)).toArray 3 ∧ Below n0 w wr) (fun i _ => L.length - (intOf i).toNat)
  case atStart => exact ⟨0, Nat.zero_le _, rfl, by rw [cntK_zero]; exact HBK.out, HB3.out⟩
  case round =>
    obtain ⟨k, hk, rfl, hbk, hb⟩ := hrel
    have hL := HL.out.below (by rw [HN.out]; exact hb)
    by_cases hlt : k < L.length
    case neg =>
      have hlt' : ¬ (k : Int) < (L.length : Int) := by omega
      obtain rfl : k = L.length := by omega
      have HO : Hid (OwnI 3 wr n0 (.slice (some ⟨n0 + 1, 0, none⟩) 6 6) (cntL L st)) := Lib.hid (by
        rw [← cntK_all]
        have h := OwnI.of_bk (base := n0) hbk (by omega) (by rw [cntK_len]; omega)
        rw [cntK_len] at h
        exact h)
      have HB := Lib.hid hb
      clear hbk hL hb
      go_wp2_with fail
      exact bodyPost_ret (by simp [results, Try.results74, go_sem]) rfl ⟨_, rfl, HO.out, HB.out⟩
    have hlt' : (k : Int) < (L.length : Int) := by omega
    obtain ⟨r1, r2, r3, r4⟩ := HR.out _ (mem_nthLi hlt)
    obtain ⟨A', cap', bl, ol, hve, hA, hc⟩ := RC.cells hL
    obtain ⟨rfl, hbl⟩ := hA (by omega)
    injection hve with q1 q2 q3
    subst q1 q3
    obtain ⟨u, e0, e1, hu⟩ := hc k hlt
    obtain ⟨Aw, cw, rfl⟩ := own_slice hu
    obtain ⟨c, hcc⟩ : ∃ c : Nat, nthI (nthLi L k) (st + 1).toNat = c := ⟨(nthI (nthLi L k) (st + 1).toNat).toNat, by omega⟩
    have h6 : c < 6 := by omega
    have hst := cntK_succ hlt h1 r1 hcc h6
    have hat := cntK_at L st k c
    have hlen := cntK_len L st k
    obtain ⟨r, hr⟩ : ∃ r, nthLi L k = r := ⟨_, rfl⟩
    rw [hr] at e0 e1 hu hcc r1 r2
    obtain ⟨bb, t, rfl⟩ : ∃ bb t, r = bb :: t := by
      cases r with
      | nil => rw [List.length_nil] at r1; omega
      | cons b t => exact ⟨b, t, rfl⟩
    rw [List.length_cons] at r1 r2
    have d0 : wr.cell? ⟨bl, ol + k * 2, none⟩ = some (.int .i64 bb) := e0
    have d1 : wr.cell? ⟨bl, ol + k * 2 + 1, none⟩ = some (.slice Aw t.length cw) := e1
    have hut : OwnI 3 wr 0 (.slice Aw t.length cw) t := hu
    obtain ⟨C, hC⟩ : ∃ C, cntK L st k = C := ⟨_, rfl⟩
    rw [hC] at hbk hst hat hlen
    have HST := Lib.hid hst
    have HCC := Lib.hid hcc
    have HUT := Lib.hid hut
    have HBK2 := Lib.hid hbk
    have HB4 := Lib.hid hb
    have HLEN := Lib.hid hlen
    clear hA hc q2 e0 e1 hu hut hr hC hst hcc hbk hL hb hlen r3 r4
    go_wp2_with fail
    refine (of_any bb t _ st wr (OwnI.ri HUT.out) h1 (by omega) (by omega)).mono ?_
    rintro e w3 ⟨rfl, hb3⟩
    rw [HCC.out]
    have hbk3 := HBK2.out.below hb3 HBK2.out.lt
    have hb4 : Below n0 w w3 := HB4.out.trans (hb3.mono (by have := HBK2.out.lt; omega))
    obtain ⟨x, hx⟩ : ∃ x, nthI C c = x := ⟨_, rfl⟩
    have f0 := bk_at_i hbk3 (by rw [HLEN.out]; exact h6)
    have f1 := hbk3.frozen c
    have f2 := hbk3.lt
    have hbk4 := bk_set_i hbk3 c (x + 1)
    have hb5 := Below.setCell (p := ⟨n0 + 1, c, none⟩) hb4 (by show n0 ≤ n0 + 1; omega) (.int .i64 (x + 1))
    rw [hx] at f0 hat HST
    rw [← HST.out] at hbk4
    have HO1 := Lib.hid hbk4
    have HO3 := Lib.hid hb5
    clear hb3 hbk3 hb4 hbk4 hb5 HBK2 HB4 HUT hx d0 d1 hbl
    go_wp2_with fail
    go_roundw
    case rel => exact ⟨k + 1, by omega, by go_num, HO1.out, HO3.out⟩
    case measure => simp [intOf]; omega
end Go.Proofs.Ytkibdciomheekaa

set_option linter.all false
namespace Go.Proofs.Ytkibdciomheekaa
open Go.RowKit Hp

theorem filter_range {p : Nat → Bool} {n : Nat} (hp : ∀ i, p i = true → i < n) : ∀ d, (List.range (n + d)).filter p = (List.range n).filter p
  | 0 => rfl
  | d + 1 => by
    rw [← Nat.add_assoc, List.range_succ, List.filter_append, filter_range hp d]
    have : p (n + d) = false := by
      rw [Bool.eq_false_iff]
      intro h
      have := hp _ h
      omega
    rw [List.filter_cons_of_neg (by rw [this]; exact Bool.noConfusion)]
    simp
theorem hits_pos_iff {L : List (List Int)} {a c : Int} : 0 < hits L a c ↔ ∃ r ∈ L, -1 ≤ a ∧ a + 1 < r.length ∧ nthI r (a + 1).toNat = c := by
  unfold hits
  constructor
  · intro h
    have h2 : 0 < (L.filter fun r => decide (-1 ≤ a ∧ a + 1 < r.length ∧ nthI r (a + 1).toNat = c)).length := by omega
    obtain ⟨r, hr⟩ := List.exists_mem_of_length_pos h2
    obtain ⟨h3, h4⟩ := List.mem_filter.1 hr
    exact ⟨r, h3, of_decide_eq_true h4⟩
  · rintro ⟨r, hr, h⟩
    have h2 : 0 < (L.filter fun r => decide (-1 ≤ a ∧ a + 1 < r.length ∧ nthI r (a + 1).toNat = c)).length := List.length_pos_of_mem (List.mem_filter.2 ⟨hr, decide_eq_true h⟩)
    omega
theorem cntL_at {L : List (List Int)} {st : Int} {i : Nat} (h : i < 6) : nthI (cntL L st) i = hits L st (i : Int) := by simp [nthI, cntL, h]
theorem posL_cnt {L : List (List Int)} {st : Int} {n : Nat} {p : Nat → Bool} (hn : n ≤ 6) (h : ∀ i : Nat, i < 6 → (0 < hits L st (i : Int) ↔ i < n ∧ p i = true)) : posL (cntL L st) 6 = ((List.range n).filter p).map Int.ofNat := by
  unfold posL
  have e1 : (List.range 6).filter (fun i => decide (0 < nthI (cntL L st) i)) = (List.range 6).filter (fun i => decide (i < n) && p i) := by
    refine List.filter_congr fun i hi => ?_
    have hi' := List.mem_range.1 hi
    rw [cntL_at hi', Bool.eq_iff_iff, decide_eq_true_iff, h i hi', Bool.and_eq_true, decide_eq_true_iff]
  have e2 : (List.range 6).filter (fun i => decide (i < n) && p i) = (List.range n).filter (fun i => decide (i < n) && p i) := by
    obtain ⟨d, hd⟩ : ∃ d, 6 = n + d := ⟨6 - n, by omega⟩
    rw [hd]
    exact filter_range (fun i hi => by rw [Bool.and_eq_true, decide_eq_true_iff] at hi; exact hi.1) d
  have e3 : (List.range n).filter (fun i => decide (i < n) && p i) = (List.range n).filter p := by
    refine List.filter_congr fun i hi => ?_
    rw [decide_eq_true (List.mem_range.1 hi), Bool.true_and]
  rw [e1, e2, e3]
  rfl
section
variable {bars : List Rg} {ss : List Stp} {m : Rg} {i : Nat}
theorem mem_mkL {r : List Int} : r ∈ mkL bars m ss ↔ ∃ p ∈ makers bars ss m, r = Int.ofNat p.1 :: p.2.map Int.ofNat := by
  unfold mkL
  rw [List.mem_map]
  exact ⟨fun ⟨p, h, e⟩ => ⟨p, h, e.symm⟩, fun ⟨p, h, e⟩ => ⟨p, h, e.symm⟩⟩
theorem cnt_bars (h : OkV bars ss) (hm : OkR m) : posL (cntL (mkL bars m ss) (-1)) 6 = someV bars m ss (-1) := by
  rw [someV_bars h hm]
  unfold barsOf
  refine posL_cnt h.bfew fun c hc => ?_
  rw [hits_pos_iff]
  constructor
  · rintro ⟨r, hr, _, _, h3⟩
    obtain ⟨p, hp, rfl⟩ := mem_mkL.1 hr
    have h4 : ((p.1 : Nat) : Int) = (c : Int) := h3
    have h5 : p.1 = c := by omega
    subst h5
    exact ⟨(mem_makers.1 hp).1, List.any_eq_true.2 ⟨p, hp, decide_eq_true rfl⟩⟩
  · rintro ⟨h1, h2⟩
    obtain ⟨p, hp, e⟩ := List.any_eq_true.1 h2
    have e' := of_decide_eq_true e
    exact ⟨_, mem_mkL.2 ⟨p, hp, rfl⟩, by omega, by simp, by rw [← e']; rfl⟩
theorem mk_ways_at {p : Nat × List Nat} (hp : p ∈ makers bars ss m) (hi : i < ss.length) : i < p.2.length ∧ p.2.getD i 0 < (nthS ss i).length := by
  obtain ⟨_, hw, _⟩ := mem_makers.1 hp
  obtain ⟨hl, hlt⟩ := mem_allR_iff.1 hw
  exact ⟨by omega, hlt i hi⟩
theorem mk_nth (p : Nat × List Nat) (hi : i < p.2.length) : nthI (Int.ofNat p.1 :: p.2.map Int.ofNat) (i + 1) = ((p.2.getD i 0 : Nat) : Int) := by
  simp [nthI, hi]
theorem cnt_ways (h : OkV bars ss) (hm : OkR m) (hi : i < ss.length) : posL (cntL (mkL bars m ss) (i : Int)) 6 = someV bars m ss (i : Int) := by
  rw [someV_ways h hm hi]
  unfold waysOf
  have h5 := (h.wpos _ (nthS_mem hi)).2
  refine posL_cnt (by omega) fun c hc => ?_
  rw [hits_pos_iff]
  have e : ((i : Int) + 1).toNat = i + 1 := by omega
  rw [e]
  constructor
  · rintro ⟨r, hr, _, _, h3⟩
    obtain ⟨p, hp, rfl⟩ := mem_mkL.1 hr
    obtain ⟨q1, q2⟩ := mk_ways_at hp hi
    rw [mk_nth p q1] at h3
    have h6 : p.2.getD i 0 = c := by omega
    refine ⟨by omega, List.any_eq_true.2 ⟨p, hp, decide_eq_true ?_⟩⟩
    rw [← h6]
    simp [q1]
  · rintro ⟨h1, h2⟩
    obtain ⟨p, hp, e2⟩ := List.any_eq_true.1 h2
    have e' := of_decide_eq_true e2
    obtain ⟨q1, q2⟩ := mk_ways_at hp hi
    refine ⟨_, mem_mkL.2 ⟨p, hp, rfl⟩, by omega, by simp; omega, ?_⟩
    rw [mk_nth p q1, List.getD_eq_getElem?_getD, e']
    rfl
/-- What counts asks of the makers. -/
theorem mk_fit_b (h : OkV bars ss) : ∀ r ∈ mkL bars m ss, (-1 : Int) + 1 < r.length ∧ r.length ≤ 100 ∧ 0 ≤ nthI r ((-1 : Int) + 1).toNat ∧ nthI r ((-1 : Int) + 1).toNat < 6 := by
  intro r hr
  have h1 := mkL_short h m r hr
  obtain ⟨p, hp, rfl⟩ := mem_mkL.1 hr
  have h2 := (mem_makers.1 hp).1
  have h3 := h.bfew
  refine ⟨by simp, h1, ?_, ?_⟩
  · show (0 : Int) ≤ Int.ofNat p.1
    exact Int.natCast_nonneg _
  · show Int.ofNat p.1 < 6
    have : (Int.ofNat p.1) = ((p.1 : Nat) : Int) := rfl
    omega
theorem mk_fit_w (h : OkV bars ss) (hi : i < ss.length) : ∀ r ∈ mkL bars m ss, (i : Int) + 1 < r.length ∧ r.length ≤ 100 ∧ 0 ≤ nthI r ((i : Int) + 1).toNat ∧ nthI r ((i : Int) + 1).toNat < 6 := by
  intro r hr
  have h1 := mkL_short h m r hr
  obtain ⟨p, hp, rfl⟩ := mem_mkL.1 hr
  obtain ⟨q1, q2⟩ := mk_ways_at hp hi
  have h5 := (h.wpos _ (nthS_mem hi)).2
  rw [show ((i : Int) + 1).toNat = i + 1 by omega, mk_nth p q1]
  exact ⟨by simp; omega, h1, by omega, by omega⟩
/-- The best question so far. -/
def askS (L : List (List Int)) (n : Nat) : Nat → Rg
  | 0 => ⟨0, (L.length : Int) + 1⟩
  | j + 1 => lsQ (qsL L n) j
theorem askS_succ (L : List (List Int)) {n j : Nat} (hj : j < n) : askS L n (j + 1) = if wrs L ((j : Int) - 1) 6 < (askS L n j).hi then ⟨(j : Int) - 1, wrs L ((j : Int) - 1) 6⟩ else askS L n j := by
  have e : ∀ j, j < n → nthB (qsL L n) j = ⟨(j : Int) - 1, wrs L ((j : Int) - 1) 6⟩ := fun j hj => by simp [nthB, qsL, hj]
  cases j with
  | zero =>
    have h := (wrs_le L (((0 : Nat) : Int) - 1) 6).2
    unfold askS
    rw [if_pos (by dsimp only; omega)]
    unfold lsQ
    exact e 0 hj
  | succ j =>
    show lsQ (qsL L n) (j + 1) = if _ < (lsQ (qsL L n) j).hi then _ else lsQ (qsL L n) j
    rw [← e (j + 1) hj]
    have e2 : (nthB (qsL L n) (j + 1)).hi = wrs L (((j + 1 : Nat) : Int) - 1) 6 := by rw [e (j + 1) hj]
    rw [← e2]
    rfl
theorem askS_at (L : List (List Int)) (n : Nat) : ∀ j, j ≤ n → 0 ≤ (askS L n j).hi ∧ (askS L n j).hi ≤ (L.length : Int) + 1 ∧ -1 ≤ (askS L n j).lo ∧ (askS L n j).lo ≤ (n : Int)
  | 0, _ => by unfold askS; dsimp only; omega
  | j + 1, hj => by
    have ih := askS_at L n j (by omega)
    have h := wrs_le L ((j : Int) - 1) 6
    rw [askS_succ L (by omega)]
    split
    · dsimp only; omega
    · exact ih
end
end Go.Proofs.Ytkibdciomheekaa

set_option linter.all false
namespace Go.Proofs.Ytkibdciomheekaa
open Go.RowKit Hp

set_option maxHeartbeats 8000000 in
set_option maxRecDepth 100000 in
theorem makersR_any (bars : List Rg) (ss : List Stp) (m : Rg) (vb vs : Value) (w : World) (hf : Fit bars ss) (hV : OkV bars ss) (hB : RR w w.heap.size vb bars) (hS : RP w w.heap.size vs ss) :
    Calls Try.prog 72 #[.agg #[vb, vs], rV m] w fun e w' => ∃ v, e = .returned v ∧ RC w' v (mkL bars m ss) ∧ Below w.heap.size w w' := by
  have HV := Lib.hid hV
  have HF := Lib.hid hf
  clear hV hf
  obtain ⟨Ab, cb, rfl⟩ := hB.slice
  obtain ⟨As, cs, rfl⟩ := hS.slice
  obtain ⟨mlo, mhi⟩ := m
  unfold rV
  obtain ⟨n0, hn0⟩ : ∃ n, w.heap.size = n := ⟨_, rfl⟩
  have hC : Below n0 w w := Below.refl _ _
  go_enter Try.func72, Try.ntmps72
  go_upto_region 1 with fail
  have hqbx : n0 ≤ n0 := by have := hC.size; omega
  have bx : BK (w.alloc (.cells #[.slice Ab bars.length cb, .slice As ss.length cs] 25)) (n0) #[.slice Ab bars.length cb, .slice As ss.length cs] 25 := BK.new' _ _ _ (n0) hn0
  have hsbx : (w.alloc (.cells #[.slice Ab bars.length cb, .slice As ss.length cs] 25)).heap.size = n0 + 1 := by simp [hn0]
  replace hC : Below n0 w (w.alloc (.cells #[.slice Ab bars.length cb, .slice As ss.length cs] 25)) := Below.alloc hC (by have := hC.size; omega) _
  replace hB := (RS.below hB (w' := (w.alloc (.cells #[.slice Ab bars.length cb, .slice As ss.length cs] 25))) (Below.alloc (Below.refl _ _) (Nat.le_refl _) _)).more (B' := (w.alloc (.cells #[.slice Ab bars.length cb, .slice As ss.length cs] 25)).heap.size) (by simp)
  replace hS := (RP.below hS (w' := (w.alloc (.cells #[.slice Ab bars.length cb, .slice As ss.length cs] 25))) (Below.alloc (Below.refl _ _) (Nat.le_refl _) _)).more (B' := (w.alloc (.cells #[.slice Ab bars.length cb, .slice As ss.length cs] 25)).heap.size) (by simp)
  generalize (w.alloc (.cells #[.slice Ab bars.length cb, .slice As ss.length cs] 25)) = Wbx at *
  have hqmx : n0 ≤ n0 + 1 := by have := hC.size; omega
  have mx : BK (Wbx.alloc (.cells #[.int .i64 mlo, .int .i64 mhi] 33)) (n0 + 1) #[.int .i64 mlo, .int .i64 mhi] 33 := BK.new' _ _ _ (n0 + 1) hsbx
  have hsmx : (Wbx.alloc (.cells #[.int .i64 mlo, .int .i64 mhi] 33)).heap.size = n0 + 1 + 1 := by simp [hsbx]
  replace hC : Below n0 w (Wbx.alloc (.cells #[.int .i64 mlo, .int .i64 mhi] 33)) := Below.alloc hC (by have := hC.size; omega) _
  replace hB := (RS.below hB (w' := (Wbx.alloc (.cells #[.int .i64 mlo, .int .i64 mhi] 33))) (Below.alloc (Below.refl _ _) (Nat.le_refl _) _)).more (B' := (Wbx.alloc (.cells #[.int .i64 mlo, .int .i64 mhi] 33)).heap.size) (by simp)
  replace hS := (RP.below hS (w' := (Wbx.alloc (.cells #[.int .i64 mlo, .int .i64 mhi] 33))) (Below.alloc (Below.refl _ _) (Nat.le_refl _) _)).more (B' := (Wbx.alloc (.cells #[.int .i64 mlo, .int .i64 mhi] 33)).heap.size) (by simp)
  replace bx := bx.alloc (.cells #[.int .i64 mlo, .int .i64 mhi] 33)
  generalize (Wbx.alloc (.cells #[.int .i64 mlo, .int .i64 mhi] 33)) = Wmx at *
  clear hsbx
  have lbx := bx.lt
  have bxc0 := bx.cell 0
  have bxc1 := bx.cell 1
  simp at bxc0 bxc1
  go_wp2_with fail
  clear lbx bxc0 bxc1
  clear hsmx
  refine (recipes_any bars ss _ _ _ HV.out hB hS).mono ?_
  rintro e w1 ⟨v, rfl, hL, hb⟩
  replace hC : Below n0 w w1 := hC.trans (hb.mono (by have := hC.size; omega))
  replace hB := (RS.below hB hb).more hb.size
  replace hS := (RP.below hS hb).more hb.size
  replace bx := bx.below hb bx.lt
  replace mx := mx.below hb mx.lt
  clear hb
  obtain ⟨A1, c1, rfl⟩ := hL.slice
  have hst := fun k => mkF_succ (bars := bars) (ss := ss) (m := ⟨mlo, mhi⟩) (k := k)
  have hall := mkF_all (bars := bars) (ss := ss) (m := ⟨mlo, mhi⟩)
  have hmem := fun r => recL_ok (bars := bars) (ss := ss) (r := r) HV.out
  have hln := fun r hr => recL_len1 (bars := bars) (ss := ss) (r := r) HV.out hr
  have hfw := recL_few HV.out (Nat.le_refl ss.length)
  have hml := fun k => mkF_len (bars := bars) (ss := ss) (m := ⟨mlo, mhi⟩) k
  have hs6 := HV.out.sfew
  rw [List.take_length] at hfw
  obtain ⟨L, hLe⟩ : ∃ L, recL bars.length ss = L := ⟨_, rfl⟩
  rw [hLe] at hL hst hall hmem hln hfw hml
  rw [hLe]
  have HST := Lib.hid hst
  have HALL := Lib.hid hall
  have HMEM := Lib.hid hmem
  have HLN := Lib.hid hln
  have HML := Lib.hid hml
  clear hst hall hmem hln hml hLe
  go_wp2_with fail
  obtain ⟨h0, hh0⟩ : ∃ h, w1.heap.size = h := ⟨_, rfl⟩
  have HH := Lib.hid hh0
  have HN1 := Lib.hid (show n0 ≤ h0 by have := hC.size; omega)
  clear hh0
  go_loopw [5, 7] (fun acc v wr => ∃ k : Nat, k ≤ L.length ∧ v = .int .i64 (k : Int) ∧ OwnRc wr h0 acc (mkF bars ss ⟨mlo, mhi⟩ k) ∧ Below h0 w1 wr) (fun _ v _ => L.length - (intOf v).toNat)
  case atStart => exact ⟨0, Nat.zero_le _, rfl, by rw [mkF_zero]; exact OwnRc.nil _ _, Below.refl _ _⟩
  case round =>
    obtain ⟨k, hk, rfl, hown, hb⟩ := hrel
    have hbr := hb
    rw [← HH.out] at hb
    have hwz : h0 ≤ wr.heap.size := by have := hb.size; have := HH.out; omega
    replace hC : Below n0 w wr := hC.trans (hb.mono (by have := hC.size; omega))
    replace hB := (RS.below hB hb).more hb.size
    replace hS := (RP.below hS hb).more hb.size
    replace bx := bx.below hb bx.lt
    replace mx := mx.below hb mx.lt
    replace hL := RC.below hL hb
    clear hb
    by_cases hlt : k < L.length
    case neg =>
      have hlt' : ¬ (k : Int) < (L.length : Int) := by omega
      obtain rfl : k = L.length := by omega
      have HR : Hid (RC wr _ (mkL bars ⟨mlo, mhi⟩ ss)) := Lib.hid (by have h := hown.rc; rw [HALL.out] at h; exact h)
      have HC := Lib.hid hC
      clear hown hbr hC hB hS bx mx hL
      go_wp2_with fail
      exact bodyPost_ret (by simp [results, Try.results72, go_sem]) rfl ⟨_, rfl, HR.out, by (try rw [hn0]); exact HC.out⟩
    have hlt' : (k : Int) < (L.length : Int) := by omega
    have OR := HMEM.out _ (mem_nthLi hlt)
    have hl1 := HLN.out _ (mem_nthLi hlt)
    have hst := HST.out k hlt
    obtain ⟨A_a, c_a, b_a, o_a, hve, hA, hc⟩ := RC.cells hL
    obtain ⟨rfl, hb_a⟩ := hA (by omega)
    injection hve with q1 q2 q3
    first | (subst q1; subst q3) | (injection q1 with q1; injection q1 with q4 q5; subst q4; subst q5; subst q3)
    obtain ⟨u_a, d_a0, d_a1, hu_a⟩ := hc k hlt
    clear hA hc q2
    obtain ⟨A_u, c_u, rfl⟩ := own_slice hu_a
    obtain ⟨r, hr⟩ : ∃ r, nthLi L k = r := ⟨_, rfl⟩
    rw [hr] at OR hl1 d_a0 d_a1 hu_a hst
    have HRE := Lib.hid hr
    obtain ⟨bb, t, rfl⟩ : ∃ bb t, r = bb :: t := by
      cases r with
      | nil => simp at hl1
      | cons b t => exact ⟨b, t, rfl⟩
    have d_b0 : wr.cell? ⟨b_a, o_a + k * 2, none⟩ = some (.int .i64 bb) := d_a0
    have d_b1 : wr.cell? ⟨b_a, o_a + k * 2 + 1, none⟩ = some (.slice A_u t.length c_u) := d_a1
    have hut : OwnI 3 wr 0 (.slice A_u t.length c_u) t := hu_a
    have hor : OkRec bars ss bb t := OR
    rw [List.length_cons] at hl1
    have HOR := Lib.hid hor
    have HT := Lib.hid (show t.length ≤ 1000 by omega)
    have HBR := Lib.hid hbr
    have HSTP := Lib.hid hst
    clear hr d_a0 d_a1 hu_a OR hor hl1 hbr hst
    have lbx := bx.lt
    have bxc0 := bx.cell 0
    have bxc1 := bx.cell 1
    simp at bxc0 bxc1
    have lmx := mx.lt
    have mxc0 := mx.cell 0
    have mxc1 := mx.cell 1
    simp at mxc0 mxc1
    go_upto_region 6 with fail
    refine wp_region_noPanic (plain_any [0, 1, 2, 3, 4, 5] (Below wr.heap.size wr) mixed ?_)
    refine any_tk 0 ?_
    have d0z : Below wr.heap.size wr wr.drew := by exact bel_of
    refine any_tk 1 ?_
    refine any_tk 2 ?_
    refine any_tk 3 ?_
    refine any_tk 4 ?_
    refine any_tk 5 ?_
    have qz1 := d0z.size
    refine any_run1 (i := 6) (by kernel_rfl) (by rfl) (by kernel_rfl) ?_
    intro K hK
    go_wp2_with fail
    refine (made_any bars ss bb t ⟨mlo, mhi⟩ _ _ _ _ HF.out HT.out ((RS.below hB d0z).more d0z.size) ((RP.below hS d0z).more d0z.size) (RS.more (RS.below (OwnI.ri hut) d0z) d0z.size) HOR.out).mono ?_
    rintro e vz1 ⟨rfl, hb⟩
    rw [show meets (endR (nthB bars bb.toNat) (pick ss (nats t))) ⟨mlo, mhi⟩ = madI bars ss ⟨mlo, mhi⟩ (bb :: t) from rfl]
    obtain ⟨q, hq⟩ : ∃ q, madI bars ss ⟨mlo, mhi⟩ (bb :: t) = q := ⟨_, rfl⟩
    rw [hq]
    have HQ := Lib.hid hq
    clear hq
    have ez1 : Below wr.heap.size wr vz1 := d0z.trans (hb.mono d0z.size)
    clear hb
    refine hK _ _ (fun _ => ez1) ?_
    clear hK K
    refine any_done (by kernel_rfl) (NoPanic.normal ?_)
    have hb := ez1
    replace hC : Below n0 w vz1 := hC.trans (hb.mono (by have := hC.size; omega))
    replace hB := (RS.below hB hb).more hb.size
    replace hS := (RP.below hS hb).more hb.size
    replace bx := bx.below hb bx.lt
    replace mx := mx.below hb mx.lt
    replace hL := RC.below hL hb
    replace hown := OwnRc.below hown hb
    replace hut := own_below hut hb
    clear hb
    clear lbx bxc0 bxc1
    clear lmx mxc0 mxc1
    have HBV : Hid (Below h0 w1 vz1) := Lib.hid (HBR.out.trans (ez1.mono hwz))
    have hwv : h0 ≤ vz1.heap.size := by have := HBV.out.size; have := HH.out; omega
    clear d_b0 d_b1 hb_a
    cases q
    case false =>
      have HO : Hid (OwnRc vz1 h0 _ (mkF bars ss ⟨mlo, mhi⟩ (k + 1))) := Lib.hid (by rw [HSTP.out, if_neg (by rw [HQ.out]; decide)]; exact hown)
      clear hown hL hB hS bx mx hut
      go_wp2_with fail
      go_roundw
      case rel => exact ⟨k + 1, by omega, by go_num, HO.out, HBV.out⟩
      case measure => simp [intOf]; omega
    obtain ⟨A_c, c_c, b_c, o_c, hve, hA, hc⟩ := RC.cells hL
    obtain ⟨rfl, hb_c⟩ := hA (by omega)
    injection hve with q1 q2 q3
    first | (subst q1; subst q3) | (injection q1 with q1; injection q1 with q4 q5; subst q4; subst q5; subst q3)
    obtain ⟨u_c, d_c0, d_c1, hu_c⟩ := hc k hlt
    clear hA hc q2
    rw [HRE.out] at d_c0 hu_c
    obtain ⟨A_v, c_v, rfl⟩ := own_slice hu_c
    have d_b0 : vz1.cell? _ = some (.int .i64 bb) := d_c0
    have d_b1 : vz1.cell? _ = some (.slice A_v t.length c_v) := d_c1
    obtain ⟨B5, hB5⟩ : ∃ B, vz1.heap.size = B := ⟨_, rfl⟩
    obtain ⟨v', w8, hrun, hown', hb', hs'⟩ := app_rc (r := bb :: t) hown hu_c (by have := HML.out k; omega) hwv HBV.out B5 hB5
    rw [show nthI (bb :: t) 0 = bb from rfl, show (bb :: t).tail = t from rfl] at hrun
    have HO : Hid (OwnRc w8 h0 v' (mkF bars ss ⟨mlo, mhi⟩ (k + 1))) := Lib.hid (by rw [HSTP.out, if_pos HQ.out]; exact hown')
    have HB8 := Lib.hid hb'
    have HRUN := Lib.hid hrun
    clear hrun hown' hb' hs' hown hL hB hS bx mx hut d_c0 d_c1
    go_wp2_with (at_builtin; refine wpList_append_run rfl (.tmp 23) (.tmp 28) 77 _ rfl HRUN.out ?_)
    go_roundw
    case rel => exact ⟨k + 1, by omega, by go_num, HO.out, HB8.out⟩
    case measure => simp [intOf]; omega
end Go.Proofs.Ytkibdciomheekaa

set_option linter.all false
namespace Go.Proofs.Ytkibdciomheekaa
open Go.RowKit Hp

theorem meas_two {bars : List Rg} {ss : List Stp} {m : Rg} (h : measE bars ss m = 0) : OkV bars ss ∧ OkR m := by
  unfold measE at h
  split at h
  · rename_i q; exact absurd h q
  · rename_i q
    split at h
    · rename_i q2
      exact ⟨okV_of (Decidable.not_not.1 q), hard_iff.1 q2⟩
    · cases h
theorem mk_nil {bars : List Rg} {ss : List Stp} {m : Rg} (h : (mkL bars m ss).length = 0) : makers bars ss m = [] := by
  rw [mkL_len] at h
  exact List.length_eq_zero_iff.1 h

set_option maxHeartbeats 8000000 in
set_option maxRecDepth 100000 in
theorem barsR_any (bars : List Rg) (ss : List Stp) (m : Rg) (vb vs : Value) (w : World) (hf : Fit bars ss) (hB : RR w w.heap.size vb bars) (hS : RP w w.heap.size vs ss) :
    Calls Try.prog 34 #[.agg #[vb, vs], rV m] w (BarsPost bars ss m w) := by
  have HF := Lib.hid hf
  clear hf
  obtain ⟨Ab, cb, rfl⟩ := hB.slice
  obtain ⟨As, cs, rfl⟩ := hS.slice
  obtain ⟨mlo, mhi⟩ := m
  unfold rV
  obtain ⟨n0, hn0⟩ : ∃ n, w.heap.size = n := ⟨_, rfl⟩
  have hC : Below n0 w w := Below.refl _ _
  go_enter Try.func34, Try.ntmps34
  go_upto_region 1 with fail
  have hqbx : n0 ≤ n0 := by have := hC.size; omega
  have bx : BK (w.alloc (.cells #[.slice Ab bars.length cb, .slice As ss.length cs] 25)) (n0) #[.slice Ab bars.length cb, .slice As ss.length cs] 25 := BK.new' _ _ _ (n0) hn0
  have hsbx : (w.alloc (.cells #[.slice Ab bars.length cb, .slice As ss.length cs] 25)).heap.size = n0 + 1 := by simp [hn0]
  replace hC : Below n0 w (w.alloc (.cells #[.slice Ab bars.length cb, .slice As ss.length cs] 25)) := Below.alloc hC (by have := hC.size; omega) _
  replace hB := (RS.below hB (w' := (w.alloc (.cells #[.slice Ab bars.length cb, .slice As ss.length cs] 25))) (Below.alloc (Below.refl _ _) (Nat.le_refl _) _)).more (B' := (w.alloc (.cells #[.slice Ab bars.length cb, .slice As ss.length cs] 25)).heap.size) (by simp)
  replace hS := (RP.below hS (w' := (w.alloc (.cells #[.slice Ab bars.length cb, .slice As ss.length cs] 25))) (Below.alloc (Below.refl _ _) (Nat.le_refl _) _)).more (B' := (w.alloc (.cells #[.slice Ab bars.length cb, .slice As ss.length cs] 25)).heap.size) (by simp)
  generalize (w.alloc (.cells #[.slice Ab bars.length cb, .slice As ss.length cs] 25)) = Wbx at *
  have hqmx : n0 ≤ n0 + 1 := by have := hC.size; omega
  have mx : BK (Wbx.alloc (.cells #[.int .i64 mlo, .int .i64 mhi] 33)) (n0 + 1) #[.int .i64 mlo, .int .i64 mhi] 33 := BK.new' _ _ _ (n0 + 1) hsbx
  have hsmx : (Wbx.alloc (.cells #[.int .i64 mlo, .int .i64 mhi] 33)).heap.size = n0 + 1 + 1 := by simp [hsbx]
  replace hC : Below n0 w (Wbx.alloc (.cells #[.int .i64 mlo, .int .i64 mhi] 33)) := Below.alloc hC (by have := hC.size; omega) _
  replace hB := (RS.below hB (w' := (Wbx.alloc (.cells #[.int .i64 mlo, .int .i64 mhi] 33))) (Below.alloc (Below.refl _ _) (Nat.le_refl _) _)).more (B' := (Wbx.alloc (.cells #[.int .i64 mlo, .int .i64 mhi] 33)).heap.size) (by simp)
  replace hS := (RP.below hS (w' := (Wbx.alloc (.cells #[.int .i64 mlo, .int .i64 mhi] 33))) (Below.alloc (Below.refl _ _) (Nat.le_refl _) _)).more (B' := (Wbx.alloc (.cells #[.int .i64 mlo, .int .i64 mhi] 33)).heap.size) (by simp)
  replace bx := bx.alloc (.cells #[.int .i64 mlo, .int .i64 mhi] 33)
  generalize (Wbx.alloc (.cells #[.int .i64 mlo, .int .i64 mhi] 33)) = Wmx at *
  clear hsbx
  have lbx := bx.lt
  have bxc0 := bx.cell 0
  have bxc1 := bx.cell 1
  simp at bxc0 bxc1
  have lmx := mx.lt
  have mxc0 := mx.cell 0
  have mxc1 := mx.cell 1
  simp at mxc0 mxc1
  go_wp2_with fail
  clear lbx bxc0 bxc1
  clear lmx mxc0 mxc1
  clear hsmx
  refine (isMeasured_any bars ss ⟨mlo, mhi⟩ _ _ _ HF.out hB hS).mono ?_
  rintro e w1 ⟨rfl, hb⟩
  replace hC : Below n0 w w1 := hC.trans (hb.mono (by have := hC.size; omega))
  replace hB := (RS.below hB hb).more hb.size
  replace hS := (RP.below hS hb).more hb.size
  replace bx := bx.below hb bx.lt
  replace mx := mx.below hb mx.lt
  clear hb
  obtain ⟨e, he⟩ : ∃ e, measE bars ss ⟨mlo, mhi⟩ = e := ⟨_, rfl⟩
  rw [he]
  by_cases e0 : e = 0
  case neg =>
    have b1 : (e != 0) = true := by simp [e0]
    have HE := Lib.hid he
    have E0 := Lib.hid e0
    clear he e0
    have lbx := bx.lt
    have bxc0 := bx.cell 0
    have bxc1 := bx.cell 1
    simp at bxc0 bxc1
    have lmx := mx.lt
    have mxc0 := mx.cell 0
    have mxc1 := mx.cell 1
    simp at mxc0 mxc1
    go_wp2_with fail
    clear lbx bxc0 bxc1
    clear lmx mxc0 mxc1
    refine (isMeasured_any bars ss ⟨mlo, mhi⟩ _ _ _ HF.out hB hS).mono ?_
    rintro e w2 ⟨rfl, hb⟩
    replace hC : Below n0 w w2 := hC.trans (hb.mono (by have := hC.size; omega))
    replace hB := (RS.below hB hb).more hb.size
    replace hS := (RP.below hS hb).more hb.size
    replace bx := bx.below hb bx.lt
    replace mx := mx.below hb mx.lt
    clear hb
    rw [HE.out]
    go_wp2_with fail
    go_ret2
    exact (BarsPost.no HE.out E0.out (by (try rw [hn0]); exact hC))
  subst e0
  obtain ⟨hV, hm⟩ := meas_two he
  have HV := Lib.hid hV
  have HM := Lib.hid hm
  have HE := Lib.hid he
  clear hV hm he
  have lbx := bx.lt
  have bxc0 := bx.cell 0
  have bxc1 := bx.cell 1
  simp at bxc0 bxc1
  have lmx := mx.lt
  have mxc0 := mx.cell 0
  have mxc1 := mx.cell 1
  simp at mxc0 mxc1
  go_wp2_with fail
  clear lbx bxc0 bxc1
  clear lmx mxc0 mxc1
  refine (makersR_any bars ss ⟨mlo, mhi⟩ _ _ _ HF.out HV.out hB hS).mono ?_
  rintro e w2 ⟨v, rfl, hL, hb⟩
  replace hC : Below n0 w w2 := hC.trans (hb.mono (by have := hC.size; omega))
  replace hB := (RS.below hB hb).more hb.size
  replace hS := (RP.below hS hb).more hb.size
  replace bx := bx.below hb bx.lt
  replace mx := mx.below hb mx.lt
  clear hb
  obtain ⟨A1, c1, rfl⟩ := hL.slice
  have hfw := mkL_few HV.out ⟨mlo, mhi⟩
  have hs6 := HV.out.sfew
  obtain ⟨n1, hn1⟩ : ∃ n, (mkL bars ⟨mlo, mhi⟩ ss).length = n := ⟨_, rfl⟩
  rw [hn1]
  rw [hn1] at hL hfw
  have HN1 := Lib.hid hn1
  clear hn1
  by_cases a1 : n1 = 0
  case pos =>
    have hS0 : Hid (someV bars ⟨mlo, mhi⟩ ss (-1) = []) := Lib.hid ((someV_none HV.out HM.out).2 (mk_nil (HN1.out.trans a1)))
    have b1 : ((n1 : Int) == 0) = true := by simp [a1]
    clear a1
    go_wp2_with fail
    go_ret2
    exact (BarsPost.soft HE.out hS0.out (by (try rw [hn0]); exact hC))
  have HSN : Hid (someV bars ⟨mlo, mhi⟩ ss (-1) ≠ []) := Lib.hid (fun q => a1 (HN1.out.symm.trans (by rw [mkL_len, (someV_none HV.out HM.out).1 q]; rfl)))
  have b1 : ((n1 : Int) == 0) = false := by simpa using a1
  clear a1
  have lbx := bx.lt
  have bxc0 := bx.cell 0
  have bxc1 := bx.cell 1
  simp at bxc0 bxc1
  go_wp2_with fail
  clear lbx bxc0 bxc1
  rw [← HN1.out] at hL hfw
  rw [← HN1.out]
  refine (counts_any (mkL bars ⟨mlo, mhi⟩ ss) (-1) _ _ _ _ _ _ _ _ hL (by omega) (mk_fit_b HV.out) hfw).mono ?_
  rintro e w3 ⟨v, rfl, ho, hb⟩
  replace hC : Below n0 w w3 := hC.trans (hb.mono (by have := hC.size; omega))
  replace hB := (RS.below hB hb).more hb.size
  replace hS := (RP.below hS hb).more hb.size
  replace bx := bx.below hb bx.lt
  replace mx := mx.below hb mx.lt
  replace hL := RC.below hL hb
  clear hb
  obtain ⟨A5, c5, rfl⟩ := own_slice ho
  have hr5 := OwnI.ri ho
  clear ho
  go_wp2_with fail
  refine (someR_any _ _ _ (by rw [cntL_len]; omega) hr5).mono ?_
  rintro e w4 ⟨v, rfl, ho, hb⟩
  replace hC : Below n0 w w4 := hC.trans (hb.mono (by have := hC.size; omega))
  replace hB := (RS.below hB hb).more hb.size
  replace hS := (RP.below hS hb).more hb.size
  replace bx := bx.below hb bx.lt
  replace mx := mx.below hb mx.lt
  replace hL := RC.below hL hb
  replace hr5 := (RS.below hr5 hb).more hb.size
  clear hb
  rw [cntL_len, cnt_bars HV.out HM.out] at ho
  have HO := Lib.hid (OwnI.ri ho)
  clear ho
  go_wp2_with fail
  go_ret2
  exact (BarsPost.yes HE.out HSN.out HO.out (by (try rw [hn0]); exact hC))

set_option maxHeartbeats 8000000 in
set_option maxRecDepth 100000 in
theorem countR_any (bars : List Rg) (ss : List Stp) (m : Rg) (vb vs : Value) (w : World) (hf : Fit bars ss) (hB : RR w w.heap.size vb bars) (hS : RP w w.heap.size vs ss) :
    Calls Try.prog 38 #[.agg #[vb, vs], rV m] w (CountPost bars ss m w) := by
  have HF := Lib.hid hf
  clear hf
  obtain ⟨Ab, cb, rfl⟩ := hB.slice
  obtain ⟨As, cs, rfl⟩ := hS.slice
  obtain ⟨mlo, mhi⟩ := m
  unfold rV
  obtain ⟨n0, hn0⟩ : ∃ n, w.heap.size = n := ⟨_, rfl⟩
  have hC : Below n0 w w := Below.refl _ _
  go_enter Try.func38, Try.ntmps38
  go_upto_region 1 with fail
  have hqbx : n0 ≤ n0 := by have := hC.size; omega
  have bx : BK (w.alloc (.cells #[.slice Ab bars.length cb, .slice As ss.length cs] 25)) (n0) #[.slice Ab bars.length cb, .slice As ss.length cs] 25 := BK.new' _ _ _ (n0) hn0
  have hsbx : (w.alloc (.cells #[.slice Ab bars.length cb, .slice As ss.length cs] 25)).heap.size = n0 + 1 := by simp [hn0]
  replace hC : Below n0 w (w.alloc (.cells #[.slice Ab bars.length cb, .slice As ss.length cs] 25)) := Below.alloc hC (by have := hC.size; omega) _
  replace hB := (RS.below hB (w' := (w.alloc (.cells #[.slice Ab bars.length cb, .slice As ss.length cs] 25))) (Below.alloc (Below.refl _ _) (Nat.le_refl _) _)).more (B' := (w.alloc (.cells #[.slice Ab bars.length cb, .slice As ss.length cs] 25)).heap.size) (by simp)
  replace hS := (RP.below hS (w' := (w.alloc (.cells #[.slice Ab bars.length cb, .slice As ss.length cs] 25))) (Below.alloc (Below.refl _ _) (Nat.le_refl _) _)).more (B' := (w.alloc (.cells #[.slice Ab bars.length cb, .slice As ss.length cs] 25)).heap.size) (by simp)
  generalize (w.alloc (.cells #[.slice Ab bars.length cb, .slice As ss.length cs] 25)) = Wbx at *
  have hqmx : n0 ≤ n0 + 1 := by have := hC.size; omega
  have mx : BK (Wbx.alloc (.cells #[.int .i64 mlo, .int .i64 mhi] 33)) (n0 + 1) #[.int .i64 mlo, .int .i64 mhi] 33 := BK.new' _ _ _ (n0 + 1) hsbx
  have hsmx : (Wbx.alloc (.cells #[.int .i64 mlo, .int .i64 mhi] 33)).heap.size = n0 + 1 + 1 := by simp [hsbx]
  replace hC : Below n0 w (Wbx.alloc (.cells #[.int .i64 mlo, .int .i64 mhi] 33)) := Below.alloc hC (by have := hC.size; omega) _
  replace hB := (RS.below hB (w' := (Wbx.alloc (.cells #[.int .i64 mlo, .int .i64 mhi] 33))) (Below.alloc (Below.refl _ _) (Nat.le_refl _) _)).more (B' := (Wbx.alloc (.cells #[.int .i64 mlo, .int .i64 mhi] 33)).heap.size) (by simp)
  replace hS := (RP.below hS (w' := (Wbx.alloc (.cells #[.int .i64 mlo, .int .i64 mhi] 33))) (Below.alloc (Below.refl _ _) (Nat.le_refl _) _)).more (B' := (Wbx.alloc (.cells #[.int .i64 mlo, .int .i64 mhi] 33)).heap.size) (by simp)
  replace bx := bx.alloc (.cells #[.int .i64 mlo, .int .i64 mhi] 33)
  generalize (Wbx.alloc (.cells #[.int .i64 mlo, .int .i64 mhi] 33)) = Wmx at *
  clear hsbx
  have lbx := bx.lt
  have bxc0 := bx.cell 0
  have bxc1 := bx.cell 1
  simp at bxc0 bxc1
  have lmx := mx.lt
  have mxc0 := mx.cell 0
  have mxc1 := mx.cell 1
  simp at mxc0 mxc1
  go_wp2_with fail
  clear lbx bxc0 bxc1
  clear lmx mxc0 mxc1
  clear hsmx
  refine (isMeasured_any bars ss ⟨mlo, mhi⟩ _ _ _ HF.out hB hS).mono ?_
  rintro e w1 ⟨rfl, hb⟩
  replace hC : Below n0 w w1 := hC.trans (hb.mono (by have := hC.size; omega))
  replace hB := (RS.below hB hb).more hb.size
  replace hS := (RP.below hS hb).more hb.size
  replace bx := bx.below hb bx.lt
  replace mx := mx.below hb mx.lt
  clear hb
  obtain ⟨e, he⟩ : ∃ e, measE bars ss ⟨mlo, mhi⟩ = e := ⟨_, rfl⟩
  rw [he]
  by_cases e0 : e = 0
  case neg =>
    have b1 : (e != 0) = true := by simp [e0]
    have HE := Lib.hid he
    have E0 := Lib.hid e0
    clear he e0
    have lbx := bx.lt
    have bxc0 := bx.cell 0
    have bxc1 := bx.cell 1
    simp at bxc0 bxc1
    have lmx := mx.lt
    have mxc0 := mx.cell 0
    have mxc1 := mx.cell 1
    simp at mxc0 mxc1
    go_wp2_with fail
    clear lbx bxc0 bxc1
    clear lmx mxc0 mxc1
    refine (isMeasured_any bars ss ⟨mlo, mhi⟩ _ _ _ HF.out hB hS).mono ?_
    rintro e w2 ⟨rfl, hb⟩
    replace hC : Below n0 w w2 := hC.trans (hb.mono (by have := hC.size; omega))
    replace hB := (RS.below hB hb).more hb.size
    replace hS := (RP.below hS hb).more hb.size
    replace bx := bx.below hb bx.lt
    replace mx := mx.below hb mx.lt
    clear hb
    rw [HE.out]
    go_wp2_with fail
    go_ret2
    exact (CountPost.no HE.out E0.out (by (try rw [hn0]); exact hC))
  subst e0
  obtain ⟨hV, hm⟩ := meas_two he
  have HV := Lib.hid hV
  have HM := Lib.hid hm
  have HE := Lib.hid he
  clear hV hm he
  have lbx := bx.lt
  have bxc0 := bx.cell 0
  have bxc1 := bx.cell 1
  simp at bxc0 bxc1
  have lmx := mx.lt
  have mxc0 := mx.cell 0
  have mxc1 := mx.cell 1
  simp at mxc0 mxc1
  go_wp2_with fail
  clear lbx bxc0 bxc1
  clear lmx mxc0 mxc1
  refine (makersR_any bars ss ⟨mlo, mhi⟩ _ _ _ HF.out HV.out hB hS).mono ?_
  rintro e w2 ⟨v, rfl, hL, hb⟩
  replace hC : Below n0 w w2 := hC.trans (hb.mono (by have := hC.size; omega))
  replace hB := (RS.below hB hb).more hb.size
  replace hS := (RP.below hS hb).more hb.size
  replace bx := bx.below hb bx.lt
  replace mx := mx.below hb mx.lt
  clear hb
  obtain ⟨A1, c1, rfl⟩ := hL.slice
  have hfw := mkL_few HV.out ⟨mlo, mhi⟩
  have hs6 := HV.out.sfew
  go_wp2_with fail
  go_ret2
  exact (CountPost.yes HE.out (by (try rw [hn0]); exact hC))
end Go.Proofs.Ytkibdciomheekaa

set_option linter.all false
namespace Go.Proofs.Ytkibdciomheekaa
open Go.RowKit Hp

set_option maxHeartbeats 8000000 in
set_option maxRecDepth 100000 in
theorem waysR_any (bars : List Rg) (ss : List Stp) (m : Rg) (vb vs : Value) (w : World) (hf : Fit bars ss) (hB : RR w w.heap.size vb bars) (hS : RP w w.heap.size vs ss) :
    Calls Try.prog 36 #[.agg #[vb, vs], rV m] w (WaysPost bars ss m w) := by
  have HF := Lib.hid hf
  clear hf
  obtain ⟨Ab, cb, rfl⟩ := hB.slice
  obtain ⟨As, cs, rfl⟩ := hS.slice
  obtain ⟨mlo, mhi⟩ := m
  unfold rV
  obtain ⟨n0, hn0⟩ : ∃ n, w.heap.size = n := ⟨_, rfl⟩
  have hC : Below n0 w w := Below.refl _ _
  go_enter Try.func36, Try.ntmps36
  go_upto_region 1 with fail
  have hqbx : n0 ≤ n0 := by have := hC.size; omega
  have bx : BK (w.alloc (.cells #[.slice Ab bars.length cb, .slice As ss.length cs] 25)) (n0) #[.slice Ab bars.length cb, .slice As ss.length cs] 25 := BK.new' _ _ _ (n0) hn0
  have hsbx : (w.alloc (.cells #[.slice Ab bars.length cb, .slice As ss.length cs] 25)).heap.size = n0 + 1 := by simp [hn0]
  replace hC : Below n0 w (w.alloc (.cells #[.slice Ab bars.length cb, .slice As ss.length cs] 25)) := Below.alloc hC (by have := hC.size; omega) _
  replace hB := (RS.below hB (w' := (w.alloc (.cells #[.slice Ab bars.length cb, .slice As ss.length cs] 25))) (Below.alloc (Below.refl _ _) (Nat.le_refl _) _)).more (B' := (w.alloc (.cells #[.slice Ab bars.length cb, .slice As ss.length cs] 25)).heap.size) (by simp)
  replace hS := (RP.below hS (w' := (w.alloc (.cells #[.slice Ab bars.length cb, .slice As ss.length cs] 25))) (Below.alloc (Below.refl _ _) (Nat.le_refl _) _)).more (B' := (w.alloc (.cells #[.slice Ab bars.length cb, .slice As ss.length cs] 25)).heap.size) (by simp)
  generalize (w.alloc (.cells #[.slice Ab bars.length cb, .slice As ss.length cs] 25)) = Wbx at *
  have hqmx : n0 ≤ n0 + 1 := by have := hC.size; omega
  have mx : BK (Wbx.alloc (.cells #[.int .i64 mlo, .int .i64 mhi] 33)) (n0 + 1) #[.int .i64 mlo, .int .i64 mhi] 33 := BK.new' _ _ _ (n0 + 1) hsbx
  have hsmx : (Wbx.alloc (.cells #[.int .i64 mlo, .int .i64 mhi] 33)).heap.size = n0 + 1 + 1 := by simp [hsbx]
  replace hC : Below n0 w (Wbx.alloc (.cells #[.int .i64 mlo, .int .i64 mhi] 33)) := Below.alloc hC (by have := hC.size; omega) _
  replace hB := (RS.below hB (w' := (Wbx.alloc (.cells #[.int .i64 mlo, .int .i64 mhi] 33))) (Below.alloc (Below.refl _ _) (Nat.le_refl _) _)).more (B' := (Wbx.alloc (.cells #[.int .i64 mlo, .int .i64 mhi] 33)).heap.size) (by simp)
  replace hS := (RP.below hS (w' := (Wbx.alloc (.cells #[.int .i64 mlo, .int .i64 mhi] 33))) (Below.alloc (Below.refl _ _) (Nat.le_refl _) _)).more (B' := (Wbx.alloc (.cells #[.int .i64 mlo, .int .i64 mhi] 33)).heap.size) (by simp)
  replace bx := bx.alloc (.cells #[.int .i64 mlo, .int .i64 mhi] 33)
  generalize (Wbx.alloc (.cells #[.int .i64 mlo, .int .i64 mhi] 33)) = Wmx at *
  clear hsbx
  have lbx := bx.lt
  have bxc0 := bx.cell 0
  have bxc1 := bx.cell 1
  simp at bxc0 bxc1
  have lmx := mx.lt
  have mxc0 := mx.cell 0
  have mxc1 := mx.cell 1
  simp at mxc0 mxc1
  go_wp2_with fail
  clear lbx bxc0 bxc1
  clear lmx mxc0 mxc1
  clear hsmx
  refine (isMeasured_any bars ss ⟨mlo, mhi⟩ _ _ _ HF.out hB hS).mono ?_
  rintro e w1 ⟨rfl, hb⟩
  replace hC : Below n0 w w1 := hC.trans (hb.mono (by have := hC.size; omega))
  replace hB := (RS.below hB hb).more hb.size
  replace hS := (RP.below hS hb).more hb.size
  replace bx := bx.below hb bx.lt
  replace mx := mx.below hb mx.lt
  clear hb
  obtain ⟨e, he⟩ : ∃ e, measE bars ss ⟨mlo, mhi⟩ = e := ⟨_, rfl⟩
  rw [he]
  by_cases e0 : e = 0
  case neg =>
    have b1 : (e != 0) = true := by simp [e0]
    have HE := Lib.hid he
    have E0 := Lib.hid e0
    clear he e0
    have lbx := bx.lt
    have bxc0 := bx.cell 0
    have bxc1 := bx.cell 1
    simp at bxc0 bxc1
    have lmx := mx.lt
    have mxc0 := mx.cell 0
    have mxc1 := mx.cell 1
    simp at mxc0 mxc1
    go_wp2_with fail
    clear lbx bxc0 bxc1
    clear lmx mxc0 mxc1
    refine (isMeasured_any bars ss ⟨mlo, mhi⟩ _ _ _ HF.out hB hS).mono ?_
    rintro e w2 ⟨rfl, hb⟩
    replace hC : Below n0 w w2 := hC.trans (hb.mono (by have := hC.size; omega))
    replace hB := (RS.below hB hb).more hb.size
    replace hS := (RP.below hS hb).more hb.size
    replace bx := bx.below hb bx.lt
    replace mx := mx.below hb mx.lt
    clear hb
    rw [HE.out]
    go_wp2_with fail
    go_ret2
    exact (WaysPost.no HE.out E0.out (by (try rw [hn0]); exact hC))
  subst e0
  obtain ⟨hV, hm⟩ := meas_two he
  have HV := Lib.hid hV
  have HM := Lib.hid hm
  have HE := Lib.hid he
  clear hV hm he
  have lbx := bx.lt
  have bxc0 := bx.cell 0
  have bxc1 := bx.cell 1
  simp at bxc0 bxc1
  have lmx := mx.lt
  have mxc0 := mx.cell 0
  have mxc1 := mx.cell 1
  simp at mxc0 mxc1
  go_wp2_with fail
  clear lbx bxc0 bxc1
  clear lmx mxc0 mxc1
  refine (makersR_any bars ss ⟨mlo, mhi⟩ _ _ _ HF.out HV.out hB hS).mono ?_
  rintro e w2 ⟨v, rfl, hL, hb⟩
  replace hC : Below n0 w w2 := hC.trans (hb.mono (by have := hC.size; omega))
  replace hB := (RS.below hB hb).more hb.size
  replace hS := (RP.below hS hb).more hb.size
  replace bx := bx.below hb bx.lt
  replace mx := mx.below hb mx.lt
  clear hb
  obtain ⟨A1, c1, rfl⟩ := hL.slice
  have hfw := mkL_few HV.out ⟨mlo, mhi⟩
  have hs6 := HV.out.sfew
  obtain ⟨n1, hn1⟩ : ∃ n, (mkL bars ⟨mlo, mhi⟩ ss).length = n := ⟨_, rfl⟩
  rw [hn1]
  rw [hn1] at hL hfw
  have HN1 := Lib.hid hn1
  clear hn1
  by_cases a1 : n1 = 0
  case pos =>
    have hS0 : Hid (someV bars ⟨mlo, mhi⟩ ss (-1) = []) := Lib.hid ((someV_none HV.out HM.out).2 (mk_nil (HN1.out.trans a1)))
    have b1 : ((n1 : Int) == 0) = true := by simp [a1]
    clear a1
    go_wp2_with fail
    go_ret2
    exact (WaysPost.soft HE.out hS0.out (by (try rw [hn0]); exact hC))
  have HSN : Hid (someV bars ⟨mlo, mhi⟩ ss (-1) ≠ []) := Lib.hid (fun q => a1 (HN1.out.symm.trans (by rw [mkL_len, (someV_none HV.out HM.out).1 q]; rfl)))
  have b1 : ((n1 : Int) == 0) = false := by simpa using a1
  clear a1
  have lbx := bx.lt
  have bxc0 := bx.cell 0
  have bxc1 := bx.cell 1
  simp at bxc0 bxc1
  go_wp2_with fail
  clear lbx bxc0 bxc1
  rw [← HN1.out] at hL hfw
  rw [← HN1.out]
  obtain ⟨h0, hh0⟩ : ∃ h, w2.heap.size = h := ⟨_, rfl⟩
  have HH := Lib.hid hh0
  have HN2 := Lib.hid (show n0 ≤ h0 by have := hC.size; omega)
  clear hh0
  go_loopw [7, 8] (fun acc v wr => ∃ k : Nat, k ≤ ss.length ∧ v = .int .i64 (k : Int) ∧ OwnLi wr h0 acc (wysL bars ⟨mlo, mhi⟩ ss k) ∧ Below h0 w2 wr) (fun _ v _ => ss.length - (intOf v).toNat)
  case atStart => exact ⟨0, Nat.zero_le _, rfl, OwnLi.nil _ _, Below.refl _ _⟩
  case round =>
    obtain ⟨k, hk, rfl, hown, hb⟩ := hrel
    rw [← HH.out] at hb
    have hbr := hb
    replace hC : Below n0 w wr := hC.trans (hb.mono (by have := hC.size; omega))
    replace hB := (RS.below hB hb).more hb.size
    replace hS := (RP.below hS hb).more hb.size
    replace bx := bx.below hb bx.lt
    replace hL := RC.below hL hb
    clear hb
    have lbx := bx.lt
    have bxc0 := bx.cell 0
    have bxc1 := bx.cell 1
    simp at bxc0 bxc1
    by_cases hlt : k < ss.length
    case neg =>
      have hlt' : ¬ (k : Int) < (ss.length : Int) := by omega
      obtain rfl : k = ss.length := by omega
      have HO := Lib.hid hown.rli
      have HC := Lib.hid hC
      obtain ⟨Av, cv, rfl⟩ := hown.slice
      rw [wysL_len]
      have HO2 : Hid (RLi wr wr.heap.size (.slice Av ss.length cv) (wysL bars ⟨mlo, mhi⟩ ss ss.length)) := Lib.hid (by have h := HO.out; rw [wysL_len] at h; exact h)
      clear hown hC HO hL bx hB hS hbr
      go_wp2_with fail
      go_ret2
      exact WaysPost.yes HE.out HSN.out HO2.out (by (try rw [hn0]); exact HC.out)
    have hlt' : (k : Int) < (ss.length : Int) := by omega
    go_wp2_with fail
    clear lbx bxc0 bxc1
    refine (counts_any (mkL bars ⟨mlo, mhi⟩ ss) (k : Int) _ _ _ _ _ _ _ _ hL (by omega) (mk_fit_w HV.out hlt) hfw).mono ?_
    rintro e w3 ⟨v, rfl, ho, hb⟩
    replace hC : Below n0 w w3 := hC.trans (hb.mono (by have := hC.size; omega))
    replace hB := (RS.below hB hb).more hb.size
    replace hS := (RP.below hS hb).more hb.size
    replace bx := bx.below hb bx.lt
    replace hL := RC.below hL hb
    replace hown := OwnLi.below hown hb
    replace hbr := hbr.trans (hb.mono hbr.size)
    clear hb
    obtain ⟨A5, c5, rfl⟩ := own_slice ho
    have hr5 := OwnI.ri ho
    have HBS := Lib.hid (show h0 ≤ w3.heap.size by have := hbr.size; have := HH.out; omega)
    clear ho
    go_wp2_with fail
    refine (someR_any _ _ _ (by rw [cntL_len]; omega) hr5).mono ?_
    rintro e w4 ⟨v6, rfl, ho, hb⟩
    replace hC : Below n0 w w4 := hC.trans (hb.mono (by have := hC.size; omega))
    replace hB := (RS.below hB hb).more hb.size
    replace hS := (RP.below hS hb).more hb.size
    replace bx := bx.below hb bx.lt
    replace hL := RC.below hL hb
    replace hown := OwnLi.below hown hb
    replace hbr := hbr.trans (hb.mono hbr.size)
    replace hr5 := (RS.below hr5 hb).more hb.size
    clear hb
    rw [cntL_len, cnt_ways HV.out HM.out hlt] at ho
    have hwz : h0 ≤ w4.heap.size := by have := hbr.size; have := HH.out; omega
    rw [HH.out] at hbr
    have ho2 : OwnI 3 w4 h0 v6 (someV bars ⟨mlo, mhi⟩ ss (k : Int)) := own_more ho (by have := HBS.out; omega)
    have hws := wysL_succ bars ⟨mlo, mhi⟩ ss k
    obtain ⟨l, hl⟩ : ∃ l, someV bars ⟨mlo, mhi⟩ ss (k : Int) = l := ⟨_, rfl⟩
    rw [hl] at ho2 hws
    obtain ⟨A6, c6, rfl⟩ := own_slice ho2
    obtain ⟨n6, hn6⟩ : ∃ n, l.length = n := ⟨_, rfl⟩
    rw [hn6] at ho2
    obtain ⟨B5, hB5⟩ : ∃ B, w4.heap.size = B := ⟨_, rfl⟩
    obtain ⟨v', w9, hrun, hown', hb', hs'⟩ := app_li hown ho2 (by rw [wysL_len]; omega) hwz hbr B5 hB5
    rw [← hws] at hown'
    have HO := Lib.hid hown'
    have HB := Lib.hid hb'
    have HRUN := Lib.hid hrun
    rw [hn6]
    clear hown ho ho2 hwz hbr hrun hown' hb' hs' hL bx hB hS hr5 hC
    go_wp2_with (at_builtin; refine wpList_append_run rfl (.tmp 29) (.tmp 35) 56 _ rfl HRUN.out ?_)
    go_roundw
    case rel => exact ⟨k + 1, by omega, by go_num, HO.out, HB.out⟩
    case measure => simp [intOf]; omega
end Go.Proofs.Ytkibdciomheekaa

set_option linter.all false
namespace Go.Proofs.Ytkibdciomheekaa
open Go.RowKit Hp

theorem mk_fit_j {bars : List Rg} {ss : List Stp} {m : Rg} (h : OkV bars ss) {j : Nat} (hj : j < ss.length + 1) : ∀ r ∈ mkL bars m ss, ((j : Int) - 1) + 1 < r.length ∧ r.length ≤ 100 ∧ 0 ≤ nthI r (((j : Int) - 1) + 1).toNat ∧ nthI r (((j : Int) - 1) + 1).toNat < 6 := by
  cases j with
  | zero => exact mk_fit_b h
  | succ i =>
    rw [show (((i + 1 : Nat) : Int) - 1) = (i : Int) by omega]
    exact mk_fit_w h (by omega)

set_option maxHeartbeats 8000000 in
set_option maxRecDepth 100000 in
theorem askR_any (bars : List Rg) (ss : List Stp) (m : Rg) (vb vs : Value) (w : World) (hf : Fit bars ss) (hB : RR w w.heap.size vb bars) (hS : RP w w.heap.size vs ss) :
    Calls Try.prog 42 #[.agg #[vb, vs], rV m] w (AskPost bars ss m w) := by
  have HF := Lib.hid hf
  clear hf
  obtain ⟨Ab, cb, rfl⟩ := hB.slice
  obtain ⟨As, cs, rfl⟩ := hS.slice
  obtain ⟨mlo, mhi⟩ := m
  unfold rV
  obtain ⟨n0, hn0⟩ : ∃ n, w.heap.size = n := ⟨_, rfl⟩
  have hC : Below n0 w w := Below.refl _ _
  go_enter Try.func42, Try.ntmps42
  go_upto_region 1 with fail
  have hqbx : n0 ≤ n0 := by have := hC.size; omega
  have bx : BK (w.alloc (.cells #[.slice Ab bars.length cb, .slice As ss.length cs] 25)) (n0) #[.slice Ab bars.length cb, .slice As ss.length cs] 25 := BK.new' _ _ _ (n0) hn0
  have hsbx : (w.alloc (.cells #[.slice Ab bars.length cb, .slice As ss.length cs] 25)).heap.size = n0 + 1 := by simp [hn0]
  replace hC : Below n0 w (w.alloc (.cells #[.slice Ab bars.length cb, .slice As ss.length cs] 25)) := Below.alloc hC (by have := hC.size; omega) _
  replace hB := (RS.below hB (w' := (w.alloc (.cells #[.slice Ab bars.length cb, .slice As ss.length cs] 25))) (Below.alloc (Below.refl _ _) (Nat.le_refl _) _)).more (B' := (w.alloc (.cells #[.slice Ab bars.length cb, .slice As ss.length cs] 25)).heap.size) (by simp)
  replace hS := (RP.below hS (w' := (w.alloc (.cells #[.slice Ab bars.length cb, .slice As ss.length cs] 25))) (Below.alloc (Below.refl _ _) (Nat.le_refl _) _)).more (B' := (w.alloc (.cells #[.slice Ab bars.length cb, .slice As ss.length cs] 25)).heap.size) (by simp)
  generalize (w.alloc (.cells #[.slice Ab bars.length cb, .slice As ss.length cs] 25)) = Wbx at *
  have hqmx : n0 ≤ n0 + 1 := by have := hC.size; omega
  have mx : BK (Wbx.alloc (.cells #[.int .i64 mlo, .int .i64 mhi] 33)) (n0 + 1) #[.int .i64 mlo, .int .i64 mhi] 33 := BK.new' _ _ _ (n0 + 1) hsbx
  have hsmx : (Wbx.alloc (.cells #[.int .i64 mlo, .int .i64 mhi] 33)).heap.size = n0 + 1 + 1 := by simp [hsbx]
  replace hC : Below n0 w (Wbx.alloc (.cells #[.int .i64 mlo, .int .i64 mhi] 33)) := Below.alloc hC (by have := hC.size; omega) _
  replace hB := (RS.below hB (w' := (Wbx.alloc (.cells #[.int .i64 mlo, .int .i64 mhi] 33))) (Below.alloc (Below.refl _ _) (Nat.le_refl _) _)).more (B' := (Wbx.alloc (.cells #[.int .i64 mlo, .int .i64 mhi] 33)).heap.size) (by simp)
  replace hS := (RP.below hS (w' := (Wbx.alloc (.cells #[.int .i64 mlo, .int .i64 mhi] 33))) (Below.alloc (Below.refl _ _) (Nat.le_refl _) _)).more (B' := (Wbx.alloc (.cells #[.int .i64 mlo, .int .i64 mhi] 33)).heap.size) (by simp)
  replace bx := bx.alloc (.cells #[.int .i64 mlo, .int .i64 mhi] 33)
  generalize (Wbx.alloc (.cells #[.int .i64 mlo, .int .i64 mhi] 33)) = Wmx at *
  clear hsbx
  have lbx := bx.lt
  have bxc0 := bx.cell 0
  have bxc1 := bx.cell 1
  simp at bxc0 bxc1
  have lmx := mx.lt
  have mxc0 := mx.cell 0
  have mxc1 := mx.cell 1
  simp at mxc0 mxc1
  go_wp2_with fail
  clear lbx bxc0 bxc1
  clear lmx mxc0 mxc1
  clear hsmx
  refine (isMeasured_any bars ss ⟨mlo, mhi⟩ _ _ _ HF.out hB hS).mono ?_
  rintro e w1 ⟨rfl, hb⟩
  replace hC : Below n0 w w1 := hC.trans (hb.mono (by have := hC.size; omega))
  replace hB := (RS.below hB hb).more hb.size
  replace hS := (RP.below hS hb).more hb.size
  replace bx := bx.below hb bx.lt
  replace mx := mx.below hb mx.lt
  clear hb
  obtain ⟨e, he⟩ : ∃ e, measE bars ss ⟨mlo, mhi⟩ = e := ⟨_, rfl⟩
  rw [he]
  by_cases e0 : e = 0
  case neg =>
    have b1 : (e != 0) = true := by simp [e0]
    have HE := Lib.hid he
    have E0 := Lib.hid e0
    clear he e0
    have lbx := bx.lt
    have bxc0 := bx.cell 0
    have bxc1 := bx.cell 1
    simp at bxc0 bxc1
    have lmx := mx.lt
    have mxc0 := mx.cell 0
    have mxc1 := mx.cell 1
    simp at mxc0 mxc1
    go_wp2_with fail
    clear lbx bxc0 bxc1
    clear lmx mxc0 mxc1
    refine (isMeasured_any bars ss ⟨mlo, mhi⟩ _ _ _ HF.out hB hS).mono ?_
    rintro e w2 ⟨rfl, hb⟩
    replace hC : Below n0 w w2 := hC.trans (hb.mono (by have := hC.size; omega))
    replace hB := (RS.below hB hb).more hb.size
    replace hS := (RP.below hS hb).more hb.size
    replace bx := bx.below hb bx.lt
    replace mx := mx.below hb mx.lt
    clear hb
    rw [HE.out]
    go_wp2_with fail
    exact bodyPost_ret (v := .tuple #[.int .i64 0, .int .i64 0, .int .i64 e]) (by simp [results, Try.results42, go_sem]) rfl (AskPost.no HE.out E0.out (by (try rw [hn0]); exact hC))
  subst e0
  obtain ⟨hV, hm⟩ := meas_two he
  have HV := Lib.hid hV
  have HM := Lib.hid hm
  have HE := Lib.hid he
  clear hV hm he
  have lbx := bx.lt
  have bxc0 := bx.cell 0
  have bxc1 := bx.cell 1
  simp at bxc0 bxc1
  have lmx := mx.lt
  have mxc0 := mx.cell 0
  have mxc1 := mx.cell 1
  simp at mxc0 mxc1
  go_wp2_with fail
  clear lbx bxc0 bxc1
  clear lmx mxc0 mxc1
  refine (makersR_any bars ss ⟨mlo, mhi⟩ _ _ _ HF.out HV.out hB hS).mono ?_
  rintro e w2 ⟨v, rfl, hL, hb⟩
  replace hC : Below n0 w w2 := hC.trans (hb.mono (by have := hC.size; omega))
  replace hB := (RS.below hB hb).more hb.size
  replace hS := (RP.below hS hb).more hb.size
  replace bx := bx.below hb bx.lt
  replace mx := mx.below hb mx.lt
  clear hb
  obtain ⟨A1, c1, rfl⟩ := hL.slice
  have hfw := mkL_few HV.out ⟨mlo, mhi⟩
  have hs6 := HV.out.sfew
  obtain ⟨n1, hn1⟩ : ∃ n, (mkL bars ⟨mlo, mhi⟩ ss).length = n := ⟨_, rfl⟩
  rw [hn1]
  rw [hn1] at hL hfw
  have HN1 := Lib.hid hn1
  clear hn1
  by_cases a1 : n1 = 0
  case pos =>
    have hS0 : Hid (someV bars ⟨mlo, mhi⟩ ss (-1) = []) := Lib.hid ((someV_none HV.out HM.out).2 (mk_nil (HN1.out.trans a1)))
    have b1 : ((n1 : Int) == 0) = true := by simp [a1]
    clear a1
    go_wp2_with fail
    exact bodyPost_ret (v := .tuple #[.int .i64 0, .int .i64 0, .int .i64 17]) (by simp [results, Try.results42, go_sem]) rfl (AskPost.soft HE.out hS0.out (by (try rw [hn0]); exact hC))
  have HSN : Hid (someV bars ⟨mlo, mhi⟩ ss (-1) ≠ []) := Lib.hid (fun q => a1 (HN1.out.symm.trans (by rw [mkL_len, (someV_none HV.out HM.out).1 q]; rfl)))
  have b1 : ((n1 : Int) == 0) = false := by simpa using a1
  clear a1
  have wn : IntKind.i64.wrap ((n1 : Int) + 1) = (n1 : Int) + 1 := by rw [IntKind.wrap_i64]; omega
  have lbx := bx.lt
  have bxc0 := bx.cell 0
  have bxc1 := bx.cell 1
  simp at bxc0 bxc1
  go_wp2_with fail
  clear lbx bxc0 bxc1
  clear wn
  rw [← HN1.out] at hL hfw
  rw [← HN1.out]
  have HQ := Lib.hid (fun (q : Rg) (w' : World) h hb => AskPost.yes (q := q) (w := w) (w' := w') HE.out HSN.out h hb)
  have HFIT := Lib.hid (fun j hj => mk_fit_j (m := ⟨mlo, mhi⟩) (j := j) HV.out hj)
  obtain ⟨L, hLe⟩ : ∃ L, mkL bars ⟨mlo, mhi⟩ ss = L := ⟨_, rfl⟩
  rw [hLe] at hL hfw HQ HFIT
  rw [hLe]
  clear hLe HN1 HSN HE
  obtain ⟨h0, hh0⟩ : ∃ h, w2.heap.size = h := ⟨_, rfl⟩
  have HH := Lib.hid hh0
  have HN2 := Lib.hid (show n0 ≤ h0 by have := hC.size; omega)
  clear hh0
  go_loopw [8, 9, 10] (fun a l v wr => ∃ j : Nat, j ≤ ss.length + 1 ∧ v = .int .i64 ((j : Int) - 1) ∧ a = .int .i64 (askS L (ss.length + 1) j).lo ∧ l = .int .i64 (askS L (ss.length + 1) j).hi ∧ Below h0 w2 wr) (fun _ _ v _ => ss.length + 1 - (intOf v + 1).toNat)
  case atStart => exact ⟨0, Nat.zero_le _, by simp, rfl, rfl, Below.refl _ _⟩
  case round =>
    obtain ⟨k, hk, rfl, rfl, rfl, hb⟩ := hrel
    rw [← HH.out] at hb
    have hbr := hb
    replace hC : Below n0 w wr := hC.trans (hb.mono (by have := hC.size; omega))
    replace hB := (RS.below hB hb).more hb.size
    replace hS := (RP.below hS hb).more hb.size
    replace bx := bx.below hb bx.lt
    replace hL := RC.below hL hb
    clear hb
    have lbx := bx.lt
    have bxc0 := bx.cell 0
    have bxc1 := bx.cell 1
    simp at bxc0 bxc1
    by_cases hlt : k < ss.length + 1
    case neg =>
      have hlt' : ¬ ((k : Int) - 1 < (ss.length : Int)) := by omega
      obtain rfl : k = ss.length + 1 := by omega
      have hlt2 : ¬ (((ss.length + 1 : Nat) : Int) - 1 < (ss.length : Int)) := by omega
      obtain ⟨q, hq⟩ : ∃ q, askS L (ss.length + 1) (ss.length + 1) = q := ⟨_, rfl⟩
      have hq2 : lsQ (qsL L (ss.length + 1)) ss.length = q := hq
      rw [hq]
      obtain ⟨qlo, qhi⟩ := q
      have HP := Lib.hid (HQ.out _ wr hq2)
      have HC := Lib.hid hC
      clear hq hq2 hC hL hB hS bx hbr
      go_wp2_with fail
      exact bodyPost_ret (v := .tuple #[.int .i64 qlo, .int .i64 qhi, .int .i64 0]) (by simp [results, Try.results42, go_sem]) rfl (HP.out (by (try rw [hn0]); exact HC.out))
    have hlt' : (k : Int) - 1 < (ss.length : Int) := by omega
    have hst := askS_succ L hlt
    have hat := askS_at L (ss.length + 1) k hk
    obtain ⟨⟨al, ah⟩, has⟩ : ∃ q, askS L (ss.length + 1) k = q := ⟨_, rfl⟩
    rw [has] at hst hat
    rw [has]
    dsimp only at hat
    have HST := Lib.hid hst
    have hfit := HFIT.out k hlt
    obtain ⟨a, ha⟩ : ∃ a, (k : Int) - 1 = a := ⟨_, rfl⟩
    rw [ha] at hlt' hfit HST
    rw [ha]
    have HA := Lib.hid ha
    have HFT := Lib.hid hfit
    have har : -1 ≤ a ∧ a ≤ 6 := by omega
    clear hst has hfit ha
    go_wp2_with fail
    clear lbx bxc0 bxc1
    refine (counts_any L a _ _ _ _ _ _ _ _ hL (by omega) HFT.out hfw).mono ?_
    rintro e w3 ⟨v, rfl, ho, hb⟩
    replace hC : Below n0 w w3 := hC.trans (hb.mono (by have := hC.size; omega))
    replace hB := (RS.below hB hb).more hb.size
    replace hS := (RP.below hS hb).more hb.size
    replace bx := bx.below hb bx.lt
    replace hL := RC.below hL hb
    replace hbr := hbr.trans (hb.mono hbr.size)
    clear hb
    obtain ⟨A5, c5, rfl⟩ := own_slice ho
    have hr5 := OwnI.ri ho
    rw [HH.out] at hbr
    rw [cntL_len]
    obtain ⟨A', cap', b5, o5, hve, hAA, hcc⟩ := RI.cells hr5
    obtain ⟨rfl, hb5⟩ := hAA (by rw [cntL_len]; omega)
    injection hve with q1 q2 q3
    subst q1 q3
    have HCC : Hid (∀ j, j < 6 → w3.cell? ⟨b5, o5 + j, none⟩ = some (.int .i64 (hits L a (j : Int)))) := Lib.hid (fun j hj => by
      have h := hcc j (by rw [cntL_len]; exact hj)
      rw [cntL_at hj] at h
      exact h)
    have HBR := Lib.hid hbr
    clear hAA hcc q2 ho hr5 hL hB hS bx hC hbr
    go_wp2_with fail
    go_loopw [12, 13] (fun v i V => V = w3 ∧ ∃ j : Nat, j ≤ 6 ∧ i = .int .i64 (j : Int) ∧ v = .int .i64 (wrs L a j)) (fun _ i _ => 6 - (intOf i).toNat)
    case atStart => exact ⟨rfl, 0, Nat.zero_le _, rfl, rfl⟩
    case round =>
      obtain ⟨hV, j, hj, rfl, rfl⟩ := hrel
      rw [hV]
      clear hV
      by_cases hj6 : j < 6
      case neg =>
        obtain rfl : j = 6 := by omega
        have hw6 := wrs_le L a 6
        obtain ⟨x, hx⟩ : ∃ x, wrs L a 6 = x := ⟨_, rfl⟩
        rw [hx] at hw6 HST
        rw [hx]
        clear hx
        by_cases hxl : x < ah
        case pos =>
          have HS2 := Lib.hid (HST.out.trans (if_pos hxl))
          have g1 : decide (x < ah) = true := decide_eq_true hxl
          clear hxl
          go_wp2_with fail
          go_roundw
          case rel => exact ⟨k + 1, by omega, by have := HA.out; go_num, by rw [HS2.out], by rw [HS2.out], HBR.out⟩
          case measure => have := HA.out; simp [intOf]; omega
        have HS2 := Lib.hid (HST.out.trans (if_neg hxl))
        have g1 : decide (x < ah) = false := decide_eq_false hxl
        clear hxl
        go_wp2_with fail
        go_roundw
        case rel => exact ⟨k + 1, by omega, by have := HA.out; go_num, by rw [HS2.out], by rw [HS2.out], HBR.out⟩
        case measure => have := HA.out; simp [intOf]; omega
      have hjj : (j : Int) < 6 := by omega
      have c0 := HCC.out j hj6
      have h1 := wrs_le L a j
      have h2 := hits_le2 L a (j : Int)
      have HSTJ := Lib.hid (show wrs L a (j + 1) = max (wrs L a j) (hits L a (j : Int)) from rfl)
      obtain ⟨x, hx⟩ : ∃ x, wrs L a j = x := ⟨_, rfl⟩
      obtain ⟨y, hy⟩ : ∃ y, hits L a (j : Int) = y := ⟨_, rfl⟩
      rw [hx] at h1 HSTJ
      rw [hy] at h2 HSTJ c0
      rw [hx]
      clear hx hy
      go_wp2_with fail
      go_roundw
      case rel => exact ⟨trivial, j + 1, by omega, by go_num, by rw [HSTJ.out]; congr 1; split <;> omega⟩
      case measure => simp [intOf]; omega
end Go.Proofs.Ytkibdciomheekaa

set_option linter.all false
namespace Go.Proofs.Ytkibdciomheekaa
open Go.RowKit Hp

/-- How many recipes there are through the first k steps. -/
def recN (bars : List Rg) (ss : List Stp) : Nat → Nat
  | 0 => bars.length
  | k + 1 => recN bars ss k * (nthS ss k).length
theorem recN_le {bars : List Rg} {ss : List Stp} (hb : bars.length ≤ 6) (hs : ∀ s ∈ ss, s.length ≤ 6) : ∀ k, k ≤ ss.length → recN bars ss k ≤ 6 ^ (k + 1)
  | 0, _ => by simpa [recN] using hb
  | k + 1, hk => by
    have h1 := recN_le hb hs k (by omega)
    have h2 := hs _ (nthS_mem (show k < ss.length by omega))
    rw [Nat.pow_succ]
    exact Nat.mul_le_mul h1 h2
def fullP (bars : List Rg) (ss : List Stp) : Prop := worksE bars ss = 0 ∧ 400 < recN bars ss ss.length
def FullPost (bars : List Rg) (ss : List Stp) (w : World) (e : Ending) (w' : World) : Prop := ∃ q, e = .returned (.bool q) ∧ (q = true ↔ fullP bars ss) ∧ Below w.heap.size w w'
theorem FullPost.no {bars : List Rg} {ss : List Stp} {w w' : World} (h : worksE bars ss ≠ 0) (hb : Below w.heap.size w w') : FullPost bars ss w (.returned (.bool false)) w' := ⟨false, rfl, ⟨fun q => Bool.noConfusion q, fun q => (h q.1).elim⟩, hb⟩
theorem FullPost.of {bars : List Rg} {ss : List Stp} {w w' : World} (h : worksE bars ss = 0) (hb : Below w.heap.size w w') : FullPost bars ss w (.returned (.bool (decide ((400 : Int) < ((recN bars ss ss.length : Nat) : Int))))) w' := ⟨_, rfl, ⟨fun q => ⟨h, by have := of_decide_eq_true q; omega⟩, fun q => decide_eq_true (by have := q.2; omega)⟩, hb⟩

set_option maxHeartbeats 8000000 in
set_option maxRecDepth 100000 in
theorem full_any (bars : List Rg) (ss : List Stp) (vb vs : Value) (w : World) (hf : Fit bars ss) (hB : RR w w.heap.size vb bars) (hS : RP w w.heap.size vs ss) :
    Calls Try.prog 32 #[.agg #[vb, vs]] w (FullPost bars ss w) := by
  have HF := Lib.hid hf
  clear hf
  obtain ⟨Ab, cb, rfl⟩ := hB.slice
  obtain ⟨As, cs, rfl⟩ := hS.slice
  obtain ⟨n0, hn0⟩ : ∃ n, w.heap.size = n := ⟨_, rfl⟩
  have hC : Below n0 w w := Below.refl _ _
  go_enter Try.func32, Try.ntmps32
  go_upto_region 1 with fail
  have hqbx : n0 ≤ n0 := by have := hC.size; omega
  have bx : BK (w.alloc (.cells #[.slice Ab bars.length cb, .slice As ss.length cs] 25)) (n0) #[.slice Ab bars.length cb, .slice As ss.length cs] 25 := BK.new' _ _ _ (n0) hn0
  have hsbx : (w.alloc (.cells #[.slice Ab bars.length cb, .slice As ss.length cs] 25)).heap.size = n0 + 1 := by simp [hn0]
  replace hC : Below n0 w (w.alloc (.cells #[.slice Ab bars.length cb, .slice As ss.length cs] 25)) := Below.alloc hC (by have := hC.size; omega) _
  replace hB := (RS.below hB (w' := (w.alloc (.cells #[.slice Ab bars.length cb, .slice As ss.length cs] 25))) (Below.alloc (Below.refl _ _) (Nat.le_refl _) _)).more (B' := (w.alloc (.cells #[.slice Ab bars.length cb, .slice As ss.length cs] 25)).heap.size) (by simp)
  replace hS := (RP.below hS (w' := (w.alloc (.cells #[.slice Ab bars.length cb, .slice As ss.length cs] 25))) (Below.alloc (Below.refl _ _) (Nat.le_refl _) _)).more (B' := (w.alloc (.cells #[.slice Ab bars.length cb, .slice As ss.length cs] 25)).heap.size) (by simp)
  generalize (w.alloc (.cells #[.slice Ab bars.length cb, .slice As ss.length cs] 25)) = Wbx at *
  have lbx := bx.lt
  have bxc0 := bx.cell 0
  have bxc1 := bx.cell 1
  simp at bxc0 bxc1
  go_wp2_with fail
  clear lbx bxc0 bxc1
  clear hsbx
  refine (checkWorksR_any bars ss _ _ _ HF.out hB hS).mono ?_
  rintro e w1 ⟨rfl, hb⟩
  replace hC : Below n0 w w1 := hC.trans (hb.mono (by have := hC.size; omega))
  replace hB := (RS.below hB hb).more hb.size
  replace hS := (RP.below hS hb).more hb.size
  replace bx := bx.below hb bx.lt
  clear hb
  obtain ⟨e, he⟩ : ∃ e, worksE bars ss = e := ⟨_, rfl⟩
  rw [he]
  by_cases e0 : e = 0
  case neg =>
    have HE := Lib.hid (show worksE bars ss ≠ 0 by rw [he]; exact e0)
    have b1 : (e != 0) = true := by simp [e0]
    clear he e0
    go_wp2_with fail
    go_ret
    exact FullPost.no HE.out (by (try rw [hn0]); exact hC)
  subst e0
  have HE := Lib.hid he
  have hV := okV_of he
  have hs6 : ss.length ≤ 6 := hV.sfew
  have hb6 := hV.bfew
  have HR := Lib.hid (fun k hk => recN_le (bars := bars) (ss := ss) hV.bfew (fun s hs => Nat.le_trans (hV.wpos s hs).2 (by decide)) k hk)
  clear he hV
  have lbx := bx.lt
  have bxc0 := bx.cell 0
  have bxc1 := bx.cell 1
  simp at bxc0 bxc1
  go_wp2_with fail
  clear lbx bxc0 bxc1
  generalize w1 = W0 at *
  go_loopw [3, 4] (fun a i wr => ∃ k : Nat, k ≤ ss.length ∧ i = .int .i64 k ∧ a = .int .i64 (recN bars ss k : Nat) ∧ Below W0.heap.size W0 wr) (fun _ i _ => ss.length - (intOf i).toNat)
  case atStart => exact ⟨0, Nat.zero_le _, rfl, rfl, Below.refl _ _⟩
  case round =>
    obtain ⟨k, hk, rfl, rfl, hb⟩ := hrel
    have hbr := Lib.hid hb
    replace hC : Below n0 w wr := hC.trans (hb.mono (by have := hC.size; omega))
    replace hB := (RS.below hB hb).more hb.size
    replace hS := (RP.below hS hb).more hb.size
    replace bx := bx.below hb bx.lt
    clear hb
    by_cases hlt : k < ss.length
    case neg =>
      have hlt' : ¬ (k : Int) < (ss.length : Int) := by omega
      have hke : k = ss.length := by omega
      rw [hke]
      obtain ⟨n, hn⟩ : ∃ n, recN bars ss ss.length = n := ⟨_, rfl⟩
      have HP := Lib.hid (fun W hW => FullPost.of (w := w) (w' := W) HE.out hW)
      rw [hn] at HP ⊢
      rw [hke] at hlt'
      clear hke hn
      have lbx := bx.lt
      have bxc0 := bx.cell 0
      have bxc1 := bx.cell 1
      simp at bxc0 bxc1
      go_wp2_with fail
      go_ret
      exact HP.out _ (by (try rw [hn0]); exact hC)
    have hlt' : (k : Int) < (ss.length : Int) := by omega
    obtain ⟨A', cap', bb, off, hve, hA, hc⟩ := RP.cells hS
    obtain ⟨rfl, hbb⟩ := hA (by omega)
    injection hve with q1 q2 q3
    subst q1 q3
    obtain ⟨u, d0, hu⟩ := hc k hlt
    have hst : recN bars ss (k + 1) = recN bars ss k * (nthS ss k).length := rfl
    have h7 := HR.out (k + 1) (by omega)
    have h8 : 6 ^ (k + 1 + 1) ≤ 6 ^ 7 := Nat.pow_le_pow_right (by omega) (by omega)
    obtain ⟨s, hs⟩ : ∃ s, nthS ss k = s := ⟨_, rfl⟩
    rw [hs] at hu hst
    obtain ⟨n, hn⟩ : ∃ n, recN bars ss k = n := ⟨_, rfl⟩
    rw [hn] at hst ⊢
    obtain ⟨Aw, cw, rfl⟩ := hu.slice
    have wm : IntKind.i64.wrap ((n : Int) * (s.length : Int)) = ((recN bars ss (k + 1) : Nat) : Int) := by
      rw [hst, Int.natCast_mul]
      rw [hst] at h7
      have : ((n * s.length : Nat) : Int) ≤ 279936 := by
        have : n * s.length ≤ 279936 := Nat.le_trans h7 (Nat.le_trans h8 (by decide))
        omega
      rw [Int.natCast_mul] at this
      have h9 : (0 : Int) ≤ (n : Int) * (s.length : Int) := by
        rw [← Int.natCast_mul]
        omega
      rw [IntKind.wrap_i64]
      omega
    obtain ⟨N, hN⟩ : ∃ N, recN bars ss (k + 1) = N := ⟨_, rfl⟩
    rw [hN] at wm
    have HNN := Lib.hid hN
    clear hA hc q2 hs hst h7 h8 hn hN
    have lbx := bx.lt
    have bxc0 := bx.cell 0
    have bxc1 := bx.cell 1
    simp at bxc0 bxc1
    go_wp2_with fail
    go_roundw
    case rel => exact ⟨k + 1, by omega, by go_num, by rw [HNN.out], hbr.out⟩
    case measure => simp [intOf]; omega
end Go.Proofs.Ytkibdciomheekaa

set_option linter.all false
namespace Go.Proofs.Ytkibdciomheekaa
open Go.RowKit Hp

theorem RLi.next {w w' : World} {v : Value} {l : List (List Int)} (h : RLi w w.heap.size v l) (hb : Below w.heap.size w w') : RLi w' w'.heap.size v l :=
  RN.more (fun _ _ h => RS.more h hb.size) (RN.below (fun _ _ h => RS.below h hb) h hb) hb.size
section
variable {bars : List Rg} {ss : List Stp} {m : Rg}
def barsL (bars : List Rg) (ss : List Stp) (m : Rg) : List Int := if barsE bars ss m = 0 then someV bars m ss (-1) else []
def waysL (bars : List Rg) (ss : List Stp) (m : Rg) : List (List Int) := if barsE bars ss m = 0 then wysL bars m ss ss.length else []
theorem barsE_meas (h : barsE bars ss m = 0) : measE bars ss m = 0 := by
  unfold barsE at h
  split at h
  · rename_i q; exact absurd h q
  · rename_i q; exact Decidable.not_not.1 q
theorem barsL_len : (barsL bars ss m).length ≤ 1000 := by
  unfold barsL
  split
  · rename_i h
    obtain ⟨hV, hm⟩ := meas_two (barsE_meas h)
    exact someV_few hV hm
  · simp
theorem waysL_len : (waysL bars ss m).length ≤ 1000 := by
  unfold waysL
  split
  · rename_i h
    obtain ⟨hV, hm⟩ := meas_two (barsE_meas h)
    have := hV.sfew
    rw [wysL_len]
    omega
  · simp
theorem waysL_few : ∀ l ∈ waysL bars ss m, l.length ≤ 1000 := by
  unfold waysL
  split
  · rename_i h
    obtain ⟨hV, hm⟩ := meas_two (barsE_meas h)
    exact wysL_few hV
  · simp
theorem cnt_few (h : measE bars ss m = 0) : (mkL bars m ss).length ≤ 1000000 := mkL_few (meas_two h).1 m
end
end Go.Proofs.Ytkibdciomheekaa

set_option linter.all false
namespace Go.Proofs.Ytkibdciomheekaa
open Go.RowKit Hp

/-- The number that is meant for a place. -/
def numAt (us : List Nat) (i : Nat) : Nat := if us.length = 0 then 0 else us.getD (i % us.length) 0
def oneB (bars : List Rg) (us : List Nat) : Nat := numAt us 0 % bars.length
def oneW (ss : List Stp) (us : List Nat) (n : Nat) : List Int := (List.range n).map fun (i : Nat) => ((numAt us (i + 1) % (nthS ss i).length : Nat) : Int)
theorem oneW_zero (ss : List Stp) (us : List Nat) : oneW ss us 0 = [] := rfl
theorem oneW_succ (ss : List Stp) (us : List Nat) (n : Nat) : oneW ss us (n + 1) = oneW ss us n ++ [((numAt us (n + 1) % (nthS ss n).length : Nat) : Int)] := by simp [oneW, List.range_succ]
theorem oneW_len (ss : List Stp) (us : List Nat) (n : Nat) : (oneW ss us n).length = n := by simp [oneW]
theorem numAt_le {us : List Nat} {B : Nat} (h : ∀ x ∈ us, x ≤ B) (i : Nat) : numAt us i ≤ B := by
  unfold numAt
  split
  · exact Nat.zero_le _
  · rename_i q
    have hi : i % us.length < us.length := Nat.mod_lt _ (by omega)
    rw [List.getD_eq_getElem?_getD, List.getElem?_eq_getElem hi]
    exact h _ (List.getElem_mem hi)
def oneBk (bars : List Rg) (us : List Nat) (k : Nat) : Nat := if k = 0 then 0 else oneB bars us
theorem own_ri_set {W : World} {T g : Nat} {A : Option Addr} {n c base : Nat} {l : List Int} {cs : Array Value} {t : TypeId} (h : OwnI T W base (.slice A n c) l) (hg : BK W g cs t) (ht : t ≠ T) (o : Nat) (u : Value) :
    OwnI T (W.setCell ⟨g, o, none⟩ u) base (.slice A n c) l := by
  have hne : (Value.slice A n c).ownBlock ≠ some g := fun hq => by
    obtain ⟨c', hc⟩ := own_block h hq
    unfold BK at hg
    rw [hg] at hc; injection hc with hc; injection hc with _ hc; exact ht hc
  exact own_far h (p := ⟨g, o, none⟩) hne u
theorem own_ri_sets {W : World} {T g : Nat} {A : Option Addr} {n c base : Nat} {l : List Int} {cs : Array Value} {t : TypeId} (h : OwnI T W base (.slice A n c) l) (hg : BK W g cs t) (ht : t ≠ T) (u v : Value) :
    OwnI T ((W.setCell ⟨g, 0, none⟩ u).setCell ⟨g, 1, none⟩ v) base (.slice A n c) l := by
  have hne : (Value.slice A n c).ownBlock ≠ some g := fun hq => by
    obtain ⟨c', hc⟩ := own_block h hq
    unfold BK at hg
    rw [hg] at hc; injection hc with hc; injection hc with _ hc; exact ht hc
  exact own_far (own_far h (p := ⟨g, 0, none⟩) hne u) (p := ⟨g, 1, none⟩) hne v
theorem one_rec {bars : List Rg} {ss : List Stp} (h : OkV bars ss) (us : List Nat) : OkRec bars ss (oneB bars us : Nat) (oneW ss us ss.length) := by
  refine ⟨h, by omega, ?_, ?_, ?_⟩
  · show ((oneB bars us : Nat) : Int).toNat < bars.length
    rw [Int.toNat_natCast]
    exact Nat.mod_lt _ h.bpos
  · refine mem_allR_iff.2 ⟨by simp [nats, oneW_len], fun i hi => ?_⟩
    have : (nats (oneW ss us ss.length)).getD i 0 = numAt us (i + 1) % (nthS ss i).length := by
      simp [nats, oneW, hi]
      rw [← Int.natCast_emod, Int.toNat_natCast]
    rw [this]
    exact Nat.mod_lt _ (h.wpos _ (nthS_mem hi)).1
  · intro k hk
    obtain ⟨i, _, rfl⟩ := List.mem_map.1 hk
    omega
theorem RU.cells {k : IntKind} {w : World} {B : Nat} {v : Value} {l : List Nat} (h : RU k w B v l) : ∃ A cap b off, v = .slice A l.length cap ∧ (l.length ≠ 0 → A = some ⟨b, off, none⟩ ∧ b < B) ∧ ∀ j, j < l.length → w.cell? ⟨b, off + j, none⟩ = some (.int k (l.getD j 0 : Nat)) := by
  obtain ⟨A, cap, b, off, hv, hl, hA, hc⟩ := h
  refine ⟨A, cap, b, off, hv, hA, fun j hj => ?_⟩
  rw [hc j (by simpa using hj)]
  simp [hj]
def OnePost (bars : List Rg) (ss : List Stp) (us : List Nat) (w : World) (e : Ending) (w' : World) : Prop :=
  ∃ vk, e = .returned (.agg #[.int .i64 (oneB bars us : Nat), vk]) ∧ RI w' w'.heap.size vk (oneW ss us ss.length) ∧ Below w.heap.size w w'

set_option maxHeartbeats 8000000 in
set_option maxRecDepth 100000 in
theorem one_any (bars : List Rg) (ss : List Stp) (us : List Nat) (vb vs vu : Value) (w : World) (hV : OkV bars ss) (hu : ∀ x ∈ us, x ≤ 255) (hlu : us.length ≤ 20) (hB : RR w w.heap.size vb bars) (hS : RP w w.heap.size vs ss) (hU : RU .u8 w w.heap.size vu us) :
    Calls Try.prog 44 #[.agg #[vb, vs], vu] w (OnePost bars ss us w) := by
  have HV := Lib.hid hV
  have HU := Lib.hid hu
  have hs6 := hV.sfew
  have hbp := hV.bpos
  have hb6 := hV.bfew
  clear hV hu
  obtain ⟨Ab, cb, rfl⟩ := hB.slice
  obtain ⟨As, cs, rfl⟩ := hS.slice
  obtain ⟨Au, cu, rfl⟩ := ru_slice hU
  obtain ⟨n0, hn0⟩ : ∃ n, w.heap.size = n := ⟨_, rfl⟩
  have hC : Below n0 w w := Below.refl _ _
  go_enter Try.func44, Try.ntmps44
  have HB0 := Lib.hid hB
  have HS0 := Lib.hid hS
  have HU0 := Lib.hid hU
  go_upto_region 1 with fail
  have hqbx : n0 ≤ n0 := by have := hC.size; omega
  have bx : BK (w.alloc (.cells #[.slice Ab bars.length cb, .slice As ss.length cs] 25)) (n0) #[.slice Ab bars.length cb, .slice As ss.length cs] 25 := BK.new' _ _ _ (n0) hn0
  have hsbx : (w.alloc (.cells #[.slice Ab bars.length cb, .slice As ss.length cs] 25)).heap.size = n0 + 1 := by simp [hn0]
  replace hC : Below n0 w (w.alloc (.cells #[.slice Ab bars.length cb, .slice As ss.length cs] 25)) := Below.alloc hC (by have := hC.size; omega) _
  replace hB := (RS.below hB (w' := (w.alloc (.cells #[.slice Ab bars.length cb, .slice As ss.length cs] 25))) (Below.alloc (Below.refl _ _) (Nat.le_refl _) _)).more (B' := (w.alloc (.cells #[.slice Ab bars.length cb, .slice As ss.length cs] 25)).heap.size) (by simp)
  replace hS := (RP.below hS (w' := (w.alloc (.cells #[.slice Ab bars.length cb, .slice As ss.length cs] 25))) (Below.alloc (Below.refl _ _) (Nat.le_refl _) _)).more (B' := (w.alloc (.cells #[.slice Ab bars.length cb, .slice As ss.length cs] 25)).heap.size) (by simp)
  replace hU := (RU.below hU (w' := (w.alloc (.cells #[.slice Ab bars.length cb, .slice As ss.length cs] 25))) (Below.alloc (Below.refl _ _) (Nat.le_refl _) _)).more (B' := (w.alloc (.cells #[.slice Ab bars.length cb, .slice As ss.length cs] 25)).heap.size) (by simp)
  generalize (w.alloc (.cells #[.slice Ab bars.length cb, .slice As ss.length cs] 25)) = Wbx at *
  have hqrs : n0 ≤ n0 + 1 := by have := hC.size; omega
  have rs : BK (Wbx.alloc (.cells #[.int .i64 0, .slice none 0 0] 42)) (n0 + 1) #[.int .i64 0, .slice none 0 0] 42 := BK.new' _ _ _ (n0 + 1) hsbx
  have hsrs : (Wbx.alloc (.cells #[.int .i64 0, .slice none 0 0] 42)).heap.size = n0 + 1 + 1 := by simp [hsbx]
  replace hC : Below n0 w (Wbx.alloc (.cells #[.int .i64 0, .slice none 0 0] 42)) := Below.alloc hC (by have := hC.size; omega) _
  replace hB := (RS.below hB (w' := (Wbx.alloc (.cells #[.int .i64 0, .slice none 0 0] 42))) (Below.alloc (Below.refl _ _) (Nat.le_refl _) _)).more (B' := (Wbx.alloc (.cells #[.int .i64 0, .slice none 0 0] 42)).heap.size) (by simp)
  replace hS := (RP.below hS (w' := (Wbx.alloc (.cells #[.int .i64 0, .slice none 0 0] 42))) (Below.alloc (Below.refl _ _) (Nat.le_refl _) _)).more (B' := (Wbx.alloc (.cells #[.int .i64 0, .slice none 0 0] 42)).heap.size) (by simp)
  replace hU := (RU.below hU (w' := (Wbx.alloc (.cells #[.int .i64 0, .slice none 0 0] 42))) (Below.alloc (Below.refl _ _) (Nat.le_refl _) _)).more (B' := (Wbx.alloc (.cells #[.int .i64 0, .slice none 0 0] 42)).heap.size) (by simp)
  replace bx := bx.alloc (.cells #[.int .i64 0, .slice none 0 0] 42)
  generalize (Wbx.alloc (.cells #[.int .i64 0, .slice none 0 0] 42)) = Wrs at *
  clear hsbx
  go_upto_region 2 with fail
  have hqrb : n0 ≤ n0 + 1 + 1 := by have := hC.size; omega
  have rb : BK (Wrs.alloc (.cells #[.int .i64 0, .slice none 0 0] 42)) (n0 + 1 + 1) #[.int .i64 0, .slice none 0 0] 42 := BK.new' _ _ _ (n0 + 1 + 1) hsrs
  have hsrb : (Wrs.alloc (.cells #[.int .i64 0, .slice none 0 0] 42)).heap.size = n0 + 1 + 1 + 1 := by simp [hsrs]
  replace hC : Below n0 w (Wrs.alloc (.cells #[.int .i64 0, .slice none 0 0] 42)) := Below.alloc hC (by have := hC.size; omega) _
  replace hB := (RS.below hB (w' := (Wrs.alloc (.cells #[.int .i64 0, .slice none 0 0] 42))) (Below.alloc (Below.refl _ _) (Nat.le_refl _) _)).more (B' := (Wrs.alloc (.cells #[.int .i64 0, .slice none 0 0] 42)).heap.size) (by simp)
  replace hS := (RP.below hS (w' := (Wrs.alloc (.cells #[.int .i64 0, .slice none 0 0] 42))) (Below.alloc (Below.refl _ _) (Nat.le_refl _) _)).more (B' := (Wrs.alloc (.cells #[.int .i64 0, .slice none 0 0] 42)).heap.size) (by simp)
  replace hU := (RU.below hU (w' := (Wrs.alloc (.cells #[.int .i64 0, .slice none 0 0] 42))) (Below.alloc (Below.refl _ _) (Nat.le_refl _) _)).more (B' := (Wrs.alloc (.cells #[.int .i64 0, .slice none 0 0] 42)).heap.size) (by simp)
  replace bx := bx.alloc (.cells #[.int .i64 0, .slice none 0 0] 42)
  replace rs := rs.alloc (.cells #[.int .i64 0, .slice none 0 0] 42)
  generalize (Wrs.alloc (.cells #[.int .i64 0, .slice none 0 0] 42)) = Wrb at *
  clear hsrs
  clear hsrb
  generalize Wrb = W0 at *
  have HQ := Lib.hid (And.intro hqbx (And.intro hqrs hqrb))
  clear hqbx hqrs hqrb
  go_wp2_with fail
  go_loopw [6] (fun i wr => ∃ (k : Nat) (v : Value), k ≤ ss.length + 1 ∧ i = .int .i64 (k : Int) ∧ BK wr (n0) #[.slice Ab bars.length cb, .slice As ss.length cs] 25 ∧ BK wr (n0 + 1) #[.int .i64 0, .slice none 0 0] 42 ∧ BK wr (n0 + 1 + 1) #[.int .i64 (oneBk bars us k : Nat), v] 42 ∧ OwnI 3 wr n0 v (oneW ss us (k - 1)) ∧ Below n0 w wr) (fun i _ => ss.length + 1 - (intOf i).toNat)
  case atStart => exact ⟨0, _, Nat.zero_le _, rfl, bx, rs, rb, OwnI.nil _ _ _, hC⟩
  case round =>
    clear bx rs rb hC hB hS hU
    obtain ⟨k, v, hk, rfl, bx, rs, rb, hown, hC⟩ := hrel
    rw [hn0] at HB0 HS0 HU0
    have hB := RS.more (RS.below HB0.out hC) (B' := wr.heap.size) (by have := hC.size; omega)
    have hS := RP.more (RP.below HS0.out hC) (B' := wr.heap.size) (by have := hC.size; omega)
    have hU := RU.more (RU.below HU0.out hC) (B' := wr.heap.size) (by have := hC.size; omega)
    obtain ⟨Av, cv, rfl⟩ := own_slice hown
    have hll := oneW_len ss us (k - 1)
    have HOW := Lib.hid hown
    have HLL := Lib.hid hll
    clear hown hll
    obtain ⟨nl, hnl⟩ : ∃ n, (oneW ss us (k - 1)).length = n := ⟨_, rfl⟩
    rw [hnl] at rb
    have HNL := Lib.hid hnl
    clear hnl
    by_cases hlt : k < ss.length + 1
    case neg =>
      obtain rfl : k = ss.length + 1 := by omega
      rw [Nat.add_sub_cancel] at HOW HNL
      have hlt' : ¬ ((ss.length + 1 : Nat) : Int) ≤ (ss.length : Int) := by omega
      simp only [Int.natCast_add, Int.cast_ofNat_Int] at hlt'
      have hob : oneBk bars us (ss.length + 1) = oneB bars us := by unfold oneBk; rw [if_neg (by omega)]
      rw [hob] at rb
      clear hob hlt
      have hown2 := own_ri_sets HOW.out rs (by decide) (.int .i64 (oneB bars us : Nat)) (.slice Av (oneW ss us ss.length).length cv)
      rw [HNL.out] at hown2
      obtain ⟨ob, hob⟩ : ∃ n, oneB bars us = n := ⟨_, rfl⟩
      rw [hob] at rb hown2
      have HO := Lib.hid hown2.ri
      clear hown2
      have HOB := Lib.hid hob
      clear hob
      have lbx := bx.lt
      have bxc0 := bx.cell 0
      have bxc1 := bx.cell 1
      simp at bxc0 bxc1
      have lrb := rb.lt
      have rbc0 := rb.cell 0
      have rbc1 := rb.cell 1
      simp at rbc0 rbc1
      have lrs := rs.lt
      have rsc0 := rs.cell 0
      have rsc1 := rs.cell 1
      simp at rsc0 rsc1
      have f0 := rs.frozen 0
      have f1 := rs.frozen 1
      have hCf : Below n0 w ((wr.setCell ⟨n0 + 1, 0, none⟩ (.int .i64 (ob : Int))).setCell ⟨n0 + 1, 1, none⟩ (.slice Av nl cv)) := Below.setCell (Below.setCell hC HQ.out.2.1 _) HQ.out.2.1 _
      have b2 := ((rs.set 0 (.int .i64 (ob : Int))).set 1 (.slice Av nl cv))
      simp at b2
      have HCF := Lib.hid hCf
      clear hCf hC rs
      go_wp2_with fail
      clear lbx bxc0 bxc1 lrb rbc0 rbc1 lrs rsc0 rsc1
      have y0 := b2.cell 0
      have y1 := b2.cell 1
      simp at y0 y1
      refine bodyPost_ret (v := .agg #[.int .i64 (ob : Int), .slice Av nl cv]) (by simp [results, Try.results44, go_sem, y0, y1]) rfl ⟨_, by rw [HOB.out], HO.out, (by (try rw [hn0]); exact HCF.out)⟩
    have hlt' : (k : Int) ≤ (ss.length : Int) := by omega
    have hnle := numAt_le HU.out k
    obtain ⟨n, hn⟩ : ∃ n, numAt us k = n := ⟨_, rfl⟩
    rw [hn] at hnle
    have HN := Lib.hid hn
    have g1 : IntKind.i64.wrap (n : Int) = (n : Int) := by rw [IntKind.wrap_i64]; omega
    by_cases hu0 : us.length = 0
    case pos =>
      have zu : ¬ ((us.length : Int) > 0) := by omega
      have HZ := Lib.hid (show (n : Int) = 0 by rw [← hn]; unfold numAt; rw [if_pos hu0]; rfl)
      clear hn hu0
      have lbx := bx.lt
      have bxc0 := bx.cell 0
      have bxc1 := bx.cell 1
      simp at bxc0 bxc1
      have lrb := rb.lt
      have rbc0 := rb.cell 0
      have rbc1 := rb.cell 1
      simp at rbc0 rbc1
      go_upto_region 8 with fail
      clear lbx bxc0 bxc1
      clear lrb rbc0 rbc1
      clear zu
      by_cases hk0 : k = 0
      case pos =>
        have hrm : n % bars.length = oneB bars us := by have := HN.out; rw [hk0] at this; rw [← this]; rfl
        have hrm2 : (n : Int) % (bars.length : Int) = (oneB bars us : Int) := by rw [← Int.natCast_emod, hrm]
        have hown2 := own_ri_set HOW.out rb (by decide) 0 (.int .i64 (oneB bars us : Nat))
        rw [HNL.out] at hown2
        have hz : oneW ss us (k - 1) = oneW ss us (1 - 1) := by rw [hk0]
        rw [hz] at hown2
        have d0 : ((k : Int) == 0) = true := by rw [hk0]; rfl
        have r1 : (0 : Int) % (bars.length : Int) = (oneB bars us : Int) := by have h9 := hrm2; rw [HZ.out] at h9; exact h9
        have r2 : (0 : Int).tmod (bars.length : Int) = (oneB bars us : Int) := by rw [Int.tmod_eq_emod_of_nonneg (by omega), r1]
        have y0 : ((bars.length : Int) == 0) = false := beq_eq_false_iff_ne.2 (by omega)
        have y1 : (bars.length : Int) ≠ 0 := by omega
        have hol : oneB bars us < bars.length := Nat.mod_lt _ hbp
        obtain ⟨ob, hob⟩ : ∃ n, oneB bars us = n := ⟨_, rfl⟩
        rw [hob] at r1 r2 hol hown2
        have HO2 := Lib.hid hown2
        have HOB := Lib.hid hob
        have w1 : IntKind.i64.wrap (ob : Int) = (ob : Int) := by rw [IntKind.wrap_i64]; omega
        have wk : IntKind.i64.wrap ((k : Int) + 1) = (k : Int) + 1 := by rw [IntKind.wrap_i64]; omega
        have HK0 := Lib.hid hk0
        clear hob hrm hrm2 hown2 hz hk0
        have lbx := bx.lt
        have bxc0 := bx.cell 0
        have bxc1 := bx.cell 1
        simp at bxc0 bxc1
        have lrb := rb.lt
        have rbc0 := rb.cell 0
        have rbc1 := rb.cell 1
        simp at rbc0 rbc1
        have rbf0 := rb.frozen 0
        have HC2 : Hid (Below n0 w (wr.setCell ⟨n0 + 1 + 1, 0, none⟩ (.int .i64 (ob : Int)))) := Lib.hid (Below.setCell hC HQ.out.2.2 _)
        have hb2 := rb.set 0 (.int .i64 (ob : Int))
        simp at hb2
        have HRB := Lib.hid hb2
        have HRX := Lib.hid (bx.far (p := ⟨n0 + 1 + 1, 0, none⟩) (by show n0 ≠ n0 + 1 + 1; omega) (.int .i64 (ob : Int)))
        have HRS := Lib.hid (rs.far (p := ⟨n0 + 1 + 1, 0, none⟩) (by show n0 + 1 ≠ n0 + 1 + 1; omega) (.int .i64 (ob : Int)))
        clear hb2 bx rs rb hC
        go_wp2_with fail
        go_roundw
        case rel =>
          refine ⟨1, .slice Av nl cv, by omega, ?_, HRX.out, HRS.out, ?_, HO2.out, HC2.out⟩
          · rw [HK0.out]; rfl
          · have : oneBk bars us 1 = ob := by unfold oneBk; rw [if_neg (by decide), HOB.out]
            rw [this]; exact HRB.out
        case measure => simp [intOf]; omega
      obtain ⟨j, hj⟩ : ∃ j, k = j + 1 := ⟨k - 1, by omega⟩
      have hjs : j < ss.length := by omega
      obtain ⟨A', cap', bb', off', hve, hA, hc⟩ := RP.cells hS
      obtain ⟨rfl, hbb'⟩ := hA (by omega)
      injection hve with q1 q2 q3
      subst q1 q3
      obtain ⟨u, d1, hu1⟩ := hc j hjs
      obtain ⟨At, ct, rfl⟩ := hu1.slice
      have hwp := HV.out.wpos _ (nthS_mem hjs)
      have HOS := Lib.hid (oneW_succ ss us j)
      have hkj : k - 1 = j := by omega
      have HNK : Hid (numAt us (j + 1) = n) := Lib.hid (by rw [← hj]; exact HN.out)
      obtain ⟨q, hq⟩ : ∃ q, n % (nthS ss j).length = q := ⟨_, rfl⟩
      have hql : q < (nthS ss j).length := by rw [← hq]; exact Nat.mod_lt _ hwp.1
      have HQQ := Lib.hid hq
      obtain ⟨p, hp⟩ : ∃ p, (nthS ss j).length = p := ⟨_, rfl⟩
      rw [hp] at d1 hql hwp hq
      have r0 : (n : Int).tmod (p : Int) = (q : Int) := by rw [Int.tmod_eq_emod_of_nonneg (by omega), ← Int.natCast_emod, hq]
      have r2 : (0 : Int).tmod (p : Int) = (q : Int) := by have h9 := r0; rw [HZ.out] at h9; exact h9
      have y0 : ((p : Int) == 0) = false := beq_eq_false_iff_ne.2 (by omega)
      have y1 : (p : Int) ≠ 0 := by omega
      have y3 : (p = 0) = False := eq_false (by omega)
      have w1 : IntKind.i64.wrap (q : Int) = (q : Int) := by rw [IntKind.wrap_i64]; omega
      have w2 : IntKind.i64.wrap ((k : Int) - 1) = (j : Int) := by rw [IntKind.wrap_i64]; omega
      have wk : IntKind.i64.wrap ((k : Int) + 1) = (k : Int) + 1 := by rw [IntKind.wrap_i64]; omega
      have dk : ((k : Int) == 0) = false := beq_eq_false_iff_ne.2 (by omega)
      have hji : (j : Int) < (ss.length : Int) := by omega
      have HJ := Lib.hid hj
      have HKJ := Lib.hid hkj
      have hown := HOW.out
      rw [hkj] at hown
      have HPP := Lib.hid hp
      clear hA hc q2 hu1 hwp hq hp r0 hkj hj hk0
      have lbx := bx.lt
      have bxc0 := bx.cell 0
      have bxc1 := bx.cell 1
      simp at bxc0 bxc1
      have lrb := rb.lt
      have rbc0 := rb.cell 0
      have rbc1 := rb.cell 1
      simp at rbc0 rbc1
      go_upto_region 10 with fail
      refine wp_region_noPanic (plain_any [0, 1, 2, 3, 4, 5, 6, 7, 8, 9, 10, 11] (Below wr.heap.size wr) mixed ?_)
      refine any_tk 0 ?_
      have d0z : Below wr.heap.size wr wr.drew := by exact bel_of
      refine any_tk 1 ?_
      refine any_tk 2 ?_
      refine any_tk 3 ?_
      refine any_tk 4 ?_
      refine any_tk 5 ?_
      refine any_tk 6 ?_
      refine any_tk 7 ?_
      refine any_tk 8 ?_
      refine any_tk 9 ?_
      refine any_tk 10 ?_
      refine any_tk 11 ?_
      have qz1 := d0z.size
      have ez1 : Below wr.heap.size wr (wr.drew.alloc (.cells #[.int .i64 (q : Int)] 3)) := by exact bel_of
      refine any_run1 (i := 12) (by kernel_rfl) (by rfl) (by kernel_rfl) ?_
      intro K hK
      go_wp2_with fail
      refine hK _ _ (fun _ => ez1) ?_
      clear hK K
      have b9 : BK (wr.drew.alloc (.cells #[.int .i64 (q : Int)] 3)) (wr.drew.heap.size) #[.int .i64 (q : Int)] 3 := BK.new' _ _ _ _ rfl
      have o9 := own_below hown ez1
      have bx9 := bx.below ez1 bx.lt
      have rs9 := rs.below ez1 rs.lt
      have rb9 := rb.below ez1 rb.lt
      obtain ⟨v9, w9, hrun, hown', hbel, hsz, hkeep⟩ := app_b_i int_info int_slice o9 b9 (by rw [oneW_len]; omega) (by have := ez1.size; have := hC.size; omega)
      have hC9 := hbel w (hC.trans (ez1.mono (by have := hC.size; omega)))
      replace bx9 := hkeep _ _ _ bx9 (by decide)
      replace rs9 := hkeep _ _ _ rs9 (by decide)
      replace rb9 := hkeep _ _ _ rb9 (by decide)
      obtain ⟨A9, c9, rfl⟩ := own_slice hown'
      have hln : (oneW ss us j ++ [(q : Int)]).length = j + 1 := by rw [List.length_append, oneW_len]; rfl
      have hwq : oneW ss us (j + 1) = oneW ss us j ++ [(q : Int)] := by rw [HOS.out, HNK.out, HQQ.out]
      have hjl : (oneW ss us j).length = nl := by have h8 := HNL.out; have h9 := HKJ.out; rw [oneW_len] at h8 ⊢; omega
      rw [hln, hjl] at hrun
      clear hjl
      have hown3 := own_ri_set hown' rb9 (by decide) 1 (.slice A9 (j + 1) c9)
      rw [← hwq, oneW_len] at hown3
      have HO9 := Lib.hid hown3
      have hb2 := rb9.set 1 (.slice A9 (j + 1) c9)
      simp at hb2
      have HRB := Lib.hid hb2
      have HRX := Lib.hid (bx9.far (p := ⟨n0 + 1 + 1, 1, none⟩) (by show n0 ≠ n0 + 1 + 1; omega) (.slice A9 (j + 1) c9))
      have HRS := Lib.hid (rs9.far (p := ⟨n0 + 1 + 1, 1, none⟩) (by show n0 + 1 ≠ n0 + 1 + 1; omega) (.slice A9 (j + 1) c9))
      have HC9 : Hid (Below n0 w (w9.setCell ⟨n0 + 1 + 1, 1, none⟩ (.slice A9 (j + 1) c9))) := Lib.hid (Below.setCell hC9 HQ.out.2.2 _)
      have HRUN := Lib.hid hrun
      have lr9 := rb9.lt
      have rc9 := rb9.cell 1
      simp at rc9
      have rf9 := rb9.frozen 1
      clear hrun hown' hbel b9 o9 hC9 hsz hkeep hown hown3 hb2 hln hwq bx9 rs9 rb9
      refine any_run1 (i := 13) (by kernel_rfl) (by rfl) (by kernel_rfl) ?_
      intro K hK
      refine wp_append_run (.tmp 35) (.tmp 46) 40 _ rfl HRUN.out ?_
      refine hK _ _ (fun hx => (Bool.false_ne_true (hx.symm.trans (by kernel_rfl))).elim) ?_
      clear hK K
      simp only [List.getElem_toArray, List.getElem_cons_succ, List.getElem_cons_zero, Act.put, List.setIfInBounds_toArray, List.set_cons_succ, List.set_cons_zero]
      refine any_run1 (i := 14) (by kernel_rfl) (by rfl) (by kernel_rfl) ?_
      intro K hK
      go_wp2_with fail
      refine hK _ _ (fun hx => (Bool.false_ne_true (hx.symm.trans (by kernel_rfl))).elim) ?_
      clear hK K
      refine any_run1 (i := 15) (by kernel_rfl) (by rfl) (by kernel_rfl) ?_
      intro K hK
      go_wp2_with fail
      refine hK _ _ (fun hx => (Bool.false_ne_true (hx.symm.trans (by kernel_rfl))).elim) ?_
      clear hK K
      refine any_done (by kernel_rfl) (NoPanic.normal ?_)
      clear bx rs rb lr9 rc9 rf9
      go_wp2_with fail
      go_roundw
      case rel =>
        refine ⟨k + 1, .slice A9 (j + 1) c9, by omega, by go_num, HRX.out, HRS.out, ?_, ?_, HC9.out⟩
        · have : oneBk bars us (k + 1) = oneBk bars us k := by unfold oneBk; rw [if_neg (by omega), if_neg (by have := HJ.out; omega)]
          rw [this]; exact HRB.out
        · rw [show k + 1 - 1 = j + 1 by have := HJ.out; omega]; exact HO9.out
      case measure => simp [intOf]; omega
    have zu : (us.length : Int) > 0 := by omega
    obtain ⟨s, hs⟩ : ∃ s, k % us.length = s := ⟨_, rfl⟩
    have hsl : s < us.length := by rw [← hs]; exact Nat.mod_lt _ (by omega)
    have hng : us.getD s 0 = n := by rw [← hn, ← hs]; unfold numAt; rw [if_neg hu0]
    have e1 : (k : Int) % (us.length : Int) = (s : Int) := by rw [← Int.natCast_emod, hs]
    have t1 : (k : Int).tmod (us.length : Int) = (s : Int) := by rw [Int.tmod_eq_emod_of_nonneg (by omega), e1]
    have ye0 : ((us.length : Int) == 0) = false := beq_eq_false_iff_ne.2 (by omega)
    have ye2 : (us.length : Int) ≠ 0 := by omega
    obtain ⟨A', cap', bb, off, hve, hA, hc⟩ := RU.cells hU
    obtain ⟨rfl, hbb⟩ := hA (by omega)
    injection hve with q1 q2 q3
    subst q1 q3
    have hcl := hc s hsl
    rw [hng] at hcl
    clear hA hc q2 hs hn hng hu0
    have lbx := bx.lt
    have bxc0 := bx.cell 0
    have bxc1 := bx.cell 1
    simp at bxc0 bxc1
    have lrb := rb.lt
    have rbc0 := rb.cell 0
    have rbc1 := rb.cell 1
    simp at rbc0 rbc1
    go_upto_region 8 with fail
    clear lbx bxc0 bxc1
    clear lrb rbc0 rbc1
    clear zu e1 t1 ye0 ye2 hcl hbb hsl
    by_cases hk0 : k = 0
    case pos =>
      have hrm : n % bars.length = oneB bars us := by have := HN.out; rw [hk0] at this; rw [← this]; rfl
      have hrm2 : (n : Int) % (bars.length : Int) = (oneB bars us : Int) := by rw [← Int.natCast_emod, hrm]
      have hown2 := own_ri_set HOW.out rb (by decide) 0 (.int .i64 (oneB bars us : Nat))
      rw [HNL.out] at hown2
      have hz : oneW ss us (k - 1) = oneW ss us (1 - 1) := by rw [hk0]
      rw [hz] at hown2
      have d0 : ((k : Int) == 0) = true := by rw [hk0]; rfl
      have r1 : (n : Int) % (bars.length : Int) = (oneB bars us : Int) := by exact hrm2
      have r2 : (n : Int).tmod (bars.length : Int) = (oneB bars us : Int) := by rw [Int.tmod_eq_emod_of_nonneg (by omega), r1]
      have y0 : ((bars.length : Int) == 0) = false := beq_eq_false_iff_ne.2 (by omega)
      have y1 : (bars.length : Int) ≠ 0 := by omega
      have hol : oneB bars us < bars.length := Nat.mod_lt _ hbp
      obtain ⟨ob, hob⟩ : ∃ n, oneB bars us = n := ⟨_, rfl⟩
      rw [hob] at r1 r2 hol hown2
      have HO2 := Lib.hid hown2
      have HOB := Lib.hid hob
      have w1 : IntKind.i64.wrap (ob : Int) = (ob : Int) := by rw [IntKind.wrap_i64]; omega
      have wk : IntKind.i64.wrap ((k : Int) + 1) = (k : Int) + 1 := by rw [IntKind.wrap_i64]; omega
      have HK0 := Lib.hid hk0
      clear hob hrm hrm2 hown2 hz hk0
      have lbx := bx.lt
      have bxc0 := bx.cell 0
      have bxc1 := bx.cell 1
      simp at bxc0 bxc1
      have lrb := rb.lt
      have rbc0 := rb.cell 0
      have rbc1 := rb.cell 1
      simp at rbc0 rbc1
      have rbf0 := rb.frozen 0
      have HC2 : Hid (Below n0 w (wr.setCell ⟨n0 + 1 + 1, 0, none⟩ (.int .i64 (ob : Int)))) := Lib.hid (Below.setCell hC HQ.out.2.2 _)
      have hb2 := rb.set 0 (.int .i64 (ob : Int))
      simp at hb2
      have HRB := Lib.hid hb2
      have HRX := Lib.hid (bx.far (p := ⟨n0 + 1 + 1, 0, none⟩) (by show n0 ≠ n0 + 1 + 1; omega) (.int .i64 (ob : Int)))
      have HRS := Lib.hid (rs.far (p := ⟨n0 + 1 + 1, 0, none⟩) (by show n0 + 1 ≠ n0 + 1 + 1; omega) (.int .i64 (ob : Int)))
      clear hb2 bx rs rb hC
      go_wp2_with fail
      go_roundw
      case rel =>
        refine ⟨1, .slice Av nl cv, by omega, ?_, HRX.out, HRS.out, ?_, HO2.out, HC2.out⟩
        · rw [HK0.out]; rfl
        · have : oneBk bars us 1 = ob := by unfold oneBk; rw [if_neg (by decide), HOB.out]
          rw [this]; exact HRB.out
      case measure => simp [intOf]; omega
    obtain ⟨j, hj⟩ : ∃ j, k = j + 1 := ⟨k - 1, by omega⟩
    have hjs : j < ss.length := by omega
    obtain ⟨A', cap', bb', off', hve, hA, hc⟩ := RP.cells hS
    obtain ⟨rfl, hbb'⟩ := hA (by omega)
    injection hve with q1 q2 q3
    subst q1 q3
    obtain ⟨u, d1, hu1⟩ := hc j hjs
    obtain ⟨At, ct, rfl⟩ := hu1.slice
    have hwp := HV.out.wpos _ (nthS_mem hjs)
    have HOS := Lib.hid (oneW_succ ss us j)
    have hkj : k - 1 = j := by omega
    have HNK : Hid (numAt us (j + 1) = n) := Lib.hid (by rw [← hj]; exact HN.out)
    obtain ⟨q, hq⟩ : ∃ q, n % (nthS ss j).length = q := ⟨_, rfl⟩
    have hql : q < (nthS ss j).length := by rw [← hq]; exact Nat.mod_lt _ hwp.1
    have HQQ := Lib.hid hq
    obtain ⟨p, hp⟩ : ∃ p, (nthS ss j).length = p := ⟨_, rfl⟩
    rw [hp] at d1 hql hwp hq
    have r0 : (n : Int).tmod (p : Int) = (q : Int) := by rw [Int.tmod_eq_emod_of_nonneg (by omega), ← Int.natCast_emod, hq]
    have r2 : (n : Int).tmod (p : Int) = (q : Int) := by exact r0
    have y0 : ((p : Int) == 0) = false := beq_eq_false_iff_ne.2 (by omega)
    have y1 : (p : Int) ≠ 0 := by omega
    have y3 : (p = 0) = False := eq_false (by omega)
    have w1 : IntKind.i64.wrap (q : Int) = (q : Int) := by rw [IntKind.wrap_i64]; omega
    have w2 : IntKind.i64.wrap ((k : Int) - 1) = (j : Int) := by rw [IntKind.wrap_i64]; omega
    have wk : IntKind.i64.wrap ((k : Int) + 1) = (k : Int) + 1 := by rw [IntKind.wrap_i64]; omega
    have dk : ((k : Int) == 0) = false := beq_eq_false_iff_ne.2 (by omega)
    have hji : (j : Int) < (ss.length : Int) := by omega
    have HJ := Lib.hid hj
    have HKJ := Lib.hid hkj
    have hown := HOW.out
    rw [hkj] at hown
    have HPP := Lib.hid hp
    clear hA hc q2 hu1 hwp hq hp r0 hkj hj hk0
    have lbx := bx.lt
    have bxc0 := bx.cell 0
    have bxc1 := bx.cell 1
    simp at bxc0 bxc1
    have lrb := rb.lt
    have rbc0 := rb.cell 0
    have rbc1 := rb.cell 1
    simp at rbc0 rbc1
    go_upto_region 10 with fail
    refine wp_region_noPanic (plain_any [0, 1, 2, 3, 4, 5, 6, 7, 8, 9, 10, 11] (Below wr.heap.size wr) mixed ?_)
    refine any_tk 0 ?_
    have d0z : Below wr.heap.size wr wr.drew := by exact bel_of
    refine any_tk 1 ?_
    refine any_tk 2 ?_
    refine any_tk 3 ?_
    refine any_tk 4 ?_
    refine any_tk 5 ?_
    refine any_tk 6 ?_
    refine any_tk 7 ?_
    refine any_tk 8 ?_
    refine any_tk 9 ?_
    refine any_tk 10 ?_
    refine any_tk 11 ?_
    have qz1 := d0z.size
    have ez1 : Below wr.heap.size wr (wr.drew.alloc (.cells #[.int .i64 (q : Int)] 3)) := by exact bel_of
    refine any_run1 (i := 12) (by kernel_rfl) (by rfl) (by kernel_rfl) ?_
    intro K hK
    go_wp2_with fail
    refine hK _ _ (fun _ => ez1) ?_
    clear hK K
    have b9 : BK (wr.drew.alloc (.cells #[.int .i64 (q : Int)] 3)) (wr.drew.heap.size) #[.int .i64 (q : Int)] 3 := BK.new' _ _ _ _ rfl
    have o9 := own_below hown ez1
    have bx9 := bx.below ez1 bx.lt
    have rs9 := rs.below ez1 rs.lt
    have rb9 := rb.below ez1 rb.lt
    obtain ⟨v9, w9, hrun, hown', hbel, hsz, hkeep⟩ := app_b_i int_info int_slice o9 b9 (by rw [oneW_len]; omega) (by have := ez1.size; have := hC.size; omega)
    have hC9 := hbel w (hC.trans (ez1.mono (by have := hC.size; omega)))
    replace bx9 := hkeep _ _ _ bx9 (by decide)
    replace rs9 := hkeep _ _ _ rs9 (by decide)
    replace rb9 := hkeep _ _ _ rb9 (by decide)
    obtain ⟨A9, c9, rfl⟩ := own_slice hown'
    have hln : (oneW ss us j ++ [(q : Int)]).length = j + 1 := by rw [List.length_append, oneW_len]; rfl
    have hwq : oneW ss us (j + 1) = oneW ss us j ++ [(q : Int)] := by rw [HOS.out, HNK.out, HQQ.out]
    have hjl : (oneW ss us j).length = nl := by have h8 := HNL.out; have h9 := HKJ.out; rw [oneW_len] at h8 ⊢; omega
    rw [hln, hjl] at hrun
    clear hjl
    have hown3 := own_ri_set hown' rb9 (by decide) 1 (.slice A9 (j + 1) c9)
    rw [← hwq, oneW_len] at hown3
    have HO9 := Lib.hid hown3
    have hb2 := rb9.set 1 (.slice A9 (j + 1) c9)
    simp at hb2
    have HRB := Lib.hid hb2
    have HRX := Lib.hid (bx9.far (p := ⟨n0 + 1 + 1, 1, none⟩) (by show n0 ≠ n0 + 1 + 1; omega) (.slice A9 (j + 1) c9))
    have HRS := Lib.hid (rs9.far (p := ⟨n0 + 1 + 1, 1, none⟩) (by show n0 + 1 ≠ n0 + 1 + 1; omega) (.slice A9 (j + 1) c9))
    have HC9 : Hid (Below n0 w (w9.setCell ⟨n0 + 1 + 1, 1, none⟩ (.slice A9 (j + 1) c9))) := Lib.hid (Below.setCell hC9 HQ.out.2.2 _)
    have HRUN := Lib.hid hrun
    have lr9 := rb9.lt
    have rc9 := rb9.cell 1
    simp at rc9
    have rf9 := rb9.frozen 1
    clear hrun hown' hbel b9 o9 hC9 hsz hkeep hown hown3 hb2 hln hwq bx9 rs9 rb9
    refine any_run1 (i := 13) (by kernel_rfl) (by rfl) (by kernel_rfl) ?_
    intro K hK
    refine wp_append_run (.tmp 35) (.tmp 46) 40 _ rfl HRUN.out ?_
    refine hK _ _ (fun hx => (Bool.false_ne_true (hx.symm.trans (by kernel_rfl))).elim) ?_
    clear hK K
    simp only [List.getElem_toArray, List.getElem_cons_succ, List.getElem_cons_zero, Act.put, List.setIfInBounds_toArray, List.set_cons_succ, List.set_cons_zero]
    refine any_run1 (i := 14) (by kernel_rfl) (by rfl) (by kernel_rfl) ?_
    intro K hK
    go_wp2_with fail
    refine hK _ _ (fun hx => (Bool.false_ne_true (hx.symm.trans (by kernel_rfl))).elim) ?_
    clear hK K
    refine any_run1 (i := 15) (by kernel_rfl) (by rfl) (by kernel_rfl) ?_
    intro K hK
    go_wp2_with fail
    refine hK _ _ (fun hx => (Bool.false_ne_true (hx.symm.trans (by kernel_rfl))).elim) ?_
    clear hK K
    refine any_done (by kernel_rfl) (NoPanic.normal ?_)
    clear bx rs rb lr9 rc9 rf9
    go_wp2_with fail
    go_roundw
    case rel =>
      refine ⟨k + 1, .slice A9 (j + 1) c9, by omega, by go_num, HRX.out, HRS.out, ?_, ?_, HC9.out⟩
      · have : oneBk bars us (k + 1) = oneBk bars us k := by unfold oneBk; rw [if_neg (by omega), if_neg (by have := HJ.out; omega)]
        rw [this]; exact HRB.out
      · rw [show k + 1 - 1 = j + 1 by have := HJ.out; omega]; exact HO9.out
    case measure => simp [intOf]; omega
end Go.Proofs.Ytkibdciomheekaa
