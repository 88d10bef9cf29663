/- The reference's table of what blows from a station on cost at least. The reference's table of what blows from a station on cost at least: the walk. Cost of the reference. WarpPulls: the walk. The bound of pulls is what the definition says, or the error; pulls that are returned have what best blows cost as their bound; for every blade and pulls. -/
import Derived.Test.YtgbegdjakadbbaaP18
import Derived.Test.YtgbegdjakadbbaaP6
import Derived.Test.YtgbegdjakadbbaaP10
import Derived.Test.YtgbegdjakadbbaaP27
import Derived.Test.YtgbegdjakadbbaaRows
import Derived.Test.YtgbegdjakadbbaaP26
set_option linter.all false
set_option linter.unnecessarySimpa false
set_option linter.unusedSimpArgs false
set_option linter.unusedVariables false
set_option linter.unusedSectionVars false

set_option linter.all false
attribute [local go_sem] Go.Oper.semAt_some
namespace Go.Proofs.Ytgbegdjakadbbaa
open Go.RowKit Vp

set_option maxHeartbeats 8000000 in
set_option maxRecDepth 100000 in
theorem rowR_any (w : World) : Calls Try.prog 77 #[] w fun e w' => e = .returned (.slice (some ⟨w.heap.size, 0, none⟩) 401 401) ∧ Gv w' w.heap.size 2 401 (iV neverR) ∧ w'.heap.size = w.heap.size + 1 ∧ Below w.heap.size w w' := by
  obtain ⟨n0, hn0⟩ : ∃ n, w.heap.size = n := ⟨_, rfl⟩
  obtain ⟨W1, hmk, hG, hs1, hb1⟩ := make_ints 401 (by decide) w n0 hn0
  rw [show ((401 : Nat) : Int) = 401 from rfl] at hmk
  rw [hn0] at hb1 ⊢
  have HG := Lib.hid hG
  have HB := Lib.hid hb1
  have HS := Lib.hid hs1
  clear hG hb1 hs1
  go_enter Try.func77, Try.ntmps77
  go_upto_region 2 with fail
  clear hmk
  go_wp2_with fail
  go_loopw [2] (fun iv wr => ∃ x : Nat, x ≤ 401 ∧ iv = .int .i64 (x : Int) ∧ Gv wr n0 2 401 (iV (nvR x)) ∧ Below n0 w wr ∧ wr.heap.size = n0 + 1) (fun iv _ => 401 - (intOf iv).toNat)
  case atStart => exact ⟨0, Nat.zero_le _, rfl, by rw [nvR_zero]; exact HG.out, HB.out, HS.out⟩
  case round =>
    clear HG HB HS
    obtain ⟨x, hx, rfl, hG, hB, hS⟩ := hrel
    by_cases hlt : x < 401
    case neg =>
      obtain rfl : x = 401 := by omega
      have HF := Lib.hid (And.intro (hG.congr (V' := iV neverR) fun i hi => by unfold iV; rw [nvR_all i hi]) (And.intro hS hB))
      clear hG hB hS
      go_wp2_with fail
      go_ret
      exact ⟨rfl, HF.out.1, HF.out.2.1, HF.out.2.2⟩
    have hlt' : (x : Int) < 401 := by omega
    have z1 := hG.cell hlt
    have f1 := hG.frozen x
    have l1 := hG.lt
    have hset := hG.set x (.int .i64 never)
    rw [iV_set, show (fun j => if j = x then never else nvR x j) = nvR (x + 1) from nvR_succ x] at hset
    have HF := Lib.hid (And.intro hset (And.intro (Below.setCell hB (p := ⟨n0, x, none⟩) (by show n0 ≤ n0; omega) (.int .i64 never)) (show (wr.setCell ⟨n0, x, none⟩ (.int .i64 never)).heap.size = n0 + 1 by simpa [World.setCell] using hS)))
    clear hG hB hS hset
    go_wp2_with fail
    go_roundw
    case rel => exact ⟨x + 1, by omega, by go_num, HF.out.1, HF.out.2.1, HF.out.2.2⟩
    case measure => simp [intOf]; omega
/-- Rows of a table in memory: the slices in the block gO, from i on. -/
structure Tab (W : World) (gO n i : Nat) (Q : Nat → Nat) (V : Nat → Value) (F : Nat → Row) : Prop where
  o : Gv W gO 25 (n + 1) V
  v : ∀ j, i ≤ j → j ≤ n → V j = .slice (some ⟨Q j, 0, none⟩) 401 401
  q : ∀ j, i ≤ j → j ≤ n → gO < Q j
  r : ∀ j, i ≤ j → j ≤ n → Gv W (Q j) 2 401 (iV (F j))
section
variable {W W' : World} {gO n i : Nat} {Q : Nat → Nat} {V : Nat → Value} {F : Nat → Row}
theorem Tab.next (h : Tab W gO n i Q V F) (hb : Below W.heap.size W W') : Tab W' gO n i Q V F :=
  ⟨h.o.below hb h.o.lt, h.v, h.q, fun j h1 h2 => (h.r j h1 h2).below hb (h.r j h1 h2).lt⟩
theorem Tab.far (h : Tab W gO n i Q V F) {p : Addr} (hO : gO ≠ p.block) (hq : ∀ j, i ≤ j → j ≤ n → Q j ≠ p.block) (u : Value) : Tab (W.setCell p u) gO n i Q V F :=
  ⟨h.o.far hO u, h.v, h.q, fun j h1 h2 => (h.r j h1 h2).far (hq j h1 h2) u⟩
/-- A row more. -/
theorem Tab.more (h : Tab W gO n (i + 1) Q V F) (hi : i ≤ n) {q : Nat} (hq : gO < q) (hr : Gv W q 2 401 (iV (F i))) : Tab (W.setCell ⟨gO, i, none⟩ (.slice (some ⟨q, 0, none⟩) 401 401)) gO n i (fun j => if j = i then q else Q j) (seV V i (.slice (some ⟨q, 0, none⟩) 401 401)) F := by
  refine ⟨h.o.set _ _, fun j h1 h2 => ?_, fun j h1 h2 => ?_, fun j h1 h2 => ?_⟩
  · by_cases e : j = i
    · subst e; rw [seV_same]; simp
    · rw [seV_other _ _ e, h.v j (by omega) h2]; simp [e]
  · by_cases e : j = i
    · subst e; simp; exact hq
    · simp [e]; exact h.q j (by omega) h2
  · by_cases e : j = i
    · subst e; simp; exact hr.far (by show q ≠ gO; omega) _
    · simp [e]
      have := h.q j (by omega) h2
      exact (h.r j (by omega) h2).far (by show Q j ≠ gO; omega) _
end
end Go.Proofs.Ytgbegdjakadbbaa

set_option linter.all false
attribute [local go_sem] Go.Oper.semAt_some
namespace Go.Proofs.Ytgbegdjakadbbaa
open Go.RowKit Vp

/-- What lies while the row of station k is made. -/
structure TgS (w : World) (n0 gO n k q gt : Nat) (vb : Value) (m : Int) (t : Rg) (Q : Nat → Nat) (V : Nat → Value) (F : Nat → Row) (R : Row) (W : World) : Prop where
  below : Below n0 w W
  bx : BK W n0 #[vb, .int .i64 m] 24
  tab : Tab W gO n (k + 1) Q V F
  vk : V k = .slice (some ⟨q, 0, none⟩) 401 401
  rk : Gv W q 2 401 (iV R)
  tb : BK W gt #[.int .i64 t.lo, .int .i64 t.hi] 42
  ne : ∀ j, k + 1 ≤ j → j ≤ n → Q j ≠ q
  o1 : n0 < gO
  o2 : gO < q
  o3 : q < gt
section
variable {w : World} {n0 gO n k q gt : Nat} {vb : Value} {m : Int} {t : Rg} {Q : Nat → Nat} {V : Nat → Value} {F : Nat → Row} {R : Row} {W W' : World}
theorem TgS.next (h : TgS w n0 gO n k q gt vb m t Q V F R W) (hb : Below W.heap.size W W') (hn : w.heap.size = n0) : TgS w n0 gO n k q gt vb m t Q V F R W' :=
  ⟨h.below.trans (hb.mono (by have := h.below.size; omega)), h.bx.below hb h.bx.lt, h.tab.next hb, h.vk, h.rk.below hb h.rk.lt, h.tb.below hb h.tb.lt, h.ne, h.o1, h.o2, h.o3⟩
theorem TgS.set (h : TgS w n0 gO n k q gt vb m t Q V F R W) (x : Nat) (b : Int) : TgS w n0 gO n k q gt vb m t Q V F (seR R x b) (W.setCell ⟨q, x, none⟩ (.int .i64 b)) := by
  have o1 := h.o1
  have o2 := h.o2
  have o3 := h.o3
  have hs := h.rk.set x (.int .i64 b)
  rw [iV_set] at hs
  exact ⟨h.below.setCell (by show n0 ≤ q; omega) _, h.bx.far (by show n0 ≠ q; omega) _, h.tab.far (by show gO ≠ q; omega) (fun j h1 h2 => h.ne j h1 h2) _, h.vk, hs, h.tb.far (by show gt ≠ q; omega) _, h.ne, o1, o2, o3⟩
theorem TgS.tabk (h : TgS w n0 gO n k q gt vb m t Q V F R W) (he : ∀ x, x < 401 → R x = F k x) : Tab W gO n k (fun j => if j = k then q else Q j) V F := by
  refine ⟨h.tab.o, fun j h1 h2 => ?_, fun j h1 h2 => ?_, fun j h1 h2 => ?_⟩
  · by_cases e : j = k
    · subst e; simp; exact h.vk
    · simp [e]; exact h.tab.v j (by omega) h2
  · by_cases e : j = k
    · subst e; simp; exact h.o2
    · simp [e]; exact h.tab.q j (by omega) h2
  · by_cases e : j = k
    · subst e; simp; exact h.rk.congr fun i hi => by unfold iV; rw [he i hi]
    · simp [e]; exact h.tab.r j (by omega) h2
end
theorem Tab.put {W : World} {gO n i : Nat} {Q : Nat → Nat} {V : Nat → Value} {F : Nat → Row} (h : Tab W gO n (i + 1) Q V F) (u : Value) : Tab (W.setCell ⟨gO, i, none⟩ u) gO n (i + 1) Q (seV V i u) F :=
  ⟨h.o.set _ _, fun j h1 h2 => by rw [seV_other _ _ (by omega)]; exact h.v j h1 h2, h.q, fun j h1 h2 => (h.r j h1 h2).far (by have := h.q j h1 h2; show Q j ≠ gO; omega) _⟩
def tgT (m : Int) (l : List St) : Nat → Row := fun j => tgR m (l.drop j)
set_option maxHeartbeats 16000000 in
set_option maxRecDepth 100000 in
theorem togoR_any (l : List St) (v : Value) (m : Int) (w : World) (hB : OkB l m) (hT : RT w w.heap.size v l) :
    Calls Try.prog 53 #[bV v m] w fun e w' => ∃ gO Q V, e = .returned (.slice (some ⟨gO, 0, none⟩) (l.length + 1) (l.length + 1)) ∧ w.heap.size ≤ gO ∧ Tab w' gO l.length 0 Q V (tgT m l) ∧ Below w.heap.size w w' := by
  unfold bV
  obtain ⟨b, off, cap, A, rfl, -, hcap⟩ := hT.slice
  obtain ⟨n0, hn0⟩ : ∃ n, w.heap.size = n := ⟨_, rfl⟩
  have hm0 := hB.lo
  have hm1 := hB.hi
  have h20 := hB.few
  have HO := Lib.hid hB.all
  have hn1 := hB.one
  rw [hn0] at hT ⊢
  have HT := Lib.hid hT
  clear hT hB
  have hb1 : Below n0 w (w.alloc (.cells #[.slice A l.length cap, .int .i64 m] 24)) := by rw [← hn0]; exact Below.alloc (Below.refl _ _) (Nat.le_refl _) _
  have bx1 := BK.new' w #[.slice A l.length cap, .int .i64 m] 24 n0 hn0
  have hs1 : (w.alloc (.cells #[.slice A l.length cap, .int .i64 m] 24)).heap.size = n0 + 1 := by simp [hn0]
  go_enter Try.func53, Try.ntmps53
  go_upto_region 1 with fail
  generalize w.alloc (.cells #[.slice A l.length cap, .int .i64 m] 24) = W1 at *
  have bxc0 := bx1.cell 0
  have lbx := bx1.lt
  simp at bxc0
  obtain ⟨W2, hmk, hG, hs2, hb2⟩ := make_slices (l.length + 1) (by omega) W1 (n0 + 1) hs1
  rw [show (((l.length + 1 : Nat)) : Int) = (l.length : Int) + 1 by omega] at hmk
  have wn : IntKind.i64.wrap ((l.length : Int) + 1) = (l.length : Int) + 1 := by rw [IntKind.wrap_i64]; omega
  obtain ⟨W3, hmk2, hG3, hs3, hb3⟩ := make_ints 401 (by decide) W2 (n0 + 1 + 1) hs2
  rw [show ((401 : Nat) : Int) = 401 from rfl] at hmk2
  have hO3 := hG.below hb3 hG.lt
  have oc := hO3.cell (i := l.length) (by omega)
  have of := hO3.frozen l.length
  have ol := hO3.lt
  have hkl : (l.length : Int) < (l.length : Int) + 1 := by omega
  have wl : IntKind.i64.wrap ((l.length : Int) - 1) = (l.length : Int) - 1 := by rw [IntKind.wrap_i64]; omega
  have hb13 : Below (n0 + 1) W1 W3 := by
    have := hb2.trans (hb3.mono hb2.size)
    rw [hs1] at this
    exact this
  have HF0 := Lib.hid (show Tab (W3.setCell ⟨n0 + 1, l.length, none⟩ (.slice (some ⟨n0 + 1 + 1, 0, none⟩) 401 401)) (n0 + 1) l.length l.length (fun j => if j = l.length then n0 + 1 + 1 else 0) (seV (fun _ => .slice none 0 0) l.length (.slice (some ⟨n0 + 1 + 1, 0, none⟩) 401 401)) (tgT m l) ∧ BK (W3.setCell ⟨n0 + 1, l.length, none⟩ (.slice (some ⟨n0 + 1 + 1, 0, none⟩) 401 401)) n0 #[.slice A l.length cap, .int .i64 m] 24 ∧ Below n0 w (W3.setCell ⟨n0 + 1, l.length, none⟩ (.slice (some ⟨n0 + 1 + 1, 0, none⟩) 401 401)) from by
    refine ⟨Tab.more (Q := fun _ => 0) (V := fun _ => .slice none 0 0) ⟨hO3, fun j h1 h2 => by omega, fun j h1 h2 => by omega, fun j h1 h2 => by omega⟩ (Nat.le_refl _) (by omega) (hG3.congr fun i hi => ?_), (bx1.below hb13 (by omega)).far (by show n0 ≠ n0 + 1; omega) _, (hb1.trans (hb13.mono (by omega))).setCell (by show n0 ≤ n0 + 1; omega) _⟩
    unfold iV tgT tgR
    rw [List.drop_length]; rfl)
  clear hG hs2 hb2 hG3 hs3 hb3 hO3 hb13 hb1 bx1 hs1
  go_upto_region 5 with fail
  generalize W3.setCell ⟨n0 + 1, l.length, none⟩ (.slice (some ⟨n0 + 1 + 1, 0, none⟩) 401 401) = W4 at *
  clear hmk hmk2 wn oc of ol hkl wl bxc0 lbx
  go_loopw [5] (fun iv wr => ∃ (k : Nat) (Q : Nat → Nat) (V : Nat → Value), k ≤ l.length ∧ iv = .int .i64 ((k : Int) - 1) ∧ Tab wr (n0 + 1) l.length k Q V (tgT m l) ∧ BK wr n0 #[.slice A l.length cap, .int .i64 m] 24 ∧ Below n0 w wr) (fun iv _ => (intOf iv + 1).toNat)
  case atStart => exact ⟨l.length, _, _, Nat.le_refl _, rfl, HF0.out.1, HF0.out.2.1, HF0.out.2.2⟩
  case round =>
    clear HF0
    obtain ⟨k, Q, V, hk, rfl, hTab, bx, hC⟩ := hrel
    cases k with
    | zero =>
      have z0 : decide ((0 : Int) ≤ ((0 : Nat) : Int) - 1) = false := by decide
      have HF := Lib.hid (And.intro hTab hC)
      clear hTab bx hC
      go_wp2_with fail
      refine bodyPost_ret (v := .slice (some ⟨n0 + 1, 0, none⟩) (l.length + 1) (l.length + 1)) (by simp [results, Try.results53, go_sem]) rfl ?_
      exact ⟨n0 + 1, Q, V, rfl, by omega, HF.out.1, HF.out.2⟩
    | succ k =>
      have hlt : k < l.length := hk
      rw [show ((k + 1 : Nat) : Int) - 1 = (k : Int) by omega]
      have z0 : decide ((0 : Int) ≤ (k : Int)) = true := decide_eq_true (by omega)
      have z1 : (0 : Int) ≤ (k : Int) := by omega
      have hkp : (k : Int) < (l.length : Int) + 1 := by omega
      have hkz : (k : Int) ≤ 20 := by omega
      go_wp2_with fail
      refine (rowR_any _).mono ?_
      rintro e w2 ⟨rfl, hGq, hsq, hbq⟩
      obtain ⟨q, hq⟩ : ∃ q, wr.heap.size = q := ⟨_, rfl⟩
      rw [hq] at hGq hsq ⊢
      have hT2 := hTab.next hbq
      have hqO : n0 + 1 < q := by have := hTab.o.lt; omega
      have hQq : ∀ j, k + 1 ≤ j → j ≤ l.length → Q j ≠ q := fun j h1 h2 => by have := (hTab.r j h1 h2).lt; omega
      have bx2 := bx.below hbq bx.lt
      have hC2 := hC.trans (hbq.mono (by have := hC.size; omega))
      have oc := hT2.o.cell (i := k) (by omega)
      have of := hT2.o.frozen k
      have ol := hT2.o.lt
      have HF := Lib.hid (show Tab (w2.setCell ⟨n0 + 1, k, none⟩ (.slice (some ⟨q, 0, none⟩) 401 401)) (n0 + 1) l.length (k + 1) Q (seV V k (.slice (some ⟨q, 0, none⟩) 401 401)) (tgT m l) ∧ Gv (w2.setCell ⟨n0 + 1, k, none⟩ (.slice (some ⟨q, 0, none⟩) 401 401)) q 2 401 (iV neverR) ∧ BK (w2.setCell ⟨n0 + 1, k, none⟩ (.slice (some ⟨q, 0, none⟩) 401 401)) n0 #[.slice A l.length cap, .int .i64 m] 24 ∧ Below n0 w (w2.setCell ⟨n0 + 1, k, none⟩ (.slice (some ⟨q, 0, none⟩) 401 401)) ∧ (w2.setCell ⟨n0 + 1, k, none⟩ (.slice (some ⟨q, 0, none⟩) 401 401)).heap.size = q + 1 from
        ⟨hT2.put _, hGq.far (by show q ≠ n0 + 1; omega) _, bx2.far (by show n0 ≠ n0 + 1; omega) _, hC2.setCell (by show n0 ≤ n0 + 1; omega) _, by simpa [World.setCell] using hsq⟩)
      clear hTab bx hC hGq hsq hbq hT2 bx2 hC2 hq
      go_upto_region 8 with fail
      clear oc of ol hkp
      generalize w2.setCell ⟨n0 + 1, k, none⟩ (.slice (some ⟨q, 0, none⟩) 401 401) = W5 at *
      have bxc0 := HF.out.2.2.1.cell 0
      have bxc1 := HF.out.2.2.1.cell 1
      have lbx := HF.out.2.2.1.lt
      simp at bxc0 bxc1
      have hT5 := RS.more (RS.below HT.out HF.out.2.2.2.1) (B' := W5.heap.size) (by omega)
      have hlt2 : (k : Int) < l.length := by omega
      go_wp2_with fail
      refine (tube_any l _ m (k : Int) _ HO.out h20 hlt2 hT5).mono ?_
      rintro e w6 ⟨rfl, hb6⟩
      rw [show tubR l (k : Int) = tub (nthS l k) by unfold tubR; rw [if_neg (by omega)]; rfl]
      unfold rV
      have htr := tub_rng (HO.out _ (nthS_mem hlt))
      have hdr : l.drop k = nthS l k :: l.drop (k + 1) := by rw [nthS_eq hlt]; exact List.drop_eq_getElem_cons hlt
      have HOP := Lib.hid (fun s (hs : s ∈ l.drop (k + 1)) => HO.out s (List.mem_of_mem_drop hs))
      have hosb := HO.out _ (nthS_mem hlt)
      obtain ⟨post, hpost⟩ : ∃ p, l.drop (k + 1) = p := ⟨_, rfl⟩
      rw [hpost] at hdr HOP
      obtain ⟨s, hse⟩ : ∃ s, nthS l k = s := ⟨_, rfl⟩
      rw [hse] at htr hdr hosb ⊢
      have HSE := Lib.hid hse
      have HDR := Lib.hid hdr
      have HPO := Lib.hid hpost
      have HOS := Lib.hid hosb
      clear hse hdr hpost hT5 bxc0 bxc1 lbx hosb
      obtain ⟨t, hte⟩ : ∃ t, tub s = t := ⟨_, rfl⟩
      rw [hte] at htr ⊢
      have HTE := Lib.hid hte
      clear hte
      go_upto_region 9 with fail
      obtain ⟨gt, hgt⟩ : ∃ g, w6.heap.size = g := ⟨_, rfl⟩
      try rw [hgt]
      have hb7 : Below W5.heap.size W5 (w6.alloc (.cells #[.int .i64 t.lo, .int .i64 t.hi] 42)) := hb6.alloc hb6.size _
      have tb := BK.new' w6 #[.int .i64 t.lo, .int .i64 t.hi] 42 gt hgt
      have hgq : q < gt := by have := hb6.size; have := HF.out.2.2.2.2; omega
      generalize w6.alloc (.cells #[.int .i64 t.lo, .int .i64 t.hi] 42) = W7 at *
      have HS0 := Lib.hid (show TgS w n0 (n0 + 1) l.length k q gt (.slice A l.length cap) m t Q (seV V k (.slice (some ⟨q, 0, none⟩) 401 401)) (tgT m l) neverR W7 from
        ⟨HF.out.2.2.2.1.trans (hb7.mono (by have := HF.out.2.2.2.1.size; omega)), HF.out.2.2.1.below hb7 HF.out.2.2.1.lt, HF.out.1.next hb7, seV_same _ _ _, HF.out.2.1.below hb7 HF.out.2.1.lt, tb, hQq, by omega, hqO, hgq⟩)
      clear hb6 hb7 tb hgt HF
      go_wp2_with fail
      go_loopw [7] (fun iv W => ∃ x : Nat, x ≤ 401 ∧ iv = .int .i64 ((x : Int) - 200) ∧ TgS w n0 (n0 + 1) l.length k q gt (.slice A l.length cap) m t Q (seV V k (.slice (some ⟨q, 0, none⟩) 401 401)) (tgT m l) (upto (tgR m (s :: post)) x) W) (fun iv _ => (201 - intOf iv).toNat)
      case atStart => exact ⟨0, Nat.zero_le _, rfl, by rw [upto_zero]; exact HS0.out⟩
      case round =>
        clear HS0
        obtain ⟨x, hx, rfl, hS⟩ := hrel
        by_cases hxl : x < 401
        case neg =>
          obtain rfl : x = 401 := by omega
          have d0 : decide (((401 : Nat) : Int) - 200 ≤ 200) = false := by decide
          have wk1 : IntKind.i64.wrap ((k : Int) - 1) = (k : Int) - 1 := by rw [IntKind.wrap_i64]; omega
          have HF := Lib.hid (And.intro (hS.tabk (fun y hy => by rw [upto_all _ y hy]; unfold tgT; rw [HDR.out])) (And.intro hS.bx hS.below))
          clear hS
          go_wp2_with fail
          go_roundw
          case rel => exact ⟨k, _, _, by omega, by congr 1, HF.out.1, HF.out.2.1, HF.out.2.2⟩
          case measure => first | (simp [intOf]; done) | (simp [intOf]; omega)
        have d0 : decide ((x : Int) - 200 ≤ 200) = true := decide_eq_true (by omega)
        have d0' : (x : Int) - 200 ≤ 200 := by omega
        obtain ⟨f, hfe⟩ : ∃ f, (x : Int) - 200 = f := ⟨_, rfl⟩
        have HFE := Lib.hid hfe
        have hfr : -200 ≤ f ∧ f ≤ 200 := by omega
        rw [hfe] at d0 d0' ⊢
        have wfm : IntKind.i64.wrap (f - m) = f - m := by rw [IntKind.wrap_i64]; omega
        have wfp : IntKind.i64.wrap (f + m) = f + m := by rw [IntKind.wrap_i64]; omega
        obtain ⟨lo, hlo⟩ : ∃ y, bLo s m f = y := ⟨_, rfl⟩
        obtain ⟨hi, hhi⟩ : ∃ y, bHi s m f = y := ⟨_, rfl⟩
        have hlo1 : lo = max t.lo (f - m) := by rw [← hlo, ← HTE.out]; rfl
        have hhi1 : hi = min t.hi (f + m) := by rw [← hhi, ← HTE.out]; rfl
        have mlo : (if t.lo < f - m then f - m else t.lo) = lo := by rw [hlo1]; omega
        have mhi : (if f + m < t.hi then f + m else t.hi) = hi := by rw [hhi1]; omega
        have HLH := Lib.hid (And.intro hlo hhi)
        have HL1 := Lib.hid (And.intro hlo1 hhi1)
        clear hlo1 hhi1
        have bxc1 := hS.bx.cell 1
        have lbx := hS.bx.lt
        have tc0 := hS.tb.cell 0
        have lt := hS.tb.lt
        simp at bxc1 tc0
        have HS := Lib.hid hS
        clear hS hlo hhi hfe
        go_wp2_with fail
        clear bxc1 lbx tc0 lt
        rename World => wb
        go_loopw [8] (fun iv W => ∃ j : Nat, j ≤ cnt lo hi ∧ iv = .int .i64 (lo + (j : Int)) ∧ TgS w n0 (n0 + 1) l.length k q gt (.slice A l.length cap) m t Q (seV V k (.slice (some ⟨q, 0, none⟩) 401 401)) (tgT m l) (inRw m s post x j) W) (fun iv _ => (hi + 1 - intOf iv).toNat)
        case atStart => exact ⟨0, Nat.zero_le _, by simp, by rw [inRw_zero]; exact HS.out⟩
        case round =>
          clear HS
          obtain ⟨j, hj, rfl, hS⟩ := hrel
          have hcn : cnt lo hi = (hi + 1 - lo).toNat := rfl
          have bxc0 := hS.bx.cell 0
          have bxc1 := hS.bx.cell 1
          have lbx := hS.bx.lt
          have tc1 := hS.tb.cell 1
          have lt := hS.tb.lt
          simp at bxc0 bxc1 tc1
          by_cases hjl : lo + (j : Int) ≤ hi
          case neg =>
            have d1 : decide (lo + (j : Int) ≤ hi) = false := decide_eq_false hjl
            have hjc : j = cnt lo hi := by omega
            have HF := Lib.hid (show TgS w n0 (n0 + 1) l.length k q gt (.slice A l.length cap) m t Q (seV V k (.slice (some ⟨q, 0, none⟩) 401 401)) (tgT m l) (upto (tgR m (s :: post)) (x + 1)) wr from by
              have h := inRw_all m s post x
              rw [HFE.out, HLH.out.1, HLH.out.2, ← hjc] at h
              rw [← h]; exact hS)
            have wf1 : IntKind.i64.wrap (f + 1) = f + 1 := by rw [IntKind.wrap_i64]; omega
            clear hS hcn hjc
            go_wp2_with fail
            go_roundw
            case rel => exact ⟨x + 1, by omega, by congr 1; have := HFE.out; omega, HF.out⟩
            case measure => first | (simp [intOf]; done) | (simp [intOf]; omega)
          have d1 : decide (lo + (j : Int) ≤ hi) = true := decide_eq_true hjl
          obtain ⟨g, hge⟩ : ∃ g, lo + (j : Int) = g := ⟨_, rfl⟩
          have hgr : -200 ≤ g ∧ g ≤ 200 ∧ -m ≤ g - f ∧ g - f ≤ m := by have := HL1.out; omega
          obtain ⟨y, hy⟩ : ∃ y : Nat, g + 200 = (y : Int) := ⟨(g + 200).toNat, by omega⟩
          have hy4 : y < 401 := by omega
          have rk := hS.rk.cell hxl
          have fk := hS.rk.frozen x
          have lk := hS.rk.lt
          have ok := hS.tab.o.cell (i := k) (by omega)
          have ok1 := hS.tab.o.cell (i := k + 1) (by omega)
          have lo' := hS.tab.o.lt
          rw [hS.vk] at ok
          rw [hS.tab.v (k + 1) (Nat.le_refl _) (by omega)] at ok1
          have r1 := (hS.tab.r (k + 1) (Nat.le_refl _) (by omega)).cell hy4
          have l1 := (hS.tab.r (k + 1) (Nat.le_refl _) (by omega)).lt
          unfold iV at rk r1
          rw [inRw_at, HFE.out, HLH.out.1] at rk
          have hTs := RS.below HT.out hS.below
          obtain ⟨As, cs, bs, os, hve, hA, hc⟩ := RT.cells hTs
          obtain ⟨rfl, hbs⟩ := hA (by omega)
          injection hve with q1 q2 q3
          subst q1 q3
          obtain ⟨-, -, -, d3⟩ := hc k hlt
          rw [HSE.out] at d3
          have hbs2 : bs < wr.heap.size := by have := hS.below.size; omega
          have hos := okSB_iff.1 HOS.out
          have hF : tgF m s post f (lo + (j : Int)) = max (g - f) (-(g - f)) * s.hard + tgR m post y := by
            unfold tgF tgR cst
            rw [hge, show (y : Int) - 200 = g by omega, Int.mul_comm]
            omega
          have hmn := mins_step hF
          have hstp := inRw_step m s post x j
          rw [HFE.out, HLH.out.1] at hstp
          have hset := hS.set x (mins (tgF m s post f) lo (j + 1))
          have hr1 := tgo_never m post ((y : Int) - 200)
          have hr0 := tgo_nonneg (m := m) (l := post) HOP.out ((y : Int) - 200)
          have hmv := mins_never (tgF m s post f) lo j
          rw [show tgT m l (k + 1) y = tgR m post y by unfold tgT; rw [HPO.out]] at r1
          rw [show tgo m post ((y : Int) - 200) = tgR m post y from rfl] at hr1 hr0
          obtain ⟨bb, hbb⟩ : ∃ b, tgR m post y = b := ⟨_, rfl⟩
          rw [hbb] at r1 hmn hr1 hr0
          obtain ⟨M, hM⟩ : ∃ M, max (g - f) (-(g - f)) = M := ⟨_, rfl⟩
          rw [hM] at hmn
          have hMr : 0 ≤ M ∧ M ≤ 200 := by omega
          have hc1 : M * s.hard ≤ 200 * 9 := Int.mul_le_mul hMr.2 (by omega) (by omega) (by omega)
          have hc0 : 0 ≤ M * s.hard := Int.mul_nonneg (by omega) (by omega)
          obtain ⟨a, ha⟩ : ∃ a, mins (tgF m s post f) lo j = a := ⟨_, rfl⟩
          obtain ⟨a2, ha2⟩ : ∃ a, mins (tgF m s post f) lo (j + 1) = a := ⟨_, rfl⟩
          rw [ha, ha2] at hmn
          rw [ha] at rk hmv
          rw [ha2] at hset hstp
          rw [hge]
          have hnv : never = 1099511627776 := rfl
          have wfx : IntKind.i64.wrap (f + 200) = (x : Int) := by have := HFE.out; rw [IntKind.wrap_i64]; omega
          have wgy : IntKind.i64.wrap (g + 200) = (y : Int) := by rw [IntKind.wrap_i64]; omega
          have wgf : IntKind.i64.wrap (g - f) = g - f := by rw [IntKind.wrap_i64]; omega
          have wk1 : IntKind.i64.wrap ((k : Int) + 1) = (k : Int) + 1 := by rw [IntKind.wrap_i64]; omega
          have wMh : IntKind.i64.wrap (M * s.hard) = M * s.hard := by rw [IntKind.wrap_i64]; omega
          have wMb : IntKind.i64.wrap (M * s.hard + bb) = M * s.hard + bb := by rw [IntKind.wrap_i64]; omega
          have wg1 : IntKind.i64.wrap (g + 1) = g + 1 := by rw [IntKind.wrap_i64]; omega
          have hk1 : (k : Int) + 1 < (l.length : Int) + 1 := by omega
          have hkp : (k : Int) < (l.length : Int) + 1 := by omega
          have hx5 : (x : Int) < 401 := by omega
          have hy5 : (y : Int) < 401 := by omega
          have hkl : (k : Int) < (l.length : Int) := by omega
          have HSET := Lib.hid hset
          have HSE2 := Lib.hid hstp
          have HCN := Lib.hid (show j + 1 ≤ cnt lo hi by rw [hcn]; omega)
          have HS := Lib.hid hS
          have HM := Lib.hid hM
          have hgf : -9223372036854775807 ≤ g - f ∧ g - f ≤ 9223372036854775807 := by omega
          clear hnv hr1 hr0 hmv hc0 hc1 hF hstp hset hS hTs hA hc hM hbb ha ha2 q2 hbs hcn hos hMr
          rw [hge] at d1 hjl
          have HGE := Lib.hid hge
          clear hge hy
          have hd1 : Below wr.heap.size wr wr.drew := Below.drew (Below.refl _ _)
          go_wp2_with fail
          refine wp_region_noPanic (plain_any [0, 1, 2, 3, 4, 5, 6, 7, 8, 9, 10, 11, 12, 13, 14, 15, 16, 18, 19, 20, 21, 22, 23, 24, 25, 26, 27, 28, 29, 30, 31, 32, 33, 34, 35, 36] (Below wr.heap.size wr) mixed ?_)
          refine any_tk 0 ?_
          refine any_tk 1 ?_
          refine any_tk 2 ?_
          refine any_tk 3 ?_
          refine any_tk 4 ?_
          refine any_tk 5 ?_
          refine any_tk 6 ?_
          refine any_tk 7 ?_
          refine any_tk 8 ?_
          refine any_tk 9 ?_
          refine any_tk 10 ?_
          refine any_tk 11 ?_
          refine any_tk 12 ?_
          refine any_tk 13 ?_
          refine any_tk 14 ?_
          refine any_tk 15 ?_
          refine any_tk 16 ?_
          refine any_tk 18 ?_
          refine any_tk 19 ?_
          refine any_tk 20 ?_
          refine any_tk 21 ?_
          refine any_tk 22 ?_
          refine any_tk 23 ?_
          refine any_tk 25 ?_
          refine any_tk 26 ?_
          refine any_tk 27 ?_
          refine any_tk 28 ?_
          refine any_tk 29 ?_
          refine any_tk 30 ?_
          refine any_tk 31 ?_
          refine any_tk 32 ?_
          refine any_tk 33 ?_
          refine any_run1 (i := 17) (by kernel_rfl) (by rfl) (by kernel_rfl) ?_
          intro K3 hK3
          go_wp2_with fail
          refine (amount_any (g - f) _ hgf).mono ?_
          rintro e w8 ⟨rfl, rfl⟩
          rw [HM.out]
          refine hK3 _ _ (fun _ => hd1) ?_
          clear hK3 K3
          refine any_tk 24 ?_
          refine any_tk 34 ?_
          refine any_tk 35 ?_
          refine any_tk 36 ?_
          have rk2 : wr.drew.cell? ⟨q, x, none⟩ = some (.int .i64 a) := rk
          have fk2 : wr.drew.frozen? ⟨q, x, none⟩ = false := fk
          have lk2 : q < wr.drew.heap.size := lk
          refine any_run1 (i := 37) (by kernel_rfl) (by rfl) (by kernel_rfl) ?_
          intro K3 hK3
          go_wp2_with fail
          refine hK3 _ _ (fun hx => (Bool.false_ne_true (hx.symm.trans (by kernel_rfl))).elim) ?_
          clear hK3 K3
          refine any_done (by kernel_rfl) (NoPanic.normal ?_)
          have HF := Lib.hid (show TgS w n0 (n0 + 1) l.length k q gt (.slice (some ⟨bs, os, none⟩) l.length cap) m t Q (seV V k (.slice (some ⟨q, 0, none⟩) 401 401)) (tgT m l) (inRw m s post x (j + 1)) (wr.drew.setCell ⟨q, x, none⟩ (.int .i64 a2)) from by
            have h := (HS.out.next hd1 hn0).set x a2
            have e : seR (inRw m s post x j) x a2 = inRw m s post x (j + 1) := HSE2.out
            rw [e] at h
            exact h)
          clear rk2 fk2 lk2 HS HSET hd1
          go_wp2_with fail
          go_roundw
          case rel => exact ⟨j + 1, by have := HGE.out; have := HCN.out; omega, by congr 1; have := HGE.out; omega, HF.out⟩
          case measure => simp [intOf]; omega
end Go.Proofs.Ytgbegdjakadbbaa

set_option linter.all false
namespace Go.Proofs.Ytgbegdjakadbbaa
open Go.RowKit Vp

set_option maxHeartbeats 8000000 in
set_option maxRecDepth 100000 in
theorem costR_any (l : List St) (v : Value) (m : Int) (w : World) (hB : OkB l m) (hT : RT w w.heap.size v l) :
    Calls Try.prog 27 #[bV v m] w fun e w' => e = .returned (.int .i64 (tgo m l 0)) ∧ Below w.heap.size w w' := by
  unfold bV
  obtain ⟨b, off, cap, A, rfl, -, hcap⟩ := hT.slice
  obtain ⟨n0, hn0⟩ : ∃ n, w.heap.size = n := ⟨_, rfl⟩
  have hC : Below n0 w w := Below.refl _ _
  go_enter Try.func27, Try.ntmps27
  go_upto_region 1 with fail
  have hC1 : Below n0 w (w.alloc (.cells #[.slice A l.length cap, .int .i64 m] 24)) := by rw [← hn0]; exact Below.alloc (Below.refl _ _) (Nat.le_refl _) _
  have bx := BK.new' w #[.slice A l.length cap, .int .i64 m] 24 n0 hn0
  have hT1 := (RS.below hT (w' := (w.alloc (.cells #[.slice A l.length cap, .int .i64 m] 24))) (Below.alloc (Below.refl _ _) (Nat.le_refl _) _)).more (B' := (w.alloc (.cells #[.slice A l.length cap, .int .i64 m] 24)).heap.size) (by simp)
  generalize (w.alloc (.cells #[.slice A l.length cap, .int .i64 m] 24)) = W1 at *
  have lbx := bx.lt
  have bxc0 := bx.cell 0
  have bxc1 := bx.cell 1
  simp at bxc0 bxc1
  go_wp2_with fail
  refine (togoR_any l _ m _ hB hT1).mono ?_
  rintro e w2 ⟨gO, Q, V, rfl, hgO, hTab, hb2⟩
  have hC2 := hC1.trans (hb2.mono (by have := hC1.size; omega))
  have oc := hTab.o.cell (i := 0) (by omega)
  have ol := hTab.o.lt
  rw [hTab.v 0 (Nat.le_refl _) (Nat.zero_le _)] at oc
  have hr := hTab.r 0 (Nat.le_refl _) (Nat.zero_le _)
  have rc := hr.cell (i := 200) (by decide)
  have rl := hr.lt
  have he : tgT m l 0 200 = tgo m l 0 := by unfold tgT tgR; rw [List.drop_zero]; rfl
  unfold iV at rc
  rw [he] at rc
  have h0 : (0 : Int) < (l.length : Int) + 1 := by omega
  have HC := Lib.hid hC2
  clear hC hC1 hC2 hTab hr he hb2 hgO hT hT1 hB bx lbx bxc0 bxc1
  obtain ⟨c, hc⟩ : ∃ c, tgo m l 0 = c := ⟨_, rfl⟩
  rw [hc] at rc
  have HCC := Lib.hid hc
  clear hc
  go_wp2_with fail
  go_ret
  exact ⟨by rw [HCC.out]; rfl, by rw [hn0]; exact HC.out⟩
end Go.Proofs.Ytgbegdjakadbbaa

set_option linter.all false
namespace Go.Proofs.Ytgbegdjakadbbaa
open Go.RowKit Vp

set_option maxHeartbeats 16000000 in
set_option maxRecDepth 100000 in
theorem warpPulls_any (l : List St) (vs : Value) (m : Int) (xs : List Int) (vx : Value) (w : World) (hT : RT w w.heap.size vs l) (hlM : l.length ≤ maxLen) (hmI : okI m) (hX : RI w w.heap.size vx xs) (hxM : xs.length ≤ maxLen) :
    Calls Try.prog 6 #[bV vs m, vx] w fun x w' => x = .returned (.bool true) ∧ Below w.heap.size w w' := by
  unfold bV
  obtain ⟨b, off, cap, A, rfl, -, hcap⟩ := hT.slice
  obtain ⟨bx0, ox0, cx, Ax, rfl, -, hxcap⟩ := hX.slice
  obtain ⟨n0, hn0⟩ : ∃ n, w.heap.size = n := ⟨_, rfl⟩
  have hC : Below n0 w w := Below.refl _ _
  go_enter Try.func6, Try.ntmps6
  go_upto_region 1 with fail
  have hqbx : n0 ≤ n0 := by have := hC.size; omega
  have bx : BK (w.alloc (.cells #[.slice A l.length cap, .int .i64 m] 24)) (n0) #[.slice A l.length cap, .int .i64 m] 24 := BK.new' _ _ _ (n0) hn0
  have hsbx : (w.alloc (.cells #[.slice A l.length cap, .int .i64 m] 24)).heap.size = n0 + 1 := by simp [hn0]
  replace hC : Below n0 w (w.alloc (.cells #[.slice A l.length cap, .int .i64 m] 24)) := Below.alloc hC (by have := hC.size; omega) _
  replace hT := (RS.below hT (w' := (w.alloc (.cells #[.slice A l.length cap, .int .i64 m] 24))) (Below.alloc (Below.refl _ _) (Nat.le_refl _) _)).more (B' := (w.alloc (.cells #[.slice A l.length cap, .int .i64 m] 24)).heap.size) (by simp)
  replace hX := (RS.below hX (w' := (w.alloc (.cells #[.slice A l.length cap, .int .i64 m] 24))) (Below.alloc (Below.refl _ _) (Nat.le_refl _) _)).more (B' := (w.alloc (.cells #[.slice A l.length cap, .int .i64 m] 24)).heap.size) (by simp)
  generalize (w.alloc (.cells #[.slice A l.length cap, .int .i64 m] 24)) = Wbx at *
  clear hsbx
  have lbx := bx.lt
  have bxc0 := bx.cell 0
  have bxc1 := bx.cell 1
  simp at bxc0 bxc1
  go_wp2_with fail
  clear lbx bxc0 bxc1
  refine (great_any l _ m _ hlM hT).mono ?_
  rintro e w1 ⟨rfl, hb⟩
  replace hC : Below n0 w w1 := hC.trans (hb.mono (by have := hC.size; omega))
  replace hT := (RS.below hT hb).more hb.size
  replace hX := (RS.below hX hb).more hb.size
  replace bx := bx.below hb bx.lt
  clear hb
  by_cases hgr : 30 < l.length
  case pos =>
    rw [decide_eq_true hgr]
    clear hgr
    go_wp2_with fail
    refine (works_any _).mono ?_
    rintro e w2 ⟨rfl, hb⟩
    replace hC : Below n0 w w2 := hC.trans (hb.mono (by have := hC.size; omega))
    replace hT := (RS.below hT hb).more hb.size
    replace hX := (RS.below hX hb).more hb.size
    replace bx := bx.below hb bx.lt
    clear hb
    go_wp2_with fail
    exact bodyPost_ret (v := .bool true) (by simp [results, Try.results6, go_sem]) rfl ⟨rfl, by first | exact hC | (rw [hn0]; exact hC) | (with_reducible rw [hn0]; exact bel_of) | exact bel_of⟩
  rw [decide_eq_false hgr]
  have hlk : l.length ≤ 1000 := by omega
  clear hgr
  have lbx := bx.lt
  have bxc0 := bx.cell 0
  have bxc1 := bx.cell 1
  simp at bxc0 bxc1
  go_wp2_with fail
  clear lbx bxc0 bxc1
  refine (wide_any l _ m _ hlk hT).mono ?_
  rintro e w2 ⟨rfl, hb⟩
  replace hC : Below n0 w w2 := hC.trans (hb.mono (by have := hC.size; omega))
  replace hT := (RS.below hT hb).more hb.size
  replace hX := (RS.below hX hb).more hb.size
  replace bx := bx.below hb bx.lt
  clear hb
  generalize ((blaE l m == 0) && decide (10 < l.length)) = q
  cases q
  case true =>
    go_wp2_with fail
    refine (works_any _).mono ?_
    rintro e w3 ⟨rfl, hb⟩
    replace hC : Below n0 w w3 := hC.trans (hb.mono (by have := hC.size; omega))
    replace hT := (RS.below hT hb).more hb.size
    replace hX := (RS.below hX hb).more hb.size
    replace bx := bx.below hb bx.lt
    clear hb
    go_wp2_with fail
    exact bodyPost_ret (v := .bool true) (by simp [results, Try.results6, go_sem]) rfl ⟨rfl, by first | exact hC | (rw [hn0]; exact hC) | (with_reducible rw [hn0]; exact bel_of) | exact bel_of⟩
  by_cases zhxl : 40 < xs.length
  case pos =>
    have zz : ((xs.length : Nat) : Int) > 40 := by omega
    have zd : decide (40 < xs.length) = true := decide_eq_true zhxl
    clear zhxl
    have lbx := bx.lt
    have bxc0 := bx.cell 0
    have bxc1 := bx.cell 1
    simp at bxc0 bxc1
    go_wp2_with fail
    clear lbx bxc0 bxc1
    refine (works_any _).mono ?_
    rintro e w3 ⟨rfl, hb⟩
    replace hC : Below n0 w w3 := hC.trans (hb.mono (by have := hC.size; omega))
    replace hT := (RS.below hT hb).more hb.size
    replace hX := (RS.below hX hb).more hb.size
    replace bx := bx.below hb bx.lt
    clear hb
    go_wp2_with fail
    exact bodyPost_ret (v := .bool true) (by simp [results, Try.results6, go_sem]) rfl ⟨rfl, by first | exact hC | (rw [hn0]; exact hC) | (with_reducible rw [hn0]; exact bel_of) | exact bel_of⟩
  have hxl : xs.length ≤ 40 := by omega
  have zzhxl : ¬ ((xs.length : Nat) : Int) > 40 := by omega
  have zdhxl : decide (40 < xs.length) = false := decide_eq_false zhxl
  clear zhxl
  have lbx := bx.lt
  have bxc0 := bx.cell 0
  have bxc1 := bx.cell 1
  simp at bxc0 bxc1
  go_wp2_with fail
  clear lbx bxc0 bxc1
  clear zzhxl zdhxl
  have hxk : xs.length ≤ 1000 := by omega
  refine (CheckPulls_any l _ m xs _ _ hlk hxk hT hX).mono ?_
  rintro e w3 ⟨rfl, hb⟩
  replace hC : Below n0 w w3 := hC.trans (hb.mono (by have := hC.size; omega))
  replace hT := (RS.below hT hb).more hb.size
  replace hX := (RS.below hX hb).more hb.size
  replace bx := bx.below hb bx.lt
  clear hb
  obtain ⟨pe, hpe⟩ : ∃ e, chpE l m xs = e := ⟨_, rfl⟩
  obtain ⟨pv, hpv⟩ : ∃ e, chpV l m xs = e := ⟨_, rfl⟩
  rw [hpe, hpv]
  have HPE := Lib.hid (And.intro hpe hpv)
  clear hpe hpv
  have lbx := bx.lt
  have bxc0 := bx.cell 0
  have bxc1 := bx.cell 1
  simp at bxc0 bxc1
  go_wp2_with fail
  clear lbx bxc0 bxc1
  refine (checkPullsR_any l _ m xs _ _ hlk hxk hT hX).mono ?_
  rintro e w4 ⟨rfl, hb⟩
  replace hC : Below n0 w w4 := hC.trans (hb.mono (by have := hC.size; omega))
  replace hT := (RS.below hT hb).more hb.size
  replace hX := (RS.below hX hb).more hb.size
  replace bx := bx.below hb bx.lt
  clear hb
  rw [HPE.out.1, HPE.out.2]
  have lbx := bx.lt
  have bxc0 := bx.cell 0
  have bxc1 := bx.cell 1
  simp at bxc0 bxc1
  go_wp2_with fail
  clear lbx bxc0 bxc1
  refine (Pulls_any l _ m _ hlk hT).mono ?_
  rintro e w5 ⟨u_p, rfl, hown, hb⟩
  replace hC : Below n0 w w5 := hC.trans (hb.mono (by have := hC.size; omega))
  replace hT := (RS.below hT hb).more hb.size
  replace hX := (RS.below hX hb).more hb.size
  replace bx := bx.below hb bx.lt
  clear hb
  have hp := OwnI.ri hown
  clear hown
  have n1 : (pe != pe) = false := by simp
  have n2 : (pv != pv) = false := by simp
  obtain ⟨e, he⟩ : ∃ e, blaE l m = e := ⟨_, rfl⟩
  by_cases h0 : e = 0
  case neg =>
    rw [show plsE l m = e by unfold plsE; rw [he, if_neg h0]]
    rw [show plsX l m = [] by unfold plsX; rw [if_neg (fun h => h0 (he.symm.trans h.1))]] at hp
    obtain ⟨Ab, cb, rfl⟩ := ri_slice hp
    simp only [List.length_nil] at hp ⊢
    have b1 : (e != 0) = true := by simp [h0]
    have b2 : (e == e) = true := beq_self_eq_true e
    have HE := Lib.hid he
    clear he h0
    have lbx := bx.lt
    have bxc0 := bx.cell 0
    have bxc1 := bx.cell 1
    simp at bxc0 bxc1
    go_wp2_with fail
    clear lbx bxc0 bxc1
    refine (checkR_any l _ m _ hlk hT).mono ?_
    rintro e w6 ⟨rfl, hb⟩
    replace hC : Below n0 w w6 := hC.trans (hb.mono (by have := hC.size; omega))
    replace hT := (RS.below hT hb).more hb.size
    replace hX := (RS.below hX hb).more hb.size
    replace bx := bx.below hb bx.lt
    replace hp := (RS.below hp hb).more hb.size
    clear hb
    rw [HE.out]
    go_wp2_with fail
    refine (works_any _).mono ?_
    rintro e w7 ⟨rfl, hb⟩
    replace hC : Below n0 w w7 := hC.trans (hb.mono (by have := hC.size; omega))
    replace hT := (RS.below hT hb).more hb.size
    replace hX := (RS.below hX hb).more hb.size
    replace bx := bx.below hb bx.lt
    replace hp := (RS.below hp hb).more hb.size
    clear hb
    go_wp2_with fail
    exact bodyPost_ret (v := .bool true) (by simp [results, Try.results6, go_sem]) rfl ⟨rfl, by first | exact hC | (rw [hn0]; exact hC) | (with_reducible rw [hn0]; exact bel_of) | exact bel_of⟩
  subst h0
  have HBE := Lib.hid he
  have hOK := blaE_ok.1 he
  have HOK := Lib.hid hOK
  clear he hOK
  have hnv : never = 1099511627776 := rfl
  obtain ⟨c, hc⟩ : ∃ c, tgo m l 0 = c := ⟨_, rfl⟩
  have HCC := Lib.hid hc
  by_cases hft : c < never
  case neg =>
    have hno := bst_no HBE.out (by rw [hc]; exact hft)
    rw [hno.2.2.1]
    rw [hno.2.2.2] at hp
    obtain ⟨Ab, cb, rfl⟩ := ri_slice hp
    simp only [List.length_nil] at hp ⊢
    have d1 : decide (1099511627776 ≤ c) = true := decide_eq_true (by rw [hnv] at hft; omega)
    have d2 : 1099511627776 ≤ c := by rw [hnv] at hft; omega
    clear hno hft hnv hc
    have lbx := bx.lt
    have bxc0 := bx.cell 0
    have bxc1 := bx.cell 1
    simp at bxc0 bxc1
    go_wp2_with fail
    clear lbx bxc0 bxc1
    refine (checkR_any l _ m _ hlk hT).mono ?_
    rintro e w6 ⟨rfl, hb⟩
    replace hC : Below n0 w w6 := hC.trans (hb.mono (by have := hC.size; omega))
    replace hT := (RS.below hT hb).more hb.size
    replace hX := (RS.below hX hb).more hb.size
    replace bx := bx.below hb bx.lt
    replace hp := (RS.below hp hb).more hb.size
    clear hb
    rw [HBE.out]
    have lbx := bx.lt
    have bxc0 := bx.cell 0
    have bxc1 := bx.cell 1
    simp at bxc0 bxc1
    go_wp2_with fail
    clear lbx bxc0 bxc1
    refine (costR_any l _ m _ HOK.out hT).mono ?_
    rintro e w7 ⟨rfl, hb⟩
    replace hC : Below n0 w w7 := hC.trans (hb.mono (by have := hC.size; omega))
    replace hT := (RS.below hT hb).more hb.size
    replace hX := (RS.below hX hb).more hb.size
    replace bx := bx.below hb bx.lt
    replace hp := (RS.below hp hb).more hb.size
    clear hb
    rw [HCC.out]
    go_wp2_with fail
    refine (works_any _).mono ?_
    rintro e w8 ⟨rfl, hb⟩
    replace hC : Below n0 w w8 := hC.trans (hb.mono (by have := hC.size; omega))
    replace hT := (RS.below hT hb).more hb.size
    replace hX := (RS.below hX hb).more hb.size
    replace bx := bx.below hb bx.lt
    replace hp := (RS.below hp hb).more hb.size
    clear hb
    go_wp2_with fail
    exact bodyPost_ret (v := .bool true) (by simp [results, Try.results6, go_sem]) rfl ⟨rfl, by first | exact hC | (rw [hn0]; exact hC) | (with_reducible rw [hn0]; exact bel_of) | exact bel_of⟩
  have hpl := pls_chp HBE.out (by rw [hc]; exact hft)
  rw [pls_yes HBE.out (by rw [hc]; exact hft)]
  rw [hc] at hpl
  have HPS := Lib.hid hpl.2
  have HPL := Lib.hid (show (plsX l m).length ≤ 1000 by rw [hpl.1]; omega)
  have d1 : decide (1099511627776 ≤ c) = false := decide_eq_false (by rw [hnv] at hft; omega)
  have qn : (c == c) = true := beq_self_eq_true c
  clear hpl hft hnv hc
  have lbx := bx.lt
  have bxc0 := bx.cell 0
  have bxc1 := bx.cell 1
  simp at bxc0 bxc1
  go_wp2_with fail
  clear lbx bxc0 bxc1
  refine (checkR_any l _ m _ hlk hT).mono ?_
  rintro e w6 ⟨rfl, hb⟩
  replace hC : Below n0 w w6 := hC.trans (hb.mono (by have := hC.size; omega))
  replace hT := (RS.below hT hb).more hb.size
  replace hX := (RS.below hX hb).more hb.size
  replace bx := bx.below hb bx.lt
  replace hp := (RS.below hp hb).more hb.size
  clear hb
  rw [HBE.out]
  have lbx := bx.lt
  have bxc0 := bx.cell 0
  have bxc1 := bx.cell 1
  simp at bxc0 bxc1
  go_wp2_with fail
  clear lbx bxc0 bxc1
  refine (costR_any l _ m _ HOK.out hT).mono ?_
  rintro e w7 ⟨rfl, hb⟩
  replace hC : Below n0 w w7 := hC.trans (hb.mono (by have := hC.size; omega))
  replace hT := (RS.below hT hb).more hb.size
  replace hX := (RS.below hX hb).more hb.size
  replace bx := bx.below hb bx.lt
  replace hp := (RS.below hp hb).more hb.size
  clear hb
  rw [HCC.out]
  have lbx := bx.lt
  have bxc0 := bx.cell 0
  have bxc1 := bx.cell 1
  simp at bxc0 bxc1
  go_wp2_with fail
  clear lbx bxc0 bxc1
  refine (checkPullsR_any l _ m (plsX l m) _ _ hlk HPL.out hT hp).mono ?_
  rintro e w8 ⟨rfl, hb⟩
  replace hC : Below n0 w w8 := hC.trans (hb.mono (by have := hC.size; omega))
  replace hT := (RS.below hT hb).more hb.size
  replace hX := (RS.below hX hb).more hb.size
  replace bx := bx.below hb bx.lt
  replace hp := (RS.below hp hb).more hb.size
  clear hb
  rw [HPS.out.1, HPS.out.2]
  go_wp2_with fail
  refine (works_any _).mono ?_
  rintro e w9 ⟨rfl, hb⟩
  replace hC : Below n0 w w9 := hC.trans (hb.mono (by have := hC.size; omega))
  replace hT := (RS.below hT hb).more hb.size
  replace hX := (RS.below hX hb).more hb.size
  replace bx := bx.below hb bx.lt
  replace hp := (RS.below hp hb).more hb.size
  clear hb
  go_wp2_with fail
  exact bodyPost_ret (v := .bool true) (by simp [results, Try.results6, go_sem]) rfl ⟨rfl, by first | exact hC | (rw [hn0]; exact hC) | (with_reducible rw [hn0]; exact bel_of) | exact bel_of⟩
end Go.Proofs.Ytgbegdjakadbbaa

namespace Go.Proofs.Ytgbegdjakadbbaa.warpPulls
open Go.ChangeShapes Go.WideShapes Go.ChangeAt Go.RowKit Go.Deep

set_option maxRecDepth 100000 in
theorem lifted (os : Os) (started : os.Started) (H : Type) (enc : TypeId × Value → H) :
    ReturnsInHanded {} Try.checked os 6 .any (Rows.warpPullsSpec.pre6 enc Try.prog Try.f6 Rows.warpPullsRow.domain false) (Rows.warpPullsSpec.post enc Try.prog Try.f6 false true false false) := by
  refine returnsInHanded_of_change (C := Try.checked) own started (by kernel_rfl) Try.func6
    (ChangeSpec.witness6 (enc := enc) (C := Try.checked) false ⟨#[], #[.agg #[.slice none 0 0, .int .i64 0], .slice none 0 0], []⟩ 8 (by kernel_rfl) (by kernel_rfl) (by kernel_rfl) (by kernel_rfl)) ?_
  intro W base args ds gs before hval0 hW hcnd _
  have hval : ∀ (j : Nat) t v, Try.f6.params[j]? = some t → args[j]? = some v → Value.okWide Try.prog W .any base t v := hval0
  have hW2 : DataW.Whole enc Try.prog Try.f6.params.toList Rows.warpPullsSpec.vars false W args.toList ds gs before := hW
  obtain ⟨p, q, hA0, hV, rfl, hfz, hnd⟩ := hW
  have hA : DataW.TrodAll enc Try.prog W 0 (fun _ => true) true Try.f6.params.toList args.toList ds p := hA0
  rw [Try.params6] at hA hval
  obtain ⟨v0, vs0, d0, ds0, p0, q0, hargs, rfl, rfl, h0, r0⟩ := trodAll_cons hA
  obtain ⟨v1, vs1, d1, ds1, p1, q1, rfl, rfl, rfl, h1, r1⟩ := trodAll_cons r0
  obtain ⟨rfl, rfl, rfl⟩ := trodAll_nil r1
  obtain rfl : args = #[v0, v1] := by cases args; simp_all
  obtain ⟨rfl, rfl⟩ := trodVars_none hV
  obtain ⟨vs0_, l0, m0, rfl, g0, k0, j0⟩ := open_blade (hval 0 24 v0 rfl rfl) h0
  obtain ⟨l1, g1, k1⟩ := open_i64s (hval 1 25 v1 rfl rfl) h1
  refine (warpPulls_any (l := l0) (m := m0) (vs := vs0_) (hT := g0) (hlM := k0) (hmI := j0) (xs := l1) (vx := v1) (hX := g1) (hxM := k1) (w := W)).mono fun e W' ⟨he, hg⟩ => ?_
  subst he
  exact ⟨_, rfl, law_done hW2 rfl rfl rfl (by rw [Try.params6]; decide +kernel) hg⟩

theorem over : Rows.warpPullsRow.holds Try.pinned (OpenSpec.ofChange Rows.warpPullsSpec) :=
  OpenClaim.holds_of_wide 6 Try.f6 rfl rfl rfl rfl rfl rfl rfl ⟨rfl, rfl, rfl, rfl, rfl⟩ rfl rfl rfl rfl rfl (by kernel_rfl) Try.func6 (by kernel_rfl)
    (of_decide_eq_true (by kernel_rfl)) (by unfold Func.isWrapper; first | (rw [if_pos (by decide +kernel)]; kernel_rfl) | (rw [if_neg (by decide +kernel)]; exact ⟨rfl, rfl⟩))
    (fun os started H enc _ => lifted os started H enc)

theorem proved : Rows.WarpPullsSaid :=
  over
end Go.Proofs.Ytgbegdjakadbbaa.warpPulls
namespace Go.Proofs.Ytgbegdjakadbbaa
theorem warpPulls_proved : Rows.WarpPullsSaid := warpPulls.proved
#print axioms warpPulls_proved
end Go.Proofs.Ytgbegdjakadbbaa
