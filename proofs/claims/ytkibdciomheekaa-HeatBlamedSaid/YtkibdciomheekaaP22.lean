/- The recipes that follow a range, one after another. -/
import Derived.Test.YtkibdciomheekaaP21
set_option linter.all false
set_option linter.unnecessarySimpa false
set_option linter.unusedSimpArgs false
set_option linter.unusedVariables false
set_option linter.unusedSectionVars false

set_option linter.all false
attribute [local go_sem] Go.Oper.semAt_some
namespace Go.Proofs.Ytkibdciomheekaa
open Go.RowKit Hp

/-- The values of a round: a list in memory, not below a block. -/
def EnL (Lall : List (List Int)) (gx : Nat) (j : Nat) (args : Array Value) (W : World) : Prop := ∃ v l, args = #[v] ∧ Lall[j]? = some l ∧ OwnI 3 W gx v l
/-- What the rounds of the iterator keep, and what a round does. -/
structure FolC (lp : Nat) (J Jx : Nat → World → Prop) (B0 gx : Nat) (T : TypeId → Prop) (Lall : List (List Int)) (wb : World) (g : Nat) (vb vs : Value) (m : Rg) (bars : List Rg) (ss : List Stp) : Prop where
  sJ : ∀ i, Stab B0 (J i)
  sJx : ∀ i, Stab B0 (Jx i)
  mem : ∀ i W1, J i W1 → Below wb.heap.size wb W1 ∧ B0 ≤ W1.heap.size
  yl : ∀ j W1 mm args, j < Lall.length → J j W1 → EnL Lall gx j args W1 → YieldAt Fence.wide mm Try.prog lp args W1 fun e W' => (e = .returned (.bool true) ∧ J (j + 1) W' ∧ Kept T B0 W1 W') ∨ (e = .returned (.bool false) ∧ Jx j W' ∧ Kept T B0 W1 W')
  nTi : ¬ T 3
  nTr : ¬ T 33
  tree : TreeM wb g vb vs m bars ss
  base : wb.heap.size ≤ B0
  gxB : gx ≤ B0
def FolPost (J Jx : Nat → World → Prop) (B0 : Nat) (T : TypeId → Prop) (o n : Nat) (W : World) (e : Ending) (W' : World) : Prop :=
  Kept T B0 W W' ∧ ((e = .returned (.bool true) ∧ J (o + n) W') ∨ (e = .returned (.bool false) ∧ ∃ t, t < n ∧ Jx (o + t) W'))
def FolSpec (lp : Nat) (J Jx : Nat → World → Prop) (B0 : Nat) (T : TypeId → Prop) (Lall : List (List Int)) (g : Nat) (m : Rg) (ss : List Stp) (i : Nat) : Prop :=
  ∀ (r : Rg) (rc : List Int) (o : Nat) (v : Value) (W : World), OkR r → rc.length = i + 1 → (∀ t ks, (Hp.follow m (ss.drop i) r)[t]? = some ks → Lall[o + t]? = some (rc ++ ks.map Int.ofNat)) → J o W → OwnI 3 W B0 v rc →
    Calls Try.prog 97 #[.pointer (some ⟨g, 0, none⟩), .int .i64 (i : Int), rV r, v, .func (.yield lp) #[] #[]] W (FolPost J Jx B0 T o (Hp.follow m (ss.drop i) r).length W)
theorem Kept.own {T : TypeId → Prop} {B0 base : Nat} {W W' : World} {v : Value} {l : List Int} (h : Kept T B0 W W') (ht : ¬ T 3) (hB : B0 ≤ base) (ho : OwnI 3 W base v l) : OwnI 3 W' base v l := by
  obtain ⟨hl, h2⟩ := ho
  refine ⟨hl, ?_⟩
  rcases h2 with h2 | ⟨g, cap, cur, hv, hb, hg, r⟩
  · exact .inl h2
  · exact .inr ⟨g, cap, cur, hv, hb, h.cells (by omega) hg ht, r⟩
theorem Kept.bk {T : TypeId → Prop} {B0 g : Nat} {W W' : World} {cs : Array Value} {t : TypeId} (h : Kept T B0 W W') (ht : ¬ T t) (hB : B0 ≤ g) (hb : BK W g cs t) : BK W' g cs t := h.cells hB hb ht

set_option maxHeartbeats 8000000 in
set_option maxRecDepth 100000 in
theorem follow_step {lp : Nat} {J Jx : Nat → World → Prop} {B0 gx : Nat} {T : TypeId → Prop} {Lall : List (List Int)} {wb : World} {g : Nat} {vb vs : Value} {m : Rg} {bars : List Rg} {ss : List Stp} (hc : FolC lp J Jx B0 gx T Lall wb g vb vs m bars ss) (hV : OkV bars ss) (hm : OkR m) (i : Nat) (hi : i ≤ ss.length)
    (ih : i < ss.length → FolSpec lp J Jx B0 T Lall g m ss (i + 1)) : FolSpec lp J Jx B0 T Lall g m ss i := by
  intro r rc o v W hr hrc hat hJ0 hown
  obtain ⟨As, cs, rfl⟩ := (show ∃ A c, vs = .slice A ss.length c from by obtain ⟨_, _, _, _, _, _, _, _, _, _, _, _, hS⟩ := hc.tree.open; exact hS.slice)
  have hsl := hV.sfew
  obtain ⟨gf, cf, gr, cr, d0, d1, d4, d5, lg, hF, hR, hB, hS⟩ := hc.tree.open
  obtain ⟨nb, hnb⟩ : ∃ n, wb.heap.size = n := ⟨_, rfl⟩
  have lgr := hR.lt
  have hnB := hc.base
  rw [hnb] at lg lgr hS hnB
  have HV := Lib.hid hV
  have HM := Lib.hid hm
  have HCC := Lib.hid hc
  have HIH := Lib.hid ih
  have HAT := Lib.hid hat
  have hmem : ∀ i W1, J i W1 → Below nb wb W1 ∧ B0 ≤ W1.heap.size := fun i W1 h => by rw [← hnb]; exact hc.mem i W1 h
  have HMM := Lib.hid hmem
  have D1 := Lib.hid d1
  have D5 := Lib.hid d5
  have HGR := Lib.hid hR
  have HSS := Lib.hid hS
  obtain ⟨lo, hi2⟩ := r
  have HR := Lib.hid hr
  have hrr := hr
  unfold OkR at hrr
  dsimp only at hrr
  obtain ⟨Av, cv, hvv⟩ := own_slice hown
  rw [hrc] at hvv
  obtain ⟨bv, rfl⟩ : ∃ bv, Av = some ⟨bv, 0, none⟩ := by
    rcases hown.2 with ⟨h1, h2⟩ | ⟨g1, cap, cur, h1, _⟩
    · omega
    · rw [hvv] at h1
      injection h1 with h1
      exact ⟨g1, h1⟩
  subst hvv
  clear hV hm hc ih hat hmem d0 d1 d4 d5 hF hR hB hS
  unfold rV
  obtain ⟨n0, hn0⟩ : ∃ n, W.heap.size = n := ⟨_, rfl⟩
  have hBn : B0 ≤ n0 := by rw [← hn0]; exact (HMM.out _ _ hJ0).2
  have hi1 : (i : Int) < ((ss.length + 1 : Nat) : Int) := by omega
  have hi3 : (i : Int) < (ss.length : Int) + 1 := by omega
  refine (callsIn_wide (n := 100)).1 ?_
  refine callsIn_of_wp Try.func97 rfl trivial ?_ rfl
  refine wpIn_wide.2 ?_
  simp only [Try.ntmps97, List.size_toArray, List.length_cons, List.length_nil, Nat.reduceAdd, Nat.reduceSub, Array.replicate_succ, Array.replicate_zero, List.push_toArray, List.append_toArray, List.nil_append, List.cons_append]
  go_upto_region 1 with fail
  have hb1 : Below W.heap.size W (W.alloc (.cells #[.int .i64 lo, .int .i64 hi2] 33)) := by exact bel_of
  have b7 : BK (W.alloc (.cells #[.int .i64 lo, .int .i64 hi2] 33)) n0 #[.int .i64 lo, .int .i64 hi2] 33 := BK.new' _ _ _ _ hn0
  have hJ1 := HCC.out.sJ _ _ _ hJ0 (Adm.below (B := B0) hb1 |>.more (Nat.le_refl _))
  have hown1 := OwnI.below hown hb1
  have hk1 : Kept T B0 W (W.alloc (.cells #[.int .i64 lo, .int .i64 hi2] 33)) := (Kept.refl _ _ _).below hb1
  clear hJ0 hown hb1 hn0
  generalize (W.alloc (.cells #[.int .i64 lo, .int .i64 hi2] 33)) = W1 at *
  have hbw := (HMM.out _ _ hJ1).1
  have c5 := (hbw.cell (p := ⟨g, 5, none⟩) lg).trans D5.out
  have lgw : g < W1.heap.size := by have := hbw.size; omega
  have e0 := b7.cell 0
  have e1 := b7.cell 1
  have l7 := b7.lt
  simp at e0 e1
  have hd1 : Below W1.heap.size W1 W1.drew := Below.drew (Below.refl _ _)
  have HX : ∀ X2, Below W1.heap.size W1 X2 → X2.cell? ⟨g, 5, none⟩ = some (.slice (some ⟨gr, 0, none⟩) (ss.length + 1) cr) ∧ (X2.cell? ⟨n0, 0, none⟩ = some (.int .i64 lo) ∧ X2.cell? ⟨n0, 1, none⟩ = some (.int .i64 hi2)) := fun X2 hX => ⟨(hX.cell (p := ⟨g, 5, none⟩) lgw).trans c5, (hX.cell (p := ⟨n0, 0, none⟩) l7).trans e0, (hX.cell (p := ⟨n0, 1, none⟩) l7).trans e1⟩
  refine wp_region_noPanic (plain_any [0, 1, 2, 3, 4, 5, 6] (Below W1.heap.size W1) mixed ?_)
  (refine any_take 0 ?_ (by rfl) (by kernel_rfl) (fun _ _ _ _ _ hx => hx.elim) (.inl ⟨by rfl, ?_⟩) hd1 ?_; rotate_left; (intro X hX; obtain ⟨r1, r2⟩ := HX X hX; clear hX; go_simp; rfl); simp only [List.getElem_toArray, List.getElem_cons_succ, List.getElem_cons_zero, Act.put, List.setIfInBounds_toArray, List.set_cons_succ, List.set_cons_zero])
  (refine any_take 1 ?_ (by rfl) (by kernel_rfl) (fun _ _ _ _ _ hx => hx.elim) (.inl ⟨by rfl, ?_⟩) hd1 ?_; rotate_left; (intro X hX; obtain ⟨r1, r2⟩ := HX X hX; clear hX; go_simp; rfl); simp only [List.getElem_toArray, List.getElem_cons_succ, List.getElem_cons_zero, Act.put, List.setIfInBounds_toArray, List.set_cons_succ, List.set_cons_zero])
  (refine any_take 2 ?_ (by rfl) (by kernel_rfl) (fun _ _ _ _ _ hx => hx.elim) (.inl ⟨by rfl, ?_⟩) hd1 ?_; rotate_left; (intro X hX; obtain ⟨r1, r2⟩ := HX X hX; clear hX; go_simp; rfl); simp only [List.getElem_toArray, List.getElem_cons_succ, List.getElem_cons_zero, Act.put, List.setIfInBounds_toArray, List.set_cons_succ, List.set_cons_zero])
  (refine any_take 3 ?_ (by rfl) (by kernel_rfl) (fun _ _ _ _ _ hx => hx.elim) (.inl ⟨by rfl, ?_⟩) hd1 ?_; rotate_left; (intro X hX; obtain ⟨r1, r2⟩ := HX X hX; clear hX; go_simp; rfl); simp only [List.getElem_toArray, List.getElem_cons_succ, List.getElem_cons_zero, Act.put, List.setIfInBounds_toArray, List.set_cons_succ, List.set_cons_zero])
  (refine any_take 4 ?_ (by rfl) (by kernel_rfl) (fun _ _ _ _ _ hx => hx.elim) (.inl ⟨by rfl, ?_⟩) hd1 ?_; rotate_left; (intro X hX; obtain ⟨r1, r2⟩ := HX X hX; clear hX; go_simp; rfl); simp only [List.getElem_toArray, List.getElem_cons_succ, List.getElem_cons_zero, Act.put, List.setIfInBounds_toArray, List.set_cons_succ, List.set_cons_zero])
  (refine any_take 5 ?_ (by rfl) (by kernel_rfl) (fun _ _ _ _ _ hx => hx.elim) (.inl ⟨by rfl, ?_⟩) hd1 ?_; rotate_left; (intro X hX; obtain ⟨r1, r2⟩ := HX X hX; clear hX; go_simp; rfl); simp only [List.getElem_toArray, List.getElem_cons_succ, List.getElem_cons_zero, Act.put, List.setIfInBounds_toArray, List.set_cons_succ, List.set_cons_zero])
  (refine any_take 6 ?_ (by rfl) (by kernel_rfl) (fun _ _ _ _ _ hx => hx.elim) (.inl ⟨by rfl, ?_⟩) hd1 ?_; rotate_left; (intro X hX; obtain ⟨r1, r2⟩ := HX X hX; clear hX; go_simp; rfl); simp only [List.getElem_toArray, List.getElem_cons_succ, List.getElem_cons_zero, Act.put, List.setIfInBounds_toArray, List.set_cons_succ, List.set_cons_zero])
  refine any_run1 (i := 7) (by kernel_rfl) (by rfl) (by kernel_rfl) ?_
  intro K5 hK5
  go_wp2_with fail
  refine (meets_any gr (ss.length + 1) i (i * 1001) 136 _ ⟨lo, hi2⟩ _ (HGR.out.below (hbw.trans (hd1.mono (by have := hbw.size; omega))) lgr) (by omega) rfl hrr.2.1 hrr.2.2 (by show lo ≤ 1001; omega)).mono ?_
  rintro e W2 ⟨rfl, hb⟩
  have hd2 : Below W1.heap.size W1 W2 := hd1.trans hb
  have hJ2 := HCC.out.sJ _ _ _ hJ1 (Adm.below hd2)
  have hown2 := OwnI.below hown1 hd2
  have hk2 := hk1.below hd2
  have b72 := b7.below hd2 l7
  refine hK5 _ _ (fun _ => hd2) ?_
  clear hK5 K5 hb hd1 HX hJ1 hown1 hk1 b7 hbw c5 lgw e0 e1
  refine any_run1 (i := 8) (by kernel_rfl) (by rfl) (by kernel_rfl) ?_
  intro K5 hK5
  go_wp2_with fail
  refine hK5 _ _ (fun _ => hd2) ?_
  clear hK5 K5 hd2 l7
  refine any_done (by kernel_rfl) (NoPanic.normal ?_)
  have okd : OkS (ss.drop i) := fun s hs => HV.out.sok s (List.mem_of_mem_drop hs)
  have hmf := meets_follow HM.out okd HR.out
  have HMF := Lib.hid hmf
  have HK2 := Lib.hid hk2
  have HJ2 := Lib.hid hJ2
  have HOW := Lib.hid hown2
  have HB7 := Lib.hid b72
  clear okd hmf hr hk2 hJ2 hown2 b72
  cases hmt : mtR (rearF m (ss.drop i)) ⟨lo, hi2⟩ with
  | false =>
    have hn : Hp.follow m (ss.drop i) ⟨lo, hi2⟩ = [] := by
      rcases Classical.em (Hp.follow m (ss.drop i) ⟨lo, hi2⟩ = []) with h | h
      · exact h
      · have := HMF.out.2 h
        rw [hmt] at this
        cases this
    have HN := Lib.hid hn
    clear hn hmt
    go_wp2_with fail
    refine bodyPost_ret (v := .bool true) (by simp [results, Try.results97, go_sem]) rfl ⟨HK2.out, .inl ⟨rfl, ?_⟩⟩
    rw [HN.out]
    exact HJ2.out
  | true =>
    have HNE := Lib.hid (HMF.out.1 hmt)
    clear hmt
    have hbw := (HMM.out _ _ HJ2.out).1
    have c1 := (hbw.cell (p := ⟨g, 1, none⟩) lg).trans D1.out
    have lgw : g < W2.heap.size := by have := hbw.size; omega
    by_cases hie : i = ss.length
    case pos =>
      subst hie
      have hf1 : Hp.follow m (ss.drop ss.length) ⟨lo, hi2⟩ = [[]] := by
        have h1 := HNE.out
        rw [List.drop_length] at h1 ⊢
        exact follow_one h1
      have hL := HAT.out 0 [] (by rw [hf1]; rfl)
      rw [Nat.add_zero, List.map_nil, List.append_nil] at hL
      have hlt : o < Lall.length := (List.getElem?_eq_some_iff.1 hL).1
      obtain ⟨fn, tmps, assign, body, hy, hRd⟩ := HCC.out.yl o W2 98 #[.slice (some ⟨bv, 0, none⟩) (ss.length + 1) cv] hlt HJ2.out ⟨_, _, rfl, hL, own_more HOW.out HCC.out.gxB⟩
      have HRD := Lib.hid hRd
      have HF1 := Lib.hid hf1
      clear hRd hf1 hL
      have b1 : decide ((ss.length : Int) = (ss.length : Int)) = true := by simp
      go_upto_region 4 with fail
      refine (wpIn_wide (n := 100)).1 ?_
      gi_wp2_with fail
      refine RoundIn.mono (RoundIn.any HRD.out) ?_
      clear HRD hy
      rintro e W3 (⟨rfl, hJ3, hk3⟩ | ⟨rfl, hJ3, hk3⟩)
      · have HJ3 := Lib.hid hJ3
        have HK3 := Lib.hid (HK2.out.trans hk3)
        clear hJ3 hk3
        gi_wp2_with fail
        go_wp2_with fail
        refine bodyPost_ret (v := .bool true) (by simp [results, Try.results97, go_sem]) rfl ⟨HK3.out, .inl ⟨rfl, ?_⟩⟩
        rw [HF1.out]
        exact HJ3.out
      · have HJ3 := Lib.hid hJ3
        have HK3 := Lib.hid (HK2.out.trans hk3)
        clear hJ3 hk3
        gi_wp2_with fail
        go_wp2_with fail
        refine bodyPost_ret (v := .bool false) (by simp [results, Try.results97, go_sem]) rfl ⟨HK3.out, .inr ⟨rfl, 0, ?_, HJ3.out⟩⟩
        rw [HF1.out]
        exact Nat.zero_lt_one
    have b1 : decide ((i : Int) = (ss.length : Int)) = false := decide_eq_false (by omega)
    have hil : i < ss.length := by omega
    have hil' : (i : Int) < (ss.length : Int) := by omega
    obtain ⟨A', cap', b4, off4, hve, hA, hc⟩ := RP.cells HSS.out
    obtain ⟨rfl, hbb4⟩ := hA (by omega)
    injection hve with q1 q2 q3
    subst q1 q3
    obtain ⟨us, e1w, hu⟩ := hc i hil
    have e1 := (hbw.cell (p := ⟨b4, off4 + i, none⟩) hbb4).trans e1w
    obtain ⟨s, hs⟩ : ∃ s, nthS ss i = s := ⟨_, rfl⟩
    have hos := HV.out.sok _ (nthS_mem hil)
    have hws := HV.out.wpos _ (nthS_mem hil)
    have hdr : ss.drop i = s :: ss.drop (i + 1) := by rw [← hs, nthS_eq hil, List.getElem_cons_drop]
    rw [hs] at hu hos hws
    obtain ⟨Aw, cw, rfl⟩ := hu.slice
    have lbw : b4 < W2.heap.size := by have := hbw.size; omega
    have HUU := Lib.hid (show RW wb nb (.slice Aw s.length cw) s from hu)
    have HOS := Lib.hid hos
    have HDR := Lib.hid hdr
    have hs5 := hws.2
    have hk0 := HK2.out
    have hj0 : J (o + (folK m (ss.drop (i + 1)) s ⟨lo, hi2⟩ 0).length) W2 := by rw [folK_zero]; exact HJ2.out
    clear hA hc q2 hs hos hdr e1w hu hbw hie HMF HNE hws
    go_upto_region 5 with fail
    go_wp2_with fail
    clear c1 lgw e1 lbw b1
    have hbeq : ((i : Int) == (ss.length : Int)) = false := beq_eq_false_iff_ne.2 (by omega)
    simp only [Bool.not_true, hbeq]
    clear hbeq
    go_loopw [44] (fun x wr => ∃ k : Nat, k ≤ s.length ∧ x = .int .i64 (k : Int) ∧ J (o + (folK m (ss.drop (i + 1)) s ⟨lo, hi2⟩ k).length) wr ∧ OwnI 3 wr B0 (.slice (some ⟨bv, 0, none⟩) (i + 1) cv) rc ∧ BK wr n0 #[.int .i64 lo, .int .i64 hi2] 33 ∧ Kept T B0 W wr) (fun x _ => s.length - (intOf x).toNat)
    case atStart => exact ⟨0, Nat.zero_le _, rfl, hj0, HOW.out, HB7.out, hk0⟩
    case round =>
      clear hk0 hj0 HJ2 HOW HB7 HK2
      obtain ⟨k, hk, rfl, hJ, hown, hb7, hkp⟩ := hrel
      by_cases hlt : k < s.length
      case neg =>
        obtain rfl : k = s.length := by omega
        have HJ := Lib.hid hJ
        have HKP := Lib.hid hkp
        clear hJ hown hb7 hkp
        go_wp2_with fail
        refine bodyPost_ret (v := .bool true) (by simp [results, Try.results97, go_sem]) rfl ⟨HKP.out, .inl ⟨rfl, ?_⟩⟩
        have h2 := HJ.out
        rw [folK_all, ← HDR.out] at h2
        exact h2
      have hlt' : (k : Int) < (s.length : Int) := by omega
      obtain ⟨A', cap', b5, off5, hve, hA, hc⟩ := RW.cells HUU.out
      obtain ⟨rfl, hbb5⟩ := hA (by omega)
      injection hve with q1 q2 q3
      subst q1 q3
      obtain ⟨uw, d2w, hv⟩ := hc k hlt
      have hbw := (HMM.out _ _ hJ).1
      have d2 := (hbw.cell (p := ⟨b5, off5 + k, none⟩) hbb5).trans d2w
      have hoy := HOS.out _ (nthW_mem hlt)
      obtain ⟨y, hy⟩ : ∃ y, nthW s k = y := ⟨_, rfl⟩
      have HY := Lib.hid hy
      rw [hy] at hv hoy
      obtain ⟨Ay, cy, rfl⟩ := hv.slice
      have HOY := Lib.hid hoy
      have HVY := Lib.hid (show RK wb nb (.slice Ay y.length cy) y from hv)
      have hbb6 : b5 < wr.heap.size := by have := hbw.size; omega
      have hBw := (HMM.out _ _ hJ).2
      clear hA hc q2 hy hv hoy d2w hbw
      have HJ := Lib.hid hJ
      have HOW := Lib.hid hown
      have HB7 := Lib.hid hb7
      have HKP := Lib.hid hkp
      obtain ⟨q, hq⟩ : ∃ q, wr.heap.size = q := ⟨_, rfl⟩
      clear hJ hown hb7 hkp
      go_upto_region 8 with fail
      have hb1 : Below wr.heap.size wr (wr.alloc (.cells #[.slice Ay y.length cy] 28)) := by exact bel_of
      have b12 : BK (wr.alloc (.cells #[.slice Ay y.length cy] 28)) q #[.slice Ay y.length cy] 28 := BK.new' _ _ _ _ hq
      have b7 := HB7.out.below hb1 HB7.out.lt
      have HJ1 := Lib.hid (HCC.out.sJ _ _ _ HJ.out (Adm.below hb1))
      have HOW1 := Lib.hid (OwnI.below HOW.out hb1)
      have HKP1 := Lib.hid (HKP.out.below hb1)
      have hB1 : B0 ≤ (wr.alloc (.cells #[.slice Ay y.length cy] 28)).heap.size := Nat.le_trans hBw hb1.size
      clear hb1 d2 hbb6 hq HB7 HJ HOW HKP hBw
      generalize (wr.alloc (.cells #[.slice Ay y.length cy] 28)) = X at *
      have HVW := Lib.hid (fun (Z : World) (hZ : Below X.heap.size X Z) => show RK Z Z.heap.size (.slice Ay y.length cy) y from by
        have h1 := (HMM.out _ _ HJ1.out).1
        have h2 := h1.trans (hZ.mono (by have := h1.size; rw [hnb] at this; exact this))
        exact (RS.below HVY.out h2).more (by have := h2.size; rw [hnb] at this; exact this))
      obtain ⟨⟨a1, a2⟩, ha⟩ : ∃ z, aft y lo = z := ⟨_, rfl⟩
      obtain ⟨⟨c1, c2⟩, hcc⟩ : ∃ z, aft y hi2 = z := ⟨_, rfl⟩
      have HA1 := Lib.hid ha
      have HC2 := Lib.hid hcc
      clear ha hcc
      have l7 := b7.lt
      have e0 := b7.cell 0
      have e1 := b7.cell 1
      have l12 := b12.lt
      have k0 := b12.cell 0
      simp at e0 e1 k0
      have hlo : 0 ≤ lo := hrr.2.1
      have hhi : 0 ≤ hi2 := by omega
      have d0y : Below X.heap.size X X.drew := by exact bel_of
      refine wp_region_noPanic (plain_any [0, 1, 2, 4, 5, 6, 7, 9, 10] (Below X.heap.size X) mixed ?_)
      refine any_tk 0 ?_
      refine any_tk 1 ?_
      refine any_tk 2 ?_
      refine any_tk 5 ?_
      refine any_tk 6 ?_
      refine any_tk 7 ?_
      have dy1 : Below X.heap.size X X.drew := by exact bel_of
      have hdr : Below X.heap.size X X.drew := Below.drew (Below.refl _ _)
      clear hdr
      generalize X.drew = uy2 at *
      refine any_run2 (i := 3) (j := 11) (by kernel_rfl) (by rfl) (by rfl) (by rfl) (by rfl) ?_ ?_
      ·skip
       intro K hK
       have qy5 := dy1.size
       go_wp2_with fail
       refine (after_any y _ lo _ HOY.out hlo (HVW.out _ dy1)).mono ?_
       rintro e vy4 ⟨rfl, hb⟩
       rw [HA1.out]
       unfold rV
       have ey3 : Below X.heap.size X vy4 := dy1.trans (hb.mono dy1.size)
       clear hb
       refine hK _ _ (fun _ => ey3) ?_
       clear hK K
       refine any_tk 4 ?_
       refine any_run2 (i := 8) (j := 11) (by kernel_rfl) (by rfl) (by rfl) (by rfl) (by rfl) ?_ ?_
       ·skip
        intro K hK
        have qy8 := ey3.size
        go_wp2_with fail
        refine (after_any y _ hi2 _ HOY.out hhi (HVW.out _ ey3)).mono ?_
        rintro e vy7 ⟨rfl, hb⟩
        rw [HC2.out]
        unfold rV
        have ey6 : Below X.heap.size X vy7 := ey3.trans (hb.mono ey3.size)
        clear hb
        refine hK _ _ (fun _ => ey6) ?_
        clear hK K
        refine any_tk 9 ?_
        refine any_tk 10 ?_
        refine any_run1 (i := 11) (by kernel_rfl) (by rfl) (by kernel_rfl) ?_
        intro K hK
        have qy10 := ey6.size
        have ey9 : Below X.heap.size X (vy7.alloc (.cells #[.int .i64 0, .int .i64 0] 33)) := Below.alloc ey6 ey6.size _
        have hnx : Below vy7.heap.size vy7 (vy7.alloc (.cells #[.int .i64 0, .int .i64 0] 33)) := Below.alloc (Below.refl _ _) (Nat.le_refl _) _
        go_wp2_with fail
        have nx13 : BK (vy7.alloc (.cells #[.int .i64 0, .int .i64 0] 33)) vy7.heap.size #[.int .i64 0, .int .i64 0] 33 := BK.new _ _ _
        refine hK _ _ (fun _ => ey9) ?_
        clear hK K hnx
        generalize (vy7.alloc (.cells #[.int .i64 0, .int .i64 0] 33)) = vy11 at *
        obtain ⟨gnx13, hgnx13⟩ : ∃ g, vy7.heap.size = g := ⟨_, rfl⟩
        have hqnx13 : X.heap.size ≤ gnx13 := by omega
        rw [hgnx13] at nx13
        try rw [hgnx13]
        clear hgnx13
        refine any_run1 (i := 12) (by kernel_rfl) (by rfl) (by kernel_rfl) ?_
        intro K hK
        have lnx13 := nx13.lt
        have y0 := nx13.cell 0
        have f0 := nx13.frozen 0
        have y1 := nx13.cell 1
        have f1 := nx13.frozen 1
        simp at y0 y1
        go_wp2_with fail
        have ey12 : Below X.heap.size X ((vy11.setCell ⟨gnx13, 0, none⟩ (.int .i64 a1)).setCell ⟨gnx13, 1, none⟩ (.int .i64 c2)) := by exact bel_of
        have nx13_ := ((nx13.set 0 (.int .i64 a1)).set 1 (.int .i64 c2))
        simp at nx13_
        clear nx13; have nx13 := nx13_; clear nx13_
        clear y0 f0 y1 f1
        refine hK _ _ (fun _ => ey12) ?_
        clear hK K
        generalize ((vy11.setCell ⟨gnx13, 0, none⟩ (.int .i64 a1)).setCell ⟨gnx13, 1, none⟩ (.int .i64 c2)) = vy13 at *
        refine any_done (by kernel_rfl) (NoPanic.normal ?_)
        go_wp2_with fail
        have hd := ey12
        have hJ2 := HCC.out.sJ _ _ _ HJ1.out (Adm.below hd)
        have hown2 := OwnI.below HOW1.out hd
        have hkp2 := HKP1.out.below hd
        have hb72 := b7.below hd l7
        have hB2 : B0 ≤ vy13.heap.size := Nat.le_trans hB1 hd.size
        have HNX := Lib.hid nx13
        have n0c := nx13.cell 0
        have n1c := nx13.cell 1
        have lnx := nx13.lt
        simp at n0c n1c
        have HJ2 := Lib.hid hJ2
        have HKP2 := Lib.hid hkp2
        have HB72 := Lib.hid hb72
        have wi : IntKind.i64.wrap ((i : Int) + 1) = (i : Int) + 1 := by rw [IntKind.wrap_i64]; omega
        obtain ⟨g5, hg5⟩ : ∃ g, vy13.heap.size = g := ⟨_, rfl⟩
        have hd1 : Below vy13.heap.size vy13 vy13.drew := Below.drew (Below.refl _ _)
        have hd2 : Below vy13.heap.size vy13 (vy13.alloc (.cells #[.int .i64 (k : Int)] 3)).drew := Below.drew (Below.alloc (Below.refl _ _) (Nat.le_refl _) _)
        have b5' : BK (vy13.alloc (.cells #[.int .i64 (k : Int)] 3)).drew g5 #[.int .i64 (k : Int)] 3 := BK.drew (BK.new' _ _ _ _ hg5)
        have hrl : rc.length = i + 1 := hrc
        obtain ⟨A, cc, hac, hlc, hA0, v', w9, hrun, hown', hbel, hb9⟩ := app_full_i int_info int_slice (OwnI.below hown2 hd2) b5' (by omega) (by have := hd2.size; omega)
        rw [hrl] at hac hlc hrun
        injection hac with hac1 hac2 hac3
        subst hac1
        subst hac3
        have hd3 : Below vy13.heap.size vy13 w9 := hd2.trans (hb9.mono hd2.size)
        have hJ9 := HCC.out.sJ _ _ _ HJ2.out (Adm.below hd3)
        have hkp9 := HKP2.out.below hd3
        have hb79 := HB72.out.below hd3 HB72.out.lt
        have hown9 := OwnI.below hown2 hd3
        have HRUN := Lib.hid hrun
        have HOW9 := Lib.hid hown'
        have HOL9 := Lib.hid hown9
        have HJ9 := Lib.hid hJ9
        have HKP9 := Lib.hid hkp9
        have HB79 := Lib.hid hb79
        have hcv : (i : Int) + 1 ≤ (cv : Int) := by omega
        have HG5 := Lib.hid hg5
        clear hd hJ2 hown2 hkp2 hb72 nx13 hrun hown' hbel hb9 hJ9 hkp9 hb79 hown9 hac2 hA0 b5' hg5 HJ2 HKP2 HB72
        have HX : ∀ X2, Below vy13.heap.size vy13 X2 → X2.cell? ⟨gnx13, 0, none⟩ = some (.int .i64 a1) ∧ X2.cell? ⟨gnx13, 1, none⟩ = some (.int .i64 c2) := fun X2 hX => ⟨(hX.cell (p := ⟨gnx13, 0, none⟩) lnx).trans n0c, (hX.cell (p := ⟨gnx13, 1, none⟩) lnx).trans n1c⟩
        refine wp_region_noPanic (plain_any [0, 1, 2, 3, 4, 5, 6, 7, 8, 9, 10, 13] (Below vy13.heap.size vy13) mixed ?_)
        (refine any_take 0 ?_ (by rfl) (by kernel_rfl) (fun _ _ _ _ _ hx => hx.elim) (.inl ⟨by rfl, ?_⟩) hd1 ?_; rotate_left; (intro X hX; obtain ⟨r1, r2⟩ := HX X hX; clear hX; go_simp; rfl); simp only [List.getElem_toArray, List.getElem_cons_succ, List.getElem_cons_zero, Act.put, List.setIfInBounds_toArray, List.set_cons_succ, List.set_cons_zero])
        (refine any_take 1 ?_ (by rfl) (by kernel_rfl) (fun _ _ _ _ _ hx => hx.elim) (.inl ⟨by rfl, ?_⟩) hd1 ?_; rotate_left; (intro X hX; obtain ⟨r1, r2⟩ := HX X hX; clear hX; go_simp; rfl); simp only [List.getElem_toArray, List.getElem_cons_succ, List.getElem_cons_zero, Act.put, List.setIfInBounds_toArray, List.set_cons_succ, List.set_cons_zero])
        (refine any_take 2 ?_ (by rfl) (by kernel_rfl) (fun _ _ _ _ _ hx => hx.elim) (.inl ⟨by rfl, ?_⟩) hd1 ?_; rotate_left; (intro X hX; obtain ⟨r1, r2⟩ := HX X hX; clear hX; go_simp; rfl); simp only [List.getElem_toArray, List.getElem_cons_succ, List.getElem_cons_zero, Act.put, List.setIfInBounds_toArray, List.set_cons_succ, List.set_cons_zero])
        (refine any_take 3 ?_ (by rfl) (by kernel_rfl) (fun _ _ _ _ _ hx => hx.elim) (.inl ⟨by rfl, ?_⟩) hd1 ?_; rotate_left; (intro X hX; obtain ⟨r1, r2⟩ := HX X hX; clear hX; go_simp; rfl); simp only [List.getElem_toArray, List.getElem_cons_succ, List.getElem_cons_zero, Act.put, List.setIfInBounds_toArray, List.set_cons_succ, List.set_cons_zero])
        (refine any_take 4 ?_ (by rfl) (by kernel_rfl) (fun _ _ _ _ _ hx => hx.elim) (.inl ⟨by rfl, ?_⟩) hd1 ?_; rotate_left; (intro X hX; obtain ⟨r1, r2⟩ := HX X hX; clear hX; go_simp; rfl); simp only [List.getElem_toArray, List.getElem_cons_succ, List.getElem_cons_zero, Act.put, List.setIfInBounds_toArray, List.set_cons_succ, List.set_cons_zero])
        (refine any_take 5 ?_ (by rfl) (by kernel_rfl) (fun _ _ _ _ _ hx => hx.elim) (.inl ⟨by rfl, ?_⟩) hd1 ?_; rotate_left; (intro X hX; obtain ⟨r1, r2⟩ := HX X hX; clear hX; go_simp; rfl); simp only [List.getElem_toArray, List.getElem_cons_succ, List.getElem_cons_zero, Act.put, List.setIfInBounds_toArray, List.set_cons_succ, List.set_cons_zero])
        (refine any_take 6 ?_ (by rfl) (by kernel_rfl) (fun _ _ _ _ _ hx => hx.elim) (.inl ⟨by rfl, ?_⟩) hd1 ?_; rotate_left; (intro X hX; obtain ⟨r1, r2⟩ := HX X hX; clear hX; go_simp; rfl); simp only [List.getElem_toArray, List.getElem_cons_succ, List.getElem_cons_zero, Act.put, List.setIfInBounds_toArray, List.set_cons_succ, List.set_cons_zero])
        (refine any_take 7 ?_ (by rfl) (by kernel_rfl) (fun _ _ _ _ _ hx => hx.elim) (.inl ⟨by rfl, ?_⟩) hd1 ?_; rotate_left; (intro X hX; obtain ⟨r1, r2⟩ := HX X hX; clear hX; go_simp; rfl); simp only [List.getElem_toArray, List.getElem_cons_succ, List.getElem_cons_zero, Act.put, List.setIfInBounds_toArray, List.set_cons_succ, List.set_cons_zero])
        (refine any_take 8 ?_ (by rfl) (by kernel_rfl) (fun _ _ _ _ _ hx => hx.elim) (.inl ⟨by rfl, ?_⟩) hd1 ?_; rotate_left; (intro X hX; obtain ⟨r1, r2⟩ := HX X hX; clear hX; go_simp; rfl); simp only [List.getElem_toArray, List.getElem_cons_succ, List.getElem_cons_zero, Act.put, List.setIfInBounds_toArray, List.set_cons_succ, List.set_cons_zero])
        (refine any_take 9 ?_ (by rfl) (by kernel_rfl) (fun _ _ _ _ _ hx => hx.elim) (.inl ⟨by rfl, ?_⟩) hd1 ?_; rotate_left; (intro X hX; obtain ⟨r1, r2⟩ := HX X hX; clear hX; go_simp; rfl); simp only [List.getElem_toArray, List.getElem_cons_succ, List.getElem_cons_zero, Act.put, List.setIfInBounds_toArray, List.set_cons_succ, List.set_cons_zero])
        (refine any_take 10 ?_ (by rfl) (by kernel_rfl) (fun _ _ _ _ _ hx => hx.elim) (.inl ⟨by rfl, ?_⟩) hd1 ?_; rotate_left; (intro X hX; obtain ⟨r1, r2⟩ := HX X hX; clear hX; go_simp; rfl); simp only [List.getElem_toArray, List.getElem_cons_succ, List.getElem_cons_zero, Act.put, List.setIfInBounds_toArray, List.set_cons_succ, List.set_cons_zero])
        (refine any_take 13 ?_ (by rfl) (by kernel_rfl) (fun _ _ _ _ _ hx => hx.elim) (.inl ⟨by rfl, ?_⟩) hd1 ?_; rotate_left; (intro X hX; obtain ⟨r1, r2⟩ := HX X hX; clear hX; go_simp; rfl); simp only [List.getElem_toArray, List.getElem_cons_succ, List.getElem_cons_zero, Act.put, List.setIfInBounds_toArray, List.set_cons_succ, List.set_cons_zero])
        refine any_run1 (i := 11) (by kernel_rfl) (by rfl) (by kernel_rfl) ?_
        intro K5 hK5
        go_wp2_with fail
        refine hK5 _ _ (fun _ => hd2) ?_
        clear hK5 K5
        rw [HG5.out]
        refine any_run1 (i := 12) (by kernel_rfl) (by rfl) (by kernel_rfl) ?_
        intro K5 hK5
        refine wp_append_run (.tmp 69) (.tmp 71) 40 _ rfl HRUN.out ?_
        refine hK5 _ _ (fun _ => by rw [← HG5.out]; exact hd3) ?_
        clear hK5 K5 HX n0c n1c lnx HNX hd1 hd2
        simp only [List.getElem_toArray, List.getElem_cons_succ, List.getElem_cons_zero, Act.put, List.setIfInBounds_toArray, List.set_cons_succ, List.set_cons_zero]
        refine any_run1 (i := 14) (by kernel_rfl) (by rfl) (by kernel_rfl) ?_
        intro K5 hK5
        go_wp2_with fail
        have hnr : (⟨a1, c2⟩ : Rg) = via (nthW s k) ⟨lo, hi2⟩ := by
          unfold via
          rw [HY.out]
          dsimp only
          rw [HA1.out, HC2.out]
        have hro : OkR (⟨a1, c2⟩ : Rg) := by
          rw [hnr, HY.out]
          exact via_ok HOY.out HR.out
        have hfa : ∀ t ks, (Hp.follow m (ss.drop (i + 1)) ⟨a1, c2⟩)[t]? = some ks → Lall[o + (folK m (ss.drop (i + 1)) s ⟨lo, hi2⟩ k).length + t]? = some (rc ++ [(k : Int)] ++ ks.map Int.ofNat) := by
          intro t ks ht
          rw [hnr] at ht
          have h1 := folK_at m (ss.drop (i + 1)) s ⟨lo, hi2⟩ hlt ht
          rw [← HDR.out] at h1
          have h2 := HAT.out _ _ h1
          rw [Nat.add_assoc, h2, List.map_cons, List.append_assoc]
          rfl
        refine (HIH.out hil ⟨a1, c2⟩ (rc ++ [(k : Int)]) (o + (folK m (ss.drop (i + 1)) s ⟨lo, hi2⟩ k).length) v' w9 hro (by rw [List.length_append, hrc]; rfl) hfa HJ9.out HOW9.out).mono ?_
        rintro e W10 ⟨hkp10, hres⟩
        have hsc := folK_succ m (ss.drop (i + 1)) s ⟨lo, hi2⟩ k
        rw [← hnr] at hsc
        have HSC := Lib.hid hsc
        have HKP10 := Lib.hid (HKP9.out.trans hkp10)
        have HOL10 := Lib.hid (hkp10.own HCC.out.nTi (Nat.le_refl _) HOL9.out)
        have HB10 := Lib.hid (hkp10.bk HCC.out.nTr hBn HB79.out)
        clear hfa hro hnr hsc hkp10
        rcases hres with ⟨rfl, hJ10⟩ | ⟨rfl, t, ht, hJ10⟩
        · have HJ10 := Lib.hid hJ10
          clear hJ10
          refine hK5 _ _ (fun hx => (Bool.false_ne_true (hx.symm.trans (by kernel_rfl))).elim) ?_
          clear hK5 K5
          refine any_run1 (i := 15) (by kernel_rfl) (by rfl) (by kernel_rfl) ?_
          intro K5 hK5
          go_wp2_with fail
          refine hK5 _ _ (fun hx => (Bool.false_ne_true (hx.symm.trans (by kernel_rfl))).elim) ?_
          clear hK5 K5
          refine any_done (by kernel_rfl) (NoPanic.normal ?_)
          go_wp2_with fail
          go_roundw
          case rel => exact ⟨k + 1, by omega, by go_num, by rw [HSC.out, List.length_append, List.length_map, ← Nat.add_assoc]; exact HJ10.out, HOL10.out, HB10.out, HKP10.out⟩
          case measure => simp [intOf]; omega
        · have HJ10 := Lib.hid hJ10
          clear hJ10
          refine hK5 _ _ (fun hx => (Bool.false_ne_true (hx.symm.trans (by kernel_rfl))).elim) ?_
          clear hK5 K5
          refine any_run1 (i := 15) (by kernel_rfl) (by rfl) (by kernel_rfl) ?_
          intro K5 hK5
          go_wp2_with fail
          refine hK5 _ _ (fun hx => (Bool.false_ne_true (hx.symm.trans (by kernel_rfl))).elim) ?_
          clear hK5 K5
          refine any_done (by kernel_rfl) (NoPanic.normal ?_)
          go_wp2_with fail
          refine bodyPost_ret (v := .bool false) (by simp [results, Try.results97, go_sem]) rfl ⟨HKP10.out, .inr ⟨rfl, (folK m (ss.drop (i + 1)) s ⟨lo, hi2⟩ k).length + t, ?_, by rw [← Nat.add_assoc]; exact HJ10.out⟩⟩
          rw [HDR.out]
          obtain ⟨l, hl⟩ := folK_le m (ss.drop (i + 1)) s ⟨lo, hi2⟩ (k := k + 1) (by omega)
          rw [hl, HSC.out, List.length_append, List.length_append, List.length_map]
          omega
       ·skip
        intro K hK
        have qy15 := ey3.size
        have ey14 : Below X.heap.size X (vy4.alloc (.cells #[.int .i64 0, .int .i64 0] 33)) := Below.alloc ey3 ey3.size _
        have hnx : Below vy4.heap.size vy4 (vy4.alloc (.cells #[.int .i64 0, .int .i64 0] 33)) := Below.alloc (Below.refl _ _) (Nat.le_refl _) _
        go_wp2_with fail
        have nx13 : BK (vy4.alloc (.cells #[.int .i64 0, .int .i64 0] 33)) vy4.heap.size #[.int .i64 0, .int .i64 0] 33 := BK.new _ _ _
        refine hK _ _ (fun _ => ey14) ?_
        clear hK K hnx
        generalize (vy4.alloc (.cells #[.int .i64 0, .int .i64 0] 33)) = vy16 at *
        obtain ⟨gnx13, hgnx13⟩ : ∃ g, vy4.heap.size = g := ⟨_, rfl⟩
        have hqnx13 : X.heap.size ≤ gnx13 := by omega
        rw [hgnx13] at nx13
        try rw [hgnx13]
        clear hgnx13
        refine any_run1 (i := 8) (by kernel_rfl) (by rfl) (by kernel_rfl) ?_
        intro K hK
        have qy19 := ey14.size
        go_wp2_with fail
        refine (after_any y _ hi2 _ HOY.out hhi (HVW.out _ ey14)).mono ?_
        rintro e vy18 ⟨rfl, hb⟩
        rw [HC2.out]
        unfold rV
        have ey17 : Below X.heap.size X vy18 := ey14.trans (hb.mono ey14.size)
        replace nx13 := nx13.below hb nx13.lt
        clear hb
        refine hK _ _ (fun _ => ey17) ?_
        clear hK K
        refine any_tk 9 ?_
        refine any_tk 10 ?_
        refine any_run1 (i := 12) (by kernel_rfl) (by rfl) (by kernel_rfl) ?_
        intro K hK
        have lnx13 := nx13.lt
        have y0 := nx13.cell 0
        have f0 := nx13.frozen 0
        have y1 := nx13.cell 1
        have f1 := nx13.frozen 1
        simp at y0 y1
        go_wp2_with fail
        have ey20 : Below X.heap.size X ((vy18.setCell ⟨gnx13, 0, none⟩ (.int .i64 a1)).setCell ⟨gnx13, 1, none⟩ (.int .i64 c2)) := by exact bel_of
        have nx13_ := ((nx13.set 0 (.int .i64 a1)).set 1 (.int .i64 c2))
        simp at nx13_
        clear nx13; have nx13 := nx13_; clear nx13_
        clear y0 f0 y1 f1
        refine hK _ _ (fun _ => ey20) ?_
        clear hK K
        generalize ((vy18.setCell ⟨gnx13, 0, none⟩ (.int .i64 a1)).setCell ⟨gnx13, 1, none⟩ (.int .i64 c2)) = vy21 at *
        refine any_done (by kernel_rfl) (NoPanic.normal ?_)
        go_wp2_with fail
        have hd := ey20
        have hJ2 := HCC.out.sJ _ _ _ HJ1.out (Adm.below hd)
        have hown2 := OwnI.below HOW1.out hd
        have hkp2 := HKP1.out.below hd
        have hb72 := b7.below hd l7
        have hB2 : B0 ≤ vy21.heap.size := Nat.le_trans hB1 hd.size
        have HNX := Lib.hid nx13
        have n0c := nx13.cell 0
        have n1c := nx13.cell 1
        have lnx := nx13.lt
        simp at n0c n1c
        have HJ2 := Lib.hid hJ2
        have HKP2 := Lib.hid hkp2
        have HB72 := Lib.hid hb72
        have wi : IntKind.i64.wrap ((i : Int) + 1) = (i : Int) + 1 := by rw [IntKind.wrap_i64]; omega
        obtain ⟨g5, hg5⟩ : ∃ g, vy21.heap.size = g := ⟨_, rfl⟩
        have hd1 : Below vy21.heap.size vy21 vy21.drew := Below.drew (Below.refl _ _)
        have hd2 : Below vy21.heap.size vy21 (vy21.alloc (.cells #[.int .i64 (k : Int)] 3)).drew := Below.drew (Below.alloc (Below.refl _ _) (Nat.le_refl _) _)
        have b5' : BK (vy21.alloc (.cells #[.int .i64 (k : Int)] 3)).drew g5 #[.int .i64 (k : Int)] 3 := BK.drew (BK.new' _ _ _ _ hg5)
        have hrl : rc.length = i + 1 := hrc
        obtain ⟨A, cc, hac, hlc, hA0, v', w9, hrun, hown', hbel, hb9⟩ := app_full_i int_info int_slice (OwnI.below hown2 hd2) b5' (by omega) (by have := hd2.size; omega)
        rw [hrl] at hac hlc hrun
        injection hac with hac1 hac2 hac3
        subst hac1
        subst hac3
        have hd3 : Below vy21.heap.size vy21 w9 := hd2.trans (hb9.mono hd2.size)
        have hJ9 := HCC.out.sJ _ _ _ HJ2.out (Adm.below hd3)
        have hkp9 := HKP2.out.below hd3
        have hb79 := HB72.out.below hd3 HB72.out.lt
        have hown9 := OwnI.below hown2 hd3
        have HRUN := Lib.hid hrun
        have HOW9 := Lib.hid hown'
        have HOL9 := Lib.hid hown9
        have HJ9 := Lib.hid hJ9
        have HKP9 := Lib.hid hkp9
        have HB79 := Lib.hid hb79
        have hcv : (i : Int) + 1 ≤ (cv : Int) := by omega
        have HG5 := Lib.hid hg5
        clear hd hJ2 hown2 hkp2 hb72 nx13 hrun hown' hbel hb9 hJ9 hkp9 hb79 hown9 hac2 hA0 b5' hg5 HJ2 HKP2 HB72
        have HX : ∀ X2, Below vy21.heap.size vy21 X2 → X2.cell? ⟨gnx13, 0, none⟩ = some (.int .i64 a1) ∧ X2.cell? ⟨gnx13, 1, none⟩ = some (.int .i64 c2) := fun X2 hX => ⟨(hX.cell (p := ⟨gnx13, 0, none⟩) lnx).trans n0c, (hX.cell (p := ⟨gnx13, 1, none⟩) lnx).trans n1c⟩
        refine wp_region_noPanic (plain_any [0, 1, 2, 3, 4, 5, 6, 7, 8, 9, 10, 13] (Below vy21.heap.size vy21) mixed ?_)
        (refine any_take 0 ?_ (by rfl) (by kernel_rfl) (fun _ _ _ _ _ hx => hx.elim) (.inl ⟨by rfl, ?_⟩) hd1 ?_; rotate_left; (intro X hX; obtain ⟨r1, r2⟩ := HX X hX; clear hX; go_simp; rfl); simp only [List.getElem_toArray, List.getElem_cons_succ, List.getElem_cons_zero, Act.put, List.setIfInBounds_toArray, List.set_cons_succ, List.set_cons_zero])
        (refine any_take 1 ?_ (by rfl) (by kernel_rfl) (fun _ _ _ _ _ hx => hx.elim) (.inl ⟨by rfl, ?_⟩) hd1 ?_; rotate_left; (intro X hX; obtain ⟨r1, r2⟩ := HX X hX; clear hX; go_simp; rfl); simp only [List.getElem_toArray, List.getElem_cons_succ, List.getElem_cons_zero, Act.put, List.setIfInBounds_toArray, List.set_cons_succ, List.set_cons_zero])
        (refine any_take 2 ?_ (by rfl) (by kernel_rfl) (fun _ _ _ _ _ hx => hx.elim) (.inl ⟨by rfl, ?_⟩) hd1 ?_; rotate_left; (intro X hX; obtain ⟨r1, r2⟩ := HX X hX; clear hX; go_simp; rfl); simp only [List.getElem_toArray, List.getElem_cons_succ, List.getElem_cons_zero, Act.put, List.setIfInBounds_toArray, List.set_cons_succ, List.set_cons_zero])
        (refine any_take 3 ?_ (by rfl) (by kernel_rfl) (fun _ _ _ _ _ hx => hx.elim) (.inl ⟨by rfl, ?_⟩) hd1 ?_; rotate_left; (intro X hX; obtain ⟨r1, r2⟩ := HX X hX; clear hX; go_simp; rfl); simp only [List.getElem_toArray, List.getElem_cons_succ, List.getElem_cons_zero, Act.put, List.setIfInBounds_toArray, List.set_cons_succ, List.set_cons_zero])
        (refine any_take 4 ?_ (by rfl) (by kernel_rfl) (fun _ _ _ _ _ hx => hx.elim) (.inl ⟨by rfl, ?_⟩) hd1 ?_; rotate_left; (intro X hX; obtain ⟨r1, r2⟩ := HX X hX; clear hX; go_simp; rfl); simp only [List.getElem_toArray, List.getElem_cons_succ, List.getElem_cons_zero, Act.put, List.setIfInBounds_toArray, List.set_cons_succ, List.set_cons_zero])
        (refine any_take 5 ?_ (by rfl) (by kernel_rfl) (fun _ _ _ _ _ hx => hx.elim) (.inl ⟨by rfl, ?_⟩) hd1 ?_; rotate_left; (intro X hX; obtain ⟨r1, r2⟩ := HX X hX; clear hX; go_simp; rfl); simp only [List.getElem_toArray, List.getElem_cons_succ, List.getElem_cons_zero, Act.put, List.setIfInBounds_toArray, List.set_cons_succ, List.set_cons_zero])
        (refine any_take 6 ?_ (by rfl) (by kernel_rfl) (fun _ _ _ _ _ hx => hx.elim) (.inl ⟨by rfl, ?_⟩) hd1 ?_; rotate_left; (intro X hX; obtain ⟨r1, r2⟩ := HX X hX; clear hX; go_simp; rfl); simp only [List.getElem_toArray, List.getElem_cons_succ, List.getElem_cons_zero, Act.put, List.setIfInBounds_toArray, List.set_cons_succ, List.set_cons_zero])
        (refine any_take 7 ?_ (by rfl) (by kernel_rfl) (fun _ _ _ _ _ hx => hx.elim) (.inl ⟨by rfl, ?_⟩) hd1 ?_; rotate_left; (intro X hX; obtain ⟨r1, r2⟩ := HX X hX; clear hX; go_simp; rfl); simp only [List.getElem_toArray, List.getElem_cons_succ, List.getElem_cons_zero, Act.put, List.setIfInBounds_toArray, List.set_cons_succ, List.set_cons_zero])
        (refine any_take 8 ?_ (by rfl) (by kernel_rfl) (fun _ _ _ _ _ hx => hx.elim) (.inl ⟨by rfl, ?_⟩) hd1 ?_; rotate_left; (intro X hX; obtain ⟨r1, r2⟩ := HX X hX; clear hX; go_simp; rfl); simp only [List.getElem_toArray, List.getElem_cons_succ, List.getElem_cons_zero, Act.put, List.setIfInBounds_toArray, List.set_cons_succ, List.set_cons_zero])
        (refine any_take 9 ?_ (by rfl) (by kernel_rfl) (fun _ _ _ _ _ hx => hx.elim) (.inl ⟨by rfl, ?_⟩) hd1 ?_; rotate_left; (intro X hX; obtain ⟨r1, r2⟩ := HX X hX; clear hX; go_simp; rfl); simp only [List.getElem_toArray, List.getElem_cons_succ, List.getElem_cons_zero, Act.put, List.setIfInBounds_toArray, List.set_cons_succ, List.set_cons_zero])
        (refine any_take 10 ?_ (by rfl) (by kernel_rfl) (fun _ _ _ _ _ hx => hx.elim) (.inl ⟨by rfl, ?_⟩) hd1 ?_; rotate_left; (intro X hX; obtain ⟨r1, r2⟩ := HX X hX; clear hX; go_simp; rfl); simp only [List.getElem_toArray, List.getElem_cons_succ, List.getElem_cons_zero, Act.put, List.setIfInBounds_toArray, List.set_cons_succ, List.set_cons_zero])
        (refine any_take 13 ?_ (by rfl) (by kernel_rfl) (fun _ _ _ _ _ hx => hx.elim) (.inl ⟨by rfl, ?_⟩) hd1 ?_; rotate_left; (intro X hX; obtain ⟨r1, r2⟩ := HX X hX; clear hX; go_simp; rfl); simp only [List.getElem_toArray, List.getElem_cons_succ, List.getElem_cons_zero, Act.put, List.setIfInBounds_toArray, List.set_cons_succ, List.set_cons_zero])
        refine any_run1 (i := 11) (by kernel_rfl) (by rfl) (by kernel_rfl) ?_
        intro K5 hK5
        go_wp2_with fail
        refine hK5 _ _ (fun _ => hd2) ?_
        clear hK5 K5
        rw [HG5.out]
        refine any_run1 (i := 12) (by kernel_rfl) (by rfl) (by kernel_rfl) ?_
        intro K5 hK5
        refine wp_append_run (.tmp 69) (.tmp 71) 40 _ rfl HRUN.out ?_
        refine hK5 _ _ (fun _ => by rw [← HG5.out]; exact hd3) ?_
        clear hK5 K5 HX n0c n1c lnx HNX hd1 hd2
        simp only [List.getElem_toArray, List.getElem_cons_succ, List.getElem_cons_zero, Act.put, List.setIfInBounds_toArray, List.set_cons_succ, List.set_cons_zero]
        refine any_run1 (i := 14) (by kernel_rfl) (by rfl) (by kernel_rfl) ?_
        intro K5 hK5
        go_wp2_with fail
        have hnr : (⟨a1, c2⟩ : Rg) = via (nthW s k) ⟨lo, hi2⟩ := by
          unfold via
          rw [HY.out]
          dsimp only
          rw [HA1.out, HC2.out]
        have hro : OkR (⟨a1, c2⟩ : Rg) := by
          rw [hnr, HY.out]
          exact via_ok HOY.out HR.out
        have hfa : ∀ t ks, (Hp.follow m (ss.drop (i + 1)) ⟨a1, c2⟩)[t]? = some ks → Lall[o + (folK m (ss.drop (i + 1)) s ⟨lo, hi2⟩ k).length + t]? = some (rc ++ [(k : Int)] ++ ks.map Int.ofNat) := by
          intro t ks ht
          rw [hnr] at ht
          have h1 := folK_at m (ss.drop (i + 1)) s ⟨lo, hi2⟩ hlt ht
          rw [← HDR.out] at h1
          have h2 := HAT.out _ _ h1
          rw [Nat.add_assoc, h2, List.map_cons, List.append_assoc]
          rfl
        refine (HIH.out hil ⟨a1, c2⟩ (rc ++ [(k : Int)]) (o + (folK m (ss.drop (i + 1)) s ⟨lo, hi2⟩ k).length) v' w9 hro (by rw [List.length_append, hrc]; rfl) hfa HJ9.out HOW9.out).mono ?_
        rintro e W10 ⟨hkp10, hres⟩
        have hsc := folK_succ m (ss.drop (i + 1)) s ⟨lo, hi2⟩ k
        rw [← hnr] at hsc
        have HSC := Lib.hid hsc
        have HKP10 := Lib.hid (HKP9.out.trans hkp10)
        have HOL10 := Lib.hid (hkp10.own HCC.out.nTi (Nat.le_refl _) HOL9.out)
        have HB10 := Lib.hid (hkp10.bk HCC.out.nTr hBn HB79.out)
        clear hfa hro hnr hsc hkp10
        rcases hres with ⟨rfl, hJ10⟩ | ⟨rfl, t, ht, hJ10⟩
        · have HJ10 := Lib.hid hJ10
          clear hJ10
          refine hK5 _ _ (fun hx => (Bool.false_ne_true (hx.symm.trans (by kernel_rfl))).elim) ?_
          clear hK5 K5
          refine any_run1 (i := 15) (by kernel_rfl) (by rfl) (by kernel_rfl) ?_
          intro K5 hK5
          go_wp2_with fail
          refine hK5 _ _ (fun hx => (Bool.false_ne_true (hx.symm.trans (by kernel_rfl))).elim) ?_
          clear hK5 K5
          refine any_done (by kernel_rfl) (NoPanic.normal ?_)
          go_wp2_with fail
          go_roundw
          case rel => exact ⟨k + 1, by omega, by go_num, by rw [HSC.out, List.length_append, List.length_map, ← Nat.add_assoc]; exact HJ10.out, HOL10.out, HB10.out, HKP10.out⟩
          case measure => simp [intOf]; omega
        · have HJ10 := Lib.hid hJ10
          clear hJ10
          refine hK5 _ _ (fun hx => (Bool.false_ne_true (hx.symm.trans (by kernel_rfl))).elim) ?_
          clear hK5 K5
          refine any_run1 (i := 15) (by kernel_rfl) (by rfl) (by kernel_rfl) ?_
          intro K5 hK5
          go_wp2_with fail
          refine hK5 _ _ (fun hx => (Bool.false_ne_true (hx.symm.trans (by kernel_rfl))).elim) ?_
          clear hK5 K5
          refine any_done (by kernel_rfl) (NoPanic.normal ?_)
          go_wp2_with fail
          refine bodyPost_ret (v := .bool false) (by simp [results, Try.results97, go_sem]) rfl ⟨HKP10.out, .inr ⟨rfl, (folK m (ss.drop (i + 1)) s ⟨lo, hi2⟩ k).length + t, ?_, by rw [← Nat.add_assoc]; exact HJ10.out⟩⟩
          rw [HDR.out]
          obtain ⟨l, hl⟩ := folK_le m (ss.drop (i + 1)) s ⟨lo, hi2⟩ (k := k + 1) (by omega)
          rw [hl, HSC.out, List.length_append, List.length_append, List.length_map]
          omega
      ·skip
       intro K hK
       have qy23 := dy1.size
       have ey22 : Below X.heap.size X (uy2.alloc (.cells #[.int .i64 0, .int .i64 0] 33)) := Below.alloc dy1 dy1.size _
       have hnx : Below uy2.heap.size uy2 (uy2.alloc (.cells #[.int .i64 0, .int .i64 0] 33)) := Below.alloc (Below.refl _ _) (Nat.le_refl _) _
       go_wp2_with fail
       have nx13 : BK (uy2.alloc (.cells #[.int .i64 0, .int .i64 0] 33)) uy2.heap.size #[.int .i64 0, .int .i64 0] 33 := BK.new _ _ _
       refine hK _ _ (fun _ => ey22) ?_
       clear hK K hnx
       generalize (uy2.alloc (.cells #[.int .i64 0, .int .i64 0] 33)) = vy24 at *
       obtain ⟨gnx13, hgnx13⟩ : ∃ g, uy2.heap.size = g := ⟨_, rfl⟩
       have hqnx13 : X.heap.size ≤ gnx13 := by omega
       rw [hgnx13] at nx13
       try rw [hgnx13]
       clear hgnx13
       refine any_run1 (i := 3) (by kernel_rfl) (by rfl) (by kernel_rfl) ?_
       intro K hK
       have qy27 := ey22.size
       go_wp2_with fail
       refine (after_any y _ lo _ HOY.out hlo (HVW.out _ ey22)).mono ?_
       rintro e vy26 ⟨rfl, hb⟩
       rw [HA1.out]
       unfold rV
       have ey25 : Below X.heap.size X vy26 := ey22.trans (hb.mono ey22.size)
       replace nx13 := nx13.below hb nx13.lt
       clear hb
       refine hK _ _ (fun _ => ey25) ?_
       clear hK K
       refine any_tk 4 ?_
       refine any_run1 (i := 8) (by kernel_rfl) (by rfl) (by kernel_rfl) ?_
       intro K hK
       have qy30 := ey25.size
       go_wp2_with fail
       refine (after_any y _ hi2 _ HOY.out hhi (HVW.out _ ey25)).mono ?_
       rintro e vy29 ⟨rfl, hb⟩
       rw [HC2.out]
       unfold rV
       have ey28 : Below X.heap.size X vy29 := ey25.trans (hb.mono ey25.size)
       replace nx13 := nx13.below hb nx13.lt
       clear hb
       refine hK _ _ (fun _ => ey28) ?_
       clear hK K
       refine any_tk 9 ?_
       refine any_tk 10 ?_
       refine any_run1 (i := 12) (by kernel_rfl) (by rfl) (by kernel_rfl) ?_
       intro K hK
       have lnx13 := nx13.lt
       have y0 := nx13.cell 0
       have f0 := nx13.frozen 0
       have y1 := nx13.cell 1
       have f1 := nx13.frozen 1
       simp at y0 y1
       go_wp2_with fail
       have ey31 : Below X.heap.size X ((vy29.setCell ⟨gnx13, 0, none⟩ (.int .i64 a1)).setCell ⟨gnx13, 1, none⟩ (.int .i64 c2)) := by exact bel_of
       have nx13_ := ((nx13.set 0 (.int .i64 a1)).set 1 (.int .i64 c2))
       simp at nx13_
       clear nx13; have nx13 := nx13_; clear nx13_
       clear y0 f0 y1 f1
       refine hK _ _ (fun _ => ey31) ?_
       clear hK K
       generalize ((vy29.setCell ⟨gnx13, 0, none⟩ (.int .i64 a1)).setCell ⟨gnx13, 1, none⟩ (.int .i64 c2)) = vy32 at *
       refine any_done (by kernel_rfl) (NoPanic.normal ?_)
       go_wp2_with fail
       have hd := ey31
       have hJ2 := HCC.out.sJ _ _ _ HJ1.out (Adm.below hd)
       have hown2 := OwnI.below HOW1.out hd
       have hkp2 := HKP1.out.below hd
       have hb72 := b7.below hd l7
       have hB2 : B0 ≤ vy32.heap.size := Nat.le_trans hB1 hd.size
       have HNX := Lib.hid nx13
       have n0c := nx13.cell 0
       have n1c := nx13.cell 1
       have lnx := nx13.lt
       simp at n0c n1c
       have HJ2 := Lib.hid hJ2
       have HKP2 := Lib.hid hkp2
       have HB72 := Lib.hid hb72
       have wi : IntKind.i64.wrap ((i : Int) + 1) = (i : Int) + 1 := by rw [IntKind.wrap_i64]; omega
       obtain ⟨g5, hg5⟩ : ∃ g, vy32.heap.size = g := ⟨_, rfl⟩
       have hd1 : Below vy32.heap.size vy32 vy32.drew := Below.drew (Below.refl _ _)
       have hd2 : Below vy32.heap.size vy32 (vy32.alloc (.cells #[.int .i64 (k : Int)] 3)).drew := Below.drew (Below.alloc (Below.refl _ _) (Nat.le_refl _) _)
       have b5' : BK (vy32.alloc (.cells #[.int .i64 (k : Int)] 3)).drew g5 #[.int .i64 (k : Int)] 3 := BK.drew (BK.new' _ _ _ _ hg5)
       have hrl : rc.length = i + 1 := hrc
       obtain ⟨A, cc, hac, hlc, hA0, v', w9, hrun, hown', hbel, hb9⟩ := app_full_i int_info int_slice (OwnI.below hown2 hd2) b5' (by omega) (by have := hd2.size; omega)
       rw [hrl] at hac hlc hrun
       injection hac with hac1 hac2 hac3
       subst hac1
       subst hac3
       have hd3 : Below vy32.heap.size vy32 w9 := hd2.trans (hb9.mono hd2.size)
       have hJ9 := HCC.out.sJ _ _ _ HJ2.out (Adm.below hd3)
       have hkp9 := HKP2.out.below hd3
       have hb79 := HB72.out.below hd3 HB72.out.lt
       have hown9 := OwnI.below hown2 hd3
       have HRUN := Lib.hid hrun
       have HOW9 := Lib.hid hown'
       have HOL9 := Lib.hid hown9
       have HJ9 := Lib.hid hJ9
       have HKP9 := Lib.hid hkp9
       have HB79 := Lib.hid hb79
       have hcv : (i : Int) + 1 ≤ (cv : Int) := by omega
       have HG5 := Lib.hid hg5
       clear hd hJ2 hown2 hkp2 hb72 nx13 hrun hown' hbel hb9 hJ9 hkp9 hb79 hown9 hac2 hA0 b5' hg5 HJ2 HKP2 HB72
       have HX : ∀ X2, Below vy32.heap.size vy32 X2 → X2.cell? ⟨gnx13, 0, none⟩ = some (.int .i64 a1) ∧ X2.cell? ⟨gnx13, 1, none⟩ = some (.int .i64 c2) := fun X2 hX => ⟨(hX.cell (p := ⟨gnx13, 0, none⟩) lnx).trans n0c, (hX.cell (p := ⟨gnx13, 1, none⟩) lnx).trans n1c⟩
       refine wp_region_noPanic (plain_any [0, 1, 2, 3, 4, 5, 6, 7, 8, 9, 10, 13] (Below vy32.heap.size vy32) mixed ?_)
       (refine any_take 0 ?_ (by rfl) (by kernel_rfl) (fun _ _ _ _ _ hx => hx.elim) (.inl ⟨by rfl, ?_⟩) hd1 ?_; rotate_left; (intro X hX; obtain ⟨r1, r2⟩ := HX X hX; clear hX; go_simp; rfl); simp only [List.getElem_toArray, List.getElem_cons_succ, List.getElem_cons_zero, Act.put, List.setIfInBounds_toArray, List.set_cons_succ, List.set_cons_zero])
       (refine any_take 1 ?_ (by rfl) (by kernel_rfl) (fun _ _ _ _ _ hx => hx.elim) (.inl ⟨by rfl, ?_⟩) hd1 ?_; rotate_left; (intro X hX; obtain ⟨r1, r2⟩ := HX X hX; clear hX; go_simp; rfl); simp only [List.getElem_toArray, List.getElem_cons_succ, List.getElem_cons_zero, Act.put, List.setIfInBounds_toArray, List.set_cons_succ, List.set_cons_zero])
       (refine any_take 2 ?_ (by rfl) (by kernel_rfl) (fun _ _ _ _ _ hx => hx.elim) (.inl ⟨by rfl, ?_⟩) hd1 ?_; rotate_left; (intro X hX; obtain ⟨r1, r2⟩ := HX X hX; clear hX; go_simp; rfl); simp only [List.getElem_toArray, List.getElem_cons_succ, List.getElem_cons_zero, Act.put, List.setIfInBounds_toArray, List.set_cons_succ, List.set_cons_zero])
       (refine any_take 3 ?_ (by rfl) (by kernel_rfl) (fun _ _ _ _ _ hx => hx.elim) (.inl ⟨by rfl, ?_⟩) hd1 ?_; rotate_left; (intro X hX; obtain ⟨r1, r2⟩ := HX X hX; clear hX; go_simp; rfl); simp only [List.getElem_toArray, List.getElem_cons_succ, List.getElem_cons_zero, Act.put, List.setIfInBounds_toArray, List.set_cons_succ, List.set_cons_zero])
       (refine any_take 4 ?_ (by rfl) (by kernel_rfl) (fun _ _ _ _ _ hx => hx.elim) (.inl ⟨by rfl, ?_⟩) hd1 ?_; rotate_left; (intro X hX; obtain ⟨r1, r2⟩ := HX X hX; clear hX; go_simp; rfl); simp only [List.getElem_toArray, List.getElem_cons_succ, List.getElem_cons_zero, Act.put, List.setIfInBounds_toArray, List.set_cons_succ, List.set_cons_zero])
       (refine any_take 5 ?_ (by rfl) (by kernel_rfl) (fun _ _ _ _ _ hx => hx.elim) (.inl ⟨by rfl, ?_⟩) hd1 ?_; rotate_left; (intro X hX; obtain ⟨r1, r2⟩ := HX X hX; clear hX; go_simp; rfl); simp only [List.getElem_toArray, List.getElem_cons_succ, List.getElem_cons_zero, Act.put, List.setIfInBounds_toArray, List.set_cons_succ, List.set_cons_zero])
       (refine any_take 6 ?_ (by rfl) (by kernel_rfl) (fun _ _ _ _ _ hx => hx.elim) (.inl ⟨by rfl, ?_⟩) hd1 ?_; rotate_left; (intro X hX; obtain ⟨r1, r2⟩ := HX X hX; clear hX; go_simp; rfl); simp only [List.getElem_toArray, List.getElem_cons_succ, List.getElem_cons_zero, Act.put, List.setIfInBounds_toArray, List.set_cons_succ, List.set_cons_zero])
       (refine any_take 7 ?_ (by rfl) (by kernel_rfl) (fun _ _ _ _ _ hx => hx.elim) (.inl ⟨by rfl, ?_⟩) hd1 ?_; rotate_left; (intro X hX; obtain ⟨r1, r2⟩ := HX X hX; clear hX; go_simp; rfl); simp only [List.getElem_toArray, List.getElem_cons_succ, List.getElem_cons_zero, Act.put, List.setIfInBounds_toArray, List.set_cons_succ, List.set_cons_zero])
       (refine any_take 8 ?_ (by rfl) (by kernel_rfl) (fun _ _ _ _ _ hx => hx.elim) (.inl ⟨by rfl, ?_⟩) hd1 ?_; rotate_left; (intro X hX; obtain ⟨r1, r2⟩ := HX X hX; clear hX; go_simp; rfl); simp only [List.getElem_toArray, List.getElem_cons_succ, List.getElem_cons_zero, Act.put, List.setIfInBounds_toArray, List.set_cons_succ, List.set_cons_zero])
       (refine any_take 9 ?_ (by rfl) (by kernel_rfl) (fun _ _ _ _ _ hx => hx.elim) (.inl ⟨by rfl, ?_⟩) hd1 ?_; rotate_left; (intro X hX; obtain ⟨r1, r2⟩ := HX X hX; clear hX; go_simp; rfl); simp only [List.getElem_toArray, List.getElem_cons_succ, List.getElem_cons_zero, Act.put, List.setIfInBounds_toArray, List.set_cons_succ, List.set_cons_zero])
       (refine any_take 10 ?_ (by rfl) (by kernel_rfl) (fun _ _ _ _ _ hx => hx.elim) (.inl ⟨by rfl, ?_⟩) hd1 ?_; rotate_left; (intro X hX; obtain ⟨r1, r2⟩ := HX X hX; clear hX; go_simp; rfl); simp only [List.getElem_toArray, List.getElem_cons_succ, List.getElem_cons_zero, Act.put, List.setIfInBounds_toArray, List.set_cons_succ, List.set_cons_zero])
       (refine any_take 13 ?_ (by rfl) (by kernel_rfl) (fun _ _ _ _ _ hx => hx.elim) (.inl ⟨by rfl, ?_⟩) hd1 ?_; rotate_left; (intro X hX; obtain ⟨r1, r2⟩ := HX X hX; clear hX; go_simp; rfl); simp only [List.getElem_toArray, List.getElem_cons_succ, List.getElem_cons_zero, Act.put, List.setIfInBounds_toArray, List.set_cons_succ, List.set_cons_zero])
       refine any_run1 (i := 11) (by kernel_rfl) (by rfl) (by kernel_rfl) ?_
       intro K5 hK5
       go_wp2_with fail
       refine hK5 _ _ (fun _ => hd2) ?_
       clear hK5 K5
       rw [HG5.out]
       refine any_run1 (i := 12) (by kernel_rfl) (by rfl) (by kernel_rfl) ?_
       intro K5 hK5
       refine wp_append_run (.tmp 69) (.tmp 71) 40 _ rfl HRUN.out ?_
       refine hK5 _ _ (fun _ => by rw [← HG5.out]; exact hd3) ?_
       clear hK5 K5 HX n0c n1c lnx HNX hd1 hd2
       simp only [List.getElem_toArray, List.getElem_cons_succ, List.getElem_cons_zero, Act.put, List.setIfInBounds_toArray, List.set_cons_succ, List.set_cons_zero]
       refine any_run1 (i := 14) (by kernel_rfl) (by rfl) (by kernel_rfl) ?_
       intro K5 hK5
       go_wp2_with fail
       have hnr : (⟨a1, c2⟩ : Rg) = via (nthW s k) ⟨lo, hi2⟩ := by
         unfold via
         rw [HY.out]
         dsimp only
         rw [HA1.out, HC2.out]
       have hro : OkR (⟨a1, c2⟩ : Rg) := by
         rw [hnr, HY.out]
         exact via_ok HOY.out HR.out
       have hfa : ∀ t ks, (Hp.follow m (ss.drop (i + 1)) ⟨a1, c2⟩)[t]? = some ks → Lall[o + (folK m (ss.drop (i + 1)) s ⟨lo, hi2⟩ k).length + t]? = some (rc ++ [(k : Int)] ++ ks.map Int.ofNat) := by
         intro t ks ht
         rw [hnr] at ht
         have h1 := folK_at m (ss.drop (i + 1)) s ⟨lo, hi2⟩ hlt ht
         rw [← HDR.out] at h1
         have h2 := HAT.out _ _ h1
         rw [Nat.add_assoc, h2, List.map_cons, List.append_assoc]
         rfl
       refine (HIH.out hil ⟨a1, c2⟩ (rc ++ [(k : Int)]) (o + (folK m (ss.drop (i + 1)) s ⟨lo, hi2⟩ k).length) v' w9 hro (by rw [List.length_append, hrc]; rfl) hfa HJ9.out HOW9.out).mono ?_
       rintro e W10 ⟨hkp10, hres⟩
       have hsc := folK_succ m (ss.drop (i + 1)) s ⟨lo, hi2⟩ k
       rw [← hnr] at hsc
       have HSC := Lib.hid hsc
       have HKP10 := Lib.hid (HKP9.out.trans hkp10)
       have HOL10 := Lib.hid (hkp10.own HCC.out.nTi (Nat.le_refl _) HOL9.out)
       have HB10 := Lib.hid (hkp10.bk HCC.out.nTr hBn HB79.out)
       clear hfa hro hnr hsc hkp10
       rcases hres with ⟨rfl, hJ10⟩ | ⟨rfl, t, ht, hJ10⟩
       · have HJ10 := Lib.hid hJ10
         clear hJ10
         refine hK5 _ _ (fun hx => (Bool.false_ne_true (hx.symm.trans (by kernel_rfl))).elim) ?_
         clear hK5 K5
         refine any_run1 (i := 15) (by kernel_rfl) (by rfl) (by kernel_rfl) ?_
         intro K5 hK5
         go_wp2_with fail
         refine hK5 _ _ (fun hx => (Bool.false_ne_true (hx.symm.trans (by kernel_rfl))).elim) ?_
         clear hK5 K5
         refine any_done (by kernel_rfl) (NoPanic.normal ?_)
         go_wp2_with fail
         go_roundw
         case rel => exact ⟨k + 1, by omega, by go_num, by rw [HSC.out, List.length_append, List.length_map, ← Nat.add_assoc]; exact HJ10.out, HOL10.out, HB10.out, HKP10.out⟩
         case measure => simp [intOf]; omega
       · have HJ10 := Lib.hid hJ10
         clear hJ10
         refine hK5 _ _ (fun hx => (Bool.false_ne_true (hx.symm.trans (by kernel_rfl))).elim) ?_
         clear hK5 K5
         refine any_run1 (i := 15) (by kernel_rfl) (by rfl) (by kernel_rfl) ?_
         intro K5 hK5
         go_wp2_with fail
         refine hK5 _ _ (fun hx => (Bool.false_ne_true (hx.symm.trans (by kernel_rfl))).elim) ?_
         clear hK5 K5
         refine any_done (by kernel_rfl) (NoPanic.normal ?_)
         go_wp2_with fail
         refine bodyPost_ret (v := .bool false) (by simp [results, Try.results97, go_sem]) rfl ⟨HKP10.out, .inr ⟨rfl, (folK m (ss.drop (i + 1)) s ⟨lo, hi2⟩ k).length + t, ?_, by rw [← Nat.add_assoc]; exact HJ10.out⟩⟩
         rw [HDR.out]
         obtain ⟨l, hl⟩ := folK_le m (ss.drop (i + 1)) s ⟨lo, hi2⟩ (k := k + 1) (by omega)
         rw [hl, HSC.out, List.length_append, List.length_append, List.length_map]
         omega
end Go.Proofs.Ytkibdciomheekaa
