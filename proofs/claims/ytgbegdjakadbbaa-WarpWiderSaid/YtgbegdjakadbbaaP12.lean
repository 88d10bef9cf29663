/- What is yielded as a list; all bends, all blows. All bends, all blows. The least of several. What is to go from a bend on, asked by the search for best blows. A map of numbers by places of the tree, as a function. Rows that are appended. Best blows, step by step, plainly. -/
import Derived.Test.YtgbegdjakadbbaaP11
import Derived.MapKept
import Derived.Great.BuildSlice
set_option linter.all false
set_option linter.unnecessarySimpa false
set_option linter.unusedSimpArgs false
set_option linter.unusedVariables false
set_option linter.unusedSectionVars false

set_option linter.all false
attribute [local go_sem] Go.Oper.semAt_some
namespace Go.Proofs.Ytgbegdjakadbbaa
open Go.RowKit Vp

theorem i_grow {A w1 : World} {base B B0 : Nat} {L : List Int} {v : Value} (h1 : Lst 25 2 1 A base B L.length (ofI L) v) (hbw : Below A.heap.size A w1) (F : Int) (hn : L.length ≤ 100000) (hbase : base ≤ A.heap.size) (hB0 : B < B0) :
    ∃ g' n' cap' w2, (Builtin.append_ #[25, 25] 25 #[v, .slice (some ⟨w1.heap.size, 0, none⟩) 1 1]).run Try.prog (w1.alloc (.cells #[.int .i64 F] 2)) = .ok (.slice (some ⟨g', 0, none⟩) n' cap') w2 ∧
      w2.cell? ⟨B, 0, none⟩ = some v ∧ w2.frozen? ⟨B, 0, none⟩ = false ∧ A.heap.size ≤ w2.heap.size ∧
      (∃ v', Lst 25 2 1 (w2.setCell ⟨B, 0, none⟩ (.slice (some ⟨g', 0, none⟩) n' cap')) base B (L ++ [F]).length (ofI (L ++ [F])) v') ∧
      (∀ n w, n ≤ base → Below n w A → Below n w (w2.setCell ⟨B, 0, none⟩ (.slice (some ⟨g', 0, none⟩) n' cap'))) ∧
      Kept (fun t => t = 2) B0 A (w2.setCell ⟨B, 0, none⟩ (.slice (some ⟨g', 0, none⟩) n' cap')) ∧
      (∀ k cs t, BK A k cs t → k < base → BK (w2.setCell ⟨B, 0, none⟩ (.slice (some ⟨g', 0, none⟩) n' cap')) k cs t) := by
  obtain ⟨g', cap', w2, hrun, _, y2, y3, hL, hz, hg, hbel, hfr⟩ := grow1 (P := Try.prog) i64_info i64_slice rfl (by decide) (by decide) (by decide) h1 hbw (news := [.int .i64 F]) rfl (by intro u hu; simp at hu; rcases hu with rfl; rfl) hn hbase 25 2
  refine ⟨g', L.length + 1, cap', w2, hrun, y2, y3, hz, ⟨.slice (some ⟨g', 0, none⟩) (L.length + 1) cap', ?_⟩, hbel, ⟨by simpa [World.setCell] using hz, ?_⟩, ?_⟩
  · have : ofI (L ++ [F]) = ofI L ++ [.int .i64 F] := by simp [ofI]
    rw [this, List.length_append]; exact hL
  · intro k o hk ho hc
    refine hfr k o ho (by omega) ?_
    intro hq
    obtain ⟨c, hc'⟩ := own_block h1.2.2 hq
    rw [ho] at hc'; injection hc' with hc'
    exact hc _ _ _ hc' rfl
  · intro k cs t hk hkb
    refine hfr _ _ hk ?_ ?_
    · have := h1.2.1; omega
    · intro hq
      have := (h1.2.2.lt _ hq).1; omega
/-- What lies while they are listed. -/
structure LiI (w : World) (n ga gb : Nat) (lo hi : Int) (l : List Int) (X : World) : Prop where
  below : Below n w X
  box : ∃ v, Lst 25 2 1 X n n l.length (ofI l) v
  cm : CntMem ga gb lo hi X
  size : n + 1 ≤ X.heap.size
theorem LiI.adm {w : World} {n ga gb B : Nat} {lo hi : Int} {l : List Int} {X Y : World} (h : LiI w n ga gb lo hi l X) (ha : Adm B X Y) (hB : n ≤ B) (hw : w.heap.size = n) : LiI w n ga gb lo hi l Y := by
  obtain ⟨v, hv⟩ := h.box
  exact ⟨ha.belowOf h.below (by omega) hB, ⟨v, hv.adm ha⟩, h.cm.adm ha, Nat.le_trans h.size ha.size⟩
theorem own_put {W : World} {base e sz n : Nat} {v : Value} {xs : List Value} {D : Nat} (h : W.ownsRow base e sz v n xs) (hD : W.heap[D]? = some (.deferred (some []))) : (W.putObj D (.deferred none)).ownsRow base e sz v n xs :=
  (Adm.put (B := D) (.deferred none) (Nat.le_refl _) hD rfl).own h
set_option maxHeartbeats 8000000 in
set_option maxRecDepth 100000 in
theorem listed_any (ga gb : Nat) (lo hi : Int) (w : World) (hcm : CntMem ga gb lo hi w) (hlo : -1000 ≤ lo ∧ lo ≤ 1000) (hhi : -1000 ≤ hi ∧ hi ≤ 1000) :
    Calls Try.prog 72 #[cntV ga gb] w fun e w' => ∃ v, e = .returned v ∧ OwnI 2 w' w.heap.size v (lst lo (cnt lo hi)) ∧ Below w.heap.size w w' := by
  obtain ⟨n, hn⟩ : ∃ n, w.heap.size = n := ⟨_, rfl⟩
  rw [hn]
  unfold cntV
  refine calls_of_wp_marks Try.func72 rfl ?_
  simp only [Try.ntmps72, List.size_toArray, List.length_cons, List.length_nil, Nat.reduceAdd, Nat.reduceSub, Array.replicate_succ, Array.replicate_zero, List.push_toArray, List.append_toArray, List.nil_append, List.cons_append]
  go_upto_region 2 with fail
  have hb1 : Below n w (w.alloc (.cells #[.slice none 0 0] 25)) := Below.alloc (Below.refl _ _) (by omega) _
  have hI0 : LiI w n ga gb lo hi (lst lo 0) (w.alloc (.cells #[.slice none 0 0] 25)) :=
    ⟨hb1, ⟨_, BK.new' _ _ _ n hn, Nat.le_refl _, ⟨by simp [lst, ofI], .inl ⟨rfl, rfl⟩⟩⟩, ⟨hcm.a.alloc _, hcm.b.alloc _⟩, by simp [hn]⟩
  have hs1 : (w.alloc (.cells #[.slice none 0 0] 25)).heap.size = n + 1 := by simp [hn]
  have la := hcm.a.lt
  have lb := hcm.b.lt
  rw [hn] at la lb
  have HI0 := Lib.hid hI0
  have HS1 := Lib.hid hs1
  clear hI0 hs1 hb1
  generalize w.alloc (.cells #[.slice none 0 0] 25) = W1 at *
  go_wp2_with fail
  refine wp_range_a (gf := 87) (lb := #[.pointer (some ⟨ga, 0, none⟩), .pointer (some ⟨gb, 0, none⟩)]) rfl egCount (count_iter (fun t => t = 2) ga gb lo hi (by omega) (by omega)) (fun _ => rfl)
    (fun j Y => LiI w n ga gb lo hi (lst lo j) Y)
    (fun _ _ _ => False)
    (fun tm j a' Y => LiI w n ga gb lo hi (lst lo j) Y ∧ a' = { tmps := (tm.setIfInBounds 6 (.int .i64 (lo + (j : Int)))).setIfInBounds 4 (.int .i64 (lo + (j : Int))), defers := [] })
    ?rounds ?mem ?start ?done ?stop
  case stop => rintro D c j Y hD hi hf; exact hf.elim
  case mem => rintro j Y hI; exact hI.cm
  case start => exact HI0.out
  case done =>
    rintro D Y hD hI hDY
    rw [HS1.out] at hD
    obtain ⟨v, hv⟩ := hI.box
    have c0 := hv.1.cell 0
    have l0 := hv.1.lt
    simp at c0
    have hown := hv.2.2
    rw [lst_length] at hown
    have HOW := Lib.hid (own_put hown hDY)
    have HBL := Lib.hid (below_put (D := D) hI.below (by omega) (.deferred none))
    have HDY := Lib.hid hDY
    clear hown hv hI hDY
    go_wp2_with fail
    refine leave1 HDY.out (v := v) (by simp [results, Try.results72, go_sem]) ?_
    exact ⟨v, rfl, by unfold OwnI; rw [lst_length]; exact HOW.out, HBL.out⟩
  case rounds =>
    rw [HS1.out]
    refine ⟨?_, fun c j A A' h _ => h, ?_, fun j X h => h.size, ?_, ?_⟩
    · rintro j Y Z hI ha
      exact hI.adm ha (by omega) hn
    · rintro j a Y Z ⟨hI, e1⟩ ha
      exact ⟨hI.adm ha (by omega) hn, e1⟩
    · rintro lq j Y hj hI K2 hK2
      have hK3 := hK2 _ Y (Kept.refl _ _ _) ⟨hI, rfl⟩
      simp only [List.setIfInBounds_toArray, List.set_cons_succ, List.set_cons_zero] at hK3
      have HK3 := Lib.hid hK3
      clear hK3 hK2 hI
      gi_wp2_with fail
      exact HK3.out
    · rintro lq j a' Y hj hlq ⟨r, hr⟩ ⟨hI, rfl⟩
      simp only [List.setIfInBounds_toArray, List.set_cons_succ, List.set_cons_zero]
      have hj2 : j < (hi + 1 - lo).toNat := hj
      obtain ⟨v, hv⟩ := hI.box
      obtain ⟨g', n', cap', w3, hrun, k1, k2, k3, hL, hbel, hkp, hbk⟩ := i_grow (B0 := n + 1) hv (Below.refl _ _) (lo + (j : Int)) (by rw [lst_length]; omega) (by have := hI.size; omega) (by omega)
      rw [← lst_succ] at hL
      have c0 := hv.1.cell 0
      have l0 := hv.1.lt
      simp at c0
      have l3 : n < w3.heap.size := by have := hI.size; omega
      have hF : LiI w n ga gb lo hi (lst lo (j + 1)) (w3.setCell ⟨n, 0, none⟩ (.slice (some ⟨g', 0, none⟩) n' cap')) :=
        ⟨hbel _ _ (Nat.le_refl _) hI.below, hL, ⟨hbk _ _ _ hI.cm.a la, hbk _ _ _ hI.cm.b lb⟩, by have := hI.size; simp only [World.setCell, Array.size_modify]; omega⟩
      have HF := Lib.hid hF
      have HK := Lib.hid hkp
      have HRUN := Lib.hid hrun
      clear hF hkp hrun hL hbel hbk hv hI k3
      gi_wp2_with (gi_at_builtin; refine wpListIn_append_run rfl (.tmp 7) (.tmp 9) 25 _ rfl HRUN.out ?_)
      exact ⟨HK.out, HF.out⟩

end Go.Proofs.Ytgbegdjakadbbaa

set_option linter.all false
attribute [local go_sem] Go.Oper.semAt_some
namespace Go.Proofs.Ytgbegdjakadbbaa
open Go.RowKit Vp

set_option maxHeartbeats 8000000 in
set_option maxRecDepth 100000 in
theorem all_any (p : Value) (w : World) : Calls Try.prog 58 #[p] w fun e w' => ∃ v, e = .returned v ∧ OwnI 2 w' w.heap.size v (lst (-200) 401) ∧ Below w.heap.size w w' := by
  obtain ⟨n, hn⟩ : ∃ n, w.heap.size = n := ⟨_, rfl⟩
  rw [hn]
  go_enter Try.func58, Try.ntmps58
  go_wp2_with fail
  refine (count_any _ _ _).mono ?_
  rintro e w1 ⟨rfl, hcm, -, hb⟩
  rw [hn] at hcm ⊢
  have HCM := Lib.hid hcm
  have HHB := Lib.hid hb
  clear hcm hb
  go_wp2_with fail
  refine (listed_any _ _ _ _ _ HCM.out (by omega) (by omega)).mono ?_
  rintro e w2 ⟨v, rfl, ho, hb2⟩
  have HO := Lib.hid (own_more ho (show n ≤ w1.heap.size by have := HHB.out.size; omega))
  have HB := Lib.hid (show Below n w w2 by rw [← hn]; exact HHB.out.trans (hb2.mono HHB.out.size))
  clear ho hb2
  go_wp2_with fail
  go_ret
  exact ⟨v, rfl, HO.out, HB.out⟩
set_option maxHeartbeats 8000000 in
set_option maxRecDepth 100000 in
theorem blows_any (g : Nat) (l : List St) (m : Int) (w : World) (hBn : Bn w w.heap.size g l m) (hm : 0 ≤ m ∧ m ≤ 200) : Calls Try.prog 63 #[.pointer (some ⟨g, 0, none⟩)] w fun e w' => ∃ v, e = .returned v ∧ OwnI 2 w' w.heap.size v (lst (-m) (cnt (-m) m)) ∧ Below w.heap.size w w' := by
  obtain ⟨vs, vt, b, lg, -, -⟩ := hBn
  have c1 := b.cell 1
  simp at c1
  have wm : IntKind.i64.wrap (-m) = -m := by rw [IntKind.wrap_i64]; omega
  clear b
  go_enter Try.func63, Try.ntmps63
  go_upto_region 1 with fail
  have hd : Below w.heap.size w w.drew := Below.drew (Below.refl _ _)
  refine wp_region_noPanic (plain_any [0, 1, 2, 3, 4, 5, 6, 7, 8, 9, 10, 13] (Below w.heap.size w) mixed ?_)
  refine any_tk 0 ?_
  refine any_tk 1 ?_
  refine any_tk 2 ?_
  refine any_tk 3 ?_
  refine any_tk 4 ?_
  refine any_tk 5 ?_
  refine any_tk 6 ?_
  refine any_tk 7 ?_
  refine any_tk 8 ?_
  refine any_tk 9 ?_
  refine any_tk 10 ?_
  refine any_run1 (i := 11) (by kernel_rfl) (by rfl) (by kernel_rfl) ?_
  intro K hK
  go_wp2_with fail
  refine (count_any _ _ _).mono ?_
  rintro e w1 ⟨rfl, hcm, -, hb⟩
  have hb1 := hd.trans (hb.mono (Nat.le_refl _))
  refine hK _ _ (fun _ => hb1) ?_
  clear hK K
  refine any_run1 (i := 12) (by kernel_rfl) (by rfl) (by kernel_rfl) ?_
  intro K hK
  go_wp2_with fail
  refine (listed_any _ _ _ _ _ hcm (by omega) (by omega)).mono ?_
  rintro e w2 ⟨v, rfl, ho, hb2⟩
  have HO := Lib.hid (own_more ho (show w.heap.size ≤ w1.heap.size from hb1.size))
  have hb3 := hb1.trans (hb2.mono hb1.size)
  refine hK _ _ (fun _ => hb3) ?_
  clear hK K ho hb hb1 hb2 hcm hd
  refine any_tk 13 ?_
  refine any_done (by kernel_rfl) (NoPanic.normal ?_)
  go_wp2_with fail
  go_ret
  exact ⟨v, rfl, HO.out, hb3⟩
end Go.Proofs.Ytgbegdjakadbbaa

set_option linter.all false
namespace Go.Proofs.Ytgbegdjakadbbaa
open Go.RowKit Vp

theorem addr_add' (b off j : Nat) : (⟨b, off, none⟩ : Addr).add j = ⟨b, off + j, none⟩ := by unfold Addr.add; split <;> simp_all
theorem RS.drop1 {w : World} {B n c k : Nat} {A : Option Addr} {cs : List Value} (h : RS w B 1 (.slice A n c) n cs) (hk : k ≤ n) : RS w B 1 (.slice (if c = k then A else Option.map (fun x => x.add k) A) (n - k) (c - k)) (n - k) (cs.drop k) := by
  obtain ⟨A', c', b, off, hv, ⟨hl, hcap⟩, hA, hc⟩ := h
  injection hv with q1 q2 q3
  subst q1; subst q3
  have hlen : (cs.drop k).length = n - k := by rw [List.length_drop, hl]; omega
  refine ⟨_, c - k, b, off + k, rfl, ⟨by rw [hlen]; omega, by omega⟩, fun hn => ?_, fun j hj => ?_⟩
  · obtain ⟨rfl, hb⟩ := hA (by omega)
    rw [if_neg (by omega), Option.map_some, addr_add']
    exact ⟨rfl, hb⟩
  · rw [hlen] at hj
    rw [Nat.add_assoc, hc (k + j) (by omega), List.getElem?_drop]
theorem argm_mem (F : Int → Int) (x : Int) (L : List Int) : argm F x L ∈ x :: L := (argm_spec F x L).1
set_option maxHeartbeats 8000000 in
set_option maxRecDepth 100000 in
theorem least_any (F : Int → Int) (x : Int) (L : List Int) (v p1 p2 p3 : Value) (w : World) (hl : L.length ≤ 100000) (h : RI w w.heap.size v (x :: L))
    (hF : ∀ (W : World) (g : Int), Below w.heap.size w W → g ∈ x :: L → Calls Try.prog 75 #[.int .i64 g, p1, p2, p3] W fun e w' => e = .returned (.int .i64 (F g)) ∧ Below W.heap.size W w') :
    Calls Try.prog 74 #[v, .func (.func 75) #[] #[p1, p2, p3]] w fun e w' => e = .returned (.int .i64 (argm F x L)) ∧ Below w.heap.size w w' := by
  obtain ⟨b0, off0, cap, A, rfl, hA0, hcap⟩ := h.slice
  have hd := RS.drop1 (k := 1) h (by simp)
  obtain ⟨A1, c1, b, off, hve, hA, hc⟩ := RI.cells h
  obtain ⟨rfl, hb⟩ := hA (by simp)
  injection hve with q1 q2 q3
  subst q1 q3
  have d0 := hc 0 (by simp)
  rw [Nat.add_zero] at d0
  have hx0 : nthI (x :: L) 0 = x := rfl
  rw [hx0] at d0
  have hl1 : ((x :: L).length : Int) = (L.length : Int) + 1 := by simp
  have hln : (x :: L).length = L.length + 1 := rfl
  obtain ⟨At, hAt⟩ : ∃ At, (if cap = 1 then some (⟨b, off, none⟩ : Addr) else Option.map (fun x => x.add 1) (some (⟨b, off, none⟩ : Addr))) = At := ⟨_, rfl⟩
  have hof : (ofI (x :: L)).drop 1 = ofI L := rfl
  rw [hAt, hln, Nat.add_sub_cancel, hof] at hd
  have HD := Lib.hid (show RI w w.heap.size (.slice At L.length (cap - 1)) L from hd)
  have HF := Lib.hid hF
  have hc1 : (1 : Int) ≤ (L.length : Int) + 1 := by omega
  rw [hln] at hcap ⊢
  have hcp : 1 ≤ cap := by omega
  clear hd hF h hA hc q2 hx0 hof hA0 hln hl1
  have HC := Lib.hid hcap
  by_cases h1 : cap = 1
  case pos =>
    subst h1
    obtain rfl : L = [] := List.eq_nil_of_length_eq_zero (by omega)
    clear HD hAt HF
    go_enter Try.func74, Try.ntmps74
    go_upto_region 3 with fail
    go_loopw [5, 14] (fun bv i wr => bv = .int .i64 x ∧ i = .int .i64 0 ∧ wr = w) (fun _ _ _ => 0)
    case atStart => exact ⟨rfl, rfl, rfl⟩
    case round =>
      obtain ⟨rfl, rfl, rfl⟩ := hrel
      go_wp2_with fail
      go_ret
      exact ⟨rfl, Below.refl _ _⟩
  rw [if_neg h1, Option.map_some, addr_add'] at hAt
  subst hAt
  go_enter Try.func74, Try.ntmps74
  go_upto_region 3 with fail
  go_loopw [5, 14] (fun bv i wr => ∃ k : Nat, k ≤ L.length ∧ i = .int .i64 k ∧ bv = .int .i64 (argm F x (L.take k)) ∧ Below w.heap.size w wr) (fun _ i _ => L.length - (intOf i).toNat)
  case atStart => exact ⟨0, Nat.zero_le _, rfl, rfl, Below.refl _ _⟩
  case round =>
    obtain ⟨k, hk, rfl, rfl, hbr⟩ := hrel
    by_cases hlt : k < L.length
    case neg =>
      obtain rfl : k = L.length := by omega
      rw [List.take_of_length_le (Nat.le_refl _)]
      go_wp2_with fail
      go_ret
      exact ⟨rfl, hbr⟩
    have hlt' : (k : Int) < (L.length : Int) := by omega
    obtain ⟨hbb, d1⟩ := RI.at HD.out hlt
    rw [← hbr.cell (by exact hbb)] at d1
    have hm1 : nthI L k ∈ x :: L := by
      unfold nthI
      rw [List.getD_eq_getElem?_getD, List.getElem?_eq_getElem hlt]
      exact List.mem_cons_of_mem _ (List.getElem_mem hlt)
    have hm2 : argm F x (L.take k) ∈ x :: L := by
      have := argm_mem F x (L.take k)
      rcases List.mem_cons.1 this with h | h
      · rw [h]; exact List.mem_cons_self ..
      · exact List.mem_cons_of_mem _ (List.mem_of_mem_take h)
    have hst : argm F x (L.take (k + 1)) = if F (nthI L k) < F (argm F x (L.take k)) then nthI L k else argm F x (L.take k) := by
      rw [List.take_succ_eq_append_getElem hlt, argm_snoc]
      unfold nthI
      rw [List.getD_eq_getElem?_getD, List.getElem?_eq_getElem hlt]
      rfl
    have hbbr : b < wr.heap.size := by have := hbr.size; omega
    have HBR := Lib.hid hbr
    have HST := Lib.hid hst
    have HM1 := Lib.hid hm1
    have HM2 := Lib.hid hm2
    generalize argm F x (L.take k) = cur at *
    generalize nthI L k = y at *
    clear hbr hst hm1 hm2 hbb
    go_wp2_with fail
    refine (HF.out _ y HBR.out HM1.out).mono ?_
    rintro e w1 ⟨rfl, hb1⟩
    have HB1 := Lib.hid (HBR.out.trans (hb1.mono HBR.out.size))
    clear hb1
    go_wp2_with fail
    refine (HF.out _ cur HB1.out HM2.out).mono ?_
    rintro e w2 ⟨rfl, hb2⟩
    have HB2 := Lib.hid (HB1.out.trans (hb2.mono HB1.out.size))
    clear hb2
    by_cases hc : F y < F cur
    · have d2 : decide (F y < F cur) = true := decide_eq_true hc
      have HN := Lib.hid (HST.out.trans (if_pos hc))
      clear hc
      go_wp2_with fail
      go_roundw
      case rel => exact ⟨k + 1, by omega, by go_num, by rw [HN.out], HB2.out⟩
      case measure => simp [intOf]; omega
    · have d2 : decide (F y < F cur) = false := decide_eq_false hc
      have HN := Lib.hid (HST.out.trans (if_neg hc))
      clear hc
      go_wp2_with fail
      go_roundw
      case rel => exact ⟨k + 1, by omega, by go_num, by rw [HN.out], HB2.out⟩
      case measure => simp [intOf]; omega
end Go.Proofs.Ytgbegdjakadbbaa

set_option linter.all false
namespace Go.Proofs.Ytgbegdjakadbbaa
open Go.RowKit Vp

set_option maxHeartbeats 8000000 in
set_option maxRecDepth 100000 in
theorem of_any (g : Nat) (l : List St) (m : Int) (k : Nat) (f gg : Int) (q5 q9 q1 gr c n : Nat) (G : Nat → Row) (w : World) (hBn : Bn w w.heap.size g l m) (ho : ∀ s ∈ l, okSB s = true) (hn20 : l.length ≤ 20) (hk : k < l.length)
    (h5 : BK w q5 #[.slice (some ⟨gr, 0, none⟩) n c] 98) (h9 : BK w q9 #[.int .i64 (k : Int), .int .i64 f] 101) (h1 : BK w q1 #[.pointer (some ⟨g, 0, none⟩)] 71) (hG : Gd w gr 83 n G) (hkn : k + 1 < n)
    (hg : -200 ≤ gg ∧ gg ≤ 200) (hf : -200 ≤ f ∧ f ≤ 200) (hG0 : 0 ≤ G (k + 1) (gg + 200).toNat ∧ G (k + 1) (gg + 200).toNat ≤ never) :
    Calls Try.prog 75 #[.int .i64 gg, .pointer (some ⟨q5, 0, none⟩), .pointer (some ⟨q9, 0, none⟩), .pointer (some ⟨q1, 0, none⟩)] w fun e w' => e = .returned (.int .i64 (G (k + 1) (gg + 200).toNat + cst (nthS l k) (gg - f))) ∧ Below w.heap.size w w' := by
  obtain ⟨x, hx⟩ : ∃ x : Nat, (gg + 200).toNat = x := ⟨_, rfl⟩
  rw [hx] at hG0 ⊢
  have hx2 : gg + 200 = (x : Int) := by omega
  have hx4 : x < 401 := by omega
  have d5 := h5.cell 0
  have l5 := h5.lt
  have d9 := h9.cell 0
  have e9 := h9.cell 1
  have l9 := h9.lt
  have d1 := h1.cell 0
  have l1 := h1.lt
  simp at d5 d9 e9 d1
  have lr := hG.lt
  have dr := hG.cell hkn hx4
  unfold cel at dr
  have hnv : never = 1099511627776 := rfl
  have hc0 := cst_nonneg (ho _ (nthS_mem hk)) (gg - f)
  have hc1 := cst_le (ho _ (nthS_mem hk)) (d := gg - f) (m := 400) (by omega) (by omega)
  obtain ⟨cc, hcc⟩ : ∃ cc, cst (nthS l k) (gg - f) = cc := ⟨_, rfl⟩
  obtain ⟨b, hb⟩ : ∃ b, G (k + 1) x = b := ⟨_, rfl⟩
  rw [hb] at hG0 dr
  rw [hcc] at hc0 hc1
  rw [hb, hcc]
  have HCC := Lib.hid hcc
  have HBN := Lib.hid hBn
  have wk : IntKind.i64.wrap ((k : Int) + 1) = (k : Int) + 1 := by rw [IntKind.wrap_i64]; omega
  have wg : IntKind.i64.wrap (gg + 200) = (x : Int) := by rw [IntKind.wrap_i64]; omega
  have wd : IntKind.i64.wrap (gg - f) = gg - f := by rw [IntKind.wrap_i64]; omega
  have wb : IntKind.i64.wrap (b + cc) = b + cc := by rw [IntKind.wrap_i64]; omega
  have k1 : (k : Int) + 1 < (n : Int) := by omega
  have k2 : ((k : Int) + 1).toNat = k + 1 := by omega
  have k3 : (0 : Int) ≤ (k : Int) + 1 := by omega
  have x5 : (x : Int) < 401 := by omega
  clear hcc hBn h5 h9 h1 hG hx hx2 hb hc0 hc1 hnv hG0
  have hd : Below w.heap.size w w.drew := Below.drew (Below.refl _ _)
  go_enter Try.func75, Try.ntmps75
  go_upto_region 1 with fail
  refine wp_region_noPanic (plain_any [0, 1, 2, 3, 4, 5, 6, 7, 8, 9, 10, 11, 12, 13, 14, 15, 17, 18] (Below w.heap.size w) mixed ?_)
  refine any_tk 0 ?_
  refine any_tk 1 ?_
  refine any_tk 2 ?_
  refine any_tk 3 ?_
  refine any_tk 4 ?_
  refine any_tk 5 ?_
  refine any_tk 6 ?_
  refine any_tk 7 ?_
  refine any_tk 8 ?_
  refine any_tk 9 ?_
  refine any_tk 10 ?_
  refine any_tk 11 ?_
  refine any_tk 12 ?_
  refine any_tk 13 ?_
  refine any_tk 14 ?_
  refine any_tk 15 ?_
  refine any_run1 (i := 16) (by kernel_rfl) (by rfl) (by kernel_rfl) ?_
  intro K hK
  go_wp2_with fail
  refine (cost_any w.heap.size g l m k (gg - f) _ (HBN.out.below (by exact hd)) ho hk hn20 (by omega)).mono ?_
  rintro e w5 ⟨rfl, rfl⟩
  rw [HCC.out]
  refine hK _ _ (fun _ => hd) ?_
  clear hK K
  refine any_tk 17 ?_
  refine any_tk 18 ?_
  refine any_done (by kernel_rfl) (NoPanic.normal ?_)
  go_wp2_with fail
  go_ret
  exact ⟨rfl, hd⟩
end Go.Proofs.Ytgbegdjakadbbaa

set_option linter.all false
namespace Go.Proofs.Ytgbegdjakadbbaa
open Go.RowKit Vp

def plV (a c : Int) : Value := .agg #[.int .i64 a, .int .i64 c]
structure En where
  a : Int
  c : Int
  v : Int
  born : Nat
def enE (e : En) : MapEntry := ⟨plV e.a e.c, .int .i64 e.v, e.born⟩
theorem place_under : Try.prog.underlying 101 = some (.struct (Try.prog.fieldsOf 101)) := by kernel_rfl
theorem place_held : Try.prog.stoodInHeld 101 = false := by kernel_rfl
theorem int_under : Try.prog.underlying 3 = some (.int .i64) := by kernel_rfl
theorem map_under : Try.prog.underlying 99 = some (.map 101 2) := by kernel_rfl
theorem int_zeroV (W : World) : (zeroValue 2).run Try.prog W = .ok (.int .i64 0) W := zero_i64 W
theorem place_fields : Try.prog.fieldsOf 101 = #[{ name := "station", type := 3, offset := 0, embedded := false, tag := "", pkgPath := "bolster/warp", byteOffset := 0 }, { name := "bend", type := 2, offset := 1, embedded := false, tag := "", pkgPath := "bolster/warp", byteOffset := 8 }] := by
  unfold Program.fieldsOf
  rw [Try.underlying101]
theorem eq_place (a c a' c' : Int) (W : World) : (Op.equal 101 (plV a c) (plV a' c')).run Try.prog W = .ok (decide (a = a' ∧ c = c')) W := by
  unfold Op.equal plV
  rw [show Op.maxDepth = 9999 + 1 from rfl, run_equalIn_struct W 9999 _ _ _ place_under place_held, place_fields]
  have h1 := fun x y => run_equalIn_int W 9998 3 .i64 .i64 x y int_under
  have h1b := fun x y => run_equalIn_int W 9998 2 .i64 .i64 x y i64_under
  simp only [Op.eqFields, part, Try.isAgg3, Try.isAgg2, h1b, Sem.run_bind, Sem.run_pure, Sem.run_ite, Result.andThen_ok, h1, ne_eq, String.reduceEq, not_false_eq_true, if_true, List.getElem?_toArray, List.getElem?_cons_zero, List.getElem?_cons_succ, Bool.false_eq_true, if_false]
  by_cases h2 : a = a'
  · by_cases h3 : c = c' <;> simp [h2, h3]
  · simp [h2]
theorem check_place (b : Bool) (a c : Int) (W : World) : (Instr.checkKey b 10000 101 (plV a c)).run Try.prog W = .ok () W := by
  unfold plV Instr.checkKey
  rw [Sem.run_bind, Try.runUnderlying101]
  have h1 : ∀ (v : Value) (W : World), (Instr.checkKey b 9999 3 v).run Try.prog W = .ok () W := fun v W => by
    unfold Instr.checkKey
    rw [Sem.run_bind, Try.runUnderlying3]
    simp
  have h1b : ∀ (v : Value) (W : World), (Instr.checkKey b 9999 2 v).run Try.prog W = .ok () W := fun v W => by
    unfold Instr.checkKey
    rw [Sem.run_bind, Try.runUnderlying2]
    simp
  simp [part, Try.isAgg3, Try.isAgg2, h1, h1b]
/-- Where a place stands, and its number. -/
def fnd (a c : Int) : List En → Nat → Option (Nat × Int)
  | [], _ => none
  | e :: l, i => if a = e.a ∧ c = e.c then some (i, e.v) else fnd a c l (i + 1)
theorem fnd_shift (a c : Int) : ∀ (l : List En) (i j : Nat), fnd a c l (i + j) = (fnd a c l i).map fun p => (p.1 + j, p.2)
  | [], _, _ => rfl
  | e :: l, i, j => by
    unfold fnd
    split
    · rfl
    · rw [show i + j + 1 = i + 1 + j by omega, fnd_shift a c l]
def gtE (l : List En) (a c : Int) : Option Int := (fnd a c l 0).map (·.2)
theorem gtE_nil (a c : Int) : gtE [] a c = none := rfl
theorem gtE_cons (e : En) (l : List En) (a c : Int) : gtE (e :: l) a c = if a = e.a ∧ c = e.c then some e.v else gtE l a c := by
  unfold gtE
  rw [fnd]
  split
  · rfl
  · rw [show 0 + 1 = 0 + 1 from rfl, fnd_shift a c l 0 1, Option.map_map]; rfl
theorem run_asking (a c : Int) (W : World) : ∀ (l : List En) (i : Nat), (Instr.findAsking 101 (plV a c) (l.map enE) i).run Try.prog W = .ok ((fnd a c l i).map fun p => (p.1, .int .i64 p.2)) W
  | [], i => by simp [Instr.findAsking, fnd]
  | e :: l, i => by
    rw [List.map_cons, Instr.findAsking, Sem.run_bind]
    show ((Op.equal 101 (plV a c) (plV e.a e.c)).run Try.prog W).andThen _ = _
    rw [eq_place, Result.andThen_ok, fnd]
    by_cases h : a = e.a ∧ c = e.c
    · rw [if_pos h]; simp [h, enE]
    · rw [if_neg h, ← run_asking a c W l (i + 1)]; simp [h]
theorem run_find (a c : Int) (W : World) (l : List En) : (Instr.findKey 101 (plV a c) (l.map enE)).run Try.prog W = .ok ((fnd a c l 0).map fun p => (p.1, .int .i64 p.2)) W := by
  unfold Instr.findKey
  rw [Sem.run_bind, Try.runUnderlying101, Result.andThen_ok]
  cases l with
  | nil => simp [Instr.findNow, fnd]
  | cons e l =>
    rw [← run_asking a c W (e :: l) 0]
    simp [Instr.findNow, Instr.sameNow, plV]
theorem fnd_some {a c : Int} : ∀ {l : List En} {i j : Nat} {v : Int}, fnd a c l i = some (j, v) → ∃ k, j = i + k ∧ ∃ e, l[k]? = some e ∧ e.a = a ∧ e.c = c ∧ e.v = v
  | [], _, _, _, h => by cases h
  | e :: l, i, j, v, h => by
    unfold fnd at h
    split at h
    · rename_i h1
      injection h with h
      injection h with h2 h3
      exact ⟨0, by omega, e, rfl, h1.1.symm, h1.2.symm, h3⟩
    · obtain ⟨k, h1, e', h2, h3⟩ := fnd_some h
      exact ⟨k + 1, by omega, e', by simpa using h2, h3⟩
/-- Places that stand apart. -/
def Apart (l : List En) : Prop := l.Pairwise fun x y => ¬ (x.a = y.a ∧ x.c = y.c)
theorem gtE_none {a c : Int} : ∀ {l : List En}, gtE l a c = none ↔ ∀ e ∈ l, ¬ (a = e.a ∧ c = e.c)
  | [] => by simp [gtE_nil]
  | e :: l => by
    rw [gtE_cons]
    by_cases h : a = e.a ∧ c = e.c
    · rw [if_pos h]; simp [h]
    · rw [if_neg h, gtE_none]
      constructor
      · intro h2 e' he'
        rcases List.mem_cons.1 he' with rfl | he'
        · exact h
        · exact h2 e' he'
      · intro h2 e' he'
        exact h2 e' (List.mem_cons_of_mem _ he')
theorem gtE_app (l : List En) (e : En) (a c : Int) : gtE (l ++ [e]) a c = (gtE l a c).or (if a = e.a ∧ c = e.c then some e.v else none) := by
  induction l with
  | nil => rw [List.nil_append, gtE_cons, gtE_nil]; simp [gtE_nil]
  | cons x l ih =>
    rw [List.cons_append, gtE_cons, gtE_cons, ih]
    by_cases h : a = x.a ∧ c = x.c
    · rw [if_pos h, if_pos h]; rfl
    · rw [if_neg h, if_neg h]
theorem gtE_set : ∀ {l : List En} {k : Nat} {e : En} (_ : l[k]? = some e) (_ : Apart l) (x a c : Int), gtE (l.set k { e with v := x }) a c = if a = e.a ∧ c = e.c then some x else gtE l a c
  | [], _, _, h, _, _, _, _ => by simp at h
  | y :: l, 0, e, h, _, x, a, c => by
    simp only [List.getElem?_cons_zero, Option.some.injEq] at h
    subst h
    rw [List.set_cons_zero, gtE_cons, gtE_cons]
    split <;> rfl
  | y :: l, k + 1, e, h, ha, x, a, c => by
    have h' : l[k]? = some e := by simpa using h
    have ha' := List.pairwise_cons.1 ha
    rw [List.set_cons_succ, gtE_cons, gtE_cons, gtE_set h' ha'.2]
    by_cases h1 : a = y.a ∧ c = y.c
    · rw [if_pos h1, if_pos h1, if_neg]
      rintro ⟨h2, h3⟩
      exact ha'.1 e (List.mem_of_getElem? h') ⟨h1.1 ▸ h2, h1.2 ▸ h3⟩
    · rw [if_neg h1, if_neg h1]
theorem gtE_erase : ∀ {l : List En} {k : Nat} {e : En} (_ : l[k]? = some e) (_ : Apart l) (a c : Int), gtE (l.eraseIdx k) a c = if a = e.a ∧ c = e.c then none else gtE l a c
  | [], _, _, h, _, _, _ => by simp at h
  | y :: l, 0, e, h, ha, a, c => by
    simp only [List.getElem?_cons_zero, Option.some.injEq] at h
    subst h
    have ha' := List.pairwise_cons.1 ha
    rw [List.eraseIdx_cons_zero, gtE_cons]
    split
    · rename_i h1
      exact gtE_none.2 fun e he hq => ha'.1 e he ⟨h1.1 ▸ hq.1, h1.2 ▸ hq.2⟩
    · rfl
  | y :: l, k + 1, e, h, ha, a, c => by
    have h' : l[k]? = some e := by simpa using h
    have ha' := List.pairwise_cons.1 ha
    rw [List.eraseIdx_cons_succ, gtE_cons, gtE_cons, gtE_erase h' ha'.2]
    by_cases h1 : a = y.a ∧ c = y.c
    · rw [if_pos h1, if_pos h1, if_neg]
      rintro ⟨h2, h3⟩
      exact ha'.1 e (List.mem_of_getElem? h') ⟨h1.1 ▸ h2, h1.2 ▸ h3⟩
    · rw [if_neg h1, if_neg h1]
/-- The map in block b holds the numbers f of places. -/
def MPl (W : World) (b : Nat) (f : Int → Int → Option Int) : Prop :=
  ∃ (l : List En) (clock : Nat), W.heap[b]? = some (.map (l.map enE).toArray clock) ∧ Apart l ∧ (l.Pairwise fun x y => x.born ≠ y.born) ∧ (∀ e ∈ l, e.born < clock) ∧ ∀ a c, gtE l a c = f a c
def updM (f : Int → Int → Option Int) (a c : Int) (x : Option Int) : Int → Int → Option Int := fun y z => if y = a ∧ z = c then x else f y z
section
variable {W W' : World} {b : Nat} {f : Int → Int → Option Int}
theorem MPl.made (W : World) : MPl (W.alloc (.map #[] 0)) W.heap.size fun _ _ => none :=
  ⟨[], 0, World.alloc_heap_new W _, List.Pairwise.nil, List.Pairwise.nil, fun e he => (by cases he), fun a c => rfl⟩
theorem MPl.heap (h : MPl W b f) (hb : W'.heap[b]? = W.heap[b]?) : MPl W' b f := by
  obtain ⟨l, clock, h1, h2⟩ := h
  exact ⟨l, clock, hb.trans h1, h2⟩
theorem MPl.lt (h : MPl W b f) : b < W.heap.size := by
  obtain ⟨l, clock, h1, h2⟩ := h
  exact (Array.getElem?_eq_some_iff.1 h1).1
theorem MPl.below {B : Nat} (h : MPl W b f) (hb : Below B W W') (hg : b < B) : MPl W' b f := h.heap (hb.block b hg)
theorem MPl.adm {B : Nat} (h : MPl W b f) (ha : Adm B W W') (hB : b < B) : MPl W' b f := by
  obtain ⟨l, clock, h1, h2⟩ := h
  exact ⟨l, clock, ha.obj h1 hB, h2⟩
/-- A look at a place. -/
theorem MPl.look (h : MPl W b f) (a c : Int) : (Instr.lookup 99 (.map (some b)) (plV a c) false).run Try.prog W = .ok (.int .i64 ((f a c).getD 0)) W := by
  obtain ⟨l, clock, h1, _, _, _, h2⟩ := h
  unfold Instr.lookup
  rw [Sem.run_bind, run_underlying map_under, Result.andThen_ok]
  simp only [Sem.run_bind, Sem.run_pure, Result.andThen_ok, MapKept.run_getObj_map h1, check_place, run_find, ← h2 a c]
  unfold gtE
  cases fnd a c l 0 with
  | none => simp [int_zeroV]
  | some p => simp
theorem MPl.looks (h : MPl W b f) (a c : Int) : (Instr.lookup 99 (.map (some b)) (plV a c) true).run Try.prog W = .ok (.tuple #[.int .i64 ((f a c).getD 0), .bool (f a c).isSome]) W := by
  obtain ⟨l, clock, h1, _, _, _, h2⟩ := h
  unfold Instr.lookup
  rw [Sem.run_bind, run_underlying map_under, Result.andThen_ok]
  simp only [Sem.run_bind, Sem.run_pure, Result.andThen_ok, MapKept.run_getObj_map h1, check_place, run_find, ← h2 a c]
  unfold gtE
  cases fnd a c l 0 with
  | none => simp [int_zeroV]
  | some p => simp
theorem setHeap_grown (W : World) (b : Nat) (o : Obj) : W.grownBy { W with heap := W.heap.setIfInBounds b o } (some b) :=
  ⟨rfl, rfl, rfl, by simp, fun k hk hr => by
    show (W.heap.setIfInBounds b o)[k]? = _
    rw [Array.getElem?_setIfInBounds_ne (fun e => hr (by rw [e]))]⟩
theorem setHeap_at {b : Nat} {o' : Obj} (h : W.heap[b]? = some o') (o : Obj) : ({ W with heap := W.heap.setIfInBounds b o } : World).heap[b]? = some o := by
  show (W.heap.setIfInBounds b o)[b]? = _
  rw [Array.getElem?_setIfInBounds_self_of_lt (Array.getElem?_eq_some_iff.1 h).1]
theorem same_place (a c : Int) : Instr.sameBits 10000 (plV a c) (plV a c) = true := by
  simp [Instr.sameBits, plV]
theorem stays_place (a c : Int) (W : World) : (Instr.keyThatStays (plV a c) (plV a c)).run Try.prog W = .ok (plV a c) W := by
  unfold Instr.keyThatStays
  rw [same_place]
  simp
theorem map_modify {l : List En} {k : Nat} {e : En} (h : l[k]? = some e) (x : Int) : (l.map enE).toArray.modify k (fun q => { q with key := plV e.a e.c, val := .int .i64 x }) = ((l.set k { e with v := x }).map enE).toArray := by
  apply Array.ext_getElem?
  intro i
  rw [Array.getElem?_modify, List.getElem?_toArray, List.getElem?_toArray, List.getElem?_map, List.getElem?_map]
  by_cases hi : k = i
  · subst hi
    have hk := (List.getElem?_eq_some_iff.1 h).1
    rw [if_pos rfl, h, List.getElem?_set_self hk]
    rfl
  · rw [if_neg hi, List.getElem?_set_ne hi]
theorem apart_set {l : List En} {k : Nat} {e : En} (h : l[k]? = some e) (ha : Apart l) (x : Int) : Apart (l.set k { e with v := x }) := by
  have : (l.set k { e with v := x }).map (fun e => (e.a, e.c)) = l.map fun e => (e.a, e.c) := by
    apply List.ext_getElem?
    intro i
    rw [List.getElem?_map, List.getElem?_map]
    by_cases hi : k = i
    · subst hi
      rw [h, List.getElem?_set_self (List.getElem?_eq_some_iff.1 h).1]; rfl
    · rw [List.getElem?_set_ne hi]
  have q : ∀ l : List En, Apart l ↔ (l.map fun e => (e.a, e.c)).Pairwise fun x y => ¬ (x.1 = y.1 ∧ x.2 = y.2) := fun l => by rw [List.pairwise_map]; rfl
  rw [q, this, ← q]; exact ha
theorem born_set {l : List En} {k : Nat} {e : En} (h : l[k]? = some e) (x : Int) : (l.set k { e with v := x }).map En.born = l.map En.born := by
  apply List.ext_getElem?
  intro i
  rw [List.getElem?_map, List.getElem?_map]
  by_cases hi : k = i
  · subst hi
    rw [h, List.getElem?_set_self (List.getElem?_eq_some_iff.1 h).1]; rfl
  · rw [List.getElem?_set_ne hi]
theorem born_pw (l : List En) : (l.Pairwise fun x y => x.born ≠ y.born) ↔ (l.map En.born).Pairwise (· ≠ ·) := by rw [List.pairwise_map]
theorem born_all (l : List En) (n : Nat) : (∀ e ∈ l, e.born < n) ↔ ∀ x ∈ l.map En.born, x < n := by simp
theorem fnd_none {l : List En} {a c : Int} (h : fnd a c l 0 = none) : ∀ e ∈ l, ¬ (a = e.a ∧ c = e.c) := gtE_none.1 (by unfold gtE; rw [h]; rfl)
theorem mpl_set {l : List En} {clock k : Nat} {e : En} {x : Int} (h1 : W'.heap[b]? = some (.map ((l.set k { e with v := x }).map enE).toArray clock)) (hk : l[k]? = some e) (h2 : Apart l) (h3 : l.Pairwise fun x y => x.born ≠ y.born) (h4 : ∀ e ∈ l, e.born < clock) (h5 : ∀ a c, gtE l a c = f a c) : MPl W' b (updM f e.a e.c (some x)) :=
  ⟨_, clock, h1, apart_set hk h2 x, by rw [born_pw, born_set hk, ← born_pw]; exact h3, by rw [born_all, born_set hk, ← born_all]; exact h4, fun a c => by rw [gtE_set hk h2, h5]; rfl⟩
theorem mpl_push {l : List En} {clock : Nat} {a c x : Int} (h1 : W'.heap[b]? = some (.map ((l ++ [(⟨a, c, x, clock⟩ : En)]).map enE).toArray (clock + 1))) (hn : ∀ e ∈ l, ¬ (a = e.a ∧ c = e.c)) (h2 : Apart l) (h3 : l.Pairwise fun x y => x.born ≠ y.born) (h4 : ∀ e ∈ l, e.born < clock) (h5 : ∀ a c, gtE l a c = f a c) : MPl W' b (updM f a c (some x)) := by
  refine ⟨_, _, h1, ?_, ?_, ?_, fun a' c' => ?_⟩
  · refine List.pairwise_append.2 ⟨h2, List.pairwise_singleton _ _, fun y hy z hz => ?_⟩
    obtain rfl : z = _ := by simpa using hz
    rintro ⟨q1, q2⟩
    exact hn y hy ⟨q1.symm, q2.symm⟩
  · refine List.pairwise_append.2 ⟨h3, List.pairwise_singleton _ _, fun y hy z hz => ?_⟩
    obtain rfl : z = _ := by simpa using hz
    have := h4 y hy
    show y.born ≠ clock
    omega
  · intro e he
    rcases List.mem_append.1 he with he | he
    · have := h4 e he; omega
    · obtain rfl : e = _ := by simpa using he
      show clock < clock + 1
      omega
  · rw [gtE_app, h5]
    unfold updM
    by_cases hq : a' = a ∧ c' = c
    · have hnn : f a' c' = none := by rw [← h5, gtE_none, hq.1, hq.2]; exact hn
      rw [if_pos hq, if_pos hq, hnn]; rfl
    · rw [if_neg hq, if_neg hq]
      cases f a' c' <;> rfl
/-- A number is stored at a place. -/
theorem MPl.store (h : MPl W b f) (a c x : Int) : ∃ W', (Instr.mapUpdate 99 (.map (some b)) (plV a c) (.int .i64 x)).run Try.prog W = .ok () W' ∧ MPl W' b (updM f a c (some x)) ∧ W.grownBy W' (some b) ∧ W'.heap.size = W.heap.size := by
  obtain ⟨l, clock, h1, h2, h3, h4, h5⟩ := h
  unfold Instr.mapUpdate
  rw [Sem.run_bind, run_underlying map_under, Result.andThen_ok]
  simp only [Sem.run_bind, Sem.run_pure, Result.andThen_ok, MapKept.run_getObj_map h1, check_place, run_find]
  cases hf : fnd a c l 0 with
  | none =>
    simp only [Option.map_none]
    rw [MapKept.run_setObj_map _ h1]
    refine ⟨_, rfl, mpl_push (l := l) (clock := clock) ?_ (fnd_none hf) h2 h3 h4 h5, setHeap_grown _ _ _, by simp⟩
    refine (setHeap_at h1 _).trans ?_
    simp [enE]
  | some p =>
    obtain ⟨i, v⟩ := p
    obtain ⟨k, hk0, e, hk, rfl, rfl, rfl⟩ := fnd_some hf
    obtain rfl : i = k := by omega
    have hke : ((l.map enE).toArray[i]?.map (·.key)).getD (plV e.a e.c) = plV e.a e.c := by
      rw [List.getElem?_toArray, List.getElem?_map, hk]; rfl
    simp only [Option.map_some, hke, Sem.run_bind, stays_place, Result.andThen_ok]
    rw [MapKept.run_setObj_map _ h1]
    refine ⟨_, rfl, mpl_set (l := l) (clock := clock) (k := i) ?_ hk h2 h3 h4 h5, setHeap_grown _ _ _, by simp⟩
    refine (setHeap_at h1 _).trans ?_
    rw [map_modify hk]
/-- A place is struck. -/
theorem MPl.drop (h : MPl W b f) (a c : Int) (ty : TypeId) : ∃ W', (Builtin.delete_ #[99, 101] ty #[.map (some b), plV a c]).run Try.prog W = .ok (.tuple #[]) W' ∧ MPl W' b (updM f a c none) ∧ W.grownBy W' (some b) ∧ W'.heap.size = W.heap.size := by
  obtain ⟨l, clock, h1, h2, h3, h4, h5⟩ := h
  unfold Builtin.delete_
  simp only [List.getElem?_toArray, List.getElem?_cons_zero, List.getElem?_cons_succ]
  rw [Sem.run_bind, run_underlying map_under, Result.andThen_ok]
  simp only [Sem.run_bind, Sem.run_pure, Result.andThen_ok, MapKept.run_getObj_map h1, check_place, run_find]
  cases hf : fnd a c l 0 with
  | none =>
    simp only [Option.map_none]
    rw [Sem.run_bind, MapKept.run_setObj_map _ h1, Result.andThen_ok]
    refine ⟨_, rfl, ⟨l, clock, setHeap_at h1 _, h2, h3, h4, fun a' c' => ?_⟩, setHeap_grown _ _ _, by simp⟩
    unfold updM
    split
    · rename_i hq
      rw [hq.1, hq.2]
      exact gtE_none.2 (fnd_none hf)
    · exact h5 _ _
  | some p =>
    obtain ⟨i, v⟩ := p
    obtain ⟨k, hk0, e, hk, rfl, rfl, rfl⟩ := fnd_some hf
    obtain rfl : i = k := by omega
    have hil := (List.getElem?_eq_some_iff.1 hk).1
    simp only [Option.map_some]
    rw [Sem.run_bind, MapKept.run_setObj_map _ h1, Result.andThen_ok]
    refine ⟨_, rfl, ⟨l.eraseIdx i, clock, ?_, h2.sublist (List.eraseIdx_sublist _ _), h3.sublist (List.eraseIdx_sublist _ _), fun e he => h4 e (List.mem_of_mem_eraseIdx he), fun a' c' => ?_⟩, setHeap_grown _ _ _, by simp⟩
    · refine (setHeap_at h1 _).trans ?_
      congr 2
      rw [Array.eraseIdxIfInBounds_eq, dif_pos (by simpa using hil)]
      apply Array.toList_inj.1
      simp [ChangeMaps.map_eraseIdx]
    · rw [gtE_erase hk h2, h5]; rfl
end
end Go.Proofs.Ytgbegdjakadbbaa

set_option linter.all false
attribute [local go_sem] Go.Oper.semAt_some
namespace Go.Proofs.Ytgbegdjakadbbaa
open Go.RowKit Vp

/-- A list of rows that grows. -/
def OwnF (W : World) (base : Nat) (v : Value) (L : List Row) : Prop := W.ownsRow base 83 401 v L.length (ofG rowL L)
theorem OwnF.nil (W : World) (base : Nat) : OwnF W base (.slice none 0 0) [] := ⟨by simp [ofG], .inl ⟨rfl, rfl⟩⟩
theorem row_info : (Try.prog.info? 83).map (fun i => (i.zero, i.size, i.bytes)) = some (some (.agg (Array.replicate 401 (.int .i64 0))), 401, 3208) := by kernel_rfl
theorem rows_slice : Try.prog.underlying 98 = some (.slice 83) := by kernel_rfl
theorem zrow_cells : (Value.agg (Array.replicate 401 (.int .i64 0))).cells.size = 401 := by simp [Value.cells]
theorem rowL_one' (f : Row) : ∀ u ∈ rowL f, u.oneCell' = true := by
  intro v hv
  simp only [rowL, List.mem_map] at hv
  obtain ⟨h, _, rfl⟩ := hv
  rfl
theorem app_row {W : World} {base g tn : Nat} {v : Value} {L : List Row} {f : Row} (hown : OwnF W base v L) (hg : BK W g (rowL f).toArray tn) (hn : L.length ≤ 30) (hbase : base ≤ W.heap.size) :
    ∃ g' cap' w2, (Builtin.append_ #[98, 98] 98 #[v, .slice (some ⟨g, 0, none⟩) 1 1]).run Try.prog W = .ok (.slice (some ⟨g', 0, none⟩) (L.length + 1) cap') w2 ∧ OwnF w2 base (.slice (some ⟨g', 0, none⟩) (L.length + 1) cap') (L ++ [f]) ∧ W.grownBy w2 v.ownBlock ∧ (∀ w0 n, n ≤ base → Below n w0 W → Below n w0 w2) := by
  obtain ⟨i0, hi0, hz0, hz1, hz2⟩ := info_parts row_info
  obtain ⟨v', w', hrun, hown', hgr, _, hat⟩ := run_append_own_at (P := Try.prog) W base 98 98 83 i0 _ 401 3208 rows_slice hi0 hz0 hz1 hz2 zrow_cells (by decide) v _ _ hown ⟨g, 0, none⟩ 1 1 (rowL f) (by rw [rowL_len])
    (fun j u hu => by
      have : (⟨g, 0, none⟩ : Addr).add j = ⟨g, j, none⟩ := by unfold Addr.add; split <;> simp_all
      rw [this, hg.cell j]; simpa using hu) (rowL_one' f) (by unfold maxLen; omega) (by
        have : (L.length + 1) * 3208 ≤ 31 * 3208 := Nat.mul_le_mul (by omega) (Nat.le_refl _)
        omega) hbase
  obtain ⟨g', cap', rfl⟩ := ownsRow_succ hown'
  refine ⟨g', cap', w', hrun, ?_, hgr, fun w0 n hn hb => Below.grown hb hgr (Nat.le_trans hn hbase) fun k hk => Nat.le_trans hn (hown.lt k hk).1⟩
  unfold OwnF
  rw [← ofG_app, List.length_append]
  exact hown'
theorem ofG_rows {L : List Row} {i x : Nat} (hi : i < L.length) (hx : x < 401) : (ofG rowL L)[i * 401 + x]? = some (cel (L.getD i noR x)) := by
  rw [ofG_at rowL_len L i x L[i] (by simp [hi]) hx, rowL_at _ hx, List.getD_eq_getElem?_getD, List.getElem?_eq_getElem hi]
  rfl
/-- What has grown, read as rows of a block. -/
theorem OwnF.gd {W : World} {base : Nat} {v : Value} {L : List Row} (h : OwnF W base v L) (h0 : 0 < L.length) : ∃ g cap, v = .slice (some ⟨g, 0, none⟩) L.length cap ∧ L.length ≤ cap ∧ base ≤ g ∧ Gd W g 83 L.length fun i => L.getD i noR := by
  obtain ⟨hl, h2⟩ := h
  rcases h2 with ⟨rfl, h3⟩ | ⟨g, cap, cur, rfl, hb, hg, hcp, _, hcs, ht⟩
  · omega
  · refine ⟨g, cap, rfl, hcp, hb, cur, hg, ?_, fun i x hi hx => ?_⟩
    · rw [hcs]; exact Nat.mul_le_mul_right _ hcp
    · have h4 := ofG_rows (L := L) hi hx
      have hlt : i * 401 + x < L.length * 401 := Nat.lt_of_lt_of_le (by rw [Nat.succ_mul] <;> exact Nat.add_lt_add_left hx _ : i * 401 + x < (i + 1) * 401) (Nat.mul_le_mul_right _ hi)
      rw [← ht, List.getElem?_take_of_lt hlt] at h4
      simpa using h4
theorem fold_set : ∀ (xs : List Value) (k : Nat) (cs : Array Value), k + xs.length ≤ cs.size →
    ((xs.zipIdx k).foldl (fun (cs : Array Value) (p : Value × Nat) => cs.setIfInBounds (0 + p.2) p.1) cs).toList = cs.toList.take k ++ xs ++ cs.toList.drop (k + xs.length)
  | [], k, cs, _ => by simp
  | x :: xs, k, cs, h => by
    rw [List.length_cons] at h
    rw [List.zipIdx_cons, List.foldl_cons, fold_set xs (k + 1) _ (by rw [Array.size_setIfInBounds]; omega), Array.toList_setIfInBounds, Nat.zero_add, List.length_cons]
    rw [List.take_succ_eq_append_getElem (by rw [List.length_set, Array.length_toList]; omega), List.take_set_of_le (Nat.le_refl _), List.getElem_set_self, List.drop_set_of_lt (by omega), show k + 1 + xs.length = k + (xs.length + 1) by omega]
    simp
theorem fill_one {size : Nat} (xs : List Value) (cs : Array Value) (h : xs.length = size) (hc : cs.size = size) : Instr.fill (fun i => some (i * size, size)) cs [(0, .agg xs.toArray)] = some xs.toArray := by
  have e : (xs.toArray.zipIdx.foldl (fun (cs : Array Value) (p : Value × Nat) => cs.setIfInBounds (0 + p.2) p.1) cs) = xs.toArray := by
    apply Array.toList_inj.1
    rw [← Array.foldl_toList, Array.toList_zipIdx]
    rw [fold_set xs 0 cs (by omega)]
    rw [Nat.zero_add, List.drop_of_length_le (by rw [Array.length_toList]; omega)]
    simp
  have h1 : (Value.agg xs.toArray).cells = xs.toArray := rfl
  unfold Instr.fill
  simp only [h1, List.size_toArray, h, Nat.zero_mul, ne_eq, not_true_eq_false, decide_false, Bool.false_or, Nat.zero_add, hc]
  rw [if_neg (by simp)]
  unfold Instr.fill
  simp only [Nat.zero_add] at e
  exact congrArg some e
/-- A slice of one row is built. -/
theorem run_build_row (f : Row) (W : World) : (Instr.buildSlice 98 1 #[(0, .agg (rowL f).toArray)]).run Try.prog W = .ok (.slice (some ⟨W.heap.size, 0, none⟩) 1 1) (W.alloc (.cells (rowL f).toArray 83)) := by
  obtain ⟨i0, hi0, hz0, hz1, hz2⟩ := info_parts row_info
  refine run_buildSlice W 98 83 1 _ _ i0 _ rows_slice hi0 hz0 (by rw [hz1]; decide) (by rw [hz1]; decide) ?_
  rw [hz1]
  exact fill_one (rowL f) _ (rowL_len f) (by rw [Array.size_map, Array.size_range])
section
variable {P : Program} {ops : Array Oper} {Q : Exit → Act → World → Prop}
theorem wp_build_run {o : Oper} {a : Act} {w w' : World} {K : Act → World → Prop} (t : TypeId) (len : Nat) (x : Operand) (v : Value) (ho : o.op = .buildSlice t len #[(0, x)])
    (hrun : (Instr.buildSlice t len #[(0, a.eval x)]).run P w = .ok v w') (h : K (a.put o.dst v) w') : o.wp P a w K Q := by
  unfold Oper.wp execOp
  simp only [ho, Sem.run_bind, Sem.run_pure, Result.andThen_ok, List.map_toArray, List.map_cons, List.map_nil, hrun]
  exact h
end
section
variable {P : Program} {ops : Array Oper} {Q : Exit → Act → World → Prop}
theorem wpList_mapup_run {rest : List Oper} {o : Oper} {a : Act} {w w' : World} (hgd : o.guard = none) (t : TypeId) (m k x : Operand) (ho : o.op = .mapUpdate t m k x) (hrun : (Instr.mapUpdate t (a.eval m) (a.eval k) (a.eval x)).run P w = .ok () w')
    (h : wpList P ops Q rest (a.put o.dst undef) w') : wpList P ops Q (o :: rest) a w := by
  refine wpList_plain hgd fun K hK => ?_
  unfold Oper.wp execOp
  simp only [ho, Sem.run_bind, Sem.run_pure, hrun, Result.andThen_ok]
  exact hK _ _ h
theorem wpList_look_run {rest : List Oper} {o : Oper} {a : Act} {w w' : World} (hgd : o.guard = none) (t : TypeId) (m k : Operand) (b : Bool) (v : Value) (ho : o.op = .lookup t m k b) (hrun : (Instr.lookup t (a.eval m) (a.eval k) b).run P w = .ok v w')
    (h : wpList P ops Q rest (a.put o.dst v) w') : wpList P ops Q (o :: rest) a w := by
  refine wpList_plain hgd fun K hK => ?_
  unfold Oper.wp execOp
  simp only [ho, Sem.run_bind, Sem.run_pure, hrun, Result.andThen_ok]
  exact hK _ _ h
theorem wpList_delete_run {rest : List Oper} {o : Oper} {a : Act} {w w' : World} (hgd : o.guard = none) (m k : Operand) (t kt : TypeId) (v : Value) (ho : o.op = .call { callee := .builtin .delete, args := #[m, k], argTypes := #[t, kt] })
    (hrun : (Builtin.delete_ #[t, kt] o.type #[a.eval m, a.eval k]).run P w = .ok v w') (h : wpList P ops Q rest (a.put o.dst v) w') : wpList P ops Q (o :: rest) a w := by
  refine wpList_plain hgd fun K hK => ?_
  unfold Oper.wp execOp
  simp only [ho, resolve, invoke, builtin, Sem.run_bind, Sem.run_pure, Result.andThen_ok, List.map_toArray, List.map_cons, List.map_nil, hrun]
  exact hK _ _ h
end
end Go.Proofs.Ytgbegdjakadbbaa

set_option linter.all false
namespace Go.Proofs.Ytgbegdjakadbbaa
open Go.RowKit Vp

/-- The bend before a station, of best blows. -/
def gB (m : Int) (l : List St) : Nat → Int
  | 0 => 0
  | k + 1 => nxt m (nthS l k) (l.drop (k + 1)) (gB m l k)
theorem gB_ok {m : Int} {l : List St} (ho : ∀ s ∈ l, okSB s = true) (h : tgo m l 0 < never) : ∀ k, k ≤ l.length → tgo m (l.drop k) (gB m l k) < never ∧ -200 ≤ gB m l k ∧ gB m l k ≤ 200
  | 0, _ => ⟨by rw [List.drop_zero]; exact h, by simp [gB], by simp [gB]⟩
  | k + 1, hk => by
    obtain ⟨h1, h2, h3⟩ := gB_ok ho h k (by omega)
    have hd : l.drop k = nthS l k :: l.drop (k + 1) := by rw [nthS_eq (by omega)]; exact List.drop_eq_getElem_cons (by omega)
    rw [hd] at h1
    obtain ⟨⟨q1, q2, q3, q4⟩, h5⟩ := nxt_spec h1
    have hs := ho _ (nthS_mem (show k < l.length by omega))
    have h6 := cst_nonneg hs (nxt m (nthS l k) (l.drop (k + 1)) (gB m l k) - gB m l k)
    have h7 := tub_in hs q1 q2
    exact ⟨by show tgo m (l.drop (k + 1)) (nxt m (nthS l k) (l.drop (k + 1)) (gB m l k)) < never; omega, h7⟩
theorem gB_may {m : Int} {l : List St} (ho : ∀ s ∈ l, okSB s = true) (h : tgo m l 0 < never) {k : Nat} (hk : k < l.length) : bLo (nthS l k) m (gB m l k) ≤ bHi (nthS l k) m (gB m l k) := by
  obtain ⟨h1, _⟩ := gB_ok ho h k (by omega)
  have hd : l.drop k = nthS l k :: l.drop (k + 1) := by rw [nthS_eq hk]; exact List.drop_eq_getElem_cons hk
  rw [hd] at h1
  have := may_b.1 (nxt_spec h1).1
  omega
theorem grd_gB {m : Int} {l : List St} : ∀ (d k : Nat), d + k = l.length → grd m (l.drop k) (gB m l k) = (List.range d).map fun i => gB m l (k + i + 1) - gB m l (k + i)
  | 0, k, h => by
    rw [List.drop_of_length_le (by omega)]; rfl
  | d + 1, k, h => by
    have hk : k < l.length := by omega
    have hd : l.drop k = nthS l k :: l.drop (k + 1) := by rw [nthS_eq hk]; exact List.drop_eq_getElem_cons hk
    have ih := grd_gB (m := m) (l := l) d (k + 1) (by omega)
    rw [hd, List.range_succ_eq_map, List.map_cons, List.map_map]
    simp only [grd]
    rw [show nxt m (nthS l k) (l.drop (k + 1)) (gB m l k) = gB m l (k + 1) from rfl, ih]
    congr 1
    apply List.map_congr_left
    intro i _
    simp only [Function.comp]
    rw [show k + 1 + i = k + i.succ by omega]
/-- The first blows. -/
def gD (m : Int) (l : List St) (k : Nat) : List Int := (List.range k).map fun i => gB m l (i + 1) - gB m l i
theorem gD_succ (m : Int) (l : List St) (k : Nat) : gD m l (k + 1) = gD m l k ++ [gB m l (k + 1) - gB m l k] := by simp [gD, List.range_succ]
theorem gD_length (m : Int) (l : List St) (k : Nat) : (gD m l k).length = k := by simp [gD]
theorem gD_all (m : Int) (l : List St) : gD m l l.length = grd m l 0 := by
  have := grd_gB (m := m) (l := l) l.length 0 (by omega)
  rw [List.drop_zero] at this
  rw [show grd m l 0 = grd m l (gB m l 0) from rfl, this]
  unfold gD
  apply List.map_congr_left
  intro i _
  rw [Nat.zero_add]
theorem argm_congr {F G : Int → Int} : ∀ {x : Int} {L : List Int}, (∀ y ∈ x :: L, F y = G y) → argm F x L = argm G x L
  | x, [], _ => rfl
  | x, y :: L, h => by
    simp only [argm]
    rw [h x (by simp), h y (by simp)]
    apply argm_congr
    intro z hz
    apply h
    simp only [List.mem_cons] at hz ⊢
    rcases hz with hz | hz
    · split at hz <;> simp [hz]
    · simp [hz]
/-- From where one goes to where: from the states a to b on. -/
def mpG (m : Int) (l : List St) (a b : Nat) : Int → Int → Option Int := fun y z => if (a : Int) ≤ y ∧ y < (b : Int) ∧ z = gB m l y.toNat then some (gB m l (y.toNat + 1)) else none
theorem mpG_none (m : Int) (l : List St) (a : Nat) : mpG m l a a = fun _ _ => none := by
  funext y z
  exact if_neg (by omega)
theorem mpG_store (m : Int) (l : List St) (k : Nat) : updM (mpG m l 0 k) (k : Int) (gB m l k) (some (gB m l (k + 1))) = mpG m l 0 (k + 1) := by
  funext y z
  unfold updM mpG
  by_cases h : y = (k : Int) ∧ z = gB m l k
  · obtain ⟨rfl, rfl⟩ := h
    rw [if_pos ⟨rfl, rfl⟩, if_pos ⟨by omega, by omega, by rw [Int.toNat_natCast]⟩, Int.toNat_natCast]
  · rw [if_neg h]
    by_cases h2 : ((0 : Nat) : Int) ≤ y ∧ y < (k : Int) ∧ z = gB m l y.toNat
    · rw [if_pos h2, if_pos ⟨h2.1, by omega, h2.2.2⟩]
    · rw [if_neg h2, if_neg]
      rintro ⟨q1, q2, q3⟩
      by_cases hy : y = (k : Int)
      · subst hy; rw [Int.toNat_natCast] at q3; exact h ⟨rfl, q3⟩
      · exact h2 ⟨q1, by omega, q3⟩
theorem mpG_at (m : Int) (l : List St) {j b : Nat} (h : j < b) : mpG m l j b (j : Int) (gB m l j) = some (gB m l (j + 1)) := by
  unfold mpG
  rw [if_pos ⟨Int.le_refl _, by omega, by rw [Int.toNat_natCast]⟩, Int.toNat_natCast]
theorem mpG_drop (m : Int) (l : List St) (j b : Nat) : updM (mpG m l j b) (j : Int) (gB m l j) none = mpG m l (j + 1) b := by
  funext y z
  unfold updM mpG
  by_cases h : y = (j : Int) ∧ z = gB m l j
  · obtain ⟨rfl, rfl⟩ := h
    rw [if_pos ⟨rfl, rfl⟩, if_neg (by omega)]
  · rw [if_neg h]
    by_cases h2 : (j : Int) ≤ y ∧ y < (b : Int) ∧ z = gB m l y.toNat
    · rw [if_pos h2, if_pos]
      obtain ⟨q1, q2, q3⟩ := h2
      refine ⟨?_, q2, q3⟩
      by_cases hy : y = (j : Int)
      · subst hy; rw [Int.toNat_natCast] at q3; exact absurd ⟨rfl, q3⟩ h
      · omega
    · rw [if_neg h2, if_neg (fun h3 => h2 ⟨by omega, h3.2⟩)]
/-- The rows of the table. -/
def tgL (m : Int) (l : List St) (k : Nat) : List Row := (List.range k).map fun i => tgR m (l.drop i)
theorem tgL_length (m : Int) (l : List St) (k : Nat) : (tgL m l k).length = k := by simp [tgL]
theorem tgL_succ (m : Int) (l : List St) (k : Nat) : tgL m l (k + 1) = tgL m l k ++ [tgR m (l.drop k)] := by simp [tgL, List.range_succ]
theorem tgL_at (m : Int) (l : List St) {k i : Nat} (h : i < k) : (tgL m l k).getD i noR = tgR m (l.drop i) := by simp [tgL, h]
/-- What best gives. -/
def bestL (m : Int) (l : List St) : List Int := if tgo m l 0 < never then grd m l 0 else []
theorem mpl_grown {W W' : World} {b base e sz n : Nat} {f : Int → Int → Option Int} {v : Value} {xs : List Value} (h : MPl W b f) (ho : W.ownsRow base e sz v n xs) (hgr : W.grownBy W' v.ownBlock) : MPl W' b f := by
  refine h.heap (hgr.block b h.lt fun hq => ?_)
  obtain ⟨c, hc⟩ := own_block ho hq.symm
  obtain ⟨l, clock, h1, _⟩ := h
  rw [h1] at hc
  cases hc
theorem app_g_i {W : World} {base g tn : Nat} {v : Value} {l : List Int} {x : Int} (h : OwnI 2 W base v l) (hg : BK W g #[.int .i64 x] tn) (hn : l.length ≤ 100000) (hbase : base ≤ W.heap.size) :
    ∃ v' w2, (Builtin.append_ #[25, 25] 25 #[v, .slice (some ⟨g, 0, none⟩) 1 1]).run Try.prog W = .ok v' w2 ∧ OwnI 2 w2 base v' (l ++ [x]) ∧ W.grownBy w2 v.ownBlock ∧ (∀ w0, Below base w0 W → Below base w0 w2) ∧ (∀ k cs t, BK W k cs t → t ≠ 2 → BK w2 k cs t) := by
  obtain ⟨v', w2, h1, h2, h3⟩ := app_g (news := [.int .i64 x]) i64_info i64_slice rfl (by decide) (by decide) h hg rfl (by intro u hu; simp at hu; subst hu; rfl) hn hbase 25
  refine ⟨v', w2, h1, ?_, h3⟩
  unfold OwnI
  rw [← ofI_app, List.length_append]
  exact h2
end Go.Proofs.Ytgbegdjakadbbaa
