/- What blows cost at least with a number at a station: the closure. What follows a region whose operations come in several orders, once. Bends: the least and the greatest bend behind a station. -/
import Derived.Test.YtgbegdjakadbbaaP14
import Derived.Test.YtgbegdjakadbbaaP15
import Derived.Test.YtgbegdjakadbbaaP6
set_option linter.all false
set_option linter.unnecessarySimpa false
set_option linter.unusedSimpArgs false
set_option linter.unusedVariables false
set_option linter.unusedSectionVars false

set_option linter.all false
attribute [local go_sem] Go.Oper.semAt_some
namespace Go.Proofs.Ytgbegdjakadbbaa
open Go.RowKit Vp

theorem egCost : ∀ args w, (callFunc 76 args).run Try.prog w = .ok (.enter 76 args) w := enters_of Try.func76 (by kernel_rfl) rfl
/-- The cost with a number at station k. -/
def witK (m : Int) (l : List St) (k : Nat) (d : Int) : Int := wit m (l.take k).reverse (nthS l k) (l.drop (k + 1)) d
def witF (m : Int) (l : List St) (k : Nat) (d : Int) (g : Int) : Int := com m (l.take k).reverse (g - d) + tgo m (l.drop (k + 1)) g + cst (nthS l k) d
def wLo (t : Rg) (d : Int) : Int := max t.lo (-200 + d)
def wHi (t : Rg) (d : Int) : Int := min t.hi (200 + d)
theorem witK_eq (m : Int) (l : List St) (k : Nat) (d : Int) : witK m l k d = mins (witF m l k d) (wLo (tub (nthS l k)) d) (cnt (wLo (tub (nthS l k)) d) (wHi (tub (nthS l k)) d)) := rfl
/-- What the closure reads. -/
structure WithM (pt pa pb pc ps g B : Nat) (l : List St) (m : Int) (k : Nat) (W : World) : Prop where
  t : BK W pt #[.int .i64 (tub (nthS l k)).lo, .int .i64 (tub (nthS l k)).hi] 42
  a : Rw W pa (cmR m (l.take k).reverse)
  b : Rw W pb (tgR m (l.drop (k + 1)))
  c : BK W pc #[.func (.func 76) #[.pointer (some ⟨g, 0, none⟩)] #[]] 107
  s : BK W ps #[.int .i64 (k : Int)] 3
  bn : Bn W B g l m
section
variable {pt pa pb pc ps g B D n : Nat} {l : List St} {m : Int} {k : Nat} {W W' : World}
theorem WithM.adm (h : WithM pt pa pb pc ps g B l m k W) (ha : Adm D W W') : WithM pt pa pb pc ps g B l m k W' := ⟨ha.cells h.t, h.a.adm ha, h.b.adm ha, ha.cells h.c, ha.cells h.s, h.bn.adm ha⟩
theorem WithM.next (h : WithM pt pa pb pc ps g B l m k W) (hb : Below W.heap.size W W') : WithM pt pa pb pc ps g B l m k W' := h.adm (D := 0) (Adm.below hb)
/-- They lie below n. -/
structure WithL (pt pa pb pc ps B n : Nat) : Prop where
  t : pt < n
  a : pa < n
  b : pb < n
  c : pc < n
  s : ps < n
  bn : B ≤ n
theorem WithM.far (h : WithM pt pa pb pc ps g B l m k W) (hl : WithL pt pa pb pc ps B n) (hb : Below n W W') : WithM pt pa pb pc ps g B l m k W' :=
  ⟨h.t.below hb hl.t, h.a.below hb hl.a, h.b.below hb hl.b, h.c.below hb hl.c, h.s.below hb hl.s, h.bn.below (hb.mono hl.bn)⟩
end
def withV (pt pa pb pc ps : Nat) : Value := .func (.func 82) #[] #[.pointer (some ⟨pt, 0, none⟩), .pointer (some ⟨pa, 0, none⟩), .pointer (some ⟨pb, 0, none⟩), .pointer (some ⟨pc, 0, none⟩), .pointer (some ⟨ps, 0, none⟩)]
/-- What lies while the closure counts. -/
structure WiI (w : World) (n pt pa pb pc ps g B : Nat) (l : List St) (m : Int) (k : Nat) (d x : Int) (W : World) : Prop where
  below : Below n w W
  mem : WithM pt pa pb pc ps g B l m k W
  bd : BK W n #[.int .i64 d] 2
  bo : BK W (n + 1) #[.int .i64 x] 2
  cm : CntMem (n + 2) (n + 3) (wLo (tub (nthS l k)) d) (wHi (tub (nthS l k)) d) W
  size : n + 4 ≤ W.heap.size
theorem WiI.adm {w : World} {n pt pa pb pc ps g B D : Nat} {l : List St} {m : Int} {k : Nat} {d x : Int} {W W' : World} (h : WiI w n pt pa pb pc ps g B l m k d x W) (ha : Adm D W W') (hn : w.heap.size = n) (hD : n ≤ D) : WiI w n pt pa pb pc ps g B l m k d x W' :=
  ⟨ha.belowOf h.below (by omega) hD, h.mem.adm ha, ha.cells h.bd, ha.cells h.bo, h.cm.adm ha, Nat.le_trans h.size ha.size⟩
theorem WiI.next {w : World} {n pt pa pb pc ps g B : Nat} {l : List St} {m : Int} {k : Nat} {d x : Int} {W W' : World} (h : WiI w n pt pa pb pc ps g B l m k d x W) (hb : Below W.heap.size W W') (hn : w.heap.size = n) : WiI w n pt pa pb pc ps g B l m k d x W' := h.adm (D := n) (Adm.below hb) hn (Nat.le_refl _)
theorem WiI.setO {w : World} {n pt pa pb pc ps g B : Nat} {l : List St} {m : Int} {k : Nat} {d x y : Int} {W : World} (h : WiI w n pt pa pb pc ps g B l m k d x W) (hL : WithL pt pa pb pc ps B n) : WiI w n pt pa pb pc ps g B l m k d y (W.setCell ⟨n + 1, 0, none⟩ (.int .i64 y)) := by
  have hb : Below n W (W.setCell ⟨n + 1, 0, none⟩ (.int .i64 y)) := Below.setCell (Below.refl _ _) (by show n ≤ n + 1; omega) _
  have hs := h.bo.set 0 (.int .i64 y)
  simp at hs
  exact ⟨h.below.trans hb, h.mem.far hL hb, h.bd.far (by show n ≠ n + 1; omega) _, hs, ⟨h.cm.a.far (by show n + 2 ≠ n + 1; omega) _, h.cm.b.far (by show n + 3 ≠ n + 1; omega) _⟩, by simpa [World.setCell] using h.size⟩
set_option maxHeartbeats 8000000 in
set_option maxRecDepth 100000 in
theorem with1_any (pt pa pb pc ps g B : Nat) (l : List St) (m : Int) (k : Nat) (d : Int) (w : World) (hM : WithM pt pa pb pc ps g B l m k w) (hL : WithL pt pa pb pc ps B w.heap.size) (ho : ∀ s ∈ l, okSB s = true) (hm : 0 ≤ m ∧ m ≤ 200) (hn20 : l.length ≤ 20) (hk : k < l.length) (hd : -m ≤ d ∧ d ≤ m) :
    Calls Try.prog 82 #[.int .i64 d, .pointer (some ⟨pt, 0, none⟩), .pointer (some ⟨pa, 0, none⟩), .pointer (some ⟨pb, 0, none⟩), .pointer (some ⟨pc, 0, none⟩), .pointer (some ⟨ps, 0, none⟩)] w fun e w' => e = .returned (.int .i64 (witK m l k d)) ∧ Below w.heap.size w w' := by
  obtain ⟨n, hn⟩ : ∃ n, w.heap.size = n := ⟨_, rfl⟩
  rw [hn] at hL ⊢
  have HM := Lib.hid hM
  have HL := Lib.hid hL
  have HO := Lib.hid ho
  have htr := tub_rng (ho _ (nthS_mem hk))
  rw [witK_eq]
  obtain ⟨t, hte⟩ : ∃ t, tub (nthS l k) = t := ⟨_, rfl⟩
  have HTE := Lib.hid hte
  rw [hte] at htr ⊢
  have ht := hM.t
  rw [hte] at ht
  have lt := ht.lt
  have t0 := ht.cell 0
  have t1 := ht.cell 1
  simp at t0 t1
  have ew1 : IntKind.i64.wrap (-200 + d) = -200 + d := by rw [IntKind.wrap_i64]; omega
  have ew2 : IntKind.i64.wrap (200 + d) = 200 + d := by rw [IntKind.wrap_i64]; omega
  obtain ⟨lo, hlo⟩ : ∃ x, wLo t d = x := ⟨_, rfl⟩
  obtain ⟨hi, hhi⟩ : ∃ x, wHi t d = x := ⟨_, rfl⟩
  rw [hlo, hhi]
  have m1 : (if t.lo < -200 + d then -200 + d else t.lo) = lo := by rw [← hlo]; unfold wLo; omega
  have m2 : (if 200 + d < t.hi then 200 + d else t.hi) = hi := by rw [← hhi]; unfold wHi; omega
  have hlr : -200 ≤ lo ∧ -200 + d ≤ lo ∧ lo ≤ 400 := by rw [← hlo]; unfold wLo; omega
  have hhr : hi ≤ 200 ∧ hi ≤ 200 + d ∧ -400 ≤ hi := by rw [← hhi]; unfold wHi; omega
  have HLH := Lib.hid (And.intro hlo hhi)
  clear hM hL ho hte hlo hhi ht htr
  refine calls_of_wp_marks Try.func82 rfl ?_
  simp only [Try.ntmps82, List.size_toArray, List.length_cons, List.length_nil, Nat.reduceAdd, Nat.reduceSub, Array.replicate_succ, Array.replicate_zero, List.push_toArray, List.append_toArray, List.nil_append, List.cons_append]
  go_upto_region 2 with fail
  have hb1 : Below n w ((w.alloc (.cells #[.int .i64 d] 2)).alloc (.cells #[.int .i64 1099511627776] 2)) := by exact bel_of
  have HM1 := Lib.hid (HM.out.far HL.out hb1)
  have b1 := (BK.new' w #[.int .i64 d] 2 n hn).alloc (.cells #[.int .i64 1099511627776] 2)
  have b2 := BK.new' (w.alloc (.cells #[.int .i64 d] 2)) #[.int .i64 1099511627776] 2 (n + 1) (by simp [hn])
  have hs1 : ((w.alloc (.cells #[.int .i64 d] 2)).alloc (.cells #[.int .i64 1099511627776] 2)).heap.size = n + 2 := by simp [hn]
  clear t0 t1 lt HM
  generalize (w.alloc (.cells #[.int .i64 d] 2)).alloc (.cells #[.int .i64 1099511627776] 2) = W1 at *
  have ht := HM1.out.t
  rw [HTE.out] at ht
  have lt := ht.lt
  have t0 := ht.cell 0
  have t1 := ht.cell 1
  have d0 := b1.cell 0
  have ld := b1.lt
  simp at t0 t1 d0
  have HB := Lib.hid (And.intro hb1 (And.intro b1 (And.intro b2 hs1)))
  clear hb1 b1 b2 hs1 ht
  go_wp2_with fail
  refine (count_any _ _ _).mono ?_
  rintro e w2 ⟨rfl, hcm, hs2, hb2⟩
  rw [HB.out.2.2.2] at hcm hs2 hb2 ⊢
  have HI0 := Lib.hid (show WiI w n pt pa pb pc ps g B l m k d (mins (witF m l k d) lo 0) w2 from
    ⟨HB.out.1.trans (hb2.mono (by omega)), HM1.out.far HL.out (hb2.mono (by omega)), HB.out.2.1.below hb2 (by omega), HB.out.2.2.1.below hb2 (by omega), by rw [HTE.out, HLH.out.1, HLH.out.2]; exact hcm, by omega⟩)
  have HS2 := Lib.hid (show w2.heap.size = n + 4 by omega)
  clear hcm hs2 hb2 t0 t1 d0 lt ld HM1 HB m1 m2 ew1 ew2
  unfold cntV
  go_wp2_with fail
  refine wp_range_a (gf := 87) (lb := #[.pointer (some ⟨n + 2, 0, none⟩), .pointer (some ⟨n + 2 + 1, 0, none⟩)]) rfl egCount (count_iter (fun _ => False) (n + 2) (n + 2 + 1) lo hi (by omega) (by omega)) (fun _ => rfl)
    (fun j Y => WiI w n pt pa pb pc ps g B l m k d (mins (witF m l k d) lo j) Y)
    (fun _ _ _ => False)
    (fun tm j a' Y => WiI w n pt pa pb pc ps g B l m k d (mins (witF m l k d) lo j) Y ∧ a' = { tmps := (tm.setIfInBounds 21 (.int .i64 (lo + (j : Int)))).setIfInBounds 9 (.int .i64 (lo + (j : Int))), defers := [] })
    ?rounds ?mem ?start ?done ?stop
  case stop => rintro D c j Y hD hi hf; exact hf.elim
  case mem => rintro j Y hI; have := hI.cm; rw [HTE.out, HLH.out.1, HLH.out.2] at this; exact this
  case start => exact HI0.out
  case done =>
    rintro D Y hD hI hDY
    rw [HS2.out] at hD
    obtain ⟨X, hX⟩ : ∃ X, mins (witF m l k d) lo (cnt lo hi) = X := ⟨_, rfl⟩
    rw [hX] at hI
    have HX := Lib.hid hX
    have c0 := hI.bo.cell 0
    have l0 := hI.bo.lt
    simp at c0
    have HBL := Lib.hid (below_put (D := D) hI.below (by omega) (.deferred none))
    have HDY := Lib.hid hDY
    clear hI hDY hX
    go_wp2_with fail
    refine leave1 HDY.out (v := .int .i64 X) (by simp [results, Try.results82, go_sem]) ?_
    exact ⟨by rw [HX.out], HBL.out⟩
  case rounds =>
    rw [HS2.out]
    refine ⟨?_, fun c j A A' h _ => h, ?_, fun j X h => h.size, ?_, ?_⟩
    · rintro j Y Z hI ha
      exact hI.adm ha hn (by omega)
    · rintro j a Y Z ⟨hI, e1⟩ ha
      exact ⟨hI.adm ha hn (by omega), e1⟩
    · rintro lq j Y hj hI K2 hK2
      have hK3 := hK2 _ Y (Kept.refl _ _ _) ⟨hI, rfl⟩
      simp only [List.setIfInBounds_toArray, List.set_cons_succ, List.set_cons_zero] at hK3
      have HK3 := Lib.hid hK3
      clear hK3 hK2 hI
      gi_wp2_with fail
      exact HK3.out
    · rintro lq j a' Y hj hlq ⟨r, hr⟩ ⟨hI, rfl⟩
      simp only [List.setIfInBounds_toArray, List.set_cons_succ, List.set_cons_zero]
      have hj2 : j < (hi + 1 - lo).toNat := hj
      obtain ⟨gg, hgg⟩ : ∃ x, lo + (j : Int) = x := ⟨_, rfl⟩
      have hgr : -200 ≤ gg ∧ gg ≤ 200 ∧ -200 + d ≤ gg ∧ gg ≤ 200 + d := by omega
      obtain ⟨x, hx⟩ : ∃ x : Nat, gg - d + 200 = (x : Int) := ⟨(gg - d + 200).toNat, by omega⟩
      obtain ⟨y, hy⟩ : ∃ y : Nat, gg + 200 = (y : Int) := ⟨(gg + 200).toNat, by omega⟩
      have hx4 : x < 401 := by omega
      have hy4 : y < 401 := by omega
      have ca := hI.mem.a.cell hx4
      have la := hI.mem.a.lt
      have cb := hI.mem.b.cell hy4
      have lb := hI.mem.b.lt
      have cc := hI.mem.c.cell 0
      have lc := hI.mem.c.lt
      have cs := hI.mem.s.cell 0
      have ls := hI.mem.s.lt
      have cd := hI.bd.cell 0
      have ld := hI.bd.lt
      have co := hI.bo.cell 0
      have lo' := hI.bo.lt
      simp at cc cs cd co
      have hos := HO.out _ (nthS_mem hk)
      have hc0 := cst_nonneg hos d
      have hc1 := cst_le hos hd.1 hd.2
      have hA0 := com_nonneg (m := m) (l := (l.take k).reverse) (fun s hs => HO.out s (List.mem_of_mem_take (List.mem_reverse.1 hs))) ((x : Int) - 200)
      have hA1 := com_never m (l.take k).reverse ((x : Int) - 200)
      have hB0 := tgo_nonneg (m := m) (l := l.drop (k + 1)) (fun s hs => HO.out s (List.mem_of_mem_drop hs)) ((y : Int) - 200)
      have hB1 := tgo_never m (l.drop (k + 1)) ((y : Int) - 200)
      have hmn0 := mins_never (witF m l k d) lo j
      obtain ⟨a, ha⟩ : ∃ a, com m (l.take k).reverse ((x : Int) - 200) = a := ⟨_, rfl⟩
      obtain ⟨b, hb⟩ : ∃ b, tgo m (l.drop (k + 1)) ((y : Int) - 200) = b := ⟨_, rfl⟩
      obtain ⟨c, hce⟩ : ∃ c, cst (nthS l k) d = c := ⟨_, rfl⟩
      rw [ha] at hA0 hA1
      rw [hb] at hB0 hB1
      rw [hce] at hc0 hc1
      have hF : witF m l k d (lo + (j : Int)) = (a + b) + c := by
        unfold witF
        rw [hgg, ← ha, ← hb, ← hce, show gg - d = (x : Int) - 200 by omega, show (y : Int) - 200 = gg by omega]
      have hmn := mins_step hF
      rw [show cmR m (l.take k).reverse x = a from ha] at ca
      rw [show tgR m (l.drop (k + 1)) y = b from hb] at cb
      rw [hgg]
      have HCE := Lib.hid hce
      have HI := Lib.hid hI
      clear ha hb hce hI hF
      obtain ⟨M, hM⟩ : ∃ M, mins (witF m l k d) lo j = M := ⟨_, rfl⟩
      obtain ⟨M', hM'⟩ : ∃ M, mins (witF m l k d) lo (j + 1) = M := ⟨_, rfl⟩
      rw [hM] at co hmn hmn0
      rw [hM'] at hmn
      have HMM := Lib.hid (And.intro hM hM')
      clear hM hM'
      have hnv : never = 1099511627776 := rfl
      have wgd : IntKind.i64.wrap (gg - d) = gg - d := by rw [IntKind.wrap_i64]; omega
      have wx : IntKind.i64.wrap (gg - d + 200) = (x : Int) := by rw [IntKind.wrap_i64]; omega
      have wy : IntKind.i64.wrap (gg + 200) = (y : Int) := by rw [IntKind.wrap_i64]; omega
      have wab : IntKind.i64.wrap (a + b) = a + b := by rw [IntKind.wrap_i64]; omega
      have wabc : IntKind.i64.wrap (a + b + c) = a + b + c := by rw [IntKind.wrap_i64]; omega
      have hx5 : (x : Int) < 401 := by omega
      have hy5 : (y : Int) < 401 := by omega
      have hdz : -10000 ≤ d ∧ d ≤ 10000 := by omega
      clear hnv hA0 hA1 hB0 hB1 hc0 hc1 hmn0 hx hy hgg hgr hj2 hj
      have hd1 : Below Y.heap.size Y Y.drew := Below.drew (Below.refl _ _)
      have hsY := HI.out.size
      gi_wp2_with fail
      refine round_any [0, 1, 2, 3, 4, 5, 6, 7, 8, 9, 10, 11, 12, 13, 14, 16, 17] (Below Y.heap.size Y) mixed (by kernel_rfl) ?_ ?_
      · rintro ⟨_, _, hx⟩; exact hx
      refine any_tk (hQ := fun _ _ _ _ _ hx => hx) 0 ?_
      refine any_tk (hQ := fun _ _ _ _ _ hx => hx) 1 ?_
      refine any_tk (hQ := fun _ _ _ _ _ hx => hx) 2 ?_
      refine any_tk (hQ := fun _ _ _ _ _ hx => hx) 3 ?_
      refine any_tk (hQ := fun _ _ _ _ _ hx => hx) 4 ?_
      refine any_tk (hQ := fun _ _ _ _ _ hx => hx) 5 ?_
      refine any_tk (hQ := fun _ _ _ _ _ hx => hx) 6 ?_
      refine any_tk (hQ := fun _ _ _ _ _ hx => hx) 7 ?_
      refine any_tk (hQ := fun _ _ _ _ _ hx => hx) 8 ?_
      refine any_tk (hQ := fun _ _ _ _ _ hx => hx) 9 ?_
      refine any_tk (hQ := fun _ _ _ _ _ hx => hx) 10 ?_
      refine any_tk (hQ := fun _ _ _ _ _ hx => hx) 11 ?_
      refine any_tk (hQ := fun _ _ _ _ _ hx => hx) 12 ?_
      refine any_tk (hQ := fun _ _ _ _ _ hx => hx) 13 ?_
      refine any_tk (hQ := fun _ _ _ _ _ hx => hx) 14 ?_
      refine any_run1 (i := 15) (by kernel_rfl) (by rfl) (by kernel_rfl) ?_
      intro K3 hK3
      have ecc := egCost
      go_wp2_with fail
      refine (cost_any B g l m k d _ (HI.out.mem.bn.adm (k := 0) (Adm.below hd1)) HO.out hk hn20 hdz).mono ?_
      rintro e w5 ⟨rfl, rfl⟩
      rw [HCE.out]
      refine hK3 _ _ (fun _ => hd1) ?_
      clear hK3 K3 ecc
      refine any_tk (hQ := fun _ _ _ _ _ hx => hx) 16 ?_
      refine any_tk (hQ := fun _ _ _ _ _ hx => hx) 17 ?_
      have co2 : Y.drew.cell? ⟨n + 1, 0, none⟩ = some (.int .i64 M) := co
      have fo2 : Y.drew.frozen? ⟨n + 1, 0, none⟩ = false := HI.out.bo.frozen 0
      have lo2 : n + 1 < Y.drew.heap.size := lo'
      refine any_run1 (i := 18) (by kernel_rfl) (by rfl) (by kernel_rfl) ?_
      intro K3 hK3
      go_wp2_with fail
      refine hK3 _ _ (fun hx => (Bool.false_ne_true (hx.symm.trans (by kernel_rfl))).elim) ?_
      clear hK3 K3
      refine any_done (by kernel_rfl) ?_
      have HF := Lib.hid (show Kept (fun _ => False) (n + 4) Y (Y.drew.setCell ⟨n + 1, 0, none⟩ (.int .i64 M')) ∧ WiI w n pt pa pb pc ps g B l m k d (mins (witF m l k d) lo (j + 1)) (Y.drew.setCell ⟨n + 1, 0, none⟩ (.int .i64 M')) from
        ⟨(Kept.refl _ _ _).drew.setCell (.inl (by show n + 1 < n + 4; omega)) _, by rw [HMM.out.2]; exact (HI.out.next hd1 hn).setO HL.out⟩)
      clear co2 fo2 lo2 hd1 HI
      gi_wp2_with fail
      exact HF.out
end Go.Proofs.Ytgbegdjakadbbaa

set_option linter.all false
namespace Go.Proofs.Ytgbegdjakadbbaa
open Go.RowKit

/-- The slots of M turned. -/
def setAll (M : List Nat) (u : Nat → Value) (t : Array Value) : Array Value := M.foldl (fun t i => t.setIfInBounds i (u i)) t
theorem region_keep {P : Program} {Q : Exit → Act → World → Prop} {a : Act} {w : World} {id : Nat} {os : Array Oper} (M : List Nat) (J : (Nat → Value) → World → Prop)
    (h1 : (Code.region id os true).wp P (fun e a' w' => e = .normal ∧ a'.tmps = setAll M (fun j => a'.tmps.getD j undef) a.tmps ∧ a'.defers = a.defers ∧ J (fun j => a'.tmps.getD j undef) w') a w)
    (h2 : ∀ u V, J u V → Q .normal { tmps := setAll M u a.tmps, defers := a.defers } V) : (Code.region id os true).wp P Q a w :=
  Code.wp_mono (fun e a' w' h => by
    obtain ⟨e1, e2, e3, e4⟩ := h
    subst e1
    have h5 := h2 _ _ e4
    rw [← e2, ← e3] at h5
    exact h5) h1
end Go.Proofs.Ytgbegdjakadbbaa

set_option linter.all false
attribute [local go_sem] Go.Oper.semAt_some
namespace Go.Proofs.Ytgbegdjakadbbaa
open Go.RowKit Vp

/-- The good bends behind a station. -/
def bdsF (l : List St) (m : Int) (k : Nat) : List Int := (lst (-200) 401).filter fun f => decide (com m (l.take k).reverse f < never) && decide (tgo m (l.drop k) f < never)
def bdsL (l : List St) (m s : Int) : Int × Int × Int := if atE l m s = 0 then toldL (bdsF l m (s.toNat + 1)) else (0, 0, atE l m s)
theorem bdsF_eq (l : List St) (m : Int) (k : Nat) : ((lst (-200) 401).filter fun f => decide (cmR m (l.take k).reverse (f + 200).toNat < never) && decide (tgR m (l.drop k) (f + 200).toNat < never)) = bdsF l m k := by
  unfold bdsF
  apply List.filter_congr
  intro f hf
  have h1 : -200 ≤ f ∧ f ≤ 200 := by have := lst_mem.1 hf; omega
  unfold cmR tgR
  rw [show (((f + 200).toNat : Nat) : Int) - 200 = f by omega]

set_option maxHeartbeats 8000000 in
set_option maxRecDepth 100000 in
theorem Bends_any (l : List St) (v : Value) (m s : Int) (w : World) (hl : l.length ≤ 1000) (hT : RT w w.heap.size v l) :
    Calls Try.prog 28 #[bV v m, .int .i64 s] w fun e w' => e = .returned (.tuple #[.agg #[.int .i64 (bdsL l m s).1, .int .i64 (bdsL l m s).2.1], .int .i64 (bdsL l m s).2.2]) ∧ Below w.heap.size w w' := by
  have hz := row_zeroA
  obtain ⟨Z0, hZ0⟩ : ∃ L, (rowL noR).toArray = L := ⟨_, rfl⟩
  have HZ0 := Lib.hid hZ0
  rw [hZ0] at hz
  have HZ := Lib.hid hz
  clear hz hZ0
  unfold bV
  obtain ⟨b, off, cap, A, rfl, -, hcap⟩ := hT.slice
  obtain ⟨n0, hn0⟩ : ∃ n, w.heap.size = n := ⟨_, rfl⟩
  have hC : Below n0 w w := Below.refl _ _
  go_enter Try.func28, Try.ntmps28
  go_upto_region 1 with fail
  have hqbx : n0 ≤ n0 := by have := hC.size; omega
  have bx : BK (w.alloc (.cells #[.slice A l.length cap, .int .i64 m] 24)) (n0) #[.slice A l.length cap, .int .i64 m] 24 := BK.new' _ _ _ (n0) hn0
  have hsbx : (w.alloc (.cells #[.slice A l.length cap, .int .i64 m] 24)).heap.size = n0 + 1 := by simp [hn0]
  replace hC : Below n0 w (w.alloc (.cells #[.slice A l.length cap, .int .i64 m] 24)) := Below.alloc hC (by have := hC.size; omega) _
  replace hT := (RS.below hT (w' := (w.alloc (.cells #[.slice A l.length cap, .int .i64 m] 24))) (Below.alloc (Below.refl _ _) (Nat.le_refl _) _)).more (B' := (w.alloc (.cells #[.slice A l.length cap, .int .i64 m] 24)).heap.size) (by simp)
  generalize (w.alloc (.cells #[.slice A l.length cap, .int .i64 m] 24)) = Wbx at *
  have rs : BK (Wbx.alloc (.cells #[.int .i64 0, .int .i64 0] 42)) (n0 + 1) #[.int .i64 0, .int .i64 0] 42 := BK.new' _ _ _ (n0 + 1) hsbx
  have hsrs : (Wbx.alloc (.cells #[.int .i64 0, .int .i64 0] 42)).heap.size = n0 + 1 + 1 := by simp [hsbx]
  replace hC : Below n0 w (Wbx.alloc (.cells #[.int .i64 0, .int .i64 0] 42)) := Below.alloc hC (by have := hC.size; omega) _
  replace hT := (RS.below hT (w' := (Wbx.alloc (.cells #[.int .i64 0, .int .i64 0] 42))) (Below.alloc (Below.refl _ _) (Nat.le_refl _) _)).more (B' := (Wbx.alloc (.cells #[.int .i64 0, .int .i64 0] 42)).heap.size) (by simp)
  replace bx := bx.alloc (.cells #[.int .i64 0, .int .i64 0] 42)
  generalize (Wbx.alloc (.cells #[.int .i64 0, .int .i64 0] 42)) = Wrs at *
  have lbx := bx.lt
  have bxc0 := bx.cell 0
  have bxc1 := bx.cell 1
  simp at bxc0 bxc1
  go_wp2_with fail
  clear lbx bxc0 bxc1
  have hn2 := hC.size
  clear hsbx hsrs
  refine (at_any l _ m s _ hl hT).mono ?_
  rintro e w1 ⟨p, rfl, hop, hb⟩
  replace hC : Below n0 w w1 := hC.trans (hb.mono (by have := hC.size; omega))
  replace bx := bx.below hb bx.lt
  replace rs := rs.below hb rs.lt
  clear hb hT
  obtain ⟨e, he⟩ : ∃ e, atE l m s = e := ⟨_, rfl⟩
  rw [he] at hop ⊢
  have lR := rs.lt
  have cR0 := rs.cell 0
  have cR1 := rs.cell 1
  have fR0 := rs.frozen 0
  have fR1 := rs.frozen 1
  simp at cR0 cR1
  by_cases h0 : e = 0
  case neg =>
    have HE := Lib.hid (show bdsL l m s = (0, 0, e) by unfold bdsL; rw [he, if_neg h0])
    have b1 : (e != 0) = true := by simp [h0]
    clear he h0 hop
    go_wp2_with fail
    refine bodyPost_ret (v := .tuple #[.agg #[.int .i64 0, .int .i64 0], .int .i64 e]) (by simp [results, Try.results28, go_sem, *]) rfl ?_
    rw [HE.out]
    exact ⟨rfl, by rw [hn0]; exact (hC.setCell (by show n0 ≤ n0 + 1; omega) _).setCell (by show n0 ≤ n0 + 1; omega) _⟩
  subst h0
  obtain ⟨gb, rfl, hgb, hBn⟩ := hop rfl
  obtain ⟨hbl, hs0, hs1⟩ := atE_zero he
  obtain ⟨-, h20, hall, hm0, hm1⟩ := hbl
  obtain ⟨k, rfl⟩ : ∃ k : Nat, s = (k : Int) := ⟨s.toNat, by omega⟩
  have HE := Lib.hid (show bdsL l m k = toldL (bdsF l m (k + 1)) by unfold bdsL; rw [he, if_pos rfl, Int.toNat_natCast])
  have hka : IntKind.i64.wrap ((k : Int) + 1) = (k : Int) + 1 := by rw [IntKind.wrap_i64]; omega
  have hca := come_any gb l m (k + 1) w1 hBn hall ⟨by omega, by omega⟩ h20 (by omega)
  have hta := fun (W : World) (hb : Below w1.heap.size w1 W) => togo_any gb l m (k + 1) W ((hBn.below hb).more hb.size) hall ⟨by omega, by omega⟩ h20 (by omega)
  have hkc : (((k + 1 : Nat) : Nat) : Int) = (k : Int) + 1 := by omega
  rw [hkc] at hca
  simp only [hkc] at hta
  have HCA := Lib.hid hca
  have HTA := Lib.hid hta
  have HRS := Lib.hid rs
  have HC := Lib.hid hC
  have HALL := Lib.hid hall
  clear hca hta hkc rs hC hop he hs0 hs1 hBn bx hall
  go_wp2_with fail
  refine HCA.out.mono ?_
  rintro e w2 ⟨rfl, hb2⟩
  have HB2 := Lib.hid hb2
  clear HCA hb2
  go_wp2_with fail
  refine (HTA.out _ HB2.out).mono ?_
  rintro e w3 ⟨rfl, hb3⟩
  have hb13 := HB2.out.trans (hb3.mono HB2.out.size)
  have HRS3 := Lib.hid (HRS.out.below hb13 HRS.out.lt)
  have HC3 := Lib.hid (HC.out.trans (hb13.mono (hn0 ▸ HC.out.size)))
  have hlt3 : n0 + 1 < w3.heap.size := HRS3.out.lt
  clear HTA HB2 hb3 hb13 HRS HC lR cR0 cR1 fR0 fR1
  obtain ⟨q, hq⟩ : ∃ q, w3.heap.size = q := ⟨_, rfl⟩
  rw [hq] at hlt3
  have hz := HZ.out
  obtain ⟨A1, hA1⟩ : ∃ f, cmR m (l.take (k + 1)).reverse = f := ⟨_, rfl⟩
  obtain ⟨B1, hB1⟩ : ∃ f, tgR m (l.drop (k + 1)) = f := ⟨_, rfl⟩
  rw [hA1, hB1]
  have r0 : Rw ((w3.alloc (.cells Z0 83)).alloc (.cells Z0 83)) q noR := by rw [← HZ0.out]; exact (Rw.new _ _ _ hq).alloc _
  have r1 : Rw ((w3.alloc (.cells Z0 83)).alloc (.cells Z0 83)) (q + 1) noR := by rw [← HZ0.out]; exact Rw.new _ _ _ (by simp [hq])
  have p0 := Lib.hid (r0.run_put A1)
  have p1 := Lib.hid ((r1.heap (W' := ((w3.alloc (.cells Z0 83)).alloc (.cells Z0 83)).setCells q 0 (rowL A1)) (setCells_block _ _ _ _ _ (by omega))).run_put B1)
  clear r0 r1
  have HAB := Lib.hid (And.intro hA1 hB1)
  clear hA1 hB1
  unfold rowV
  obtain ⟨LA, hLA⟩ : ∃ L, rowL A1 = L := ⟨_, rfl⟩
  obtain ⟨LB, hLB⟩ : ∃ L, rowL B1 = L := ⟨_, rfl⟩
  rw [hLA] at p0 p1 ⊢
  rw [hLB] at p1 ⊢
  have HLL := Lib.hid (And.intro hLA hLB)
  clear hLA hLB
  go_upto_region 5 with (first | refine wpList_store_run rfl 83 (.tmp 8) (.tmp 23) rfl p0.out ?_ | refine wpList_store_run rfl 83 (.tmp 9) (.tmp 27) rfl p1.out ?_)
  have r0 : Rw ((w3.alloc (.cells Z0 83)).alloc (.cells Z0 83)) q noR := by rw [← HZ0.out]; exact (Rw.new _ _ _ hq).alloc _
  have r1 : Rw ((w3.alloc (.cells Z0 83)).alloc (.cells Z0 83)) (q + 1) noR := by rw [← HZ0.out]; exact Rw.new _ _ _ (by simp [hq])
  have s0 := r0.put A1
  have s1 := r1.heap (W' := ((w3.alloc (.cells Z0 83)).alloc (.cells Z0 83)).setCells q 0 (rowL A1)) (setCells_block _ _ _ _ _ (by omega))
  have S0 := s0.heap (W' := (((w3.alloc (.cells Z0 83)).alloc (.cells Z0 83)).setCells q 0 (rowL A1)).setCells (q + 1) 0 (rowL B1)) (setCells_block _ _ _ _ _ (by omega))
  have S1 := s1.put B1
  clear s0 s1 r0 r1
  have hB6 : Below q w3 ((((w3.alloc (.cells Z0 83)).alloc (.cells Z0 83)).setCells q 0 (rowL A1)).setCells (q + 1) 0 (rowL B1)) :=
    setCells_below (by omega) _ _ _ (setCells_below (Nat.le_refl _) _ _ _ (by exact bel_of))
  rw [HLL.out.1, HLL.out.2] at S0 S1 hB6
  generalize (((w3.alloc (.cells Z0 83)).alloc (.cells Z0 83)).setCells q 0 LA).setCells (q + 1) 0 LB = W6 at *
  have HS0 := Lib.hid S0
  have HS1 := Lib.hid S1
  have HRS6 := Lib.hid (HRS3.out.below hB6 hlt3)
  have HC6 := Lib.hid (HC3.out.trans (hB6.mono (by omega)))
  have hl6 := S1.lt
  clear S0 S1 hB6 p0 p1 HRS3 HC3 hz
  go_wp2_with fail
  refine (all_any _ W6).mono ?_
  rintro e w7 ⟨v7, rfl, hown, hb7⟩
  have HOW := Lib.hid hown
  have HB7 := Lib.hid hb7
  clear hown hb7
  go_wp2_with fail
  have hlen : (lst (-200) 401).length = 401 := lst_length _ _
  refine (told_any 59 (.pointer (some ⟨q, 0, none⟩)) (.pointer (some ⟨q + 1, 0, none⟩)) (fun f => decide (A1 (f + 200).toNat < never) && decide (B1 (f + 200).toNat < never)) (lst (-200) 401) v7 W6.heap.size w7 (by rw [hlen]; omega) (by rw [hlen]; omega) HOW.out HB7.out.size (fun _ _ => by kernel_rfl) ?_).mono ?_
  · intro gz W x hgz hW hx
    have hx2 := lst_mem.1 hx
    have k0 := (HS0.out.below HB7.out (by omega)).heap (hW.block q (by have := HB7.out.size; omega) (by simp; omega))
    have k1 := (HS1.out.below HB7.out (by omega)).heap (hW.block (q + 1) (by have := HB7.out.size; omega) (by simp; omega))
    exact bends1_any q (q + 1) A1 B1 x W k0 k1 (by omega)
  rintro e w8 ⟨rfl, hb8⟩
  have hfe : ((lst (-200) 401).filter fun f => decide (A1 (f + 200).toNat < never) && decide (B1 (f + 200).toNat < never)) = bdsF l m (k + 1) := by
    rw [← HAB.out.1, ← HAB.out.2]; exact bdsF_eq l m (k + 1)
  rw [hfe]
  have HE2 := HE.out
  rw [← HE2]
  have hb68 := HB7.out.trans hb8
  have rs := HRS6.out.below hb68 HRS6.out.lt
  have HC8 := Lib.hid (HC6.out.trans (hb68.mono (by have := HC6.out.size; omega)))
  have lR := rs.lt
  have cR0 := rs.cell 0
  have cR1 := rs.cell 1
  have fR0 := rs.frozen 0
  have fR1 := rs.frozen 1
  simp at cR0 cR1
  clear rs hb68 hb8 hfe HE2 hlen HOW HB7 HRS6 HC6 HS0 HS1 hl6 HE
  obtain ⟨T, hT⟩ : ∃ T, bdsL l m (k : Int) = T := ⟨_, rfl⟩
  rw [hT]
  have HT := Lib.hid hT
  clear hT
  obtain ⟨lo, hi, er⟩ := T
  go_wp2_with fail
  refine bodyPost_ret (v := .tuple #[.agg #[.int .i64 lo, .int .i64 hi], .int .i64 er]) (by simp [results, Try.results28, go_sem, *]) rfl ?_
  rw [HT.out]
  exact ⟨rfl, by rw [hn0]; exact (HC8.out.setCell (by show n0 ≤ n0 + 1; omega) _).setCell (by show n0 ≤ n0 + 1; omega) _⟩
end Go.Proofs.Ytgbegdjakadbbaa
