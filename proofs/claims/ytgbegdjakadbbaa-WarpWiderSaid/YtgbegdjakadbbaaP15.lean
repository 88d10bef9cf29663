/- CheckPulls of the program. -/
import Derived.Test.YtgbegdjakadbbaaP14
import Derived.Test.YtgbegdjakadbbaaP7
set_option linter.all false
set_option linter.unnecessarySimpa false
set_option linter.unusedSimpArgs false
set_option linter.unusedVariables false
set_option linter.unusedSectionVars false

set_option linter.all false
attribute [local go_sem] Go.Oper.semAt_some
namespace Go.Proofs.Ytgbegdjakadbbaa
open Go.RowKit Vp

/-- The error of pulls; their bound. -/
def chpE (l : List St) (m : Int) (ps : List Int) : Int := if blaE l m ≠ 0 then blaE l m else if ps.length ≠ l.length then 15 else if allIn (-100) 100 ps = true then 0 else 3
def chpV (l : List St) (m : Int) (ps : List Int) : Int := if chpE l m ps = 0 then (bou m l ps).1 else 0
theorem chp_bla {l : List St} {m : Int} {ps : List Int} (h : blaE l m ≠ 0) : chpE l m ps = blaE l m ∧ chpV l m ps = 0 := by
  have : chpE l m ps = blaE l m := by unfold chpE; rw [if_pos h]
  exact ⟨this, by unfold chpV; rw [if_neg (by rw [this]; exact h)]⟩
theorem chp_len {l : List St} {m : Int} {ps : List Int} (h : blaE l m = 0) (h2 : ps.length ≠ l.length) : chpE l m ps = 15 ∧ chpV l m ps = 0 := by
  have : chpE l m ps = 15 := by unfold chpE; rw [if_neg (by simp [h]), if_pos h2]
  exact ⟨this, by unfold chpV; rw [if_neg (by rw [this]; decide)]⟩
theorem chp_rng {l : List St} {m : Int} {ps : List Int} (h : blaE l m = 0) (h2 : ps.length = l.length) (h3 : allIn (-100) 100 ps = false) : chpE l m ps = 3 ∧ chpV l m ps = 0 := by
  have : chpE l m ps = 3 := by unfold chpE; rw [if_neg (by simp [h]), if_neg (by simp [h2]), if_neg (by simp [h3])]
  exact ⟨this, by unfold chpV; rw [if_neg (by rw [this]; decide)]⟩
theorem chp_ok {l : List St} {m : Int} {ps : List Int} (h : blaE l m = 0) (h2 : ps.length = l.length) (h3 : allIn (-100) 100 ps = true) : chpE l m ps = 0 ∧ chpV l m ps = (bou m l ps).1 := by
  have : chpE l m ps = 0 := by unfold chpE; rw [if_neg (by simp [h]), if_neg (by simp [h2]), if_pos h3]
  exact ⟨this, by unfold chpV; rw [if_pos this]⟩
theorem egBack : ∀ args w, (callFunc 83 args).run Try.prog w = .ok (.enter 83 args) w := enters_of Try.func83 (by kernel_rfl) rfl
theorem leave0 {P : Program} {fn : Func} {R : Ending → World → Prop} {tmps : Array Value} {v : Value} {W : World} (hv : ∀ W', (results fn tmps).run P W' = .ok v W') (hR : R (.returned v) W) : bodyPostM Fence.wide 100 P fn R .ret { tmps, defers := [] } W :=
  leave_all [] W ⟨List.nodup_nil, fun D h => by simp at h⟩ hv hR
/-- What lies while the pulls are gone through: the bound and the strain so far. -/
structure CkJ (w : World) (n gp q gb : Nat) (m : Int) (l : List St) (ps : List Int) (v vb : Value) (b s : Int) (W : World) : Prop where
  below : Below n w W
  bx : BK W n #[vb, .int .i64 m] 24
  bp : BK W gp #[.pointer (some ⟨gb, 0, none⟩)] 71
  bd : BK W q #[.int .i64 b] 2
  sn : BK W (q + 1) #[.int .i64 s] 2
  mem : BackMem (q + 2) q v ps W
  bn : Bn W q gb l m
  rt : RT W q vb l
  size : q + 3 ≤ W.heap.size
  nq : n < q
  gq : gp < q
theorem BackMem.adm {q B B' : Nat} {v : Value} {l : List Int} {W W' : World} (h : BackMem q B v l W) (ha : Adm B' W W') : BackMem q B v l W' := ⟨ha.cells h.a, ha.rs h.r, Nat.le_trans h.s ha.size⟩
section
variable {w : World} {n gp q gb D : Nat} {m b s b' : Int} {l : List St} {ps : List Int} {v vb : Value} {W W' : World}
theorem CkJ.adm (h : CkJ w n gp q gb m l ps v vb b s W) (ha : Adm D W W') (hn : w.heap.size = n) (hD : n ≤ D) : CkJ w n gp q gb m l ps v vb b s W' :=
  ⟨ha.belowOf h.below (by omega) hD, ha.cells h.bx, ha.cells h.bp, ha.cells h.bd, ha.cells h.sn, h.mem.adm ha, h.bn.adm ha, ha.rs h.rt, Nat.le_trans h.size ha.size, h.nq, h.gq⟩
theorem CkJ.next (h : CkJ w n gp q gb m l ps v vb b s W) (hb : Below W.heap.size W W') (hn : w.heap.size = n) : CkJ w n gp q gb m l ps v vb b s W' := by
  exact h.adm (D := n) (Adm.below hb) hn (Nat.le_refl _)
theorem CkJ.setB (h : CkJ w n gp q gb m l ps v vb b s W) : CkJ w n gp q gb m l ps v vb b' s (W.setCell ⟨q, 0, none⟩ (.int .i64 b')) := by
  have hb : Below q W (W.setCell ⟨q, 0, none⟩ (.int .i64 b')) := Below.setCell (Below.refl _ _) (by show q ≤ q; omega) _
  have hs := h.bd.set 0 (.int .i64 b')
  simp at hs
  exact ⟨h.below.trans (hb.mono (Nat.le_of_lt h.nq)), h.bx.below hb h.nq, h.bp.below hb h.gq, hs, h.sn.far (by show q + 1 ≠ q; omega) _, ⟨h.mem.a.far (by show q + 2 ≠ q; omega) _, RS.below h.mem.r hb, by simpa [World.setCell] using h.mem.s⟩, h.bn.below hb, RS.below h.rt hb, by simpa [World.setCell] using h.size, h.nq, h.gq⟩
theorem CkJ.setS (h : CkJ w n gp q gb m l ps v vb b s W) : CkJ w n gp q gb m l ps v vb b b' (W.setCell ⟨q + 1, 0, none⟩ (.int .i64 b')) := by
  have hb : Below q W (W.setCell ⟨q + 1, 0, none⟩ (.int .i64 b')) := Below.setCell (Below.refl _ _) (by show q ≤ q + 1; omega) _
  have hs := h.sn.set 0 (.int .i64 b')
  simp at hs
  exact ⟨h.below.trans (hb.mono (Nat.le_of_lt h.nq)), h.bx.below hb h.nq, h.bp.below hb h.gq, h.bd.far (by show q ≠ q + 1; omega) _, hs, ⟨h.mem.a.far (by show q + 2 ≠ q + 1; omega) _, RS.below h.mem.r hb, by simpa [World.setCell] using h.mem.s⟩, h.bn.below hb, RS.below h.rt hb, by simpa [World.setCell] using h.size, h.nq, h.gq⟩
end
/-- So much as of the stations from k on. -/
def CkI (w : World) (n gp q gb : Nat) (m : Int) (l : List St) (ps : List Int) (v vb : Value) (k : Nat) (W : World) : Prop := CkJ w n gp q gb m l ps v vb (bouK m l ps k).1 (bouK m l ps k).2 W

set_option maxHeartbeats 8000000 in
set_option maxRecDepth 100000 in
theorem CheckPulls_any (l : List St) (v : Value) (m : Int) (ps : List Int) (vb : Value) (w : World) (hl : l.length ≤ 1000) (hbl : ps.length ≤ 1000) (hT : RT w w.heap.size v l) (hI : RI w w.heap.size vb ps) :
    Calls Try.prog 34 #[bV v m, vb] w fun e w' => e = .returned (.tuple #[.int .i64 (chpV l m ps), .int .i64 (chpE l m ps)]) ∧ Below w.heap.size w w' := by
  unfold bV
  obtain ⟨b, off, cap, A, rfl, -, hcap⟩ := hT.slice
  obtain ⟨bb, boff, bcap, Ab, rfl, -, hbcap⟩ := hI.slice
  obtain ⟨n0, hn0⟩ : ∃ n, w.heap.size = n := ⟨_, rfl⟩
  have hC : Below n0 w w := Below.refl _ _
  refine calls_of_wp_marks Try.func34 rfl ?_
  simp only [Try.ntmps34, List.size_toArray, List.length_cons, List.length_nil, Nat.reduceAdd, Nat.reduceSub, Array.replicate_succ, Array.replicate_zero, List.push_toArray, List.append_toArray, List.nil_append, List.cons_append]
  go_upto_region 1 with fail
  have hqbx : n0 ≤ n0 := by have := hC.size; omega
  have bx : BK (w.alloc (.cells #[.slice A l.length cap, .int .i64 m] 24)) (n0) #[.slice A l.length cap, .int .i64 m] 24 := BK.new' _ _ _ (n0) hn0
  have hsbx : (w.alloc (.cells #[.slice A l.length cap, .int .i64 m] 24)).heap.size = n0 + 1 := by simp [hn0]
  replace hC : Below n0 w (w.alloc (.cells #[.slice A l.length cap, .int .i64 m] 24)) := Below.alloc hC (by have := hC.size; omega) _
  replace hT := (RS.below hT (w' := (w.alloc (.cells #[.slice A l.length cap, .int .i64 m] 24))) (Below.alloc (Below.refl _ _) (Nat.le_refl _) _)).more (B' := (w.alloc (.cells #[.slice A l.length cap, .int .i64 m] 24)).heap.size) (by simp)
  replace hI := (RS.below hI (w' := (w.alloc (.cells #[.slice A l.length cap, .int .i64 m] 24))) (Below.alloc (Below.refl _ _) (Nat.le_refl _) _)).more (B' := (w.alloc (.cells #[.slice A l.length cap, .int .i64 m] 24)).heap.size) (by simp)
  generalize (w.alloc (.cells #[.slice A l.length cap, .int .i64 m] 24)) = Wbx at *
  have lbx := bx.lt
  have bxc0 := bx.cell 0
  have bxc1 := bx.cell 1
  simp at bxc0 bxc1
  go_wp2_with fail
  clear lbx bxc0 bxc1
  have hn2 := hC.size
  clear hsbx
  refine (open_any l _ m _ hl hT).mono ?_
  rintro e w1 ⟨p, rfl, hop, hb⟩
  replace hC : Below n0 w w1 := hC.trans (hb.mono (by have := hC.size; omega))
  replace hT := (RS.below hT hb).more hb.size
  replace hI := (RS.below hI hb).more hb.size
  replace bx := bx.below hb bx.lt
  clear hb
  obtain ⟨e, he⟩ : ∃ e, blaE l m = e := ⟨_, rfl⟩
  rw [he] at hop ⊢
  by_cases h0 : e = 0
  case neg =>
    have HE := Lib.hid (chp_bla (ps := ps) (by rw [he]; exact h0))
    have HE2 := Lib.hid he
    have b1 : (e != 0) = true := by simp [h0]
    clear he h0 hop
    have hn3 := hC.size
    rw [hn0] at hn3
    go_wp2_with fail
    refine leave0 (v := .tuple #[.int .i64 0, .int .i64 e]) (by simp [results, Try.results34, go_sem]) ⟨by rw [HE.out.1, HE.out.2, HE2.out], by first | exact hC | (rw [hn0]; exact hC) | (with_reducible rw [hn0]; exact bel_of) | exact bel_of⟩
  subst h0
  obtain ⟨gb, rfl, hgb, hBn⟩ := hop rfl
  have HB := Lib.hid he
  obtain ⟨-, h20, hall, hm0, hm9⟩ := blaE_ok.1 he
  have HO := Lib.hid hall
  clear he hop hall
  go_upto_region 2 with fail
  obtain ⟨m1, hm1⟩ : ∃ n, w1.heap.size = n := ⟨_, rfl⟩
  try rw [hm1]
  have hqpx : n0 ≤ m1 := by have := hC.size; omega
  have px : BK (w1.alloc (.cells #[.pointer (some ⟨gb, 0, none⟩)] 71)) (m1) #[.pointer (some ⟨gb, 0, none⟩)] 71 := BK.new' _ _ _ (m1) hm1
  have hspx : (w1.alloc (.cells #[.pointer (some ⟨gb, 0, none⟩)] 71)).heap.size = m1 + 1 := by simp [hm1]
  replace hC : Below n0 w (w1.alloc (.cells #[.pointer (some ⟨gb, 0, none⟩)] 71)) := Below.alloc hC (by have := hC.size; omega) _
  replace hT := (RS.below hT (w' := (w1.alloc (.cells #[.pointer (some ⟨gb, 0, none⟩)] 71))) (Below.alloc (Below.refl _ _) (Nat.le_refl _) _)).more (B' := (w1.alloc (.cells #[.pointer (some ⟨gb, 0, none⟩)] 71)).heap.size) (by simp)
  replace hI := (RS.below hI (w' := (w1.alloc (.cells #[.pointer (some ⟨gb, 0, none⟩)] 71))) (Below.alloc (Below.refl _ _) (Nat.le_refl _) _)).more (B' := (w1.alloc (.cells #[.pointer (some ⟨gb, 0, none⟩)] 71)).heap.size) (by simp)
  replace bx := bx.alloc (.cells #[.pointer (some ⟨gb, 0, none⟩)] 71)
  replace hBn := (Bn.below hBn (W' := (w1.alloc (.cells #[.pointer (some ⟨gb, 0, none⟩)] 71))) (Below.alloc (Below.refl _ _) (Nat.le_refl _) _)).more (B' := (w1.alloc (.cells #[.pointer (some ⟨gb, 0, none⟩)] 71)).heap.size) (by simp)
  generalize (w1.alloc (.cells #[.pointer (some ⟨gb, 0, none⟩)] 71)) = Wpx at *
  clear hm1
  clear hspx
  by_cases h1 : ps.length = l.length
  case neg =>
    have HE := Lib.hid (chp_len HB.out h1)
    have b1 : ((ps.length : Int) != (l.length : Int)) = true := by simp; omega
    clear h1
    have lbx := bx.lt
    have bxc0 := bx.cell 0
    have bxc1 := bx.cell 1
    simp at bxc0 bxc1
    go_wp2_with fail
    refine leave0 (v := .tuple #[.int .i64 0, .int .i64 15]) (by simp [results, Try.results34, go_sem]) ⟨by rw [HE.out.1, HE.out.2], by first | exact hC | (rw [hn0]; exact hC) | (with_reducible rw [hn0]; exact bel_of) | exact bel_of⟩
  have b1 : ((ps.length : Int) != (l.length : Int)) = false := by simp; omega
  have H1 := Lib.hid h1
  have hb20 : ps.length ≤ 20 := by omega
  clear h1
  have lbx := bx.lt
  have bxc0 := bx.cell 0
  have bxc1 := bx.cell 1
  simp at bxc0 bxc1
  go_wp2_with fail
  clear lbx bxc0 bxc1
  clear b1
  refine (within_any (-100) 100 ps _ _ _ (Nat.le_refl _) hbl hI).mono ?_
  rintro e w5 ⟨rfl, hw5⟩
  have hb : Below Wpx.heap.size Wpx w5 := by rw [← hw5]; exact bel_of
  clear hw5
  replace hC : Below n0 w w5 := hC.trans (hb.mono (by have := hC.size; omega))
  replace hT := (RS.below hT hb).more hb.size
  replace hI := (RS.below hI hb).more hb.size
  replace bx := bx.below hb bx.lt
  replace hBn := (Bn.below hBn hb).more hb.size
  replace px := px.below hb px.lt
  clear hb
  cases hq : allIn (-100) 100 ps with
  | false =>
    have HE := Lib.hid (chp_rng HB.out H1.out hq)
    clear hq
    go_wp2_with fail
    refine leave0 (v := .tuple #[.int .i64 0, .int .i64 3]) (by simp [results, Try.results34, go_sem]) ⟨by rw [HE.out.1, HE.out.2], by first | exact hC | (rw [hn0]; exact hC) | (with_reducible rw [hn0]; exact bel_of) | exact bel_of⟩
  | true =>
    have HE := Lib.hid (chp_ok HB.out H1.out hq)
    have HQ := Lib.hid hq
    clear hq
    go_upto_region 9 with fail
    obtain ⟨q, hq⟩ : ∃ q, w5.heap.size = q := ⟨_, rfl⟩
    rw [hq] at hT hI hBn ⊢
    have hn5 := hC.size
    rw [hn0, hq] at hn5
    have hpq := px.lt
    have hxq := bx.lt
    rw [hq] at hpq hxq
    have hb6 : Below q w5 ((w5.alloc (.cells #[.int .i64 0] 2)).alloc (.cells #[.int .i64 0] 2)) := by rw [← hq]; exact bel_of
    have hC6 := hC.trans (hb6.mono hn5)
    have bd := (BK.new' w5 #[.int .i64 0] 2 q hq).alloc (.cells #[.int .i64 0] 2)
    have sn := BK.new' (w5.alloc (.cells #[.int .i64 0] 2)) #[.int .i64 0] 2 (q + 1) (by simp [hq])
    have hs6 : ((w5.alloc (.cells #[.int .i64 0] 2)).alloc (.cells #[.int .i64 0] 2)).heap.size = q + 2 := by simp [hq]
    generalize (w5.alloc (.cells #[.int .i64 0] 2)).alloc (.cells #[.int .i64 0] 2) = W6 at *
    have HJ := Lib.hid (show ∀ w7, BK w7 W6.heap.size #[.slice Ab ps.length bcap] 25 → w7.heap.size = W6.heap.size + 1 → Below W6.heap.size W6 w7 → CkI w n0 m1 q gb m l ps (.slice Ab ps.length bcap) (.slice A l.length cap) (ps.length - 0) w7 from fun w7 ba hs7 hb7 => by
      rw [hs6] at ba hs7 hb7
      have hbq := hb6.trans (hb7.mono (by omega))
      unfold CkI
      rw [show bouK m l ps (ps.length - 0) = (0, 0) by rw [Nat.sub_zero, H1.out]; exact bouK_end m l ps]
      exact ⟨hC6.trans (hb7.mono (by omega)), bx.below hbq hxq, px.below hbq hpq, bd.below hb7 (by omega), sn.below hb7 (by omega), ⟨ba, RS.below hI hbq, by omega⟩, hBn.below hbq, RS.below hT hbq, by omega, hxq, hpq⟩)
    clear hT hI hBn bx px bd sn hC hb6 hC6
    go_wp2_with fail
    refine (back_any _ _ ⟨bb, boff, bcap, Ab, ps.length, rfl⟩).mono ?_
    rintro e w7 ⟨rfl, ba, hs7, hb7⟩
    have HI0 := Lib.hid (HJ.out w7 ba hs7 hb7)
    have HS7 := Lib.hid (show w7.heap.size = q + 3 by rw [hs7, hs6])
    clear HJ ba hs7 hb7
    rw [hs6]
    clear hs6
    unfold backV
    go_wp2_with fail
    refine wp_range_a (gf := 83) (lb := #[.pointer (some ⟨q + 2, 0, none⟩)]) rfl egBack (back_iter (fun _ => False) (q + 2) q (.slice Ab ps.length bcap) ps hbl) (fun _ => rfl)
      (fun j Y => CkI w n0 m1 q gb m l ps (.slice Ab ps.length bcap) (.slice A l.length cap) (ps.length - j) Y)
      (fun _ _ _ => False)
      (fun tm j a' Y => CkI w n0 m1 q gb m l ps (.slice Ab ps.length bcap) (.slice A l.length cap) (ps.length - j) Y ∧ a' = { tmps := (((tm.setIfInBounds 36 (.int .i64 ((ps.length : Int) - 1 - (j : Int)))).setIfInBounds 37 (.int .i64 (nthI ps (ps.length - 1 - j)))).setIfInBounds 10 (.int .i64 ((ps.length : Int) - 1 - (j : Int)))).setIfInBounds 11 (.int .i64 (nthI ps (ps.length - 1 - j))), defers := [] })
      ?rounds ?mem ?start ?done ?stop
    case stop => rintro D c j Y hD hi hf; exact hf.elim
    case mem => rintro j Y hI; exact hI.mem
    case start => exact HI0.out
    case done =>
      rintro D Y hD hI hDY
      rw [HS7.out] at hD
      unfold CkI at hI
      rw [show ps.length - ps.length = 0 by omega, show bouK m l ps 0 = bou m l ps by unfold bouK; rw [List.drop_zero, List.drop_zero]] at hI
      have c0 := hI.bd.cell 0
      have l0 := hI.bd.lt
      simp at c0
      obtain ⟨bv, hbv⟩ : ∃ b, (bou m l ps).1 = b := ⟨_, rfl⟩
      rw [hbv] at c0
      have HBL := Lib.hid (below_put (D := D) hI.below (by have := hI.nq; omega) (.deferred none))
      have HDY := Lib.hid hDY
      have HV := Lib.hid hbv
      clear hI hDY hbv
      go_wp2_with fail
      refine leave1 HDY.out (v := .tuple #[.int .i64 bv, .int .i64 0]) (by simp [results, Try.results34, go_sem]) ?_
      refine ⟨by rw [HE.out.1, HE.out.2, HV.out], ?_⟩
      rw [hn0]; exact HBL.out
    case rounds =>
      rw [HS7.out]
      refine ⟨?_, fun c j A A' h _ => h, ?_, fun j X h => h.size, ?_, ?_⟩
      · rintro j Y Z hI ha
        exact CkJ.adm hI ha hn0 (by omega)
      · rintro j a Y Z ⟨hI, e1⟩ ha
        exact ⟨CkJ.adm hI ha hn0 (by omega), e1⟩
      · rintro lq j Y hj hI K2 hK2
        have hK3 := hK2 _ Y (Kept.refl _ _ _) ⟨hI, rfl⟩
        simp only [List.setIfInBounds_toArray, List.set_cons_succ, List.set_cons_zero] at hK3
        have HK3 := Lib.hid hK3
        clear hK3 hK2 hI
        gi_wp2_with fail
        exact HK3.out
      · rintro lq j a' Y hj hlq ⟨r, hr⟩ ⟨hI, rfl⟩
        simp only [List.setIfInBounds_toArray, List.set_cons_succ, List.set_cons_zero]
        obtain ⟨k, hk⟩ : ∃ k, ps.length - 1 - j = k := ⟨_, rfl⟩
        have hkz : (ps.length : Int) - 1 - (j : Int) = (k : Int) := by omega
        have hkl : k < l.length := by have := H1.out; omega
        rw [show ps.length - j = k + 1 by omega] at hI
        have HJ1 := Lib.hid (show ps.length - (j + 1) = k by omega)
        rw [hk, hkz]
        unfold CkI at hI
        have hst := bouK_step (m := m) H1.out hkl
        have hrg := bouK_rng (m := m) (ps := ps) HO.out ⟨hm0, hm9⟩ H1.out (fun i hi => (inB_iff _ _ _).1 ((allIn_iff _ _ _).1 HQ.out i hi)) h20 (l.length - (k + 1)) (k + 1) (by omega)
        have hrg2 := bouK_rng (m := m) (ps := ps) HO.out ⟨hm0, hm9⟩ H1.out (fun i hi => (inB_iff _ _ _).1 ((allIn_iff _ _ _).1 HQ.out i hi)) h20 (l.length - k) k (by omega)
        have hpk := (inB_iff _ _ _).1 ((allIn_iff _ _ _).1 HQ.out k (by have := H1.out; omega))
        have hos := okS_at HO.out hkl
        have htr := tub_rng (HO.out _ (nthS_mem hkl))
        rw [hst] at hrg2
        have HST := Lib.hid hst
        clear hst
        have hta := tubes_at hkl
        obtain ⟨vs, vt, hB0, hgn, hTb, hRb⟩ := hI.bn
        obtain ⟨At, ct, bt, ot, rfl, hA, hc⟩ := RR.cells hRb
        have htl := tubes_len l
        obtain ⟨rfl, hbt⟩ := hA (by omega)
        obtain ⟨x0, x1⟩ := hc (k + 1) (by omega)
        rw [hta] at x0 x1
        rw [htl] at hB0
        obtain ⟨As, cs, bs, os, hve, hA2, hc2⟩ := RT.cells hI.rt
        obtain ⟨rfl, hbs⟩ := hA2 (by omega)
        injection hve with q1 q2 q3
        subst q1 q3
        obtain ⟨-, -, -, d3⟩ := hc2 k hkl
        have c6 := hI.bp.cell 0
        have l6 := hI.bp.lt
        have c8 := hI.bd.cell 0
        have f8 := hI.bd.frozen 0
        have l8 := hI.bd.lt
        have c9 := hI.sn.cell 0
        have f9 := hI.sn.frozen 0
        have l9 := hI.sn.lt
        have c2 := hI.bx.cell 0
        have c3 := hI.bx.cell 1
        have l2 := hI.bx.lt
        have g2 := hB0.cell 2
        have lg := hB0.lt
        simp at c6 c8 c9 c2 c3 g2
        have HI := Lib.hid hI
        clear hI hTb hRb hA hc hA2 hc2 hB0 htl hta q2
        generalize (bouK m l ps (k + 1)).1 = b0 at *
        generalize (bouK m l ps (k + 1)).2 = s0 at *
        obtain ⟨p, hpe⟩ : ∃ p, nthI ps k = p := ⟨_, rfl⟩
        rw [hpe] at hpk hrg2 HST ⊢
        obtain ⟨t, hte⟩ : ∃ t, tub (nthS l k) = t := ⟨_, rfl⟩
        rw [hte] at htr x0 x1 hrg2 HST
        obtain ⟨s, hse⟩ : ∃ s, nthS l k = s := ⟨_, rfl⟩
        rw [hse] at hos d3 hrg2 HST
        have HSE := Lib.hid hse
        have hgn2 : gb < q := hgn
        have hbt2 : bt < Y.heap.size := by have := HI.out.size; omega
        have hgy : gb < Y.heap.size := lg
        have hqy := HI.out.size
        clear hpe hte hse hj hk hgn hbt hbs hlq hrg2
        have hq1 : q + 1 < Y.heap.size := by omega
        have wS : IntKind.i64.wrap (s0 + p) = s0 + p := by rw [IntKind.wrap_i64]; omega
        have wk : IntKind.i64.wrap ((k : Int) + 1) = (k : Int) + 1 := by rw [IntKind.wrap_i64]; omega
        have hk1 : (k : Int) + 1 < (l.length : Int) + 1 := by omega
        have hk2 : (((l.length + 1 : Nat)) : Int) = (l.length : Int) + 1 := by omega
        obtain ⟨S, hS⟩ : ∃ S, s0 + p = S := ⟨_, rfl⟩
        rw [hS] at HST
        have HSS := Lib.hid hS
        have hSr : -2100 ≤ S ∧ S ≤ 2100 := by omega
        have wn : IntKind.i64.wrap (-S) = -S := by rw [IntKind.wrap_i64]; omega
        obtain ⟨M, hM⟩ : ∃ M, max S (-S) = M := ⟨_, rfl⟩
        have hmx : (if S < -S then -S else S) = M := by rw [← hM]; omega
        have hMr : 0 ≤ M ∧ M ≤ 2100 := by omega
        have hMs : M - s.hard ≤ 2100 := by omega
        have wh : IntKind.i64.wrap (M - s.hard) = M - s.hard := by rw [IntKind.wrap_i64]; omega
        have hO : over s S = max 0 (M - s.hard) := by unfold over; rw [hM]
        rw [hO] at HST
        clear hO hM hS
        have hx1 : 0 ≤ max 0 (M - s.hard) * m := Int.mul_nonneg (by omega) hm0
        have hx2 : max 0 (M - s.hard) * m ≤ 2100 * 200 := Int.mul_le_mul (by omega) hm9 hm0 (by omega)
        have hg1 : -20000 ≤ p * t.lo ∧ p * t.lo ≤ 20000 ∨ p ≤ 0 := by
          by_cases hp : 0 < p
          · have h1 : p * t.lo ≥ p * (-200) := Int.mul_le_mul_of_nonneg_left (by omega) (by omega)
            have h2 : p * t.lo ≤ p * 200 := Int.mul_le_mul_of_nonneg_left (by omega) (by omega)
            omega
          · omega
        have hg2 : -20000 ≤ p * t.hi ∧ p * t.hi ≤ 20000 ∨ 0 < p := by
          by_cases hp : 0 < p
          · omega
          · have h1 : p * t.hi ≥ p * 200 := Int.mul_le_mul_of_nonpos_left (by omega) (by omega)
            have h2 : p * t.hi ≤ p * (-200) := Int.mul_le_mul_of_nonpos_left (by omega) (by omega)
            omega
        have key : ∀ (d : Bool) (G : Int), decide (0 < p) = d → gain t p = G → (if d then p * t.lo else p * t.hi) = G → -20000 ≤ G ∧ G ≤ 20000 := by
          intro d G h1 h2 h3
          subst h3
          cases d <;> simp at h1 ⊢ <;> omega
        by_cases hp : 0 < p
        case pos =>
          have hgn : gain t p = p * t.lo := if_pos hp
          have d1 : decide (0 < p) = true := decide_eq_true hp
          have hgr : -20000 ≤ p * t.lo ∧ p * t.lo ≤ 20000 := by omega
          rw [hgn] at HST
          have wp : IntKind.i64.wrap (p * t.lo) = p * t.lo := by rw [IntKind.wrap_i64]; omega
          have wb : IntKind.i64.wrap (b0 + p * t.lo) = b0 + p * t.lo := by rw [IntKind.wrap_i64]; omega
          obtain ⟨b1, hb1⟩ : ∃ b, b0 + p * t.lo = b := ⟨_, rfl⟩
          rw [hb1] at HST
          have HBB := Lib.hid hb1
          have hbr : -10000000 ≤ b1 ∧ b1 ≤ 10000000 := by omega
          clear hgn hgr hg1 hg2 key hb1
          have hZ1 := (HI.out.setS (b' := S)).setB (b' := b1)
          have hbY : Below (((Y.setCell ⟨q + 1, 0, none⟩ (.int .i64 S)).setCell ⟨q, 0, none⟩ (.int .i64 b1))).heap.size ((Y.setCell ⟨q + 1, 0, none⟩ (.int .i64 S)).setCell ⟨q, 0, none⟩ (.int .i64 b1)) (((Y.setCell ⟨q + 1, 0, none⟩ (.int .i64 S)).setCell ⟨q, 0, none⟩ (.int .i64 b1)).alloc (.cells #[.int .i64 t.lo, .int .i64 t.hi] 42)) := Below.alloc (Below.refl _ _) (Nat.le_refl _) _
          have HZ := Lib.hid (hZ1.next hbY hn0)
          have HKZ := Lib.hid (show Kept (fun _ => False) (q + 3) Y (((Y.setCell ⟨q + 1, 0, none⟩ (.int .i64 S)).setCell ⟨q, 0, none⟩ (.int .i64 b1)).alloc (.cells #[.int .i64 t.lo, .int .i64 t.hi] 42)) from (((Kept.refl _ _ _).setCell (.inl (by show q + 1 < q + 3; omega)) _).setCell (.inl (by show q < q + 3; omega)) _).alloc _)
          clear hbY hZ1
          gi_wp2_with fail
          clear c8 c9 f8 f9 l8 l9 c2 c3 l2 g2 lg c6 l6 x0 x1 d3 hr hbt2 hgy hqy hq1 HI wS wp wb wk
          rw [HSS.out, HBB.out]
          clear HSS HBB
          generalize (((Y.setCell ⟨q + 1, 0, none⟩ (.int .i64 S)).setCell ⟨q, 0, none⟩ (.int .i64 b1)).alloc (.cells #[.int .i64 t.lo, .int .i64 t.hi] 42)) = Z at *
          obtain ⟨hbs, -, -, -, d3⟩ := RT.at HZ.out.rt hkl
          rw [HSE.out] at d3
          have c8 := HZ.out.bd.cell 0
          have f8 := HZ.out.bd.frozen 0
          have l8 := HZ.out.bd.lt
          have c9 := HZ.out.sn.cell 0
          have l9 := HZ.out.sn.lt
          have c2 := HZ.out.bx.cell 0
          have c3 := HZ.out.bx.cell 1
          have l2 := HZ.out.bx.lt
          simp at c8 c9 c2 c3
          have hbs2 : bs < Z.heap.size := by have := HZ.out.size; omega
          have hkl2 : (k : Int) < (l.length : Int) := by omega
          have hd : Below Z.heap.size Z Z.drew := Below.drew (Below.refl _ _)
          refine round_any [0, 1, 2, 3, 4, 5, 6, 7, 8, 9, 10, 11] (Below Z.heap.size Z) mixed (by kernel_rfl) ?_ ?_
          · rintro ⟨_, _, hx⟩; exact hx
          refine any_tk (hQ := fun _ _ _ _ _ hx => hx) 0 ?_
          refine any_tk (hQ := fun _ _ _ _ _ hx => hx) 1 ?_
          refine any_tk (hQ := fun _ _ _ _ _ hx => hx) 2 ?_
          refine any_tk (hQ := fun _ _ _ _ _ hx => hx) 3 ?_
          refine any_tk (hQ := fun _ _ _ _ _ hx => hx) 4 ?_
          refine any_tk (hQ := fun _ _ _ _ _ hx => hx) 5 ?_
          refine any_tk (hQ := fun _ _ _ _ _ hx => hx) 6 ?_
          refine any_tk (hQ := fun _ _ _ _ _ hx => hx) 7 ?_
          refine any_tk (hQ := fun _ _ _ _ _ hx => hx) 8 ?_
          refine any_tk (hQ := fun _ _ _ _ _ hx => hx) 9 ?_
          refine any_tk (hQ := fun _ _ _ _ _ hx => hx) 10 ?_
          refine any_tk (hQ := fun _ _ _ _ _ hx => hx) 11 ?_
          refine any_done (by kernel_rfl) ?_
          have HZ2 := Lib.hid (HZ.out.next hd hn0)
          have HK2 := Lib.hid (HKZ.out.drew)
          clear c2 c9 l9 d3 hbs hbs2 hd HZ HKZ
          have c8 : Z.drew.cell? ⟨q, 0, none⟩ = some (.int .i64 b1) := c8
          have f8 : Z.drew.frozen? ⟨q, 0, none⟩ = false := f8
          have c3 : Z.drew.cell? ⟨n0, 1, none⟩ = some (.int .i64 m) := c3
          have l8 : q < Z.drew.heap.size := l8
          have l2 : n0 < Z.drew.heap.size := l2
          generalize Z.drew = V at *
          clear wh hmx
          generalize M - s.hard = o at *
          have hor : o ≤ 2100 := hMs
          by_cases ho : 0 < o
          case neg =>
            have hmm : max 0 o * m = 0 := by rw [show max 0 (o) = 0 by omega]; simp
            rw [hmm] at HST
            have e1 : decide (0 < o) = false := decide_eq_false ho
            have HF := Lib.hid (show Kept (fun _ => False) (q + 3) Y V ∧ CkI w n0 m1 q gb m l ps (.slice Ab ps.length bcap) (.slice (some ⟨bs, os, none⟩) l.length cap) (ps.length - (j + 1)) V from ⟨HK2.out, by rw [HJ1.out]; unfold CkI; rw [HST.out]; simpa using HZ2.out⟩)
            clear HK2 HZ2 HST hmm hx1 hx2 ho
            gi_wp2_with fail
            exact HF.out
          case pos =>
            have hmm : max 0 o * m = o * m := by rw [show max 0 (o) = o by omega]
            rw [hmm] at HST hx1 hx2
            have e1 : decide (0 < o) = true := decide_eq_true ho
            have w1 : IntKind.i64.wrap (o * m) = o * m := by rw [IntKind.wrap_i64]; omega
            have w2 : IntKind.i64.wrap (b1 - o * m) = b1 - o * m := by rw [IntKind.wrap_i64]; omega
            have HF := Lib.hid (show Kept (fun _ => False) (q + 3) Y (V.setCell ⟨q, 0, none⟩ (.int .i64 (b1 - o * m))) ∧ CkI w n0 m1 q gb m l ps (.slice Ab ps.length bcap) (.slice (some ⟨bs, os, none⟩) l.length cap) (ps.length - (j + 1)) (V.setCell ⟨q, 0, none⟩ (.int .i64 (b1 - o * m))) from ⟨HK2.out.setCell (.inl (by show q < q + 3; omega)) _, by rw [HJ1.out]; unfold CkI; rw [HST.out]; exact HZ2.out.setB⟩)
            clear HK2 HZ2 HST hmm hx1 hx2
            gi_wp2_with fail
            exact HF.out
        case neg =>
          have hgn : gain t p = p * t.hi := if_neg hp
          have d1 : decide (0 < p) = false := decide_eq_false hp
          have hgr : -20000 ≤ p * t.hi ∧ p * t.hi ≤ 20000 := by omega
          rw [hgn] at HST
          have wp : IntKind.i64.wrap (p * t.hi) = p * t.hi := by rw [IntKind.wrap_i64]; omega
          have wb : IntKind.i64.wrap (b0 + p * t.hi) = b0 + p * t.hi := by rw [IntKind.wrap_i64]; omega
          obtain ⟨b1, hb1⟩ : ∃ b, b0 + p * t.hi = b := ⟨_, rfl⟩
          rw [hb1] at HST
          have HBB := Lib.hid hb1
          have hbr : -10000000 ≤ b1 ∧ b1 ≤ 10000000 := by omega
          clear hgn hgr hg1 hg2 key hb1
          have hZ1 := (HI.out.setS (b' := S)).setB (b' := b1)
          have hbY : Below (((Y.setCell ⟨q + 1, 0, none⟩ (.int .i64 S)).setCell ⟨q, 0, none⟩ (.int .i64 b1))).heap.size ((Y.setCell ⟨q + 1, 0, none⟩ (.int .i64 S)).setCell ⟨q, 0, none⟩ (.int .i64 b1)) (((Y.setCell ⟨q + 1, 0, none⟩ (.int .i64 S)).setCell ⟨q, 0, none⟩ (.int .i64 b1)).alloc (.cells #[.int .i64 t.lo, .int .i64 t.hi] 42)) := Below.alloc (Below.refl _ _) (Nat.le_refl _) _
          have HZ := Lib.hid (hZ1.next hbY hn0)
          have HKZ := Lib.hid (show Kept (fun _ => False) (q + 3) Y (((Y.setCell ⟨q + 1, 0, none⟩ (.int .i64 S)).setCell ⟨q, 0, none⟩ (.int .i64 b1)).alloc (.cells #[.int .i64 t.lo, .int .i64 t.hi] 42)) from (((Kept.refl _ _ _).setCell (.inl (by show q + 1 < q + 3; omega)) _).setCell (.inl (by show q < q + 3; omega)) _).alloc _)
          clear hbY hZ1
          gi_wp2_with fail
          clear c8 c9 f8 f9 l8 l9 c2 c3 l2 g2 lg c6 l6 x0 x1 d3 hr hbt2 hgy hqy hq1 HI wS wp wb wk
          rw [HSS.out, HBB.out]
          clear HSS HBB
          generalize (((Y.setCell ⟨q + 1, 0, none⟩ (.int .i64 S)).setCell ⟨q, 0, none⟩ (.int .i64 b1)).alloc (.cells #[.int .i64 t.lo, .int .i64 t.hi] 42)) = Z at *
          obtain ⟨hbs, -, -, -, d3⟩ := RT.at HZ.out.rt hkl
          rw [HSE.out] at d3
          have c8 := HZ.out.bd.cell 0
          have f8 := HZ.out.bd.frozen 0
          have l8 := HZ.out.bd.lt
          have c9 := HZ.out.sn.cell 0
          have l9 := HZ.out.sn.lt
          have c2 := HZ.out.bx.cell 0
          have c3 := HZ.out.bx.cell 1
          have l2 := HZ.out.bx.lt
          simp at c8 c9 c2 c3
          have hbs2 : bs < Z.heap.size := by have := HZ.out.size; omega
          have hkl2 : (k : Int) < (l.length : Int) := by omega
          have hd : Below Z.heap.size Z Z.drew := Below.drew (Below.refl _ _)
          refine round_any [0, 1, 2, 3, 4, 5, 6, 7, 8, 9, 10, 11] (Below Z.heap.size Z) mixed (by kernel_rfl) ?_ ?_
          · rintro ⟨_, _, hx⟩; exact hx
          refine any_tk (hQ := fun _ _ _ _ _ hx => hx) 0 ?_
          refine any_tk (hQ := fun _ _ _ _ _ hx => hx) 1 ?_
          refine any_tk (hQ := fun _ _ _ _ _ hx => hx) 2 ?_
          refine any_tk (hQ := fun _ _ _ _ _ hx => hx) 3 ?_
          refine any_tk (hQ := fun _ _ _ _ _ hx => hx) 4 ?_
          refine any_tk (hQ := fun _ _ _ _ _ hx => hx) 5 ?_
          refine any_tk (hQ := fun _ _ _ _ _ hx => hx) 6 ?_
          refine any_tk (hQ := fun _ _ _ _ _ hx => hx) 7 ?_
          refine any_tk (hQ := fun _ _ _ _ _ hx => hx) 8 ?_
          refine any_tk (hQ := fun _ _ _ _ _ hx => hx) 9 ?_
          refine any_tk (hQ := fun _ _ _ _ _ hx => hx) 10 ?_
          refine any_tk (hQ := fun _ _ _ _ _ hx => hx) 11 ?_
          refine any_done (by kernel_rfl) ?_
          have HZ2 := Lib.hid (HZ.out.next hd hn0)
          have HK2 := Lib.hid (HKZ.out.drew)
          clear c2 c9 l9 d3 hbs hbs2 hd HZ HKZ
          have c8 : Z.drew.cell? ⟨q, 0, none⟩ = some (.int .i64 b1) := c8
          have f8 : Z.drew.frozen? ⟨q, 0, none⟩ = false := f8
          have c3 : Z.drew.cell? ⟨n0, 1, none⟩ = some (.int .i64 m) := c3
          have l8 : q < Z.drew.heap.size := l8
          have l2 : n0 < Z.drew.heap.size := l2
          generalize Z.drew = V at *
          clear wh hmx
          generalize M - s.hard = o at *
          have hor : o ≤ 2100 := hMs
          by_cases ho : 0 < o
          case neg =>
            have hmm : max 0 o * m = 0 := by rw [show max 0 (o) = 0 by omega]; simp
            rw [hmm] at HST
            have e1 : decide (0 < o) = false := decide_eq_false ho
            have HF := Lib.hid (show Kept (fun _ => False) (q + 3) Y V ∧ CkI w n0 m1 q gb m l ps (.slice Ab ps.length bcap) (.slice (some ⟨bs, os, none⟩) l.length cap) (ps.length - (j + 1)) V from ⟨HK2.out, by rw [HJ1.out]; unfold CkI; rw [HST.out]; simpa using HZ2.out⟩)
            clear HK2 HZ2 HST hmm hx1 hx2 ho
            gi_wp2_with fail
            exact HF.out
          case pos =>
            have hmm : max 0 o * m = o * m := by rw [show max 0 (o) = o by omega]
            rw [hmm] at HST hx1 hx2
            have e1 : decide (0 < o) = true := decide_eq_true ho
            have w1 : IntKind.i64.wrap (o * m) = o * m := by rw [IntKind.wrap_i64]; omega
            have w2 : IntKind.i64.wrap (b1 - o * m) = b1 - o * m := by rw [IntKind.wrap_i64]; omega
            have HF := Lib.hid (show Kept (fun _ => False) (q + 3) Y (V.setCell ⟨q, 0, none⟩ (.int .i64 (b1 - o * m))) ∧ CkI w n0 m1 q gb m l ps (.slice Ab ps.length bcap) (.slice (some ⟨bs, os, none⟩) l.length cap) (ps.length - (j + 1)) (V.setCell ⟨q, 0, none⟩ (.int .i64 (b1 - o * m))) from ⟨HK2.out.setCell (.inl (by show q < q + 3; omega)) _, by rw [HJ1.out]; unfold CkI; rw [HST.out]; exact HZ2.out.setB⟩)
            clear HK2 HZ2 HST hmm hx1 hx2
            gi_wp2_with fail
            exact HF.out
    
end Go.Proofs.Ytgbegdjakadbbaa
