/- Lazy blows, plain; a list of stations that grows. WarpLazy: the walk. If all stations are as hard as the first, blows that bend as little as needed are best, if they stay within the tubes; for every blade. -/
import Derived.Test.YtgbegdjakadbbaaP27
import Derived.Test.YtgbegdjakadbbaaRows
import Derived.Test.YtgbegdjakadbbaaP26
set_option linter.all false
set_option linter.unnecessarySimpa false
set_option linter.unusedSimpArgs false
set_option linter.unusedVariables false
set_option linter.unusedSectionVars false

set_option linter.all false
namespace Go.Proofs.Ytgbegdjakadbbaa
open Go.RowKit Vp

theorem app_st {base : Nat} {w0 w1 : World} {l : List St} {v : Value} (hown : OwnS w1 base v l) (x : St) (hn : l.length ≤ 100000) (hbase : base ≤ w1.heap.size) (hbw : Below base w0 w1) (B : Nat) (hB : w1.heap.size = B) :
    ∃ v' w2, (Builtin.append_ #[22, 22] 22 #[v, .slice (some ⟨B, 0, none⟩) 1 1]).run Try.prog (w1.alloc (.cells #[.int .i64 x.ang, .int .i64 x.lo, .int .i64 x.hi, .int .i64 x.hard] 60)) = .ok v' w2 ∧
      OwnS w2 base v' (l ++ [x]) ∧ Below base w0 w2 ∧ w1.heap.size ≤ w2.heap.size ∧ (∀ k cs t, BK w1 k cs t → t ≠ 60 → BK w2 k cs t) := by
  obtain ⟨g', cap', w2, h1, h2, h3, h4, h5⟩ := app_t st_info st_slice rfl (by decide) (by decide) hown (news := encS x) rfl (by intro u hu; simp [encS] at hu; rcases hu with rfl | rfl | rfl | rfl <;> rfl) hn hbase hbw 22 60 B hB
  exact ⟨_, w2, h1, by rw [ofG_app] at h2; unfold OwnS; simpa using h2, h3, h4, h5⟩
theorem ru_nil (k : IntKind) (w : World) (B : Nat) : RU k w B (.slice none 0 0) [] := ⟨none, 0, 0, 0, rfl, ⟨rfl, Nat.le_refl _⟩, fun h => absurd rfl h, fun j hj => by simp at hj⟩
/-- The station that is as hard as h. -/
def eqS (h : Int) (s : St) : St := ⟨s.ang, s.lo, s.hi, h⟩
theorem nthS_map {f : St → St} {l : List St} {k : Nat} (h : k < l.length) : nthS (l.map f) k = f (nthS l k) := by simp [nthS, h]
theorem take_map {f : St → St} {l : List St} {k : Nat} (h : k < l.length) : (l.take k).map f ++ [f (nthS l k)] = (l.take (k + 1)).map f := by
  rw [List.take_succ, List.map_append]
  simp [nthS, h]
theorem okB_eq {l : List St} {m : Int} (h : OkB l m) : OkB (l.map (eqS (nthS l 0).hard)) m := by
  have h1 := h.one
  have h0 := okS_at h.all (show 0 < l.length by omega)
  refine ⟨by simpa using h.one, by simpa using h.few, fun s hs => ?_, h.lo, h.hi⟩
  obtain ⟨x, hx, rfl⟩ := List.mem_map.1 hs
  have := okSB_iff.1 (h.all x hx)
  rw [okSB_iff]
  simp only [eqS]
  omega
theorem blwB_nil (m : Int) (t : Rg) (i : Nat) (f : Int) : blwB m t [] i f = lazD m t f := by unfold blwB wntB lazD; rw [if_pos (show ([] : List Nat).length = 0 from rfl)]
theorem bnd_succ (m : Int) (l : List St) (k : Nat) : bndB m l [] (k + 1) = bndB m l [] k + lazD m (tub (nthS l k)) (bndB m l [] k) := by rw [← blwB_nil (i := k)]; rfl
theorem drop_nthS {l : List St} {k : Nat} (h : k < l.length) : l.drop k = nthS l k :: l.drop (k + 1) := by rw [nthS_eq h]; exact List.drop_eq_getElem_cons h
theorem laz_drop (m : Int) (l : List St) : ∀ n k, l.length - k = n → k ≤ l.length → lazL m (l.drop k) (bndB m l [] k) = (List.range n).map fun i => blwB m (tub (nthS l (k + i))) [] (k + i) (bndB m l [] (k + i))
  | 0, k, h, h2 => by rw [List.drop_of_length_le (by omega)]; rfl
  | n + 1, k, h, h2 => by
    rw [drop_nthS (by omega), lazL, ← bnd_succ, laz_drop m l n (k + 1) (by omega) (by omega), List.range_succ_eq_map, List.map_cons, List.map_map, blwB_nil]
    refine congrArg (List.cons _) (List.map_congr_left fun i _ => ?_)
    rw [Function.comp, show k + 1 + i = k + Nat.succ i by omega]
theorem laz_blw (m : Int) (l : List St) : blwL m l [] l.length = lazL m l 0 := by
  have := laz_drop m l l.length 0 rfl (Nat.zero_le _)
  rw [List.drop_zero] at this
  simp only [Nat.zero_add] at this
  exact this.symm
theorem laz_fe {m : Int} (hm : 0 ≤ m) (l : List St) (h : ∀ j, j < l.length → (tub (nthS l j)).lo ≤ bndB m l [] (j + 1) ∧ bndB m l [] (j + 1) ≤ (tub (nthS l j)).hi) : ∀ n k, l.length - k = n → k ≤ l.length → Fe m (l.drop k) (bndB m l [] k) (lazL m (l.drop k) (bndB m l [] k))
  | 0, k, e, h2 => by rw [List.drop_of_length_le (by omega)]; trivial
  | n + 1, k, e, h2 => by
    have q := h k (by omega)
    rw [drop_nthS (by omega), lazL]
    refine ⟨?_, ?_, ?_⟩
    · unfold lazD; omega
    · rw [← bnd_succ]; exact q
    · rw [← bnd_succ]; exact laz_fe hm l h n (k + 1) (by omega) (by omega)
/-- Lazy blows that stay within the tubes are best if all stations are as hard. -/
theorem laz_all {m : Int} {l : List St} (hB : OkB l m) {h : Int} (hh : ∀ s ∈ l, s.hard = h) (hf : ∀ j, j < l.length → (tub (nthS l j)).lo ≤ bndB m l [] (j + 1) ∧ bndB m l [] (j + 1) ≤ (tub (nthS l j)).hi) :
    tgo m l 0 < never ∧ chkE l m (blwL m l [] l.length) = 0 ∧ chkV l m (blwL m l [] l.length) = tgo m l 0 := by
  have h1 := laz_fe hB.lo l hf l.length 0 rfl (Nat.zero_le _)
  rw [List.drop_zero] at h1
  change Fe m l 0 (lazL m l 0) at h1
  obtain ⟨h2, h3⟩ := lazy_best hB hh h1
  rw [laz_blw]
  have h4 := (chk_fe hB).2 h1
  exact ⟨h2, h4, by rw [chk_cost h4, h3]⟩
end Go.Proofs.Ytgbegdjakadbbaa

set_option linter.all false
namespace Go.Proofs.Ytgbegdjakadbbaa
open Go.RowKit Vp

set_option maxHeartbeats 16000000 in
set_option maxRecDepth 100000 in
theorem warpLazy_any (l : List St) (vs : Value) (m : Int) (w : World) (hT : RT w w.heap.size vs l) (hlM : l.length ≤ maxLen) (hmI : okI m) :
    Calls Try.prog 12 #[bV vs m] w fun x w' => x = .returned (.bool true) ∧ Below w.heap.size w w' := by
  unfold bV
  obtain ⟨b, off, cap, A, rfl, -, hcap⟩ := hT.slice
  obtain ⟨n0, hn0⟩ : ∃ n, w.heap.size = n := ⟨_, rfl⟩
  have hC : Below n0 w w := Below.refl _ _
  go_enter Try.func12, Try.ntmps12
  have H0 := Lib.hid (show RT w n0 (.slice A l.length cap) l by rw [← hn0]; exact hT)
  go_upto_region 1 with fail
  have hqbx : n0 ≤ n0 := by have := hC.size; omega
  have bx : BK (w.alloc (.cells #[.slice A l.length cap, .int .i64 m] 24)) (n0) #[.slice A l.length cap, .int .i64 m] 24 := BK.new' _ _ _ (n0) hn0
  have hsbx : (w.alloc (.cells #[.slice A l.length cap, .int .i64 m] 24)).heap.size = n0 + 1 := by simp [hn0]
  replace hC : Below n0 w (w.alloc (.cells #[.slice A l.length cap, .int .i64 m] 24)) := Below.alloc hC (by have := hC.size; omega) _
  replace hT := (RS.below hT (w' := (w.alloc (.cells #[.slice A l.length cap, .int .i64 m] 24))) (Below.alloc (Below.refl _ _) (Nat.le_refl _) _)).more (B' := (w.alloc (.cells #[.slice A l.length cap, .int .i64 m] 24)).heap.size) (by simp)
  generalize (w.alloc (.cells #[.slice A l.length cap, .int .i64 m] 24)) = Wbx at *
  clear hsbx
  have lbx := bx.lt
  have bxc0 := bx.cell 0
  have bxc1 := bx.cell 1
  simp at bxc0 bxc1
  go_wp2_with fail
  clear lbx bxc0 bxc1
  refine (fine_any l _ m _ hlM hT).mono ?_
  rintro e w1 ⟨rfl, hb⟩
  replace hC : Below n0 w w1 := hC.trans (hb.mono (by have := hC.size; omega))
  replace hT := (RS.below hT hb).more hb.size
  replace bx := bx.below hb bx.lt
  clear hb
  obtain ⟨q, hq⟩ : ∃ q, fineB l m = q := ⟨_, rfl⟩
  rw [hq]
  cases q
  case false =>
    clear hq
    go_wp2_with fail
    refine (works_any _).mono ?_
    rintro e w2 ⟨rfl, hb⟩
    replace hC : Below n0 w w2 := hC.trans (hb.mono (by have := hC.size; omega))
    replace hT := (RS.below hT hb).more hb.size
    replace bx := bx.below hb bx.lt
    clear hb
    go_wp2_with fail
    exact bodyPost_ret (v := .bool true) (by simp [results, Try.results12, go_sem]) rfl ⟨rfl, by first | exact hC | (rw [hn0]; exact hC) | (with_reducible rw [hn0]; exact bel_of) | exact bel_of⟩
  have HBE := Lib.hid (fineB_bla hq)
  have HOK := Lib.hid (fineB_ok hq)
  have hm0 := HOK.out.lo
  have hm1 := HOK.out.hi
  have h20 := HOK.out.few
  have hlk : l.length ≤ 1000 := by omega
  clear hq
  simp only [Bool.not_true]
  obtain ⟨h0, hh0⟩ : ∃ h, (nthS l 0).hard = h := ⟨_, rfl⟩
  have HH0 := Lib.hid hh0
  have OK2 := Lib.hid (show OkB (l.map (eqS h0)) m by rw [← hh0]; exact okB_eq HOK.out)
  have hn1 := HOK.out.one
  clear hh0
  have lbx := bx.lt
  have bxc0 := bx.cell 0
  have bxc1 := bx.cell 1
  simp at bxc0 bxc1
  go_upto_region 4 with fail
  clear lbx bxc0 bxc1
  have hnx := bx.lt
  obtain ⟨m8, hm8⟩ : ∃ n, w1.heap.size = n := ⟨_, rfl⟩
  try rw [hm8]
  rw [hm8] at hnx
  have hqxx : n0 ≤ m8 := by have := hC.size; omega
  have xx : BK (w1.alloc (.cells #[.slice none 0 0, .int .i64 m] 24)) (m8) #[.slice none 0 0, .int .i64 m] 24 := BK.new' _ _ _ (m8) hm8
  have hsxx : (w1.alloc (.cells #[.slice none 0 0, .int .i64 m] 24)).heap.size = m8 + 1 := by simp [hm8]
  replace hC : Below n0 w (w1.alloc (.cells #[.slice none 0 0, .int .i64 m] 24)) := Below.alloc hC (by have := hC.size; omega) _
  replace hT := (RS.below hT (w' := (w1.alloc (.cells #[.slice none 0 0, .int .i64 m] 24))) (Below.alloc (Below.refl _ _) (Nat.le_refl _) _)).more (B' := (w1.alloc (.cells #[.slice none 0 0, .int .i64 m] 24)).heap.size) (by simp)
  replace bx := bx.alloc (.cells #[.slice none 0 0, .int .i64 m] 24)
  generalize (w1.alloc (.cells #[.slice none 0 0, .int .i64 m] 24)) = Wxx at *
  clear hm8
  clear hsxx
  clear hT
  have lbx := bx.lt
  have bxc0 := bx.cell 0
  have bxc1 := bx.cell 1
  simp at bxc0 bxc1
  have lxx := xx.lt
  have xxc0 := xx.cell 0
  have xxc1 := xx.cell 1
  simp at xxc0 xxc1
  go_wp2_with fail
  clear lbx bxc0 bxc1
  clear lxx xxc0 xxc1
  go_loopw [4] (fun iv wr => ∃ (k : Nat) (vt : Value), k ≤ l.length ∧ iv = .int .i64 k ∧ BK wr n0 #[.slice A l.length cap, .int .i64 m] 24 ∧ BK wr m8 #[vt, .int .i64 m] 24 ∧ OwnS wr n0 vt ((l.take k).map (eqS h0)) ∧ Below n0 w wr) (fun iv _ => l.length - (intOf iv).toNat)
  case atStart => exact ⟨0, _, Nat.zero_le _, rfl, bx, xx, by simp only [List.take_zero, List.map_nil]; exact OwnS.nil _ _, hC⟩
  case round =>
    clear bx xx hC
    obtain ⟨k, vt, hk, rfl, bx, xx, hown, hC⟩ := hrel
    have hT : RT wr n0 (.slice A l.length cap) l := RS.below H0.out hC
    by_cases hlt : k < l.length
    case pos =>
      have hlt' : (k : Int) < (l.length : Int) := by omega
      obtain ⟨A', cap', b', off', hve, hA, hc⟩ := RT.cells hT
      obtain ⟨rfl, hbb⟩ := hA (by omega)
      injection hve with q1 q2 q3
      subst q1 q3
      obtain ⟨d0, d1, d2, d3⟩ := hc k hlt
      clear hA hc q2
      have hos := okS_at HOK.out.all hlt
      have HTK := Lib.hid (take_map (f := eqS h0) hlt)
      obtain ⟨⟨a, lo, hi, hd⟩, hss⟩ : ∃ s, nthS l k = s := ⟨_, rfl⟩
      rw [hss] at d0 d1 d2 d3 hos HTK
      dsimp only [eqS] at d0 d1 d2 d3 hos HTK
      have hn00 := hC.size
      have hbb2 : b' < wr.heap.size := by omega
      clear hss hos
      have lbx := bx.lt
      have bxc0 := bx.cell 0
      have bxc1 := bx.cell 1
      simp at bxc0 bxc1
      have lxx := xx.lt
      have xxc0 := xx.cell 0
      have xxc1 := xx.cell 1
      simp at xxc0 xxc1
      go_upto_region 8 with fail
      clear lbx bxc0 bxc1
      clear lxx xxc0 xxc1
      have hbw : Below wr.heap.size wr wr := Below.refl _ _
      have hx9 := xx.lt
      obtain ⟨m9, hm9⟩ : ∃ n, wr.heap.size = n := ⟨_, rfl⟩
      try rw [hm9]
      have HM9 := Lib.hid hm9
      rw [hm9] at hx9
      have hqsx : n0 ≤ m9 := by have := hC.size; omega
      have sx : BK (wr.alloc (.cells #[.int .i64 a, .int .i64 lo, .int .i64 hi, .int .i64 hd] 60)) (m9) #[.int .i64 a, .int .i64 lo, .int .i64 hi, .int .i64 hd] 60 := BK.new' _ _ _ (m9) hm9
      have hssx : (wr.alloc (.cells #[.int .i64 a, .int .i64 lo, .int .i64 hi, .int .i64 hd] 60)).heap.size = m9 + 1 := by simp [hm9]
      replace hC : Below n0 w (wr.alloc (.cells #[.int .i64 a, .int .i64 lo, .int .i64 hi, .int .i64 hd] 60)) := Below.alloc hC (by have := hC.size; omega) _
      replace bx := bx.alloc (.cells #[.int .i64 a, .int .i64 lo, .int .i64 hi, .int .i64 hd] 60)
      replace xx := xx.alloc (.cells #[.int .i64 a, .int .i64 lo, .int .i64 hi, .int .i64 hd] 60)
      replace hbw := hbw.trans ((Below.alloc (Below.refl _ _) (Nat.le_refl _) _ : Below _ _ (wr.alloc (.cells #[.int .i64 a, .int .i64 lo, .int .i64 hi, .int .i64 hd] 60))).mono hbw.size)
      generalize (wr.alloc (.cells #[.int .i64 a, .int .i64 lo, .int .i64 hi, .int .i64 hd] 60)) = Wsx at *
      clear hm9
      clear hssx
      clear d0 d1 d2 d3 hT
      have hT : RT Wsx n0 (.slice (some ⟨b', off', none⟩) l.length cap) l := RS.below H0.out hC
      obtain ⟨A2, cap2, b2, off2, hve, hA, hc⟩ := RT.cells hT
      obtain ⟨hA1, hA2⟩ := hA (by omega)
      injection hve with q1 q2 q3
      rw [← q1] at hA1
      injection hA1 with hA1
      injection hA1 with hA1 hA3
      subst hA1 hA3
      have e3 := (hc 0 (by omega)).2.2.2
      rw [HH0.out, show off' + 0 * 4 + 3 = off' + 3 by omega] at e3
      have hbb3 : b' < Wsx.heap.size := by have := hC.size; omega
      clear hA hc q1 q2 q3 hA2
      have lbx := bx.lt
      have bxc0 := bx.cell 0
      have bxc1 := bx.cell 1
      simp at bxc0 bxc1
      have lxx := xx.lt
      have xxc0 := xx.cell 0
      have xxc1 := xx.cell 1
      simp at xxc0 xxc1
      have lsx := sx.lt
      have sxc0 := sx.cell 0
      have sxc1 := sx.cell 1
      have sxc2 := sx.cell 2
      have sxc3 := sx.cell 3
      simp at sxc0 sxc1 sxc2 sxc3
      have sxf0 := sx.frozen 0
      have sxf1 := sx.frozen 1
      have sxf2 := sx.frozen 2
      have sxf3 := sx.frozen 3
      go_upto_region 9 with fail
      clear lbx bxc0 bxc1
      clear lxx xxc0 xxc1
      clear lsx sxc0 sxc1 sxc2 sxc3
      clear sxf0 sxf1 sxf2 sxf3 e3 hbb hbb2 hbb3 hT
      have hC2 : Below n0 w (Wsx.setCell ⟨m9, 3, none⟩ (.int .i64 h0)) := Below.setCell hC (by show n0 ≤ m9; omega) _
      have hb2 : Below wr.heap.size wr (Wsx.setCell ⟨m9, 3, none⟩ (.int .i64 h0)) := Below.setCell hbw (by show wr.heap.size ≤ m9; rw [HM9.out]; exact Nat.le_refl _) _
      have sx2 : BK (Wsx.setCell ⟨m9, 3, none⟩ (.int .i64 h0)) m9 #[.int .i64 a, .int .i64 lo, .int .i64 hi, .int .i64 h0] 60 := by have := sx.set 3 (.int .i64 h0); simpa using this
      have bx2 : BK (Wsx.setCell ⟨m9, 3, none⟩ (.int .i64 h0)) n0 #[.slice (some ⟨b', off', none⟩) l.length cap, .int .i64 m] 24 := bx.far (by show n0 ≠ m9; omega) _
      have xx2 : BK (Wsx.setCell ⟨m9, 3, none⟩ (.int .i64 h0)) m8 #[vt, .int .i64 m] 24 := xx.far (by show m8 ≠ m9; omega) _
      have hown2 := own_below hown hb2
      generalize (Wsx.setCell ⟨m9, 3, none⟩ (.int .i64 h0)) = X1 at *
      clear bx xx sx hC hown hb2 hbw
      obtain ⟨v', w9, hrun, hown', hb', hs', hkp⟩ := app_st hown2 ⟨a, lo, hi, h0⟩ (by rw [List.length_map, List.length_take]; omega) (by have := hC2.size; omega) hC2 X1.heap.size rfl
      rw [HTK.out] at hown'
      obtain ⟨Av, cv, rfl⟩ := own_slice hown'
      obtain ⟨nv, hnv⟩ : ∃ n, ((l.take (k + 1)).map (eqS h0)).length = n := ⟨_, rfl⟩
      rw [hnv] at hrun hown'
      have HNV := Lib.hid hnv
      clear hnv
      have HRUN := Lib.hid hrun
      have HO9 := Lib.hid hown'
      have bx9 := hkp _ _ _ bx2 (by decide)
      have xx9 := hkp _ _ _ xx2 (by decide)
      have HB9 := Lib.hid hb'
      clear hrun hown' hb' hs' hkp hown2 hC2
      have lsx2 := sx2.lt
      have sx2c0 := sx2.cell 0
      have sx2c1 := sx2.cell 1
      have sx2c2 := sx2.cell 2
      have sx2c3 := sx2.cell 3
      simp at sx2c0 sx2c1 sx2c2 sx2c3
      have lxx2 := xx2.lt
      have xx2c0 := xx2.cell 0
      have xx2c1 := xx2.cell 1
      simp at xx2c0 xx2c1
      have lxx9 := xx9.lt
      have xx9c0 := xx9.cell 0
      have xx9c1 := xx9.cell 1
      simp at xx9c0 xx9c1
      have xx9f0 := xx9.frozen 0
      have xx9f1 := xx9.frozen 1
      go_wp2_with (at_builtin; refine wpList_append_run rfl (.tmp 41) (.tmp 43) 22 _ rfl HRUN.out ?_)
      clear lsx2 sx2c0 sx2c1 sx2c2 sx2c3
      clear lxx2 xx2c0 xx2c1
      clear lxx9 xx9c0 xx9c1
      clear xx9f0 xx9f1
      have xx10 := xx9.set 0 (.slice Av nv cv)
      simp at xx10
      have bx10 := bx9.far (p := ⟨m8, 0, none⟩) (by show n0 ≠ m8; omega) (.slice Av nv cv)
      have ho10 := own_set (i := 0) (u := .slice Av nv cv) HO9.out xx9 (by decide)
      have hC10 : Below n0 w (w9.setCell ⟨m8, 0, none⟩ (.slice Av nv cv)) := Below.setCell HB9.out (by show n0 ≤ m8; omega) _
      go_roundw
      case rel => exact ⟨k + 1, _, by omega, by go_num, bx10, xx10, ho10, hC10⟩
      case measure => simp [intOf]; omega
    obtain rfl : k = l.length := by omega
    have hlt' : ¬ ((l.length : Int) < (l.length : Int)) := by omega
    rw [List.take_of_length_le (Nat.le_refl _)] at hown
    have hS := OwnS.rt hown
    clear hown hT hk hlt
    obtain ⟨L, hL⟩ : ∃ L, l.map (eqS h0) = L := ⟨_, rfl⟩
    have hLl : L.length = l.length := by rw [← hL, List.length_map]
    have HHL := Lib.hid (show ∀ s ∈ L, s.hard = h0 by rw [← hL]; intro s hs; obtain ⟨x, -, rfl⟩ := List.mem_map.1 hs; rfl)
    rw [hL] at hS OK2
    have HLL := Lib.hid hLl
    have hk20 := OK2.out.few
    have hlk2 : L.length ≤ 1000 := by omega
    clear hL hLl
    have lbx := bx.lt
    have bxc0 := bx.cell 0
    have bxc1 := bx.cell 1
    simp at bxc0 bxc1
    have lxx := xx.lt
    have xxc0 := xx.cell 0
    have xxc1 := xx.cell 1
    simp at xxc0 xxc1
    go_wp2_with fail
    clear lbx bxc0 bxc1
    clear lxx xxc0 xxc1
    refine (blowsL_any L _ m [] _ _ OK2.out.all ⟨hm0, hm1⟩ hk20 (by decide) (by simp) hS (ru_nil _ _ _)).mono ?_
    rintro e w2 ⟨u_w, rfl, hown, hb⟩
    replace hC : Below n0 w w2 := hC.trans (hb.mono (by have := hC.size; omega))
    replace bx := bx.below hb bx.lt
    replace xx := xx.below hb xx.lt
    replace hS := (RS.below hS hb).more hb.size
    clear hb
    have hw := OwnI.ri hown
    clear hown
    obtain ⟨W0, hW0⟩ : ∃ W, blwL m L [] L.length = W := ⟨_, rfl⟩
    have HWE := Lib.hid hW0
    have hWl : W0.length = L.length := by rw [← hW0, blwL_length]
    have HWL := Lib.hid hWl
    have hwk : W0.length ≤ 1000 := by omega
    rw [hW0] at hw
    clear hW0 hWl
    obtain ⟨Aw, cw, rfl⟩ := ri_slice hw
    have lbx := bx.lt
    have bxc0 := bx.cell 0
    have bxc1 := bx.cell 1
    simp at bxc0 bxc1
    have lxx := xx.lt
    have xxc0 := xx.cell 0
    have xxc1 := xx.cell 1
    simp at xxc0 xxc1
    go_wp2_with fail
    clear lbx bxc0 bxc1
    clear lxx xxc0 xxc1
    go_loopw [7, 8] (fun bv iv wr => ∃ k : Nat, k ≤ L.length ∧ iv = .int .i64 k ∧ bv = .int .i64 (bndB m L [] k) ∧ (∀ j, j < k → (tub (nthS L j)).lo ≤ bndB m L [] (j + 1) ∧ bndB m L [] (j + 1) ≤ (tub (nthS L j)).hi) ∧ Below w2.heap.size w2 wr) (fun _ iv _ => L.length - (intOf iv).toNat)
    case atStart => exact ⟨0, Nat.zero_le _, rfl, rfl, fun j hj => absurd hj (by omega), Below.refl _ _⟩
    case round =>
      obtain ⟨k, hk, rfl, rfl, hall, hbr⟩ := hrel
      have HBR := Lib.hid hbr
      have HALL := Lib.hid hall
      clear hall
      replace hC : Below n0 w wr := hC.trans (hbr.mono (by have := hC.size; omega))
      replace bx := bx.below hbr bx.lt
      replace xx := xx.below hbr xx.lt
      replace hS := (RS.below hS hbr).more hbr.size
      replace hw := (RS.below hw hbr).more hbr.size
      clear hbr
      have hbz : Below wr.heap.size wr wr := Below.refl _ _
      by_cases hlt : k < L.length
      case pos =>
        have hlt' : (k : Int) < (W0.length : Int) := by rw [HWL.out]; omega
        obtain ⟨A2, cap2, b2, off2, hve, hA, hc⟩ := RI.cells hw
        obtain ⟨rfl, hbb2⟩ := hA (by omega)
        injection hve with q1 q2 q3
        subst q1 q3
        have e1 := hc k (by omega)
        clear hA hc q2
        have HBS := Lib.hid (bnd_succ m L k)
        have hrg := bndB_rng ⟨hm0, hm1⟩ L [] (k + 1)
        have hwe : nthI W0 k = lazD m (tub (nthS L k)) (bndB m L [] k) := by
          rw [← blwB_nil (i := k), ← HWE.out]
          simp [nthI, blwL, hlt]
        obtain ⟨f, hf⟩ : ∃ f, bndB m L [] k = f := ⟨_, rfl⟩
        obtain ⟨f2, hf2⟩ : ∃ f, bndB m L [] (k + 1) = f := ⟨_, rfl⟩
        obtain ⟨d, hd⟩ : ∃ d, nthI W0 k = d := ⟨_, rfl⟩
        have hfd : f + d = f2 := by rw [← hf2, HBS.out, hf, ← hd, hwe, hf]
        have wfd : IntKind.i64.wrap (f + d) = f2 := by rw [hfd, IntKind.wrap_i64]; rw [hf2] at hrg; omega
        rw [hd] at e1
        try rw [hf]
        have HF2 := Lib.hid hf2
        clear hrg hwe hf hf2 hd hfd HBS
        have lbx := bx.lt
        have bxc0 := bx.cell 0
        have bxc1 := bx.cell 1
        simp at bxc0 bxc1
        have lxx := xx.lt
        have xxc0 := xx.cell 0
        have xxc1 := xx.cell 1
        simp at xxc0 xxc1
        go_wp2_with fail
        clear lbx bxc0 bxc1
        clear lxx xxc0 xxc1
        clear e1 hbb2 wfd
        refine (tube_any L _ m k _ OK2.out.all hk20 (by omega) hS).mono ?_
        rintro e w3 ⟨rfl, hb⟩
        replace hC : Below n0 w w3 := hC.trans (hb.mono (by have := hC.size; omega))
        replace bx := bx.below hb bx.lt
        replace xx := xx.below hb xx.lt
        replace hS := (RS.below hS hb).more hb.size
        replace hw := (RS.below hw hb).more hb.size
        replace hbz := hbz.trans (hb.mono hbz.size)
        clear hb
        rw [show tubR L (k : Int) = tub (nthS L k) by unfold tubR; rw [if_neg (by omega), Int.toNat_natCast]]
        obtain ⟨t, ht⟩ : ∃ t, tub (nthS L k) = t := ⟨_, rfl⟩
        rw [ht]
        have HT2 := Lib.hid ht
        clear ht
        unfold rV
        go_upto_region 17 with fail
        obtain ⟨m1, hm1⟩ : ∃ n, w3.heap.size = n := ⟨_, rfl⟩
        try rw [hm1]
        have hqtt : n0 ≤ m1 := by have := hC.size; omega
        have tt : BK (w3.alloc (.cells #[.int .i64 t.lo, .int .i64 t.hi] 42)) (m1) #[.int .i64 t.lo, .int .i64 t.hi] 42 := BK.new' _ _ _ (m1) hm1
        have hstt : (w3.alloc (.cells #[.int .i64 t.lo, .int .i64 t.hi] 42)).heap.size = m1 + 1 := by simp [hm1]
        replace hC : Below n0 w (w3.alloc (.cells #[.int .i64 t.lo, .int .i64 t.hi] 42)) := Below.alloc hC (by have := hC.size; omega) _
        replace bx := bx.alloc (.cells #[.int .i64 t.lo, .int .i64 t.hi] 42)
        replace xx := xx.alloc (.cells #[.int .i64 t.lo, .int .i64 t.hi] 42)
        replace hS := (RS.below hS (w' := (w3.alloc (.cells #[.int .i64 t.lo, .int .i64 t.hi] 42))) (Below.alloc (Below.refl _ _) (Nat.le_refl _) _)).more (B' := (w3.alloc (.cells #[.int .i64 t.lo, .int .i64 t.hi] 42)).heap.size) (by simp)
        replace hw := (RS.below hw (w' := (w3.alloc (.cells #[.int .i64 t.lo, .int .i64 t.hi] 42))) (Below.alloc (Below.refl _ _) (Nat.le_refl _) _)).more (B' := (w3.alloc (.cells #[.int .i64 t.lo, .int .i64 t.hi] 42)).heap.size) (by simp)
        replace hbz := hbz.trans ((Below.alloc (Below.refl _ _) (Nat.le_refl _) _ : Below _ _ (w3.alloc (.cells #[.int .i64 t.lo, .int .i64 t.hi] 42))).mono hbz.size)
        generalize (w3.alloc (.cells #[.int .i64 t.lo, .int .i64 t.hi] 42)) = Wtt at *
        clear hm1
        clear hstt
        by_cases hq1 : f2 < t.lo
        case pos =>
          have ltt := tt.lt
          have ttc0 := tt.cell 0
          have ttc1 := tt.cell 1
          simp at ttc0 ttc1
          go_wp2_with fail
          refine (works_any _).mono ?_
          rintro e w4 ⟨rfl, hb⟩
          replace hC : Below n0 w w4 := hC.trans (hb.mono (by have := hC.size; omega))
          replace bx := bx.below hb bx.lt
          replace xx := xx.below hb xx.lt
          replace hS := (RS.below hS hb).more hb.size
          replace hw := (RS.below hw hb).more hb.size
          replace hbz := hbz.trans (hb.mono hbz.size)
          replace tt := tt.below hb tt.lt
          clear hb
          go_wp2_with fail
          exact bodyPost_ret (v := .bool true) (by simp [results, Try.results12, go_sem]) rfl ⟨rfl, by first | exact hC | (rw [hn0]; exact hC) | (with_reducible rw [hn0]; exact bel_of) | exact bel_of⟩
        by_cases hq2 : f2 > t.hi
        case pos =>
          have ltt := tt.lt
          have ttc0 := tt.cell 0
          have ttc1 := tt.cell 1
          simp at ttc0 ttc1
          go_wp2_with fail
          refine (works_any _).mono ?_
          rintro e w4 ⟨rfl, hb⟩
          replace hC : Below n0 w w4 := hC.trans (hb.mono (by have := hC.size; omega))
          replace bx := bx.below hb bx.lt
          replace xx := xx.below hb xx.lt
          replace hS := (RS.below hS hb).more hb.size
          replace hw := (RS.below hw hb).more hb.size
          replace hbz := hbz.trans (hb.mono hbz.size)
          replace tt := tt.below hb tt.lt
          clear hb
          go_wp2_with fail
          exact bodyPost_ret (v := .bool true) (by simp [results, Try.results12, go_sem]) rfl ⟨rfl, by first | exact hC | (rw [hn0]; exact hC) | (with_reducible rw [hn0]; exact bel_of) | exact bel_of⟩
        have ltt := tt.lt
        have ttc0 := tt.cell 0
        have ttc1 := tt.cell 1
        simp at ttc0 ttc1
        go_wp2_with fail
        go_roundw
        case rel =>
          refine ⟨k + 1, by omega, by go_num, by rw [HF2.out], ?_, HBR.out.trans (hbz.mono HBR.out.size)⟩
          intro j hj
          by_cases hjk : j < k
          · exact HALL.out j hjk
          · obtain rfl : j = k := by omega
            rw [HT2.out, HF2.out]
            omega
        case measure => simp [intOf]; omega
      obtain rfl : k = L.length := by omega
      have hlt' : ¬ ((L.length : Int) < (W0.length : Int)) := by rw [HWL.out]; omega
      have hz := laz_all OK2.out HHL.out HALL.out
      rw [HWE.out] at hz
      have HZ := Lib.hid hz
      clear hz HALL hk hlt hbz
      have lbx := bx.lt
      have bxc0 := bx.cell 0
      have bxc1 := bx.cell 1
      simp at bxc0 bxc1
      have lxx := xx.lt
      have xxc0 := xx.cell 0
      have xxc1 := xx.cell 1
      simp at xxc0 xxc1
      go_wp2_with fail
      clear lbx bxc0 bxc1
      clear lxx xxc0 xxc1
      clear hlt'
      refine (checkBlows_any L _ m W0 _ _ hlk2 hwk hS hw hmI).mono ?_
      rintro e w3 ⟨rfl, hb⟩
      replace hC : Below n0 w w3 := hC.trans (hb.mono (by have := hC.size; omega))
      replace bx := bx.below hb bx.lt
      replace xx := xx.below hb xx.lt
      replace hS := (RS.below hS hb).more hb.size
      replace hw := (RS.below hw hb).more hb.size
      clear hb
      rw [HZ.out.2.1, HZ.out.2.2]
      have lbx := bx.lt
      have bxc0 := bx.cell 0
      have bxc1 := bx.cell 1
      simp at bxc0 bxc1
      have lxx := xx.lt
      have xxc0 := xx.cell 0
      have xxc1 := xx.cell 1
      simp at xxc0 xxc1
      go_wp2_with fail
      clear lbx bxc0 bxc1
      clear lxx xxc0 xxc1
      refine (Best_any L _ m _ hlk2 hS).mono ?_
      rintro e w4 ⟨u_b, rfl, hown, hb⟩
      replace hC : Below n0 w w4 := hC.trans (hb.mono (by have := hC.size; omega))
      replace bx := bx.below hb bx.lt
      replace xx := xx.below hb xx.lt
      replace hS := (RS.below hS hb).more hb.size
      replace hw := (RS.below hw hb).more hb.size
      clear hb
      rw [bst_yes (blaE_ok.2 OK2.out) HZ.out.1]
      have qn : (tgo m L 0 == tgo m L 0) = true := beq_self_eq_true _
      go_wp2_with fail
      refine (works_any _).mono ?_
      rintro e w5 ⟨rfl, hb⟩
      replace hC : Below n0 w w5 := hC.trans (hb.mono (by have := hC.size; omega))
      replace bx := bx.below hb bx.lt
      replace xx := xx.below hb xx.lt
      replace hS := (RS.below hS hb).more hb.size
      replace hw := (RS.below hw hb).more hb.size
      clear hb
      go_wp2_with fail
      exact bodyPost_ret (v := .bool true) (by simp [results, Try.results12, go_sem]) rfl ⟨rfl, by first | exact hC | (rw [hn0]; exact hC) | (with_reducible rw [hn0]; exact bel_of) | exact bel_of⟩
end Go.Proofs.Ytgbegdjakadbbaa

namespace Go.Proofs.Ytgbegdjakadbbaa.warpLazy
open Go.ChangeShapes Go.WideShapes Go.ChangeAt Go.RowKit Go.Deep

set_option maxRecDepth 100000 in
theorem lifted (os : Os) (started : os.Started) (H : Type) (enc : TypeId × Value → H) :
    ReturnsInHanded {} Try.checked os 12 .any (Rows.warpLazySpec.pre6 enc Try.prog Try.f12 Rows.warpLazyRow.domain false) (Rows.warpLazySpec.post enc Try.prog Try.f12 false true false false) := by
  refine returnsInHanded_of_change (C := Try.checked) own started (by kernel_rfl) Try.func12
    (ChangeSpec.witness6 (enc := enc) (C := Try.checked) false ⟨#[], #[.agg #[.slice none 0 0, .int .i64 0]], []⟩ 8 (by kernel_rfl) (by kernel_rfl) (by kernel_rfl) (by kernel_rfl)) ?_
  intro W base args ds gs before hval0 hW hcnd _
  have hval : ∀ (j : Nat) t v, Try.f12.params[j]? = some t → args[j]? = some v → Value.okWide Try.prog W .any base t v := hval0
  have hW2 : DataW.Whole enc Try.prog Try.f12.params.toList Rows.warpLazySpec.vars false W args.toList ds gs before := hW
  obtain ⟨p, q, hA0, hV, rfl, hfz, hnd⟩ := hW
  have hA : DataW.TrodAll enc Try.prog W 0 (fun _ => true) true Try.f12.params.toList args.toList ds p := hA0
  rw [Try.params12] at hA hval
  obtain ⟨v0, vs0, d0, ds0, p0, q0, hargs, rfl, rfl, h0, r0⟩ := trodAll_cons hA
  obtain ⟨rfl, rfl, rfl⟩ := trodAll_nil r0
  obtain rfl : args = #[v0] := by cases args; simp_all
  obtain ⟨rfl, rfl⟩ := trodVars_none hV
  obtain ⟨vs0_, l0, m0, rfl, g0, k0, j0⟩ := open_blade (hval 0 24 v0 rfl rfl) h0
  refine (warpLazy_any (l := l0) (m := m0) (vs := vs0_) (hT := g0) (hlM := k0) (hmI := j0) (w := W)).mono fun e W' ⟨he, hg⟩ => ?_
  subst he
  exact ⟨_, rfl, law_done hW2 rfl rfl rfl (by rw [Try.params12]; decide +kernel) hg⟩

theorem over : Rows.warpLazyRow.holds Try.pinned (OpenSpec.ofChange Rows.warpLazySpec) :=
  OpenClaim.holds_of_wide 12 Try.f12 rfl rfl rfl rfl rfl rfl rfl ⟨rfl, rfl, rfl, rfl, rfl⟩ rfl rfl rfl rfl rfl (by kernel_rfl) Try.func12 (by kernel_rfl)
    (of_decide_eq_true (by kernel_rfl)) (by unfold Func.isWrapper; first | (rw [if_pos (by decide +kernel)]; kernel_rfl) | (rw [if_neg (by decide +kernel)]; exact ⟨rfl, rfl⟩))
    (fun os started H enc _ => lifted os started H enc)

theorem proved : Rows.WarpLazySaid :=
  over
end Go.Proofs.Ytgbegdjakadbbaa.warpLazy
namespace Go.Proofs.Ytgbegdjakadbbaa
theorem warpLazy_proved : Rows.WarpLazySaid := warpLazy.proved
#print axioms warpLazy_proved
end Go.Proofs.Ytgbegdjakadbbaa
