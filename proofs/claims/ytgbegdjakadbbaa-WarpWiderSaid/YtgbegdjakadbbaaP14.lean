/- What is good of a list is kept; told. What is not good is taken out of a list of its own. told: the least and the greatest good number. The blow costs as little as best blows. A bend that both rows reach is good. A list of numbers is walked from its end. The bound of pulls, from the last station on, plainly. -/
import Derived.Test.YtgbegdjakadbbaaP13
import Derived.Test.YtgbegdjakadbbaaP11
import Derived.Test.YtgbegdjakadbbaaP9
import Derived.Test.YtgbegdjakadbbaaP12
import Derived.Test.YtgbegdjakadbbaaP7
set_option linter.all false
set_option linter.unnecessarySimpa false
set_option linter.unusedSimpArgs false
set_option linter.unusedVariables false
set_option linter.unusedSectionVars false

set_option linter.all false
attribute [local go_sem] Go.Oper.semAt_some
namespace Go.Proofs.Ytgbegdjakadbbaa
open Go.RowKit Vp

/-- The block g begins with these numbers. -/
def LI (W : World) (g : Nat) (l : List Int) : Prop := ∃ cs : Array Value, BK W g cs 2 ∧ l.length ≤ cs.size ∧ ∀ j, j < l.length → cs[j]? = some (.int .i64 (nthI l j))
theorem LI.lt {W : World} {g : Nat} {l : List Int} (h : LI W g l) : g < W.heap.size := by obtain ⟨cs, h1, _⟩ := h; exact h1.lt
theorem LI.cell {W : World} {g : Nat} {l : List Int} (h : LI W g l) {j : Nat} (hj : j < l.length) : W.cell? ⟨g, j, none⟩ = some (.int .i64 (nthI l j)) := by
  obtain ⟨cs, h1, _, h3⟩ := h
  rw [h1.cell]; exact h3 j hj
theorem LI.frozen {W : World} {g : Nat} {l : List Int} (h : LI W g l) (j : Nat) : W.frozen? ⟨g, j, none⟩ = false := by obtain ⟨cs, h1, _⟩ := h; exact h1.frozen j
theorem LI.below {W W' : World} {g : Nat} {l : List Int} (h : LI W g l) (hb : Below W.heap.size W W') : LI W' g l := by
  obtain ⟨cs, h1, h2⟩ := h
  exact ⟨cs, h1.below hb h1.lt, h2⟩
theorem LI.set {W : World} {g : Nat} {l : List Int} (h : LI W g l) {j : Nat} (hj : j < l.length) (x : Int) : LI (W.setCell ⟨g, j, none⟩ (.int .i64 x)) g (l.set j x) := by
  obtain ⟨cs, h1, h2, h3⟩ := h
  refine ⟨_, h1.set j (.int .i64 x), by simpa using h2, fun i hi => ?_⟩
  rw [List.length_set] at hi
  rw [nthI_set hj]
  by_cases e : j = i
  · subst e
    rw [if_pos rfl]
    simp [show j < cs.size by omega]
  · rw [if_neg e, Array.getElem?_setIfInBounds_ne e]
    exact h3 i hi
theorem LI.ri {W : World} {g : Nat} {l : List Int} (h : LI W g l) {k c : Nat} (hk : k ≤ l.length) (hc : k ≤ c) : RI W W.heap.size (.slice (some ⟨g, 0, none⟩) k c) (l.take k) := by
  have hl : (l.take k).length = k := by rw [List.length_take]; omega
  refine ⟨_, c, g, 0, by rw [hl], ⟨by simp [ofI], by omega⟩, fun _ => ⟨rfl, h.lt⟩, fun j hj => ?_⟩
  have hj2 : j < k := by
    have hj3 := hj
    simp only [ofI, Array.length_toList, List.size_toArray, List.length_map, hl] at hj3
    first | exact hj3 | (simp [ofI, hl] at hj3; omega) | (simp [ofI] at hj; omega)
  rw [Nat.zero_add, h.cell (by omega)]
  have : (ofI (l.take k))[j]? = some (.int .i64 (nthI (l.take k) j)) := ofI_get (by omega)
  rw [this]
  congr 2
  unfold nthI
  rw [List.getD_eq_getElem?_getD, List.getD_eq_getElem?_getD, List.getElem?_take_of_lt hj2]
theorem LI.of_own {W : World} {base : Nat} {v : Value} {l : List Int} (h : OwnI 2 W base v l) (h0 : 0 < l.length) : ∃ g c, v = .slice (some ⟨g, 0, none⟩) l.length c ∧ base ≤ g ∧ l.length ≤ c ∧ LI W g l := by
  obtain ⟨hl, h2⟩ := h
  rcases h2 with ⟨rfl, h3⟩ | ⟨g, cap, cur, rfl, hb, hg, hcp, _, hcs, ht⟩
  · rw [h3] at hl; simp at hl; omega
  · refine ⟨g, cap, rfl, hb, hcp, cur, hg, by omega, fun j hj => ?_⟩
    have h4 := ofI_get hj
    rw [← ht, List.getElem?_take_of_lt (by omega)] at h4
    simpa using h4

/-- The first place at which it is not good. -/
theorem idx_del (good : Int → Bool) (l : List Int) (g c : Nat) (p : Value) (w : World) (hl : l.length ≤ 1000) (h : LI w g l)
    (hF : ∀ (W : World) (x : Int), w.grownBy W (some g) → x ∈ l → Calls Try.prog 81 #[.int .i64 x, p] W fun e w' => e = .returned (.bool (!good x)) ∧ Below W.heap.size W w') :
    Calls Try.prog 86 #[.slice (some ⟨g, 0, none⟩) l.length c, .func (.func 81) #[] #[p]] w fun e w' => (∃ r : Int, e = .returned (.int .i64 r) ∧ ((r = -1 ∧ ∀ k, k < l.length → good (nthI l k) = true) ∨ ∃ k, r = (k : Nat) ∧ k < l.length ∧ good (nthI l k) = false ∧ ∀ j, j < k → good (nthI l j) = true)) ∧ Below w.heap.size w w' := by
  have HF := Lib.hid hF
  clear hF
  have H := Lib.hid h
  have hgl := h.lt
  clear h
  go_enter Try.func86, Try.ntmps86
  go_wp2_with fail
  go_loopw [8] (fun i wr => ∃ k : Nat, k ≤ l.length ∧ i = .int .i64 k ∧ (∀ j, j < k → good (nthI l j) = true) ∧ Below w.heap.size w wr) (fun i _ => l.length - (intOf i).toNat)
  case atStart => exact ⟨0, Nat.zero_le _, rfl, fun j hj => absurd hj (by omega), Below.refl _ _⟩
  case round =>
    obtain ⟨k, hk, rfl, hall, hbr⟩ := hrel
    have HA := Lib.hid hall
    have HBR := Lib.hid hbr
    clear hall
    by_cases hlt : k < l.length
    case neg =>
      have hke : k = l.length := by omega
      go_wp2_with fail
      go_ret
      exact ⟨⟨-1, rfl, .inl ⟨rfl, fun j hj => HA.out j (by omega)⟩⟩, HBR.out⟩
    have hlt' : (k : Int) < (l.length : Int) := by omega
    have d1 := (H.out.below hbr).cell hlt
    have hgw : g < wr.heap.size := (H.out.below hbr).lt
    have hm : nthI l k ∈ l := by unfold nthI; rw [List.getD_eq_getElem?_getD, List.getElem?_eq_getElem hlt]; exact List.getElem_mem hlt
    have HC := Lib.hid (HF.out wr _ (grown_of_below hbr _) hm)
    obtain ⟨q, hq⟩ : ∃ q, good (nthI l k) = q := ⟨_, rfl⟩
    rw [hq] at HC
    have HQ := Lib.hid hq
    clear hq hbr hm
    go_wp2_with fail
    refine HC.out.mono ?_
    rintro e w1 ⟨rfl, hb1⟩
    have HB1 := Lib.hid (HBR.out.trans (hb1.mono HBR.out.size))
    clear hb1
    cases q with
    | true =>
      go_wp2_with fail
      go_roundw
      case rel => exact ⟨k + 1, by omega, by go_num, less_succ HA.out HQ.out, HB1.out⟩
      case measure => simp [intOf]; omega
    | false =>
      go_wp2_with fail
      go_ret
      exact ⟨⟨k, rfl, .inr ⟨k, rfl, hlt, HQ.out, HA.out⟩⟩, HB1.out⟩
end Go.Proofs.Ytgbegdjakadbbaa

set_option linter.all false
attribute [local go_sem] Go.Oper.semAt_some
namespace Go.Proofs.Ytgbegdjakadbbaa
open Go.RowKit Vp

/-- A list under way: the good of the first j at its head, the rest behind as it was. -/
structure Mid (good : Int → Bool) (l : List Int) (i j : Nat) (L : List Int) : Prop where
  len : L.length = l.length
  cnt : i = ((l.take j).filter good).length
  head : L.take i = (l.take j).filter good
  rest : ∀ k, j ≤ k → nthI L k = nthI l k
  le : j ≤ l.length
theorem take_succ_filter {good : Int → Bool} {l : List Int} {j : Nat} (h : j < l.length) : (l.take (j + 1)).filter good = (l.take j).filter good ++ (if good (nthI l j) then [nthI l j] else []) := by
  rw [List.take_succ_eq_append_getElem h, List.filter_append]
  have : nthI l j = l[j] := by unfold nthI; rw [List.getD_eq_getElem?_getD, List.getElem?_eq_getElem h]; rfl
  rw [this]
  congr 1
  by_cases g : good l[j] = true
  · simp [g]
  · simp [g]
theorem filter_take_le (good : Int → Bool) (l : List Int) (j : Nat) : ((l.take j).filter good).length ≤ j := by
  have h1 := List.length_filter_le good (l.take j)
  have h2 : (l.take j).length ≤ j := by rw [List.length_take]; omega
  omega
theorem Mid.start {good : Int → Bool} {l : List Int} {i : Nat} (hi : i < l.length) (hg : good (nthI l i) = false) (hall : ∀ k, k < i → good (nthI l k) = true) : Mid good l i (i + 1) l := by
  have hf : (l.take i).filter good = l.take i := by
    apply List.filter_eq_self.2
    intro x hx
    obtain ⟨k, hk, rfl⟩ := List.getElem_of_mem hx
    have hk2 : k < i := by rw [List.length_take] at hk; omega
    have := hall k hk2
    unfold nthI at this
    rw [List.getD_eq_getElem?_getD, List.getElem?_eq_getElem (by omega)] at this
    rw [List.getElem_take]
    exact this
  have h2 := take_succ_filter (good := good) hi
  rw [hg, hf] at h2
  simp at h2
  refine ⟨rfl, ?_, h2.symm, fun _ _ => rfl, by omega⟩
  rw [h2, List.length_take]; omega
theorem Mid.lt {good : Int → Bool} {l L : List Int} {i j : Nat} (h : Mid good l i j L) : i ≤ j := by
  rw [h.cnt]; exact filter_take_le _ _ _
theorem Mid.bad {good : Int → Bool} {l L : List Int} {i j : Nat} (h : Mid good l i j L) (hj : j < l.length) (hg : good (nthI l j) = false) : Mid good l i (j + 1) L := by
  have h2 := take_succ_filter (good := good) hj
  rw [hg] at h2
  simp at h2
  exact ⟨h.len, by rw [h2]; exact h.cnt, by rw [h2]; exact h.head, fun k hk => h.rest k (by omega), by omega⟩
theorem Mid.good {good : Int → Bool} {l L : List Int} {i j : Nat} (h : Mid good l i j L) (hij : i < j) (hj : j < l.length) (hg : good (nthI l j) = true) : Mid good l (i + 1) (j + 1) (L.set i (nthI l j)) := by
  have h2 := take_succ_filter (good := good) hj
  rw [hg] at h2
  simp only [if_true] at h2
  have hiL : i < L.length := by rw [h.len]; omega
  refine ⟨by simp [h.len], ?_, ?_, fun k hk => ?_, by omega⟩
  · rw [h2, List.length_append]; have := h.cnt; simp; omega
  · rw [h2, List.take_succ_eq_append_getElem (by simpa using hiL), List.take_set_of_le (Nat.le_refl i), h.head]
    simp
  · rw [nthI_set hiL, if_neg (by omega)]
    exact h.rest k (by omega)

section
variable {P : Program} {ops : Array Oper} {Q : Exit → Act → World → Prop}
theorem wpList_slice_run {rest : List Oper} {o : Oper} {a : Act} {w w' : World} (hgd : o.guard = none) (t : TypeId) (x lo : Operand) (v : Value) (ho : o.op = .slice t x (some lo) none none)
    (hrun : (Instr.sliceAt t (a.eval x) (some (a.eval lo)) none none).run P w = .ok v w') (h : wpList P ops Q rest (a.put o.dst v) w') : wpList P ops Q (o :: rest) a w := by
  refine wpList_plain hgd fun K hK => ?_
  unfold Oper.wp execOp
  simp only [ho, Sem.run_bind, Sem.run_pure, Result.andThen_ok, List.map_toArray, List.map_cons, List.map_nil, Option.map_some, Option.map_none, hrun]
  exact hK _ _ h
end
theorem run_tail (w : World) (g i n c : Nat) (hi : i ≤ n) (hc : i < c) (k : IntKind) : (Instr.sliceAt 25 (.slice (some ⟨g, 0, none⟩) n c) (some (.int k (i : Int))) none none).run Try.prog w = .ok (.slice (some ⟨g, i, none⟩) (n - i) (c - i)) w := by
  have ht : Try.prog.underlying 25 = some (.slice (Try.prog.elem 25)) := by kernel_rfl
  rw [run_sliceAt_slice (P := Try.prog) w 25 _ _ _ _ ht]
  rw [run_slice_l (P := Try.prog) w 25 (some ⟨g, 0, none⟩) n c ht k (i : Int) (by omega) (by omega)]
  have h1 : (sizeOf (Try.prog.elem 25)).run Try.prog w = .ok 1 w := by kernel_rfl
  rw [h1]
  simp only [Result.andThen, sliced, Int.toNat_natCast]
  rw [if_neg (by omega)]
  simp only [Option.map_some, Nat.mul_one]
  rw [show (⟨g, 0, none⟩ : Addr).add i = ⟨g, i, none⟩ by unfold Addr.add; split <;> simp_all]
section
variable {P : Program} {ops : Array Oper} {Q : Exit → Act → World → Prop}
theorem wpList_head_run {rest : List Oper} {o : Oper} {a : Act} {w w' : World} (hgd : o.guard = none) (t : TypeId) (x hi : Operand) (v : Value) (ho : o.op = .slice t x none (some hi) none)
    (hrun : (Instr.sliceAt t (a.eval x) none (some (a.eval hi)) none).run P w = .ok v w') (h : wpList P ops Q rest (a.put o.dst v) w') : wpList P ops Q (o :: rest) a w := by
  refine wpList_plain hgd fun K hK => ?_
  unfold Oper.wp execOp
  simp only [ho, Sem.run_bind, Sem.run_pure, Result.andThen_ok, List.map_toArray, List.map_cons, List.map_nil, Option.map_some, Option.map_none, hrun]
  exact hK _ _ h
end
theorem run_head (w : World) (g i n c : Nat) (hi : i ≤ c) (hc : 0 < c) (k : IntKind) : (Instr.sliceAt 25 (.slice (some ⟨g, 0, none⟩) n c) none (some (.int k (i : Int))) none).run Try.prog w = .ok (.slice (some ⟨g, 0, none⟩) i c) w := by
  have ht : Try.prog.underlying 25 = some (.slice (Try.prog.elem 25)) := by kernel_rfl
  rw [run_sliceAt_slice (P := Try.prog) w 25 _ _ _ _ ht]
  rw [run_slice_h (P := Try.prog) w 25 (some ⟨g, 0, none⟩) n c ht k (i : Int) (by omega) (by omega)]
  have h1 : (sizeOf (Try.prog.elem 25)).run Try.prog w = .ok 1 w := by kernel_rfl
  rw [h1]
  simp only [Result.andThen, sliced, Int.toNat_natCast]
  rw [if_neg (by omega)]
  simp only [Option.map_some, Nat.zero_mul]
  rfl
theorem _root_.Go.World.grownBy.setCell_own {w W : World} {g : Nat} (h : w.grownBy W (some g)) (i : Nat) (u : Value) : w.grownBy (W.setCell ⟨g, i, none⟩ u) (some g) := grown_sets [u] i W h
theorem hM_end {good : Int → Bool} {l L : List Int} {i : Nat} (h : Mid good l i l.length L) : L.take i = l.filter good ∧ i = (l.filter good).length := by
  have h1 := h.head
  have h2 := h.cnt
  rw [List.take_length] at h1 h2
  exact ⟨h1, h2⟩
theorem LI.sets {W : World} {g : Nat} {l : List Int} (h : LI W g l) {i : Nat} (hi : i ≤ l.length) (vs : List Value) (hv : i + vs.length = l.length) : LI (W.setCells g i vs) g (l.take i) := by
  obtain ⟨cs, h1, h2, h3⟩ := h
  have h4 := BK.setCells (g := g) vs i W cs.toList (by simpa using h1) (by simp; omega)
  refine ⟨_, h4, by simp; omega, fun j hj => ?_⟩
  have hj2 : j < i := by rw [List.length_take] at hj; omega
  have h5 := h3 j (by omega)
  have h6 : nthI (l.take i) j = nthI l j := by
    unfold nthI
    rw [List.getD_eq_getElem?_getD, List.getD_eq_getElem?_getD, List.getElem?_take_of_lt hj2]
  rw [h6, ← h5]
  simp only [List.getElem?_toArray]
  rw [List.append_assoc, List.getElem?_append_left (by simp; omega), List.getElem?_take_of_lt hj2]
  simp

theorem del_any (good : Int → Bool) (l : List Int) (g c : Nat) (p : Value) (w : World) (hl : l.length ≤ 1000) (hcap : l.length ≤ c) (h : LI w g l)
    (hF : ∀ (W : World) (x : Int), w.grownBy W (some g) → x ∈ l → Calls Try.prog 81 #[.int .i64 x, p] W fun e w' => e = .returned (.bool (!good x)) ∧ Below W.heap.size W w') :
    Calls Try.prog 80 #[.slice (some ⟨g, 0, none⟩) l.length c, .func (.func 81) #[] #[p]] w fun e w' => e = .returned (.slice (some ⟨g, 0, none⟩) (l.filter good).length c) ∧ LI w' g (l.filter good) ∧ w.grownBy w' (some g) := by
  have HF := Lib.hid hF
  have H := Lib.hid h
  have HI := Lib.hid (idx_del good l g c p w hl h hF)
  clear hF
  clear h
  go_enter Try.func80, Try.ntmps80
  go_wp2_with fail
  refine HI.out.mono ?_
  rintro e w1 ⟨⟨r, rfl, hr⟩, hb1⟩
  have HG1 := Lib.hid (grown_of_below hb1 (some g))
  have H1 := Lib.hid (H.out.below hb1)
  clear hb1
  rcases hr with ⟨rfl, hall⟩ | ⟨i0, rfl, hi0, hbad, hall⟩
  · have hf : l.filter good = l := by
      apply List.filter_eq_self.2
      intro x hx
      obtain ⟨k, hk, rfl⟩ := List.getElem_of_mem hx
      have := hall k hk
      unfold nthI at this
      rw [List.getD_eq_getElem?_getD, List.getElem?_eq_getElem hk] at this
      exact this
    have HFF := Lib.hid hf
    clear hf hall
    go_wp2_with fail
    go_ret
    rw [HFF.out]
    exact ⟨rfl, H1.out, HG1.out⟩
  have HM0 := Lib.hid (Mid.start hi0 hbad hall)
  clear hbad hall
  have hi1 : ((i0 : Int) == -1) = false := by rw [beq_eq_false_iff_ne]; omega
  go_wp2_with fail
  clear hi1
  go_loopw [5, 6] (fun iv jv wr => ∃ (i j : Nat) (L : List Int), iv = .int .i64 i ∧ jv = .int .i64 j ∧ i < j ∧ Mid good l i j L ∧ LI wr g L ∧ w.grownBy wr (some g)) (fun _ jv _ => l.length - (intOf jv).toNat)
  case atStart => exact ⟨i0, i0 + 1, l, rfl, by go_num, by omega, HM0.out, H1.out, HG1.out⟩
  case round =>
    obtain ⟨i, j, L, rfl, rfl, hij, hmid, hli, hgr⟩ := hrel
    have HM := Lib.hid hmid
    have HL := Lib.hid hli
    have HGR := Lib.hid hgr
    have hjl := hmid.le
    have hlen := Lib.hid hmid.len
    clear hmid hli hgr
    by_cases hlt : j < l.length
    case neg =>
      have hje : j = l.length := by omega
      subst hje
      have hlt' : ¬ ((l.length : Int) < (l.length : Int)) := by omega
      have hcl := Lib.run_clear_slice (P := Try.prog) wr 25 2 0 (.int .i64 0) i64_slice zero_i64 rfl rfl g i (l.length - i) (c - i) (by omega)
        (fun k hk => by have := HL.out.cell (j := i + k) (by rw [hlen.out]; omega); rw [this]; rfl) (fun k hk => HL.out.frozen _)
      have HCL := Lib.hid hcl
      clear hcl
      have HR := Lib.hid (HL.out.sets (i := i) (by rw [hlen.out]; omega) (List.replicate (l.length - i) (.int .i64 0)) (by rw [List.length_replicate, hlen.out]; omega))
      have HGS := Lib.hid (grown_sets (List.replicate (l.length - i) (.int .i64 0)) i wr HGR.out)
      have hil : i < l.length := hij
      have HX := Lib.hid (hM_end HM.out)
      clear hlt hij hjl hl hi0
      obtain ⟨n, hn⟩ : ∃ n, l.length = n := ⟨_, rfl⟩
      rw [hn] at hil hcap hlt' HCL HR HGS ⊢
      have HN := Lib.hid hn
      clear hn
      have hs1 : (i : Int) ≤ (n : Int) := by omega
      have hs2 : (n : Int) ≤ (c : Int) := by omega
      have hs3 : (i : Int) ≤ (c : Int) := by omega
      have hs4 : ((n : Int) - (i : Int)).toNat = n - i := by omega
      go_upto_region 11 with fail
      clear hlt' hs1 hs2 hs3 hs4
      have HSL := Lib.hid (run_tail wr g i n c (by omega) (by omega) .i64)
      refine wp_region_list ?_
      refine wpList_plain rfl fun K1 hK1 => ?_
      show K1 _ _
      refine hK1 _ _ ?_
      refine wpList_plain rfl fun K1 hK1 => ?_
      show K1 _ _
      refine hK1 _ _ ?_
      refine wpList_slice_run rfl 25 (.tmp 36) (.tmp 37) _ rfl (HSL.out) ?_
      refine wpList_clear_run rfl (.tmp 38) 25 _ rfl (HCL.out) ?_
      refine wpList_nil ?_
      clear HCL HSL
      generalize wr.setCells g i (List.replicate (n - i) (.int .i64 0)) = W2 at *
      simp only [Act.put, Act.eval, Array.getD_eq_getD_getElem?, List.getElem?_toArray, List.getElem?_cons_succ, List.getElem?_cons_zero, Option.getD_some, List.setIfInBounds_toArray, List.set_cons_succ, List.set_cons_zero]
      have hs5 : i ≤ c := by omega
      have hc0 : ¬ c = 0 := by omega
      go_wp2_with fail
      go_ret
      rw [← HX.out.2, ← HX.out.1]
      exact ⟨rfl, HR.out, HGS.out⟩
    have hlt' : (j : Int) < (l.length : Int) := by omega
    have hjL : j < L.length := by rw [hlen.out]; exact hlt
    have d1 := HL.out.cell hjL
    rw [HM.out.rest j (Nat.le_refl _)] at d1
    have hm : nthI l j ∈ l := by unfold nthI; rw [List.getD_eq_getElem?_getD, List.getElem?_eq_getElem hlt]; exact List.getElem_mem hlt
    have HC := Lib.hid (HF.out wr _ HGR.out hm)
    have hgw : g < wr.heap.size := HL.out.lt
    clear hjL hm
    obtain ⟨q, hq⟩ : ∃ q, good (nthI l j) = q := ⟨_, rfl⟩
    rw [hq] at HC
    have HQ := Lib.hid hq
    clear hq
    go_wp2_with fail
    refine HC.out.mono ?_
    rintro e w2 ⟨rfl, hb2⟩
    have HG2 := Lib.hid (grown_below HGR.out hb2)
    have HL2 := Lib.hid (HL.out.below hb2)
    clear hb2 d1 hgw
    cases q with
    | false =>
      go_wp2_with fail
      go_roundw
      case rel => exact ⟨i, j + 1, L, rfl, by go_num, by omega, HM.out.bad hlt HQ.out, HL2.out, HG2.out⟩
      case measure => simp [intOf]; omega
    | true =>
      have hiL : i < L.length := by rw [hlen.out]; omega
      have hil : (i : Int) < (l.length : Int) := by omega
      have d2 := HL2.out.cell hiL
      have d3 := HL2.out.frozen i
      have hgw : g < w2.heap.size := HL2.out.lt
      have HS3 := Lib.hid (HL2.out.set hiL (nthI l j))
      have HG3 := Lib.hid (HG2.out.setCell_own i (.int .i64 (nthI l j)))
      clear hiL
      go_wp2_with fail
      go_roundw
      case rel => exact ⟨i + 1, j + 1, _, by go_num, by go_num, by omega, HM.out.good hij hlt HQ.out, HS3.out, HG3.out⟩
      case measure => simp [intOf]; omega
end Go.Proofs.Ytgbegdjakadbbaa

set_option linter.all false
attribute [local go_sem] Go.Oper.semAt_some
namespace Go.Proofs.Ytgbegdjakadbbaa
open Go.RowKit Vp

/-- What told answers of the good numbers. -/
def toldL (fs : List Int) : Int × Int × Int := if fs.length = 0 then (0, 0, 18) else (nthI fs 0, nthI fs (fs.length - 1), 0)
theorem told1_any (f : Nat) (a b : Value) (n : Nat) (x : Int) (q : Bool) (W : World) (hb : BK W n #[.func (.func f) #[] #[a, b]] 87)
    (ef : ∀ args w, (callFunc f args).run Try.prog w = .ok (.enter f args) w) (hF : Calls Try.prog f #[.int .i64 x, a, b] W fun e w' => e = .returned (.bool q) ∧ Below W.heap.size W w') :
    Calls Try.prog 81 #[.int .i64 x, .pointer (some ⟨n, 0, none⟩)] W fun e w' => e = .returned (.bool (!q)) ∧ Below W.heap.size W w' := by
  have HF := Lib.hid hF
  have c1 := hb.cell 0
  have l1 := hb.lt
  simp at c1
  clear hF hb
  go_enter Try.func81, Try.ntmps81
  go_wp2_with fail
  refine HF.out.mono ?_
  rintro e w1 ⟨rfl, hb1⟩
  go_wp2_with fail
  go_ret
  exact ⟨rfl, hb1⟩
set_option maxHeartbeats 8000000 in
set_option maxRecDepth 100000 in
theorem told_any (f : Nat) (a b : Value) (good : Int → Bool) (l : List Int) (v : Value) (base : Nat) (w : World) (hl : l.length ≤ 1000) (h0 : 0 < l.length) (h : OwnI 2 w base v l) (hbase : base ≤ w.heap.size)
    (ef : ∀ args w, (callFunc f args).run Try.prog w = .ok (.enter f args) w)
    (hF : ∀ (g : Nat) (W : World) (x : Int), base ≤ g → w.grownBy W (some g) → x ∈ l → Calls Try.prog f #[.int .i64 x, a, b] W fun e w' => e = .returned (.bool (good x)) ∧ Below W.heap.size W w') :
    Calls Try.prog 57 #[v, .func (.func f) #[] #[a, b]] w fun e w' => e = .returned (.tuple #[.agg #[.int .i64 (toldL (l.filter good)).1, .int .i64 (toldL (l.filter good)).2.1], .int .i64 (toldL (l.filter good)).2.2]) ∧ Below base w w' := by
  obtain ⟨g, c, rfl, hbg, hc, hli⟩ := LI.of_own h h0
  obtain ⟨n, hn⟩ : ∃ n, w.heap.size = n := ⟨_, rfl⟩
  have hgn : g < n := by have := hli.lt; omega
  have HF := Lib.hid (hF g)
  have HL := Lib.hid hli
  clear hF h hli
  go_enter Try.func57, Try.ntmps57
  go_wp2_with fail
  have hBx : BK ((w.alloc (.cells #[.func (.func f) #[] #[a, b]] 87)).alloc (.cells #[.int .i64 0, .int .i64 0] 42)) n #[.func (.func f) #[] #[a, b]] 87 := (BK.new' _ _ _ n hn).alloc _
  have hRx : BK ((w.alloc (.cells #[.func (.func f) #[] #[a, b]] 87)).alloc (.cells #[.int .i64 0, .int .i64 0] 42)) (n + 1) #[.int .i64 0, .int .i64 0] 42 := BK.new' _ _ _ _ (by simp [hn])
  have hC : Below n w ((w.alloc (.cells #[.func (.func f) #[] #[a, b]] 87)).alloc (.cells #[.int .i64 0, .int .i64 0] 42)) := by exact bel_of
  have hs1 : ((w.alloc (.cells #[.func (.func f) #[] #[a, b]] 87)).alloc (.cells #[.int .i64 0, .int .i64 0] 42)).heap.size = n + 2 := by simp [hn]
  generalize (w.alloc (.cells #[.func (.func f) #[] #[a, b]] 87)).alloc (.cells #[.int .i64 0, .int .i64 0] 42) = W1 at *
  have HL1 := HL.out.below (by rw [hn]; exact hC)
  refine (del_any good l g c (.pointer (some ⟨n, 0, none⟩)) W1 hl hc HL1 fun W x hW hx => ?_).mono ?_
  · exact told1_any f a b n x (good x) W (hBx.grown hW (by simp; omega)) ef (HF.out W x hbg (grown_trans (grown_of_below (by rw [hn]; exact hC) _) hW) hx)
  rintro e w2 ⟨rfl, hL2, hG2⟩
  have hB2 : Below base w w2 := Below.grown (hC.mono (by omega)) hG2 (by omega) (fun k hk => by injection hk with hk; omega)
  have hR2 := hRx.grown hG2 (by simp; omega)
  have hFl : (l.filter good).length ≤ 1000 := Nat.le_trans (List.length_filter_le _ _) hl
  have HB2 := Lib.hid hB2
  have HL2 := Lib.hid hL2
  have hs2 := hG2.size
  have hgn2 : g < w2.heap.size := hL2.lt
  have lR := hR2.lt
  have cR0 := hR2.cell 0
  have cR1 := hR2.cell 1
  have fR0 := hR2.frozen 0
  have fR1 := hR2.frozen 1
  simp at cR0 cR1
  clear hs1 hs2 HL1 hBx hRx hC hB2 hL2 hG2 HF HL ef hn
  have HR2 := Lib.hid hR2
  clear hR2
  obtain ⟨F, hF⟩ : ∃ F, l.filter good = F := ⟨_, rfl⟩
  rw [hF] at HL2 hFl ⊢
  have HFE := Lib.hid hF
  clear hF
  obtain ⟨k, hk⟩ : ∃ k, F.length = k := ⟨_, rfl⟩
  rw [hk] at hFl ⊢
  have HK := Lib.hid hk
  clear hk h0
  by_cases hk0 : k = 0
  · subst hk0
    go_wp2_with fail
    refine bodyPost_ret (v := .tuple #[.agg #[.int .i64 0, .int .i64 0], .int .i64 18]) (by simp [results, Try.results57, go_sem, *]) rfl ?_
    rw [HFE.out, show toldL F = (0, 0, 18) from if_pos HK.out]
    exact ⟨rfl, (HB2.out.setCell (by show base ≤ n + 1; omega) _).setCell (by show base ≤ n + 1; omega) _⟩
  have d1 := HL2.out.cell (j := 0) (by rw [HK.out]; omega)
  have d2 := HL2.out.cell (j := k - 1) (by rw [HK.out]; omega)
  have hk1 : (k : Int) - 1 = ((k - 1 : Nat) : Int) := by omega
  have HT : toldL F = (nthI F 0, nthI F (k - 1), 0) := by unfold toldL; rw [HK.out, if_neg hk0]
  have HT := Lib.hid HT
  have hk2 : ((k : Int) == 0) = false := by rw [beq_eq_false_iff_ne]; omega
  have kp : 0 < k := by omega
  have wk : IntKind.i64.wrap ((k - 1 : Nat) : Int) = ((k - 1 : Nat) : Int) := by rw [IntKind.wrap_i64]; omega
  have kq : ((k - 1 : Nat) : Int) < (k : Int) := by omega
  have kz : (0 : Int) ≤ ((k - 1 : Nat) : Int) := by omega
  have hd : Below w2.heap.size w2 w2.drew := Below.drew (Below.refl _ _)
  have HR3 := Lib.hid (HR2.out.below hd HR2.out.lt)
  go_upto_region 4 with fail
  refine wp_region_noPanic (plain_any [0, 1, 2, 3, 4, 5, 6, 7, 8, 9] (Below w2.heap.size w2) mixed ?_)
  refine any_tk 0 ?_
  refine any_tk 1 ?_
  refine any_tk 2 ?_
  refine any_tk 3 ?_
  refine any_tk 4 ?_
  refine any_tk 5 ?_
  refine any_tk 6 ?_
  refine any_tk 7 ?_
  refine any_tk 8 ?_
  refine any_tk 9 ?_
  refine any_run1 (i := 10) (by kernel_rfl) (by rfl) (by kernel_rfl) ?_
  intro K hK
  go_wp2_with fail
  refine hK _ _ (fun hx => (Bool.false_ne_true (hx.symm.trans (by kernel_rfl))).elim) ?_
  clear hK K
  refine any_run1 (i := 11) (by kernel_rfl) (by rfl) (by kernel_rfl) ?_
  intro K hK
  go_wp2_with fail
  refine hK _ _ (fun hx => (Bool.false_ne_true (hx.symm.trans (by kernel_rfl))).elim) ?_
  clear hK K
  refine any_done (by kernel_rfl) (NoPanic.normal ?_)
  go_wp2_with fail
  refine bodyPost_ret (v := .tuple #[.agg #[.int .i64 (nthI F 0), .int .i64 (nthI F (k - 1))], .int .i64 0]) (by simp [results, Try.results57, go_sem, *]) rfl ?_
  rw [HFE.out, HT.out]
  exact ⟨rfl, ((Below.drew HB2.out).setCell (by show base ≤ n + 1; omega) _).setCell (by show base ≤ n + 1; omega) _⟩
end Go.Proofs.Ytgbegdjakadbbaa

set_option linter.all false
attribute [local go_sem] Go.Oper.semAt_some
namespace Go.Proofs.Ytgbegdjakadbbaa
open Go.RowKit Vp

set_option maxHeartbeats 8000000 in
set_option maxRecDepth 100000 in
theorem span1_any (f : Nat) (fr : Array Value) (p q : Nat) (x c least : Int) (W : World) (hb : BK W p #[.func (.func f) #[] fr] 70) (hq : BK W q #[.int .i64 least] 2)
    (ef : ∀ args w, (callFunc f args).run Try.prog w = .ok (.enter f args) w) (hF : ∀ W', Below W.heap.size W W' → Calls Try.prog f (#[.int .i64 x] ++ fr) W' fun e w' => e = .returned (.int .i64 c) ∧ Below W'.heap.size W' w') :
    Calls Try.prog 64 #[.int .i64 x, .pointer (some ⟨p, 0, none⟩), .pointer (some ⟨q, 0, none⟩)] W fun e w' => e = .returned (.bool (c == least)) ∧ Below W.heap.size W w' := by
  have HF := Lib.hid hF
  have c1 := hb.cell 0
  have l1 := hb.lt
  have c2 := hq.cell 0
  have l2 := hq.lt
  simp at c1 c2
  clear hF hb hq
  have hd : Below W.heap.size W W.drew := Below.drew (Below.refl _ _)
  go_enter Try.func64, Try.ntmps64
  go_upto_region 1 with fail
  refine wp_region_noPanic (plain_any [0, 1, 3, 4, 5] (Below W.heap.size W) mixed ?_)
  refine any_tk 0 ?_
  refine any_tk 1 ?_
  refine any_tk 3 ?_
  refine any_run1 (i := 2) (by kernel_rfl) (by rfl) (by kernel_rfl) ?_
  intro K hK
  go_wp2_with fail
  refine (HF.out _ hd).mono ?_
  rintro e w5 ⟨rfl, hb5⟩
  have hb6 : Below W.heap.size W w5 := hd.trans (hb5.mono hd.size)
  refine hK _ _ (fun _ => hb6) ?_
  clear hK K
  refine any_tk 4 ?_
  refine any_tk 5 ?_
  refine any_done (by kernel_rfl) (NoPanic.normal ?_)
  go_wp2_with fail
  go_ret
  exact ⟨rfl, hb6⟩
end Go.Proofs.Ytgbegdjakadbbaa

set_option linter.all false
attribute [local go_sem] Go.Oper.semAt_some
namespace Go.Proofs.Ytgbegdjakadbbaa
open Go.RowKit Vp

theorem bends1_any (q8 q9 : Nat) (A B : Row) (f : Int) (W : World) (hA : Rw W q8 A) (hB : Rw W q9 B) (hf : -200 ≤ f ∧ f ≤ 200) :
    Calls Try.prog 59 #[.int .i64 f, .pointer (some ⟨q8, 0, none⟩), .pointer (some ⟨q9, 0, none⟩)] W fun e w' => e = .returned (.bool (decide (A (f + 200).toNat < never) && decide (B (f + 200).toNat < never))) ∧ Below W.heap.size W w' := by
  obtain ⟨x, hx⟩ : ∃ x : Nat, (f + 200).toNat = x := ⟨_, rfl⟩
  rw [hx]
  have hx4 : x < 401 := by omega
  have wg : IntKind.i64.wrap (f + 200) = (x : Int) := by rw [IntKind.wrap_i64]; omega
  have x5 : (x : Int) < 401 := by omega
  have x6 : (0 : Int) ≤ (x : Int) := by omega
  have d8 := hA.cell hx4
  have d9 := hB.cell hx4
  have l8 := hA.lt
  have l9 := hB.lt
  clear hA hB hx hx4 hf
  have hnv : never = 1099511627776 := rfl
  rw [hnv]
  clear hnv
  obtain ⟨a, ha⟩ : ∃ a, A x = a := ⟨_, rfl⟩
  obtain ⟨b, hb⟩ : ∃ b, B x = b := ⟨_, rfl⟩
  rw [ha] at d8 ⊢
  rw [hb] at d9 ⊢
  clear ha hb
  by_cases h1 : a < 1099511627776
  · have e1 : decide (a < 1099511627776) = true := decide_eq_true h1
    rw [e1, Bool.true_and]
    obtain ⟨q, hq⟩ : ∃ q, decide (b < 1099511627776) = q := ⟨_, rfl⟩
    rw [hq]
    go_enter Try.func59, Try.ntmps59
    go_wp2_with fail
    go_ret
    exact ⟨rfl, Below.refl _ _⟩
  · have e1 : decide (a < 1099511627776) = false := decide_eq_false h1
    rw [e1, Bool.false_and]
    go_enter Try.func59, Try.ntmps59
    go_wp2_with fail
    go_ret
    exact ⟨rfl, Below.refl _ _⟩
end Go.Proofs.Ytgbegdjakadbbaa

set_option linter.all false
namespace Go.Proofs.Ytgbegdjakadbbaa
open Go.RowKit Vp

/-- What the walk from the end holds: the list's slice in a box. -/
structure BackMem (q B : Nat) (v : Value) (l : List Int) (W : World) : Prop where
  a : BK W q #[v] 25
  r : RI W B v l
  s : B ≤ W.heap.size
def backV (q : Nat) : Value := .func (.func 83) #[] #[.pointer (some ⟨q, 0, none⟩)]
theorem back_any (v : Value) (w : World) (hv : ∃ (b off cap : Nat) (A : Option Addr) (n : Nat), v = .slice A n cap) : Calls Try.prog 66 #[v] w fun e w' => e = .returned (backV w.heap.size) ∧ BK w' w.heap.size #[v] 25 ∧ w'.heap.size = w.heap.size + 1 ∧ Below w.heap.size w w' := by
  obtain ⟨n0, hn0⟩ : ∃ n, w.heap.size = n := ⟨_, rfl⟩
  have HC := Lib.hid (show Below n0 w (w.alloc (.cells #[v] 25)) by exact bel_of)
  have BA := Lib.hid (BK.new' w #[v] 25 n0 hn0)
  have HS := Lib.hid (show (w.alloc (.cells #[v] 25)).heap.size = n0 + 1 by simp [hn0])
  rw [hn0]
  obtain ⟨b, off, cap, A, n, rfl⟩ : ∃ (b off cap : Nat) (A : Option Addr) (n : Nat), v = .slice A n cap := hv
  go_enter Try.func66, Try.ntmps66
  go_wp2_with fail
  go_ret
  exact ⟨rfl, BA.out, HS.out, HC.out⟩
set_option maxHeartbeats 8000000 in
set_option maxRecDepth 100000 in
theorem back_iter (T : TypeId → Prop) (q B : Nat) (v : Value) (l : List Int) (hl : l.length ≤ 1000) :
    Iter Try.prog 83 #[.pointer (some ⟨q, 0, none⟩)] (fun i => #[.int .i64 ((l.length : Int) - 1 - (i : Int)), .int .i64 (nthI l (l.length - 1 - i))]) l.length (BackMem q B v l) T := by
  intro lp J Jx W hJ hJx hR hY h0
  obtain ⟨⟨ba0, hr0, hs0⟩, hz0⟩ := hR 0 W h0
  obtain ⟨A0, cap, bb0, off0, rfl, hA0, hc0⟩ := RI.cells hr0
  refine (callsIn_wide (n := 100)).1 ?_
  refine callsIn_of_wp Try.func83 rfl trivial ?_ rfl
  simp only [Try.ntmps83, List.size_toArray, List.length_cons, List.length_nil, Nat.reduceAdd, Nat.reduceSub, Array.replicate_succ, Array.replicate_zero, List.push_toArray, List.append_toArray, List.nil_append, List.cons_append]
  have la := ba0.lt
  have ca := ba0.cell 0
  simp at ca
  have wl : IntKind.i64.wrap ((l.length : Int) - 1) = (l.length : Int) - 1 := by rw [IntKind.wrap_i64]; omega
  clear hr0 hA0 hc0
  gi_wp2
  clear ba0 la ca wl
  gi_loopw [3] (fun i wr => ∃ k : Nat, k ≤ l.length ∧ i = .int .i64 ((l.length : Int) - 1 - (k : Int)) ∧ J k wr) (fun i wr => (intOf i + 1).toNat)
  case atStart => exact ⟨0, Nat.zero_le _, by simp, h0⟩
  case round =>
    obtain ⟨k, hk, rfl, hJk⟩ := hrel
    clear h0
    obtain ⟨⟨ba, hr, hs⟩, hz⟩ := hR _ wr hJk
    obtain ⟨A1, cap1, bb, off, hve, hA, hc⟩ := RI.cells hr
    injection hve with q1 q2 q3
    subst q1 q3
    clear q2
    have lb := ba.lt
    have cb := ba.cell 0
    simp at cb
    have HJ := Lib.hid hJk
    clear hJk
    by_cases hlt : k < l.length
    case neg =>
      have hke : k = l.length := by omega
      have HKE := Lib.hid hke
      have d1 : decide ((0 : Int) ≤ (l.length : Int) - 1 - (k : Int)) = false := decide_eq_false (by omega)
      have d2 : ¬ ((0 : Int) ≤ (l.length : Int) - 1 - (k : Int)) := by omega
      clear hke hA hc hr
      gi_wp2
      exact bodyPost_end (results_none rfl _ _ _) rfl ⟨⟨_, rfl⟩, .inl (HKE.out ▸ HJ.out)⟩
    obtain ⟨rfl, hbb⟩ := hA (by omega)
    have c1 := hc (l.length - 1 - k) (by omega)
    obtain ⟨fn, tmps, assign, body, hy, hRd⟩ := hY k _ 98 hlt HJ.out
    have HRD := Lib.hid hRd
    obtain ⟨z, hz1⟩ : ∃ z : Nat, l.length - 1 - k = z := ⟨_, rfl⟩
    have hz2 : (l.length : Int) - 1 - (k : Int) = (z : Int) := by omega
    have hzl : (z : Int) < (l.length : Int) := by omega
    have wk : IntKind.i64.wrap ((z : Int) - 1) = (z : Int) - 1 := by rw [IntKind.wrap_i64]; omega
    rw [hz1] at c1
    simp only [hz1, hz2] at hy
    rw [hz2]
    have HLT := Lib.hid (And.intro hlt (And.intro hz1 hz2))
    clear hRd ba hJ hJx hY hR hlt hz1 hz2 hr hc hA
    gi_wp2_with fail
    refine RoundIn.mono (RoundIn.any HRD.out) ?_
    clear HRD hy
    rintro e W3 (⟨rfl, hJ3, hk3⟩ | ⟨rfl, hJ3, hk3⟩)
    · have HX := Lib.hid hJ3
      clear hJ3 hk3
      gi_wp2_with fail
      go_roundw
      case rel => exact ⟨k + 1, by have := HLT.out; omega, by have := HLT.out.2.2; congr 1; omega, HX.out⟩
      case measure => first | (simp [intOf]; done) | (simp [intOf]; omega)
    · have HX := Lib.hid hJ3
      clear hJ3 hk3
      gi_wp2_with fail
      repeat (first | refine ⟨fun _ _ => trivial, ?_⟩ | refine ⟨trivial, ?_⟩)
      gi_wp2_with fail
      refine bodyPost_ret (results_none rfl _ _ _) rfl ?_
      exact ⟨⟨_, rfl⟩, .inr ⟨k, HLT.out.1, HX.out⟩⟩
end Go.Proofs.Ytgbegdjakadbbaa

set_option linter.all false
namespace Go.Proofs.Ytgbegdjakadbbaa
open Go.RowKit Vp

/-- The bound and the strain from station k on. -/
def bouK (m : Int) (l : List St) (ps : List Int) (k : Nat) : Int × Int := bou m (l.drop k) (ps.drop k)
theorem bouK_end (m : Int) (l : List St) (ps : List Int) : bouK m l ps l.length = (0, 0) := by
  unfold bouK; rw [List.drop_length]; rfl
theorem bouK_step {m : Int} {l : List St} {ps : List Int} (hlen : ps.length = l.length) {k : Nat} (hk : k < l.length) :
    bouK m l ps k = ((bouK m l ps (k + 1)).1 + gain (tub (nthS l k)) (nthI ps k) - over (nthS l k) ((bouK m l ps (k + 1)).2 + nthI ps k) * m, (bouK m l ps (k + 1)).2 + nthI ps k) := by
  unfold bouK
  have h1 : l.drop k = nthS l k :: l.drop (k + 1) := by rw [nthS_eq hk]; exact List.drop_eq_getElem_cons hk
  have h2 : ps.drop k = nthI ps k :: ps.drop (k + 1) := by
    have : nthI ps k = ps[k]'(by omega) := by unfold nthI; rw [List.getD_eq_getElem?_getD, List.getElem?_eq_getElem (by omega)]; rfl
    rw [this]; exact List.drop_eq_getElem_cons (by omega)
  rw [h1, h2]
  rfl
/-- No number of the walk is great. -/
theorem bouK_rng {m : Int} {l : List St} {ps : List Int} (ho : ∀ s ∈ l, okSB s = true) (hm : 0 ≤ m ∧ m ≤ 200) (hlen : ps.length = l.length) (hp : ∀ k, k < ps.length → -100 ≤ nthI ps k ∧ nthI ps k ≤ 100) (hn : l.length ≤ 20) :
    ∀ (d k : Nat), d + k = l.length → -(100 * d) ≤ (bouK m l ps k).2 ∧ (bouK m l ps k).2 ≤ 100 * d ∧ -(440000 * d) ≤ (bouK m l ps k).1 ∧ (bouK m l ps k).1 ≤ 440000 * d
  | 0, k, h => by
    obtain rfl : k = l.length := by omega
    rw [bouK_end]; omega
  | d + 1, k, h => by
    have hk : k < l.length := by omega
    obtain ⟨h1, h2, h3, h4⟩ := bouK_rng ho hm hlen hp hn d (k + 1) (by omega)
    have hpk := hp k (by omega)
    have ht := tub_rng (ho _ (nthS_mem hk))
    have hs := okSB_iff.1 (ho _ (nthS_mem hk))
    rw [bouK_step hlen hk]
    generalize bouK m l ps (k + 1) = Y at *
    generalize nthI ps k = p at *
    generalize tub (nthS l k) = t at *
    generalize nthS l k = s at *
    have hg : -20000 ≤ gain t p ∧ gain t p ≤ 20000 := by
      unfold gain
      split
      · constructor
        · have : p * t.lo ≥ p * (-200) := Int.mul_le_mul_of_nonneg_left (by omega) (by omega)
          omega
        · have : p * t.lo ≤ p * 200 := Int.mul_le_mul_of_nonneg_left (by omega) (by omega)
          omega
      · constructor
        · have : p * t.hi ≥ p * 200 := Int.mul_le_mul_of_nonpos_left (by omega) (by omega)
          omega
        · have : p * t.hi ≤ p * (-200) := Int.mul_le_mul_of_nonpos_left (by omega) (by omega)
          omega
    have hv0 : 0 ≤ over s (Y.2 + p) := by unfold over; omega
    have hv1 : over s (Y.2 + p) ≤ 2000 := by unfold over; omega
    have hv2 : 0 ≤ over s (Y.2 + p) * m := Int.mul_nonneg hv0 hm.1
    have hv3 : over s (Y.2 + p) * m ≤ 2000 * 200 := Int.mul_le_mul hv1 hm.2 hm.1 (by omega)
    refine ⟨?_, ?_, ?_, ?_⟩ <;> (push_cast; omega)
end Go.Proofs.Ytgbegdjakadbbaa
