/- Least: what blows cost at least with a number at a station. Best: a copy of best blows, and what they cost. Span: the least and the greatest number that best blows have at a station. Blocks of values by number: what a make gives, what a store turns. Pulls that prove blows, from number to number, plainly. -/
import Derived.Test.YtgbegdjakadbbaaP17
import Derived.Test.YtgbegdjakadbbaaP7
import Derived.Test.YtgbegdjakadbbaaP16
import Derived.Test.YtgbegdjakadbbaaP13
import Derived.Test.YtgbegdjakadbbaaP14
import Derived.Test.YtgbegdjakadbbaaP4
set_option linter.all false
set_option linter.unnecessarySimpa false
set_option linter.unusedSimpArgs false
set_option linter.unusedVariables false
set_option linter.unusedSectionVars false

set_option linter.all false
attribute [local go_sem] Go.Oper.semAt_some
namespace Go.Proofs.Ytgbegdjakadbbaa
open Go.RowKit Vp

theorem egWith : ∀ args w, (callFunc 82 args).run Try.prog w = .ok (.enter 82 args) w := enters_of Try.func82 (by kernel_rfl) rfl
/-- The error of a station and a number; the least cost. -/
def lstE (l : List St) (m s d : Int) : Int := if atE l m s ≠ 0 then atE l m s else if inB (-m) m d = true then (if witK m l s.toNat d < never then 0 else 18) else 3
def lstV (l : List St) (m s d : Int) : Int := if lstE l m s d = 0 then witK m l s.toNat d else 0
theorem lst_at {l : List St} {m s d : Int} (h : atE l m s ≠ 0) : lstE l m s d = atE l m s ∧ lstV l m s d = 0 := by
  have : lstE l m s d = atE l m s := by unfold lstE; rw [if_pos h]
  exact ⟨this, by unfold lstV; rw [if_neg (by rw [this]; exact h)]⟩
theorem lst_in {l : List St} {m s d : Int} (h : atE l m s = 0) (h2 : inB (-m) m d = false) : lstE l m s d = 3 ∧ lstV l m s d = 0 := by
  have : lstE l m s d = 3 := by unfold lstE; rw [if_neg (by simp [h]), if_neg (by simp [h2])]
  exact ⟨this, by unfold lstV; rw [if_neg (by rw [this]; decide)]⟩
theorem lst_no {l : List St} {m s d : Int} (h : atE l m s = 0) (h2 : inB (-m) m d = true) (h3 : ¬ witK m l s.toNat d < never) : lstE l m s d = 18 ∧ lstV l m s d = 0 := by
  have : lstE l m s d = 18 := by unfold lstE; rw [if_neg (by simp [h]), if_pos h2, if_neg h3]
  exact ⟨this, by unfold lstV; rw [if_neg (by rw [this]; decide)]⟩
theorem lst_ok {l : List St} {m s d : Int} (h : atE l m s = 0) (h2 : inB (-m) m d = true) (h3 : witK m l s.toNat d < never) : lstE l m s d = 0 ∧ lstV l m s d = witK m l s.toNat d := by
  have : lstE l m s d = 0 := by unfold lstE; rw [if_neg (by simp [h]), if_pos h2, if_pos h3]
  exact ⟨this, by unfold lstV; rw [if_pos this]⟩
set_option maxHeartbeats 8000000 in
set_option maxRecDepth 100000 in
theorem Least_any (l : List St) (v : Value) (m s d : Int) (w : World) (hl : l.length ≤ 1000) (hT : RT w w.heap.size v l) :
    Calls Try.prog 32 #[bV v m, .int .i64 s, .int .i64 d] w fun e w' => e = .returned (.tuple #[.int .i64 (lstV l m s d), .int .i64 (lstE l m s d)]) ∧ Below w.heap.size w w' := by
  unfold bV
  obtain ⟨b, off, cap, A, rfl, -, hcap⟩ := hT.slice
  obtain ⟨n0, hn0⟩ : ∃ n, w.heap.size = n := ⟨_, rfl⟩
  have hC : Below n0 w w := Below.refl _ _
  go_enter Try.func32, Try.ntmps32
  go_upto_region 1 with fail
  have hqbx : n0 ≤ n0 := by have := hC.size; omega
  have bx : BK (w.alloc (.cells #[.slice A l.length cap, .int .i64 m] 24)) (n0) #[.slice A l.length cap, .int .i64 m] 24 := BK.new' _ _ _ (n0) hn0
  have hsbx : (w.alloc (.cells #[.slice A l.length cap, .int .i64 m] 24)).heap.size = n0 + 1 := by simp [hn0]
  replace hC : Below n0 w (w.alloc (.cells #[.slice A l.length cap, .int .i64 m] 24)) := Below.alloc hC (by have := hC.size; omega) _
  replace hT := (RS.below hT (w' := (w.alloc (.cells #[.slice A l.length cap, .int .i64 m] 24))) (Below.alloc (Below.refl _ _) (Nat.le_refl _) _)).more (B' := (w.alloc (.cells #[.slice A l.length cap, .int .i64 m] 24)).heap.size) (by simp)
  generalize (w.alloc (.cells #[.slice A l.length cap, .int .i64 m] 24)) = Wbx at *
  have lbx := bx.lt
  have bxc0 := bx.cell 0
  have bxc1 := bx.cell 1
  simp at bxc0 bxc1
  go_wp2_with fail
  clear lbx bxc0 bxc1
  have hn2 := hC.size
  clear hsbx
  refine (at_any l _ m s _ hl hT).mono ?_
  rintro e w1 ⟨p, rfl, hop, hb⟩
  replace hC : Below n0 w w1 := hC.trans (hb.mono (by have := hC.size; omega))
  replace hT := (RS.below hT hb).more hb.size
  replace bx := bx.below hb bx.lt
  clear hb
  obtain ⟨e, he⟩ : ∃ e, atE l m s = e := ⟨_, rfl⟩
  rw [he] at hop ⊢
  by_cases h0 : e = 0
  case neg =>
    have HE := Lib.hid (lst_at (d := d) (by rw [he]; exact h0))
    have HE2 := Lib.hid he
    have b1 : (e != 0) = true := by simp [h0]
    clear he h0 hop
    go_wp2_with fail
    exact bodyPost_ret (v := .tuple #[.int .i64 0, .int .i64 e]) (by simp [results, Try.results32, go_sem]) rfl ⟨by rw [HE.out.1, HE.out.2, HE2.out], by first | exact hC | (rw [hn0]; exact hC) | (with_reducible rw [hn0]; exact bel_of) | exact bel_of⟩
  subst h0
  obtain ⟨gb, rfl, hgb, hBn⟩ := hop rfl
  obtain ⟨hOK, k, hk, hlt⟩ := atE_zero he
  have HAT := Lib.hid he
  have HOK := Lib.hid hOK
  have hm0 := hOK.lo
  have hm1 := hOK.hi
  have wn : IntKind.i64.wrap (-m) = -m := by rw [IntKind.wrap_i64]; omega
  clear he hop hOK
  have lbx := bx.lt
  have bxc0 := bx.cell 0
  have bxc1 := bx.cell 1
  simp at bxc0 bxc1
  go_wp2_with fail
  clear lbx bxc0 bxc1
  clear wn
  obtain ⟨n1, hn1⟩ : ∃ n, w1.heap.size = n := ⟨_, rfl⟩
  refine (within_1 _ _ _ _ _ rfl).mono ?_
  rintro e w5 ⟨rfl, rfl⟩
  have hb : Below w1.heap.size w1 (((w1.alloc (.cells #[.int .i64 d] 2)).alloc (.cells #[.int .i64 (-m)] 2)).alloc (.cells #[.int .i64 m] 2)) := by exact bel_of
  replace hC : Below n0 w (((w1.alloc (.cells #[.int .i64 d] 2)).alloc (.cells #[.int .i64 (-m)] 2)).alloc (.cells #[.int .i64 m] 2)) := hC.trans (hb.mono (by have := hC.size; omega))
  replace hT := (RS.below hT hb).more hb.size
  replace bx := bx.below hb bx.lt
  replace hBn := (Bn.below hBn hb).more hb.size
  clear hb
  generalize ((w1.alloc (.cells #[.int .i64 d] 2)).alloc (.cells #[.int .i64 (-m)] 2)).alloc (.cells #[.int .i64 m] 2) = w5 at *
  cases hq : inB (-m) m d with
  | false =>
    have HE := Lib.hid (lst_in HAT.out hq)
    clear hq
    go_wp2_with fail
    exact bodyPost_ret (v := .tuple #[.int .i64 0, .int .i64 3]) (by simp [results, Try.results32, go_sem]) rfl ⟨by rw [HE.out.1, HE.out.2], by first | exact hC | (rw [hn0]; exact hC) | (with_reducible rw [hn0]; exact bel_of) | exact bel_of⟩
  | true =>
    have hdr := (inB_iff _ _ _).1 hq
    have HQ := Lib.hid hq
    clear hq hgb
    subst hk
    go_wp2_with fail
    have hle := hC.size
    refine (with_any gb l m k _ hBn HOK.out.all ⟨hm0, hm1⟩ HOK.out.few hlt).mono ?_
    rintro e w6 ⟨pt, pa, pb, pc, ps, rfl, hM, hL, hb6⟩
    have hC6 := hC.trans (hb6.mono (by omega))
    have HM := Lib.hid (And.intro hM hL)
    clear hM hL hb6 hBn hT bx hC hn1
    have ew := egWith
    unfold withV
    go_wp2_with fail
    refine (with1_any pt pa pb pc ps gb w5.heap.size l m k d w6 HM.out.1 HM.out.2 HOK.out.all ⟨hm0, hm1⟩ HOK.out.few hlt hdr).mono ?_
    rintro e w7 ⟨rfl, hb7⟩
    have HC7 := Lib.hid (hC6.trans (hb7.mono (by have := hC6.size; omega)))
    clear hb7 hC6 HM ew
    have hwk : witK m l ((k : Nat) : Int).toNat d = witK m l k d := by rw [Int.toNat_natCast]
    have HWK := Lib.hid hwk
    clear hwk
    obtain ⟨c, hc⟩ : ∃ c, witK m l k d = c := ⟨_, rfl⟩
    rw [hc]
    have hnv : never = 1099511627776 := rfl
    by_cases hcn : c < never
    case neg =>
      have HE := Lib.hid (lst_no HAT.out HQ.out (by rw [HWK.out, hc]; exact hcn))
      have d1 : decide (1099511627776 ≤ c) = true := decide_eq_true (by rw [hnv] at hcn; omega)
      clear hnv hc hcn
      go_wp2_with fail
      exact bodyPost_ret (v := .tuple #[.int .i64 0, .int .i64 18]) (by simp [results, Try.results32, go_sem]) rfl ⟨by rw [HE.out.1, HE.out.2], by rw [hn0]; exact HC7.out⟩
    have HE := Lib.hid (lst_ok HAT.out HQ.out (by rw [HWK.out, hc]; exact hcn))
    have HE2 := Lib.hid (HWK.out.trans hc)
    have d1 : decide (1099511627776 ≤ c) = false := decide_eq_false (by rw [hnv] at hcn; omega)
    clear hnv hc hcn
    go_wp2_with fail
    exact bodyPost_ret (v := .tuple #[.int .i64 c, .int .i64 0]) (by simp [results, Try.results32, go_sem]) rfl ⟨by rw [HE.out.1, HE.out.2, HE2.out], by rw [hn0]; exact HC7.out⟩
end Go.Proofs.Ytgbegdjakadbbaa

set_option linter.all false
attribute [local go_sem] Go.Oper.semAt_some
namespace Go.Proofs.Ytgbegdjakadbbaa
open Go.RowKit Vp

/-- A row of numbers that is made, and filled by a copy. -/
theorem make_i64 (n : Nat) (hn : n ≤ 2000) (W : World) :
    (Instr.makeSlice 25 (.int .i64 (n : Int)) (.int .i64 (n : Int))).run Try.prog W = .ok (.slice (some ⟨W.heap.size, 0, none⟩) n n) (W.alloc (.cells (madeCells #[.int .i64 0] n) 2)) := by
  obtain ⟨i, hi, hz, hs, hb⟩ := info_parts i64_info
  have hr := run_make (P := Try.prog) W 25 2 i _ i64_slice hi hz .i64 .i64 n n (by omega) (Int.le_refl _) (by rw [hb]; omega) (by omega)
  simp only [Int.toNat_natCast, hs, Nat.mul_one] at hr
  exact hr
theorem copy_i64 {W : World} {g n c c' : Nat} {A : Option Addr} {cur : Array Value} {l : List Int} (ty : TypeId) (hg : BK W g cur 2) (hc : cur.size = n) (hl : l.length = n)
    (hr : RI W W.heap.size (.slice A n c') l) :
    ∃ w', (Builtin.copy_ #[25, 25] ty #[.slice (some ⟨g, 0, none⟩) n c, .slice A n c']).run Try.prog W = .ok (goInt n) w' ∧ BK w' g (ofI l).toArray 2 ∧ W.heap.size ≤ w'.heap.size ∧ ∀ B w, B ≤ g → Below B w W → Below B w w' := by
  obtain ⟨i, hi, hz, hs, hb⟩ := info_parts i64_info
  obtain ⟨A', cap, b, off, hv, hl2, hA, hcl⟩ := hr
  injection hv with q1 q2 q3
  subst q1 q3
  rcases Nat.eq_zero_or_pos n with h0 | h0
  · subst h0
    have hn : l = [] := List.eq_nil_of_length_eq_zero hl
    subst hn
    refine ⟨W, ?_, ?_, Nat.le_refl _, fun _ _ _ h => h⟩
    · cases A <;> simp [Builtin.copy_, run_underlying i64_slice, Builtin.lenOf, Builtin.firstCells, sizeOf, typeInfo, hi, hs, loadCells, loadCellsFrom, storeCells, goInt]
    · have : cur = #[] := by simpa using hc
      subst this
      exact hg
  · obtain ⟨rfl, hbb⟩ := hA (by omega)
    have hlen : (ofI l).length = n := by rw [ofI_length, hl]
    have hld := run_loadCells_list (P := Try.prog) W ⟨b, off, none⟩ (ofI l) (fun j u hj => by
      have hjl : j < (ofI l).length := (List.getElem?_eq_some_iff.1 hj).1
      rw [addr_add', hcl j hjl, hj])
    have hst := run_storeCells_at Try.prog g 0 2 (ofI l) 0 cur W hg (by omega) (by
      intro u hu
      obtain ⟨x, _, rfl⟩ := List.mem_map.1 hu
      rfl)
    have hrow : (cur.toList.take (0 + 0) ++ ofI l ++ cur.toList.drop (0 + 0 + (ofI l).length)).toArray = (ofI l).toArray := by
      rw [List.drop_of_length_le (by simp; omega)]; simp
    rw [hrow] at hst
    refine ⟨W.setRow g (ofI l).toArray, ?_, ?_, by simp [World.setRow], ?_⟩
    · simp [Builtin.copy_, run_underlying i64_slice, Builtin.lenOf, Builtin.firstCells, sizeOf, typeInfo, hi, hs, ← hlen, hld, hst]
    · unfold BK at hg ⊢
      simp [World.setRow, Array.getElem?_modify, hg]
    · intro B w hB hbw
      refine hbw.trans ⟨rfl, rfl, rfl, by simp [World.setRow], fun k hk => ?_⟩
      simp only [World.setRow, Array.getElem?_modify]
      rw [if_neg (by omega)]
theorem OwnI.of_bk {W : World} {base g : Nat} {l : List Int} (hg : BK W g (ofI l).toArray 2) (hb : base ≤ g) (hl : l.length ≤ 2000) : OwnI 2 W base (.slice (some ⟨g, 0, none⟩) l.length l.length) l :=
  ⟨by simp [ofI], .inr ⟨g, l.length, _, rfl, hb, hg, Nat.le_refl _, by unfold maxLen; omega, by simp [ofI], by show (ofI l).toArray.toList.take (l.length * 1) = ofI l; rw [List.take_of_length_le (by simp [ofI])]⟩⟩


/-- Best blows of any blade, and what Best says else. -/
def bstX (l : List St) (m : Int) : List Int := if blaE l m = 0 ∧ tgo m l 0 < never then grd m l 0 else []
def bstE (l : List St) (m : Int) : Int × Int := if blaE l m = 0 then (if tgo m l 0 < never then (tgo m l 0, 0) else (0, 18)) else (0, blaE l m)
set_option maxHeartbeats 8000000 in
set_option maxRecDepth 100000 in
theorem Best_any (l : List St) (v : Value) (m : Int) (w : World) (hl : l.length ≤ 1000) (hT : RT w w.heap.size v l) :
    Calls Try.prog 26 #[bV v m] w fun e w' => ∃ u, e = .returned (.tuple #[u, .int .i64 (bstE l m).1, .int .i64 (bstE l m).2]) ∧ OwnI 2 w' w.heap.size u (bstX l m) ∧ Below w.heap.size w w' := by
  unfold bV
  obtain ⟨b, off, cap, A, rfl, -, hcap⟩ := hT.slice
  obtain ⟨n0, hn0⟩ : ∃ n, w.heap.size = n := ⟨_, rfl⟩
  have hC : Below n0 w w := Below.refl _ _
  go_enter Try.func26, Try.ntmps26
  go_upto_region 1 with fail
  have hqbx : n0 ≤ n0 := by have := hC.size; omega
  have bx : BK (w.alloc (.cells #[.slice A l.length cap, .int .i64 m] 24)) (n0) #[.slice A l.length cap, .int .i64 m] 24 := BK.new' _ _ _ (n0) hn0
  have hsbx : (w.alloc (.cells #[.slice A l.length cap, .int .i64 m] 24)).heap.size = n0 + 1 := by simp [hn0]
  replace hC : Below n0 w (w.alloc (.cells #[.slice A l.length cap, .int .i64 m] 24)) := Below.alloc hC (by have := hC.size; omega) _
  replace hT := (RS.below hT (w' := (w.alloc (.cells #[.slice A l.length cap, .int .i64 m] 24))) (Below.alloc (Below.refl _ _) (Nat.le_refl _) _)).more (B' := (w.alloc (.cells #[.slice A l.length cap, .int .i64 m] 24)).heap.size) (by simp)
  generalize (w.alloc (.cells #[.slice A l.length cap, .int .i64 m] 24)) = Wbx at *
  have lbx := bx.lt
  have bxc0 := bx.cell 0
  have bxc1 := bx.cell 1
  simp at bxc0 bxc1
  go_wp2_with fail
  clear lbx bxc0 bxc1
  have hn2 := hC.size
  clear hsbx
  refine (open_any l _ m _ hl hT).mono ?_
  rintro e w1 ⟨p, rfl, hop, hb⟩
  replace hC : Below n0 w w1 := hC.trans (hb.mono (by have := hC.size; omega))
  clear hb hT bx
  obtain ⟨e, he⟩ : ∃ e, blaE l m = e := ⟨_, rfl⟩
  rw [he] at hop ⊢
  have HC := Lib.hid hC
  clear hC
  by_cases h0 : e = 0
  case neg =>
    have HE := Lib.hid (show bstE l m = (0, e) ∧ bstX l m = [] from ⟨by unfold bstE; rw [he, if_neg h0], by unfold bstX; rw [he, if_neg (by simp [h0])]⟩)
    have b1 : (e != 0) = true := by simp [h0]
    clear he h0 hop
    go_wp2_with fail
    refine bodyPost_ret (v := .tuple #[.slice none 0 0, .int .i64 0, .int .i64 e]) (by simp [results, Try.results26, go_sem]) rfl ?_
    rw [HE.out.1, HE.out.2, hn0]
    exact ⟨_, rfl, OwnI.nil _ _ _, HC.out⟩
  subst h0
  obtain ⟨gb, rfl, hgb, hBn⟩ := hop rfl
  obtain ⟨-, h20, hall, hm0, hm1⟩ := blaE_ok.1 he
  have HBE := Lib.hid (best_any gb l m w1 hBn hall ⟨hm0, hm1⟩ h20)
  have hgl := grd_length m l 0
  clear hop hBn hall hm0 hm1
  go_wp2_with fail
  refine HBE.out.mono ?_
  rintro e w2 ⟨v2, rfl, hown, hb2⟩
  have HC2 := Lib.hid (HC.out.trans (hb2.mono (hn0 ▸ HC.out.size)))
  have HO := Lib.hid hown
  have hw12 := hb2.size
  clear HBE hown hb2
  obtain ⟨c, hc⟩ : ∃ c, tgo m l 0 = c := ⟨_, rfl⟩
  rw [hc]
  have hnv : never = 1099511627776 := rfl
  by_cases hlt : c < never
  case neg =>
    have HE := Lib.hid (show bstE l m = (0, 18) ∧ bstX l m = [] from ⟨by unfold bstE; rw [if_pos he, hc, if_neg hlt], by unfold bstX; rw [hc, if_neg (fun h => hlt h.2)]⟩)
    have d1 : decide (1099511627776 ≤ c) = true := decide_eq_true (by rw [hnv] at hlt; omega)
    clear hnv hc he hlt hgl
    go_wp2_with fail
    refine bodyPost_ret (v := .tuple #[.slice none 0 0, .int .i64 0, .int .i64 18]) (by simp [results, Try.results26, go_sem]) rfl ?_
    rw [HE.out.1, HE.out.2, hn0]
    exact ⟨_, rfl, OwnI.nil _ _ _, HC2.out⟩
  have HE := Lib.hid (show bstE l m = (c, 0) ∧ bstX l m = grd m l 0 from ⟨by unfold bstE; rw [if_pos he, hc, if_pos hlt], by unfold bstX; rw [hc, if_pos ⟨he, hlt⟩]⟩)
  have hbl : bestL m l = grd m l 0 := by unfold bestL; rw [hc, if_pos hlt]
  have d1 : decide (1099511627776 ≤ c) = false := decide_eq_false (by rw [hnv] at hlt; omega)
  have hv := HO.out.ri
  rw [hbl] at hv
  clear hnv hc he hlt hbl HO
  generalize grd m l 0 = D at *
  obtain ⟨Av, cv, rfl⟩ : ∃ A c, v2 = .slice A D.length c := by
    obtain ⟨A, c, b, o, hv, _⟩ := hv
    exact ⟨A, c, hv⟩
  obtain ⟨n, hn⟩ : ∃ n, D.length = n := ⟨_, rfl⟩
  have HN := Lib.hid hn
  have hn5 : n ≤ 20 := by rw [← hn, hgl]; exact h20
  rw [hn] at hv ⊢
  clear hn hgl
  obtain ⟨gn, hgn⟩ : ∃ g, w2.heap.size = g := ⟨_, rfl⟩
  have hmk := make_i64 n (by omega) w2
  have hbk : BK (w2.alloc (.cells (madeCells #[.int .i64 0] n) 2)) gn (madeCells #[.int .i64 0] n) 2 := BK.new' _ _ _ gn hgn
  have hb4 : Below w2.heap.size w2 (w2.alloc (.cells (madeCells #[.int .i64 0] n) 2)) := Below.alloc (Below.refl _ _) (Nat.le_refl _) _
  have hv4 := RS.more (RS.below hv hb4) hb4.size
  have hbase : n0 ≤ gn := by have := HC.out.size; omega
  rw [hgn] at hmk hb4
  clear hv
  generalize w2.alloc (.cells (madeCells #[.int .i64 0] n) 2) = W4 at *
  obtain ⟨W5, hcp, hbk5, hs5, hbl5⟩ := copy_i64 (c := n) (W := W4) 3 hbk (size_madeCells _ _) HN.out hv4
  have hb5 := hbl5 _ w2 (Nat.le_refl _) hb4
  have HC5 := Lib.hid (HC2.out.trans (hb5.mono (by omega)))
  have hou := OwnI.of_bk hbk5 hbase (by have := HN.out; omega)
  rw [HN.out] at hou
  have HOU := Lib.hid hou
  clear hbk hb4 hv4 hs5 hbl5 hb5 hgn hbk5 hou
  go_wp2_with fail
  refine bodyPost_ret (v := .tuple #[.slice (some ⟨gn, 0, none⟩) n n, .int .i64 c, .int .i64 0]) (by simp [results, Try.results26, go_sem]) rfl ?_
  rw [HE.out.1, HE.out.2, hn0]
  exact ⟨_, rfl, HOU.out, HC5.out⟩
end Go.Proofs.Ytgbegdjakadbbaa

set_option linter.all false
attribute [local go_sem] Go.Oper.semAt_some
namespace Go.Proofs.Ytgbegdjakadbbaa
open Go.RowKit Vp

/-- The numbers of best blows at a station. -/
def spnF (l : List St) (m : Int) (k : Nat) : List Int := (lst (-m) (cnt (-m) m)).filter fun d => witK m l k d == tgo m l 0
def spnL (l : List St) (m s : Int) : Int × Int × Int := if atE l m s = 0 then (if tgo m l 0 < never then toldL (spnF l m s.toNat) else (0, 0, 18)) else (0, 0, atE l m s)
set_option maxHeartbeats 8000000 in
set_option maxRecDepth 100000 in
theorem Span_any (l : List St) (v : Value) (m s : Int) (w : World) (hl : l.length ≤ 1000) (hT : RT w w.heap.size v l) :
    Calls Try.prog 30 #[bV v m, .int .i64 s] w fun e w' => e = .returned (.tuple #[.agg #[.int .i64 (spnL l m s).1, .int .i64 (spnL l m s).2.1], .int .i64 (spnL l m s).2.2]) ∧ Below w.heap.size w w' := by
  unfold bV
  obtain ⟨b, off, cap, A, rfl, -, hcap⟩ := hT.slice
  obtain ⟨n0, hn0⟩ : ∃ n, w.heap.size = n := ⟨_, rfl⟩
  have hC : Below n0 w w := Below.refl _ _
  go_enter Try.func30, Try.ntmps30
  go_upto_region 1 with fail
  have hqbx : n0 ≤ n0 := by have := hC.size; omega
  have bx : BK (w.alloc (.cells #[.slice A l.length cap, .int .i64 m] 24)) (n0) #[.slice A l.length cap, .int .i64 m] 24 := BK.new' _ _ _ (n0) hn0
  have hsbx : (w.alloc (.cells #[.slice A l.length cap, .int .i64 m] 24)).heap.size = n0 + 1 := by simp [hn0]
  replace hC : Below n0 w (w.alloc (.cells #[.slice A l.length cap, .int .i64 m] 24)) := Below.alloc hC (by have := hC.size; omega) _
  replace hT := (RS.below hT (w' := (w.alloc (.cells #[.slice A l.length cap, .int .i64 m] 24))) (Below.alloc (Below.refl _ _) (Nat.le_refl _) _)).more (B' := (w.alloc (.cells #[.slice A l.length cap, .int .i64 m] 24)).heap.size) (by simp)
  generalize (w.alloc (.cells #[.slice A l.length cap, .int .i64 m] 24)) = Wbx at *
  have rs : BK (Wbx.alloc (.cells #[.int .i64 0, .int .i64 0] 42)) (n0 + 1) #[.int .i64 0, .int .i64 0] 42 := BK.new' _ _ _ (n0 + 1) hsbx
  have hsrs : (Wbx.alloc (.cells #[.int .i64 0, .int .i64 0] 42)).heap.size = n0 + 1 + 1 := by simp [hsbx]
  replace hC : Below n0 w (Wbx.alloc (.cells #[.int .i64 0, .int .i64 0] 42)) := Below.alloc hC (by have := hC.size; omega) _
  replace hT := (RS.below hT (w' := (Wbx.alloc (.cells #[.int .i64 0, .int .i64 0] 42))) (Below.alloc (Below.refl _ _) (Nat.le_refl _) _)).more (B' := (Wbx.alloc (.cells #[.int .i64 0, .int .i64 0] 42)).heap.size) (by simp)
  replace bx := bx.alloc (.cells #[.int .i64 0, .int .i64 0] 42)
  generalize (Wbx.alloc (.cells #[.int .i64 0, .int .i64 0] 42)) = Wrs at *
  have lbx := bx.lt
  have bxc0 := bx.cell 0
  have bxc1 := bx.cell 1
  simp at bxc0 bxc1
  go_wp2_with fail
  clear lbx bxc0 bxc1
  have hn2 := hC.size
  clear hsbx hsrs
  refine (at_any l _ m s _ hl hT).mono ?_
  rintro e w1 ⟨p, rfl, hop, hb⟩
  replace hC : Below n0 w w1 := hC.trans (hb.mono (by have := hC.size; omega))
  replace bx := bx.below hb bx.lt
  replace rs := rs.below hb rs.lt
  clear hb hT
  obtain ⟨e, he⟩ : ∃ e, atE l m s = e := ⟨_, rfl⟩
  rw [he] at hop ⊢
  have lR := rs.lt
  have cR0 := rs.cell 0
  have cR1 := rs.cell 1
  have fR0 := rs.frozen 0
  have fR1 := rs.frozen 1
  simp at cR0 cR1
  by_cases h0 : e = 0
  case neg =>
    have HE := Lib.hid (show spnL l m s = (0, 0, e) by unfold spnL; rw [he, if_neg h0])
    have b1 : (e != 0) = true := by simp [h0]
    clear he h0 hop
    go_wp2_with fail
    refine bodyPost_ret (v := .tuple #[.agg #[.int .i64 0, .int .i64 0], .int .i64 e]) (by simp [results, Try.results30, go_sem, *]) rfl ?_
    rw [HE.out]
    exact ⟨rfl, by rw [hn0]; exact (hC.setCell (by show n0 ≤ n0 + 1; omega) _).setCell (by show n0 ≤ n0 + 1; omega) _⟩
  subst h0
  obtain ⟨gb, rfl, hgb, hBn⟩ := hop rfl
  obtain ⟨hbl, hs0, hs1⟩ := atE_zero he
  obtain ⟨-, h20, hall, hm0, hm1⟩ := hbl
  obtain ⟨k, rfl⟩ : ∃ k : Nat, s = (k : Int) := ⟨s.toNat, by omega⟩
  obtain ⟨-, hs0'⟩ := atE_zero he
  have hkl : k < l.length := by omega
  have HALL := Lib.hid hall
  have HBE := Lib.hid (best_any gb l m w1 hBn hall ⟨hm0, hm1⟩ h20)
  have HBN := Lib.hid hBn
  have HRS := Lib.hid rs
  have HC := Lib.hid hC
  have HAT := Lib.hid he
  clear rs hC hop he hs0 hs1 hs0' hBn bx hall lR cR0 cR1 fR0 fR1 hgb
  go_wp2_with fail
  refine HBE.out.mono ?_
  rintro e w2 ⟨v2, rfl, -, hb2⟩
  have HB2 := Lib.hid hb2
  clear HBE hb2
  obtain ⟨c, hc⟩ : ∃ c, tgo m l 0 = c := ⟨_, rfl⟩
  rw [hc]
  have hnv : never = 1099511627776 := rfl
  go_upto_region 5 with fail
  obtain ⟨q, hq⟩ : ∃ q, w2.heap.size = q := ⟨_, rfl⟩
  rw [hq]
  have bc := BK.new' w2 #[.int .i64 c] 2 q hq
  have hb3 : Below q w2 (w2.alloc (.cells #[.int .i64 c] 2)) := by rw [← hq]; exact bel_of
  have hs3 : (w2.alloc (.cells #[.int .i64 c] 2)).heap.size = q + 1 := by simp [hq]
  have hsz1 := HB2.out.size
  have hb13 : Below w1.heap.size w1 (w2.alloc (.cells #[.int .i64 c] 2)) := HB2.out.trans (hb3.mono (by omega))
  generalize w2.alloc (.cells #[.int .i64 c] 2) = W3 at *
  have HRS3 := Lib.hid (HRS.out.below hb13 HRS.out.lt)
  have HC3 := Lib.hid (HC.out.trans (hb13.mono (hn0 ▸ HC.out.size)))
  have HBN3 := Lib.hid ((HBN.out.below hb13).more hb13.size)
  have c9 := bc.cell 0
  have l9 := bc.lt
  simp at c9
  have HBC := Lib.hid bc
  have HS3 := Lib.hid hs3
  clear bc hb3 hb13 hs3 HRS HC HBN HB2 hsz1
  have rs := HRS3.out
  have lR := rs.lt
  have cR0 := rs.cell 0
  have cR1 := rs.cell 1
  have fR0 := rs.frozen 0
  have fR1 := rs.frozen 1
  simp at cR0 cR1
  clear rs
  by_cases hlt : c < never
  case neg =>
    have HE := Lib.hid (show spnL l m k = (0, 0, 18) by unfold spnL; rw [HAT.out, if_pos rfl, hc, if_neg hlt])
    have d1 : decide (1099511627776 ≤ c) = true := decide_eq_true (by rw [hnv] at hlt; omega)
    clear hnv hc hlt
    go_wp2_with fail
    refine bodyPost_ret (v := .tuple #[.agg #[.int .i64 0, .int .i64 0], .int .i64 18]) (by simp [results, Try.results30, go_sem, *]) rfl ?_
    rw [HE.out]
    exact ⟨rfl, by rw [hn0]; exact (HC3.out.setCell (by show n0 ≤ n0 + 1; omega) _).setCell (by show n0 ≤ n0 + 1; omega) _⟩
  have HE := Lib.hid (show spnL l m k = toldL ((lst (-m) (cnt (-m) m)).filter fun d => witK m l k d == c) by unfold spnL spnF; rw [HAT.out, if_pos rfl, hc, if_pos hlt, Int.toNat_natCast])
  have d1 : decide (1099511627776 ≤ c) = false := decide_eq_false (by rw [hnv] at hlt; omega)
  clear hnv hc hlt lR cR0 cR1 fR0 fR1
  go_wp2_with fail
  refine (with_any gb l m k _ HBN3.out HALL.out ⟨hm0, hm1⟩ h20 hkl).mono ?_
  rintro e w4 ⟨pt, pa, pb, pc, ps, rfl, hM, hL, hb4⟩
  have HM := Lib.hid (And.intro hM hL)
  have HRS4 := Lib.hid (HRS3.out.below hb4 HRS3.out.lt)
  have HC4 := Lib.hid (HC3.out.trans (hb4.mono (hn0 ▸ HC3.out.size)))
  have HBN4 := Lib.hid ((HBN3.out.below hb4).more hb4.size)
  have HBC4 := Lib.hid (HBC.out.below hb4 HBC.out.lt)
  clear hM hL hb4 HRS3 HC3 HBN3 HBC c9 l9
  unfold withV
  go_upto_region 8 with fail
  obtain ⟨p, hp⟩ : ∃ p, w4.heap.size = p := ⟨_, rfl⟩
  try rw [hp]
  have bf := BK.new' w4 #[.func (.func 82) #[] #[.pointer (some ⟨pt, 0, none⟩), .pointer (some ⟨pa, 0, none⟩), .pointer (some ⟨pb, 0, none⟩), .pointer (some ⟨pc, 0, none⟩), .pointer (some ⟨ps, 0, none⟩)]] 70 p hp
  have hb5 : Below w4.heap.size w4 (w4.alloc (.cells #[.func (.func 82) #[] #[.pointer (some ⟨pt, 0, none⟩), .pointer (some ⟨pa, 0, none⟩), .pointer (some ⟨pb, 0, none⟩), .pointer (some ⟨pc, 0, none⟩), .pointer (some ⟨ps, 0, none⟩)]] 70)) := Below.alloc (Below.refl _ _) (Nat.le_refl _) _
  generalize (w4.alloc (.cells #[.func (.func 82) #[] #[.pointer (some ⟨pt, 0, none⟩), .pointer (some ⟨pa, 0, none⟩), .pointer (some ⟨pb, 0, none⟩), .pointer (some ⟨pc, 0, none⟩), .pointer (some ⟨ps, 0, none⟩)]] 70)) = W5 at *
  have HRS5 := Lib.hid (HRS4.out.below hb5 HRS4.out.lt)
  have HC5 := Lib.hid (HC4.out.trans (hb5.mono (hn0 ▸ HC4.out.size)))
  have HBN5 := Lib.hid ((HBN4.out.below hb5).more hb5.size)
  have HBC5 := Lib.hid (HBC4.out.below hb5 HBC4.out.lt)
  have HBF := Lib.hid bf
  have HB5 := Lib.hid hb5
  clear bf hb5 HRS4 HC4 HBN4 HBC4
  go_wp2_with fail
  refine (blows_any gb l m W5 HBN5.out ⟨hm0, hm1⟩).mono ?_
  rintro e w6 ⟨v6, rfl, hown, hb6⟩
  have HOW := Lib.hid hown
  have HB6 := Lib.hid hb6
  clear hown hb6
  go_wp2_with fail
  have hlen : (lst (-m) (cnt (-m) m)).length = cnt (-m) m := lst_length _ _
  have hcl : cnt (-m) m ≤ 401 ∧ 0 < cnt (-m) m := by unfold cnt; omega
  refine (told_any 64 (.pointer (some ⟨p, 0, none⟩)) (.pointer (some ⟨q, 0, none⟩)) (fun d => witK m l k d == c) (lst (-m) (cnt (-m) m)) v6 W5.heap.size w6 (by rw [hlen]; omega) (by rw [hlen]; omega) HOW.out HB6.out.size (fun _ _ => by kernel_rfl) ?_).mono ?_
  · intro gz W x hgz hW hx
    have hx2 := lst_mem.1 hx
    have hx3 : -m ≤ x ∧ x ≤ m := by unfold cnt at hx2; omega
    have hb6W : Below W5.heap.size W5 W := Below.grown HB6.out hW HB6.out.size (fun k hk => by injection hk with hk; omega)
    have hb4W : Below w4.heap.size w4 W := HB5.out.trans (hb6W.mono HB5.out.size)
    refine span1_any 82 #[.pointer (some ⟨pt, 0, none⟩), .pointer (some ⟨pa, 0, none⟩), .pointer (some ⟨pb, 0, none⟩), .pointer (some ⟨pc, 0, none⟩), .pointer (some ⟨ps, 0, none⟩)] p q x (witK m l k x) c W (HBF.out.below hb6W HBF.out.lt) (HBC5.out.below hb6W HBC5.out.lt) egWith ?_
    intro W' hW'
    have hL2 := HM.out.2
    have hs4 := hb4W.size
    have hs5 := hW'.size
    exact with1_any pt pa pb pc ps gb _ l m k x W' ((HM.out.1.far hL2 hb4W).next hW') ⟨by have := hL2.t; omega, by have := hL2.a; omega, by have := hL2.b; omega, by have := hL2.c; omega, by have := hL2.s; omega, by have := hL2.bn; omega⟩ HALL.out ⟨hm0, hm1⟩ h20 hkl hx3
  rintro e w8 ⟨rfl, hb8⟩
  have HE2 := HE.out
  rw [← HE2]
  have hb68 := HB6.out.trans hb8
  have rs := HRS5.out.below hb68 HRS5.out.lt
  have HC8 := Lib.hid (HC5.out.trans (hb68.mono (by have := HC5.out.size; omega)))
  have lR := rs.lt
  have cR0 := rs.cell 0
  have cR1 := rs.cell 1
  have fR0 := rs.frozen 0
  have fR1 := rs.frozen 1
  simp at cR0 cR1
  clear rs hb68 hb8 HE2 hlen HOW HB6 HRS5 HC5 HBF HBC5 HB5 HM HE hcl
  obtain ⟨T, hT⟩ : ∃ T, spnL l m (k : Int) = T := ⟨_, rfl⟩
  rw [hT]
  have HT := Lib.hid hT
  clear hT
  obtain ⟨lo, hi, er⟩ := T
  go_wp2_with fail
  refine bodyPost_ret (v := .tuple #[.agg #[.int .i64 lo, .int .i64 hi], .int .i64 er]) (by simp [results, Try.results30, go_sem, *]) rfl ?_
  rw [HT.out]
  exact ⟨rfl, by rw [hn0]; exact (HC8.out.setCell (by show n0 ≤ n0 + 1; omega) _).setCell (by show n0 ≤ n0 + 1; omega) _⟩
end Go.Proofs.Ytgbegdjakadbbaa

set_option linter.all false
namespace Go.Proofs.Ytgbegdjakadbbaa
open Go.RowKit Vp

/-- The block g has n cells, V i the i-th one. -/
def Gv (W : World) (g : Nat) (t : TypeId) (n : Nat) (V : Nat → Value) : Prop := ∃ cs : Array Value, BK W g cs t ∧ cs.size = n ∧ ∀ i, i < n → cs[i]? = some (V i)
def seV (V : Nat → Value) (i : Nat) (v : Value) : Nat → Value := fun j => if j = i then v else V j
section
variable {W W' : World} {g : Nat} {t : TypeId} {n : Nat} {V : Nat → Value}
theorem Gv.lt (h : Gv W g t n V) : g < W.heap.size := by obtain ⟨cs, h1, _⟩ := h; exact h1.lt
theorem Gv.cell (h : Gv W g t n V) {i : Nat} (hi : i < n) : W.cell? ⟨g, i, none⟩ = some (V i) := by
  obtain ⟨cs, h1, _, h3⟩ := h
  rw [h1.cell]; exact h3 i hi
theorem Gv.frozen (h : Gv W g t n V) (j : Nat) : W.frozen? ⟨g, j, none⟩ = false := by obtain ⟨cs, h1, _⟩ := h; exact h1.frozen j
theorem Gv.heap (h : Gv W g t n V) (hb : W'.heap[g]? = W.heap[g]?) : Gv W' g t n V := by
  obtain ⟨cs, h1, h2⟩ := h
  exact ⟨cs, hb.trans h1, h2⟩
theorem Gv.below {B : Nat} (h : Gv W g t n V) (hb : Below B W W') (hg : g < B) : Gv W' g t n V := h.heap (hb.block g hg)
theorem Gv.alloc (h : Gv W g t n V) (o : Obj) : Gv (W.alloc o) g t n V := h.heap (Below.heap_alloc W o g h.lt)
theorem Gv.far (h : Gv W g t n V) {p : Addr} (hp : g ≠ p.block) (u : Value) : Gv (W.setCell p u) g t n V := h.heap (Below.heap_setCell W p u g hp)
theorem Gv.adm {B : Nat} (h : Gv W g t n V) (ha : Adm B W W') : Gv W' g t n V := by
  obtain ⟨cs, h1, h2⟩ := h
  exact ⟨cs, ha.cells h1, h2⟩
theorem Gv.congr {V' : Nat → Value} (h : Gv W g t n V) (he : ∀ i, i < n → V i = V' i) : Gv W g t n V' := by
  obtain ⟨cs, h1, h2, h3⟩ := h
  exact ⟨cs, h1, h2, fun i hi => by rw [← he i hi]; exact h3 i hi⟩
theorem Gv.set (h : Gv W g t n V) (i : Nat) (v : Value) : Gv (W.setCell ⟨g, i, none⟩ v) g t n (seV V i v) := by
  obtain ⟨cs, h1, h2, h3⟩ := h
  refine ⟨_, h1.set _ _, by simpa using h2, fun j hj => ?_⟩
  unfold seV
  by_cases hji : j = i
  · subst hji; rw [if_pos rfl]; simp [h2, hj]
  · rw [if_neg hji, Array.getElem?_setIfInBounds_ne (by omega)]; exact h3 j hj
theorem Gv.made (W : World) (t : TypeId) (z : Array Value) (n : Nat) (V : Nat → Value) (hz : ∀ i, i < n → z[i % z.size]! = V i) (q : Nat) (hq : W.heap.size = q) : Gv (W.alloc (.cells (madeCells z n) t)) q t n V :=
  ⟨_, BK.new' _ _ _ _ hq, size_madeCells _ _, fun i hi => by
    rw [← hz i hi]
    unfold madeCells
    rw [Array.getElem?_map, Array.getElem?_range]
    simp [hi]⟩
end
theorem seV_same (V : Nat → Value) (i : Nat) (v : Value) : seV V i v i = v := if_pos rfl
theorem seV_other (V : Nat → Value) {i j : Nat} (v : Value) (h : j ≠ i) : seV V i v j = V j := if_neg h
/-- A slice that is made. -/
theorem make_of {t e size bytes : Nat} {z : Value} (hinf : (Try.prog.info? e).map (fun i => (i.zero, i.size, i.bytes)) = some (some z, size, bytes)) (hs : Try.prog.underlying t = some (.slice e)) (hb1 : bytes ≤ 4000) (n : Nat) (hn : n ≤ 2000) (W : World) :
    (Instr.makeSlice t (.int .i64 (n : Int)) (.int .i64 (n : Int))).run Try.prog W = .ok (.slice (some ⟨W.heap.size, 0, none⟩) n n) (W.alloc (.cells (madeCells z.cells (n * size)) e)) := by
  obtain ⟨i, hi, hz, hsz, hb⟩ := info_parts hinf
  have hb2 : bytes * n ≤ 4000 * 2000 := Nat.mul_le_mul hb1 hn
  have hr := run_make (P := Try.prog) W t e i _ hs hi hz .i64 .i64 n n (by omega) (Int.le_refl _) (by rw [hb]; first | omega | (rw [Nat.mul_comm]; omega) | (rw [Int.mul_comm]; omega)) (by omega)
  simp only [Int.toNat_natCast, hsz] at hr
  exact hr
theorem sl_info : (Try.prog.info? 25).map (fun i => (i.zero, i.size, i.bytes)) = some (some (.slice none 0 0), 1, 24) := by kernel_rfl
theorem sl_slice : Try.prog.underlying 50 = some (.slice 25) := by kernel_rfl
/-- Numbers by number. -/
def iV (f : Nat → Int) : Nat → Value := fun i => .int .i64 (f i)
theorem iV_set (f : Nat → Int) (i : Nat) (x : Int) : seV (iV f) i (.int .i64 x) = iV fun j => if j = i then x else f j := by
  funext j; unfold seV iV; by_cases h : j = i <;> simp [h]
theorem make_ints (n : Nat) (hn : n ≤ 2000) (W : World) (q : Nat) (hq : W.heap.size = q) : ∃ W', (Instr.makeSlice 25 (.int .i64 (n : Int)) (.int .i64 (n : Int))).run Try.prog W = .ok (.slice (some ⟨q, 0, none⟩) n n) W' ∧ Gv W' q 2 n (iV fun _ => 0) ∧ W'.heap.size = q + 1 ∧ Below W.heap.size W W' := by
  have h := make_of i64_info i64_slice (by decide) n hn W
  rw [Nat.mul_one, hq] at h
  exact ⟨_, h, Gv.made _ _ _ _ _ (fun i hi => by simp [iV, Value.cells, Nat.mod_one]) _ hq, by simp [hq], Below.alloc (Below.refl _ _) (Nat.le_refl _) _⟩
theorem make_slices (n : Nat) (hn : n ≤ 2000) (W : World) (q : Nat) (hq : W.heap.size = q) : ∃ W', (Instr.makeSlice 50 (.int .i64 (n : Int)) (.int .i64 (n : Int))).run Try.prog W = .ok (.slice (some ⟨q, 0, none⟩) n n) W' ∧ Gv W' q 25 n (fun _ => .slice none 0 0) ∧ W'.heap.size = q + 1 ∧ Below W.heap.size W W' := by
  have h := make_of sl_info sl_slice (by decide) n hn W
  rw [Nat.mul_one, hq] at h
  exact ⟨_, h, Gv.made _ _ _ _ _ (fun i hi => by simp [Value.cells, Nat.mod_one]) _ hq, by simp [hq], Below.alloc (Below.refl _ _) (Nat.le_refl _) _⟩
/-- Ranges by number. -/
def rgV (F : Nat → Rg) : Nat → Value := fun j => if j % 2 = 0 then .int .i64 (F (j / 2)).lo else .int .i64 (F (j / 2)).hi
theorem rgV_set (F : Nat → Rg) (i : Nat) (r : Rg) : seV (seV (rgV F) (i * 2) (.int .i64 r.lo)) (i * 2 + 1) (.int .i64 r.hi) = rgV fun j => if j = i then r else F j := by
  funext j
  unfold seV rgV
  dsimp only
  by_cases h1 : j = i * 2 + 1
  · subst h1
    rw [if_pos rfl, if_neg (by omega), if_pos (by omega)]
  · rw [if_neg h1]
    by_cases h2 : j = i * 2
    · subst h2
      rw [if_pos rfl, if_pos (by omega), if_pos (by omega)]
    · rw [if_neg h2]
      by_cases h3 : j / 2 = i
      · omega
      · rw [if_neg h3]
theorem make_rgs (n : Nat) (hn : n ≤ 2000) (W : World) (q : Nat) (hq : W.heap.size = q) : ∃ W', (Instr.makeSlice 67 (.int .i64 (n : Int)) (.int .i64 (n : Int))).run Try.prog W = .ok (.slice (some ⟨q, 0, none⟩) n n) W' ∧ Gv W' q 42 (n * 2) (rgV fun _ => ⟨0, 0⟩) ∧ W'.heap.size = q + 1 ∧ Below W.heap.size W W' := by
  have h := make_of rg_info rg_slice (by decide) n hn W
  rw [hq] at h
  exact ⟨_, h, Gv.made _ _ _ _ _ (fun i hi => by
    unfold rgV
    simp only [Value.cells]
    rcases Nat.mod_two_eq_zero_or_one i with h | h
    · simp [h]
    · simp [h]) _ hq, by simp [hq], Below.alloc (Below.refl _ _) (Nat.le_refl _) _⟩
theorem Gv.rg {W : World} {g n : Nat} {t : TypeId} {F : Nat → Rg} (h : Gv W g t (n * 2) (rgV F)) {i : Nat} (hi : i < n) : W.cell? ⟨g, i * 2, none⟩ = some (.int .i64 (F i).lo) ∧ W.cell? ⟨g, i * 2 + 1, none⟩ = some (.int .i64 (F i).hi) := by
  have h1 := h.cell (i := i * 2) (by omega)
  have h2 := h.cell (i := i * 2 + 1) (by omega)
  unfold rgV at h1 h2
  rw [if_pos (by omega), show i * 2 / 2 = i by omega] at h1
  rw [if_neg (by omega), show (i * 2 + 1) / 2 = i by omega] at h2
  exact ⟨h1, h2⟩
/-- A block of numbers as a list. -/
theorem Gv.own {W : World} {g n base : Nat} {f : Nat → Int} {l : List Int} (h : Gv W g 2 n (iV f)) (hl : l.length = n) (hf : ∀ i, i < n → f i = nthI l i) (hb : base ≤ g) (hn : n ≤ 2000) : OwnI 2 W base (.slice (some ⟨g, 0, none⟩) n n) l := by
  obtain ⟨cs, h1, h2, h3⟩ := h
  have e : cs = (ofI l).toArray := by
    apply Array.ext_getElem?
    intro i
    by_cases hi : i < n
    · rw [h3 i hi, List.getElem?_toArray, ofI_get (by omega)]
      unfold iV; rw [hf i hi]
    · rw [Array.getElem?_eq_none (by omega), Array.getElem?_eq_none (by simp [ofI]; omega)]
  subst e
  have := OwnI.of_bk h1 hb (by omega)
  rwa [hl] at this
theorem Gv.ri {W : World} {g n c B : Nat} {f : Nat → Int} {l : List Int} (h : Gv W g 2 n (iV f)) (hl : l.length = n) (hf : ∀ i, i < n → f i = nthI l i) (hB : g < B) (hc : n ≤ c) : RI W B (.slice (some ⟨g, 0, none⟩) n c) l :=
  ⟨_, c, g, 0, by rw [hl], ⟨by simp [ofI], by omega⟩, fun _ => ⟨rfl, hB⟩, fun j hj => by
    have hj' : j < n := by rw [ofI_length] at hj; omega
    rw [Nat.zero_add, h.cell hj', ofI_get (by omega)]
    unfold iV; rw [hf j hj']⟩
end Go.Proofs.Ytgbegdjakadbbaa

set_option linter.all false
namespace Go.Proofs.Ytgbegdjakadbbaa
open Go.RowKit Vp

/-- In which range the strain at station k can be, ahead of its blow; with it. -/
def nowK (m : Int) (l : List St) (ds : List Int) : Nat → Rg
  | 0 => ⟨-9, 9⟩
  | k + 1 => nowN (tub (nthS l k)) (sumTo ds (k + 1)) (Vp.meet (nowK m l ds k) (born (nthS l k) m (nthI ds k)))
def rnK (m : Int) (l : List St) (ds : List Int) (k : Nat) : Rg := Vp.meet (nowK m l ds k) (born (nthS l k) m (nthI ds k))
def PK (m : Int) (l : List St) (ds : List Int) (k : Nat) : List Int × Int := pul m (l.drop k) (sumTo ds k) (nowK m l ds k) (ds.drop k)
def SK (m : Int) (l : List St) (ds : List Int) (k : Nat) : Int := (PK m l ds k).2
theorem nowK_succ (m : Int) (l : List St) (ds : List Int) (k : Nat) : nowK m l ds (k + 1) = nowN (tub (nthS l k)) (sumTo ds (k + 1)) (rnK m l ds k) := rfl
section
variable {m : Int} {l : List St} {ds : List Int}
theorem PK_end (h : ds.length = l.length) : PK m l ds l.length = ([], 0) := by
  unfold PK
  rw [List.drop_length]
  cases ds.drop l.length <;> rfl
theorem PK_step (h : ds.length = l.length) {k : Nat} (hk : k < l.length) :
    PK m l ds k = ((here (tub (nthS l k)) (sumTo ds (k + 1)) (rnK m l ds k) (SK m l ds (k + 1)) - SK m l ds (k + 1)) :: (PK m l ds (k + 1)).1, here (tub (nthS l k)) (sumTo ds (k + 1)) (rnK m l ds k) (SK m l ds (k + 1))) := by
  have h1 : l.drop k = nthS l k :: l.drop (k + 1) := by rw [nthS_eq hk]; exact List.drop_eq_getElem_cons hk
  have h2 : ds.drop k = nthI ds k :: ds.drop (k + 1) := by
    have : nthI ds k = ds[k]'(by omega) := by unfold nthI; rw [List.getD_eq_getElem?_getD, List.getElem?_eq_getElem (by omega)]; rfl
    rw [this]; exact List.drop_eq_getElem_cons (by omega)
  have h3 : sumTo ds k + nthI ds k = sumTo ds (k + 1) := (sumTo_succ (by omega)).symm
  unfold SK PK
  rw [h1, h2]
  simp only [pul]
  rw [h3]
  rfl
theorem SK_end (h : ds.length = l.length) : SK m l ds l.length = 0 := by unfold SK; rw [PK_end h]
theorem SK_step (h : ds.length = l.length) {k : Nat} (hk : k < l.length) : SK m l ds k = here (tub (nthS l k)) (sumTo ds (k + 1)) (rnK m l ds k) (SK m l ds (k + 1)) := by
  show (PK m l ds k).2 = _
  rw [PK_step h hk]
/-- The pull at a station. -/
def pfK (m : Int) (l : List St) (ds : List Int) (k : Nat) : Int := SK m l ds k - SK m l ds (k + 1)
theorem PK_list (h : ds.length = l.length) : ∀ (d k : Nat), d + k = l.length → (PK m l ds k).1.length = d ∧ ∀ i, i < d → nthI (PK m l ds k).1 i = pfK m l ds (k + i)
  | 0, k, hk => by
    obtain rfl : k = l.length := by omega
    rw [PK_end h]; exact ⟨rfl, fun i hi => by omega⟩
  | d + 1, k, hk => by
    obtain ⟨h1, h2⟩ := PK_list h d (k + 1) (by omega)
    have hs := SK_step (m := m) h (show k < l.length by omega)
    rw [PK_step h (by omega)]
    refine ⟨by simp [h1], fun i hi => ?_⟩
    cases i with
    | zero =>
      unfold pfK
      rw [show SK m l ds (k + 0) = SK m l ds k from rfl, hs]
      simp [nthI]
    | succ i =>
      have := h2 i (by omega)
      rw [show k + (i + 1) = k + 1 + i by omega, ← this]
      simp [nthI]
/-- The pulls of best blows. -/
def pulK (m : Int) (l : List St) (ds : List Int) : List Int := (pul m l 0 ⟨-9, 9⟩ ds).1
theorem pulK_eq (h : ds.length = l.length) : (pulK m l ds).length = l.length ∧ ∀ i, i < l.length → nthI (pulK m l ds) i = pfK m l ds i := by
  have h1 := PK_list (m := m) h l.length 0 (by omega)
  have h2 : PK m l ds 0 = pul m l 0 ⟨-9, 9⟩ ds := by unfold PK; rw [List.drop_zero, List.drop_zero, sumTo_zero]; rfl
  rw [h2] at h1
  refine ⟨h1.1, fun i hi => ?_⟩
  have := h1.2 i hi
  rw [Nat.zero_add] at this
  exact this
/-- All strains are few. -/
def nine (r : Rg) : Prop := (-9 ≤ r.lo ∧ r.lo ≤ 9) ∧ (-9 ≤ r.hi ∧ r.hi ≤ 9)
theorem nine_born {s : St} (h : okSB s = true) (m d : Int) : nine (born s m d) := by
  have := okSB_iff.1 h
  unfold nine born
  simp only
  constructor
  · split
    · omega
    · split <;> omega
  · split
    · omega
    · split <;> omega
theorem nine_meet {a b : Rg} (ha : nine a) (hb : nine b) : nine (Vp.meet a b) := by
  unfold nine Vp.meet at *
  simp only
  omega
theorem nine_now {t : Rg} {g : Int} {r : Rg} (h : nine r) : nine (nowN t g r) := by
  unfold nowN
  split
  · exact h
  · split
    · unfold nine; simp
    · unfold nine at *
      simp only
      constructor
      · split <;> omega
      · split <;> omega
theorem nowK_nine (ho : ∀ s ∈ l, okSB s = true) : ∀ k, k ≤ l.length → nine (nowK m l ds k)
  | 0, _ => by unfold nine nowK; simp
  | k + 1, hk => nine_now (nine_meet (nowK_nine ho k (by omega)) (nine_born (ho _ (nthS_mem (by omega))) _ _))
theorem rnK_nine (ho : ∀ s ∈ l, okSB s = true) {k : Nat} (hk : k < l.length) : nine (rnK m l ds k) := nine_meet (nowK_nine ho k (by omega)) (nine_born (ho _ (nthS_mem hk)) _ _)
theorem SK_nine (ho : ∀ s ∈ l, okSB s = true) (h : ds.length = l.length) : ∀ (d k : Nat), d + k = l.length → -9 ≤ SK m l ds k ∧ SK m l ds k ≤ 9
  | 0, k, hk => by
    obtain rfl : k = l.length := by omega
    rw [SK_end h]; omega
  | d + 1, k, hk => by
    have h1 := SK_nine ho h d (k + 1) (by omega)
    have h2 := rnK_nine (m := m) (ds := ds) ho (show k < l.length by omega)
    rw [SK_step h (by omega)]
    generalize SK m l ds (k + 1) = S at *
    generalize rnK m l ds k = r at *
    unfold here
    unfold nine at h2
    split
    · exact h1
    · omega
end
end Go.Proofs.Ytgbegdjakadbbaa
