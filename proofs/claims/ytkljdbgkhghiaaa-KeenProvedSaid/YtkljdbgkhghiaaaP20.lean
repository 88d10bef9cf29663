/- The bench of a book whose tests have to agree; the errors of edges and of a test, whatever the number of edges. Circle, Span, Sharp and Tells of the program. -/
import Derived.Test.YtkljdbgkhghiaaaP19
set_option linter.all false
set_option linter.unnecessarySimpa false
set_option linter.unusedSimpArgs false
set_option linter.unusedVariables false
set_option linter.unusedSectionVars false

set_option linter.all false
namespace Go.Proofs.Ytkljdbgkhghiaaa
open Go.RowKit Kp

def numPost (P : Int → Prop) (w : World) (e : Ending) (w' : World) : Prop := ∃ r : Int, e = .returned (.int .i64 r) ∧ P r ∧ Below w.heap.size w w'
theorem numPost.mk {P : Int → Prop} {w w' : World} {r : Int} (h : P r) (hb : Below w.heap.size w w') : numPost P w (.returned (.int .i64 r)) w' := ⟨r, rfl, h, hb⟩
def testH (h : Int) (t : Kt) : Int := if (!(inB 0 h t.one && inB 0 h t.two) || decide (t.one = t.two)) = true then 2 else if (!(inB (-1000) 1000 t.lo && inB (-1000) 1000 t.hi) || decide (t.hi < t.lo)) = true then 3 else 0
theorem testH_eq (E : Int) (t : Kt) : testH (E - 1) t = testE E t := rfl
set_option maxHeartbeats 1000000 in
theorem checkTestX_any (E : Int) (t : Kt) (w : World) :
    Calls Try.prog 70 #[.int .i64 E, tV t] w (numPost (fun r => 0 ≤ E → E ≤ 100 → r = testE E t) w) := by
  obtain ⟨h, hw⟩ : ∃ h, IntKind.i64.wrap (E - 1) = h := ⟨_, rfl⟩
  have HE : ∀ r, r = testH h t → (0 ≤ E → E ≤ 100 → r = testE E t) := fun r hr h1 h2 => by
    have h3 : IntKind.i64.wrap (E - 1) = E - 1 := by rw [IntKind.wrap_i64]; omega
    rw [hr, ← hw, h3]; rfl
  have HE2 := Lib.hid HE
  clear HE
  have hgo : testH h t = if (!(inB 0 h t.one && inB 0 h t.two) || decide (t.one = t.two)) = true then 2 else if (!(inB (-1000) 1000 t.lo && inB (-1000) 1000 t.hi) || decide (t.hi < t.lo)) = true then 3 else 0 := rfl
  have HG := Lib.hid hgo
  clear hgo
  unfold tV
  go_enter Try.func70, Try.ntmps70
  go_wp2_with fail
  refine (within_2 _ _ _ _ _ _ (by simp)).mono ?_
  rintro e w' ⟨rfl, rfl⟩
  cases e1 : (inB 0 h t.one && inB 0 h t.two) with
  | false =>
    have HB := Lib.hid (HG.out.trans (by rw [e1])); clear HG
    go_wp2_with fail
    exact bodyPost_ret (v := .int .i64 2) (by simp [results, Try.results70, go_sem]) rfl (numPost.mk (HE2.out _ HB.out.symm) (by exact bel_of))
  | true =>
    by_cases e2 : t.one = t.two
    · have HB := Lib.hid (HG.out.trans (by rw [e1, decide_eq_true e2])); clear HG
      have b2 : (t.one == t.two) = true := beq_iff_eq.2 e2
      have H2 := Lib.hid e2; clear e2
      go_wp2_with fail
      exact bodyPost_ret (v := .int .i64 2) (by simp [results, Try.results70, go_sem]) rfl (numPost.mk (HE2.out _ HB.out.symm) (by exact bel_of))
    · have b2 : (t.one == t.two) = false := beq_eq_false_iff_ne.2 e2
      have HG2 := Lib.hid (HG.out.trans (by rw [e1, decide_eq_false e2])); clear HG
      go_wp2_with fail
      refine (within_2 _ _ _ _ _ _ (by simp)).mono ?_
      rintro e w' ⟨rfl, rfl⟩
      cases e3 : (inB (-1000) 1000 t.lo && inB (-1000) 1000 t.hi) with
      | false =>
        have HB := Lib.hid (HG2.out.trans (by rw [e3])); clear HG2
        go_wp2_with fail
        exact bodyPost_ret (v := .int .i64 3) (by simp [results, Try.results70, go_sem]) rfl (numPost.mk (HE2.out _ HB.out.symm) (by exact bel_of))
      | true =>
        by_cases e4 : t.hi < t.lo
        · have HB := Lib.hid (HG2.out.trans (by rw [e3, decide_eq_true e4])); clear HG2
          go_wp2_with fail
          exact bodyPost_ret (v := .int .i64 3) (by simp [results, Try.results70, go_sem]) rfl (numPost.mk (HE2.out _ HB.out.symm) (by exact bel_of))
        · have HB := Lib.hid (HG2.out.trans (by rw [e3, decide_eq_false e4])); clear HG2
          go_wp2_with fail
          exact bodyPost_ret (v := .int .i64 0) (by simp [results, Try.results70, go_sem]) rfl (numPost.mk (HE2.out _ HB.out.symm) (by exact bel_of))
theorem twoE_in {E one two : Int} : twoE E one two = if (!(inB 0 (E - 1) one && inB 0 (E - 1) two) || decide (one = two)) = true then 2 else 0 := by
  unfold twoE
  by_cases h : one < 0 ∨ E ≤ one ∨ two < 0 ∨ E ≤ two ∨ one = two
  · rw [if_pos h, if_pos (by simp [inB]; omega)]
  · rw [if_neg h, if_neg (by simp [inB]; omega)]
set_option maxHeartbeats 1000000 in
theorem edgesE_any (E one two : Int) (v : Value) (w : World) :
    Calls Try.prog 59 #[.agg #[.int .i64 E, v], .int .i64 one, .int .i64 two] w (numPost (fun r => 0 ≤ E → E ≤ 100 → r = twoE E one two) w) := by
  obtain ⟨h, hw⟩ : ∃ h, IntKind.i64.wrap (E - 1) = h := ⟨_, rfl⟩
  have HE : ∀ r, r = (if (!(inB 0 h one && inB 0 h two) || decide (one = two)) = true then 2 else 0) → (0 ≤ E → E ≤ 100 → r = twoE E one two) := fun r hr h1 h2 => by
    have h3 : IntKind.i64.wrap (E - 1) = E - 1 := by rw [IntKind.wrap_i64]; omega
    rw [hr, ← hw, h3, twoE_in]
  have HE2 := Lib.hid HE
  clear HE
  go_enter Try.func59, Try.ntmps59
  go_wp2_with fail
  refine (within_2 _ _ _ _ _ _ (by simp)).mono ?_
  rintro e w' ⟨rfl, rfl⟩
  cases e1 : (inB 0 h one && inB 0 h two) with
  | false =>
    have HB := Lib.hid (HE2.out 2 (by rw [e1]; rfl)); clear HE2
    go_wp2_with fail
    exact bodyPost_ret (v := .int .i64 2) (by simp [results, Try.results59, go_sem]) rfl (numPost.mk HB.out (by exact bel_of))
  | true =>
    by_cases e2 : one = two
    · have HB := Lib.hid (HE2.out 2 (by rw [e1, decide_eq_true e2]; rfl)); clear HE2
      have b2 : (one == two) = true := beq_iff_eq.2 e2
      have H2 := Lib.hid e2; clear e2
      go_wp2_with fail
      exact bodyPost_ret (v := .int .i64 2) (by simp [results, Try.results59, go_sem]) rfl (numPost.mk HB.out (by exact bel_of))
    · have HB := Lib.hid (HE2.out 0 (by rw [e1, decide_eq_false e2]; rfl)); clear HE2
      have b2 : (one == two) = false := beq_eq_false_iff_ne.2 e2
      go_wp2_with fail
      exact bodyPost_ret (v := .int .i64 0) (by simp [results, Try.results59, go_sem]) rfl (numPost.mk HB.out (by exact bel_of))

/-- What open gives. -/
def OpenPost (E : Int) (vt : Value) (ts : List Kt) (asked : Int) (w : World) (e : Ending) (w' : World) : Prop :=
  ∃ p : Option Addr, e = .returned (.tuple #[.pointer p, .int .i64 (openE E ts asked)]) ∧ (openE E ts asked = 0 → ∃ gb, p = some ⟨gb, 0, none⟩ ∧ Bn w' gb E.toNat vt ts (List.replicate 16 0) 0 false ∧ w.heap.size ≤ gb ∧ RT w' gb vt ts) ∧ Below w.heap.size w w'
theorem OpenPost.no {E : Int} {vt : Value} {ts : List Kt} {a r : Int} {w w' : World} (h : openE E ts a = r) (hr : r ≠ 0) (hb : Below w.heap.size w w') : OpenPost E vt ts a w (.returned (.tuple #[.pointer none, .int .i64 r])) w' :=
  ⟨_, by rw [h], fun h0 => absurd (h.symm.trans h0) hr, hb⟩
set_option maxHeartbeats 8000000 in
set_option maxRecDepth 100000 in
theorem open_any (E asked : Int) (ts : List Kt) (v : Value) (w : World) (hl : ts.length ≤ 1000) (h : RT w w.heap.size v ts) :
    Calls Try.prog 58 #[.agg #[.int .i64 E, v], .int .i64 asked] w (OpenPost E v ts asked w) := by
  obtain ⟨b, off, cap, A, rfl, hAx⟩ := h.slice
  clear hAx
  have hR := h
  clear h
  obtain ⟨n0, hn0⟩ : ∃ n, w.heap.size = n := ⟨_, rfl⟩
  have hC : Below n0 w w := Below.refl _ _
  go_enter Try.func58, Try.ntmps58
  go_wp2_with fail
  have hqbx : n0 ≤ n0 := by have := hC.size; omega
  have bx : BK (w.alloc (.cells #[.int .i64 E, .slice A ts.length cap] 24)) (n0) #[.int .i64 E, .slice A ts.length cap] 24 := BK.new' _ _ _ (n0) hn0
  have hsbx : (w.alloc (.cells #[.int .i64 E, .slice A ts.length cap] 24)).heap.size = n0 + 1 := by simp [hn0]
  replace hC : Below n0 w (w.alloc (.cells #[.int .i64 E, .slice A ts.length cap] 24)) := Below.alloc hC (by have := hC.size; omega) _
  replace hR := (RS.below hR (w' := (w.alloc (.cells #[.int .i64 E, .slice A ts.length cap] 24))) (Below.alloc (Below.refl _ _) (Nat.le_refl _) _)).more (B' := (w.alloc (.cells #[.int .i64 E, .slice A ts.length cap] 24)).heap.size) (by simp)
  generalize (w.alloc (.cells #[.int .i64 E, .slice A ts.length cap] 24)) = Wbx at *
  clear hsbx
  refine (checkBook_any E ts _ _ hl hR).mono ?_
  rintro e w1 ⟨rfl, hb⟩
  replace hC : Below n0 w w1 := hC.trans (hb.mono (by have := hC.size; omega))
  replace hR := (RS.below hR hb).more hb.size
  replace bx := bx.below hb bx.lt
  clear hb
  have lbx := bx.lt
  have bxc0 := bx.cell 0
  have bxc1 := bx.cell 1
  simp at bxc0 bxc1
  obtain ⟨e, he⟩ : ∃ e, bookE E ts = e := ⟨_, rfl⟩
  have HE := Lib.hid he
  rw [he]
  clear he
  by_cases h0 : e = 0
  case neg =>
    have b1 : (e != 0) = true := by simp [h0]
    have HN := Lib.hid h0
    clear h0
    go_wp2_with fail
    exact bodyPost_ret (v := .tuple #[.pointer none, .int .i64 e]) (by simp [results, Try.results58, go_sem]) rfl (OpenPost.no (by rw [openE_bad (by rw [HE.out]; exact HN.out), HE.out]) HN.out (by first | exact hC | (rw [hn0]; exact hC)))
  subst h0
  obtain ⟨N, rfl, ho, hl40⟩ := bookE_ok HE.out
  have HO := Lib.hid ho
  clear ho
  by_cases ha : asked = 0
  case neg =>
    have b1 : (asked != 0) = true := by simp [ha]
    have HN := Lib.hid ha
    clear ha
    go_wp2_with fail
    exact bodyPost_ret (v := .tuple #[.pointer none, .int .i64 asked]) (by simp [results, Try.results58, go_sem]) rfl (OpenPost.no (openE_ask HE.out HN.out) HN.out (by first | exact hC | (rw [hn0]; exact hC)))
  subst ha
  go_wp2_with fail
  clear lbx bxc0 bxc1
  obtain ⟨m1, hm1⟩ : ∃ n, w1.heap.size = n := ⟨_, rfl⟩
  try rw [hm1]
  have hqbe : n0 ≤ m1 := by have := hC.size; omega
  have be : BK (w1.alloc (.cells #[.int .i64 N, .slice A ts.length cap, .int .i64 0, .int .i64 0, .int .i64 0, .int .i64 0, .int .i64 0, .int .i64 0, .int .i64 0, .int .i64 0, .int .i64 0, .int .i64 0, .int .i64 0, .int .i64 0, .int .i64 0, .int .i64 0, .int .i64 0, .int .i64 0, .int .i64 0, .bool false] 83)) (m1) #[.int .i64 N, .slice A ts.length cap, .int .i64 0, .int .i64 0, .int .i64 0, .int .i64 0, .int .i64 0, .int .i64 0, .int .i64 0, .int .i64 0, .int .i64 0, .int .i64 0, .int .i64 0, .int .i64 0, .int .i64 0, .int .i64 0, .int .i64 0, .int .i64 0, .int .i64 0, .bool false] 83 := BK.new' _ _ _ (m1) hm1
  have hsbe : (w1.alloc (.cells #[.int .i64 N, .slice A ts.length cap, .int .i64 0, .int .i64 0, .int .i64 0, .int .i64 0, .int .i64 0, .int .i64 0, .int .i64 0, .int .i64 0, .int .i64 0, .int .i64 0, .int .i64 0, .int .i64 0, .int .i64 0, .int .i64 0, .int .i64 0, .int .i64 0, .int .i64 0, .bool false] 83)).heap.size = m1 + 1 := by simp [hm1]
  have hRg : RT (w1.alloc (.cells #[.int .i64 N, .slice A ts.length cap, .int .i64 0, .int .i64 0, .int .i64 0, .int .i64 0, .int .i64 0, .int .i64 0, .int .i64 0, .int .i64 0, .int .i64 0, .int .i64 0, .int .i64 0, .int .i64 0, .int .i64 0, .int .i64 0, .int .i64 0, .int .i64 0, .int .i64 0, .bool false] 83)) (m1) (.slice A ts.length cap) ts := by rw [← hm1]; exact RS.below hR (w' := (w1.alloc (.cells #[.int .i64 N, .slice A ts.length cap, .int .i64 0, .int .i64 0, .int .i64 0, .int .i64 0, .int .i64 0, .int .i64 0, .int .i64 0, .int .i64 0, .int .i64 0, .int .i64 0, .int .i64 0, .int .i64 0, .int .i64 0, .int .i64 0, .int .i64 0, .int .i64 0, .int .i64 0, .bool false] 83))) (Below.alloc (Below.refl _ _) (Nat.le_refl _) _)
  replace hC : Below n0 w (w1.alloc (.cells #[.int .i64 N, .slice A ts.length cap, .int .i64 0, .int .i64 0, .int .i64 0, .int .i64 0, .int .i64 0, .int .i64 0, .int .i64 0, .int .i64 0, .int .i64 0, .int .i64 0, .int .i64 0, .int .i64 0, .int .i64 0, .int .i64 0, .int .i64 0, .int .i64 0, .int .i64 0, .bool false] 83)) := Below.alloc hC (by have := hC.size; omega) _
  replace hR := (RS.below hR (w' := (w1.alloc (.cells #[.int .i64 N, .slice A ts.length cap, .int .i64 0, .int .i64 0, .int .i64 0, .int .i64 0, .int .i64 0, .int .i64 0, .int .i64 0, .int .i64 0, .int .i64 0, .int .i64 0, .int .i64 0, .int .i64 0, .int .i64 0, .int .i64 0, .int .i64 0, .int .i64 0, .int .i64 0, .bool false] 83))) (Below.alloc (Below.refl _ _) (Nat.le_refl _) _)).more (B' := (w1.alloc (.cells #[.int .i64 N, .slice A ts.length cap, .int .i64 0, .int .i64 0, .int .i64 0, .int .i64 0, .int .i64 0, .int .i64 0, .int .i64 0, .int .i64 0, .int .i64 0, .int .i64 0, .int .i64 0, .int .i64 0, .int .i64 0, .int .i64 0, .int .i64 0, .int .i64 0, .int .i64 0, .bool false] 83)).heap.size) (by simp)
  replace bx := bx.alloc (.cells #[.int .i64 N, .slice A ts.length cap, .int .i64 0, .int .i64 0, .int .i64 0, .int .i64 0, .int .i64 0, .int .i64 0, .int .i64 0, .int .i64 0, .int .i64 0, .int .i64 0, .int .i64 0, .int .i64 0, .int .i64 0, .int .i64 0, .int .i64 0, .int .i64 0, .int .i64 0, .bool false] 83)
  generalize (w1.alloc (.cells #[.int .i64 N, .slice A ts.length cap, .int .i64 0, .int .i64 0, .int .i64 0, .int .i64 0, .int .i64 0, .int .i64 0, .int .i64 0, .int .i64 0, .int .i64 0, .int .i64 0, .int .i64 0, .int .i64 0, .int .i64 0, .int .i64 0, .int .i64 0, .int .i64 0, .int .i64 0, .bool false] 83)) = Wbe at *
  clear hm1
  have hzb : m1 ≤ Wbe.heap.size := Nat.le_of_lt be.lt
  have hBn : Bn Wbe m1 N (.slice A ts.length cap) ts (List.replicate 16 0) 0 false := ⟨be, hR, rfl⟩
  clear hsbe
  refine (circle_any N _ ts (List.replicate 16 0) 0 m1 _ HO.out hl40 ⟨Int.le_refl 0, by have := HO.out.pos; omega⟩ hBn).mono ?_
  rintro e w2 ⟨vc, c, rfl, hRc, hag, hna, hb⟩
  replace hC : Below n0 w w2 := hC.trans (hb.mono (by have := hC.size; omega))
  replace hR := (RS.below hR hb).more hb.size
  replace bx := bx.below hb bx.lt
  replace be := be.below hb be.lt
  replace hBn := hBn.below hb
  replace hRg := RS.below hRg (hb.mono hzb)
  clear hb
  obtain ⟨b8, o8, c8, A8, rfl, hA8⟩ : ∃ b off cp A, vc = .slice A c.length cp ∧ (c.length ≠ 0 → A = some ⟨b, off, none⟩) := by
    obtain ⟨A, cp, b, off, hv, hA, _⟩ := hRc.cells
    exact ⟨b, off, cp, A, hv, fun h => (hA h).1⟩
  clear hA8 hRc
  by_cases hg : Agr N ts
  · have hc0 := hag hg
    subst hc0
    have HG := Lib.hid hg
    have HBN := Lib.hid hBn
    have HRG := Lib.hid hRg
    clear hag hna hg hBn hRg
    go_wp2_with fail
    exact bodyPost_ret (v := .tuple #[.pointer (some ⟨m1, 0, none⟩), .int .i64 0]) (by simp [results, Try.results58, go_sem]) rfl (⟨_, by rw [openE_agr HE.out rfl HG.out], fun _ => ⟨_, rfl, by rw [Int.toNat_natCast]; exact HBN.out, by omega, HRG.out⟩, (by first | exact hC | (rw [hn0]; exact hC))⟩)
  · have hc0 : 0 < c.length := List.length_pos_iff.2 (hna hg).1.ne
    have hlx : (c.length : Int) > 0 := by omega
    have HG := Lib.hid hg
    clear hag hna hg hBn hRg
    go_wp2_with fail
    exact bodyPost_ret (v := .tuple #[.pointer none, .int .i64 21]) (by simp [results, Try.results58, go_sem]) rfl (OpenPost.no (openE_clash HE.out rfl HG.out) (by decide) (by first | exact hC | (rw [hn0]; exact hC)))

end Go.Proofs.Ytkljdbgkhghiaaa

set_option linter.all false
namespace Go.Proofs.Ytkljdbgkhghiaaa
open Go.RowKit Kp

theorem openE_congr {E : Int} {ts : List Kt} {r r' : Int} (h : 0 ≤ E → E ≤ 100 → r = r') : openE E ts r = openE E ts r' := by
  by_cases hb : bookE E ts = 0
  · obtain ⟨n, rfl, ho, _⟩ := bookE_ok hb
    rw [h (by omega) (by have := ho.few; omega)]
  · rw [openE_bad hb, openE_bad hb]
/-- The error of a circle. -/
def circleE (E : Int) (ts : List Kt) : Int := if bookE E ts ≠ 0 then bookE E ts else if Agr E.toNat ts then 5 else 0
def CirclePost (E : Int) (ts : List Kt) (w : World) (e : Ending) (w' : World) : Prop :=
  ∃ v c, e = .returned (.tuple #[v, .int .i64 (circleE E ts)]) ∧ RL w' w'.heap.size v c ∧ (circleE E ts ≠ 0 → c = []) ∧ (circleE E ts = 0 → Circ E.toNat ts c ∧ 0 ≤ (nthL c 0).src ∧ ¬ Agr E.toNat ts) ∧ Below w.heap.size w w'
theorem rl_nil (W : World) (B : Nat) : RL W B (.slice none 0 0) [] := ⟨none, 0, 0, 0, rfl, ⟨by simp [ofG], Nat.le_refl _⟩, fun h => absurd rfl h, fun j hj => by simp [ofG] at hj⟩
theorem CirclePost.no {E : Int} {ts : List Kt} {w w' : World} {r : Int} (h : circleE E ts = r) (hr : r ≠ 0) (hb : Below w.heap.size w w') : CirclePost E ts w (.returned (.tuple #[.slice none 0 0, .int .i64 r])) w' :=
  ⟨_, [], by rw [h], rl_nil _ _, fun _ => rfl, fun h0 => absurd (h.symm.trans h0) hr, hb⟩

set_option maxHeartbeats 8000000 in
set_option maxRecDepth 100000 in
theorem circleP_any (E : Int) (ts : List Kt) (v : Value) (w : World) (hl : ts.length ≤ 1000) (h : RT w w.heap.size v ts) :
    Calls Try.prog 20 #[.agg #[.int .i64 E, v]] w (CirclePost E ts w) := by
  obtain ⟨b, off, cap, A, rfl, hAx⟩ := h.slice
  clear hAx
  have hR := h
  clear h
  obtain ⟨n0, hn0⟩ : ∃ n, w.heap.size = n := ⟨_, rfl⟩
  have hC : Below n0 w w := Below.refl _ _
  go_enter Try.func20, Try.ntmps20
  go_wp2_with fail
  have hqbx : n0 ≤ n0 := by have := hC.size; omega
  have bx : BK (w.alloc (.cells #[.int .i64 E, .slice A ts.length cap] 24)) (n0) #[.int .i64 E, .slice A ts.length cap] 24 := BK.new' _ _ _ (n0) hn0
  have hsbx : (w.alloc (.cells #[.int .i64 E, .slice A ts.length cap] 24)).heap.size = n0 + 1 := by simp [hn0]
  replace hC : Below n0 w (w.alloc (.cells #[.int .i64 E, .slice A ts.length cap] 24)) := Below.alloc hC (by have := hC.size; omega) _
  replace hR := (RS.below hR (w' := (w.alloc (.cells #[.int .i64 E, .slice A ts.length cap] 24))) (Below.alloc (Below.refl _ _) (Nat.le_refl _) _)).more (B' := (w.alloc (.cells #[.int .i64 E, .slice A ts.length cap] 24)).heap.size) (by simp)
  generalize (w.alloc (.cells #[.int .i64 E, .slice A ts.length cap] 24)) = Wbx at *
  clear hsbx
  refine (checkBook_any E ts _ _ hl hR).mono ?_
  rintro e w1 ⟨rfl, hb⟩
  replace hC : Below n0 w w1 := hC.trans (hb.mono (by have := hC.size; omega))
  replace hR := (RS.below hR hb).more hb.size
  replace bx := bx.below hb bx.lt
  clear hb
  have lbx := bx.lt
  have bxc0 := bx.cell 0
  have bxc1 := bx.cell 1
  simp at bxc0 bxc1
  obtain ⟨e, he⟩ : ∃ e, bookE E ts = e := ⟨_, rfl⟩
  have HE := Lib.hid he
  rw [he]
  clear he
  by_cases h0 : e = 0
  case neg =>
    have b1 : (e != 0) = true := by simp [h0]
    have HN := Lib.hid h0
    clear h0
    go_wp2_with fail
    exact bodyPost_ret (v := .tuple #[.slice none 0 0, .int .i64 e]) (by simp [results, Try.results20, go_sem]) rfl (CirclePost.no (by unfold circleE; rw [if_pos (by rw [HE.out]; exact HN.out), HE.out]) HN.out (by first | exact hC | (rw [hn0]; exact hC)))
  subst h0
  obtain ⟨N, rfl, ho, hl40⟩ := bookE_ok HE.out
  have HO := Lib.hid ho
  clear ho
  go_wp2_with fail
  clear lbx bxc0 bxc1
  obtain ⟨m1, hm1⟩ : ∃ n, w1.heap.size = n := ⟨_, rfl⟩
  try rw [hm1]
  have hqbe : n0 ≤ m1 := by have := hC.size; omega
  have be : BK (w1.alloc (.cells #[.int .i64 N, .slice A ts.length cap, .int .i64 0, .int .i64 0, .int .i64 0, .int .i64 0, .int .i64 0, .int .i64 0, .int .i64 0, .int .i64 0, .int .i64 0, .int .i64 0, .int .i64 0, .int .i64 0, .int .i64 0, .int .i64 0, .int .i64 0, .int .i64 0, .int .i64 0, .bool false] 83)) (m1) #[.int .i64 N, .slice A ts.length cap, .int .i64 0, .int .i64 0, .int .i64 0, .int .i64 0, .int .i64 0, .int .i64 0, .int .i64 0, .int .i64 0, .int .i64 0, .int .i64 0, .int .i64 0, .int .i64 0, .int .i64 0, .int .i64 0, .int .i64 0, .int .i64 0, .int .i64 0, .bool false] 83 := BK.new' _ _ _ (m1) hm1
  have hsbe : (w1.alloc (.cells #[.int .i64 N, .slice A ts.length cap, .int .i64 0, .int .i64 0, .int .i64 0, .int .i64 0, .int .i64 0, .int .i64 0, .int .i64 0, .int .i64 0, .int .i64 0, .int .i64 0, .int .i64 0, .int .i64 0, .int .i64 0, .int .i64 0, .int .i64 0, .int .i64 0, .int .i64 0, .bool false] 83)).heap.size = m1 + 1 := by simp [hm1]
  replace hC : Below n0 w (w1.alloc (.cells #[.int .i64 N, .slice A ts.length cap, .int .i64 0, .int .i64 0, .int .i64 0, .int .i64 0, .int .i64 0, .int .i64 0, .int .i64 0, .int .i64 0, .int .i64 0, .int .i64 0, .int .i64 0, .int .i64 0, .int .i64 0, .int .i64 0, .int .i64 0, .int .i64 0, .int .i64 0, .bool false] 83)) := Below.alloc hC (by have := hC.size; omega) _
  replace hR := (RS.below hR (w' := (w1.alloc (.cells #[.int .i64 N, .slice A ts.length cap, .int .i64 0, .int .i64 0, .int .i64 0, .int .i64 0, .int .i64 0, .int .i64 0, .int .i64 0, .int .i64 0, .int .i64 0, .int .i64 0, .int .i64 0, .int .i64 0, .int .i64 0, .int .i64 0, .int .i64 0, .int .i64 0, .int .i64 0, .bool false] 83))) (Below.alloc (Below.refl _ _) (Nat.le_refl _) _)).more (B' := (w1.alloc (.cells #[.int .i64 N, .slice A ts.length cap, .int .i64 0, .int .i64 0, .int .i64 0, .int .i64 0, .int .i64 0, .int .i64 0, .int .i64 0, .int .i64 0, .int .i64 0, .int .i64 0, .int .i64 0, .int .i64 0, .int .i64 0, .int .i64 0, .int .i64 0, .int .i64 0, .int .i64 0, .bool false] 83)).heap.size) (by simp)
  replace bx := bx.alloc (.cells #[.int .i64 N, .slice A ts.length cap, .int .i64 0, .int .i64 0, .int .i64 0, .int .i64 0, .int .i64 0, .int .i64 0, .int .i64 0, .int .i64 0, .int .i64 0, .int .i64 0, .int .i64 0, .int .i64 0, .int .i64 0, .int .i64 0, .int .i64 0, .int .i64 0, .int .i64 0, .bool false] 83)
  generalize (w1.alloc (.cells #[.int .i64 N, .slice A ts.length cap, .int .i64 0, .int .i64 0, .int .i64 0, .int .i64 0, .int .i64 0, .int .i64 0, .int .i64 0, .int .i64 0, .int .i64 0, .int .i64 0, .int .i64 0, .int .i64 0, .int .i64 0, .int .i64 0, .int .i64 0, .int .i64 0, .int .i64 0, .bool false] 83)) = Wbe at *
  clear hm1
  have hBn : Bn Wbe m1 N (.slice A ts.length cap) ts (List.replicate 16 0) 0 false := ⟨be, hR, rfl⟩
  clear hsbe
  refine (circle_any N _ ts (List.replicate 16 0) 0 m1 _ HO.out hl40 ⟨Int.le_refl 0, by have := HO.out.pos; omega⟩ hBn).mono ?_
  rintro e w2 ⟨vc, c, rfl, hRc, hag, hna, hb⟩
  replace hC : Below n0 w w2 := hC.trans (hb.mono (by have := hC.size; omega))
  replace hR := (RS.below hR hb).more hb.size
  replace bx := bx.below hb bx.lt
  replace be := be.below hb be.lt
  clear hb
  clear hBn
  obtain ⟨b8, o8, c8, A8, rfl, hA8⟩ : ∃ b off cp A, vc = .slice A c.length cp ∧ (c.length ≠ 0 → A = some ⟨b, off, none⟩) := by
    obtain ⟨A, cp, b, off, hv, hA, _⟩ := hRc.cells
    exact ⟨b, off, cp, A, hv, fun h => (hA h).1⟩
  clear hA8
  have hcq : circleE (N : Int) ts = if Agr N ts then 5 else 0 := by unfold circleE; rw [if_neg (by rw [HE.out]; exact fun h => h rfl), Int.toNat_natCast]
  by_cases hg : Agr N ts
  · have hc0 := hag hg
    subst hc0
    have HQ := Lib.hid (hcq.trans (if_pos hg))
    clear hag hna hg hcq hRc
    go_wp2_with fail
    exact bodyPost_ret (v := .tuple #[.slice none 0 0, .int .i64 5]) (by simp [results, Try.results20, go_sem]) rfl (CirclePost.no HQ.out (by decide) (by first | exact hC | (rw [hn0]; exact hC)))
  · have hc0 : 0 < c.length := List.length_pos_iff.2 (hna hg).1.ne
    have hlx : ((c.length : Int) == 0) = false := beq_eq_false_iff_ne.2 (by omega)
    have HQ := Lib.hid (hcq.trans (if_neg hg))
    have HCC := Lib.hid (hna hg)
    have HRC := Lib.hid hRc
    have HNG := Lib.hid hg
    clear hag hna hg hcq hRc
    go_wp2_with fail
    exact bodyPost_ret (v := .tuple #[.slice A8 c.length c8, .int .i64 0]) (by simp [results, Try.results20, go_sem]) rfl (⟨_, c, by rw [HQ.out], HRC.out, fun h => absurd HQ.out h, fun _ => by rw [Int.toNat_natCast]; exact ⟨HCC.out.1, HCC.out.2, HNG.out⟩, by first | exact hC | (rw [hn0]; exact hC)⟩)

set_option maxHeartbeats 8000000 in
set_option maxRecDepth 100000 in
theorem spanP_any (E one two : Int) (ts : List Kt) (v : Value) (w : World) (hl : ts.length ≤ 1000) (h : RT w w.heap.size v ts) :
    Calls Try.prog 24 #[.agg #[.int .i64 E, v], .int .i64 one, .int .i64 two] w fun x w' => x = .returned (spanE E ts one.toNat two.toNat (openE E ts (twoE E one two))) ∧ Below w.heap.size w w' := by
  obtain ⟨b, off, cap, A, rfl, hAx⟩ := h.slice
  clear hAx
  have hR := h
  clear h
  obtain ⟨n0, hn0⟩ : ∃ n, w.heap.size = n := ⟨_, rfl⟩
  have hC : Below n0 w w := Below.refl _ _
  go_enter Try.func24, Try.ntmps24
  go_upto_region 1 with fail
  have hqbx : n0 ≤ n0 := by have := hC.size; omega
  have bx : BK (w.alloc (.cells #[.int .i64 E, .slice A ts.length cap] 24)) (n0) #[.int .i64 E, .slice A ts.length cap] 24 := BK.new' _ _ _ (n0) hn0
  have hsbx : (w.alloc (.cells #[.int .i64 E, .slice A ts.length cap] 24)).heap.size = n0 + 1 := by simp [hn0]
  replace hC : Below n0 w (w.alloc (.cells #[.int .i64 E, .slice A ts.length cap] 24)) := Below.alloc hC (by have := hC.size; omega) _
  replace hR := (RS.below hR (w' := (w.alloc (.cells #[.int .i64 E, .slice A ts.length cap] 24))) (Below.alloc (Below.refl _ _) (Nat.le_refl _) _)).more (B' := (w.alloc (.cells #[.int .i64 E, .slice A ts.length cap] 24)).heap.size) (by simp)
  generalize (w.alloc (.cells #[.int .i64 E, .slice A ts.length cap] 24)) = Wbx at *
  have hqrs : n0 ≤ n0 + 1 := by have := hC.size; omega
  have rs : BK (Wbx.alloc (.cells #[.int .i64 0, .int .i64 0] 36)) (n0 + 1) #[.int .i64 0, .int .i64 0] 36 := BK.new' _ _ _ (n0 + 1) hsbx
  have hsrs : (Wbx.alloc (.cells #[.int .i64 0, .int .i64 0] 36)).heap.size = n0 + 1 + 1 := by simp [hsbx]
  replace hC : Below n0 w (Wbx.alloc (.cells #[.int .i64 0, .int .i64 0] 36)) := Below.alloc hC (by have := hC.size; omega) _
  replace hR := (RS.below hR (w' := (Wbx.alloc (.cells #[.int .i64 0, .int .i64 0] 36))) (Below.alloc (Below.refl _ _) (Nat.le_refl _) _)).more (B' := (Wbx.alloc (.cells #[.int .i64 0, .int .i64 0] 36)).heap.size) (by simp)
  replace bx := bx.alloc (.cells #[.int .i64 0, .int .i64 0] 36)
  generalize (Wbx.alloc (.cells #[.int .i64 0, .int .i64 0] 36)) = Wrs at *
  clear hsbx
  have lbx := bx.lt
  have bxc0 := bx.cell 0
  have bxc1 := bx.cell 1
  simp at bxc0 bxc1
  clear hsrs
  refine wp_region_noPanic (plain_any [0, 1, 2, 3, 6, 7, 8] (Below Wrs.heap.size Wrs) mixed ?_)
  (refine any_take 0 ?_ (by rfl) (by kernel_rfl) (fun _ _ _ _ _ hx => hx.elim) (.inl ⟨by rfl, ?_⟩) (by exact bel_of) ?_; rotate_left; (intro X hX; obtain ⟨r1, r2⟩ := Below.rules hX; clear hX; go_simp; rfl); simp only [List.getElem_toArray, List.getElem_cons_succ, List.getElem_cons_zero, Act.put, List.setIfInBounds_toArray, List.set_cons_succ, List.set_cons_zero])
  have d0z : Below Wrs.heap.size Wrs Wrs.drew := by exact bel_of
  (refine any_take 1 ?_ (by rfl) (by kernel_rfl) (fun _ _ _ _ _ hx => hx.elim) (.inl ⟨by rfl, ?_⟩) (by exact bel_of) ?_; rotate_left; (intro X hX; obtain ⟨r1, r2⟩ := Below.rules hX; clear hX; go_simp; rfl); simp only [List.getElem_toArray, List.getElem_cons_succ, List.getElem_cons_zero, Act.put, List.setIfInBounds_toArray, List.set_cons_succ, List.set_cons_zero])
  (refine any_take 2 ?_ (by rfl) (by kernel_rfl) (fun _ _ _ _ _ hx => hx.elim) (.inl ⟨by rfl, ?_⟩) (by exact bel_of) ?_; rotate_left; (intro X hX; obtain ⟨r1, r2⟩ := Below.rules hX; clear hX; go_simp; rfl); simp only [List.getElem_toArray, List.getElem_cons_succ, List.getElem_cons_zero, Act.put, List.setIfInBounds_toArray, List.set_cons_succ, List.set_cons_zero])
  (refine any_take 3 ?_ (by rfl) (by kernel_rfl) (fun _ _ _ _ _ hx => hx.elim) (.inl ⟨by rfl, ?_⟩) (by exact bel_of) ?_; rotate_left; (intro X hX; obtain ⟨r1, r2⟩ := Below.rules hX; clear hX; go_simp; rfl); simp only [List.getElem_toArray, List.getElem_cons_succ, List.getElem_cons_zero, Act.put, List.setIfInBounds_toArray, List.set_cons_succ, List.set_cons_zero])
  have qz1 := d0z.size
  refine any_run1 (i := 4) (by kernel_rfl) (by rfl) (by kernel_rfl) ?_
  intro K hK
  go_wp2_with fail
  refine (edgesE_any E one two _ _).mono ?_
  rintro e vz1 ⟨r, rfl, hr, hb⟩
  have ez1 : Below Wrs.heap.size Wrs vz1 := d0z.trans (hb.mono d0z.size)
  clear hb
  refine hK _ _ (fun _ => ez1) ?_
  clear hK K
  have qz2 := ez1.size
  refine any_run1 (i := 5) (by kernel_rfl) (by rfl) (by kernel_rfl) ?_
  intro K hK
  go_wp2_with fail
  refine (open_any E r ts _ _ hl ((RS.below hR ez1).more ez1.size)).mono ?_
  rintro e vz2 ⟨p, rfl, hop, hb⟩
  replace hop := fun h0 => hop h0
  have ez2 : Below Wrs.heap.size Wrs vz2 := ez1.trans (hb.mono ez1.size)
  clear hb
  refine hK _ _ (fun _ => ez2) ?_
  clear hK K
  (refine any_take 6 ?_ (by rfl) (by kernel_rfl) (fun _ _ _ _ _ hx => hx.elim) (.inl ⟨by rfl, ?_⟩) (by exact bel_of) ?_; rotate_left; (intro X hX; obtain ⟨r1, r2⟩ := Below.rules hX; clear hX; go_simp; rfl); simp only [List.getElem_toArray, List.getElem_cons_succ, List.getElem_cons_zero, Act.put, List.setIfInBounds_toArray, List.set_cons_succ, List.set_cons_zero])
  (refine any_take 7 ?_ (by rfl) (by kernel_rfl) (fun _ _ _ _ _ hx => hx.elim) (.inl ⟨by rfl, ?_⟩) (by exact bel_of) ?_; rotate_left; (intro X hX; obtain ⟨r1, r2⟩ := Below.rules hX; clear hX; go_simp; rfl); simp only [List.getElem_toArray, List.getElem_cons_succ, List.getElem_cons_zero, Act.put, List.setIfInBounds_toArray, List.set_cons_succ, List.set_cons_zero])
  (refine any_take 8 ?_ (by rfl) (by kernel_rfl) (fun _ _ _ _ _ hx => hx.elim) (.inl ⟨by rfl, ?_⟩) (by exact bel_of) ?_; rotate_left; (intro X hX; obtain ⟨r1, r2⟩ := Below.rules hX; clear hX; go_simp; rfl); simp only [List.getElem_toArray, List.getElem_cons_succ, List.getElem_cons_zero, Act.put, List.setIfInBounds_toArray, List.set_cons_succ, List.set_cons_zero])
  refine any_run1 (i := 9) (by kernel_rfl) (by rfl) (by kernel_rfl) ?_
  intro K hK
  go_wp2_with fail
  refine hK _ _ (fun _ => ez2) ?_
  clear hK K
  refine any_run1 (i := 10) (by kernel_rfl) (by rfl) (by kernel_rfl) ?_
  intro K hK
  go_wp2_with fail
  refine hK _ _ (fun _ => ez2) ?_
  clear hK K
  refine any_done (by kernel_rfl) (NoPanic.normal ?_)
  have hb := ez2
  replace hC : Below n0 w vz2 := hC.trans (hb.mono (by have := hC.size; omega))
  replace hR := (RS.below hR hb).more hb.size
  replace bx := bx.below hb bx.lt
  replace rs := rs.below hb rs.lt
  clear hb
  clear lbx bxc0 bxc1
  obtain ⟨e, he⟩ : ∃ e, openE E ts r = e := ⟨_, rfl⟩
  have HE := Lib.hid ((openE_congr hr).symm.trans he)
  rw [he] at hop ⊢
  clear he hr
  by_cases h0 : e = 0
  case neg =>
    clear hop
    have b1 : (e != 0) = true := by simp [h0]
    have HS := Lib.hid (spanE_bad (E := E) (ts := ts) (one := one.toNat) (two := two.toNat) h0)
    clear h0
    have lrs := rs.lt
    have rsc0 := rs.cell 0
    have rsc1 := rs.cell 1
    simp at rsc0 rsc1
    have rsf0 := rs.frozen 0
    have rsf1 := rs.frozen 1
    go_wp2_with fail
    clear lrs rsc0 rsc1
    clear rsf0 rsf1
    replace hC : Below n0 w ((vz2.setCell ⟨n0 + 1, 0, none⟩ (.int .i64 0)).setCell ⟨n0 + 1, 1, none⟩ (.int .i64 0)) := Below.setCell (Below.setCell hC (by show n0 ≤ n0 + 1; omega) _) (by show n0 ≤ n0 + 1; omega) _
    replace rs := fin_range rs 0 0
    have z0 := rs.cell 0
    have z1 := rs.cell 1
    simp at z0 z1
    exact bodyPost_ret (v := .tuple #[.agg #[.int .i64 0, .int .i64 0], .int .i64 e]) (by simp [results, Try.results24, go_sem, z0, z1]) rfl ⟨by rw [HE.out, HS.out], by first | exact hC | (rw [hn0]; exact hC) | (with_reducible rw [hn0]; exact bel_of) | exact bel_of⟩
  subst h0
  obtain ⟨N, rfl, ho, hl40, h2, hg, hbk⟩ := openE_ok HE.out
  obtain ⟨u, v, rfl, rfl, hu, hv, huv⟩ := twoE_nat h2
  obtain ⟨gb, rfl, hBn, hgb, hRg⟩ := hop rfl
  rw [Int.toNat_natCast] at hBn
  have HO := Lib.hid ho
  have HG := Lib.hid hg
  clear ho h2 hg hbk huv hop
  have HS := Lib.hid (spanE_ok (N := N) (ts := ts) (one := u) (two := v))
  go_wp2_with fail
  refine (span_any N _ ts _ 0 gb u v _ HO.out HG.out hl40 ⟨Int.le_refl 0, by have := HO.out.pos; omega⟩ (by omega) (by omega) hBn).mono ?_
  rintro e w1 ⟨rfl, hb⟩
  replace hC : Below n0 w w1 := hC.trans (hb.mono (by have := hC.size; omega))
  replace hR := (RS.below hR hb).more hb.size
  replace bx := bx.below hb bx.lt
  replace rs := rs.below hb rs.lt
  clear hb
  have lrs := rs.lt
  have rsc0 := rs.cell 0
  have rsc1 := rs.cell 1
  simp at rsc0 rsc1
  have rsf0 := rs.frozen 0
  have rsf1 := rs.frozen 1
  clear hBn
  unfold spanA at HS ⊢
  generalize D N ts u v = dlo at *
  generalize D N ts v u = dhi at *
  go_wp2_with fail
  clear lrs rsc0 rsc1
  clear rsf0 rsf1
  replace hC : Below n0 w ((w1.setCell ⟨n0 + 1, 0, none⟩ (.int .i64 (-dlo))).setCell ⟨n0 + 1, 1, none⟩ (.int .i64 dhi)) := Below.setCell (Below.setCell hC (by show n0 ≤ n0 + 1; omega) _) (by show n0 ≤ n0 + 1; omega) _
  replace rs := fin_range rs (-dlo) dhi
  have z0 := rs.cell 0
  have z1 := rs.cell 1
  simp at z0 z1
  exact bodyPost_ret (v := .tuple #[.agg #[.int .i64 (-dlo), .int .i64 dhi], .int .i64 0]) (by simp [results, Try.results24, go_sem, z0, z1]) rfl ⟨by rw [HE.out, Int.toNat_natCast, Int.toNat_natCast, HS.out], by first | exact hC | (rw [hn0]; exact hC) | (with_reducible rw [hn0]; exact bel_of) | exact bel_of⟩

end Go.Proofs.Ytkljdbgkhghiaaa
