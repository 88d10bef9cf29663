/- KeenChains: the walk. KeenChains: the row. -/
import Derived.Test.YtkljdbgkhghiaaaP27
import Derived.Test.YtkljdbgkhghiaaaP28
import Derived.Test.YtkljdbgkhghiaaaP12
import Derived.Test.YtkljdbgkhghiaaaP20
import Derived.Test.YtkljdbgkhghiaaaP14
import Derived.Test.YtkljdbgkhghiaaaRows
set_option linter.all false
set_option linter.unnecessarySimpa false
set_option linter.unusedSimpArgs false
set_option linter.unusedVariables false
set_option linter.unusedSectionVars false

set_option linter.all false
namespace Go.Proofs.Ytkljdbgkhghiaaa
open Go.RowKit Kp

set_option maxHeartbeats 8000000 in
set_option maxRecDepth 100000 in
theorem keenChains_any (E : Int) (ts : List Kt) (v : Value) (c : List Kl) (uc : Value) (w : World) (h : RT w w.heap.size v ts) (hE : okI E) (hts : ∀ t ∈ ts, okT t) (hl : ts.length ≤ maxLen) (huc : RL w w.heap.size uc c) (hcl : ∀ k ∈ c, okL k) (hlc : c.length ≤ maxLen) :
    Calls Try.prog 3 #[.agg #[.int .i64 E, v], uc] w fun x w' => x = .returned (.bool true) ∧ Below w.heap.size w w' := by
  obtain ⟨b, off, cap, A, rfl, hAx⟩ := h.slice
  clear hAx
  have hR := h
  clear h
  obtain ⟨n0, hn0⟩ : ∃ n, w.heap.size = n := ⟨_, rfl⟩
  have hC : Below n0 w w := Below.refl _ _
  obtain ⟨A_uc, c_uc, rfl⟩ : ∃ A q, uc = .slice A c.length q := by
    obtain ⟨A, cp, b, off, hv, hl, hA, _⟩ := huc
    exact ⟨A, cp, hv⟩
  clear hcl
  clear hE hts
  go_enter Try.func3, Try.ntmps3
  go_wp2_with fail
  have hqbx : n0 ≤ n0 := by have := hC.size; omega
  have bx : BK (w.alloc (.cells #[.int .i64 E, .slice A ts.length cap] 24)) (n0) #[.int .i64 E, .slice A ts.length cap] 24 := BK.new' _ _ _ (n0) hn0
  have hsbx : (w.alloc (.cells #[.int .i64 E, .slice A ts.length cap] 24)).heap.size = n0 + 1 := by simp [hn0]
  replace hC : Below n0 w (w.alloc (.cells #[.int .i64 E, .slice A ts.length cap] 24)) := Below.alloc hC (by have := hC.size; omega) _
  replace hR := (RS.below hR (w' := (w.alloc (.cells #[.int .i64 E, .slice A ts.length cap] 24))) (Below.alloc (Below.refl _ _) (Nat.le_refl _) _)).more (B' := (w.alloc (.cells #[.int .i64 E, .slice A ts.length cap] 24)).heap.size) (by simp)
  replace huc := (RS.below huc (w' := (w.alloc (.cells #[.int .i64 E, .slice A ts.length cap] 24))) (Below.alloc (Below.refl _ _) (Nat.le_refl _) _)).more (B' := (w.alloc (.cells #[.int .i64 E, .slice A ts.length cap] 24)).heap.size) (by simp)
  generalize (w.alloc (.cells #[.int .i64 E, .slice A ts.length cap] 24)) = Wbx at *
  clear hsbx
  refine (great_any E ts _ _ hl hR).mono ?_
  rintro e w1 ⟨rfl, hb⟩
  replace hC : Below n0 w w1 := hC.trans (hb.mono (by have := hC.size; omega))
  replace hR := (RS.below hR hb).more hb.size
  replace huc := (RS.below huc hb).more hb.size
  replace bx := bx.below hb bx.lt
  clear hb
  by_cases h5 : 50 < ts.length
  case pos =>
    rw [decide_eq_true h5]
    clear h5
    go_wp2_with fail
    refine (works_any _).mono ?_
    rintro e w2 ⟨rfl, hb⟩
    replace hC : Below n0 w w2 := hC.trans (hb.mono (by have := hC.size; omega))
    replace hR := (RS.below hR hb).more hb.size
    replace huc := (RS.below huc hb).more hb.size
    replace bx := bx.below hb bx.lt
    clear hb
    go_wp2_with fail
    exact bodyPost_ret (v := .bool true) (by simp [results, Try.results3, go_sem]) rfl ⟨rfl, by first | exact hC | (rw [hn0]; exact hC) | (with_reducible rw [hn0]; exact bel_of) | exact bel_of⟩
  rw [decide_eq_false h5]
  have hl50 : ts.length ≤ 50 := by omega
  by_cases h6 : c.length > 50
  case pos =>
    have h7 : (c.length : Int) > 50 := by omega
    clear h6
    go_wp2_with fail
    refine (works_any _).mono ?_
    rintro e w2 ⟨rfl, hb⟩
    replace hC : Below n0 w w2 := hC.trans (hb.mono (by have := hC.size; omega))
    replace hR := (RS.below hR hb).more hb.size
    replace huc := (RS.below huc hb).more hb.size
    replace bx := bx.below hb bx.lt
    clear hb
    go_wp2_with fail
    exact bodyPost_ret (v := .bool true) (by simp [results, Try.results3, go_sem]) rfl ⟨rfl, by first | exact hC | (rw [hn0]; exact hC) | (with_reducible rw [hn0]; exact bel_of) | exact bel_of⟩
  have hm50 : c.length ≤ 50 := by omega
  have h7 : ¬ (c.length : Int) > 50 := by omega
  clear h6
  clear h5 h7
  have lbx := bx.lt
  have bxc0 := bx.cell 0
  have bxc1 := bx.cell 1
  simp at bxc0 bxc1
  go_wp2_with fail
  clear lbx bxc0 bxc1
  refine (checkChain_any E ts c _ _ _ (by omega) (by omega) hR huc).mono ?_
  rintro e w2 ⟨rfl, hb⟩
  replace hC : Below n0 w w2 := hC.trans (hb.mono (by have := hC.size; omega))
  replace hR := (RS.below hR hb).more hb.size
  replace huc := (RS.below huc hb).more hb.size
  replace bx := bx.below hb bx.lt
  clear hb
  unfold resV
  obtain ⟨⟨r1, r2⟩, hr⟩ : ∃ r, chainR E ts c = r := ⟨_, rfl⟩
  rw [hr]
  have HR := Lib.hid hr
  clear hr
  have lbx := bx.lt
  have bxc0 := bx.cell 0
  have bxc1 := bx.cell 1
  simp at bxc0 bxc1
  go_wp2_with fail
  clear lbx bxc0 bxc1
  refine (refChain_any E ts c _ _ _ (by omega) (by omega) hR huc).mono ?_
  rintro e w3 ⟨rfl, hb⟩
  replace hC : Below n0 w w3 := hC.trans (hb.mono (by have := hC.size; omega))
  replace hR := (RS.below hR hb).more hb.size
  replace huc := (RS.below huc hb).more hb.size
  replace bx := bx.below hb bx.lt
  clear hb
  unfold resV
  rw [HR.out]
  have lbx := bx.lt
  have bxc0 := bx.cell 0
  have bxc1 := bx.cell 1
  simp at bxc0 bxc1
  go_wp2_with fail
  clear lbx bxc0 bxc1
  refine (circleP_any E ts _ _ (by omega) hR).mono ?_
  rintro e w4 ⟨v3, c3, rfl, h31, h32, h33, hb⟩
  replace hC : Below n0 w w4 := hC.trans (hb.mono (by have := hC.size; omega))
  replace hR := (RS.below hR hb).more hb.size
  replace huc := (RS.below huc hb).more hb.size
  replace bx := bx.below hb bx.lt
  clear hb
  obtain ⟨A_3, c_3, rfl⟩ := rl_slice h31
  by_cases hbk : bookE E ts = 0
  case neg =>
    have hce : circleE E ts = bookE E ts := by unfold circleE; rw [if_pos hbk]
    have hc3 : c3 = [] := h32 (by rw [hce]; exact hbk)
    subst hc3
    rw [hce]
    clear hce h32 h33
    obtain ⟨e, he⟩ : ∃ e, bookE E ts = e := ⟨_, rfl⟩
    rw [he] at hbk ⊢
    have HE := Lib.hid he
    clear he
    have lbx := bx.lt
    have bxc0 := bx.cell 0
    have bxc1 := bx.cell 1
    simp at bxc0 bxc1
    go_wp2_with fail
    clear lbx bxc0 bxc1
    refine (refBook_any E ts _ _ (by omega) hR).mono ?_
    rintro e w5 ⟨rfl, hb⟩
    replace hC : Below n0 w w5 := hC.trans (hb.mono (by have := hC.size; omega))
    replace hR := (RS.below hR hb).more hb.size
    replace huc := (RS.below huc hb).more hb.size
    replace bx := bx.below hb bx.lt
    replace h31 := (RS.below h31 hb).more hb.size
    clear hb
    rw [HE.out]
    have b1 : (e == 0) = false := by simp [hbk]
    have lbx := bx.lt
    have bxc0 := bx.cell 0
    have bxc1 := bx.cell 1
    simp at bxc0 bxc1
    go_wp2_with fail
    clear lbx bxc0 bxc1
    refine (refBook_any E ts _ _ (by omega) hR).mono ?_
    rintro e w6 ⟨rfl, hb⟩
    replace hC : Below n0 w w6 := hC.trans (hb.mono (by have := hC.size; omega))
    replace hR := (RS.below hR hb).more hb.size
    replace huc := (RS.below huc hb).more hb.size
    replace bx := bx.below hb bx.lt
    replace h31 := (RS.below h31 hb).more hb.size
    clear hb
    rw [HE.out]
    go_wp2_with fail
    refine (works_any _).mono ?_
    rintro e w7 ⟨rfl, hb⟩
    replace hC : Below n0 w w7 := hC.trans (hb.mono (by have := hC.size; omega))
    replace hR := (RS.below hR hb).more hb.size
    replace huc := (RS.below huc hb).more hb.size
    replace bx := bx.below hb bx.lt
    replace h31 := (RS.below h31 hb).more hb.size
    clear hb
    go_wp2_with fail
    exact bodyPost_ret (v := .bool true) (by simp [results, Try.results3, go_sem]) rfl ⟨rfl, by first | exact hC | (rw [hn0]; exact hC) | (with_reducible rw [hn0]; exact bel_of) | exact bel_of⟩
  obtain ⟨N, rfl, ho, hl40⟩ := bookE_ok hbk
  have HO := Lib.hid ho
  clear ho
  have HE := Lib.hid hbk
  clear hbk
  by_cases ha : Agr N ts
  case pos =>
    have hce : circleE N ts = 5 := by unfold circleE; rw [if_neg (by rw [HE.out]; exact fun h => h rfl), if_pos (by rw [Int.toNat_natCast]; exact ha)]
    have hc3 : c3 = [] := h32 (by rw [hce]; decide)
    subst hc3
    rw [hce]
    clear hce h32 h33
    have HA := Lib.hid ha
    clear ha
    have lbx := bx.lt
    have bxc0 := bx.cell 0
    have bxc1 := bx.cell 1
    simp at bxc0 bxc1
    go_wp2_with fail
    clear lbx bxc0 bxc1
    refine (refBook_any N ts _ _ (by omega) hR).mono ?_
    rintro e w5 ⟨rfl, hb⟩
    replace hC : Below n0 w w5 := hC.trans (hb.mono (by have := hC.size; omega))
    replace hR := (RS.below hR hb).more hb.size
    replace huc := (RS.below huc hb).more hb.size
    replace bx := bx.below hb bx.lt
    replace h31 := (RS.below h31 hb).more hb.size
    clear hb
    rw [HE.out]
    have lbx := bx.lt
    have bxc0 := bx.cell 0
    have bxc1 := bx.cell 1
    simp at bxc0 bxc1
    go_wp2_with fail
    clear lbx bxc0 bxc1
    refine (agreeR_any N ts _ _ HO.out (by omega) hR).mono ?_
    rintro e w6 ⟨rfl, hb⟩
    replace hC : Below n0 w w6 := hC.trans (hb.mono (by have := hC.size; omega))
    replace hR := (RS.below hR hb).more hb.size
    replace huc := (RS.below huc hb).more hb.size
    replace bx := bx.below hb bx.lt
    replace h31 := (RS.below h31 hb).more hb.size
    clear hb
    rw [decide_eq_true HA.out]
    have lbx := bx.lt
    have bxc0 := bx.cell 0
    have bxc1 := bx.cell 1
    simp at bxc0 bxc1
    go_wp2_with fail
    clear lbx bxc0 bxc1
    refine (works_any _).mono ?_
    rintro e w7 ⟨rfl, hb⟩
    replace hC : Below n0 w w7 := hC.trans (hb.mono (by have := hC.size; omega))
    replace hR := (RS.below hR hb).more hb.size
    replace huc := (RS.below huc hb).more hb.size
    replace bx := bx.below hb bx.lt
    replace h31 := (RS.below h31 hb).more hb.size
    clear hb
    go_wp2_with fail
    exact bodyPost_ret (v := .bool true) (by simp [results, Try.results3, go_sem]) rfl ⟨rfl, by first | exact hC | (rw [hn0]; exact hC) | (with_reducible rw [hn0]; exact bel_of) | exact bel_of⟩
  have hce : circleE N ts = 0 := by unfold circleE; rw [if_neg (by rw [HE.out]; exact fun h => h rfl), if_neg (by rw [Int.toNat_natCast]; exact ha)]
  have hX := h33 hce
  rw [Int.toNat_natCast] at hX
  have HX := Lib.hid hX
  rw [hce]
  clear hce h32 h33 hX
  have HA := Lib.hid ha
  clear ha
  have lbx := bx.lt
  have bxc0 := bx.cell 0
  have bxc1 := bx.cell 1
  simp at bxc0 bxc1
  go_wp2_with fail
  clear lbx bxc0 bxc1
  refine (refBook_any N ts _ _ (by omega) hR).mono ?_
  rintro e w5 ⟨rfl, hb⟩
  replace hC : Below n0 w w5 := hC.trans (hb.mono (by have := hC.size; omega))
  replace hR := (RS.below hR hb).more hb.size
  replace huc := (RS.below huc hb).more hb.size
  replace bx := bx.below hb bx.lt
  replace h31 := (RS.below h31 hb).more hb.size
  clear hb
  rw [HE.out]
  have lbx := bx.lt
  have bxc0 := bx.cell 0
  have bxc1 := bx.cell 1
  simp at bxc0 bxc1
  go_wp2_with fail
  clear lbx bxc0 bxc1
  refine (agreeR_any N ts _ _ HO.out (by omega) hR).mono ?_
  rintro e w6 ⟨rfl, hb⟩
  replace hC : Below n0 w w6 := hC.trans (hb.mono (by have := hC.size; omega))
  replace hR := (RS.below hR hb).more hb.size
  replace huc := (RS.below huc hb).more hb.size
  replace bx := bx.below hb bx.lt
  replace h31 := (RS.below h31 hb).more hb.size
  clear hb
  rw [decide_eq_false HA.out]
  have lbx := bx.lt
  have bxc0 := bx.cell 0
  have bxc1 := bx.cell 1
  simp at bxc0 bxc1
  go_wp2_with fail
  clear lbx bxc0 bxc1
  refine (isCircle_any N ts c3 _ _ _ (by omega) (Nat.le_trans HX.out.1.few (by decide)) hR h31).mono ?_
  rintro e w7 ⟨rfl, hb⟩
  replace hC : Below n0 w w7 := hC.trans (hb.mono (by have := hC.size; omega))
  replace hR := (RS.below hR hb).more hb.size
  replace huc := (RS.below huc hb).more hb.size
  replace bx := bx.below hb bx.lt
  replace h31 := (RS.below h31 hb).more hb.size
  clear hb
  rw [show circB N ts c3 = true from circ_circB HE.out HX.out.1 HX.out.2.1]
  go_wp2_with fail
  refine (works_any _).mono ?_
  rintro e w8 ⟨rfl, hb⟩
  replace hC : Below n0 w w8 := hC.trans (hb.mono (by have := hC.size; omega))
  replace hR := (RS.below hR hb).more hb.size
  replace huc := (RS.below huc hb).more hb.size
  replace bx := bx.below hb bx.lt
  replace h31 := (RS.below h31 hb).more hb.size
  clear hb
  go_wp2_with fail
  exact bodyPost_ret (v := .bool true) (by simp [results, Try.results3, go_sem]) rfl ⟨rfl, by first | exact hC | (rw [hn0]; exact hC) | (with_reducible rw [hn0]; exact bel_of) | exact bel_of⟩
end Go.Proofs.Ytkljdbgkhghiaaa

namespace Go.Proofs.Ytkljdbgkhghiaaa.keenChains
open Go.ChangeShapes Go.WideShapes Go.ChangeAt Go.RowKit Go.Deep

set_option maxRecDepth 100000 in
theorem lifted (os : Os) (started : os.Started) (H : Type) (enc : TypeId × Value → H) :
    ReturnsInHanded {} Try.checked os 3 .any (Rows.keenChainsSpec.pre6 enc Try.prog Try.f3 Rows.keenChainsRow.domain false) (Rows.keenChainsSpec.post enc Try.prog Try.f3 false true false false) := by
  refine returnsInHanded_of_change (C := Try.checked) own started (by kernel_rfl) Try.func3
    (ChangeSpec.witness6 (enc := enc) (C := Try.checked) false ⟨#[], #[.agg #[.int .i64 0, .slice none 0 0], .slice none 0 0], []⟩ 8 (by kernel_rfl) (by kernel_rfl) (by kernel_rfl) (by kernel_rfl)) ?_
  intro W base args ds gs before hval0 hW hcnd _
  have hval : ∀ (j : Nat) t v, Try.f3.params[j]? = some t → args[j]? = some v → Value.okWide Try.prog W .any base t v := hval0
  have hW2 : DataW.Whole enc Try.prog Try.f3.params.toList Rows.keenChainsSpec.vars false W args.toList ds gs before := hW
  obtain ⟨p, q, hA0, hV, rfl, hfz, hnd⟩ := hW
  have hA : DataW.TrodAll enc Try.prog W 0 (fun _ => true) true Try.f3.params.toList args.toList ds p := hA0
  rw [Try.params3] at hA hval
  obtain ⟨v0, vs0, d0, ds0, p0, q0, hargs, rfl, rfl, h0, r0⟩ := trodAll_cons hA
  obtain ⟨v1, vs1, d1, ds1, p1, q1, rfl, rfl, rfl, h1, r1⟩ := trodAll_cons r0
  obtain ⟨rfl, rfl, rfl⟩ := trodAll_nil r1
  obtain rfl : args = #[v0, v1] := by cases args; simp_all
  obtain ⟨rfl, rfl⟩ := trodVars_none hV
  obtain ⟨E0, s0, l0, rfl, g0, k0, n0, m0⟩ := open_book (hval 0 24 v0 rfl rfl) h0
  obtain ⟨l1, g1, k1, m1⟩ := open_kls (hval 1 25 v1 rfl rfl) h1
  refine (keenChains_any (E := E0) (ts := l0) (v := s0) (h := g0) (hE := k0) (hts := n0) (hl := m0) (c := l1) (uc := v1) (huc := g1) (hcl := k1) (hlc := m1) (w := W)).mono fun e W' ⟨he, hg⟩ => ?_
  subst he
  exact ⟨_, rfl, law_done hW2 rfl rfl rfl (by rw [Try.params3]; decide +kernel) hg⟩

theorem over : Rows.keenChainsRow.holds Try.pinned (OpenSpec.ofChange Rows.keenChainsSpec) :=
  OpenClaim.holds_of_wide 3 Try.f3 rfl rfl rfl rfl rfl rfl rfl ⟨rfl, rfl, rfl, rfl, rfl⟩ rfl rfl rfl rfl rfl (by kernel_rfl) Try.func3 (by kernel_rfl)
    (of_decide_eq_true (by kernel_rfl)) (by unfold Func.isWrapper; first | (rw [if_pos (by decide +kernel)]; kernel_rfl) | (rw [if_neg (by decide +kernel)]; exact ⟨rfl, rfl⟩))
    (fun os started H enc _ => lifted os started H enc)

theorem proved : Rows.KeenChainsSaid :=
  over
end Go.Proofs.Ytkljdbgkhghiaaa.keenChains
namespace Go.Proofs.Ytkljdbgkhghiaaa
theorem keenChains_proved : Rows.KeenChainsSaid := keenChains.proved
#print axioms keenChains_proved
end Go.Proofs.Ytkljdbgkhghiaaa
