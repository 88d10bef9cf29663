/- Pulls: pulls that prove what best blows cost. -/
import Derived.Test.YtgbegdjakadbbaaP18
import Derived.Test.YtgbegdjakadbbaaP20
set_option linter.all false
set_option linter.unnecessarySimpa false
set_option linter.unusedSimpArgs false
set_option linter.unusedVariables false
set_option linter.unusedSectionVars false

set_option linter.all false
attribute [local go_sem] Go.Oper.semAt_some
namespace Go.Proofs.Ytgbegdjakadbbaa
open Go.RowKit Vp

/-- The pulls of any blade, and the error. -/
def plsX (l : List St) (m : Int) : List Int := if blaE l m = 0 ∧ tgo m l 0 < never then pulK m l (grd m l 0) else []
def plsE (l : List St) (m : Int) : Int := if blaE l m = 0 then (if tgo m l 0 < never then 0 else 18) else blaE l m
set_option maxHeartbeats 8000000 in
set_option maxRecDepth 100000 in
theorem Pulls_any (l : List St) (v : Value) (m : Int) (w : World) (hl : l.length ≤ 1000) (hT : RT w w.heap.size v l) :
    Calls Try.prog 36 #[bV v m] w fun e w' => ∃ u, e = .returned (.tuple #[u, .int .i64 (plsE l m)]) ∧ OwnI 2 w' w.heap.size u (plsX l m) ∧ Below w.heap.size w w' := by
  unfold bV
  obtain ⟨b, off, cap, A, rfl, -, hcap⟩ := hT.slice
  obtain ⟨n0, hn0⟩ : ∃ n, w.heap.size = n := ⟨_, rfl⟩
  have hC : Below n0 w w := Below.refl _ _
  go_enter Try.func36, Try.ntmps36
  go_upto_region 1 with fail
  have hqbx : n0 ≤ n0 := by have := hC.size; omega
  have bx : BK (w.alloc (.cells #[.slice A l.length cap, .int .i64 m] 24)) (n0) #[.slice A l.length cap, .int .i64 m] 24 := BK.new' _ _ _ (n0) hn0
  have hsbx : (w.alloc (.cells #[.slice A l.length cap, .int .i64 m] 24)).heap.size = n0 + 1 := by simp [hn0]
  replace hC : Below n0 w (w.alloc (.cells #[.slice A l.length cap, .int .i64 m] 24)) := Below.alloc hC (by have := hC.size; omega) _
  replace hT := (RS.below hT (w' := (w.alloc (.cells #[.slice A l.length cap, .int .i64 m] 24))) (Below.alloc (Below.refl _ _) (Nat.le_refl _) _)).more (B' := (w.alloc (.cells #[.slice A l.length cap, .int .i64 m] 24)).heap.size) (by simp)
  generalize (w.alloc (.cells #[.slice A l.length cap, .int .i64 m] 24)) = Wbx at *
  have lbx := bx.lt
  have bxc0 := bx.cell 0
  have bxc1 := bx.cell 1
  simp at bxc0 bxc1
  go_wp2_with fail
  clear lbx bxc0 bxc1
  have hn2 := hC.size
  clear hsbx
  refine (open_any l _ m _ hl hT).mono ?_
  rintro e w1 ⟨p, rfl, hop, hb⟩
  replace hC : Below n0 w w1 := hC.trans (hb.mono (by have := hC.size; omega))
  clear hb hT bx
  obtain ⟨e, he⟩ : ∃ e, blaE l m = e := ⟨_, rfl⟩
  rw [he] at hop ⊢
  have HC := Lib.hid hC
  clear hC
  by_cases h0 : e = 0
  case neg =>
    have HE := Lib.hid (show plsE l m = e ∧ plsX l m = [] from ⟨by unfold plsE; rw [he, if_neg h0], by unfold plsX; rw [he, if_neg (by simp [h0])]⟩)
    have b1 : (e != 0) = true := by simp [h0]
    clear he h0 hop
    go_wp2_with fail
    refine bodyPost_ret (v := .tuple #[.slice none 0 0, .int .i64 e]) (by simp [results, Try.results36, go_sem]) rfl ?_
    rw [HE.out.1, HE.out.2, hn0]
    exact ⟨_, rfl, OwnI.nil _ _ _, HC.out⟩
  subst h0
  obtain ⟨gb, rfl, hgb, hBn⟩ := hop rfl
  obtain ⟨-, h20, hall, hm0, hm1⟩ := blaE_ok.1 he
  have HBE := Lib.hid (best_any gb l m w1 hBn hall ⟨hm0, hm1⟩ h20)
  have HOB := Lib.hid (blaE_ok.1 he)
  have HBN := Lib.hid hBn
  have hgl := grd_length m l 0
  clear hop hBn hall hm0 hm1
  go_wp2_with fail
  refine HBE.out.mono ?_
  rintro e w2 ⟨v2, rfl, hown, hb2⟩
  have HC2 := Lib.hid (HC.out.trans (hb2.mono (hn0 ▸ HC.out.size)))
  have HO := Lib.hid hown
  have hw12 := hb2.size
  have HB12 := Lib.hid hb2
  clear HBE hown hb2
  obtain ⟨c, hc⟩ : ∃ c, tgo m l 0 = c := ⟨_, rfl⟩
  rw [hc]
  have hnv : never = 1099511627776 := rfl
  by_cases hlt : c < never
  case neg =>
    have HE := Lib.hid (show plsE l m = 18 ∧ plsX l m = [] from ⟨by unfold plsE; rw [if_pos he, hc, if_neg hlt], by unfold plsX; rw [hc, if_neg (fun h => hlt h.2)]⟩)
    have d1 : decide (1099511627776 ≤ c) = true := decide_eq_true (by rw [hnv] at hlt; omega)
    clear hnv hc he hlt hgl
    go_wp2_with fail
    refine bodyPost_ret (v := .tuple #[.slice none 0 0, .int .i64 18]) (by simp [results, Try.results36, go_sem]) rfl ?_
    rw [HE.out.1, HE.out.2, hn0]
    exact ⟨_, rfl, OwnI.nil _ _ _, HC2.out⟩
  have HE := Lib.hid (show plsE l m = 0 ∧ plsX l m = pulK m l (grd m l 0) from ⟨by unfold plsE; rw [if_pos he, hc, if_pos hlt], by unfold plsX; rw [hc, if_pos ⟨he, hlt⟩]⟩)
  have hbl : bestL m l = grd m l 0 := by unfold bestL; rw [hc, if_pos hlt]
  have d1 : decide (1099511627776 ≤ c) = false := decide_eq_false (by rw [hnv] at hlt; omega)
  have hfe := (grd_spec (m := m) (l := l) (f := 0) HOB.out.all (by rw [hc]; exact hlt)).1
  have hv := HO.out.ri
  rw [hbl] at hv
  have hB2 := (HBN.out.below HB12.out).more HB12.out.size
  have HPU := Lib.hid (pulls_any gb l m (grd m l 0) v2 w2 hB2 HOB.out.all ⟨HOB.out.lo, HOB.out.hi⟩ HOB.out.few hfe hv)
  clear hnv hc he hlt hbl HO hv hB2 hfe HB12
  go_wp2_with fail
  refine HPU.out.mono ?_
  rintro e w3 ⟨v3, rfl, hown3, hb3⟩
  have HO3 := Lib.hid (own_more hown3 (show n0 ≤ w2.heap.size by have := HC2.out.size; omega))
  have HC3 := Lib.hid (HC2.out.trans (hb3.mono (by have := HC2.out.size; omega)))
  clear HPU hown3 hb3
  go_wp2_with fail
  refine bodyPost_ret (v := .tuple #[v3, .int .i64 0]) (by simp [results, Try.results36, go_sem]) rfl ?_
  rw [HE.out.1, HE.out.2, hn0]
  exact ⟨_, rfl, HO3.out, HC3.out⟩
end Go.Proofs.Ytgbegdjakadbbaa
