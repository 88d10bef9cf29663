/- Clash of the program. -/
import Derived.Test.YtgbegdjakadbbaaP19
import Derived.WalkMore
import Derived.Deep.QuietTactic
import Derived.BigQuiet
set_option linter.all false
set_option linter.unnecessarySimpa false
set_option linter.unusedSimpArgs false
set_option linter.unusedVariables false
set_option linter.unusedSectionVars false

set_option linter.all false
attribute [local go_sem] Go.Oper.semAt_some
namespace Go.Proofs.Ytgbegdjakadbbaa
open Go.RowKit Vp

/-- Two tubes that no blows between them reach. -/
def clB (l : List St) (m : Int) (i k : Nat) : Bool := decide (m * ((k : Int) - i) < (nthB (tubes l) i).lo - (nthB (tubes l) k).hi) || decide (m * ((k : Int) - i) < (nthB (tubes l) k).lo - (nthB (tubes l) i).hi)
/-- What Clash says of a valid blade: the first pair, or that there is none. -/
def ClP (l : List St) (m : Int) (a b e : Int) : Prop :=
  (∃ i k : Nat, i < k ∧ k ≤ l.length ∧ clB l m i k = true ∧ (∀ i' k' : Nat, i' < k' → k' ≤ l.length → (i' < i ∨ i' = i ∧ k' < k) → clB l m i' k' = false) ∧ a = (i : Int) - 1 ∧ b = (k : Int) - 1 ∧ e = 0) ∨
    ((∀ i k : Nat, i < k → k ≤ l.length → clB l m i k = false) ∧ a = 0 ∧ b = 0 ∧ e = 5)
/-- What Clash says of any blade. -/
def ClQ (l : List St) (m : Int) (a b e : Int) : Prop := if blaE l m = 0 then ClP l m a b e else a = 0 ∧ b = 0 ∧ e = blaE l m
theorem ClQ.ok {l : List St} {m a b e : Int} (h : blaE l m = 0) (hc : ClP l m a b e) : ClQ l m a b e := by unfold ClQ; rw [if_pos h]; exact hc
theorem ClQ.no {l : List St} {m e : Int} (h : blaE l m = e) (hn : e ≠ 0) : ClQ l m 0 0 e := by unfold ClQ; rw [h, if_neg hn]; exact ⟨rfl, rfl, rfl⟩
theorem _root_.Go.RowKit.Below.drewN' {B : Nat} {a w : World} (h : Below B a w) (n : Nat) : Below B a (w.drewN n) := belowN h n
theorem tubes_rng {l : List St} (h : ∀ s ∈ l, okSB s = true) {i : Nat} (hi : i ≤ l.length) : -200 ≤ (nthB (tubes l) i).lo ∧ (nthB (tubes l) i).lo ≤ (nthB (tubes l) i).hi ∧ (nthB (tubes l) i).hi ≤ 200 := by
  cases i with
  | zero => rw [tubes_zero]; decide
  | succ i => rw [tubes_at (by omega)]; exact tub_rng (h _ (nthS_mem (by omega)))

set_option maxHeartbeats 8000000 in
set_option maxRecDepth 100000 in
theorem Clash_any (l : List St) (v : Value) (m : Int) (w : World) (hl : l.length ≤ 1000) (hT : RT w w.heap.size v l) :
    Calls Try.prog 20 #[bV v m] w fun e w' => ∃ a b er, e = .returned (.tuple #[.int .i64 a, .int .i64 b, .int .i64 er]) ∧ ClQ l m a b er ∧ Below w.heap.size w w' := by
  unfold bV
  obtain ⟨b, off, cap, A, rfl, -, hcap⟩ := hT.slice
  obtain ⟨n0, hn0⟩ : ∃ n, w.heap.size = n := ⟨_, rfl⟩
  have hC : Below n0 w w := Below.refl _ _
  go_enter Try.func20, Try.ntmps20
  go_upto_region 1 with fail
  have hqbx : n0 ≤ n0 := by have := hC.size; omega
  have bx : BK (w.alloc (.cells #[.slice A l.length cap, .int .i64 m] 24)) (n0) #[.slice A l.length cap, .int .i64 m] 24 := BK.new' _ _ _ (n0) hn0
  have hsbx : (w.alloc (.cells #[.slice A l.length cap, .int .i64 m] 24)).heap.size = n0 + 1 := by simp [hn0]
  replace hC : Below n0 w (w.alloc (.cells #[.slice A l.length cap, .int .i64 m] 24)) := Below.alloc hC (by have := hC.size; omega) _
  replace hT := (RS.below hT (w' := (w.alloc (.cells #[.slice A l.length cap, .int .i64 m] 24))) (Below.alloc (Below.refl _ _) (Nat.le_refl _) _)).more (B' := (w.alloc (.cells #[.slice A l.length cap, .int .i64 m] 24)).heap.size) (by simp)
  generalize (w.alloc (.cells #[.slice A l.length cap, .int .i64 m] 24)) = Wbx at *
  have lbx := bx.lt
  have bxc0 := bx.cell 0
  have bxc1 := bx.cell 1
  simp at bxc0 bxc1
  go_wp2_with fail
  go_step3
  go_wp2_with fail
  clear lbx bxc0 bxc1
  have hn2 := hC.size
  clear hsbx
  refine (open_any l _ m _ hl hT).mono ?_
  rintro e w1 ⟨p, rfl, hop, hb⟩
  replace hC : Below n0 w w1 := hC.trans (hb.mono (by have := hC.size; omega))
  replace bx := bx.below hb bx.lt
  clear hb hT
  obtain ⟨e, he⟩ : ∃ e, blaE l m = e := ⟨_, rfl⟩
  rw [he] at hop ⊢
  have HC := Lib.hid hC
  clear hC
  by_cases h0 : e = 0
  case neg =>
    have HN := Lib.hid h0
    have HE := Lib.hid he
    have b1 : (e != 0) = true := by simp [h0]
    clear he h0 hop
    go_wp2_with fail
    try rw [Exit.noGoto_ret]
    refine bodyPost_ret (v := .tuple #[.int .i64 0, .int .i64 0, .int .i64 e]) (by simp [results, Try.results20, go_sem]) rfl ?_
    rw [hn0]
    exact ⟨0, 0, e, rfl, ClQ.no HE.out HN.out, HC.out⟩
  subst h0
  obtain ⟨gb, rfl, hgb, hBn⟩ := hop rfl
  obtain ⟨-, h20, hall, hm0, hm1⟩ := blaE_ok.1 he
  have HALL := Lib.hid hall
  have HE := Lib.hid he
  obtain ⟨vs, vt, hB0, hgB, -, hR⟩ := hBn
  obtain ⟨At, ct, bt, ot, rfl, hA, hc⟩ := RR.cells hR
  have htl := tubes_len l
  obtain ⟨rfl, hbt⟩ := hA (by omega)
  rw [htl] at hB0
  have HCELL := Lib.hid hc
  have HB0 := Lib.hid hB0
  have HBX := Lib.hid bx
  have hgw := hB0.lt
  have HTL := Lib.hid htl
  have c2 := hB0.cell 2
  have bxc1 := bx.cell 1
  have bxc0 := bx.cell 0
  have bxl := bx.lt
  clear hop hall he hR hA hc htl hB0 bx
  simp at c2 bxc0 bxc1
  have hN : ((l.length + 1 : Nat) : Int) = (l.length : Int) + 1 := by omega
  obtain ⟨N, hNe⟩ : ∃ N, l.length + 1 = N := ⟨_, rfl⟩
  have HNE := Lib.hid hNe
  rw [hNe] at c2 HB0
  have hN21 : N ≤ 21 := by omega
  clear hN hNe
  have HBT := Lib.hid hbt
  go_wp2_with fail
  go_step3
  go_wp2_with fail
  clear c2 bxc0 bxc1 bxl hgB hbt
  go_loopw [7, 8, 25] (fun v7 v8 iv wr => Below w1.heap.size w1 wr ∧ v7 = .int .i64 0 ∧ v8 = .int .i64 (-1) ∧ ∃ i : Nat, i ≤ N ∧ iv = .int .i64 i ∧ (∀ i' k' : Nat, i' < k' → k' < N → i' < i → clB l m i' k' = false)) (fun _ _ iv _ => N - (intOf iv).toNat)
  case atStart => exact ⟨Below.refl _ _, rfl, rfl, 0, Nat.zero_le _, rfl, fun i' k' _ _ h => absurd h (by omega)⟩
  case round =>
    obtain ⟨hbr, rfl, rfl, i, hi, rfl, hno⟩ := hrel
    have HNO := Lib.hid hno
    have HBR := Lib.hid hbr
    clear hno hbr
    have B0r := HB0.out.below HBR.out HB0.out.lt
    have BXr := HBX.out.below HBR.out HBX.out.lt
    have c2 := B0r.cell 2
    have bxc1 := BXr.cell 1
    have bxc0 := BXr.cell 0
    have bxl := BXr.lt
    have hgB := B0r.lt
    have hbt : bt < wr.heap.size := Nat.lt_of_lt_of_le HBT.out HBR.out.size
    simp at c2 bxc0 bxc1
    clear B0r BXr
    by_cases hlt : i < N
    case neg =>
      have hlt' : ¬ (i : Int) < (N : Int) := by omega
      have HP := Lib.hid (show ClP l m 0 0 5 from .inr ⟨fun i' k' h1 h2 => HNO.out i' k' h1 (by have := HNE.out; omega) (by have := HNE.out; omega), rfl, rfl, rfl⟩)
      go_wp2_with fail
      try rw [Exit.noGoto_ret]
      refine bodyPost_ret (v := .tuple #[.int .i64 0, .int .i64 0, .int .i64 5]) (by simp [results, Try.results20, go_sem]) rfl ?_
      rw [hn0]
      exact ⟨0, 0, 5, rfl, ClQ.ok HE.out HP.out, HC.out.trans (HBR.out.mono (hn0 ▸ HC.out.size))⟩
    have hlt' : (i : Int) < (N : Int) := by omega
    have wi : IntKind.i64.wrap ((i : Int) + 1) = (i : Int) + 1 := by rw [IntKind.wrap_i64]; omega
    go_wp2_with fail
    clear c2 bxc0 bxc1 bxl hgB hbt
    go_loopw [7, 8, 10] (fun v7 v8 kv wr => Below w1.heap.size w1 wr ∧ v7 = .int .i64 0 ∧ v8 = .int .i64 (-1) ∧ ∃ k : Nat, i < k ∧ k ≤ N ∧ kv = .int .i64 k ∧ (∀ k' : Nat, i < k' → k' < k → clB l m i k' = false)) (fun _ _ kv _ => N - (intOf kv).toNat)
    case atStart => exact ⟨HBR.out, rfl, rfl, i + 1, by omega, by omega, by go_num, fun k' h1 h2 => absurd h1 (by omega)⟩
    case round =>
      obtain ⟨hbr, rfl, rfl, k, hik, hk, rfl, hnk⟩ := hrel
      have HNK := Lib.hid hnk
      have HBK := Lib.hid hbr
      clear hnk hbr HBR
      have B0r := HB0.out.below HBK.out HB0.out.lt
      have BXr := HBX.out.below HBK.out HBX.out.lt
      have c2 := B0r.cell 2
      have bxc1 := BXr.cell 1
      have bxc0 := BXr.cell 0
      have bxl := BXr.lt
      have hgB := B0r.lt
      have hbt : bt < wr.heap.size := Nat.lt_of_lt_of_le HBT.out HBK.out.size
      simp at c2 bxc0 bxc1
      clear B0r BXr
      by_cases hlk : k < N
      case neg =>
        have hlk' : ¬ (k : Int) < (N : Int) := by omega
        go_wp2_with fail
        go_roundw
        case rel =>
          refine ⟨HBK.out, by trivial, by trivial, i + 1, by omega, by go_num, fun i' k' h1 h2 h3 => ?_⟩
          rcases Nat.lt_succ_iff_lt_or_eq.1 h3 with h4 | rfl
          · exact HNO.out i' k' h1 h2 h4
          · exact HNK.out k' h1 (by omega)
        case measure => simp [intOf]; omega
      have hlk' : (k : Int) < (N : Int) := by omega
      have wd : IntKind.i64.wrap ((k : Int) - (i : Int)) = (k : Int) - (i : Int) := by rw [IntKind.wrap_i64]; omega
      have h1 : m * ((k : Int) - i) ≤ 200 * 21 := Int.mul_le_mul hm1 (by omega) (by omega) (by omega)
      have h2 : 0 ≤ m * ((k : Int) - i) := Int.mul_nonneg hm0 (by omega)
      have wm : IntKind.i64.wrap (m * ((k : Int) - (i : Int))) = m * ((k : Int) - (i : Int)) := by rw [IntKind.wrap_i64]; omega
      have HF := Lib.hid (And.intro h1 h2)
      clear h1 h2
      have wi2 : IntKind.i64.wrap ((i : Int) - 1) = (i : Int) - 1 := by rw [IntKind.wrap_i64]; omega
      have wk2 : IntKind.i64.wrap ((k : Int) - 1) = (k : Int) - 1 := by rw [IntKind.wrap_i64]; omega
      have wk1 : IntKind.i64.wrap ((k : Int) + 1) = (k : Int) + 1 := by rw [IntKind.wrap_i64]; omega
      obtain ⟨x0, x1⟩ := HCELL.out i (by rw [HTL.out, HNE.out]; exact hlt)
      obtain ⟨y0, y1⟩ := HCELL.out k (by rw [HTL.out, HNE.out]; exact hlk)
      rw [← HBK.out.cell (by exact HBT.out)] at x0 x1 y0 y1
      have hcb : clB l m i k = (decide (m * ((k : Int) - i) < (nthB (tubes l) i).lo - (nthB (tubes l) k).hi) || decide (m * ((k : Int) - i) < (nthB (tubes l) k).lo - (nthB (tubes l) i).hi)) := rfl
      have r1 := tubes_rng HALL.out (show i ≤ l.length by have := HNE.out; omega)
      have r2 := tubes_rng HALL.out (show k ≤ l.length by have := HNE.out; omega)
      generalize nthB (tubes l) i = X at *
      generalize nthB (tubes l) k = Y at *
      have wx : IntKind.i64.wrap (X.lo - Y.hi) = X.lo - Y.hi := by rw [IntKind.wrap_i64]; omega
      have wy : IntKind.i64.wrap (Y.lo - X.hi) = Y.lo - X.hi := by rw [IntKind.wrap_i64]; omega
      clear r1 r2
      go_upto_region 12 with fail
      obtain ⟨F, hF⟩ : ∃ F, m * ((k : Int) - (i : Int)) = F := ⟨_, rfl⟩
      rw [hF] at hcb ⊢
      have HFF := Lib.hid hF
      clear hF wm
      obtain ⟨q1, hq1⟩ : ∃ q, decide (F < X.lo - Y.hi) = q := ⟨_, rfl⟩
      obtain ⟨q2, hq2⟩ : ∃ q, decide (F < Y.lo - X.hi) = q := ⟨_, rfl⟩
      rw [hq1, hq2] at hcb
      have HCB := Lib.hid hcb
      clear hcb
      cases q1 with
      | true =>
        have HPQ := Lib.hid (show ClP l m ((i : Int) - 1) ((k : Int) - 1) 0 from .inl ⟨i, k, hik, by have := HNE.out; omega, HCB.out, fun i' k' h1 h2 h3 => by
          rcases h3 with h3 | ⟨rfl, h3⟩
          · exact HNO.out i' k' h1 (by have := HNE.out; omega) h3
          · exact HNK.out k' h1 h3, rfl, rfl, rfl⟩)
        have hkp : ¬ ((k : Int) - 1 < 0) := by omega
        go_quiet (fail)
        go_wp2_with fail
        try rw [Exit.noGoto_ret]
        refine bodyPost_ret (v := .tuple #[.int .i64 ((i : Int) - 1), .int .i64 ((k : Int) - 1), .int .i64 0]) (by simp [results, Try.results20, go_sem]) rfl ?_
        rw [hn0]
        exact ⟨_, _, 0, rfl, ClQ.ok HE.out HPQ.out, (HC.out.trans (HBK.out.mono (hn0 ▸ HC.out.size))).drewN' _⟩
      | false =>
        cases q2 with
        | true =>
          have HPQ := Lib.hid (show ClP l m ((i : Int) - 1) ((k : Int) - 1) 0 from .inl ⟨i, k, hik, by have := HNE.out; omega, HCB.out, fun i' k' h1 h2 h3 => by
            rcases h3 with h3 | ⟨rfl, h3⟩
            · exact HNO.out i' k' h1 (by have := HNE.out; omega) h3
            · exact HNK.out k' h1 h3, rfl, rfl, rfl⟩)
          have hkp : ¬ ((k : Int) - 1 < 0) := by omega
          go_quiet (fail)
          go_wp2_with fail
          try rw [Exit.noGoto_ret]
          refine bodyPost_ret (v := .tuple #[.int .i64 ((i : Int) - 1), .int .i64 ((k : Int) - 1), .int .i64 0]) (by simp [results, Try.results20, go_sem]) rfl ?_
          rw [hn0]
          exact ⟨_, _, 0, rfl, ClQ.ok HE.out HPQ.out, (HC.out.trans (HBK.out.mono (hn0 ▸ HC.out.size))).drewN' _⟩
        | false =>
          go_quiet (fail)
          go_wp2_with fail
          go_roundw
          case rel =>
            refine ⟨HBK.out.drewN' _, by trivial, by trivial, k + 1, by omega, by omega, by go_num, fun k' h1 h2 => ?_⟩
            rcases Nat.lt_succ_iff_lt_or_eq.1 h2 with h3 | rfl
            · exact HNK.out k' h1 h3
            · exact HCB.out
          case measure => simp [intOf]; omega
end Go.Proofs.Ytgbegdjakadbbaa
