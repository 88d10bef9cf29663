/- KeenThird: the walk. KeenThird: the row. -/
import Derived.Test.YtkljdbgkhghiaaaP27
import Derived.Test.YtkljdbgkhghiaaaP28
import Derived.Test.YtkljdbgkhghiaaaP29
import Derived.Test.YtkljdbgkhghiaaaRows
set_option linter.all false
set_option linter.unnecessarySimpa false
set_option linter.unusedSimpArgs false
set_option linter.unusedVariables false
set_option linter.unusedSectionVars false

set_option linter.all false
namespace Go.Proofs.Ytkljdbgkhghiaaa
open Go.RowKit Kp

set_option maxHeartbeats 8000000 in
set_option maxRecDepth 100000 in
theorem keenThird_any (E : Int) (ts : List Kt) (v : Value) (x3 y3 z3 : Nat) (w : World) (h : RT w w.heap.size v ts) (hE : okI E) (hts : ∀ t ∈ ts, okT t) (hl : ts.length ≤ maxLen) (h3 : x3 ≤ 255 ∧ y3 ≤ 255 ∧ z3 ≤ 255) :
    Calls Try.prog 8 #[.agg #[.int .i64 E, v], .agg #[.int .u8 x3, .int .u8 y3, .int .u8 z3]] w fun x w' => x = .returned (.bool true) ∧ Below w.heap.size w w' := by
  obtain ⟨b, off, cap, A, rfl, hAx⟩ := h.slice
  clear hAx
  have hR := h
  clear h
  obtain ⟨n0, hn0⟩ : ∃ n, w.heap.size = n := ⟨_, rfl⟩
  have hC : Below n0 w w := Below.refl _ _
  obtain ⟨h3x, h3y, h3z⟩ := h3
  clear hE hts
  go_enter Try.func8, Try.ntmps8
  go_wp2_with fail
  have hqbx : n0 ≤ n0 := by have := hC.size; omega
  have bx : BK (w.alloc (.cells #[.int .i64 E, .slice A ts.length cap] 24)) (n0) #[.int .i64 E, .slice A ts.length cap] 24 := BK.new' _ _ _ (n0) hn0
  have hsbx : (w.alloc (.cells #[.int .i64 E, .slice A ts.length cap] 24)).heap.size = n0 + 1 := by simp [hn0]
  replace hC : Below n0 w (w.alloc (.cells #[.int .i64 E, .slice A ts.length cap] 24)) := Below.alloc hC (by have := hC.size; omega) _
  replace hR := (RS.below hR (w' := (w.alloc (.cells #[.int .i64 E, .slice A ts.length cap] 24))) (Below.alloc (Below.refl _ _) (Nat.le_refl _) _)).more (B' := (w.alloc (.cells #[.int .i64 E, .slice A ts.length cap] 24)).heap.size) (by simp)
  generalize (w.alloc (.cells #[.int .i64 E, .slice A ts.length cap] 24)) = Wbx at *
  go_wp2_with fail
  have hqb3 : n0 ≤ n0 + 1 := by have := hC.size; omega
  have b3 : BK (Wbx.alloc (.cells #[.int .u8 x3, .int .u8 y3, .int .u8 z3] 62)) (n0 + 1) #[.int .u8 x3, .int .u8 y3, .int .u8 z3] 62 := BK.new' _ _ _ (n0 + 1) hsbx
  have hsb3 : (Wbx.alloc (.cells #[.int .u8 x3, .int .u8 y3, .int .u8 z3] 62)).heap.size = n0 + 1 + 1 := by simp [hsbx]
  replace hC : Below n0 w (Wbx.alloc (.cells #[.int .u8 x3, .int .u8 y3, .int .u8 z3] 62)) := Below.alloc hC (by have := hC.size; omega) _
  replace hR := (RS.below hR (w' := (Wbx.alloc (.cells #[.int .u8 x3, .int .u8 y3, .int .u8 z3] 62))) (Below.alloc (Below.refl _ _) (Nat.le_refl _) _)).more (B' := (Wbx.alloc (.cells #[.int .u8 x3, .int .u8 y3, .int .u8 z3] 62)).heap.size) (by simp)
  replace bx := bx.alloc (.cells #[.int .u8 x3, .int .u8 y3, .int .u8 z3] 62)
  generalize (Wbx.alloc (.cells #[.int .u8 x3, .int .u8 y3, .int .u8 z3] 62)) = Wb3 at *
  clear hsbx
  have lbx := bx.lt
  have bxc0 := bx.cell 0
  have bxc1 := bx.cell 1
  simp at bxc0 bxc1
  go_wp2_with fail
  clear lbx bxc0 bxc1
  clear hsb3
  refine (fine_any E ts _ _ hl hR).mono ?_
  rintro e w1 ⟨rfl, hb⟩
  replace hC : Below n0 w w1 := hC.trans (hb.mono (by have := hC.size; omega))
  replace hR := (RS.below hR hb).more hb.size
  replace bx := bx.below hb bx.lt
  replace b3 := b3.below hb b3.lt
  clear hb
  obtain ⟨q, hq⟩ : ∃ q, fineB E ts = q := ⟨_, rfl⟩
  rw [hq]
  cases q
  case false =>
    clear hq
    go_wp2_with fail
    refine (works_any _).mono ?_
    rintro e w2 ⟨rfl, hb⟩
    replace hC : Below n0 w w2 := hC.trans (hb.mono (by have := hC.size; omega))
    replace hR := (RS.below hR hb).more hb.size
    replace bx := bx.below hb bx.lt
    replace b3 := b3.below hb b3.lt
    clear hb
    go_wp2_with fail
    exact bodyPost_ret (v := .bool true) (by simp [results, Try.results8, go_sem]) rfl ⟨rfl, by first | exact hC | (rw [hn0]; exact hC) | (with_reducible rw [hn0]; exact bel_of) | exact bel_of⟩
  obtain ⟨h5, hbk, ha⟩ := fineB_iff.1 hq
  clear hq
  have hl50 : ts.length ≤ 50 := by omega
  obtain ⟨N, rfl, ho, hl40⟩ := bookE_ok hbk
  rw [Int.toNat_natCast] at ha
  have hN1 := ho.pos
  have hN16 := ho.few
  have HO := Lib.hid ho
  have HA := Lib.hid ha
  have HBK := Lib.hid hbk
  clear ho ha hbk h5
  have lbx := bx.lt
  have bxc0 := bx.cell 0
  have bxc1 := bx.cell 1
  simp at bxc0 bxc1
  have lb3 := b3.lt
  have b3c0 := b3.cell 0
  have b3c1 := b3.cell 1
  have b3c2 := b3.cell 2
  simp at b3c0 b3c1 b3c2
  by_cases hN3 : N < 3
  case pos =>
    have h7 : (N : Int) < 3 := by omega
    go_wp2_with fail
    refine (works_any _).mono ?_
    rintro e w2 ⟨rfl, hb⟩
    replace hC : Below n0 w w2 := hC.trans (hb.mono (by have := hC.size; omega))
    replace hR := (RS.below hR hb).more hb.size
    replace bx := bx.below hb bx.lt
    replace b3 := b3.below hb b3.lt
    clear hb
    go_wp2_with fail
    exact bodyPost_ret (v := .bool true) (by simp [results, Try.results8, go_sem]) rfl ⟨rfl, by first | exact hC | (rw [hn0]; exact hC) | (with_reducible rw [hn0]; exact bel_of) | exact bel_of⟩
  have h7 : ¬ (N : Int) < 3 := by omega
  obtain ⟨a, ha⟩ : ∃ a, x3 % N = a := ⟨_, rfl⟩
  obtain ⟨m, hm⟩ : ∃ m, y3 % (N - 1) = m := ⟨_, rfl⟩
  obtain ⟨z, hz⟩ : ∃ z, (a + 1 + m) % N = z := ⟨_, rfl⟩
  have haN : a < N := by rw [← ha]; exact Nat.mod_lt _ (by omega)
  have hmN : m < N - 1 := by rw [← hm]; exact Nat.mod_lt _ (by omega)
  have hzN : z < N := by rw [← hz]; exact Nat.mod_lt _ (by omega)
  have hne : a ≠ z := by rw [← hz]; exact (other_ne haN hmN).symm
  have e1 : (x3 : Int) % (N : Int) = (a : Int) := by rw [rem_nat, ha]
  have e2 : (y3 : Int) % ((N : Int) - 1) = (m : Int) := by rw [show (N : Int) - 1 = ((N - 1 : Nat) : Int) by omega, rem_nat, hm]
  have e3 : ((a : Int) + 1 + (m : Int)) % (N : Int) = (z : Int) := by rw [show (a : Int) + 1 + (m : Int) = ((a + 1 + m : Nat) : Int) by omega, rem_nat, hz]
  have t1 : (x3 : Int).tmod (N : Int) = (a : Int) := by rw [tmod_nat, ha]
  have t2 : (y3 : Int).tmod ((N : Int) - 1) = (m : Int) := by rw [show (N : Int) - 1 = ((N - 1 : Nat) : Int) by omega, tmod_nat, hm]
  have t3 : ((a : Int) + 1 + (m : Int)).tmod (N : Int) = (z : Int) := by rw [show (a : Int) + 1 + (m : Int) = ((a + 1 + m : Nat) : Int) by omega, tmod_nat, hz]
  have y0 : ((N : Int) == 0) = false := beq_eq_false_iff_ne.2 (by omega)
  have y1 : ((N : Int) - 1 == 0) = false := beq_eq_false_iff_ne.2 (by omega)
  have y2 : (N : Int) ≠ 0 := by omega
  have y3' : (N : Int) - 1 ≠ 0 := by omega
  have g1 : IntKind.i64.wrap (x3 : Int) = (x3 : Int) := by rw [IntKind.wrap_i64]; omega
  have g2 : IntKind.i64.wrap (y3 : Int) = (y3 : Int) := by rw [IntKind.wrap_i64]; omega
  have g3 : IntKind.i64.wrap (a : Int) = (a : Int) := by rw [IntKind.wrap_i64]; omega
  have g4 : IntKind.i64.wrap (m : Int) = (m : Int) := by rw [IntKind.wrap_i64]; omega
  have g5 : IntKind.i64.wrap (z : Int) = (z : Int) := by rw [IntKind.wrap_i64]; omega
  have g6 : IntKind.i64.wrap ((N : Int) - 1) = (N : Int) - 1 := by rw [IntKind.wrap_i64]; omega
  have g7 : IntKind.i64.wrap ((a : Int) + 1) = (a : Int) + 1 := by rw [IntKind.wrap_i64]; omega
  have g8 : IntKind.i64.wrap ((a : Int) + 1 + (m : Int)) = (a : Int) + 1 + (m : Int) := by rw [IntKind.wrap_i64]; omega
  clear ha hm hz
  obtain ⟨o, ho⟩ : ∃ o, z3 % N = o := ⟨_, rfl⟩
  have hoN : o < N := by rw [← ho]; exact Nat.mod_lt _ (by omega)
  have e4 : (z3 : Int) % (N : Int) = (o : Int) := by rw [rem_nat, ho]
  have g9 : IntKind.i64.wrap (z3 : Int) = (z3 : Int) := by rw [IntKind.wrap_i64]; omega
  clear ho
  go_upto_region 4 with fail
  go_quiet (fail)
  go_wp2_with fail
  clear lbx bxc0 bxc1
  clear lb3 b3c0 b3c1 b3c2
  clear e1 e2 e3 t1 t2 t3 y0 y1 y2 y3' g1 g2 g3 g4 g5 g6 g7 g8 g9
  go_loopw [7] (fun i wr => ∃ k : Nat, k < N ∧ i = .int .i64 k ∧ Below w1.heap.size w1 wr) (fun i _ => thr N a z (intOf i).toNat)
  case atStart => exact ⟨o, hoN, by first | rfl | rw [e4], by first | exact Below.refl _ _ | exact bel_of⟩
  case round =>
    obtain ⟨k, hkN, rfl, hb⟩ := hrel
    have hbr := Lib.hid hb
    replace hC : Below n0 w wr := hC.trans (hb.mono (by have := hC.size; omega))
    replace hR := (RS.below hR hb).more hb.size
    replace bx := bx.below hb bx.lt
    replace b3 := b3.below hb b3.lt
    clear hb
    have lbx := bx.lt
    have bxc0 := bx.cell 0
    have bxc1 := bx.cell 1
    simp at bxc0 bxc1
    have lb3 := b3.lt
    have b3c0 := b3.cell 0
    have b3c1 := b3.cell 1
    have b3c2 := b3.cell 2
    simp at b3c0 b3c1 b3c2
    have y0 : ((N : Int) == 0) = false := beq_eq_false_iff_ne.2 (by omega)
    have r1 : ((k : Int) + 1) % (N : Int) = (((k + 1) % N : Nat) : Int) := by rw [show (k : Int) + 1 = ((k + 1 : Nat) : Int) by omega, rem_nat]
    have r2 : (k + 1) % N < N := Nat.mod_lt _ (by omega)
    have g1 : IntKind.i64.wrap ((k : Int) + 1) = (k : Int) + 1 := by rw [IntKind.wrap_i64]; omega
    obtain ⟨n, hn⟩ : ∃ n, (k + 1) % N = n := ⟨_, rfl⟩
    rw [hn] at r1 r2
    have HN := Lib.hid hn
    clear hn
    by_cases hka : k = a
    case pos =>
      have d1 : ((k : Int) == (a : Int)) = true := by simp [hka]
      subst hka
      go_wp2_with fail
      go_roundw
      case rel => exact ⟨n, r2, by first | rfl | rw [r1], by first | exact hbr.out | exact bel_of⟩
      case measure =>
        simp only [intOf]
        try rw [r1]
        simp only [Int.toNat_natCast]
        have := HN.out
        rw [← this]
        exact thr_dec (by omega) hkN (.inl rfl)
    have d1 : ((k : Int) == (a : Int)) = false := beq_eq_false_iff_ne.2 (by omega)
    by_cases hkz : k = z
    case pos =>
      have d2 : ((k : Int) == (z : Int)) = true := by simp [hkz]
      subst hkz
      go_wp2_with fail
      go_roundw
      case rel => exact ⟨n, r2, by first | rfl | rw [r1], by first | exact hbr.out | exact bel_of⟩
      case measure =>
        simp only [intOf]
        try rw [r1]
        simp only [Int.toNat_natCast]
        have := HN.out
        rw [← this]
        exact thr_dec (by omega) hkN (.inr rfl)
    have d2 : ((k : Int) == (z : Int)) = false := beq_eq_false_iff_ne.2 (by omega)
    clear y0 r1 r2 g1 HN
    go_wp2_with fail
    clear d1 d2
    clear lbx bxc0 bxc1
    clear lb3 b3c0 b3c1 b3c2
    have q1 := D_tri HO.out HA.out (show a ≤ N by omega) (show z ≤ N by omega) (show a ≤ N by omega)
    have q2 := D_tri HO.out HA.out (show z ≤ N by omega) (show k ≤ N by omega) (show a ≤ N by omega)
    have q3 := D_tri HO.out HA.out (show a ≤ N by omega) (show k ≤ N by omega) (show z ≤ N by omega)
    rw [D_self HO.out HA.out (by omega)] at q1
    have rx1 := D_rng HO.out HA.out (show a ≤ N by omega) (show z ≤ N by omega)
    have ry1 := D_rng HO.out HA.out (show z ≤ N by omega) (show a ≤ N by omega)
    have rx2 := D_rng HO.out HA.out (show a ≤ N by omega) (show k ≤ N by omega)
    have ry2 := D_rng HO.out HA.out (show k ≤ N by omega) (show a ≤ N by omega)
    have rx4 := D_rng HO.out HA.out (show k ≤ N by omega) (show z ≤ N by omega)
    have ry4 := D_rng HO.out HA.out (show z ≤ N by omega) (show k ≤ N by omega)
    obtain ⟨x1, hx1⟩ : ∃ x, D N ts a z = x := ⟨_, rfl⟩
    obtain ⟨y1, hy1⟩ : ∃ x, D N ts z a = x := ⟨_, rfl⟩
    try rw [hx1] at q1
    try rw [hx1] at q2
    try rw [hx1] at q3
    try rw [hy1] at q1
    try rw [hy1] at q2
    try rw [hy1] at q3
    rw [hx1] at rx1
    rw [hy1] at ry1
    have Hx1 := Lib.hid hx1
    have Hy1 := Lib.hid hy1
    clear hx1 hy1
    obtain ⟨x2, hx2⟩ : ∃ x, D N ts a k = x := ⟨_, rfl⟩
    obtain ⟨y2, hy2⟩ : ∃ x, D N ts k a = x := ⟨_, rfl⟩
    try rw [hx2] at q1
    try rw [hx2] at q2
    try rw [hx2] at q3
    try rw [hy2] at q1
    try rw [hy2] at q2
    try rw [hy2] at q3
    rw [hx2] at rx2
    rw [hy2] at ry2
    have Hx2 := Lib.hid hx2
    have Hy2 := Lib.hid hy2
    clear hx2 hy2
    obtain ⟨x4, hx4⟩ : ∃ x, D N ts k z = x := ⟨_, rfl⟩
    obtain ⟨y4, hy4⟩ : ∃ x, D N ts z k = x := ⟨_, rfl⟩
    try rw [hx4] at q1
    try rw [hx4] at q2
    try rw [hx4] at q3
    try rw [hy4] at q1
    try rw [hy4] at q2
    try rw [hy4] at q3
    rw [hx4] at rx4
    rw [hy4] at ry4
    have Hx4 := Lib.hid hx4
    have Hy4 := Lib.hid hy4
    clear hx4 hy4
    have c1 : -x1 ≤ y1 := by omega
    have c2 : y1 ≤ y2 + y4 := by omega
    have c3 : -x2 + -x4 ≤ -x1 := by omega
    have v1 : IntKind.i64.wrap (y2 + y4) = y2 + y4 := by rw [IntKind.wrap_i64]; omega
    have v2 : IntKind.i64.wrap (-x2 + -x4) = -x2 + -x4 := by rw [IntKind.wrap_i64]; omega
    obtain ⟨s1, e1⟩ : ∃ s, -x1 = s := ⟨_, rfl⟩
    obtain ⟨s2, e2⟩ : ∃ s, -x2 = s := ⟨_, rfl⟩
    obtain ⟨s4, e4⟩ : ∃ s, -x4 = s := ⟨_, rfl⟩
    rw [e1] at c1 c3
    rw [e2, e4] at c3 v2
    have S1 := Lib.hid e1
    have S2 := Lib.hid e2
    have S4 := Lib.hid e4
    clear e1 e2 e4 q1 q2 q3 rx1 ry1 rx2 ry2 rx4 ry4
    refine (spanN_any (u := a) (z := z) _ _ HBK.out HA.out haN hzN hne (by omega) hR).mono ?_
    rintro e w2 ⟨rfl, hb⟩
    replace hC : Below n0 w w2 := hC.trans (hb.mono (by have := hC.size; omega))
    replace hR := (RS.below hR hb).more hb.size
    replace bx := bx.below hb bx.lt
    replace b3 := b3.below hb b3.lt
    clear hb
    rw [Hx1.out, Hy1.out, S1.out]
    have lbx := bx.lt
    have bxc0 := bx.cell 0
    have bxc1 := bx.cell 1
    simp at bxc0 bxc1
    go_wp2_with fail
    clear lbx bxc0 bxc1
    obtain ⟨m1, hm1⟩ : ∃ n, w2.heap.size = n := ⟨_, rfl⟩
    try rw [hm1]
    have hqr1 : n0 ≤ m1 := by have := hC.size; omega
    have r1 : BK (w2.alloc (.cells #[.int .i64 s1, .int .i64 y1] 36)) (m1) #[.int .i64 s1, .int .i64 y1] 36 := BK.new' _ _ _ (m1) hm1
    have hsr1 : (w2.alloc (.cells #[.int .i64 s1, .int .i64 y1] 36)).heap.size = m1 + 1 := by simp [hm1]
    replace hC : Below n0 w (w2.alloc (.cells #[.int .i64 s1, .int .i64 y1] 36)) := Below.alloc hC (by have := hC.size; omega) _
    replace hR := (RS.below hR (w' := (w2.alloc (.cells #[.int .i64 s1, .int .i64 y1] 36))) (Below.alloc (Below.refl _ _) (Nat.le_refl _) _)).more (B' := (w2.alloc (.cells #[.int .i64 s1, .int .i64 y1] 36)).heap.size) (by simp)
    replace bx := bx.alloc (.cells #[.int .i64 s1, .int .i64 y1] 36)
    replace b3 := b3.alloc (.cells #[.int .i64 s1, .int .i64 y1] 36)
    generalize (w2.alloc (.cells #[.int .i64 s1, .int .i64 y1] 36)) = Wr1 at *
    clear hm1
    clear hsr1
    refine (spanN_any (u := a) (z := k) _ _ HBK.out HA.out haN hkN (by omega) (by omega) hR).mono ?_
    rintro e w3 ⟨rfl, hb⟩
    replace hC : Below n0 w w3 := hC.trans (hb.mono (by have := hC.size; omega))
    replace hR := (RS.below hR hb).more hb.size
    replace bx := bx.below hb bx.lt
    replace b3 := b3.below hb b3.lt
    replace r1 := r1.below hb r1.lt
    clear hb
    rw [Hx2.out, Hy2.out, S2.out]
    have lbx := bx.lt
    have bxc0 := bx.cell 0
    have bxc1 := bx.cell 1
    simp at bxc0 bxc1
    go_wp2_with fail
    clear lbx bxc0 bxc1
    obtain ⟨m2, hm2⟩ : ∃ n, w3.heap.size = n := ⟨_, rfl⟩
    try rw [hm2]
    have hqr2 : n0 ≤ m2 := by have := hC.size; omega
    have r2 : BK (w3.alloc (.cells #[.int .i64 s2, .int .i64 y2] 36)) (m2) #[.int .i64 s2, .int .i64 y2] 36 := BK.new' _ _ _ (m2) hm2
    have hsr2 : (w3.alloc (.cells #[.int .i64 s2, .int .i64 y2] 36)).heap.size = m2 + 1 := by simp [hm2]
    replace hC : Below n0 w (w3.alloc (.cells #[.int .i64 s2, .int .i64 y2] 36)) := Below.alloc hC (by have := hC.size; omega) _
    replace hR := (RS.below hR (w' := (w3.alloc (.cells #[.int .i64 s2, .int .i64 y2] 36))) (Below.alloc (Below.refl _ _) (Nat.le_refl _) _)).more (B' := (w3.alloc (.cells #[.int .i64 s2, .int .i64 y2] 36)).heap.size) (by simp)
    replace bx := bx.alloc (.cells #[.int .i64 s2, .int .i64 y2] 36)
    replace b3 := b3.alloc (.cells #[.int .i64 s2, .int .i64 y2] 36)
    replace r1 := r1.alloc (.cells #[.int .i64 s2, .int .i64 y2] 36)
    generalize (w3.alloc (.cells #[.int .i64 s2, .int .i64 y2] 36)) = Wr2 at *
    clear hm2
    clear hsr2
    refine (spanN_any (u := k) (z := z) _ _ HBK.out HA.out hkN hzN (by omega) (by omega) hR).mono ?_
    rintro e w4 ⟨rfl, hb⟩
    replace hC : Below n0 w w4 := hC.trans (hb.mono (by have := hC.size; omega))
    replace hR := (RS.below hR hb).more hb.size
    replace bx := bx.below hb bx.lt
    replace b3 := b3.below hb b3.lt
    replace r1 := r1.below hb r1.lt
    replace r2 := r2.below hb r2.lt
    clear hb
    rw [Hx4.out, Hy4.out, S4.out]
    have lbx := bx.lt
    have bxc0 := bx.cell 0
    have bxc1 := bx.cell 1
    simp at bxc0 bxc1
    go_upto_region 11 with fail
    clear lbx bxc0 bxc1
    obtain ⟨m3, hm3⟩ : ∃ n, w4.heap.size = n := ⟨_, rfl⟩
    try rw [hm3]
    have hqr4 : n0 ≤ m3 := by have := hC.size; omega
    have r4 : BK (w4.alloc (.cells #[.int .i64 s4, .int .i64 y4] 36)) (m3) #[.int .i64 s4, .int .i64 y4] 36 := BK.new' _ _ _ (m3) hm3
    have hsr4 : (w4.alloc (.cells #[.int .i64 s4, .int .i64 y4] 36)).heap.size = m3 + 1 := by simp [hm3]
    replace hC : Below n0 w (w4.alloc (.cells #[.int .i64 s4, .int .i64 y4] 36)) := Below.alloc hC (by have := hC.size; omega) _
    replace hR := (RS.below hR (w' := (w4.alloc (.cells #[.int .i64 s4, .int .i64 y4] 36))) (Below.alloc (Below.refl _ _) (Nat.le_refl _) _)).more (B' := (w4.alloc (.cells #[.int .i64 s4, .int .i64 y4] 36)).heap.size) (by simp)
    replace bx := bx.alloc (.cells #[.int .i64 s4, .int .i64 y4] 36)
    replace b3 := b3.alloc (.cells #[.int .i64 s4, .int .i64 y4] 36)
    replace r1 := r1.alloc (.cells #[.int .i64 s4, .int .i64 y4] 36)
    replace r2 := r2.alloc (.cells #[.int .i64 s4, .int .i64 y4] 36)
    generalize (w4.alloc (.cells #[.int .i64 s4, .int .i64 y4] 36)) = Wr4 at *
    clear hm3
    have lr1 := r1.lt
    have r1c0 := r1.cell 0
    have r1c1 := r1.cell 1
    simp at r1c0 r1c1
    have lr2 := r2.lt
    have r2c0 := r2.cell 0
    have r2c1 := r2.cell 1
    simp at r2c0 r2c1
    have lr4 := r4.lt
    have r4c0 := r4.cell 0
    have r4c1 := r4.cell 1
    simp at r4c0 r4c1
    go_wp2_with fail
    clear lr1 r1c0 r1c1
    clear lr2 r2c0 r2c1
    clear lr4 r4c0 r4c1
    clear hsr4
    refine (works_any _).mono ?_
    rintro e w5 ⟨rfl, hb⟩
    replace hC : Below n0 w w5 := hC.trans (hb.mono (by have := hC.size; omega))
    replace hR := (RS.below hR hb).more hb.size
    replace bx := bx.below hb bx.lt
    replace b3 := b3.below hb b3.lt
    replace r1 := r1.below hb r1.lt
    replace r2 := r2.below hb r2.lt
    replace r4 := r4.below hb r4.lt
    clear hb
    go_wp2_with fail
    exact bodyPost_ret (v := .bool true) (by simp [results, Try.results8, go_sem]) rfl ⟨rfl, by first | exact hC | (rw [hn0]; exact hC) | (with_reducible rw [hn0]; exact bel_of) | exact bel_of⟩
end Go.Proofs.Ytkljdbgkhghiaaa

namespace Go.Proofs.Ytkljdbgkhghiaaa.keenThird
open Go.ChangeShapes Go.WideShapes Go.ChangeAt Go.RowKit Go.Deep

set_option maxRecDepth 100000 in
theorem lifted (os : Os) (started : os.Started) (H : Type) (enc : TypeId × Value → H) :
    ReturnsInHanded {} Try.checked os 8 .any (Rows.keenThirdSpec.pre6 enc Try.prog Try.f8 Rows.keenThirdRow.domain false) (Rows.keenThirdSpec.post enc Try.prog Try.f8 false true false false) := by
  refine returnsInHanded_of_change (C := Try.checked) own started (by kernel_rfl) Try.func8
    (ChangeSpec.witness6 (enc := enc) (C := Try.checked) false ⟨#[], #[.agg #[.int .i64 0, .slice none 0 0], .agg #[.int .u8 0, .int .u8 0, .int .u8 0]], []⟩ 8 (by kernel_rfl) (by kernel_rfl) (by kernel_rfl) (by kernel_rfl)) ?_
  intro W base args ds gs before hval0 hW hcnd _
  have hval : ∀ (j : Nat) t v, Try.f8.params[j]? = some t → args[j]? = some v → Value.okWide Try.prog W .any base t v := hval0
  have hW2 : DataW.Whole enc Try.prog Try.f8.params.toList Rows.keenThirdSpec.vars false W args.toList ds gs before := hW
  obtain ⟨p, q, hA0, hV, rfl, hfz, hnd⟩ := hW
  have hA : DataW.TrodAll enc Try.prog W 0 (fun _ => true) true Try.f8.params.toList args.toList ds p := hA0
  rw [Try.params8] at hA hval
  obtain ⟨v0, vs0, d0, ds0, p0, q0, hargs, rfl, rfl, h0, r0⟩ := trodAll_cons hA
  obtain ⟨v1, vs1, d1, ds1, p1, q1, rfl, rfl, rfl, h1, r1⟩ := trodAll_cons r0
  obtain ⟨rfl, rfl, rfl⟩ := trodAll_nil r1
  obtain rfl : args = #[v0, v1] := by cases args; simp_all
  obtain ⟨rfl, rfl⟩ := trodVars_none hV
  obtain ⟨E0, s0, l0, rfl, g0, k0, n0, m0⟩ := open_book (hval 0 24 v0 rfl rfl) h0
  obtain ⟨x1, y1, z1, rfl, g1⟩ := open_a3 (hval 1 62 v1 rfl rfl) h1
  refine (keenThird_any (E := E0) (ts := l0) (v := s0) (h := g0) (hE := k0) (hts := n0) (hl := m0) (x3 := x1) (y3 := y1) (z3 := z1) (h3 := g1) (w := W)).mono fun e W' ⟨he, hg⟩ => ?_
  subst he
  exact ⟨_, rfl, law_done hW2 rfl rfl rfl (by rw [Try.params8]; decide +kernel) hg⟩

theorem over : Rows.keenThirdRow.holds Try.pinned (OpenSpec.ofChange Rows.keenThirdSpec) :=
  OpenClaim.holds_of_wide 8 Try.f8 rfl rfl rfl rfl rfl rfl rfl ⟨rfl, rfl, rfl, rfl, rfl⟩ rfl rfl rfl rfl rfl (by kernel_rfl) Try.func8 (by kernel_rfl)
    (of_decide_eq_true (by kernel_rfl)) (by unfold Func.isWrapper; first | (rw [if_pos (by decide +kernel)]; kernel_rfl) | (rw [if_neg (by decide +kernel)]; exact ⟨rfl, rfl⟩))
    (fun os started H enc _ => lifted os started H enc)

theorem proved : Rows.KeenThirdSaid :=
  over
end Go.Proofs.Ytkljdbgkhghiaaa.keenThird
namespace Go.Proofs.Ytkljdbgkhghiaaa
theorem keenThird_proved : Rows.KeenThirdSaid := keenThird.proved
#print axioms keenThird_proved
end Go.Proofs.Ytkljdbgkhghiaaa
