/- Wedge. The pairs of the examples. What the examples of the chapter give. ints, ratios, fine, inside, Truth. Can. Sure. -/
import Derived.Test.YtbjmkmambmeifaaP9
import Derived.Test.YtbjmkmambmeifaaP5
import Derived.Test.YtbjmkmambmeifaaP3
import Derived.Test.YtbjmkmambmeifaaP8
import Derived.WalkMore
import Derived.Test.YtbjmkmambmeifaaP15
import Derived.Test.YtbjmkmambmeifaaP13
import Derived.Test.YtbjmkmambmeifaaP11
import Derived.Test.YtbjmkmambmeifaaP2
set_option linter.all false
set_option linter.unnecessarySimpa false
set_option linter.unusedSimpArgs false
set_option linter.unusedVariables false
set_option linter.unusedSectionVars false

namespace Go.Proofs.Ytbjmkmambmeifaa
open Go.RowKit

theorem above_wedge (l : List St) (i k m : Nat) : aboveB (nthS l i).a (nthS l i).hi (nthS l k).a (nthS l k).lo (nthS l m).a (nthS l m).hi = isWedgeB l i k m := by
  unfold aboveB isWedgeB
  congr 1
  simp only [Int.mul_sub, Int.sub_mul, eq_iff_iff]
  have c1 := Int.mul_comm (nthS l i).hi (nthS l m).a
  constructor <;> intro h <;> omega

set_option maxRecDepth 100000 in
set_option maxHeartbeats 4000000 in
theorem wedgeP_any (l : List St) (vl : Value) (w : World) (hl : l.length ≤ 1000) (h : RSt w w.heap.size vl l) :
    Calls Try.prog 32 #[vl] w fun e w' => e = .returned (wedgeV l) ∧ Below w.heap.size w w' := by
  have hcall := fun w1 (hb : Below w.heap.size w w1) => checkPair_any l vl w1 hl ((h.below hb).more hb.size)
  by_cases hp : checkPair l = 0
  · rw [hp] at hcall
    have hn := checkPair_len l hp
    have hnb := fun w1 (hb : Below w.heap.size w w1) hg => newBlades_any l hg vl w1 (by omega) hl ((h.below hb).more hb.size)
    have hpt := fun w1 vb hg k (hk : k < l.length) (hb : RB w1 vb l (ends l hg)) => point_any l (ends l hg) k vb w1 hl hk hb
    have hab : ∀ i k m, i < l.length → k < l.length → m < l.length → ∀ W, Calls Try.prog 62 #[ptV l (ends l true) i, ptV l (ends l false) k, ptV l (ends l true) m] W fun e w' => e = .returned (.bool (isWedgeB l i k m)) ∧ Below W.heap.size W w' := by
      intro i k m hi hk hm W
      have q1 := valid_at l hp i hi
      have q2 := valid_at l hp k hk
      have q3 := valid_at l hp m hm
      have e1 := ends_at l true i hi
      have e2 := ends_at l false k hk
      have e3 := ends_at l true m hm
      simp only [Bool.false_eq_true, if_true, if_false] at e1 e2 e3
      unfold ptV
      rw [← above_wedge, e1, e2, e3]
      exact above_any _ _ _ _ _ _ _ _ _ _ _ _ _ _ _ _ (by omega) (by omega) (by omega) (by omega) (by omega) (by omega)
    have hV : wedgeV l = wedgeO (wedgeF l) := by unfold wedgeV; rw [if_neg (by simpa using hp)]
    have HAB := Lib.hid hab; have HP := Lib.hid hcall; have HV := Lib.hid hV; have HN := Lib.hid hnb; have HPT := Lib.hid hpt
    obtain ⟨A, cap, b, off, rfl, _, _⟩ := h.cells
    clear hab hcall hp h hV hnb hpt
    go_enter Try.func32, Try.ntmps32
    go_wp2_with fail
    go_step3
    go_wp2_with fail
    refine (HP.out _ (by exact bel_of)).mono ?_
    rintro e w1 ⟨rfl, hb1⟩
    have hB1 : Below w.heap.size w w1 := (Below.trans (a := w) (B := w.heap.size) (by exact bel_of) (hb1.mono (by first | omega | (simp; omega) | (simp; done))))
    have b1 : BK w1 w.heap.size #[.int .i64 0, .int .i64 0, .int .i64 0] 44 := BK.below (BK.new _ _ _) hb1 (by simp)
    have hlt1 := b1.lt
    clear hb1
    go_wp2_with fail
    refine (HN.out w1 hB1 false).mono ?_
    rintro e w2 ⟨gl, rfl, hRl, hb2⟩
    have hB2 : Below w.heap.size w w2 := hB1.trans (hb2.mono hB1.size)
    have b2 := b1.below hb2 hlt1
    have hlt2 := b2.lt
    clear hb2 b1
    go_wp2_with fail
    refine (HN.out w2 hB2 true).mono ?_
    rintro e w3 ⟨gh, rfl, hRh, hb3⟩
    have hRl3 := hRl.below hb3
    have hB3 : Below w.heap.size w w3 := hB2.trans (hb3.mono hB2.size)
    have b3 := b2.below hb3 hlt2
    have hlt3 := b3.lt
    clear hb3 b2 hRl
    have HRL := Lib.hid (fun W (hb : Below w3.heap.size w3 W) => hRl3.below hb)
    have HRH := Lib.hid (fun W (hb : Below w3.heap.size w3 W) => hRh.below hb)
    clear hRl3 hRh
    have hB3s := hB3.size
    obtain ⟨g7, hg7⟩ : ∃ g7, w3.heap.size = g7 := ⟨_, rfl⟩
    go_wp2_with fail
    go_step3
    go_wp2_with fail
    go_loopw [8, 23] (fun u8 iv wr => ∃ i : Nat, i ≤ l.length ∧ iv = .int .i64 i ∧ BK wr w.heap.size #[.int .i64 0, .int .i64 0, .int .i64 0] 44 ∧ BK wr g7 #[.int .i64 0, .int .i64 0, .int .i64 0] 44 ∧ Below w3.heap.size w3 wr ∧ wP1 l i) (fun _ i _ => l.length - (intOf i).toNat)
    case atStart => exact ⟨0, Nat.zero_le _, rfl, b3.alloc _, BK.new' _ _ _ _ hg7, by exact bel_of, fun i' k m h1 => absurd h1 (by omega)⟩
    case round =>
      clear b3
      obtain ⟨i, hi, rfl, b1, b7, hbw, hp1⟩ := hrel
      have HP1 := Lib.hid hp1; clear hp1
      by_cases hil : i < l.length
      · go_wp2_with fail
        go_loopw [9] (fun kv wr => ∃ k : Nat, i + 1 ≤ k ∧ k ≤ l.length ∧ kv = .int .i64 k ∧ BK wr w.heap.size #[.int .i64 0, .int .i64 0, .int .i64 0] 44 ∧ BK wr g7 #[.int .i64 0, .int .i64 0, .int .i64 0] 44 ∧ Below w3.heap.size w3 wr ∧ wP2 l i k) (fun k _ => l.length - (intOf k).toNat)
        case atStart => exact ⟨i + 1, Nat.le_refl _, by omega, by go_num, b1, b7, hbw, fun k' m h1 h2 => absurd h1 (by omega)⟩
        case round =>
          clear b1 b7 hbw
          obtain ⟨k, hk0, hk, rfl, b1, b7, hbw, hp2⟩ := hrel
          have HP2 := Lib.hid hp2; clear hp2
          by_cases hkl : k < l.length
          · go_wp2_with fail
            go_loopw [10] (fun mv wr => ∃ m : Nat, k + 1 ≤ m ∧ m ≤ l.length ∧ mv = .int .i64 m ∧ BK wr w.heap.size #[.int .i64 0, .int .i64 0, .int .i64 0] 44 ∧ BK wr g7 #[.int .i64 0, .int .i64 0, .int .i64 0] 44 ∧ Below w3.heap.size w3 wr ∧ wP3 l i k m) (fun m _ => l.length - (intOf m).toNat)
            case atStart => exact ⟨k + 1, Nat.le_refl _, by omega, by go_num, b1, b7, hbw, fun m' h1 h2 => absurd h1 (by omega)⟩
            case round =>
              clear b1 b7 hbw
              obtain ⟨m, hm0, hm, rfl, b1, b7, hbw, hp3⟩ := hrel
              have HP3 := Lib.hid hp3; clear hp3
              by_cases hml : m < l.length
              · obtain ⟨q, hq⟩ : ∃ q, isWedgeB l i k m = q := ⟨_, rfl⟩
                have hcw := HAB.out i k m hil hkl hml
                rw [hq] at hcw
                have HCW := Lib.hid hcw; clear hcw
                have hsz := hbw.size
                have hlt1 := b1.lt
                have hlt7 := b7.lt
                go_wp2_with fail
                refine (HPT.out wr _ true i hil (HRH.out wr hbw)).mono ?_
                rintro e w4 ⟨rfl, hb4⟩
                have hbw4 := hbw.trans (hb4.mono hsz)
                have b14 := b1.below hb4 hlt1
                have b74 := b7.below hb4 hlt7
                clear hb4 b1 b7
                go_wp2_with fail
                refine (HPT.out w4 _ false k hkl (HRL.out w4 hbw4)).mono ?_
                rintro e w5 ⟨rfl, hb5⟩
                have hbw5 := hbw4.trans (hb5.mono hbw4.size)
                have b15 := b14.below hb5 b14.lt
                have b75 := b74.below hb5 b74.lt
                clear hb5 b14 b74
                go_wp2_with fail
                refine (HPT.out w5 _ true m hml (HRH.out w5 hbw5)).mono ?_
                rintro e w6 ⟨rfl, hb6⟩
                have hbw6 := hbw5.trans (hb6.mono hbw5.size)
                have b16 := b15.below hb6 b15.lt
                have b76 := b75.below hb6 b75.lt
                clear hb6 b15 b75 hbw4 hbw5
                go_wp2_with fail
                refine (HCW.out w6).mono ?_
                rintro e w7 ⟨rfl, hb7⟩
                have hbw7 := hbw6.trans (hb7.mono hbw6.size)
                have b17 := b16.below hb7 b16.lt
                have b77 := b76.below hb7 b76.lt
                have hs67 := hbw7.size
                clear hb7 b16 b76 hbw6
                cases q with
                | true =>
                  have HW := Lib.hid (wedge_some HP1.out HP2.out HP3.out (by omega) (by omega) hml hq)
                  clear hq
                  have y0 := b77.cell 0
                  have y1 := b77.cell 1
                  have y2 := b77.cell 2
                  have f0 := b77.frozen 0
                  have f1 := b77.frozen 1
                  have f2 := b77.frozen 2
                  simp at y0 y1 y2
                  have z0 := b17.cell 0
                  have z1 := b17.cell 1
                  have z2 := b17.cell 2
                  have k0 := b17.frozen 0
                  have k1 := b17.frozen 1
                  have k2 := b17.frozen 2
                  simp at z0 z1 z2
                  have dk : ((k : Int) == 0) = false := by simp; omega
                  have hne : w.heap.size ≠ g7 := by omega
                  have hbw8 : Below w.heap.size w w7 := hB3.trans (hbw7.mono hB3s)
                  by_cases hi0 : i = 0
                  · have di : ((i : Int) == 0) = true := by simp [hi0]
                    clear hi0
                    go_wp2_with fail
                    have b18 : BK (((w7.setCell ⟨g7, 0, none⟩ (.int .i64 i)).setCell ⟨g7, 1, none⟩ (.int .i64 k)).setCell ⟨g7, 2, none⟩ (.int .i64 m)) w.heap.size #[.int .i64 0, .int .i64 0, .int .i64 0] 44 := ((b17.far (p := ⟨g7, 0, none⟩) hne _).far (p := ⟨g7, 1, none⟩) hne _).far (p := ⟨g7, 2, none⟩) hne _
                    have b5 := (((b18.set 0 (.int .i64 i)).set 1 (.int .i64 k)).set 2 (.int .i64 m))
                    simp at b5
                    try rw [Exit.noGoto_ret]
                    refine ret_bk (w := w) (n := w.heap.size) b5 (by exact bel_of) (v := .tuple #[.agg #[.int .i64 i, .int .i64 k, .int .i64 m], .int .i64 0]) ?_ ?_
                    · intro W' hb'
                      have z0 := hb'.cell 0
                      have z1 := hb'.cell 1
                      have z2 := hb'.cell 2
                      simp at z0 z1 z2
                      simp [results, Try.results32, go_sem, z0, z1, z2]
                    exact ⟨by rw [HV.out, HW.out]; rfl, by exact bel_of⟩
                  · have di : ((i : Int) == 0) = false := by simp; omega
                    clear hi0
                    go_wp2_with fail
                    have b18 : BK (((w7.setCell ⟨g7, 0, none⟩ (.int .i64 i)).setCell ⟨g7, 1, none⟩ (.int .i64 k)).setCell ⟨g7, 2, none⟩ (.int .i64 m)) w.heap.size #[.int .i64 0, .int .i64 0, .int .i64 0] 44 := ((b17.far (p := ⟨g7, 0, none⟩) hne _).far (p := ⟨g7, 1, none⟩) hne _).far (p := ⟨g7, 2, none⟩) hne _
                    have b5 := (((b18.set 0 (.int .i64 i)).set 1 (.int .i64 k)).set 2 (.int .i64 m))
                    simp at b5
                    try rw [Exit.noGoto_ret]
                    refine ret_bk (w := w) (n := w.heap.size) b5 (by exact bel_of) (v := .tuple #[.agg #[.int .i64 i, .int .i64 k, .int .i64 m], .int .i64 0]) ?_ ?_
                    · intro W' hb'
                      have z0 := hb'.cell 0
                      have z1 := hb'.cell 1
                      have z2 := hb'.cell 2
                      simp at z0 z1 z2
                      simp [results, Try.results32, go_sem, z0, z1, z2]
                    exact ⟨by rw [HV.out, HW.out]; rfl, by exact bel_of⟩
                | false =>
                  have HQ := Lib.hid hq
                  clear hq
                  go_wp2_with fail
                  go_roundw
                  case rel => exact ⟨m + 1, by omega, by omega, by go_num, b17, b77, hbw7, fun m' h1 h2 => by
                    rcases Nat.lt_succ_iff_lt_or_eq.1 h2 with h3 | rfl
                    · exact HP3.out m' h1 h3
                    · exact HQ.out⟩
                  case measure => simp [intOf]; omega
              · have hme : m = l.length := by omega
                go_wp2_with fail
                go_roundw
                case rel => exact ⟨k + 1, by omega, by omega, by go_num, b1, b7, hbw, fun k' m' h1 h2 h3 h4 => by
                  rcases Nat.lt_succ_iff_lt_or_eq.1 h2 with h5 | rfl
                  · exact HP2.out k' m' h1 h5 h3 h4
                  · exact HP3.out m' h3 (by omega)⟩
                case measure => simp [intOf]; omega
          · have hke : k = l.length := by omega
            go_wp2_with fail
            go_roundw
            case rel => exact ⟨i + 1, by omega, by go_num, b1, b7, hbw, fun i' k' m' h1 h2 h3 h4 => by
              rcases Nat.lt_succ_iff_lt_or_eq.1 h1 with h5 | rfl
              · exact HP1.out i' k' m' h5 h2 h3 h4
              · exact HP2.out k' m' h2 (by omega) h3 h4⟩
            case measure => simp [intOf]; omega
      · have hie : i = l.length := by omega
        have HW := Lib.hid (wedge_none (hie ▸ HP1.out))
        clear hie
        have hbw8 : Below w.heap.size w wr := hB3.trans (hbw.mono hB3s)
        have hne : w.heap.size ≠ g7 := by omega
        have hlt1 := b1.lt
        have z0 := b1.cell 0
        have z1 := b1.cell 1
        have z2 := b1.cell 2
        have k0 := b1.frozen 0
        have k1 := b1.frozen 1
        have k2 := b1.frozen 2
        simp at z0 z1 z2
        have y0 := b7.cell 0
        have y1 := b7.cell 1
        have y2 := b7.cell 2
        have f0 := b7.frozen 0
        have f1 := b7.frozen 1
        have f2 := b7.frozen 2
        simp at y0 y1 y2
        go_wp2_with fail
        have b5 := (((b1.set 0 (.int .i64 0)).set 1 (.int .i64 0)).set 2 (.int .i64 0))
        simp at b5
        try rw [Exit.noGoto_ret]
        refine ret_bk (w := w) (n := w.heap.size) b5 (by exact bel_of) (v := .tuple #[.agg #[.int .i64 0, .int .i64 0, .int .i64 0], .int .i64 5]) ?_ ?_
        · intro W' hb'
          have z0 := hb'.cell 0
          have z1 := hb'.cell 1
          have z2 := hb'.cell 2
          simp at z0 z1 z2
          simp [results, Try.results32, go_sem, z0, z1, z2]
        exact ⟨by rw [HV.out, HW.out]; rfl, by exact bel_of⟩
  · obtain ⟨e0, he0⟩ : ∃ e0, checkPair l = e0 := ⟨_, rfl⟩
    have hV : wedgeV l = .tuple #[.agg #[.int .i64 0, .int .i64 0, .int .i64 0], .int .i64 (checkPair l)] := by unfold wedgeV; rw [if_pos hp]
    rw [he0] at hcall hp hV
    have hpb : (e0 != 0) = true := by simpa using hp
    have HV := Lib.hid hV; have HP := Lib.hid hcall
    clear hV hcall he0 hp h
    go_enter Try.func32, Try.ntmps32
    go_wp2_with fail
    go_step3
    go_wp2_with fail
    refine (HP.out _ (by exact bel_of)).mono ?_
    rintro e w1 ⟨rfl, hb1⟩
    have hB1 : Below w.heap.size w w1 := (Below.trans (a := w) (B := w.heap.size) (by exact bel_of) (hb1.mono (by first | omega | (simp; omega) | (simp; done))))
    have b1 : BK w1 w.heap.size #[.int .i64 0, .int .i64 0, .int .i64 0] 44 := BK.below (BK.new _ _ _) hb1 (by simp)
    have hlt1 := b1.lt
    clear hb1
    have z0 := b1.cell 0
    have z1 := b1.cell 1
    have z2 := b1.cell 2
    have k0 := b1.frozen 0
    have k1 := b1.frozen 1
    have k2 := b1.frozen 2
    simp at z0 z1 z2
    go_wp2_with fail
    have b5 := (((b1.set 0 (.int .i64 0)).set 1 (.int .i64 0)).set 2 (.int .i64 0))
    simp at b5
    try rw [Exit.noGoto_ret]
    refine ret_bk (w := w) (n := w.heap.size) b5 (by exact bel_of) (v := .tuple #[.agg #[.int .i64 0, .int .i64 0, .int .i64 0], .int .i64 e0]) ?_ ?_
    · intro W' hb'
      have z0 := hb'.cell 0
      have z1 := hb'.cell 1
      have z2 := hb'.cell 2
      simp at z0 z1 z2
      simp [results, Try.results32, go_sem, z0, z1, z2]
    exact ⟨by rw [HV.out], by exact bel_of⟩

end Go.Proofs.Ytbjmkmambmeifaa

namespace Go.Proofs.Ytbjmkmambmeifaa
open Go.RowKit

def pairQ : List St := [⟨0, 0, 0⟩, ⟨10, -2, 2⟩, ⟨20, 0, 1⟩, ⟨40, 8, 10⟩]
def pairP : List St := [⟨0, 0, 0⟩, ⟨10, 1, 2⟩, ⟨20, 0, 1⟩, ⟨40, 8, 10⟩]
theorem rst_of_bk {W : World} {g T : Nat} {l : List St} {cs : Array Value} (hb : BK W g cs T) (hc : cs.toList = ofS l) (n : Nat) (hn : l.length = n) : RSt W W.heap.size (.slice (some ⟨g, 0, none⟩) n n) l := by
  subst hn
  refine ⟨_, _, g, 0, rfl, ⟨ofS_length l, Nat.le_refl _⟩, fun _ => ⟨rfl, hb.lt⟩, fun j hj => ?_⟩
  rw [Nat.zero_add, hb.cell, ← hc]; simp

set_option maxRecDepth 100000 in
set_option maxHeartbeats 4000000 in
theorem pair_any (w : World) : Calls Try.prog 47 #[] w fun e w' => ∃ g, e = .returned (.slice (some ⟨g, 0, none⟩) 4 4) ∧ w.heap.size ≤ g ∧ BK w' g #[.int .i64 0, .int .i64 0, .int .i64 0, .int .i64 10, .int .i64 (-2), .int .i64 2, .int .i64 20, .int .i64 0, .int .i64 1, .int .i64 40, .int .i64 8, .int .i64 10] 62 ∧ Below w.heap.size w w' := by
  go_enter Try.func47, Try.ntmps47
  go_wp2_with fail
  refine (station_any _ _ _ _).mono ?_
  rintro e w1 ⟨rfl, rfl⟩
  go_wp2_with fail
  refine (station_any _ _ _ _).mono ?_
  rintro e w1 ⟨rfl, rfl⟩
  go_wp2_with fail
  refine (station_any _ _ _ _).mono ?_
  rintro e w1 ⟨rfl, rfl⟩
  go_wp2_with fail
  refine (station_any _ _ _ _).mono ?_
  rintro e w1 ⟨rfl, rfl⟩
  go_wp2_with fail
  go_ret
  exact ⟨_, rfl, by first | (simp; done) | omega | (simp; omega), BK.new' _ _ _ _ (by first | rfl | simp), by exact bel_of⟩

set_option maxRecDepth 100000 in
set_option maxHeartbeats 4000000 in
theorem gaping_any (w : World) : Calls Try.prog 46 #[] w fun e w' => ∃ v, e = .returned v ∧ RSt w' w'.heap.size v pairP ∧ Below w.heap.size w w' := by
  go_enter Try.func46, Try.ntmps46
  go_wp2_with fail
  refine (pair_any _).mono ?_
  rintro e w1 ⟨g, rfl, hg, b1, hb1⟩
  have hlt := b1.lt
  have hs1 := hb1.size
  have z3 := b1.cell 3
  have z4 := b1.cell 4
  have z5 := b1.cell 5
  have f3 := b1.frozen 3
  have f4 := b1.frozen 4
  have f5 := b1.frozen 5
  simp at z3 z4 z5
  go_wp2_with fail
  refine (station_any _ _ _ _).mono ?_
  rintro e w2 ⟨rfl, rfl⟩
  go_wp2_with fail
  go_ret
  have b5 := (((b1.set 3 (.int .i64 10)).set 4 (.int .i64 1)).set 5 (.int .i64 2)).alloc (.cells #[.int .i64 10, .int .i64 1, .int .i64 2] 62)
  simp at b5
  exact ⟨_, rfl, rst_of_bk b5 (by simp [ofS, pairP]) 4 rfl, by exact bel_of⟩
theorem pair_ri (w : World) : Calls Try.prog 47 #[] w fun e w' => ∃ v, e = .returned v ∧ RSt w' w'.heap.size v pairQ ∧ Below w.heap.size w w' := by
  refine (pair_any w).mono ?_
  rintro e w1 ⟨g, rfl, _, b1, hb1⟩
  exact ⟨_, rfl, rst_of_bk b1 (by simp [ofS, pairQ]) 4 rfl, hb1⟩
end Go.Proofs.Ytbjmkmambmeifaa

namespace Go.Proofs.Ytbjmkmambmeifaa
open Go.RowKit

theorem ex_pairQ : checkPair pairQ = 0 := by kernel_rfl
theorem ex_pairP : checkPair pairP = 0 := by kernel_rfl
theorem ex_wedgeP : wedgeV pairP = .tuple #[.agg #[.int .i64 0, .int .i64 1, .int .i64 2], .int .i64 0] := by kernel_rfl
theorem ex_wedgeQ : wedgeV pairQ = .tuple #[.agg #[.int .i64 0, .int .i64 0, .int .i64 0], .int .i64 5] := by kernel_rfl
theorem ex_kinds : kindsP pairQ = [2, 1, 2, 2] := by kernel_rfl
theorem ex_heightsP : heightsErrP pairP = 22 := by kernel_rfl
theorem ex_heightsQ : heightsErrP pairQ = 0 := by kernel_rfl
theorem ex_heights : heightsP pairQ = [⟨0, 1⟩, ⟨1, 2⟩, ⟨1, 1⟩, ⟨10, 1⟩] := by kernel_rfl
theorem ex_can : canV pairQ 1 = .tuple #[.agg #[.int .i64 (-1), .int .i64 5, .int .i64 3, .int .i64 10], .int .i64 0] := by kernel_rfl
theorem ex_sure2 : sureV pairQ 2 = .tuple #[.agg #[.int .i64 3, .int .i64 10, .int .i64 7, .int .i64 20], .int .i64 0] := by kernel_rfl
theorem ex_sure1 : sureV pairQ 1 = errV 22 := by kernel_rfl
theorem ex_contactE : contactErr pairQ [0, -1, 1, 9] ⟨1, 5⟩ = 0 := by kernel_rfl
theorem ex_contact : contactL pairQ [0, -1, 1, 9] ⟨1, 5⟩ = [1, 2] := by kernel_rfl
theorem ex_tilts : tiltsV pairQ [0, -1, 1, 9] 1 = .tuple #[.agg #[.int .i64 (-1), .int .i64 10, .int .i64 1, .int .i64 5], .int .i64 0] := by kernel_rfl
theorem ex_tilts2 : tiltsV pairQ [0, 2, 1, 9] 1 = errV 22 := by kernel_rfl
theorem ex_ground : groundV pairP 1 = .tuple #[.agg #[.int .i64 1, .int .i64 2, .int .i64 2, .int .i64 1], .int .i64 0] := by kernel_rfl
theorem ex_check : checkHP pairQ [⟨0, 1⟩, ⟨1, 2⟩, ⟨1, 1⟩, ⟨10, 1⟩] = 0 := by kernel_rfl
theorem ex_check2 : checkHP pairQ [⟨0, 1⟩, ⟨1, 1⟩, ⟨1, 1⟩, ⟨10, 1⟩] = 22 := by kernel_rfl
end Go.Proofs.Ytbjmkmambmeifaa

namespace Go.Proofs.Ytbjmkmambmeifaa
open Go.RowKit

theorem eq_of_nthI {a b : List Int} (h : a.length = b.length) (h2 : ∀ k, k < a.length → nthI a k = nthI b k) : a = b := by
  refine List.ext_getElem h fun i h3 h4 => ?_
  have := h2 i h3
  simpa [nthI, h3, h4] using this
theorem eq_of_nthR {a b : List Ra} (h : a.length = b.length) (h2 : ∀ k, k < a.length → nthR a k = nthR b k) : a = b := by
  refine List.ext_getElem h fun i h3 h4 => ?_
  have := h2 i h3
  simpa [nthR, h3, h4] using this

set_option maxHeartbeats 2000000 in
theorem ints_any (a b : List Int) (va vb : Value) (w : World) (hl : a.length ≤ 1000) (hl2 : b.length ≤ 1000) (h : RI w w.heap.size va a) (h' : RI w w.heap.size vb b) :
    Calls Try.prog 21 #[va, vb] w fun e w' => e = .returned (.bool (decide (a = b))) ∧ Below w.heap.size w w' := by
  obtain ⟨A, cap, bb, off, rfl, hA, hc⟩ := h.cells
  obtain ⟨A', cap', bb', off', rfl, hA', hc'⟩ := h'.cells
  have HC := Lib.hid hc; have HC' := Lib.hid hc'; have HA := Lib.hid hA; have HA' := Lib.hid hA'
  clear hc hc' hA hA' h h'
  by_cases hlen : a.length = b.length
  · have hb0 : b.length = a.length := hlen.symm
    rw [hb0] at HC' HA' hl2 ⊢
    have HLEN := Lib.hid hlen
    clear hlen hb0
    have hne : ((a.length : Int) != (a.length : Int)) = false := by simp
    go_enter Try.func21, Try.ntmps21
    go_wp2_with fail
    go_loopw [5] (fun i wr => ∃ k : Nat, k ≤ a.length ∧ i = .int .i64 k ∧ Below w.heap.size w wr ∧ ∀ j, j < k → nthI a j = nthI b j) (fun i _ => a.length - (intOf i).toNat)
    case atStart => exact ⟨0, Nat.zero_le _, rfl, by exact bel_of, fun j hj => absurd hj (by omega)⟩
    case round =>
      obtain ⟨k, hk, rfl, hbw, hall⟩ := hrel
      have HALL := Lib.hid hall; clear hall
      have hsz := hbw.size
      by_cases hlt : k < a.length
      · obtain ⟨rfl, hb⟩ := HA.out (by omega)
        obtain ⟨rfl, hb'⟩ := HA'.out (by omega)
        have c0 := HC.out k hlt
        have c1 := HC'.out k (by omega)
        rw [← hbw.cell (by exact hb)] at c0
        rw [← hbw.cell (by exact hb')] at c1
        have hbr : bb < wr.heap.size := by omega
        have hbr' : bb' < wr.heap.size := by omega
        by_cases he : nthI a k = nthI b k
        · have d1 : (nthI a k != nthI b k) = false := by simpa using he
          have HE := Lib.hid he; clear he
          go_wp2_with fail
          go_quiet (fail)
          go_wp2_with fail
          go_roundw
          case rel => exact ⟨k + 1, by omega, by go_num, by exact bel_of, fun j hj => by
            rcases Nat.lt_succ_iff_lt_or_eq.1 hj with h | rfl
            · exact HALL.out j h
            · exact HE.out⟩
          case measure => simp [intOf]; omega
        · have d1 : (nthI a k != nthI b k) = true := by simpa using he
          have HE := Lib.hid (show a ≠ b by rintro rfl; exact he rfl); clear he
          go_wp2_with fail
          go_quiet (fail)
          go_wp2_with fail
          go_ret
          exact ⟨by rw [decide_eq_false HE.out]; rfl, by exact bel_of⟩
      · have HE := Lib.hid (eq_of_nthI HLEN.out fun j hj => HALL.out j (by omega))
        clear HALL
        go_wp2_with fail
        go_ret
        exact ⟨by rw [decide_eq_true HE.out]; rfl, by exact bel_of⟩
  · have hne : ((a.length : Int) != (b.length : Int)) = true := by simp; omega
    have HE := Lib.hid (show a ≠ b by rintro rfl; exact hlen rfl)
    go_enter Try.func21, Try.ntmps21
    go_wp2_with fail
    go_ret
    exact ⟨by rw [decide_eq_false HE.out]; rfl, by exact bel_of⟩

set_option maxHeartbeats 2000000 in
theorem ratios_any (a b : List Ra) (va vb : Value) (w : World) (hl : a.length ≤ 1000) (hl2 : b.length ≤ 1000) (h : RRa w w.heap.size va a) (h' : RRa w w.heap.size vb b) :
    Calls Try.prog 36 #[va, vb] w fun e w' => e = .returned (.bool (decide (a = b))) ∧ Below w.heap.size w w' := by
  obtain ⟨A, cap, bb, off, rfl, hA, hc⟩ := h.cells
  obtain ⟨A', cap', bb', off', rfl, hA', hc'⟩ := h'.cells
  have HC := Lib.hid hc; have HC' := Lib.hid hc'; have HA := Lib.hid hA; have HA' := Lib.hid hA'
  clear hc hc' hA hA' h h'
  by_cases hlen : a.length = b.length
  · have hb0 : b.length = a.length := hlen.symm
    rw [hb0] at HC' HA' hl2 ⊢
    have HLEN := Lib.hid hlen
    clear hlen hb0
    have hne : ((a.length : Int) != (a.length : Int)) = false := by simp
    go_enter Try.func36, Try.ntmps36
    go_wp2_with fail
    go_loopw [5] (fun i wr => ∃ k : Nat, k ≤ a.length ∧ i = .int .i64 k ∧ Below w.heap.size w wr ∧ ∀ j, j < k → nthR a j = nthR b j) (fun i _ => a.length - (intOf i).toNat)
    case atStart => exact ⟨0, Nat.zero_le _, rfl, by exact bel_of, fun j hj => absurd hj (by omega)⟩
    case round =>
      obtain ⟨k, hk, rfl, hbw, hall⟩ := hrel
      have HALL := Lib.hid hall; clear hall
      have hsz := hbw.size
      by_cases hlt : k < a.length
      · obtain ⟨rfl, hb⟩ := HA.out (by omega)
        obtain ⟨rfl, hb'⟩ := HA'.out (by omega)
        have hc0 := HC.out k hlt
        have hc1 := HC'.out k (by omega)
        rw [← hbw.cell (by exact hb), ← hbw.cell (by exact hb)] at hc0
        rw [← hbw.cell (by exact hb'), ← hbw.cell (by exact hb')] at hc1
        obtain ⟨c0, c1⟩ := hc0
        obtain ⟨c2, c3⟩ := hc1
        have hbr : bb < wr.heap.size := by omega
        have hbr' : bb' < wr.heap.size := by omega
        rcases (by
          by_cases h1 : (nthR a k).num = (nthR b k).num
          · by_cases h2 : (nthR a k).den = (nthR b k).den
            · exact .inl ⟨h1, h2⟩
            · exact .inr (.inl ⟨h1, h2⟩)
          · exact .inr (.inr h1) : ((nthR a k).num = (nthR b k).num ∧ (nthR a k).den = (nthR b k).den) ∨ ((nthR a k).num = (nthR b k).num ∧ ¬ (nthR a k).den = (nthR b k).den) ∨ ¬ (nthR a k).num = (nthR b k).num) with ⟨h1, h2⟩ | ⟨h1, h2⟩ | h1
        · have d1 : ((nthR a k).num == (nthR b k).num) = true := by simpa using h1
          have d2 : ((nthR a k).den == (nthR b k).den) = true := by simpa using h2
          have HE := Lib.hid (show nthR a k = nthR b k by
            cases hx : nthR a k; cases hy : nthR b k; rw [hx, hy] at h1 h2; simp at h1 h2; rw [h1, h2]); clear h1 h2
          go_wp2_with fail
          go_quiet (fail)
          go_wp2_with fail
          go_roundw
          case rel => exact ⟨k + 1, by omega, by go_num, by exact bel_of, fun j hj => by
            rcases Nat.lt_succ_iff_lt_or_eq.1 hj with h | rfl
            · exact HALL.out j h
            · exact HE.out⟩
          case measure => simp [intOf]; omega
        · have d1 : ((nthR a k).num == (nthR b k).num) = true := by simpa using h1
          have d2 : ((nthR a k).den == (nthR b k).den) = false := by simpa using h2
          have HE := Lib.hid (show a ≠ b by rintro rfl; exact h2 rfl); clear h1 h2
          go_wp2_with fail
          go_quiet (fail)
          go_wp2_with fail
          go_ret
          exact ⟨by rw [decide_eq_false HE.out]; rfl, by exact bel_of⟩
        · have d1 : ((nthR a k).num == (nthR b k).num) = false := by simpa using h1
          have HE := Lib.hid (show a ≠ b by rintro rfl; exact h1 rfl); clear h1
          go_wp2_with fail
          go_quiet (fail)
          go_wp2_with fail
          go_ret
          exact ⟨by rw [decide_eq_false HE.out]; rfl, by exact bel_of⟩
      · have HE := Lib.hid (eq_of_nthR HLEN.out fun j hj => HALL.out j (by omega))
        clear HALL
        go_wp2_with fail
        go_ret
        exact ⟨by rw [decide_eq_true HE.out]; rfl, by exact bel_of⟩
  · have hne : ((a.length : Int) != (b.length : Int)) = true := by simp; omega
    have HE := Lib.hid (show a ≠ b by rintro rfl; exact hlen rfl)
    go_enter Try.func36, Try.ntmps36
    go_wp2_with fail
    go_ret
    exact ⟨by rw [decide_eq_false HE.out]; rfl, by exact bel_of⟩
end Go.Proofs.Ytbjmkmambmeifaa

namespace Go.Proofs.Ytbjmkmambmeifaa
open Go.RowKit

set_option maxRecDepth 100000 in
set_option maxHeartbeats 4000000 in
theorem canP_any (l : List St) (s : Int) (vl : Value) (w : World) (hl : l.length ≤ 1000) (h : RSt w w.heap.size vl l) :
    Calls Try.prog 24 #[vl, .int .i64 s] w fun e w' => e = .returned (canV l s) ∧ Below w.heap.size w w' := by
  by_cases hp : checkStation l s = 0
  · obtain ⟨hv, k, rfl, hk⟩ := checkStation_zero l s hp
    obtain ⟨hn0, hn1⟩ := checkPair_len l hv
    have hat := fun w1 (hb : Below w.heap.size w w1) => at_ok l k true vl w1 hl ((h.below hb).more hb.size) hv hk
    simp only [Bool.not_true, Bool.not_false] at hat
    have hown := ends_at l false k hk
    simp only [Bool.false_eq_true, if_true, if_false] at hown
    have hsp := fun W vb (hr : RB W (.pointer vb) l (ends l true)) => span_any l (ends l true) k (nthI (ends l false) k) (nthS l k).lo (nthS l k).hi vb W hn1 hk hr (valid_lt l hv) (valid_a l hv) (ends_rng l _ hv) (ends_rng l _ hv k hk)
    have hV : canV l k = spanV l (ends l true) k (nthI (ends l false) k) := by
      unfold canV
      rw [if_neg (by simpa using hp), Int.toNat_natCast, hown]
    obtain ⟨a1, a2, a3, a4, a5, hsv⟩ := spanV_form l (ends l true) k (nthI (ends l false) k)
    rw [hsv] at hsp hV
    have HV := Lib.hid hV; have HAT := Lib.hid hat; have HSP := Lib.hid hsp
    clear hV hat hsp hp hv hsv hown h
    go_enter Try.func24, Try.ntmps24
    go_wp2_with fail
    refine (HAT.out _ (by exact bel_of)).mono ?_
    rintro e w1 ⟨g, rfl, hR, hb1⟩
    have hB1 : Below w.heap.size w w1 := (Below.trans (a := w) (B := w.heap.size) (by exact bel_of) (hb1.mono (by first | omega | (simp; omega) | (simp; done))))
    have b1 : BK w1 w.heap.size #[.int .i64 0, .int .i64 0, .int .i64 0, .int .i64 0] 34 := BK.below (BK.new _ _ _) hb1 (by simp)
    have hlt1 := b1.lt
    clear hb1
    unfold ptV
    have hR2 := hR.below (W' := w1.alloc (.cells #[.int .i64 (nthS l k).a, .int .i64 (nthS l k).lo, .int .i64 (nthS l k).hi, .int .i64 k, .int .i64 (nthI (ends l false) k)] 85)) (by exact bel_of)
    go_wp2_with fail
    refine (HSP.out _ _ hR2).mono ?_
    rintro e w3 ⟨rfl, hb3⟩
    have hB3 : Below w.heap.size w w3 := (Below.trans (a := w) (B := w.heap.size) (by exact bel_of) (hb3.mono (by first | omega | (simp; omega) | (simp; done))))
    have b3 : BK w3 w.heap.size #[.int .i64 0, .int .i64 0, .int .i64 0, .int .i64 0] 34 := (b1.alloc _).below hb3 (by simp; omega)
    clear hb3 hR hR2 b1
    have y0 := b3.cell 0
    have y1 := b3.cell 1
    have y2 := b3.cell 2
    have y3 := b3.cell 3
    have f0 := b3.frozen 0
    have f1 := b3.frozen 1
    have f2 := b3.frozen 2
    have f3 := b3.frozen 3
    simp at y0 y1 y2 y3
    go_wp2_with fail
    have b5 := ((((b3.set 0 (.int .i64 a1)).set 1 (.int .i64 a2)).set 2 (.int .i64 a3)).set 3 (.int .i64 a4))
    simp at b5
    refine ret_bk (w := w) (n := w.heap.size) b5 (by exact bel_of) (v := .tuple #[.agg #[.int .i64 a1, .int .i64 a2, .int .i64 a3, .int .i64 a4], .int .i64 a5]) ?_ ?_
    · intro W' hb'
      have z0 := hb'.cell 0
      have z1 := hb'.cell 1
      have z2 := hb'.cell 2
      have z3 := hb'.cell 3
      simp at z0 z1 z2 z3
      simp [results, Try.results24, go_sem, z0, z1, z2, z3]
    exact ⟨by rw [HV.out], by exact bel_of⟩
  · obtain ⟨e0, he0⟩ : ∃ e0, checkStation l s = e0 := ⟨_, rfl⟩
    have hat := fun w1 (hb : Below w.heap.size w w1) => at_bad l s true vl w1 hl ((h.below hb).more hb.size) hp
    have hV : canV l s = errV (checkStation l s) := by unfold canV; rw [if_pos hp]
    rw [he0] at hat hp hV
    have hpb : (e0 != 0) = true := by simpa using hp
    have HV := Lib.hid hV; have HAT := Lib.hid hat
    clear hV hat he0 hp h
    go_enter Try.func24, Try.ntmps24
    go_wp2_with fail
    refine (HAT.out _ (by exact bel_of)).mono ?_
    rintro e w1 ⟨rfl, hb1⟩
    have hB1 : Below w.heap.size w w1 := (Below.trans (a := w) (B := w.heap.size) (by exact bel_of) (hb1.mono (by first | omega | (simp; omega) | (simp; done))))
    have b1 : BK w1 w.heap.size #[.int .i64 0, .int .i64 0, .int .i64 0, .int .i64 0] 34 := BK.below (BK.new _ _ _) hb1 (by simp)
    have hlt1 := b1.lt
    clear hb1
    have y0 := b1.cell 0
    have y1 := b1.cell 1
    have y2 := b1.cell 2
    have y3 := b1.cell 3
    have f0 := b1.frozen 0
    have f1 := b1.frozen 1
    have f2 := b1.frozen 2
    have f3 := b1.frozen 3
    simp at y0 y1 y2 y3
    go_wp2_with fail
    have b5 := ((((b1.set 0 (.int .i64 0)).set 1 (.int .i64 0)).set 2 (.int .i64 0)).set 3 (.int .i64 0)).alloc (.cells #[.int .i64 0, .int .i64 0, .int .i64 0, .int .i64 0, .int .i64 0] 85)
    simp at b5
    refine ret_bk (w := w) (n := w.heap.size) b5 (by exact bel_of) (v := .tuple #[.agg #[.int .i64 0, .int .i64 0, .int .i64 0, .int .i64 0], .int .i64 e0]) ?_ ?_
    · intro W' hb'
      have z0 := hb'.cell 0
      have z1 := hb'.cell 1
      have z2 := hb'.cell 2
      have z3 := hb'.cell 3
      simp at z0 z1 z2 z3
      simp [results, Try.results24, go_sem, z0, z1, z2, z3]
    exact ⟨by rw [HV.out]; rfl, by exact bel_of⟩
end Go.Proofs.Ytbjmkmambmeifaa

namespace Go.Proofs.Ytbjmkmambmeifaa
open Go.RowKit

set_option maxRecDepth 100000 in
set_option maxHeartbeats 4000000 in
theorem sureP_any (l : List St) (s : Int) (vl : Value) (w : World) (hl : l.length ≤ 1000) (h : RSt w w.heap.size vl l) :
    Calls Try.prog 26 #[vl, .int .i64 s] w fun e w' => e = .returned (sureV l s) ∧ Below w.heap.size w w' := by
  by_cases hp : checkStation l s = 0
  · obtain ⟨hv, k, rfl, hk⟩ := checkStation_zero l s hp
    obtain ⟨hn0, hn1⟩ := checkPair_len l hv
    have hat := fun w1 (hb : Below w.heap.size w w1) => at_ok l k false vl w1 hl ((h.below hb).more hb.size) hv hk
    simp only [Bool.not_true, Bool.not_false] at hat
    have hown := ends_at l true k hk
    simp only [Bool.false_eq_true, if_true, if_false] at hown
    have hsp := fun W vb (hr : RB W (.pointer vb) l (ends l false)) => span_any l (ends l false) k (nthI (ends l true) k) (nthS l k).lo (nthS l k).hi vb W hn1 hk hr (valid_lt l hv) (valid_a l hv) (ends_rng l _ hv) (ends_rng l _ hv k hk)
    have hV : sureV l k = spanV l (ends l false) k (nthI (ends l true) k) := by
      unfold sureV
      rw [if_neg (by simpa using hp), Int.toNat_natCast, hown]
    obtain ⟨a1, a2, a3, a4, a5, hsv⟩ := spanV_form l (ends l false) k (nthI (ends l true) k)
    rw [hsv] at hsp hV
    have HV := Lib.hid hV; have HAT := Lib.hid hat; have HSP := Lib.hid hsp
    clear hV hat hsp hp hv hsv hown h
    go_enter Try.func26, Try.ntmps26
    go_wp2_with fail
    refine (HAT.out _ (by exact bel_of)).mono ?_
    rintro e w1 ⟨g, rfl, hR, hb1⟩
    have hB1 : Below w.heap.size w w1 := (Below.trans (a := w) (B := w.heap.size) (by exact bel_of) (hb1.mono (by first | omega | (simp; omega) | (simp; done))))
    have b1 : BK w1 w.heap.size #[.int .i64 0, .int .i64 0, .int .i64 0, .int .i64 0] 34 := BK.below (BK.new _ _ _) hb1 (by simp)
    have hlt1 := b1.lt
    clear hb1
    unfold ptV
    have hR2 := hR.below (W' := w1.alloc (.cells #[.int .i64 (nthS l k).a, .int .i64 (nthS l k).lo, .int .i64 (nthS l k).hi, .int .i64 k, .int .i64 (nthI (ends l true) k)] 85)) (by exact bel_of)
    go_wp2_with fail
    refine (HSP.out _ _ hR2).mono ?_
    rintro e w3 ⟨rfl, hb3⟩
    have hB3 : Below w.heap.size w w3 := (Below.trans (a := w) (B := w.heap.size) (by exact bel_of) (hb3.mono (by first | omega | (simp; omega) | (simp; done))))
    have b3 : BK w3 w.heap.size #[.int .i64 0, .int .i64 0, .int .i64 0, .int .i64 0] 34 := (b1.alloc _).below hb3 (by simp; omega)
    clear hb3 hR hR2 b1
    have y0 := b3.cell 0
    have y1 := b3.cell 1
    have y2 := b3.cell 2
    have y3 := b3.cell 3
    have f0 := b3.frozen 0
    have f1 := b3.frozen 1
    have f2 := b3.frozen 2
    have f3 := b3.frozen 3
    simp at y0 y1 y2 y3
    go_wp2_with fail
    have b5 := ((((b3.set 0 (.int .i64 a1)).set 1 (.int .i64 a2)).set 2 (.int .i64 a3)).set 3 (.int .i64 a4))
    simp at b5
    refine ret_bk (w := w) (n := w.heap.size) b5 (by exact bel_of) (v := .tuple #[.agg #[.int .i64 a1, .int .i64 a2, .int .i64 a3, .int .i64 a4], .int .i64 a5]) ?_ ?_
    · intro W' hb'
      have z0 := hb'.cell 0
      have z1 := hb'.cell 1
      have z2 := hb'.cell 2
      have z3 := hb'.cell 3
      simp at z0 z1 z2 z3
      simp [results, Try.results26, go_sem, z0, z1, z2, z3]
    exact ⟨by rw [HV.out], by exact bel_of⟩
  · obtain ⟨e0, he0⟩ : ∃ e0, checkStation l s = e0 := ⟨_, rfl⟩
    have hat := fun w1 (hb : Below w.heap.size w w1) => at_bad l s false vl w1 hl ((h.below hb).more hb.size) hp
    have hV : sureV l s = errV (checkStation l s) := by unfold sureV; rw [if_pos hp]
    rw [he0] at hat hp hV
    have hpb : (e0 != 0) = true := by simpa using hp
    have HV := Lib.hid hV; have HAT := Lib.hid hat
    clear hV hat he0 hp h
    go_enter Try.func26, Try.ntmps26
    go_wp2_with fail
    refine (HAT.out _ (by exact bel_of)).mono ?_
    rintro e w1 ⟨rfl, hb1⟩
    have hB1 : Below w.heap.size w w1 := (Below.trans (a := w) (B := w.heap.size) (by exact bel_of) (hb1.mono (by first | omega | (simp; omega) | (simp; done))))
    have b1 : BK w1 w.heap.size #[.int .i64 0, .int .i64 0, .int .i64 0, .int .i64 0] 34 := BK.below (BK.new _ _ _) hb1 (by simp)
    have hlt1 := b1.lt
    clear hb1
    have y0 := b1.cell 0
    have y1 := b1.cell 1
    have y2 := b1.cell 2
    have y3 := b1.cell 3
    have f0 := b1.frozen 0
    have f1 := b1.frozen 1
    have f2 := b1.frozen 2
    have f3 := b1.frozen 3
    simp at y0 y1 y2 y3
    go_wp2_with fail
    have b5 := ((((b1.set 0 (.int .i64 0)).set 1 (.int .i64 0)).set 2 (.int .i64 0)).set 3 (.int .i64 0)).alloc (.cells #[.int .i64 0, .int .i64 0, .int .i64 0, .int .i64 0, .int .i64 0] 85)
    simp at b5
    refine ret_bk (w := w) (n := w.heap.size) b5 (by exact bel_of) (v := .tuple #[.agg #[.int .i64 0, .int .i64 0, .int .i64 0, .int .i64 0], .int .i64 e0]) ?_ ?_
    · intro W' hb'
      have z0 := hb'.cell 0
      have z1 := hb'.cell 1
      have z2 := hb'.cell 2
      have z3 := hb'.cell 3
      simp at z0 z1 z2 z3
      simp [results, Try.results26, go_sem, z0, z1, z2, z3]
    exact ⟨by rw [HV.out]; rfl, by exact bel_of⟩
end Go.Proofs.Ytbjmkmambmeifaa
