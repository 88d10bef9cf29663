/- The iterator over the links of a bench. -/
import Derived.Test.YtkljdbgkhghiaaaP5
set_option linter.all false
set_option linter.unnecessarySimpa false
set_option linter.unusedSimpArgs false
set_option linter.unusedVariables false
set_option linter.unusedSectionVars false

attribute [local go_sem] Go.Oper.semAt_some
namespace Go.Proofs.Ytkljdbgkhghiaaa
open Go.RowKit Kp

def klV (k : Kl) : Value := .agg #[.int .i64 k.src, .int .i64 k.dst, .int .i64 k.tst]
/-- Which edges are below the top one. -/
def qOf (bel : List Int) (asks : Bool) : Nat → Bool := fun v => asks && nthI bel v == 1
/-- What the iterator reads. -/
def LinksMem (c1 g E : Nat) (vt : Value) (ts : List Kt) (bel : List Int) (top : Int) (asks : Bool) (W : World) : Prop := W.cell? ⟨c1, 0, none⟩ = some (.pointer (some ⟨g, 0, none⟩)) ∧ Bn W g E vt ts bel top asks
theorem eg85 : ∀ args w, (callFunc 85 args).run Try.prog w = .ok (.enter 85 args) w := enters_of Try.func85 (by kernel_rfl) rfl

set_option maxHeartbeats 8000000 in
theorem links_iter (T : TypeId → Prop) (hT : ¬ T 56) (c1 g E : Nat) (vt : Value) (ts : List Kt) (bel : List Int) (top : Int) (asks : Bool) (ho : Okb E ts) (hl : ts.length ≤ 1000) :
    Iter Try.prog 85 #[.pointer (some ⟨c1, 0, none⟩)] (fun i => #[klV (nthW (lks E ts (qOf bel asks) top) i).1, .int .i64 (nthW (lks E ts (qOf bel asks) top) i).2]) (atE ts (qOf bel asks) top E) (LinksMem c1 g E vt ts bel top asks) T := by
  intro lp J Jx W hJ hJx hR hY h0
  refine (callsIn_wide (n := 100)).1 ?_
  refine callsIn_of_wp Try.func85 rfl trivial ?_ rfl
  simp only [Try.ntmps85, List.size_toArray, List.length_cons, List.length_nil, Nat.reduceAdd, Nat.reduceSub, Array.replicate_succ, Array.replicate_zero, List.push_toArray, List.append_toArray, List.nil_append, List.cons_append]
  obtain ⟨⟨k1, hB⟩, hz0⟩ := hR 0 W h0
  obtain ⟨k2, hts⟩ := hB.tests
  obtain ⟨b, off, cap, A, rfl, hA⟩ := hts.slice
  have HA := Lib.hid hA
  have hEn := atE_le ts (qOf bel asks) top 0 E (Nat.zero_le _)
  rw [atE_0] at hEn
  have HE := Lib.hid hEn
  have kE := hB.cells.1
  clear hB hEn hA hts
  gi_wp2
  clear k1 k2 kE
  gi_loopw [12] (fun i wr => ∃ k : Nat, k ≤ ts.length ∧ i = .int .i64 k ∧ J (2 * k) wr) (fun i wr => ts.length - (intOf i).toNat)
  case atStart => exact ⟨0, Nat.zero_le _, rfl, by simpa using h0⟩
  case round =>
    obtain ⟨k, hk, rfl, hJk⟩ := hrel
    clear h0
    by_cases hlt : k < ts.length
    · obtain rfl := HA.out (by omega)
      obtain ⟨⟨k1, hB⟩, hz⟩ := hR _ wr hJk
      obtain ⟨k2, hts⟩ := hB.tests
      obtain ⟨hb, d1, d2, d3, d4⟩ := hts.at hlt
      obtain ⟨y1, y2⟩ := lks_test (E := E) (q := qOf bel asks) (top := top) hlt
      obtain ⟨q1, q2, q3, q4, q5, q6, q7, q8⟩ := ho.tst _ (nthT_mem hlt)
      have ww : IntKind.i64.wrap (-(nthT ts k).lo) = -(nthT ts k).lo := by rw [IntKind.wrap_i64]; omega
      generalize nthT ts k = t at *
      clear hts k1 k2 hB q1 q2 q3 q4 q5 q6 q7 q8
      have HJ := Lib.hid hJk; clear hJk
      obtain ⟨n, hn⟩ : ∃ n, wr.heap.size = n := ⟨_, rfl⟩
      have hb1 : Below wr.heap.size wr (wr.alloc (.cells #[.int .i64 t.one, .int .i64 t.two, .int .i64 t.lo, .int .i64 t.hi] 56)) := by exact bel_of
      have b1 : BK (wr.alloc (.cells #[.int .i64 t.one, .int .i64 t.two, .int .i64 t.lo, .int .i64 t.hi] 56)) n #[.int .i64 t.one, .int .i64 t.two, .int .i64 t.lo, .int .i64 t.hi] 56 := BK.new' _ _ _ n hn
      have hJ1 := hJ _ _ _ HJ.out (Adm.below hb1)
      obtain ⟨fn, tmps, assign, body, hy, hRd⟩ := hY (2 * k) _ 98 (by have := HE.out; omega) hJ1
      rw [y1] at hy
      unfold klV at hy
      clear hJ1 HJ hb1
      gi_wp2_with fail
      refine RoundIn.mono (RoundIn.any hRd) ?_
      clear hRd hy
      rintro e W3 (⟨rfl, hJ3, hk3⟩ | ⟨rfl, hJ3, hk3⟩)
      · have b3 : BK W3 n #[.int .i64 t.one, .int .i64 t.two, .int .i64 t.lo, .int .i64 t.hi] 56 := hk3.cells (by omega) b1 hT
        have x0 := b3.cell 0
        have x1 := b3.cell 1
        have x2 := b3.cell 2
        have x3 := b3.cell 3
        have xl := b3.lt
        simp at x0 x1 x2 x3
        obtain ⟨fn, tmps, assign, body, hy, hRd⟩ := hY (2 * k + 1) W3 98 (by have := HE.out; omega) hJ3
        rw [y2] at hy
        unfold klV at hy
        clear hJ3 hk3 b1 b3
        gi_wp2_with fail
        refine RoundIn.mono (RoundIn.any hRd) ?_
        clear hRd hy x0 x1 x2 x3 xl
        rintro e W4 (⟨rfl, hJ4, _⟩ | ⟨rfl, hJ4, _⟩)
        · have HX := Lib.hid hJ4
          clear hJ4
          gi_wp2_with fail
          go_roundw
          case rel => exact ⟨k + 1, by omega, by go_num, HX.out⟩
          case measure => simp [intOf]; omega
        · skip
          have HX := Lib.hid hJ4
          clear hJ4
          gi_wp2_with fail
          repeat (first | refine ⟨fun _ _ => trivial, ?_⟩ | refine ⟨trivial, ?_⟩)
          gi_wp2_with fail
          refine bodyPost_ret (results_none rfl _ _ _) rfl ?_
          exact ⟨⟨_, rfl⟩, .inr ⟨2 * k + 1, (by have := HE.out; omega), HX.out⟩⟩
      · skip
        have HX := Lib.hid hJ3
        clear hJ3
        gi_wp2_with fail
        repeat (first | refine ⟨fun _ _ => trivial, ?_⟩ | refine ⟨trivial, ?_⟩)
        gi_wp2_with fail
        refine bodyPost_ret (results_none rfl _ _ _) rfl ?_
        exact ⟨⟨_, rfl⟩, .inr ⟨2 * k, (by have := HE.out; omega), HX.out⟩⟩
    · have HJ := Lib.hid hJk
      obtain ⟨⟨k1, hB⟩, hz⟩ := hR _ wr hJk
      have k2 := hB.cells.1
      have hke : k = ts.length := by omega
      clear hJk hlt hB
      gi_wp2
      clear k1 k2
      gi_loopw [50] (fun i wr => ∃ v : Nat, v ≤ E ∧ i = .int .i64 v ∧ J (atE ts (qOf bel asks) top v) wr) (fun i wr => E - (intOf i).toNat)
      case atStart => exact ⟨0, Nat.zero_le _, rfl, by rw [atE_0, ← hke]; exact HJ.out⟩
      case round =>
        obtain ⟨v, hv, rfl, hJv⟩ := hrel
        clear HJ hke
        by_cases hlt : v < E
        · obtain ⟨y1, y2, y3⟩ := lks_edge (ts := ts) (q := qOf bel asks) (top := top) hlt
          have hle := atE_le ts (qOf bel asks) top (v + 1) E (by omega)
          have hsu := atE_succ ts (qOf bel asks) top v
          have h16 := ho.few
          generalize atE ts (qOf bel asks) top v = m at *
          have Y3 := Lib.hid y3
          have HS := Lib.hid hsu
          have HL := Lib.hid hle
          have hm1 : m + 1 < atE ts (qOf bel asks) top E := by
            rw [hsu] at hle
            split at hle <;> omega
          have HM := Lib.hid hm1
          clear y3 hsu hle hm1 hz
          obtain ⟨fn, tmps, assign, body, hy, hRd⟩ := hY m wr 98 (by have := HM.out; omega) hJv
          rw [y1] at hy
          unfold klV at hy
          clear hJv
          gi_wp2_with fail
          refine RoundIn.mono (RoundIn.any hRd) ?_
          clear hRd hy
          rintro e W3 (⟨rfl, hJ3, hk3⟩ | ⟨rfl, hJ3, hk3⟩)
          · obtain ⟨fn, tmps, assign, body, hy, hRd⟩ := hY (m + 1) W3 98 HM.out hJ3
            rw [y2] at hy
            unfold klV at hy
            clear hJ3 hk3
            gi_wp2_with fail
            refine RoundIn.mono (RoundIn.any hRd) ?_
            clear hRd hy
            rintro e W4 (⟨rfl, hJ4, _⟩ | ⟨rfl, hJ4, _⟩)
            · obtain ⟨⟨k1, hB⟩, hz⟩ := hR _ W4 hJ4
              obtain ⟨c0, c1', c2, c3⟩ := hB.cells
              have c4 := c1' v (by omega)
              have HX := Lib.hid hJ4
              have hgl := hB.lt
              clear hJ4 hB c1' hz c0
              cases asks with
              | false =>
                have hq : qOf bel false v = false := rfl
                have HQ := Lib.hid (show atE ts (qOf bel false) top (v + 1) = m + 2 by rw [HS.out, hq]; rfl)
                clear hq
                gi_wp2_with fail
                repeat (first | refine ⟨fun _ _ => trivial, ?_⟩ | refine ⟨trivial, ?_⟩)
                gi_wp2_with fail
                go_roundw
                case rel => exact ⟨v + 1, by omega, by go_num, by rw [HQ.out]; exact HX.out⟩
                case measure => simp [intOf]; omega
              | true =>
                cases hb1 : (nthI bel v == 1) with
                | false =>
                  have hq : qOf bel true v = false := by unfold qOf; rw [hb1]; rfl
                  have HQ := Lib.hid (show atE ts (qOf bel true) top (v + 1) = m + 2 by rw [HS.out, hq]; rfl)
                  clear hq
                  gi_wp2_with fail
                  repeat (first | refine ⟨fun _ _ => trivial, ?_⟩ | refine ⟨trivial, ?_⟩)
                  gi_wp2_with fail
                  go_roundw
                  case rel => exact ⟨v + 1, by omega, by go_num, by rw [HQ.out]; exact HX.out⟩
                  case measure => simp [intOf]; omega
                | true =>
                  have hq : qOf bel true v = true := by unfold qOf; rw [hb1]; rfl
                  have HQ := Lib.hid (show atE ts (qOf bel true) top (v + 1) = m + 3 by rw [HS.out, hq]; rfl)
                  have y3 := Y3.out hq
                  obtain ⟨fn, tmps, assign, body, hy, hRd⟩ := hY (m + 2) W4 98 (by have := HL.out; rw [HQ.out] at this; omega) HX.out
                  rw [y3] at hy
                  unfold klV at hy
                  clear hq
                  gi_wp2_with fail
                  refine RoundIn.mono (RoundIn.any hRd) ?_
                  clear hRd hy HX
                  rintro e W5 (⟨rfl, hJ5, _⟩ | ⟨rfl, hJ5, _⟩)
                  · have HX := Lib.hid hJ5
                    clear hJ5
                    gi_wp2_with fail
                    go_roundw
                    case rel => exact ⟨v + 1, by omega, by go_num, by rw [HQ.out]; exact HX.out⟩
                    case measure => simp [intOf]; omega
                  · skip
                    have HX := Lib.hid hJ5
                    clear hJ5
                    gi_wp2_with fail
                    repeat (first | refine ⟨fun _ _ => trivial, ?_⟩ | refine ⟨trivial, ?_⟩)
                    gi_wp2_with fail
                    refine bodyPost_ret (results_none rfl _ _ _) rfl ?_
                    exact ⟨⟨_, rfl⟩, .inr ⟨m + 2, (by have := HL.out; rw [HQ.out] at this; omega), HX.out⟩⟩
            · skip
              have HX := Lib.hid hJ4
              clear hJ4
              gi_wp2_with fail
              repeat (first | refine ⟨fun _ _ => trivial, ?_⟩ | refine ⟨trivial, ?_⟩)
              gi_wp2_with fail
              refine bodyPost_ret (results_none rfl _ _ _) rfl ?_
              exact ⟨⟨_, rfl⟩, .inr ⟨m + 1, HM.out, HX.out⟩⟩
          · skip
            have HX := Lib.hid hJ3
            clear hJ3
            gi_wp2_with fail
            repeat (first | refine ⟨fun _ _ => trivial, ?_⟩ | refine ⟨trivial, ?_⟩)
            gi_wp2_with fail
            refine bodyPost_ret (results_none rfl _ _ _) rfl ?_
            exact ⟨⟨_, rfl⟩, .inr ⟨m, (by have := HM.out; omega), HX.out⟩⟩
        · have hve : v = E := by omega
          subst hve
          have HX := Lib.hid hJv
          clear hJv
          gi_wp2_with fail
          go_end0
          exact ⟨⟨_, rfl⟩, .inl HX.out⟩
end Go.Proofs.Ytkljdbgkhghiaaa
