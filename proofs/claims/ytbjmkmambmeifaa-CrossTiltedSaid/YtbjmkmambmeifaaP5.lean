/- newBlades. at. at, and its errors. -/
import Derived.Test.YtbjmkmambmeifaaP3
import Derived.Deep.OwnRows
import Derived.Lib.SliceRun
import Derived.Test.YtbjmkmambmeifaaP4
set_option linter.all false
set_option linter.unnecessarySimpa false
set_option linter.unusedSimpArgs false
set_option linter.unusedVariables false
set_option linter.unusedSectionVars false

namespace Go.Proofs.Ytbjmkmambmeifaa
open Go.RowKit Go.Lib

def ends (l : List St) (high : Bool) : List Int := l.map fun s => if high then s.hi else s.lo
theorem ends_length (l : List St) (b : Bool) : (ends l b).length = l.length := by simp [ends]
theorem ends_at (l : List St) (b : Bool) (k : Nat) (hk : k < l.length) : nthI (ends l b) k = if b then (nthS l k).hi else (nthS l k).lo := by
  simp [nthI, ends, nthS, hk]

theorem BK.setCells {g : Nat} {t : TypeId} : ∀ (vs : List Value) (o : Nat) (W : World) (cs : Array Value), BK W g cs t → ∃ cs', cs'.size = cs.size ∧ BK (W.setCells g o vs) g cs' t
  | [], _, _, cs, h => ⟨cs, rfl, h⟩
  | v :: r, o, W, cs, h => by
    obtain ⟨cs', h1, h2⟩ := BK.setCells r (o + 1) _ _ (h.set o v)
    exact ⟨cs', by simpa using h1, h2⟩
theorem below_setCells {B g : Nat} {w : World} (hB : B ≤ g) : ∀ (vs : List Value) (o : Nat) (W : World), Below B w W → Below B w (W.setCells g o vs)
  | [], _, _, h => h
  | v :: r, o, W, h => below_setCells hB r (o + 1) _ (h.setCell hB v)

theorem slice_int64 : Try.prog.underlying 23 = some (.slice 2) := by kernel_rfl
theorem info_int64 : (Try.prog.info? 2).map (fun i => (i.zero, i.size, i.bytes)) = some (some (.int .i64 0), 1, 8) := by kernel_rfl
theorem zero_int64 (w : World) : (zeroValue 2).run Try.prog w = .ok (.int .i64 0) w := by
  simp [zeroValue, go_sem, Try.t2]

set_option maxHeartbeats 2000000 in
theorem newBlades_all (l : List St) (high : Bool) (v : Value) (w : World) (hl0 : 0 < l.length) (hl : l.length ≤ 1000) (h : RSt w w.heap.size v l) :
    Calls Try.prog 60 #[v, .bool high] w fun e w' => ∃ g, e = .returned (.pointer (some ⟨g, 0, none⟩)) ∧ (∀ k X, k < w.heap.size ∨ k = w'.heap.size → RSt w k v l → w'.heap.size ≤ X.heap.size → (∀ p : Addr, p.block ≠ k → p.block < w'.heap.size → X.cell? p = w'.cell? p) → RB X (.pointer (some ⟨g, 0, none⟩)) l (ends l high)) ∧ Below w.heap.size w w' := by
  have h0 := h
  obtain ⟨A, cap, b, off, rfl, hA, hc⟩ := h.cells
  obtain ⟨rfl, hb⟩ := hA (by omega)
  have HC := Lib.hid hc; clear hc hA
  have hmk := run_make_row' (P := Try.prog) 23 2 (.int .i64 0) 8 slice_int64 info_int64 rfl .i64 .i64 l.length (by omega) (by omega)
  have hbk : BK (w.alloc (.cells (madeCells #[.int .i64 0] l.length) 2)) w.heap.size (madeCells #[.int .i64 0] l.length) 2 := BK.new _ _ _
  have hcl := fun ty => run_clear_slice (P := Try.prog) (w.alloc (.cells (madeCells #[.int .i64 0] l.length) 2)) 23 2 ty (.int .i64 0) slice_int64 zero_int64 rfl rfl w.heap.size 0 l.length l.length hl0
    (fun j hj => by rw [hbk.cell]; simp [madeCells]; omega) (fun j hj => hbk.frozen _)
  obtain ⟨cs', hcs, hbk2⟩ := BK.setCells (List.replicate l.length (.int .i64 0)) 0 _ _ hbk
  have hbl := below_setCells (Nat.le_refl _) (List.replicate l.length (.int .i64 0)) 0 _ (Below.alloc (Below.refl w.heap.size w) (Nat.le_refl _) (.cells (madeCells #[.int .i64 0] l.length) 2))
  generalize (w.alloc (.cells (madeCells #[.int .i64 0] l.length) 2)).setCells w.heap.size 0 (List.replicate l.length (.int .i64 0)) = W1 at hbk2 hbl hcl
  have hcs' : cs'.size = l.length := by rw [hcs]; simp [madeCells]
  clear hbk hcs
  have H2 := Lib.hid hbk2; clear hbk2
  go_enter Try.func60, Try.ntmps60
  go_wp2_with fail
  clear hmk hcl
  go_loopw [14] (fun i wr => ∃ k : Nat, k ≤ l.length ∧ i = .int .i64 k ∧ Below w.heap.size w wr ∧ w.heap.size ≤ wr.heap.size ∧ ∃ cs, BK wr w.heap.size cs 2 ∧ cs.size = l.length ∧ ∀ j, j < k → cs[j]? = some (.int .i64 (nthI (ends l high) j))) (fun i _ => l.length - (intOf i).toNat)
  case atStart => exact ⟨0, by omega, rfl, hbl, hbl.size, cs', H2.out, hcs', fun j hj => by omega⟩
  case round =>
    obtain ⟨k, hk, rfl, hbw, hz, cs, b0, hcz, hall⟩ := hrel
    have hb0 := b0.lt
    by_cases hlt : k < l.length
    · have hcell := HC.out k hlt
      rw [← hbw.cell (by exact hb), ← hbw.cell (by exact hb), ← hbw.cell (by exact hb)] at hcell
      obtain ⟨d0, d1, d2⟩ := hcell
      have hi : (k : Int) < (l.length : Int) := by omega
      have y0 := b0.cell k
      rw [Array.getElem?_eq_getElem (by omega)] at y0
      have f0 := b0.frozen k
      have hbb : b < wr.heap.size := by omega
      have HALL := Lib.hid hall; clear hall
      have HE := Lib.hid (ends_at l high k hlt)
      have fin : ∀ x, x = nthI (ends l high) k → ∀ j, j < k + 1 → (cs.setIfInBounds k (.int .i64 x))[j]? = some (.int .i64 (nthI (ends l high) j)) := by
        rintro x rfl j hj
        rcases Nat.lt_or_ge j k with h1 | h1
        · rw [Array.getElem?_setIfInBounds_ne (by omega)]; exact HALL.out j h1
        · have : j = k := by omega
          subst this
          rw [Array.getElem?_setIfInBounds_self_of_lt (by omega)]
      have HF := Lib.hid fin; clear fin
      have b1 : BK (wr.alloc (.cells #[.int .i64 (nthS l k).a, .int .i64 (nthS l k).lo, .int .i64 (nthS l k).hi] 62)) w.heap.size cs 2 := b0.alloc _
      cases high with
      | false =>
        go_wp2_with fail
        go_roundw
        case rel => exact ⟨k + 1, by omega, by go_num, by exact bel_of, by simp; omega, _, (b0.set k _).alloc _, by simpa using hcz, HF.out _ (by rw [HE.out]; simp)⟩
        case measure => simp [intOf]; omega
      | true =>
        go_wp2_with fail
        go_roundw
        case rel =>
          refine ⟨k + 1, by omega, by go_num, by exact bel_of, by simp; omega, _, ((b0.set k _).set k _).alloc _, by simpa using hcz, ?_⟩
          have := HF.out (nthS l k).hi (by rw [HE.out]; simp)
          rw [Array.setIfInBounds_setIfInBounds]; exact this
        case measure => simp [intOf]; omega
    · have hi : ¬ (k : Int) < (l.length : Int) := by omega
      have ek : k = l.length := by omega
      have HALL := Lib.hid hall; clear hall
      have HEK := Lib.hid ek; clear ek
      go_wp2_with fail
      refine bodyPost_ret (v := .pointer (some ⟨wr.heap.size, 0, none⟩)) (by simp [results, Try.results60, go_sem]) rfl ⟨_, rfl, ?_, by exact bel_of⟩
      have bn : BK (wr.alloc (.cells #[.slice (some ⟨b, off, none⟩) l.length cap, .slice (some ⟨w.heap.size, 0, none⟩) l.length l.length] 82)) wr.heap.size #[.slice (some ⟨b, off, none⟩) l.length cap, .slice (some ⟨w.heap.size, 0, none⟩) l.length l.length] 82 := BK.new _ _ _
      have b1 := b0.alloc (.cells #[.slice (some ⟨b, off, none⟩) l.length cap, .slice (some ⟨w.heap.size, 0, none⟩) l.length l.length] 82)
      have hb2 := Below.alloc hbw hz (.cells #[.slice (some ⟨b, off, none⟩) l.length cap, .slice (some ⟨w.heap.size, 0, none⟩) l.length l.length] 82)
      intro kk X hkk hrs hXs hX
      have hs2 := hb2.size
      have hkk1 : w.heap.size ≠ kk := by
        rcases hkk with hx | hx
        · omega
        · rw [hx]; simp; omega
      have hkk2 : wr.heap.size ≠ kk := by
        rcases hkk with hx | hx
        · omega
        · rw [hx]; simp
      refine ⟨_, 0, .slice (some ⟨b, off, none⟩) l.length cap, .slice (some ⟨w.heap.size, 0, none⟩) l.length l.length, rfl, ?_, ?_, ?_, ?_, by simp [ends]⟩
      · rw [hX _ (by exact hkk2) (by simp)]; simpa using bn.cell 0
      · rw [hX _ (by exact hkk2) (by simp)]; simpa using bn.cell 1
      · rcases hkk with hx | hx
        · refine RS.more (RS.keep hrs fun p hp => ?_) (B' := X.heap.size) (by omega)
          rw [hX p (by omega) (by omega)]
          exact hb2.cell (by omega)
        · refine RS.more (RS.keep h0 fun p hp => ?_) (B' := X.heap.size) (by omega)
          rw [hX p (by simp at hx; omega) (by omega)]
          exact hb2.cell (by omega)
      · refine ⟨_, l.length, w.heap.size, 0, by rw [ends_length], ?_, fun _ => ⟨rfl, by simp at hXs; omega⟩, ?_⟩
        · simp [ofI, ends]
        · intro j hj
          have hj' : j < l.length := by simpa [ofI, ends] using hj
          rw [hX _ (by exact hkk1) (by simp; omega), Nat.zero_add, b1.cell, HALL.out j (by rw [HEK.out]; exact hj')]
          simp [ofI, nthI, ends, hj']

theorem newBlades_any (l : List St) (high : Bool) (v : Value) (w : World) (hl0 : 0 < l.length) (hl : l.length ≤ 1000) (h : RSt w w.heap.size v l) :
    Calls Try.prog 60 #[v, .bool high] w fun e w' => ∃ g, e = .returned (.pointer (some ⟨g, 0, none⟩)) ∧ RB w' (.pointer (some ⟨g, 0, none⟩)) l (ends l high) ∧ Below w.heap.size w w' := by
  refine (newBlades_all l high v w hl0 hl h).mono ?_
  rintro e w' ⟨g, h1, h2, h3⟩
  refine ⟨g, h1, h2 w'.heap.size w' (.inr rfl) (h.more ?_) (Nat.le_refl _) (fun _ _ _ => rfl), h3⟩
  exact h3.size
end Go.Proofs.Ytbjmkmambmeifaa

namespace Go.Proofs.Ytbjmkmambmeifaa
open Go.RowKit

set_option maxHeartbeats 2000000 in
theorem at_ok (l : List St) (s : Nat) (high : Bool) (vl : Value) (w : World) (hl : l.length ≤ 1000) (h : RSt w w.heap.size vl l) (hp : checkPair l = 0) (hs : s < l.length) :
    Calls Try.prog 55 #[vl, .int .i64 s, .bool high] w fun e w' => ∃ g, e = .returned (.tuple #[.pointer (some ⟨g, 0, none⟩), ptV l (ends l (!high)) s, .int .i64 0]) ∧ RB w' (.pointer (some ⟨g, 0, none⟩)) l (ends l high) ∧ Below w.heap.size w w' := by
  have hcall := fun w1 (hb : Below w.heap.size w w1) => checkPair_any l vl w1 hl ((h.below hb).more hb.size)
  rw [hp] at hcall
  have HP := Lib.hid hcall; clear hcall
  have hnb := fun w1 (hb : Below w.heap.size w w1) hg => newBlades_all l hg vl w1 (by omega) hl ((h.below hb).more hb.size)
  have HN := Lib.hid hnb; clear hnb
  have hpt := fun w1 vb hg (hb : RB w1 vb l (ends l hg)) => point_any l (ends l hg) s vb w1 hl hs hb
  have HPT := Lib.hid hpt; clear hpt
  have HH := Lib.hid h
  obtain ⟨A, cap, b, off, rfl, _, _⟩ := h.cells
  have d1 : decide ((s : Int) < 0) = false := by simp
  have d2 : decide ((l.length : Int) ≤ (s : Int)) = false := by simp; omega
  clear h hp
  go_enter Try.func55, Try.ntmps55
  go_wp2_with fail
  refine (HP.out _ (by exact bel_of)).mono ?_
  rintro e w1 ⟨rfl, hb1⟩
  have hB1 : Below w.heap.size w w1 := (Below.trans (a := w) (B := w.heap.size) (by exact bel_of) (hb1.mono (by first | omega | (simp; omega) | (simp; done))))
  have b1 : BK w1 w.heap.size #[.int .i64 0, .int .i64 0, .int .i64 0, .int .i64 0, .int .i64 0] 85 := BK.below (BK.new _ _ _) hb1 (by simp)
  clear hb1
  go_wp2_with fail
  refine (HN.out w1 hB1 high).mono ?_
  rintro e w2 ⟨g, rfl, hRB, hb2⟩
  have hs1 := hB1.size
  have hs12 := hb2.size
  have hlt1 := b1.lt
  have HRB := Lib.hid (fun X => hRB w.heap.size X (.inl hlt1) (HH.out.below hB1)); clear hRB
  have hB2 : Below w.heap.size w w2 := hB1.trans (hb2.mono hB1.size)
  have b2 := b1.below hb2 b1.lt
  clear hb2
  go_wp2_with fail
  refine (HN.out w2 hB2 (!high)).mono ?_
  rintro e w3 ⟨g', rfl, hRB', hb3⟩
  have hRB' := hRB' w3.heap.size w3 (.inr rfl) ((HH.out.below hB2).more (Nat.le_trans hB2.size hb3.size)) (Nat.le_refl _) (fun _ _ _ => rfl)
  have h23 : Below w2.heap.size w2 w3 := hb3
  have hB3 : Below w.heap.size w w3 := hB2.trans (hb3.mono hB2.size)
  have b3 := b2.below hb3 b2.lt
  clear hb3
  go_wp2_with fail
  refine (HPT.out w3 _ (!high) hRB').mono ?_
  rintro e w4 ⟨rfl, hb4⟩
  have hB4 : Below w.heap.size w w4 := hB3.trans (hb4.mono hB3.size)
  have b4 := b3.below hb4 b3.lt
  have h24 : Below w2.heap.size w2 w4 := h23.trans (hb4.mono h23.size)
  clear hb4 hRB' b1 b2 b3 h23
  have hs24 := h24.size
  have y0 := b4.cell 0
  have y1 := b4.cell 1
  have y2 := b4.cell 2
  have y3 := b4.cell 3
  have y4 := b4.cell 4
  have f0 := b4.frozen 0
  have f1 := b4.frozen 1
  have f2 := b4.frozen 2
  have f3 := b4.frozen 3
  have f4 := b4.frozen 4
  simp at y0 y1 y2 y3 y4
  unfold ptV
  go_wp2_with fail
  have b5 := ((((b4.set 0 (.int .i64 (nthS l s).a)).set 1 (.int .i64 (nthS l s).lo)).set 2 (.int .i64 (nthS l s).hi)).set 3 (.int .i64 s)).set 4 (.int .i64 (nthI (ends l (!high)) s))
  simp at b5
  refine ret_bk (w := w) (n := w.heap.size) b5 (by exact bel_of) (v := .tuple #[.pointer (some ⟨g, 0, none⟩), ptV l (ends l (!high)) s, .int .i64 0]) ?_ ?_
  · intro W' hb'
    have z0 := hb'.cell 0
    have z1 := hb'.cell 1
    have z2 := hb'.cell 2
    have z3 := hb'.cell 3
    have z4 := hb'.cell 4
    simp at z0 z1 z2 z3 z4
    simp [results, Try.results55, go_sem, ptV, z0, z1, z2, z3, z4]
  refine ⟨g, rfl, ?_, by exact bel_of⟩
  refine HRB.out _ (by simp [World.setCell]; omega) fun p hp hp2 => ?_
  rw [World.cell?_of_block ((Below.heap_setCell _ _ _ _ (by exact hp)).trans ((Below.heap_setCell _ _ _ _ (by exact hp)).trans ((Below.heap_setCell _ _ _ _ (by exact hp)).trans ((Below.heap_setCell _ _ _ _ (by exact hp)).trans (Below.heap_setCell _ _ _ _ (by exact hp))))))]
  exact h24.cell hp2


end Go.Proofs.Ytbjmkmambmeifaa

namespace Go.Proofs.Ytbjmkmambmeifaa
open Go.RowKit

set_option maxHeartbeats 2000000 in
theorem at_bad (l : List St) (s : Int) (high : Bool) (vl : Value) (w : World) (hl : l.length ≤ 1000) (h : RSt w w.heap.size vl l) (hp : checkStation l s ≠ 0) :
    Calls Try.prog 55 #[vl, .int .i64 s, .bool high] w fun e w' => e = .returned (.tuple #[.pointer none, .agg #[.int .i64 0, .int .i64 0, .int .i64 0, .int .i64 0, .int .i64 0], .int .i64 (checkStation l s)]) ∧ Below w.heap.size w w' := by
  obtain ⟨e0, he0⟩ : ∃ e0, checkPair l = e0 := ⟨_, rfl⟩
  have hcall := fun w1 (hb : Below w.heap.size w w1) => checkPair_any l vl w1 hl ((h.below hb).more hb.size)
  rw [he0] at hcall
  have HP := Lib.hid hcall; clear hcall
  by_cases hp0 : e0 = 0
  · subst hp0
    obtain ⟨A, cap, b, off, rfl, _, _⟩ := h.cells
    have hbd : ¬ (0 ≤ s ∧ s < l.length) := fun hx => hp (checkStation_ok l s he0 hx)
    have HT := Lib.hid (checkStation_bad l s he0 hbd)
    clear h he0 hp
    rcases (by omega : s < 0 ∨ (¬ s < 0 ∧ (l.length : Int) ≤ s)) with h1 | ⟨h1, h2⟩
    · have d1 := decide_eq_true h1
      go_enter Try.func55, Try.ntmps55
      go_wp2_with fail
      refine (HP.out _ (by exact bel_of)).mono ?_
      rintro e w1 ⟨rfl, hb1⟩
      have hB1 : Below w.heap.size w w1 := (Below.trans (a := w) (B := w.heap.size) (by exact bel_of) (hb1.mono (by first | omega | (simp; omega) | (simp; done))))
      have b1 : BK w1 w.heap.size #[.int .i64 0, .int .i64 0, .int .i64 0, .int .i64 0, .int .i64 0] 85 := BK.below (BK.new _ _ _) hb1 (by simp)
      have y0 := b1.cell 0
      have y1 := b1.cell 1
      have y2 := b1.cell 2
      have y3 := b1.cell 3
      have y4 := b1.cell 4
      have f0 := b1.frozen 0
      have f1 := b1.frozen 1
      have f2 := b1.frozen 2
      have f3 := b1.frozen 3
      have f4 := b1.frozen 4
      simp at y0 y1 y2 y3 y4
      clear hb1
      go_wp2_with fail
      have b5 := ((((b1.set 0 (.int .i64 0)).set 1 (.int .i64 0)).set 2 (.int .i64 0)).set 3 (.int .i64 0)).set 4 (.int .i64 0)
      simp at b5
      refine ret_bk (w := w) (n := w.heap.size) b5 (by exact bel_of) (v := .tuple #[.pointer none, .agg #[.int .i64 0, .int .i64 0, .int .i64 0, .int .i64 0, .int .i64 0], .int .i64 3]) ?_ ?_
      · intro W' hb'
        have z0 := hb'.cell 0
        have z1 := hb'.cell 1
        have z2 := hb'.cell 2
        have z3 := hb'.cell 3
        have z4 := hb'.cell 4
        simp at z0 z1 z2 z3 z4
        simp [results, Try.results55, go_sem, ptV, z0, z1, z2, z3, z4]
      refine ⟨by rw [HT.out], by exact bel_of⟩
    · have d1 := decide_eq_false h1
      have d2 := decide_eq_true h2
      go_enter Try.func55, Try.ntmps55
      go_wp2_with fail
      refine (HP.out _ (by exact bel_of)).mono ?_
      rintro e w1 ⟨rfl, hb1⟩
      have hB1 : Below w.heap.size w w1 := (Below.trans (a := w) (B := w.heap.size) (by exact bel_of) (hb1.mono (by first | omega | (simp; omega) | (simp; done))))
      have b1 : BK w1 w.heap.size #[.int .i64 0, .int .i64 0, .int .i64 0, .int .i64 0, .int .i64 0] 85 := BK.below (BK.new _ _ _) hb1 (by simp)
      have y0 := b1.cell 0
      have y1 := b1.cell 1
      have y2 := b1.cell 2
      have y3 := b1.cell 3
      have y4 := b1.cell 4
      have f0 := b1.frozen 0
      have f1 := b1.frozen 1
      have f2 := b1.frozen 2
      have f3 := b1.frozen 3
      have f4 := b1.frozen 4
      simp at y0 y1 y2 y3 y4
      clear hb1
      go_wp2_with fail
      have b5 := ((((b1.set 0 (.int .i64 0)).set 1 (.int .i64 0)).set 2 (.int .i64 0)).set 3 (.int .i64 0)).set 4 (.int .i64 0)
      simp at b5
      refine ret_bk (w := w) (n := w.heap.size) b5 (by exact bel_of) (v := .tuple #[.pointer none, .agg #[.int .i64 0, .int .i64 0, .int .i64 0, .int .i64 0, .int .i64 0], .int .i64 3]) ?_ ?_
      · intro W' hb'
        have z0 := hb'.cell 0
        have z1 := hb'.cell 1
        have z2 := hb'.cell 2
        have z3 := hb'.cell 3
        have z4 := hb'.cell 4
        simp at z0 z1 z2 z3 z4
        simp [results, Try.results55, go_sem, ptV, z0, z1, z2, z3, z4]
      refine ⟨by rw [HT.out], by exact bel_of⟩
  · have hpb : (e0 != 0) = true := by simpa using hp0
    have HT := Lib.hid (checkStation_pair l s (by rw [he0]; exact hp0))
    rw [he0] at HT
    clear he0 hp
    go_enter Try.func55, Try.ntmps55
    go_wp2_with fail
    refine (HP.out _ (by exact bel_of)).mono ?_
    rintro e w1 ⟨rfl, hb1⟩
    have hB1 : Below w.heap.size w w1 := (Below.trans (a := w) (B := w.heap.size) (by exact bel_of) (hb1.mono (by first | omega | (simp; omega) | (simp; done))))
    have b1 : BK w1 w.heap.size #[.int .i64 0, .int .i64 0, .int .i64 0, .int .i64 0, .int .i64 0] 85 := BK.below (BK.new _ _ _) hb1 (by simp)
    have y0 := b1.cell 0
    have y1 := b1.cell 1
    have y2 := b1.cell 2
    have y3 := b1.cell 3
    have y4 := b1.cell 4
    have f0 := b1.frozen 0
    have f1 := b1.frozen 1
    have f2 := b1.frozen 2
    have f3 := b1.frozen 3
    have f4 := b1.frozen 4
    simp at y0 y1 y2 y3 y4
    clear hb1
    go_wp2_with fail
    have b5 := ((((b1.set 0 (.int .i64 0)).set 1 (.int .i64 0)).set 2 (.int .i64 0)).set 3 (.int .i64 0)).set 4 (.int .i64 0)
    simp at b5
    refine ret_bk (w := w) (n := w.heap.size) b5 (by exact bel_of) (v := .tuple #[.pointer none, .agg #[.int .i64 0, .int .i64 0, .int .i64 0, .int .i64 0, .int .i64 0], .int .i64 e0]) ?_ ?_
    · intro W' hb'
      have z0 := hb'.cell 0
      have z1 := hb'.cell 1
      have z2 := hb'.cell 2
      have z3 := hb'.cell 3
      have z4 := hb'.cell 4
      simp at z0 z1 z2 z3 z4
      simp [results, Try.results55, go_sem, ptV, z0, z1, z2, z3, z4]
    refine ⟨by rw [HT.out], by exact bel_of⟩
end Go.Proofs.Ytbjmkmambmeifaa
