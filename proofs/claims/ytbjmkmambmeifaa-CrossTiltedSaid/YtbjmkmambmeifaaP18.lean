/- the reference's Tilts. Truth. The arguments of a law as lists; and the last step of a law's row: it returned true, and below the old heap nothing has turned. fine, inside, Truth. CrossWedges: the walk. -/
import Derived.Test.YtbjmkmambmeifaaP8
import Derived.Test.YtbjmkmambmeifaaP2
import Derived.Test.YtbjmkmambmeifaaP3
import Derived.Test.YtbjmkmambmeifaaRows
import Derived.WalkKit
import Derived.ProofKit
import Derived.OpenShut
import Derived.Deep.Slices
import Derived.Carry
import Derived.Test.YtbjmkmambmeifaaP15
import Derived.Test.YtbjmkmambmeifaaP17
import Derived.Test.YtbjmkmambmeifaaP9
import Derived.Test.YtbjmkmambmeifaaP12
import Derived.Test.YtbjmkmambmeifaaP10
set_option linter.all false
set_option linter.unnecessarySimpa false
set_option linter.unusedSimpArgs false
set_option linter.unusedVariables false
set_option linter.unusedSectionVars false

namespace Go.Proofs.Ytbjmkmambmeifaa
open Go.RowKit

set_option maxRecDepth 100000 in
set_option maxHeartbeats 4000000 in
theorem refTilts_any (l : List St) (t : List Int) (s : Int) (vl vt : Value) (w : World) (hl : l.length ≤ 1000) (ht : t.length ≤ 1000) (h : RSt w w.heap.size vl l) (h' : RI w w.heap.size vt t) :
    Calls Try.prog 18 #[vl, vt, .int .i64 s] w fun e w' => e = .returned (tiltsV l t s) ∧ Below w.heap.size w w' := by
  obtain ⟨e0, he0⟩ : ∃ e0, checkTruth l t = e0 := ⟨_, rfl⟩
  have hcall := fun w1 (hb : Below w.heap.size w w1) => isTruth_any l t vl vt w1 hl ht ((h.below hb).more hb.size) ((RS.below h' hb).more hb.size)
  rw [he0] at hcall
  have HP := Lib.hid hcall; clear hcall
  by_cases hp : e0 = 0
  · subst hp
    obtain ⟨hv, hlen, _⟩ := checkTruth_len0 l t he0
    obtain ⟨hn0, hn1⟩ := checkPair_len l hv
    by_cases hs : 0 ≤ s ∧ s < l.length
    · obtain ⟨k, rfl⟩ : ∃ k : Nat, s = k := ⟨s.toNat, by omega⟩
      have hk : k < l.length := by omega
      have hV : tiltsV l t k = spanV l t k (nthI t k) := by
        unfold tiltsV
        rw [if_neg (by simpa using he0), if_neg (by simp; omega), Int.toNat_natCast]
      have hsp := fun W (hb : Below w.heap.size w W) => refSpan_any l t k (nthI t k) vl vt W hn1 hk ((h.below hb).more hb.size) ((RS.below h' hb).more hb.size) hlen (valid_lt l hv) (valid_a l hv) (truth_rng l t he0) (truth_rng l t he0 k hk)
      obtain ⟨a1, a2, a3, a4, a5, hsv⟩ := spanV_form l t k (nthI t k)
      rw [hsv] at hsp hV
      have HV := Lib.hid hV; have HSP := Lib.hid hsp
      obtain ⟨A, cap, b, off, rfl, _, _⟩ := h.cells
      obtain ⟨A', cap', b', off', rfl, hA', hc'⟩ := RI.cells h'
      obtain ⟨rfl, hb⟩ := hA' (by omega)
      have c1 := hc' k (by omega)
      have hkt : k < t.length := by omega
      have d1 : decide ((k : Int) < 0) = false := by simp
      have d2 : decide ((l.length : Int) ≤ (k : Int)) = false := by simp; omega
      clear hV hsp h h' he0 hv hs hsv hlen hc' hA'
      go_enter Try.func18, Try.ntmps18
      go_wp2_with fail
      refine (HP.out _ (by exact bel_of)).mono ?_
      rintro e w1 ⟨rfl, hb1⟩
      have hB1 : Below w.heap.size w w1 := (Below.trans (a := w) (B := w.heap.size) (by exact bel_of) (hb1.mono (by first | omega | (simp; omega) | (simp; done))))
      have b1 : BK w1 w.heap.size #[.int .i64 0, .int .i64 0, .int .i64 0, .int .i64 0] 34 := BK.below (BK.new _ _ _) hb1 (by simp)
      have hlt1 := b1.lt
      rw [← hB1.cell (by exact hb)] at c1
      have hbl : b' < w1.heap.size := by omega
      clear hb1
      go_wp2_with fail
      refine (HSP.out _ hB1).mono ?_
      rintro e w3 ⟨rfl, hb3⟩
      have hB3 : Below w.heap.size w w3 := hB1.trans (hb3.mono hB1.size)
      have b3 := b1.below hb3 hlt1
      clear hb3 b1
      have y0 := b3.cell 0
      have y1 := b3.cell 1
      have y2 := b3.cell 2
      have y3 := b3.cell 3
      have f0 := b3.frozen 0
      have f1 := b3.frozen 1
      have f2 := b3.frozen 2
      have f3 := b3.frozen 3
      simp at y0 y1 y2 y3
      go_wp2_with fail
      have b5 := ((((b3.set 0 (.int .i64 a1)).set 1 (.int .i64 a2)).set 2 (.int .i64 a3)).set 3 (.int .i64 a4))
      simp at b5
      refine ret_bk (w := w) (n := w.heap.size) b5 (by exact bel_of) (v := .tuple #[.agg #[.int .i64 a1, .int .i64 a2, .int .i64 a3, .int .i64 a4], .int .i64 a5]) ?_ ?_
      · intro W' hb'
        have z0 := hb'.cell 0
        have z1 := hb'.cell 1
        have z2 := hb'.cell 2
        have z3 := hb'.cell 3
        simp at z0 z1 z2 z3
        simp [results, Try.results18, go_sem, z0, z1, z2, z3]
      exact ⟨by rw [HV.out], by exact bel_of⟩
    · have HV := Lib.hid (show tiltsV l t s = errV 3 by unfold tiltsV; rw [if_neg (by simpa using he0), if_pos hs])
      obtain ⟨A, cap, b, off, rfl, _, _⟩ := h.cells
      clear h h' he0 hv hlen
      rcases (by omega : s < 0 ∨ (¬ s < 0 ∧ (l.length : Int) ≤ s)) with h1 | ⟨h1, h2⟩
      · have d1 := decide_eq_true h1
        go_enter Try.func18, Try.ntmps18
        go_wp2_with fail
        refine (HP.out _ (by exact bel_of)).mono ?_
        rintro e w1 ⟨rfl, hb1⟩
        have hB1 : Below w.heap.size w w1 := (Below.trans (a := w) (B := w.heap.size) (by exact bel_of) (hb1.mono (by first | omega | (simp; omega) | (simp; done))))
        have b1 : BK w1 w.heap.size #[.int .i64 0, .int .i64 0, .int .i64 0, .int .i64 0] 34 := BK.below (BK.new _ _ _) hb1 (by simp)
        clear hb1
        have y0 := b1.cell 0
        have y1 := b1.cell 1
        have y2 := b1.cell 2
        have y3 := b1.cell 3
        have f0 := b1.frozen 0
        have f1 := b1.frozen 1
        have f2 := b1.frozen 2
        have f3 := b1.frozen 3
        simp at y0 y1 y2 y3
        go_wp2_with fail
        have b5 := ((((b1.set 0 (.int .i64 0)).set 1 (.int .i64 0)).set 2 (.int .i64 0)).set 3 (.int .i64 0))
        simp at b5
        refine ret_bk (w := w) (n := w.heap.size) b5 (by exact bel_of) (v := .tuple #[.agg #[.int .i64 0, .int .i64 0, .int .i64 0, .int .i64 0], .int .i64 3]) ?_ ?_
        · intro W' hb'
          have z0 := hb'.cell 0
          have z1 := hb'.cell 1
          have z2 := hb'.cell 2
          have z3 := hb'.cell 3
          simp at z0 z1 z2 z3
          simp [results, Try.results18, go_sem, z0, z1, z2, z3]
        exact ⟨by rw [HV.out]; rfl, by exact bel_of⟩
      · have d1 := decide_eq_false h1
        have d2 := decide_eq_true h2
        go_enter Try.func18, Try.ntmps18
        go_wp2_with fail
        refine (HP.out _ (by exact bel_of)).mono ?_
        rintro e w1 ⟨rfl, hb1⟩
        have hB1 : Below w.heap.size w w1 := (Below.trans (a := w) (B := w.heap.size) (by exact bel_of) (hb1.mono (by first | omega | (simp; omega) | (simp; done))))
        have b1 : BK w1 w.heap.size #[.int .i64 0, .int .i64 0, .int .i64 0, .int .i64 0] 34 := BK.below (BK.new _ _ _) hb1 (by simp)
        clear hb1
        have y0 := b1.cell 0
        have y1 := b1.cell 1
        have y2 := b1.cell 2
        have y3 := b1.cell 3
        have f0 := b1.frozen 0
        have f1 := b1.frozen 1
        have f2 := b1.frozen 2
        have f3 := b1.frozen 3
        simp at y0 y1 y2 y3
        go_wp2_with fail
        have b5 := ((((b1.set 0 (.int .i64 0)).set 1 (.int .i64 0)).set 2 (.int .i64 0)).set 3 (.int .i64 0))
        simp at b5
        refine ret_bk (w := w) (n := w.heap.size) b5 (by exact bel_of) (v := .tuple #[.agg #[.int .i64 0, .int .i64 0, .int .i64 0, .int .i64 0], .int .i64 3]) ?_ ?_
        · intro W' hb'
          have z0 := hb'.cell 0
          have z1 := hb'.cell 1
          have z2 := hb'.cell 2
          have z3 := hb'.cell 3
          simp at z0 z1 z2 z3
          simp [results, Try.results18, go_sem, z0, z1, z2, z3]
        exact ⟨by rw [HV.out]; rfl, by exact bel_of⟩
  · have hpb : (e0 != 0) = true := by simpa using hp
    have HV := Lib.hid (show tiltsV l t s = errV e0 by unfold tiltsV; rw [if_pos (by rw [he0]; exact hp), he0])
    clear he0 h h'
    go_enter Try.func18, Try.ntmps18
    go_wp2_with fail
    refine (HP.out _ (by exact bel_of)).mono ?_
    rintro e w1 ⟨rfl, hb1⟩
    have hB1 : Below w.heap.size w w1 := (Below.trans (a := w) (B := w.heap.size) (by exact bel_of) (hb1.mono (by first | omega | (simp; omega) | (simp; done))))
    have b1 : BK w1 w.heap.size #[.int .i64 0, .int .i64 0, .int .i64 0, .int .i64 0] 34 := BK.below (BK.new _ _ _) hb1 (by simp)
    have hlt1 := b1.lt
    clear hb1
    go_wp2_with fail
    refine (HP.out _ hB1).mono ?_
    rintro e w2 ⟨rfl, hb2⟩
    have hB2 : Below w.heap.size w w2 := hB1.trans (hb2.mono hB1.size)
    have b2 := b1.below hb2 hlt1
    clear hb2 b1
    have y0 := b2.cell 0
    have y1 := b2.cell 1
    have y2 := b2.cell 2
    have y3 := b2.cell 3
    have f0 := b2.frozen 0
    have f1 := b2.frozen 1
    have f2 := b2.frozen 2
    have f3 := b2.frozen 3
    simp at y0 y1 y2 y3
    go_wp2_with fail
    have b5 := ((((b2.set 0 (.int .i64 0)).set 1 (.int .i64 0)).set 2 (.int .i64 0)).set 3 (.int .i64 0))
    simp at b5
    refine ret_bk (w := w) (n := w.heap.size) b5 (by exact bel_of) (v := .tuple #[.agg #[.int .i64 0, .int .i64 0, .int .i64 0, .int .i64 0], .int .i64 e0]) ?_ ?_
    · intro W' hb'
      have z0 := hb'.cell 0
      have z1 := hb'.cell 1
      have z2 := hb'.cell 2
      have z3 := hb'.cell 3
      simp at z0 z1 z2 z3
      simp [results, Try.results18, go_sem, z0, z1, z2, z3]
    exact ⟨by rw [HV.out]; rfl, by exact bel_of⟩

end Go.Proofs.Ytbjmkmambmeifaa

namespace Go.Proofs.Ytbjmkmambmeifaa
open Go.RowKit

/-- The cells of a list of small numbers. -/
def ofU (l : List Int) : List Value := l.map (.int .u16)
def RU (w : World) (B : Nat) (v : Value) (l : List Int) : Prop := RS w B 1 v l.length (ofU l)
theorem RU.cells {w : World} {B : Nat} {v : Value} {l : List Int} (h : RU w B v l) : ∃ A cap b off, v = .slice A l.length cap ∧ (l.length ≠ 0 → A = some ⟨b, off, none⟩ ∧ b < B) ∧
    ∀ k, k < l.length → w.cell? ⟨b, off + k, none⟩ = some (.int .u16 (nthI l k)) := by
  obtain ⟨A, cap, b, off, hv, hl, hA, hc⟩ := h
  refine ⟨A, cap, b, off, hv, hA, fun k hk => ?_⟩
  rw [hc k (by simpa [ofU] using hk)]
  simp [ofU, nthI, hk]

def truthAt (l : List St) (by' : List Int) (i : Nat) : Int := (nthS l i).lo + if 0 < by'.length then nthI by' (i % by'.length) % ((nthS l i).hi - (nthS l i).lo + 1) else 0
def truthR (l : List St) (by' : List Int) : List Int := (List.range l.length).map (truthAt l by')
theorem truthR_length (l : List St) (by' : List Int) : (truthR l by').length = l.length := by simp [truthR]
theorem truthR_at (l : List St) (by' : List Int) (k : Nat) (hk : k < l.length) : nthI (truthR l by') k = truthAt l by' k := by simp [nthI, truthR, hk]
theorem truthR_take (l : List St) (by' : List Int) (k : Nat) (hk : k < l.length) : (truthR l by').take k ++ [truthAt l by' k] = (truthR l by').take (k + 1) := by
  have hk' : k < (truthR l by').length := by rw [truthR_length]; exact hk
  rw [List.take_succ_eq_append_getElem hk']
  simp [truthR]

set_option maxRecDepth 100000 in
set_option maxHeartbeats 4000000 in
theorem truth_any (l : List St) (u : List Int) (vl vu : Value) (w : World) (hv : checkPair l = 0) (hu : u.length ≤ 1000) (hub : ∀ k, k < u.length → 0 ≤ nthI u k ∧ nthI u k ≤ 65535) (h : RSt w w.heap.size vl l) (h' : RU w w.heap.size vu u) :
    Calls Try.prog 39 #[vl, vu] w fun e w' => ∃ v, e = .returned v ∧ RI w' w'.heap.size v (truthR l u) ∧ Below w.heap.size w w' := by
  obtain ⟨hn0, hn1⟩ := checkPair_len l hv
  have hva := valid_at l hv
  obtain ⟨A, cap, b, off, rfl, hA, hc⟩ := h.cells
  obtain ⟨A', cap', b', off', rfl, hA', hc'⟩ := h'.cells
  obtain ⟨rfl, hb⟩ := hA (by omega)
  have HC := Lib.hid hc; have HC' := Lib.hid hc'; have HA' := Lib.hid hA'; have HVA := Lib.hid hva; have HUB := Lib.hid hub
  clear hc hA hc' hA' h h' hv hva hub
  go_enter Try.func39, Try.ntmps39
  go_wp2_with fail
  go_loopw [5, 6] (fun acc i wr => ∃ k : Nat, k ≤ l.length ∧ i = .int .i64 k ∧ OwnI 2 wr w.heap.size acc ((truthR l u).take k) ∧ Below w.heap.size w wr) (fun _ i _ => l.length - (intOf i).toNat)
  case atStart => exact ⟨0, Nat.zero_le _, rfl, by simpa using OwnI.nil _ _ _, by exact bel_of⟩
  case round =>
    obtain ⟨k, hk, rfl, hown, hbw⟩ := hrel
    have hsz := hbw.size
    by_cases hlt : k < l.length
    · have hcell := HC.out k hlt
      rw [← hbw.cell (by exact hb), ← hbw.cell (by exact hb), ← hbw.cell (by exact hb)] at hcell
      obtain ⟨c0, c1, c2⟩ := hcell
      have q1 := HVA.out k hlt
      have hbr : b < wr.heap.size := by omega
      have hTA : truthAt l u k = (nthS l k).lo + if 0 < u.length then nthI u (k % u.length) % ((nthS l k).hi - (nthS l k).lo + 1) else 0 := rfl
      obtain ⟨T, hT⟩ : ∃ T, truthAt l u k = T := ⟨_, rfl⟩
      have htk := truthR_take l u k hlt
      rw [hT] at htk hTA
      have HTK := Lib.hid htk; clear htk hT
      by_cases hz : u.length = 0
      · rw [if_neg (by omega)] at hTA
        have hTe : (nthS l k).lo = T := by omega
        obtain ⟨v', w2, hrun, hown', hb', hs', _⟩ := app_i64 hown T (by rw [List.length_take, truthR_length]; omega) hsz hbw wr.heap.size rfl
        rw [HTK.out] at hown'
        rw [← hTe] at hrun
        have HO := Lib.hid hown'; clear hown'
        have HRUN := Lib.hid hrun; clear hrun hown
        have dz : decide ((0 : Int) < (u.length : Int)) = false := by simp [hz]
        have dz2 : decide (0 < u.length) = false := by simp [hz]
        clear hTA hTe hz
        go_wp2_with (at_builtin; refine wpList_append_run rfl (.tmp 48) (.tmp 50) 23 _ rfl HRUN.out ?_)
        go_roundw
        case rel => exact ⟨k + 1, by omega, by go_num, HO.out, by exact bel_of⟩
        case measure => simp [intOf]; omega
      · obtain ⟨rfl, hb'⟩ := HA'.out hz
        rw [if_pos (by omega)] at hTA
        have hmod := Nat.mod_lt k (show 0 < u.length by omega)
        have hcu := HC'.out (k % u.length) hmod
        rw [← hbw.cell (by exact hb')] at hcu
        have q2 := HUB.out (k % u.length) hmod
        have hbr' : b' < wr.heap.size := by omega
        have dz : decide ((0 : Int) < (u.length : Int)) = true := by simp; omega
        have _hm1 : (k : Int).tmod (u.length : Int) = ((k % u.length : Nat) : Int) := by rw [Int.tmod_eq_emod_of_nonneg (by omega)]; omega
        obtain ⟨m, hm⟩ : ∃ m, k % u.length = m := ⟨_, rfl⟩
        rw [hm] at hmod hcu q2 hTA _hm1
        have q3 := Int.emod_nonneg (nthI u m) (show (nthS l k).hi - (nthS l k).lo + 1 ≠ 0 by omega)
        have q4 := Int.emod_lt_of_pos (nthI u m) (show 0 < (nthS l k).hi - (nthS l k).lo + 1 by omega)
        have _hm2 : (nthI u m).tmod ((nthS l k).hi - (nthS l k).lo + 1) = nthI u m % ((nthS l k).hi - (nthS l k).lo + 1) := Int.tmod_eq_emod_of_nonneg (by omega)
        obtain ⟨r, hr⟩ : ∃ r, nthI u m % ((nthS l k).hi - (nthS l k).lo + 1) = r := ⟨_, rfl⟩
        rw [hr] at hTA q3 q4 _hm2
        have HTA := Lib.hid hTA
        have HM := Lib.hid hm
        have HR := Lib.hid hr
        clear hTA hm hr
        have e1 : IntKind.i64.wrap ((nthS l k).hi - (nthS l k).lo + 1) = (nthS l k).hi - (nthS l k).lo + 1 := by rw [IntKind.wrap_i64]; omega
        have happ := fun nq => app_i64 (w1 := wr.drewN nq) (hown.below (by exact bel_of)) T (by rw [List.length_take, truthR_length]; omega) hsz (w0 := w) (by exact bel_of) wr.heap.size rfl
        rw [HTK.out, HTA.out] at happ
        have HAPP := Lib.hid happ; clear happ hown
        have hz0 : u.length ≠ 0 := hz
        have hz1 : (u.length : Int) ≠ 0 := by omega
        clear hz
        go_upto_region 7 with fail
        go_quiet (fail)
        obtain ⟨v', w2, hrun, hown', hb2, hs', _⟩ := HAPP.out nq
        have HO := Lib.hid hown'; clear hown'
        have HRUN := Lib.hid hrun; clear hrun HAPP
        go_wp2_with (at_builtin; refine wpList_append_run rfl (.tmp 48) (.tmp 50) 23 _ rfl HRUN.out ?_)
        go_roundw
        case rel => exact ⟨k + 1, by omega, by go_num, HO.out, by exact bel_of⟩
        case measure => simp [intOf]; omega
    · have hke : k = l.length := by omega
      have HO := Lib.hid hown
      have HK := Lib.hid hke; clear hke
      go_wp2_with fail
      go_ret
      refine ⟨_, rfl, ?_, by exact bel_of⟩
      have := HO.out.ri
      rw [HK.out, List.take_of_length_le (by rw [truthR_length]; exact Nat.le_refl _)] at this
      exact this
end Go.Proofs.Ytbjmkmambmeifaa

namespace Go.Proofs.Ytbjmkmambmeifaa
open Go.ChangeShapes Go.WideShapes Go.ChangeAt Go.RowKit Go.Deep

theorem own : ownKnob Try.prog.godebug = none := by kernel_rfl
theorem laidOut : laidOutB Try.prog = true := by kernel_rfl

theorem spot_none {w : World} {a : Addr} {v : Value} (h : w.cell? a = some v) : a = ⟨a.block, a.off, none⟩ ∧ a.block < w.heap.size := by
  unfold World.cell? at h
  split at h
  · rename_i c t r hb
    split at h
    · cases h
    · rename_i hs
      refine ⟨?_, (Array.getElem?_eq_some_iff.1 hb).1⟩
      obtain ⟨b, o, s⟩ := a
      cases s with
      | none => rfl
      | some _ => simp at hs
  · cases h
theorem flat_at {α : Type} (f : α → List Value) (sz : Nat) (hf : ∀ z, (f z).length = sz) : ∀ (L : List α) (i r : Nat) (hi : i < L.length), r < sz → (L.flatMap f)[i * sz + r]? = (f L[i])[r]?
  | [], i, r, hi, _ => by simp at hi
  | z :: L, 0, r, _, hr => by
    simp only [List.flatMap_cons, Nat.zero_mul, Nat.zero_add, List.getElem_cons_zero]
    rw [List.getElem?_append_left (by rw [hf]; exact hr)]
  | z :: L, i + 1, r, hi, hr => by
    have := flat_at f sz hf L i r (by simpa using hi) hr
    simp only [List.flatMap_cons, List.getElem_cons_succ]
    rw [List.getElem?_append_right (by rw [hf, Nat.succ_mul]; omega), hf, show (i + 1) * sz + r - sz = i * sz + r by rw [Nat.succ_mul]; omega]
    exact this
theorem flat_len {α : Type} (f : α → List Value) (sz : Nat) (hf : ∀ z, (f z).length = sz) : ∀ L : List α, (L.flatMap f).length = L.length * sz
  | [] => by simp
  | z :: L => by rw [List.flatMap_cons, List.length_append, hf, flat_len f sz hf L, List.length_cons, Nat.succ_mul]; omega

section
variable {H : Type} {enc : TypeId × Value → H} {w : World} {base : Nat} {spare : Nat → Bool} {held : Bool}
theorem open_rs {P : Program} {α : Type} [Inhabited α] (f : α → List Value) (G : α → Prop) {t e sz : Nat} {v : Value} {d : DataW H} {ps : List MemPlace} {r : Reach} {b0 : Nat} (ht : P.underlying t = some (.slice e)) (hC : P.cellsOf e = sz) (h0 : 0 < sz) (hf : ∀ z, (f z).length = sz)
    (he : ∀ n cs' y, DataW.trod enc P w base spare held n e cs' = some y → ∃ z, cs' = f z ∧ G z) (hval : Value.okWide P w r b0 t v) (hd : DataW.Trod enc P w base spare held t v d ps) :
    ∃ L : List α, RS w w.heap.size sz v L.length (L.flatMap f) ∧ (∀ z ∈ L, G z) ∧ L.length ≤ maxLen := by
  obtain ⟨a0, len0, cap0, rfl⟩ := okWide_slice ht hval
  obtain ⟨fuel, hd⟩ := hd
  rcases open_slice ht hd with ⟨hn, _⟩ | ⟨a, len, cap, m, n, D, Pl, hcs, hb, hl, hm, hmm, hx, hi⟩
  · obtain ⟨rfl, rfl, rfl⟩ : a0 = none ∧ len0 = 0 ∧ cap0 = 0 := by simpa [Value.cells] using hn
    exact ⟨[], ⟨none, 0, 0, 0, rfl, ⟨by simp, Nat.le_refl _⟩, fun h => absurd rfl h, fun j hj => by simp at hj⟩, by simp, Nat.zero_le _⟩
  · obtain ⟨rfl, rfl, rfl⟩ : a0 = some a ∧ len0 = len ∧ cap0 = cap := by simpa [Value.cells] using hcs
    have hlm : len0 ≤ m := by rw [hmm]; split <;> omega
    obtain ⟨Z, hZ⟩ := choose_lt (n := len0) (α := α) (p := fun i z => (∀ j, j < sz → w.cell? ((a.add (i * sz)).add j) = (f z)[j]?) ∧ G z) (fun i him => by
      obtain ⟨cs', hc, ht'⟩ := hi i (by omega)
      obtain ⟨z, rfl, hg⟩ := he _ _ _ ht'
      rw [hC] at hc
      exact ⟨z, (World.cells?_some hc).2.2, hg⟩)
    refine ⟨(List.range len0).map Z, ?_, ?_, by simp; omega⟩
    · rcases Nat.eq_zero_or_pos len0 with hz | hz
      · subst hz
        exact ⟨some a, cap0, 0, 0, by simp, ⟨by simp, by simp⟩, fun h => absurd (by simp) h, fun j hj => by simp at hj⟩
      · have hc0 := (hZ 0 hz).1 0 h0
        have hs0 : (f (Z 0))[0]? = some ((f (Z 0))[0]'(by rw [hf]; exact h0)) := List.getElem?_eq_getElem _
        rw [hs0] at hc0
        have ha0 : (a.add (0 * sz)).add 0 = a := by simp [Addr.add]
        rw [ha0] at hc0
        obtain ⟨ha, hab⟩ := spot_none hc0
        rw [ha]
        refine ⟨_, cap0, a.block, a.off, by simp, ⟨by rw [flat_len f sz hf], by simpa using hl⟩, fun _ => ⟨rfl, hab⟩, fun j hj => ?_⟩
        rw [flat_len f sz hf, List.length_map, List.length_range] at hj
        have hjr := Nat.mod_lt j h0
        have hji : j / sz < len0 := Nat.div_lt_of_lt_mul (by rw [Nat.mul_comm]; exact hj)
        have hje : j = j / sz * sz + j % sz := by rw [Nat.mul_comm]; exact (Nat.div_add_mod ..).symm
        have h1 := (hZ (j / sz) hji).1 (j % sz) hjr
        have h2 : (a.add (j / sz * sz)).add (j % sz) = ⟨a.block, a.off + j, none⟩ := by
          rw [ha]
          unfold Addr.add
          by_cases z1 : j / sz * sz = 0 <;> by_cases z2 : j % sz = 0 <;> simp [z1, z2] <;> omega
        rw [h2] at h1
        rw [h1]
        have h3 := flat_at f sz hf ((List.range len0).map Z) (j / sz) (j % sz) (by simpa using hji) hjr
        rw [← hje] at h3
        rw [h3]
        simp
    · intro z hz
      obtain ⟨i, hi', rfl⟩ := List.mem_map.1 hz
      exact (hZ i (List.mem_range.1 hi')).2

def okI (n : Int) : Prop := -9223372036854775808 ≤ n ∧ n ≤ 9223372036854775807
theorem okI_wf {n : Int} (h : (Lit.int .i64 n).wf = true) : okI n := by simpa [okI, Lit.wf, IntKind.min, IntKind.max, IntKind.signed, IntKind.bits] using h
section
variable {P : Program}
theorem two_ints {i64 t : TypeId} (h64 : P.underlying i64 = some (.int .i64)) (h64c : P.cellsOf i64 = 1) {fuel : Nat} {cs : List Value} {x : DataW H × List MemPlace} {fs : Array Field} (hu : P.underlying t = some (.struct fs)) (hC : P.cellsOf t = 2) {f0 f1 : Field} (hfs : fs = #[f0, f1])
    (e0 : f0.type = i64 ∧ f0.offset = 0) (e1 : f1.type = i64 ∧ f1.offset = 1) (h : DataW.trod enc P w base spare held fuel t cs = some x) : ∃ a b, cs = [.int .i64 a, .int .i64 b] ∧ okI a ∧ okI b := by
  subst hfs
  obtain ⟨xs, n, _, _, hcl, hxl, hf⟩ := DataW.trod_struct hu h
  rw [hC] at hcl
  match cs, hcl with
  | [c0, c1], _ =>
    have h0 := hf 0 f0 rfl
    have h1 := hf 1 f1 rfl
    rw [e0.1, e0.2, h64c] at h0
    rw [e1.1, e1.2, h64c] at h1
    have hx : xs.length = 2 := hxl
    rw [List.getElem?_eq_getElem (show 0 < xs.length by omega)] at h0
    rw [List.getElem?_eq_getElem (show 1 < xs.length by omega)] at h1
    obtain ⟨a, k0, _, w0⟩ := DataW.trod_int h64 h0
    obtain ⟨b, k1, _, w1⟩ := DataW.trod_int h64 h1
    simp at k0 k1
    subst k0; subst k1
    exact ⟨a, b, rfl, okI_wf w0, okI_wf w1⟩
theorem int_two {i64 t r : TypeId} (h64 : P.underlying i64 = some (.int .i64)) (h64c : P.cellsOf i64 = 1) {fuel : Nat} {cs : List Value} {x : DataW H × List MemPlace} {fs gs : Array Field} (hu : P.underlying t = some (.struct fs)) (hC : P.cellsOf t = 3) {f0 f1 g0 g1 : Field} (hfs : fs = #[f0, f1])
    (e0 : f0.type = i64 ∧ f0.offset = 0) (e1 : f1.type = r ∧ f1.offset = 1) (hr : P.underlying r = some (.struct gs)) (hrC : P.cellsOf r = 2) (hgs : gs = #[g0, g1]) (d0 : g0.type = i64 ∧ g0.offset = 0) (d1 : g1.type = i64 ∧ g1.offset = 1)
    (h : DataW.trod enc P w base spare held fuel t cs = some x) : ∃ a b c, cs = [.int .i64 a, .int .i64 b, .int .i64 c] ∧ okI a ∧ okI b ∧ okI c := by
  subst hfs
  obtain ⟨xs, n, _, _, hcl, hxl, hf⟩ := DataW.trod_struct hu h
  rw [hC] at hcl
  match cs, hcl with
  | [c0, c1, c2], _ =>
    have h0 := hf 0 f0 rfl
    have h1 := hf 1 f1 rfl
    rw [e0.1, e0.2, h64c] at h0
    rw [e1.1, e1.2, hrC] at h1
    have hx : xs.length = 2 := hxl
    rw [List.getElem?_eq_getElem (show 0 < xs.length by omega)] at h0
    rw [List.getElem?_eq_getElem (show 1 < xs.length by omega)] at h1
    obtain ⟨a, k0, _, w0⟩ := DataW.trod_int h64 h0
    obtain ⟨b, c, k1, w1, w2⟩ := two_ints h64 h64c hr hrC hgs d0 d1 h1
    simp at k0 k1
    subst k0
    obtain ⟨rfl, rfl⟩ := k1
    exact ⟨a, b, c, rfl, okI_wf w0, w1, w2⟩
end
theorem cells1 : Try.prog.cellsOf 2 = 1 := by kernel_rfl
theorem cells25 : Try.prog.cellsOf 25 = 2 := by kernel_rfl
theorem cells60 : Try.prog.cellsOf 60 = 2 := by kernel_rfl
theorem cells62 : Try.prog.cellsOf 62 = 3 := by kernel_rfl
theorem cells65 : Try.prog.cellsOf 65 = 1 := by kernel_rfl
theorem trod_ra {fuel : Nat} {cs : List Value} {x : DataW H × List MemPlace} (h : DataW.trod enc Try.prog w base spare held fuel 25 cs = some x) : ∃ r : Ra, cs = [.int .i64 r.num, .int .i64 r.den] ∧ okI r.num ∧ okI r.den := by
  obtain ⟨a, b, e, h1, h2⟩ := two_ints Try.underlying2 cells1 Try.underlying25 cells25 rfl ⟨rfl, rfl⟩ ⟨rfl, rfl⟩ h
  exact ⟨⟨a, b⟩, e, h1, h2⟩
theorem trod_st {fuel : Nat} {cs : List Value} {x : DataW H × List MemPlace} (h : DataW.trod enc Try.prog w base spare held fuel 62 cs = some x) : ∃ s : St, cs = [.int .i64 s.a, .int .i64 s.lo, .int .i64 s.hi] ∧ okI s.a ∧ okI s.lo ∧ okI s.hi := by
  obtain ⟨a, b, c, e, h1, h2, h3⟩ := int_two Try.underlying2 cells1 Try.underlying62 cells62 rfl ⟨rfl, rfl⟩ ⟨rfl, rfl⟩ Try.underlying60 cells60 rfl ⟨rfl, rfl⟩ ⟨rfl, rfl⟩ h
  exact ⟨⟨a, b, c⟩, e, h1, h2, h3⟩

set_option maxRecDepth 100000 in
theorem open_sts {v : Value} {d : DataW H} {ps : List MemPlace} {r : Reach} {b0 : Nat} (hval : Value.okWide Try.prog w r b0 22 v) (hd : DataW.Trod enc Try.prog w base spare held 22 v d ps) : ∃ l : List St, RSt w w.heap.size v l ∧ l.length ≤ maxLen := by
  have he : ∀ n cs' y, DataW.trod enc Try.prog w base spare held n 62 cs' = some y → ∃ z : St, cs' = [.int .i64 z.a, .int .i64 z.lo, .int .i64 z.hi] ∧ okI z.a ∧ okI z.lo ∧ okI z.hi := by
    intro n cs' y h
    exact trod_st h
  obtain ⟨l, h, _, hl⟩ := open_rs (P := Try.prog) (t := 22) (e := 62) (sz := 3) (fun s : St => [.int .i64 s.a, .int .i64 s.lo, .int .i64 s.hi]) (fun s => okI s.a ∧ okI s.lo ∧ okI s.hi) Try.underlying22 cells62 (Nat.succ_pos _) (fun _ => rfl) he hval hd
  exact ⟨l, h, hl⟩
set_option maxRecDepth 100000 in
theorem open_ras {v : Value} {d : DataW H} {ps : List MemPlace} {r : Reach} {b0 : Nat} (hval : Value.okWide Try.prog w r b0 26 v) (hd : DataW.Trod enc Try.prog w base spare held 26 v d ps) : ∃ l : List Ra, RRa w w.heap.size v l ∧ (∀ x ∈ l, okI x.num ∧ okI x.den) ∧ l.length ≤ maxLen := by
  have he : ∀ n cs' y, DataW.trod enc Try.prog w base spare held n 25 cs' = some y → ∃ z : Ra, cs' = [.int .i64 z.num, .int .i64 z.den] ∧ okI z.num ∧ okI z.den := by
    intro n cs' y h
    exact trod_ra h
  obtain ⟨l, h, hg, hl⟩ := open_rs (P := Try.prog) (t := 26) (e := 25) (sz := 2) (fun s : Ra => [.int .i64 s.num, .int .i64 s.den]) (fun x => okI x.num ∧ okI x.den) Try.underlying26 cells25 (Nat.succ_pos _) (fun _ => rfl) he hval hd
  exact ⟨l, h, hg, hl⟩
theorem flat_ints (k : IntKind) (L : List Int) : (L.flatMap fun x => [Value.int k x]) = L.map (.int k) := by
  induction L with
  | nil => rfl
  | cons a t ih => rw [List.flatMap_cons, ih]; rfl
set_option maxRecDepth 100000 in
theorem open_i64s {v : Value} {d : DataW H} {ps : List MemPlace} {r : Reach} {b0 : Nat} (hval : Value.okWide Try.prog w r b0 23 v) (hd : DataW.Trod enc Try.prog w base spare held 23 v d ps) : ∃ l : List Int, RI w w.heap.size v l ∧ l.length ≤ maxLen := by
  have he : ∀ n cs' y, DataW.trod enc Try.prog w base spare held n 2 cs' = some y → ∃ z : Int, cs' = [.int .i64 z] ∧ okI z := by
    intro n cs' y h
    obtain ⟨n, h1, _, hw⟩ := DataW.trod_int Try.underlying2 h
    exact ⟨n, h1, okI_wf hw⟩
  obtain ⟨l, h, _, hl⟩ := open_rs (P := Try.prog) (t := 23) (e := 2) (sz := 1) (fun x : Int => [Value.int .i64 x]) okI Try.underlying23 cells1 (Nat.succ_pos _) (fun _ => rfl) he hval hd
  rw [flat_ints] at h
  exact ⟨l, h, hl⟩
def okU (x : Int) : Prop := 0 ≤ x ∧ x ≤ 65535
theorem okU_wf {n : Int} (h : (Lit.int .u16 n).wf = true) : okU n := by simpa [okU, Lit.wf, IntKind.min, IntKind.max, IntKind.signed, IntKind.bits] using h
set_option maxRecDepth 100000 in
theorem open_u16s {v : Value} {d : DataW H} {ps : List MemPlace} {r : Reach} {b0 : Nat} (hval : Value.okWide Try.prog w r b0 50 v) (hd : DataW.Trod enc Try.prog w base spare held 50 v d ps) : ∃ l : List Int, RU w w.heap.size v l ∧ (∀ k, k < l.length → 0 ≤ nthI l k ∧ nthI l k ≤ 65535) ∧ l.length ≤ maxLen := by
  have he : ∀ n cs' y, DataW.trod enc Try.prog w base spare held n 65 cs' = some y → ∃ z : Int, cs' = [.int .u16 z] ∧ okU z := by
    intro n cs' y h
    obtain ⟨n, h1, _, hw⟩ := DataW.trod_int Try.underlying65 h
    exact ⟨n, h1, okU_wf hw⟩
  obtain ⟨l, h, hg, hl⟩ := open_rs (P := Try.prog) (t := 50) (e := 65) (sz := 1) (fun x : Int => [Value.int .u16 x]) okU Try.underlying50 cells65 (Nat.succ_pos _) (fun _ => rfl) he hval hd
  rw [flat_ints] at h
  refine ⟨l, h, fun k hk => hg _ ?_, hl⟩
  simp [nthI, hk]

set_option maxRecDepth 100000 in
theorem open_ra {v : Value} {d : DataW H} {ps : List MemPlace} {r : Reach} {b0 : Nat} (hval : Value.okWide Try.prog w r b0 25 v) (hd : DataW.Trod enc Try.prog w base spare held 25 v d ps) : ∃ x : Ra, v = .agg #[.int .i64 x.num, .int .i64 x.den] ∧ okI x.num ∧ okI x.den := by
  obtain ⟨cs, rfl, _⟩ := okWide_struct Try.underlying25 hval
  obtain ⟨fuel, hd⟩ := hd
  obtain ⟨x, hx, h1, h2⟩ := trod_ra hd
  refine ⟨x, ?_, h1, h2⟩
  have hx' : cs.toList = [.int .i64 x.num, .int .i64 x.den] := hx
  rw [← Array.toArray_toList (xs := cs), hx']

/-- What was read below the old heap reads as it did. -/
theorem trodAll_stays {P : Program} (hl : laidOutB P = true) {W W' : World} (hb : Below W.heap.size W W') {sp : Nat → Bool} : ∀ (ts : List TypeId) (vs : List Value) (ds : List (DataW H)) (ps : List MemPlace), (∀ t ∈ ts, P.readableRec t = true ∧ t < P.types.size) →
    DataW.TrodAll enc P W 0 (fun _ => true) true ts vs ds ps → (∀ p ∈ ps, p.block < W.heap.size) → (∀ p ∈ ps, sp p.block = true) → DataW.TrodAll enc P W' 0 sp true ts vs ds ps
  | [], [], [], _, _, h, _, _ => h
  | t :: ts, v :: vs, d :: ds, _, ht, h, hlt, hsp => by
    obtain ⟨p, q, h1, h2, rfl⟩ := h
    obtain ⟨r1, r2⟩ := ht t (by simp)
    exact ⟨p, q, WideElems.Trod_stays hl r1 r2 h1 (fun x hx => hb.same (hlt x (by simp [hx]))) (fun x hx => hsp x (by simp [hx])),
      trodAll_stays hl hb ts vs ds q (fun t ht' => ht t (by simp [ht'])) h2 (fun x hx => hlt x (by simp [hx])) (fun x hx => hsp x (by simp [hx])), rfl⟩
  | [], _ :: _, _, _, _, h, _, _ => h.elim
  | [], [], _ :: _, _, _, h, _, _ => h.elim
  | _ :: _, [], _, _, _, h, _, _ => h.elim
  | _ :: _, _ :: _, [], _, _, h, _, _ => h.elim

set_option maxRecDepth 100000 in
/-- The last step of a law: it returned true. -/
theorem law_done {f : Func} {s : ChangeSpec} {apart fresh handsOn again : Bool} {W W' : World} {args : Array Value} {ds gs : List (DataW H)} {before : List MemPlace}
    (hW : DataW.Whole enc Try.prog f.params.toList s.vars apart W args.toList ds gs before) (hvars : s.vars = []) (hres : f.resultTypes = #[4]) (hfn : s.fn H (ds ++ gs) = { results := [.lit (.bool true)], args := ds })
    (hr : ∀ t ∈ f.params.toList, Try.prog.readableRec t = true ∧ t < Try.prog.types.size) (hb : Below W.heap.size W W') :
    s.post enc Try.prog f apart fresh handsOn again W args (.bool true) W' := by
  have hlt : ∀ p ∈ before, p.block < W.heap.size := fun p hp => hW.lt p hp
  have hW2 := hW
  obtain ⟨p, q, hA, hV, hpq, hz, hn⟩ := hW
  rw [hvars] at hV
  obtain ⟨rfl, rfl⟩ := trodVars_none hV
  rw [List.append_nil] at hpq
  subst hpq
  have hargs : ∀ sp : Nat → Bool, (∀ p ∈ before, sp p.block = true) → DataW.TrodAll enc Try.prog W' 0 sp true f.params.toList args.toList ds before := fun sp hsp => trodAll_stays laidOut hb _ _ _ _ hr hA hlt hsp
  have hold : ∀ p ∈ before, (fun b => decide (b < W.heap.size)) p.block = true := fun p hp => by simpa using hlt p hp
  have hrs : ∀ (b : Nat) (sp : Nat → Bool) (hd : Bool), DataW.TrodAll enc Try.prog W' b sp hd f.resultTypes.toList ((Value.bool true).resultList f.resultTypes.size) (s.fn H (ds ++ [])).results [] := fun b sp hd => by
    rw [hres, hfn]; exact trodAll_cons_mk (shut_bool Try.underlying4 _) trodAll_mk0
  refine ⟨ds, [], before, [], before, [], hW2, hrs _ _ _, ?_, ?_, World.keptBut_mono (fun p hp => ⟨hp, ?_⟩) (hb.frame (· ∈ before)), fun _ => ?_⟩
  · rw [hfn]; exact hargs _ hold
  · rw [hfn, hvars]; exact rfl
  · simpa using hp
  · refine ⟨?_, (s.fn H (ds ++ [])).results ++ ds, [], ([] ++ before) ++ [], ⟨[] ++ before, [], ?_, ?_, rfl, ?_, ?_⟩, ?_⟩
    · exact ok_one hres rfl (okWide_bool_mk Try.underlying4 _)
    · exact trodAll_append (hargs (fun _ => true) (fun _ _ => rfl)) (hrs 0 (fun _ => true) true)
    · rw [hvars]; exact rfl
    · intro b off hp
      have hin : MemPlace.cell b off ∈ before := by simpa using hp
      rw [hb.frozen (hlt _ hin)]
      exact hz b off hin
    · intro ha
      have := hn ha
      simpa using this
    · intro p hp _
      simpa using hp
end
end Go.Proofs.Ytbjmkmambmeifaa

namespace Go.Proofs.Ytbjmkmambmeifaa
open Go.RowKit

def fineB (l : List St) : Bool := decide (checkPair l = 0)
theorem fine_any (l : List St) (vl : Value) (w : World) (hl : l.length < 4611686018427387904) (h : RSt w w.heap.size vl l) :
    Calls Try.prog 37 #[vl] w fun e w' => e = .returned (.bool (fineB l)) ∧ Below w.heap.size w w' := by
  obtain ⟨A, cap, b, off, rfl, _, _⟩ := h.cells
  by_cases hg : 35 < l.length
  · have d1 : decide (35 < (l.length : Int)) = true := by simp; omega
    have HF := Lib.hid (show fineB l = false by unfold fineB; rw [checkPair, if_pos (.inr (by omega))]; rfl)
    go_enter Try.func37, Try.ntmps37
    go_wp2_with fail
    refine (great_any _ _ _ _).mono ?_
    rintro e w1 ⟨rfl, rfl⟩
    go_wp2_with fail
    go_ret
    exact ⟨by rw [HF.out]; rfl, by exact bel_of⟩
  · have d1 : decide (35 < (l.length : Int)) = false := by simp; omega
    obtain ⟨e0, he0⟩ : ∃ e0, checkPair l = e0 := ⟨_, rfl⟩
    have hcall := refCheckPair_any l _ w (by omega) h
    rw [he0] at hcall
    have HP := Lib.hid hcall; clear hcall
    have HF := Lib.hid (show fineB l = (e0 == 0) by unfold fineB; rw [he0]; exact (Bool.beq_eq_decide_eq _ _).symm)
    go_enter Try.func37, Try.ntmps37
    go_wp2_with fail
    refine (great_any _ _ _ _).mono ?_
    rintro e w1 ⟨rfl, rfl⟩
    go_wp2_with fail
    refine HP.out.mono ?_
    rintro e w1 ⟨rfl, hb1⟩
    go_wp2_with fail
    go_ret
    exact ⟨by rw [HF.out]; rfl, by exact bel_of⟩

def insideB (a b c d a' b' c' d' : Int) : Bool := (!lessW ⟨a, b⟩ ⟨a', b'⟩) && (!lessW ⟨c', d'⟩ ⟨c, d⟩)
theorem inside_any (a b c d a' b' c' d' : Int) (w : World) :
    Calls Try.prog 44 #[.agg #[.int .i64 a, .int .i64 b, .int .i64 c, .int .i64 d], .agg #[.int .i64 a', .int .i64 b', .int .i64 c', .int .i64 d']] w fun e w' =>
      e = .returned (.bool (insideB a b c d a' b' c' d')) ∧ Below w.heap.size w w' := by
  unfold insideB
  obtain ⟨q, hq⟩ : ∃ q, lessW ⟨a, b⟩ ⟨a', b'⟩ = q := ⟨_, rfl⟩
  obtain ⟨r, hr⟩ : ∃ r, lessW ⟨c', d'⟩ ⟨c, d⟩ = r := ⟨_, rfl⟩
  have h1 := fun W => refLess_any a b a' b' W
  have h2 := fun W => refLess_any c' d' c d W
  rw [hq] at h1; rw [hr] at h2; rw [hq, hr]
  have H1 := Lib.hid h1; have H2 := Lib.hid h2
  clear h1 h2 hq hr
  cases q with
  | true =>
    go_enter Try.func44, Try.ntmps44
    go_wp2_with fail
    refine (H1.out _).mono ?_
    rintro e w1 ⟨rfl, rfl⟩
    go_wp2_with fail
    go_ret
    exact ⟨rfl, by exact bel_of⟩
  | false =>
    go_enter Try.func44, Try.ntmps44
    go_wp2_with fail
    refine (H1.out _).mono ?_
    rintro e w1 ⟨rfl, rfl⟩
    go_wp2_with fail
    refine (H2.out _).mono ?_
    rintro e w2 ⟨rfl, rfl⟩
    go_wp2_with fail
    go_ret
    exact ⟨by simp, by exact bel_of⟩
end Go.Proofs.Ytbjmkmambmeifaa

namespace Go.Proofs.Ytbjmkmambmeifaa
open Go.RowKit

theorem ints_same (a : List Int) (va vb : Value) (w : World) (hl : a.length ≤ 1000) (h : RI w w.heap.size va a) (h' : RI w w.heap.size vb a) :
    Calls Try.prog 21 #[va, vb] w fun e w' => e = .returned (.bool true) ∧ Below w.heap.size w w' :=
  (ints_any a a va vb w hl hl h h').mono fun e w' ⟨he, hb⟩ => ⟨by rw [he]; simp, hb⟩
theorem ratios_same (a : List Ra) (va vb : Value) (w : World) (hl : a.length ≤ 1000) (h : RRa w w.heap.size va a) (h' : RRa w w.heap.size vb a) :
    Calls Try.prog 36 #[va, vb] w fun e w' => e = .returned (.bool true) ∧ Below w.heap.size w w' :=
  (ratios_any a a va vb w hl hl h h').mono fun e w' ⟨he, hb⟩ => ⟨by rw [he]; simp, hb⟩
theorem wedgeV_form (l : List St) : ∃ a b c d, wedgeV l = .tuple #[.agg #[.int .i64 a, .int .i64 b, .int .i64 c], .int .i64 d] := by
  unfold wedgeV
  by_cases h : checkPair l ≠ 0
  · rw [if_pos h]; exact ⟨0, 0, 0, _, rfl⟩
  · rw [if_neg h]
    cases wedgeF l with
    | none => exact ⟨_, _, _, _, rfl⟩
    | some x => obtain ⟨i, k, m⟩ := x; exact ⟨_, _, _, _, rfl⟩
theorem kindsP_len (l : List St) : (kindsP l).length ≤ l.length := by
  unfold kindsP; split <;> simp
theorem heightsP_len (l : List St) : (heightsP l).length ≤ l.length := by
  unfold heightsP; split <;> simp

theorem wedges_great (l : List St) (vl : Value) (w : World) (hl : 35 < l.length) (h : RSt w w.heap.size vl l) :
    Calls Try.prog 5 #[vl] w fun e w' => e = .returned (.bool true) ∧ Below w.heap.size w w' := by
  obtain ⟨A, cap, b, off, rfl, _, _⟩ := h.cells
  have d1 : decide (35 < (l.length : Int)) = true := by simp; omega
  clear h hl
  go_enter Try.func5, Try.ntmps5
  go_wp2_with fail
  refine (great_any _ _ _ _).mono ?_
  rintro e w1 ⟨rfl, rfl⟩
  go_wp2_with fail
  refine (works_any _).mono ?_
  rintro e w1 ⟨rfl, hb1⟩
  go_wp2_with fail
  go_ret
  exact ⟨rfl, by exact bel_of⟩

set_option maxRecDepth 100000 in
set_option maxHeartbeats 8000000 in
theorem wedges_small (l : List St) (vl : Value) (w : World) (hl : ¬ 35 < l.length) (h : RSt w w.heap.size vl l) :
    Calls Try.prog 5 #[vl] w fun e w' => e = .returned (.bool true) ∧ Below w.heap.size w w' := by
  have hK := fun W (hb : Below w.heap.size w W) => kindsP_any l vl W (by omega) ((RS.below h hb).more hb.size)
  have hKR := fun W (hb : Below w.heap.size w W) => refKinds_any l vl W (by omega) ((RS.below h hb).more hb.size)
  have hW := fun W (hb : Below w.heap.size w W) => wedgeP_any l vl W (by omega) ((RS.below h hb).more hb.size)
  have hWR := fun W (hb : Below w.heap.size w W) => refWedge_any l vl W (by omega) ((RS.below h hb).more hb.size)
  have hH := fun W (hb : Below w.heap.size w W) => heightsP_any l vl W (by omega) ((RS.below h hb).more hb.size)
  have hHR := fun W (hb : Below w.heap.size w W) => refHeights_any l vl W (by omega) ((RS.below h hb).more hb.size)
  simp only [← Ma.kinds_eq] at hKR
  simp only [← Ma.heights_eq, ← Ma.heightsErr_eq] at hHR
  obtain ⟨a1, a2, a3, a4, ha⟩ := wedgeV_form l
  rw [ha] at hW hWR
  have KL := Lib.hid (show (kindsP l).length ≤ 1000 from Nat.le_trans (kindsP_len l) (by omega))
  have HL := Lib.hid (show (heightsP l).length ≤ 1000 from Nat.le_trans (heightsP_len l) (by omega))
  have HK := Lib.hid hK; have HKR := Lib.hid hKR; have HW := Lib.hid hW; have HWR := Lib.hid hWR; have HH := Lib.hid hH; have HHR := Lib.hid hHR
  clear hK hKR hW hWR hH hHR ha
  generalize kindsP l = ks at *
  generalize heightsP l = hs at *
  generalize checkPair l = cp at *
  generalize heightsErrP l = he at *
  obtain ⟨A, cap, b, off, rfl, _, _⟩ := h.cells
  have d1 : decide (35 < (l.length : Int)) = false := by simp; omega
  clear h hl
  go_enter Try.func5, Try.ntmps5
  go_wp2_with fail
  refine (great_any _ _ _ _).mono ?_
  rintro e w0 ⟨rfl, rfl⟩
  go_wp2_with fail
  have hC : Below w.heap.size w w := Below.refl _ _
  refine (HK.out w hC).mono ?_
  rintro e w1 ⟨vk, rfl, hk, hb⟩
  have hC2 : Below w.heap.size w w1 := hC.trans (hb.mono hC.size)
  clear hC; have hC := hC2; clear hC2
  clear hb
  go_wp2_with fail
  refine (HKR.out w1 hC).mono ?_
  rintro e w2 ⟨vr, rfl, hr, hb⟩
  have hC2 : Below w.heap.size w w2 := hC.trans (hb.mono hC.size)
  clear hC; have hC := hC2; clear hC2
  have hk_ := (RS.below hk hb).more hb.size; clear hk; have hk := hk_; clear hk_
  clear hb
  go_wp2_with fail
  refine (HW.out w2 hC).mono ?_
  rintro e w3 ⟨rfl, hb⟩
  have hC2 : Below w.heap.size w w3 := hC.trans (hb.mono hC.size)
  clear hC; have hC := hC2; clear hC2
  have hk_ := (RS.below hk hb).more hb.size; clear hk; have hk := hk_; clear hk_
  have hr_ := (RS.below hr hb).more hb.size; clear hr; have hr := hr_; clear hr_
  clear hb
  go_wp2_with fail
  have ba : BK (w3.alloc (.cells #[.int .i64 a1, .int .i64 a2, .int .i64 a3] 44)) w3.heap.size #[.int .i64 a1, .int .i64 a2, .int .i64 a3] 44 := BK.new _ _ _
  have hC2 : Below w.heap.size w (w3.alloc (.cells #[.int .i64 a1, .int .i64 a2, .int .i64 a3] 44)) := by have := hC.size; exact bel_of
  clear hC; have hC := hC2; clear hC2
  have hk_ := (RS.below hk (w' := (w3.alloc (.cells #[.int .i64 a1, .int .i64 a2, .int .i64 a3] 44))) (by exact bel_of)).more (B' := (w3.alloc (.cells #[.int .i64 a1, .int .i64 a2, .int .i64 a3] 44)).heap.size) (by simp); clear hk; have hk := hk_; clear hk_
  have hr_ := (RS.below hr (w' := (w3.alloc (.cells #[.int .i64 a1, .int .i64 a2, .int .i64 a3] 44))) (by exact bel_of)).more (B' := (w3.alloc (.cells #[.int .i64 a1, .int .i64 a2, .int .i64 a3] 44)).heap.size) (by simp); clear hr; have hr := hr_; clear hr_
  generalize (w3.alloc (.cells #[.int .i64 a1, .int .i64 a2, .int .i64 a3] 44)) = Wba at *
  obtain ⟨gba, hgba⟩ : ∃ g, w3.heap.size = g := ⟨_, rfl⟩
  rw [hgba] at ba
  try rw [hgba]
  clear hgba
  refine (HWR.out Wba hC).mono ?_
  rintro e w4 ⟨rfl, hb⟩
  have hC2 : Below w.heap.size w w4 := hC.trans (hb.mono hC.size)
  clear hC; have hC := hC2; clear hC2
  have hk_ := (RS.below hk hb).more hb.size; clear hk; have hk := hk_; clear hk_
  have hr_ := (RS.below hr hb).more hb.size; clear hr; have hr := hr_; clear hr_
  have ba_ := ba.below hb ba.lt; clear ba; have ba := ba_; clear ba_
  clear hb
  go_wp2_with fail
  have bb : BK (w4.alloc (.cells #[.int .i64 a1, .int .i64 a2, .int .i64 a3] 44)) w4.heap.size #[.int .i64 a1, .int .i64 a2, .int .i64 a3] 44 := BK.new _ _ _
  have hC2 : Below w.heap.size w (w4.alloc (.cells #[.int .i64 a1, .int .i64 a2, .int .i64 a3] 44)) := by have := hC.size; exact bel_of
  clear hC; have hC := hC2; clear hC2
  have hk_ := (RS.below hk (w' := (w4.alloc (.cells #[.int .i64 a1, .int .i64 a2, .int .i64 a3] 44))) (by exact bel_of)).more (B' := (w4.alloc (.cells #[.int .i64 a1, .int .i64 a2, .int .i64 a3] 44)).heap.size) (by simp); clear hk; have hk := hk_; clear hk_
  have hr_ := (RS.below hr (w' := (w4.alloc (.cells #[.int .i64 a1, .int .i64 a2, .int .i64 a3] 44))) (by exact bel_of)).more (B' := (w4.alloc (.cells #[.int .i64 a1, .int .i64 a2, .int .i64 a3] 44)).heap.size) (by simp); clear hr; have hr := hr_; clear hr_
  have ba_ := ba.alloc (.cells #[.int .i64 a1, .int .i64 a2, .int .i64 a3] 44); clear ba; have ba := ba_; clear ba_
  generalize (w4.alloc (.cells #[.int .i64 a1, .int .i64 a2, .int .i64 a3] 44)) = Wbb at *
  obtain ⟨gbb, hgbb⟩ : ∃ g, w4.heap.size = g := ⟨_, rfl⟩
  rw [hgbb] at bb
  try rw [hgbb]
  clear hgbb
  refine (HH.out Wbb hC).mono ?_
  rintro e w5 ⟨vh, rfl, hh, hb⟩
  have hC2 : Below w.heap.size w w5 := hC.trans (hb.mono hC.size)
  clear hC; have hC := hC2; clear hC2
  have hk_ := (RS.below hk hb).more hb.size; clear hk; have hk := hk_; clear hk_
  have hr_ := (RS.below hr hb).more hb.size; clear hr; have hr := hr_; clear hr_
  have ba_ := ba.below hb ba.lt; clear ba; have ba := ba_; clear ba_
  have bb_ := bb.below hb bb.lt; clear bb; have bb := bb_; clear bb_
  clear hb
  go_wp2_with fail
  refine (HHR.out w5 hC).mono ?_
  rintro e w6 ⟨vg, rfl, hg, hb⟩
  have hC2 : Below w.heap.size w w6 := hC.trans (hb.mono hC.size)
  clear hC; have hC := hC2; clear hC2
  have hk_ := (RS.below hk hb).more hb.size; clear hk; have hk := hk_; clear hk_
  have hr_ := (RS.below hr hb).more hb.size; clear hr; have hr := hr_; clear hr_
  have ba_ := ba.below hb ba.lt; clear ba; have ba := ba_; clear ba_
  have bb_ := bb.below hb bb.lt; clear bb; have bb := bb_; clear bb_
  have hh_ := (RS.below hh hb).more hb.size; clear hh; have hh := hh_; clear hh_
  clear hb
  go_wp2_with fail
  refine (ints_same ks vk vr w6 KL.out hk hr).mono ?_
  rintro e w7 ⟨rfl, hb⟩
  have hC2 : Below w.heap.size w w7 := hC.trans (hb.mono hC.size)
  clear hC; have hC := hC2; clear hC2
  have hk_ := (RS.below hk hb).more hb.size; clear hk; have hk := hk_; clear hk_
  have hr_ := (RS.below hr hb).more hb.size; clear hr; have hr := hr_; clear hr_
  have ba_ := ba.below hb ba.lt; clear ba; have ba := ba_; clear ba_
  have bb_ := bb.below hb bb.lt; clear bb; have bb := bb_; clear bb_
  have hh_ := (RS.below hh hb).more hb.size; clear hh; have hh := hh_; clear hh_
  have hg_ := (RS.below hg hb).more hb.size; clear hg; have hg := hg_; clear hg_
  clear hb
  have lba := ba.lt
  have bac0 := ba.cell 0
  have bac1 := ba.cell 1
  have bac2 := ba.cell 2
  simp at bac0 bac1 bac2
  have lbb := bb.lt
  have bbc0 := bb.cell 0
  have bbc1 := bb.cell 1
  have bbc2 := bb.cell 2
  simp at bbc0 bbc1 bbc2
  go_wp2_with fail
  refine (ratios_same hs vh vg w7 HL.out hh hg).mono ?_
  rintro e w8 ⟨rfl, hb⟩
  have hC2 : Below w.heap.size w w8 := hC.trans (hb.mono hC.size)
  clear hC; have hC := hC2; clear hC2
  have hk_ := (RS.below hk hb).more hb.size; clear hk; have hk := hk_; clear hk_
  have hr_ := (RS.below hr hb).more hb.size; clear hr; have hr := hr_; clear hr_
  have ba_ := ba.below hb ba.lt; clear ba; have ba := ba_; clear ba_
  have bb_ := bb.below hb bb.lt; clear bb; have bb := bb_; clear bb_
  have hh_ := (RS.below hh hb).more hb.size; clear hh; have hh := hh_; clear hh_
  have hg_ := (RS.below hg hb).more hb.size; clear hg; have hg := hg_; clear hg_
  clear hb
  go_wp2_with fail
  refine (works_any _).mono ?_
  rintro e w9 ⟨rfl, hb⟩
  go_wp2_with fail
  go_ret
  exact ⟨rfl, hC.trans (hb.mono hC.size)⟩
theorem wedges_row (l : List St) (vl : Value) {w : World} (h : RSt w w.heap.size vl l) (_ : l.length ≤ maxLen) (W : World) (hw : W = w := by rfl) :
    Calls Try.prog 5 #[vl] W fun e w' => e = .returned (.bool true) ∧ Below W.heap.size W w' := by
  subst hw
  by_cases hl : 35 < l.length
  · exact wedges_great l vl _ hl h
  · exact wedges_small l vl _ hl h
end Go.Proofs.Ytbjmkmambmeifaa
