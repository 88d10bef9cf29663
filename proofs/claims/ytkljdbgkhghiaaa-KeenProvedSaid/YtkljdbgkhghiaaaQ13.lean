/- A region whose end is stated once for all its orders; two lists of tests that grow side by side. A book that is made so wide that it has a truth. Plain: the ends of a chain are edges, or nothing; what a truth says of a chain. KeenProved: the walk. KeenProved: the row. -/
import Derived.Test.YtkljdbgkhghiaaaP15
import Derived.Test.YtkljdbgkhghiaaaP28
import Derived.Test.YtkljdbgkhghiaaaP29
import Derived.Test.YtkljdbgkhghiaaaP26
import Derived.Test.YtkljdbgkhghiaaaP12
import Derived.Test.YtkljdbgkhghiaaaP27
import Derived.Test.YtkljdbgkhghiaaaP22
import Derived.Test.YtkljdbgkhghiaaaP21
import Derived.Test.YtkljdbgkhghiaaaP5
import Derived.Test.YtkljdbgkhghiaaaP24
import Derived.Test.YtkljdbgkhghiaaaRows
set_option linter.all false
set_option linter.unnecessarySimpa false
set_option linter.unusedSimpArgs false
set_option linter.unusedVariables false
set_option linter.unusedSectionVars false

set_option linter.all false
namespace Go.Proofs.Ytkljdbgkhghiaaa
open Go.RowKit Kp

/-- Only the normal exit, and what holds there. -/
def OnlyN (R : Act → World → Prop) : Exit → Act → World → Prop
  | .normal, a, w => R a w
  | _, _, _ => False
theorem wp_cut {P : Program} {c : Code} {Q : Exit → Act → World → Prop} {a : Act} {w : World} (R : Act → Act → World → Prop) (h : c.wp P (OnlyN (R a)) a w) (h2 : ∀ a' w', R a a' w' → Q .normal a' w') : c.wp P Q a w :=
  Code.wp_mono (fun e a' w' hq => by cases e <;> first | exact h2 _ _ hq | exact (hq : False).elim) h

/-- Two lists of tests that grow, each in a block of its own. -/
def TwoT (X : World) (base : Nat) (v u : Value) (l m : List Kt) : Prop := OwnT X base v l ∧ OwnT X base u m ∧ ∀ g, v.ownBlock = some g → u.ownBlock ≠ some g
theorem TwoT.symm {X : World} {base : Nat} {v u : Value} {l m : List Kt} (h : TwoT X base v u l m) : TwoT X base u v m l := ⟨h.2.1, h.1, fun g hg hq => h.2.2 g hq hg⟩
theorem TwoT.below {X Y : World} {base : Nat} {v u : Value} {l m : List Kt} (h : TwoT X base v u l m) (hb : Below X.heap.size X Y) : TwoT Y base v u l m := ⟨own_below h.1 hb, own_below h.2.1 hb, h.2.2⟩
theorem TwoT.far {X : World} {base : Nat} {v u : Value} {l m : List Kt} (h : TwoT X base v u l m) {p : Addr} {cs : Array Value} (hp : BK X p.block cs 24) (x : Value) : TwoT (X.setCell p x) base v u l m := by
  have ne : ∀ {z : Value} {k : List Kt}, OwnT X base z k → z.ownBlock ≠ some p.block := fun {z k} hz hq => by
    obtain ⟨c, hc⟩ := own_block hz hq
    unfold BK at hp
    rw [hp] at hc
    injection hc with hc
    injection hc with _ hc
    exact absurd hc (by decide)
  exact ⟨own_far h.1 (ne h.1) x, own_far h.2.1 (ne h.2.1) x, h.2.2⟩
theorem TwoT.nil (X : World) (base : Nat) : TwoT X base (.slice none 0 0) (.slice none 0 0) [] [] := ⟨OwnT.nil X base, OwnT.nil X base, fun g hg => by cases hg⟩

theorem two_grow {W : World} {base g tn : Nat} {v u : Value} {l m : List Kt} {x : Kt} (h : TwoT W base v u l m) (hg : BK W g #[.int .i64 x.one, .int .i64 x.two, .int .i64 x.lo, .int .i64 x.hi] tn) (hn : l.length ≤ 100000) (hbase : base ≤ W.heap.size) :
    ∃ v' w2, (Builtin.append_ #[22, 22] 22 #[v, .slice (some ⟨g, 0, none⟩) 1 1]).run Try.prog W = .ok v' w2 ∧ TwoT w2 base v' u (l ++ [x]) m ∧ (∀ w0, Below base w0 W → Below base w0 w2) ∧ W.heap.size ≤ w2.heap.size ∧ (∀ k cs t, BK W k cs t → v.ownBlock ≠ some k → BK w2 k cs t) := by
  obtain ⟨h1, h2, h3⟩ := h
  obtain ⟨i0, hi0, hz0, hz1, hz2⟩ := info_parts kt_info
  obtain ⟨g', cap', w2, hrun, hown', hgr, hat⟩ := app1 (P := Try.prog) 22 22 56 i0 _ _ _ kt_slice hi0 hz0 hz1 hz2 rfl (by decide) (by decide) base W v l.length (ofG encT l) h1 g (encT x) tn hg rfl (by intro u hu; simp [encT] at hu; rcases hu with rfl | rfl | rfl | rfl <;> rfl) hn hbase
  refine ⟨_, w2, hrun, ⟨?_, ?_, ?_⟩, fun w0 hbw => Below.grown hbw hgr hbase fun k hk => (h1.lt k hk).1, hgr.size, ?_⟩
  · unfold OwnT
    rw [← ofG_app, List.length_append]
    exact hown'
  · refine h2.kept hgr ?_
    cases hu : u.ownBlock with
    | none => exact .inl rfl
    | some q => exact .inr fun hq => h3 q hq.symm hu
  · intro q hq hu
    rcases hat with hat | hat
    · have : q = g' := by simpa [Value.ownBlock] using hq.symm
      subst this
      exact h3 q hat hu
    · have : q = g' := by simpa [Value.ownBlock] using hq.symm
      subst this
      have := (h2.lt q hu).2
      omega
  · intro k cs t hk hte
    exact hk.grown hgr fun hq => hte hq.symm
theorem TwoT.ne {X : World} {base k : Nat} {v u : Value} {l m : List Kt} {cs : Array Value} (h : TwoT X base v u l m) (hk : BK X k cs 24) : v.ownBlock ≠ some k := fun hq => by
  obtain ⟨c, hc⟩ := own_block h.1 hq
  unfold BK at hk
  rw [hk] at hc
  injection hc with hc
  injection hc with _ hc
  exact absurd hc (by decide)
theorem TwoT.lt {X : World} {base : Nat} {v u : Value} {l m : List Kt} (h : TwoT X base v u l m) {k : Nat} (hk : X.heap.size ≤ k) : v.ownBlock ≠ some k := fun hq => by
  have := (h.1.lt k hq).2
  omega
end Go.Proofs.Ytkljdbgkhghiaaa

set_option linter.all false
namespace Go.Proofs.Ytkljdbgkhghiaaa
open Go.RowKit Kp

/-- The truth that numbers make, and the tests that have it. -/
def wideN (y : List Int) (v : Nat) : Int := if y.length = 0 then 0 else nthI y (v % y.length) % 1001
def wideL (N : Nat) (y : List Int) : List Int := (List.range N).map (wideN y)
def wideK (L : List Int) (t : Kt) : Kt := ⟨t.one, t.two, min t.lo (nthI L t.one.toNat - nthI L t.two.toNat), max t.hi (nthI L t.one.toNat - nthI L t.two.toNat)⟩
def wideT (N : Nat) (y : List Int) (ts : List Kt) : List Kt := ts.map (wideK (wideL N y))
theorem wideL_len (N : Nat) (y : List Int) : (wideL N y).length = N := by simp [wideL]
theorem wideL_at {N : Nat} {y : List Int} {v : Nat} (h : v < N) : nthI (wideL N y) v = wideN y v := by
  have : v < (wideL N y).length := by rw [wideL_len]; exact h
  simp [nthI, this, wideL, h]
theorem wideN_rng {y : List Int} (hy : ∀ x ∈ y, okU x) (v : Nat) : 0 ≤ wideN y v ∧ wideN y v ≤ 1000 := by
  unfold wideN
  split <;> omega
theorem wideL_rng {N : Nat} {y : List Int} (hy : ∀ x ∈ y, okU x) {v : Nat} (h : v < N) : 0 ≤ nthI (wideL N y) v ∧ nthI (wideL N y) v ≤ 1000 := by
  rw [wideL_at h]; exact wideN_rng hy v
theorem okb_wide {N : Nat} {ts : List Kt} {y : List Int} (hy : ∀ x ∈ y, okU x) (h : Okb N ts) : Okb N (wideT N y ts) := ⟨h.pos, h.few, fun t ht => by
  obtain ⟨q, hq, rfl⟩ := List.mem_map.1 ht
  have h1 := h.tst q hq
  have a := wideL_rng (N := N) hy (v := q.one.toNat) (by omega)
  have b := wideL_rng (N := N) hy (v := q.two.toNat) (by omega)
  unfold wideK
  dsimp only
  omega⟩
theorem tru_wide {N : Nat} {ts : List Kt} {y : List Int} (hy : ∀ x ∈ y, okU x) (h : Okb N ts) : Tru N (wideT N y ts) (wideL N y) := ⟨wideL_len N y, fun v hv => wideL_rng hy hv, fun t ht => by
  obtain ⟨q, hq, rfl⟩ := List.mem_map.1 ht
  unfold wideK
  dsimp only
  omega⟩
theorem agr_wide {N : Nat} {ts : List Kt} {y : List Int} (hy : ∀ x ∈ y, okU x) (h : Okb N ts) : Agr N (wideT N y ts) := (agr_iff (okb_wide hy h)).2 ⟨_, Tru.pot (okb_wide hy h) (tru_wide hy h)⟩
theorem wideL_take {N k : Nat} {y : List Int} (h : k < N) : (wideL N y).take (k + 1) = (wideL N y).take k ++ [wideN y k] := by
  have hk : k < (wideL N y).length := by rw [wideL_len]; exact h
  rw [List.take_add_one, List.getElem?_eq_getElem hk]
  simp [wideL]
theorem wideT_take {N k : Nat} {y : List Int} {l : List Kt} (h : k < l.length) {o1 o2 lo hi : Int} (ht : nthT l k = ⟨o1, o2, lo, hi⟩) : wideT N y (l.take (k + 1)) = wideT N y (l.take k) ++ [⟨o1, o2, min lo (nthI (wideL N y) o1.toNat - nthI (wideL N y) o2.toNat), max hi (nthI (wideL N y) o1.toNat - nthI (wideL N y) o2.toNat)⟩] := by
  have : nthT l k = l[k] := by simp [nthT, h]
  rw [List.take_add_one, List.getElem?_eq_getElem h, ← this, ht]
  simp [wideT, wideK]
theorem wideT_len (N : Nat) (y : List Int) (ts : List Kt) : (wideT N y ts).length = ts.length := by simp [wideT]
theorem nthT_mem' {l : List Kt} {k : Nat} (h : k < l.length) : nthT l k ∈ l := by
  have : nthT l k = l[k] := by simp [nthT, h]
  rw [this]
  exact List.getElem_mem h
theorem RU.cells {w : World} {B : Nat} {v : Value} {l : List Int} (h : RU w B v l) : ∃ A cap b off, v = .slice A l.length cap ∧ (l.length ≠ 0 → A = some ⟨b, off, none⟩ ∧ b < B) ∧ ∀ k, k < l.length → w.cell? ⟨b, off + k, none⟩ = some (.int .u32 (nthI l k)) := by
  obtain ⟨A, cap, b, off, hv, hl, hA, hc⟩ := h
  refine ⟨A, cap, b, off, hv, hA, fun k hk => ?_⟩
  have := hc k (by simpa using hk)
  simpa [nthI, hk] using this

def WidePost (N : Nat) (y : List Int) (ts : List Kt) (w : World) (e : Ending) (w' : World) : Prop :=
  ∃ vx vt, e = .returned (.tuple #[.agg #[.int .i64 N, vx], vt]) ∧ RT w' w'.heap.size vx (wideT N y ts) ∧ RI w' w'.heap.size vt (wideL N y) ∧ Below w.heap.size w w'

set_option maxHeartbeats 3000000 in
set_option maxRecDepth 100000 in
theorem wide_any (N : Nat) (ts : List Kt) (y : List Int) (v uy : Value) (w : World) (ho : Okb N ts) (hl : ts.length ≤ 40) (hyl : ∀ x ∈ y, okU x) (hy30 : y.length ≤ 30) (h : RT w w.heap.size v ts) (huy : RU w w.heap.size uy y) :
    Calls Try.prog 46 #[.agg #[.int .i64 N, v], uy] w (WidePost N y ts w) := by
  obtain ⟨b, off, cap, A, rfl, hAx⟩ := h.slice
  clear hAx
  have hR := h
  clear h
  obtain ⟨n0, hn0⟩ : ∃ n, w.heap.size = n := ⟨_, rfl⟩
  have hC : Below n0 w w := Below.refl _ _
  have HO := Lib.hid ho
  have HYL := Lib.hid hyl
  have hN1 := ho.pos
  have hN16 := ho.few
  clear ho hyl
  obtain ⟨A_y, c_y, rfl⟩ : ∃ A q, uy = .slice A y.length q := by
    obtain ⟨A, cp, b, off, hv, hl, hA, _⟩ := huy
    exact ⟨A, cp, hv⟩
  go_enter Try.func46, Try.ntmps46
  go_wp2_with fail
  have hqbx : n0 ≤ n0 := by have := hC.size; omega
  have bx : BK (w.alloc (.cells #[.int .i64 N, .slice A ts.length cap] 24)) (n0) #[.int .i64 N, .slice A ts.length cap] 24 := BK.new' _ _ _ (n0) hn0
  have hsbx : (w.alloc (.cells #[.int .i64 N, .slice A ts.length cap] 24)).heap.size = n0 + 1 := by simp [hn0]
  replace hC : Below n0 w (w.alloc (.cells #[.int .i64 N, .slice A ts.length cap] 24)) := Below.alloc hC (by have := hC.size; omega) _
  replace hR := (RS.below hR (w' := (w.alloc (.cells #[.int .i64 N, .slice A ts.length cap] 24))) (Below.alloc (Below.refl _ _) (Nat.le_refl _) _)).more (B' := (w.alloc (.cells #[.int .i64 N, .slice A ts.length cap] 24)).heap.size) (by simp)
  replace huy := (RS.below huy (w' := (w.alloc (.cells #[.int .i64 N, .slice A ts.length cap] 24))) (Below.alloc (Below.refl _ _) (Nat.le_refl _) _)).more (B' := (w.alloc (.cells #[.int .i64 N, .slice A ts.length cap] 24)).heap.size) (by simp)
  generalize (w.alloc (.cells #[.int .i64 N, .slice A ts.length cap] 24)) = Wbx at *
  go_wp2_with fail
  have hqrs : n0 ≤ n0 + 1 := by have := hC.size; omega
  have rs : BK (Wbx.alloc (.cells #[.int .i64 0, .slice none 0 0] 24)) (n0 + 1) #[.int .i64 0, .slice none 0 0] 24 := BK.new' _ _ _ (n0 + 1) hsbx
  have hsrs : (Wbx.alloc (.cells #[.int .i64 0, .slice none 0 0] 24)).heap.size = n0 + 1 + 1 := by simp [hsbx]
  replace hC : Below n0 w (Wbx.alloc (.cells #[.int .i64 0, .slice none 0 0] 24)) := Below.alloc hC (by have := hC.size; omega) _
  replace hR := (RS.below hR (w' := (Wbx.alloc (.cells #[.int .i64 0, .slice none 0 0] 24))) (Below.alloc (Below.refl _ _) (Nat.le_refl _) _)).more (B' := (Wbx.alloc (.cells #[.int .i64 0, .slice none 0 0] 24)).heap.size) (by simp)
  replace huy := (RS.below huy (w' := (Wbx.alloc (.cells #[.int .i64 0, .slice none 0 0] 24))) (Below.alloc (Below.refl _ _) (Nat.le_refl _) _)).more (B' := (Wbx.alloc (.cells #[.int .i64 0, .slice none 0 0] 24)).heap.size) (by simp)
  replace bx := bx.alloc (.cells #[.int .i64 0, .slice none 0 0] 24)
  generalize (Wbx.alloc (.cells #[.int .i64 0, .slice none 0 0] 24)) = Wrs at *
  clear hsbx
  have lbx := bx.lt
  have bxc0 := bx.cell 0
  have bxc1 := bx.cell 1
  simp at bxc0 bxc1
  go_wp2_with fail
  clear lbx bxc0 bxc1
  clear hsrs
  generalize Wrs = W2 at *
  go_loopw [7, 6] (fun i acc wr => ∃ k : Nat, k ≤ N ∧ i = .int .i64 k ∧ OwnI 2 wr W2.heap.size acc ((wideL N y).take k) ∧ Below W2.heap.size W2 wr) (fun i _ _ => N - (intOf i).toNat)
  case atStart => exact ⟨0, Nat.zero_le _, rfl, by simpa using OwnI.nil _ _ _, Below.refl _ _⟩
  case round =>
    obtain ⟨k, hk, rfl, hown, hb⟩ := hrel
    have hbr := Lib.hid hb
    replace hC : Below n0 w wr := hC.trans (hb.mono (by have := hC.size; omega))
    replace hR := (RS.below hR hb).more hb.size
    replace huy := (RS.below huy hb).more hb.size
    replace bx := bx.below hb bx.lt
    replace rs := rs.below hb rs.lt
    clear hb
    by_cases hlt : k < N
    case pos =>
      have hlt' : (k : Int) < (N : Int) := by omega
      have hwt := wideL_take (y := y) hlt
      have hwr := wideN_rng HYL.out k
      by_cases hy0 : y.length = 0
      case pos =>
        have hz : (y.length : Int) = 0 := by omega
        have hx : wideN y k = 0 := by unfold wideN; rw [if_pos hy0]
        rw [hx] at hwt hwr
        obtain ⟨x, hx2⟩ : ∃ x : Int, x = 0 := ⟨_, rfl⟩
        have hgt : ¬ (y.length : Int) > 0 := by omega
        clear hx hy0
        rw [← hx2] at hwt hwr
        subst hx2
        obtain ⟨v', w6, hrun, hown', hb', hs', _⟩ := app_i64 hown 0 (by simp [wideL]; omega) hbr.out.size hbr.out wr.heap.size rfl
        rw [← hwt] at hown'
        have HO2 := Lib.hid hown'
        have HRUN := Lib.hid hrun
        have HB2 := Lib.hid hb'
        clear hown' hrun hb' hs' hwt hwr hown hz
        have lbx := bx.lt
        have bxc0 := bx.cell 0
        have bxc1 := bx.cell 1
        simp at bxc0 bxc1
        go_wp2_with (at_builtin; refine wpList_append_run rfl (.tmp 31) (.tmp 33) 40 _ rfl HRUN.out ?_)
        go_roundw
        case rel => exact ⟨k + 1, by omega, by go_num, HO2.out, HB2.out⟩
        case measure => simp [intOf]; omega
      have hx : wideN y k = nthI y (k % y.length) % 1001 := by unfold wideN; rw [if_neg hy0]
      have hgt : (y.length : Int) > 0 := by omega
      have hml : k % y.length < y.length := Nat.mod_lt _ (by omega)
      have em : (k : Int) % (y.length : Int) = ((k % y.length : Nat) : Int) := rem_nat k y.length
      have z0 : ((y.length : Int) == 0) = false := beq_eq_false_iff_ne.2 (by omega)
      obtain ⟨Ax, cx, bb, off, hve, hAx, hcx⟩ := RU.cells huy
      obtain ⟨rfl, hbb⟩ := hAx (by omega)
      injection hve with q1 q2 q3
      subst q1 q3
      have c0 := hcx _ hml
      obtain ⟨m, hm⟩ : ∃ m, k % y.length = m := ⟨_, rfl⟩
      rw [hm] at c0 em hml hx
      have hu := HYL.out (nthI y m) (by
        have : nthI y m = y[m] := by simp [nthI, hml]
        rw [this]; exact List.getElem_mem hml)
      unfold okU at hu
      rw [hx] at hwt hwr
      obtain ⟨b, hb0⟩ : ∃ b, nthI y m = b := ⟨_, rfl⟩
      rw [hb0] at c0 hwt hwr hu
      obtain ⟨x, hxx⟩ : ∃ x, b % 1001 = x := ⟨_, rfl⟩
      have hlm : (m : Int) < (y.length : Int) := by omega
      have wk : IntKind.i64.wrap (k : Int) = k := by rw [IntKind.wrap_i64]; omega
      have wm : IntKind.i64.wrap (m : Int) = m := by rw [IntKind.wrap_i64]; omega
      have wb : IntKind.i64.wrap b = b := by rw [IntKind.wrap_i64]; omega
      have wx : IntKind.i64.wrap x = x := by rw [IntKind.wrap_i64]; omega
      rw [hxx] at hwt hwr
      clear hx hy0 hAx hcx q2 hb0 hm
      obtain ⟨v', w6, hrun, hown', hb', hs', _⟩ := app_i64 hown x (by simp [wideL]; omega) hbr.out.size hbr.out wr.heap.size rfl
      rw [← hwt] at hown'
      have HO2 := Lib.hid hown'
      have HRUN := Lib.hid hrun
      have HB2 := Lib.hid hb'
      clear hown' hrun hb' hs' hwt hwr hown
      have lbx := bx.lt
      have bxc0 := bx.cell 0
      have bxc1 := bx.cell 1
      simp at bxc0 bxc1
      go_wp2_with (at_builtin; refine wpList_append_run rfl (.tmp 31) (.tmp 33) 40 _ rfl HRUN.out ?_)
      go_roundw
      case rel => exact ⟨k + 1, by omega, by go_num, HO2.out, HB2.out⟩
      case measure => simp [intOf]; omega
    have hlt' : ¬ (k : Int) < (N : Int) := by omega
    rw [List.take_of_length_le (by rw [wideL_len]; omega)] at hown
    obtain ⟨L, hL⟩ : ∃ L, wideL N y = L := ⟨_, rfl⟩
    rw [hL] at hown
    have HLE := Lib.hid hL
    have HLL := Lib.hid (show L.length = N by rw [← hL]; exact wideL_len N y)
    have HLR := Lib.hid (show ∀ v, v < N → 0 ≤ nthI L v ∧ nthI L v ≤ 1000 by rw [← hL]; exact fun v h => wideL_rng HYL.out h)
    obtain ⟨At, ct, rfl⟩ := own_slice hown
    clear hL hbr huy
    have lbx := bx.lt
    have bxc0 := bx.cell 0
    have bxc1 := bx.cell 1
    simp at bxc0 bxc1
    go_wp2_with fail
    clear lbx bxc0 bxc1
    generalize wr = WB at *
    obtain ⟨gxx, hgx⟩ : ∃ n, WB.heap.size = n := ⟨_, rfl⟩
    have xx : BK (WB.alloc (.cells #[.int .i64 N, .slice none 0 0] 24)) gxx #[.int .i64 N, .slice none 0 0] 24 := BK.new' _ _ _ gxx hgx
    have hD : Below WB.heap.size WB (WB.alloc (.cells #[.int .i64 N, .slice none 0 0] 24)) := Below.alloc (Below.refl _ _) (Nat.le_refl _) _
    have hxb : WB.heap.size ≤ gxx := by omega
    generalize WB.alloc (.cells #[.int .i64 N, .slice none 0 0] 24) = Wx at *
    try rw [hgx]
    clear hgx
    have htwo := TwoT.nil Wx WB.heap.size
    go_wp2_with fail
    go_loopw [10] (fun i wr => ∃ k : Nat, k ≤ ts.length ∧ i = .int .i64 k ∧ ∃ vx : Value, BK wr gxx #[.int .i64 N, vx] 24 ∧ TwoT wr WB.heap.size vx (.slice none 0 0) (wideT N y (ts.take k)) [] ∧ Below WB.heap.size WB wr) (fun i _ => ts.length - (intOf i).toNat)
    case atStart => exact ⟨0, Nat.zero_le _, rfl, _, xx, by simpa [wideT] using htwo, hD⟩
    case round =>
      clear xx htwo hD
      obtain ⟨k, hk, rfl, vx, xx, two, hD⟩ := hrel
      have hb := hD
      replace hC : Below n0 w wr := hC.trans (hb.mono (by have := hC.size; omega))
      replace hR := (RS.below hR hb).more hb.size
      replace bx := bx.below hb bx.lt
      replace rs := rs.below hb rs.lt
      replace hown := own_below hown hb
      clear hb
      by_cases hlt : k < ts.length
      case pos =>
        have hlt' : (k : Int) < (ts.length : Int) := by omega
        obtain ⟨Ax, cx, bb, off, hve, hAx, hcx⟩ := RT.cells hR
        obtain ⟨rfl, hbb⟩ := hAx (by omega)
        injection hve with q1 q2 q3
        subst q1 q3
        obtain ⟨c0, c1, c2, c3⟩ := hcx k hlt
        have htok := HO.out.tst _ (nthT_mem' hlt)
        obtain ⟨⟨o1, o2, lo, hi⟩, hqt⟩ : ∃ t, nthT ts k = t := ⟨_, rfl⟩
        have hwt := wideT_take (N := N) (y := y) hlt hqt
        rw [HLE.out] at hwt
        rw [hqt] at c0 c1 c2 c3 htok
        dsimp only at c0 c1 c2 c3 htok
        obtain ⟨k1, k2, k3, k4, _, k5, k6, k7⟩ := htok
        obtain ⟨p, rfl⟩ : ∃ p : Nat, o1 = p := ⟨o1.toNat, by omega⟩
        obtain ⟨q, rfl⟩ : ∃ p : Nat, o2 = p := ⟨o2.toNat, by omega⟩
        have hpN : p < N := by omega
        have hqN : q < N := by omega
        rw [Int.toNat_natCast, Int.toNat_natCast] at hwt
        have ra := HLR.out p hpN
        have rb := HLR.out q hqN
        obtain ⟨a, ha⟩ : ∃ x, nthI L p = x := ⟨_, rfl⟩
        obtain ⟨b, hb0⟩ : ∃ x, nthI L q = x := ⟨_, rfl⟩
        rw [ha] at ra hwt
        rw [hb0] at rb hwt
        obtain ⟨d, hd⟩ : ∃ d, a - b = d := ⟨_, rfl⟩
        rw [hd] at hwt
        have wd : IntKind.i64.wrap (a - b) = d := by rw [IntKind.wrap_i64]; omega
        have hll : (L.length : Int) = (N : Int) := by have := HLL.out; omega
        have f1 : (p : Int) < (N : Int) := by omega
        have f2 : (q : Int) < (N : Int) := by omega
        have f3 : (p : Int) < (L.length : Int) := by omega
        have f4 : (q : Int) < (L.length : Int) := by omega
        have f5 : p < L.length := by have := HLL.out; omega
        have f6 : q < L.length := by have := HLL.out; omega
        have HPA := Lib.hid ha
        have HPB := Lib.hid hb0
        clear hAx hcx q2 hqt k1 k2 k3 k4 k5 k7 ra rb ha hb0 hd
        have nxx := TwoT.lt two (Nat.le_refl _)
        rcases Int.lt_or_le d lo with g1 | g1
        case inl =>
          have g2 : d ≤ hi := by omega
          rw [show min lo d = d by omega, show max hi d = hi by omega] at hwt
          have HTX := Lib.hid hwt
          clear hwt k6
          have lbx := bx.lt
          have bxc0 := bx.cell 0
          have bxc1 := bx.cell 1
          simp at bxc0 bxc1
          go_upto_region 14 with fail
          clear lbx bxc0 bxc1
          clear c0 c1 c2 c3
          obtain ⟨m1, hm1⟩ : ∃ n, wr.heap.size = n := ⟨_, rfl⟩
          try rw [hm1]
          have hqbt : n0 ≤ m1 := by have := hC.size; omega
          have bt : BK (wr.alloc (.cells #[.int .i64 p, .int .i64 q, .int .i64 lo, .int .i64 hi] 56)) (m1) #[.int .i64 p, .int .i64 q, .int .i64 lo, .int .i64 hi] 56 := BK.new' _ _ _ (m1) hm1
          have hsbt : (wr.alloc (.cells #[.int .i64 p, .int .i64 q, .int .i64 lo, .int .i64 hi] 56)).heap.size = m1 + 1 := by simp [hm1]
          rw [hm1] at nxx
          have lgx : gxx < m1 := by have := xx.lt; omega
          skip
          replace hC : Below n0 w (wr.alloc (.cells #[.int .i64 p, .int .i64 q, .int .i64 lo, .int .i64 hi] 56)) := Below.alloc hC (by have := hC.size; omega) _
          replace hR := (RS.below hR (w' := (wr.alloc (.cells #[.int .i64 p, .int .i64 q, .int .i64 lo, .int .i64 hi] 56))) (Below.alloc (Below.refl _ _) (Nat.le_refl _) _)).more (B' := (wr.alloc (.cells #[.int .i64 p, .int .i64 q, .int .i64 lo, .int .i64 hi] 56)).heap.size) (by simp)
          replace bx := bx.alloc (.cells #[.int .i64 p, .int .i64 q, .int .i64 lo, .int .i64 hi] 56)
          replace rs := rs.alloc (.cells #[.int .i64 p, .int .i64 q, .int .i64 lo, .int .i64 hi] 56)
          replace hown := own_below hown (W' := (wr.alloc (.cells #[.int .i64 p, .int .i64 q, .int .i64 lo, .int .i64 hi] 56))) (Below.alloc (Below.refl _ _) (Nat.le_refl _) _)
          replace xx := xx.alloc (.cells #[.int .i64 p, .int .i64 q, .int .i64 lo, .int .i64 hi] 56)
          replace two := TwoT.below two (Y := (wr.alloc (.cells #[.int .i64 p, .int .i64 q, .int .i64 lo, .int .i64 hi] 56))) (Below.alloc (Below.refl _ _) (Nat.le_refl _) _)
          replace hD := hD.trans ((Below.alloc (Below.refl _ _) (Nat.le_refl _) _ : Below _ _ (wr.alloc (.cells #[.int .i64 p, .int .i64 q, .int .i64 lo, .int .i64 hi] 56))).mono hD.size)
          generalize (wr.alloc (.cells #[.int .i64 p, .int .i64 q, .int .i64 lo, .int .i64 hi] 56)) = Wbt at *
          clear hm1
          obtain ⟨Al, cl, bl, ol, hvl, hAl, hcl⟩ := RI.cells (OwnI.ri hown)
          obtain ⟨rfl, hbl⟩ := hAl (by have := HLL.out; omega)
          injection hvl with q4 q5 q6
          subst q4 q6
          have d0 := hcl p (by have := HLL.out; omega)
          have d1 := hcl q (by have := HLL.out; omega)
          rw [HPA.out] at d0
          rw [HPB.out] at d1
          clear hAl hcl q5
          have lbt := bt.lt
          have btc0 := bt.cell 0
          have btc1 := bt.cell 1
          have btc2 := bt.cell 2
          have btc3 := bt.cell 3
          simp at btc0 btc1 btc2 btc3
          go_quiet (fail)
          clear d0 d1
          have lxx := xx.lt
          have xxc0 := xx.cell 0
          have xxc1 := xx.cell 1
          simp at xxc0 xxc1
          go_upto_region 15 with fail
          refine wp_region_noPanic (plain_any [0, 1, 2, 3, 4, 5, 6, 7, 8, 9, 10, 11, 12, 13, 14, 15] (Below Wbt.heap.size Wbt) mixed ?_)
          (refine any_take 0 ?_ (by rfl) (by kernel_rfl) (fun _ _ _ _ _ hx => hx.elim) (.inl ⟨by rfl, ?_⟩) (by exact bel_of) ?_; rotate_left; (intro X hX; obtain ⟨r1, r2⟩ := Below.rules hX; clear hX; go_simp; rfl); simp only [List.getElem_toArray, List.getElem_cons_succ, List.getElem_cons_zero, Act.put, List.setIfInBounds_toArray, List.set_cons_succ, List.set_cons_zero])
          (refine any_take 1 ?_ (by rfl) (by kernel_rfl) (fun _ _ _ _ _ hx => hx.elim) (.inl ⟨by rfl, ?_⟩) (by exact bel_of) ?_; rotate_left; (intro X hX; obtain ⟨r1, r2⟩ := Below.rules hX; clear hX; go_simp; rfl); simp only [List.getElem_toArray, List.getElem_cons_succ, List.getElem_cons_zero, Act.put, List.setIfInBounds_toArray, List.set_cons_succ, List.set_cons_zero])
          (refine any_take 2 ?_ (by rfl) (by kernel_rfl) (fun _ _ _ _ _ hx => hx.elim) (.inl ⟨by rfl, ?_⟩) (by exact bel_of) ?_; rotate_left; (intro X hX; obtain ⟨r1, r2⟩ := Below.rules hX; clear hX; go_simp; rfl); simp only [List.getElem_toArray, List.getElem_cons_succ, List.getElem_cons_zero, Act.put, List.setIfInBounds_toArray, List.set_cons_succ, List.set_cons_zero])
          (refine any_take 3 ?_ (by rfl) (by kernel_rfl) (fun _ _ _ _ _ hx => hx.elim) (.inl ⟨by rfl, ?_⟩) (by exact bel_of) ?_; rotate_left; (intro X hX; obtain ⟨r1, r2⟩ := Below.rules hX; clear hX; go_simp; rfl); simp only [List.getElem_toArray, List.getElem_cons_succ, List.getElem_cons_zero, Act.put, List.setIfInBounds_toArray, List.set_cons_succ, List.set_cons_zero])
          (refine any_take 4 ?_ (by rfl) (by kernel_rfl) (fun _ _ _ _ _ hx => hx.elim) (.inl ⟨by rfl, ?_⟩) (by exact bel_of) ?_; rotate_left; (intro X hX; obtain ⟨r1, r2⟩ := Below.rules hX; clear hX; go_simp; rfl); simp only [List.getElem_toArray, List.getElem_cons_succ, List.getElem_cons_zero, Act.put, List.setIfInBounds_toArray, List.set_cons_succ, List.set_cons_zero])
          (refine any_take 5 ?_ (by rfl) (by kernel_rfl) (fun _ _ _ _ _ hx => hx.elim) (.inl ⟨by rfl, ?_⟩) (by exact bel_of) ?_; rotate_left; (intro X hX; obtain ⟨r1, r2⟩ := Below.rules hX; clear hX; go_simp; rfl); simp only [List.getElem_toArray, List.getElem_cons_succ, List.getElem_cons_zero, Act.put, List.setIfInBounds_toArray, List.set_cons_succ, List.set_cons_zero])
          (refine any_take 6 ?_ (by rfl) (by kernel_rfl) (fun _ _ _ _ _ hx => hx.elim) (.inl ⟨by rfl, ?_⟩) (by exact bel_of) ?_; rotate_left; (intro X hX; obtain ⟨r1, r2⟩ := Below.rules hX; clear hX; go_simp; rfl); simp only [List.getElem_toArray, List.getElem_cons_succ, List.getElem_cons_zero, Act.put, List.setIfInBounds_toArray, List.set_cons_succ, List.set_cons_zero])
          (refine any_take 7 ?_ (by rfl) (by kernel_rfl) (fun _ _ _ _ _ hx => hx.elim) (.inl ⟨by rfl, ?_⟩) (by exact bel_of) ?_; rotate_left; (intro X hX; obtain ⟨r1, r2⟩ := Below.rules hX; clear hX; go_simp; rfl); simp only [List.getElem_toArray, List.getElem_cons_succ, List.getElem_cons_zero, Act.put, List.setIfInBounds_toArray, List.set_cons_succ, List.set_cons_zero])
          (refine any_take 8 ?_ (by rfl) (by kernel_rfl) (fun _ _ _ _ _ hx => hx.elim) (.inl ⟨by rfl, ?_⟩) (by exact bel_of) ?_; rotate_left; (intro X hX; obtain ⟨r1, r2⟩ := Below.rules hX; clear hX; go_simp; rfl); simp only [List.getElem_toArray, List.getElem_cons_succ, List.getElem_cons_zero, Act.put, List.setIfInBounds_toArray, List.set_cons_succ, List.set_cons_zero])
          (refine any_take 9 ?_ (by rfl) (by kernel_rfl) (fun _ _ _ _ _ hx => hx.elim) (.inl ⟨by rfl, ?_⟩) (by exact bel_of) ?_; rotate_left; (intro X hX; obtain ⟨r1, r2⟩ := Below.rules hX; clear hX; go_simp; rfl); simp only [List.getElem_toArray, List.getElem_cons_succ, List.getElem_cons_zero, Act.put, List.setIfInBounds_toArray, List.set_cons_succ, List.set_cons_zero])
          (refine any_take 10 ?_ (by rfl) (by kernel_rfl) (fun _ _ _ _ _ hx => hx.elim) (.inl ⟨by rfl, ?_⟩) (by exact bel_of) ?_; rotate_left; (intro X hX; obtain ⟨r1, r2⟩ := Below.rules hX; clear hX; go_simp; rfl); simp only [List.getElem_toArray, List.getElem_cons_succ, List.getElem_cons_zero, Act.put, List.setIfInBounds_toArray, List.set_cons_succ, List.set_cons_zero])
          (refine any_take 11 ?_ (by rfl) (by kernel_rfl) (fun _ _ _ _ _ hx => hx.elim) (.inl ⟨by rfl, ?_⟩) (by exact bel_of) ?_; rotate_left; (intro X hX; obtain ⟨r1, r2⟩ := Below.rules hX; clear hX; go_simp; rfl); simp only [List.getElem_toArray, List.getElem_cons_succ, List.getElem_cons_zero, Act.put, List.setIfInBounds_toArray, List.set_cons_succ, List.set_cons_zero])
          (refine any_take 12 ?_ (by rfl) (by kernel_rfl) (fun _ _ _ _ _ hx => hx.elim) (.inl ⟨by rfl, ?_⟩) (by exact bel_of) ?_; rotate_left; (intro X hX; obtain ⟨r1, r2⟩ := Below.rules hX; clear hX; go_simp; rfl); simp only [List.getElem_toArray, List.getElem_cons_succ, List.getElem_cons_zero, Act.put, List.setIfInBounds_toArray, List.set_cons_succ, List.set_cons_zero])
          (refine any_take 13 ?_ (by rfl) (by kernel_rfl) (fun _ _ _ _ _ hx => hx.elim) (.inl ⟨by rfl, ?_⟩) (by exact bel_of) ?_; rotate_left; (intro X hX; obtain ⟨r1, r2⟩ := Below.rules hX; clear hX; go_simp; rfl); simp only [List.getElem_toArray, List.getElem_cons_succ, List.getElem_cons_zero, Act.put, List.setIfInBounds_toArray, List.set_cons_succ, List.set_cons_zero])
          (refine any_take 14 ?_ (by rfl) (by kernel_rfl) (fun _ _ _ _ _ hx => hx.elim) (.inl ⟨by rfl, ?_⟩) (by exact bel_of) ?_; rotate_left; (intro X hX; obtain ⟨r1, r2⟩ := Below.rules hX; clear hX; go_simp; rfl); simp only [List.getElem_toArray, List.getElem_cons_succ, List.getElem_cons_zero, Act.put, List.setIfInBounds_toArray, List.set_cons_succ, List.set_cons_zero])
          (refine any_take 15 ?_ (by rfl) (by kernel_rfl) (fun _ _ _ _ _ hx => hx.elim) (.inl ⟨by rfl, ?_⟩) (by exact bel_of) ?_; rotate_left; (intro X hX; obtain ⟨r1, r2⟩ := Below.rules hX; clear hX; go_simp; rfl); simp only [List.getElem_toArray, List.getElem_cons_succ, List.getElem_cons_zero, Act.put, List.setIfInBounds_toArray, List.set_cons_succ, List.set_cons_zero])
          have hd0p : Below Wbt.heap.size Wbt (Wbt.drewN (nq + 1)) := by exact bel_of
          refine any_run1 (i := 16) (by kernel_rfl) (by rfl) (by kernel_rfl) ?_
          intro K3 hK3
          go_wp2_with fail
          refine (test_any p q d hi _).mono ?_
          rintro e Vp ⟨rfl, hb1⟩
          unfold tV
          have hb01 : Below Wbt.heap.size Wbt Vp := hd0p.trans (hb1.mono hd0p.size)
          refine hK3 _ _ (fun _ => hb01) ?_
          clear hK3 K3 hb1
          refine any_run1 (i := 17) (by kernel_rfl) (by rfl) (by kernel_rfl) ?_
          intro K3 hK3
          go_wp2_with fail
          obtain ⟨gv, hgv⟩ : ∃ n, Vp.heap.size = n := ⟨_, rfl⟩
          have bX : BK (Vp.alloc (.cells #[.int .i64 p, .int .i64 q, .int .i64 d, .int .i64 hi] 56)) gv #[.int .i64 p, .int .i64 q, .int .i64 d, .int .i64 hi] 56 := BK.new' _ _ _ gv hgv
          have hbX : Below Vp.heap.size Vp (Vp.alloc (.cells #[.int .i64 p, .int .i64 q, .int .i64 d, .int .i64 hi] 56)) := Below.alloc (Below.refl _ _) (Nat.le_refl _) _
          have hb0X := hb01.trans (hbX.mono hb01.size)
          refine hK3 _ _ (fun _ => hb0X) ?_
          clear hK3 K3
          try rw [hgv]
          have hbase : WB.heap.size ≤ (Vp.alloc (.cells #[.int .i64 p, .int .i64 q, .int .i64 d, .int .i64 hi] 56)).heap.size := by have := hD.size; have := hb0X.size; omega
          obtain ⟨vp, w9p, hrun, two9, hbel, hsz9, hkeep⟩ := two_grow (x := ⟨p, q, d, hi⟩) (TwoT.below two hb0X) bX (by first | (simp [wideT]; done) | (simp [wideT]; omega)) hbase
          obtain ⟨Ap, np, cp, hvp⟩ : ∃ A n c, vp = Value.slice A n c := by
            obtain ⟨A, c, h⟩ := own_slice two9.1
            exact ⟨A, _, c, h⟩
          subst hvp
          have xx9 := hkeep _ _ _ (xx.below hb0X xx.lt) (TwoT.ne (TwoT.below two hb0X) (xx.below hb0X xx.lt))
          have bt9 := hkeep _ _ _ (bt.below hb0X bt.lt) nxx
          have hD9 : Below WB.heap.size WB w9p := hbel _ (hD.trans (hb0X.mono hD.size))
          have HRUN := Lib.hid hrun
          clear hgv hrun hbel hkeep bX hb0X hbX hb01 hd0p hsz9 hbase
          generalize Vp.alloc (.cells #[.int .i64 p, .int .i64 q, .int .i64 d, .int .i64 hi] 56) = VXp at *
          refine any_run1 (i := 18) (by kernel_rfl) (by rfl) (by kernel_rfl) ?_
          intro K3 hK3
          refine wp_append_run (.tmp 62) (.tmp 78) 22 _ rfl HRUN.out ?_
          refine hK3 _ _ (fun hx => (Bool.false_ne_true (hx.symm.trans (by kernel_rfl))).elim) ?_
          clear hK3 K3 HRUN
          simp only [List.getElem_toArray, List.getElem_cons_succ, List.getElem_cons_zero, Act.put, List.setIfInBounds_toArray, List.set_cons_succ, List.set_cons_zero]
          clear lbt btc0 btc1 btc2 btc3
          clear lxx xxc0 xxc1
          have lb := xx9.lt
          have y0 := xx9.cell 0
          have y1 := xx9.cell 1
          have f1 := xx9.frozen 1
          simp at y0 y1
          refine any_run1 (i := 19) (by kernel_rfl) (by rfl) (by kernel_rfl) ?_
          intro K3 hK3
          go_wp2_with fail
          refine hK3 _ _ (fun hx => (Bool.false_ne_true (hx.symm.trans (by kernel_rfl))).elim) ?_
          clear hK3 K3
          refine any_run1 (i := 20) (by kernel_rfl) (by rfl) (by kernel_rfl) ?_
          intro K3 hK3
          go_wp2_with fail
          refine hK3 _ _ (fun hx => (Bool.false_ne_true (hx.symm.trans (by kernel_rfl))).elim) ?_
          clear hK3 K3
          refine any_done (by kernel_rfl) (NoPanic.normal ?_)
          clear y0 y1 f1 lb
          have xxA : BK (w9p.setCell ⟨gxx, 1, none⟩ (.slice Ap np cp)) gxx #[.int .i64 N, .slice Ap np cp] 24 := by simpa using xx9.set 1 (.slice Ap np cp)
          have btA := bt9.far (p := ⟨gxx, 1, none⟩) (by show m1 ≠ gxx; omega) (.slice Ap np cp)
          have twoA := TwoT.far two9 (p := ⟨gxx, 1, none⟩) xx9 (.slice Ap np cp)
          have hDA : Below WB.heap.size WB (w9p.setCell ⟨gxx, 1, none⟩ (.slice Ap np cp)) := Below.setCell hD9 (by show WB.heap.size ≤ gxx; omega) _
          clear xx9 bt9 two9 hD9 xx bt two hD
          generalize w9p.setCell ⟨gxx, 1, none⟩ (.slice Ap np cp) = WAp at *
          have xx := xxA
          have bt := btA
          have two2 := twoA
          have hD := hDA
          clear xxA btA twoA hDA
          go_wp2_with fail
          go_roundw
          case rel => exact ⟨k + 1, by omega, by go_num, _, xx, by rw [HTX.out]; exact two2, hD⟩
          case measure => simp [intOf]; omega
        rcases Int.lt_or_le hi d with g2 | g2
        case inl =>
          rw [show min lo d = lo by omega, show max hi d = d by omega] at hwt
          have HTX := Lib.hid hwt
          clear hwt k6
          have lbx := bx.lt
          have bxc0 := bx.cell 0
          have bxc1 := bx.cell 1
          simp at bxc0 bxc1
          go_upto_region 14 with fail
          clear lbx bxc0 bxc1
          clear c0 c1 c2 c3
          obtain ⟨m2, hm2⟩ : ∃ n, wr.heap.size = n := ⟨_, rfl⟩
          try rw [hm2]
          have hqbt : n0 ≤ m2 := by have := hC.size; omega
          have bt : BK (wr.alloc (.cells #[.int .i64 p, .int .i64 q, .int .i64 lo, .int .i64 hi] 56)) (m2) #[.int .i64 p, .int .i64 q, .int .i64 lo, .int .i64 hi] 56 := BK.new' _ _ _ (m2) hm2
          have hsbt : (wr.alloc (.cells #[.int .i64 p, .int .i64 q, .int .i64 lo, .int .i64 hi] 56)).heap.size = m2 + 1 := by simp [hm2]
          rw [hm2] at nxx
          have lgx : gxx < m2 := by have := xx.lt; omega
          skip
          replace hC : Below n0 w (wr.alloc (.cells #[.int .i64 p, .int .i64 q, .int .i64 lo, .int .i64 hi] 56)) := Below.alloc hC (by have := hC.size; omega) _
          replace hR := (RS.below hR (w' := (wr.alloc (.cells #[.int .i64 p, .int .i64 q, .int .i64 lo, .int .i64 hi] 56))) (Below.alloc (Below.refl _ _) (Nat.le_refl _) _)).more (B' := (wr.alloc (.cells #[.int .i64 p, .int .i64 q, .int .i64 lo, .int .i64 hi] 56)).heap.size) (by simp)
          replace bx := bx.alloc (.cells #[.int .i64 p, .int .i64 q, .int .i64 lo, .int .i64 hi] 56)
          replace rs := rs.alloc (.cells #[.int .i64 p, .int .i64 q, .int .i64 lo, .int .i64 hi] 56)
          replace hown := own_below hown (W' := (wr.alloc (.cells #[.int .i64 p, .int .i64 q, .int .i64 lo, .int .i64 hi] 56))) (Below.alloc (Below.refl _ _) (Nat.le_refl _) _)
          replace xx := xx.alloc (.cells #[.int .i64 p, .int .i64 q, .int .i64 lo, .int .i64 hi] 56)
          replace two := TwoT.below two (Y := (wr.alloc (.cells #[.int .i64 p, .int .i64 q, .int .i64 lo, .int .i64 hi] 56))) (Below.alloc (Below.refl _ _) (Nat.le_refl _) _)
          replace hD := hD.trans ((Below.alloc (Below.refl _ _) (Nat.le_refl _) _ : Below _ _ (wr.alloc (.cells #[.int .i64 p, .int .i64 q, .int .i64 lo, .int .i64 hi] 56))).mono hD.size)
          generalize (wr.alloc (.cells #[.int .i64 p, .int .i64 q, .int .i64 lo, .int .i64 hi] 56)) = Wbt at *
          clear hm2
          obtain ⟨Al, cl, bl, ol, hvl, hAl, hcl⟩ := RI.cells (OwnI.ri hown)
          obtain ⟨rfl, hbl⟩ := hAl (by have := HLL.out; omega)
          injection hvl with q4 q5 q6
          subst q4 q6
          have d0 := hcl p (by have := HLL.out; omega)
          have d1 := hcl q (by have := HLL.out; omega)
          rw [HPA.out] at d0
          rw [HPB.out] at d1
          clear hAl hcl q5
          have lbt := bt.lt
          have btc0 := bt.cell 0
          have btc1 := bt.cell 1
          have btc2 := bt.cell 2
          have btc3 := bt.cell 3
          simp at btc0 btc1 btc2 btc3
          go_quiet (fail)
          clear d0 d1
          have lxx := xx.lt
          have xxc0 := xx.cell 0
          have xxc1 := xx.cell 1
          simp at xxc0 xxc1
          go_upto_region 15 with fail
          refine wp_region_noPanic (plain_any [0, 1, 2, 3, 4, 5, 6, 7, 8, 9, 10, 11, 12, 13, 14, 15] (Below Wbt.heap.size Wbt) mixed ?_)
          (refine any_take 0 ?_ (by rfl) (by kernel_rfl) (fun _ _ _ _ _ hx => hx.elim) (.inl ⟨by rfl, ?_⟩) (by exact bel_of) ?_; rotate_left; (intro X hX; obtain ⟨r1, r2⟩ := Below.rules hX; clear hX; go_simp; rfl); simp only [List.getElem_toArray, List.getElem_cons_succ, List.getElem_cons_zero, Act.put, List.setIfInBounds_toArray, List.set_cons_succ, List.set_cons_zero])
          (refine any_take 1 ?_ (by rfl) (by kernel_rfl) (fun _ _ _ _ _ hx => hx.elim) (.inl ⟨by rfl, ?_⟩) (by exact bel_of) ?_; rotate_left; (intro X hX; obtain ⟨r1, r2⟩ := Below.rules hX; clear hX; go_simp; rfl); simp only [List.getElem_toArray, List.getElem_cons_succ, List.getElem_cons_zero, Act.put, List.setIfInBounds_toArray, List.set_cons_succ, List.set_cons_zero])
          (refine any_take 2 ?_ (by rfl) (by kernel_rfl) (fun _ _ _ _ _ hx => hx.elim) (.inl ⟨by rfl, ?_⟩) (by exact bel_of) ?_; rotate_left; (intro X hX; obtain ⟨r1, r2⟩ := Below.rules hX; clear hX; go_simp; rfl); simp only [List.getElem_toArray, List.getElem_cons_succ, List.getElem_cons_zero, Act.put, List.setIfInBounds_toArray, List.set_cons_succ, List.set_cons_zero])
          (refine any_take 3 ?_ (by rfl) (by kernel_rfl) (fun _ _ _ _ _ hx => hx.elim) (.inl ⟨by rfl, ?_⟩) (by exact bel_of) ?_; rotate_left; (intro X hX; obtain ⟨r1, r2⟩ := Below.rules hX; clear hX; go_simp; rfl); simp only [List.getElem_toArray, List.getElem_cons_succ, List.getElem_cons_zero, Act.put, List.setIfInBounds_toArray, List.set_cons_succ, List.set_cons_zero])
          (refine any_take 4 ?_ (by rfl) (by kernel_rfl) (fun _ _ _ _ _ hx => hx.elim) (.inl ⟨by rfl, ?_⟩) (by exact bel_of) ?_; rotate_left; (intro X hX; obtain ⟨r1, r2⟩ := Below.rules hX; clear hX; go_simp; rfl); simp only [List.getElem_toArray, List.getElem_cons_succ, List.getElem_cons_zero, Act.put, List.setIfInBounds_toArray, List.set_cons_succ, List.set_cons_zero])
          (refine any_take 5 ?_ (by rfl) (by kernel_rfl) (fun _ _ _ _ _ hx => hx.elim) (.inl ⟨by rfl, ?_⟩) (by exact bel_of) ?_; rotate_left; (intro X hX; obtain ⟨r1, r2⟩ := Below.rules hX; clear hX; go_simp; rfl); simp only [List.getElem_toArray, List.getElem_cons_succ, List.getElem_cons_zero, Act.put, List.setIfInBounds_toArray, List.set_cons_succ, List.set_cons_zero])
          (refine any_take 6 ?_ (by rfl) (by kernel_rfl) (fun _ _ _ _ _ hx => hx.elim) (.inl ⟨by rfl, ?_⟩) (by exact bel_of) ?_; rotate_left; (intro X hX; obtain ⟨r1, r2⟩ := Below.rules hX; clear hX; go_simp; rfl); simp only [List.getElem_toArray, List.getElem_cons_succ, List.getElem_cons_zero, Act.put, List.setIfInBounds_toArray, List.set_cons_succ, List.set_cons_zero])
          (refine any_take 7 ?_ (by rfl) (by kernel_rfl) (fun _ _ _ _ _ hx => hx.elim) (.inl ⟨by rfl, ?_⟩) (by exact bel_of) ?_; rotate_left; (intro X hX; obtain ⟨r1, r2⟩ := Below.rules hX; clear hX; go_simp; rfl); simp only [List.getElem_toArray, List.getElem_cons_succ, List.getElem_cons_zero, Act.put, List.setIfInBounds_toArray, List.set_cons_succ, List.set_cons_zero])
          (refine any_take 8 ?_ (by rfl) (by kernel_rfl) (fun _ _ _ _ _ hx => hx.elim) (.inl ⟨by rfl, ?_⟩) (by exact bel_of) ?_; rotate_left; (intro X hX; obtain ⟨r1, r2⟩ := Below.rules hX; clear hX; go_simp; rfl); simp only [List.getElem_toArray, List.getElem_cons_succ, List.getElem_cons_zero, Act.put, List.setIfInBounds_toArray, List.set_cons_succ, List.set_cons_zero])
          (refine any_take 9 ?_ (by rfl) (by kernel_rfl) (fun _ _ _ _ _ hx => hx.elim) (.inl ⟨by rfl, ?_⟩) (by exact bel_of) ?_; rotate_left; (intro X hX; obtain ⟨r1, r2⟩ := Below.rules hX; clear hX; go_simp; rfl); simp only [List.getElem_toArray, List.getElem_cons_succ, List.getElem_cons_zero, Act.put, List.setIfInBounds_toArray, List.set_cons_succ, List.set_cons_zero])
          (refine any_take 10 ?_ (by rfl) (by kernel_rfl) (fun _ _ _ _ _ hx => hx.elim) (.inl ⟨by rfl, ?_⟩) (by exact bel_of) ?_; rotate_left; (intro X hX; obtain ⟨r1, r2⟩ := Below.rules hX; clear hX; go_simp; rfl); simp only [List.getElem_toArray, List.getElem_cons_succ, List.getElem_cons_zero, Act.put, List.setIfInBounds_toArray, List.set_cons_succ, List.set_cons_zero])
          (refine any_take 11 ?_ (by rfl) (by kernel_rfl) (fun _ _ _ _ _ hx => hx.elim) (.inl ⟨by rfl, ?_⟩) (by exact bel_of) ?_; rotate_left; (intro X hX; obtain ⟨r1, r2⟩ := Below.rules hX; clear hX; go_simp; rfl); simp only [List.getElem_toArray, List.getElem_cons_succ, List.getElem_cons_zero, Act.put, List.setIfInBounds_toArray, List.set_cons_succ, List.set_cons_zero])
          (refine any_take 12 ?_ (by rfl) (by kernel_rfl) (fun _ _ _ _ _ hx => hx.elim) (.inl ⟨by rfl, ?_⟩) (by exact bel_of) ?_; rotate_left; (intro X hX; obtain ⟨r1, r2⟩ := Below.rules hX; clear hX; go_simp; rfl); simp only [List.getElem_toArray, List.getElem_cons_succ, List.getElem_cons_zero, Act.put, List.setIfInBounds_toArray, List.set_cons_succ, List.set_cons_zero])
          (refine any_take 13 ?_ (by rfl) (by kernel_rfl) (fun _ _ _ _ _ hx => hx.elim) (.inl ⟨by rfl, ?_⟩) (by exact bel_of) ?_; rotate_left; (intro X hX; obtain ⟨r1, r2⟩ := Below.rules hX; clear hX; go_simp; rfl); simp only [List.getElem_toArray, List.getElem_cons_succ, List.getElem_cons_zero, Act.put, List.setIfInBounds_toArray, List.set_cons_succ, List.set_cons_zero])
          (refine any_take 14 ?_ (by rfl) (by kernel_rfl) (fun _ _ _ _ _ hx => hx.elim) (.inl ⟨by rfl, ?_⟩) (by exact bel_of) ?_; rotate_left; (intro X hX; obtain ⟨r1, r2⟩ := Below.rules hX; clear hX; go_simp; rfl); simp only [List.getElem_toArray, List.getElem_cons_succ, List.getElem_cons_zero, Act.put, List.setIfInBounds_toArray, List.set_cons_succ, List.set_cons_zero])
          (refine any_take 15 ?_ (by rfl) (by kernel_rfl) (fun _ _ _ _ _ hx => hx.elim) (.inl ⟨by rfl, ?_⟩) (by exact bel_of) ?_; rotate_left; (intro X hX; obtain ⟨r1, r2⟩ := Below.rules hX; clear hX; go_simp; rfl); simp only [List.getElem_toArray, List.getElem_cons_succ, List.getElem_cons_zero, Act.put, List.setIfInBounds_toArray, List.set_cons_succ, List.set_cons_zero])
          have hd0p : Below Wbt.heap.size Wbt (Wbt.drewN (nq + 1)) := by exact bel_of
          refine any_run1 (i := 16) (by kernel_rfl) (by rfl) (by kernel_rfl) ?_
          intro K3 hK3
          go_wp2_with fail
          refine (test_any p q lo d _).mono ?_
          rintro e Vp ⟨rfl, hb1⟩
          unfold tV
          have hb01 : Below Wbt.heap.size Wbt Vp := hd0p.trans (hb1.mono hd0p.size)
          refine hK3 _ _ (fun _ => hb01) ?_
          clear hK3 K3 hb1
          refine any_run1 (i := 17) (by kernel_rfl) (by rfl) (by kernel_rfl) ?_
          intro K3 hK3
          go_wp2_with fail
          obtain ⟨gv, hgv⟩ : ∃ n, Vp.heap.size = n := ⟨_, rfl⟩
          have bX : BK (Vp.alloc (.cells #[.int .i64 p, .int .i64 q, .int .i64 lo, .int .i64 d] 56)) gv #[.int .i64 p, .int .i64 q, .int .i64 lo, .int .i64 d] 56 := BK.new' _ _ _ gv hgv
          have hbX : Below Vp.heap.size Vp (Vp.alloc (.cells #[.int .i64 p, .int .i64 q, .int .i64 lo, .int .i64 d] 56)) := Below.alloc (Below.refl _ _) (Nat.le_refl _) _
          have hb0X := hb01.trans (hbX.mono hb01.size)
          refine hK3 _ _ (fun _ => hb0X) ?_
          clear hK3 K3
          try rw [hgv]
          have hbase : WB.heap.size ≤ (Vp.alloc (.cells #[.int .i64 p, .int .i64 q, .int .i64 lo, .int .i64 d] 56)).heap.size := by have := hD.size; have := hb0X.size; omega
          obtain ⟨vp, w9p, hrun, two9, hbel, hsz9, hkeep⟩ := two_grow (x := ⟨p, q, lo, d⟩) (TwoT.below two hb0X) bX (by first | (simp [wideT]; done) | (simp [wideT]; omega)) hbase
          obtain ⟨Ap, np, cp, hvp⟩ : ∃ A n c, vp = Value.slice A n c := by
            obtain ⟨A, c, h⟩ := own_slice two9.1
            exact ⟨A, _, c, h⟩
          subst hvp
          have xx9 := hkeep _ _ _ (xx.below hb0X xx.lt) (TwoT.ne (TwoT.below two hb0X) (xx.below hb0X xx.lt))
          have bt9 := hkeep _ _ _ (bt.below hb0X bt.lt) nxx
          have hD9 : Below WB.heap.size WB w9p := hbel _ (hD.trans (hb0X.mono hD.size))
          have HRUN := Lib.hid hrun
          clear hgv hrun hbel hkeep bX hb0X hbX hb01 hd0p hsz9 hbase
          generalize Vp.alloc (.cells #[.int .i64 p, .int .i64 q, .int .i64 lo, .int .i64 d] 56) = VXp at *
          refine any_run1 (i := 18) (by kernel_rfl) (by rfl) (by kernel_rfl) ?_
          intro K3 hK3
          refine wp_append_run (.tmp 62) (.tmp 78) 22 _ rfl HRUN.out ?_
          refine hK3 _ _ (fun hx => (Bool.false_ne_true (hx.symm.trans (by kernel_rfl))).elim) ?_
          clear hK3 K3 HRUN
          simp only [List.getElem_toArray, List.getElem_cons_succ, List.getElem_cons_zero, Act.put, List.setIfInBounds_toArray, List.set_cons_succ, List.set_cons_zero]
          clear lbt btc0 btc1 btc2 btc3
          clear lxx xxc0 xxc1
          have lb := xx9.lt
          have y0 := xx9.cell 0
          have y1 := xx9.cell 1
          have f1 := xx9.frozen 1
          simp at y0 y1
          refine any_run1 (i := 19) (by kernel_rfl) (by rfl) (by kernel_rfl) ?_
          intro K3 hK3
          go_wp2_with fail
          refine hK3 _ _ (fun hx => (Bool.false_ne_true (hx.symm.trans (by kernel_rfl))).elim) ?_
          clear hK3 K3
          refine any_run1 (i := 20) (by kernel_rfl) (by rfl) (by kernel_rfl) ?_
          intro K3 hK3
          go_wp2_with fail
          refine hK3 _ _ (fun hx => (Bool.false_ne_true (hx.symm.trans (by kernel_rfl))).elim) ?_
          clear hK3 K3
          refine any_done (by kernel_rfl) (NoPanic.normal ?_)
          clear y0 y1 f1 lb
          have xxA : BK (w9p.setCell ⟨gxx, 1, none⟩ (.slice Ap np cp)) gxx #[.int .i64 N, .slice Ap np cp] 24 := by simpa using xx9.set 1 (.slice Ap np cp)
          have btA := bt9.far (p := ⟨gxx, 1, none⟩) (by show m2 ≠ gxx; omega) (.slice Ap np cp)
          have twoA := TwoT.far two9 (p := ⟨gxx, 1, none⟩) xx9 (.slice Ap np cp)
          have hDA : Below WB.heap.size WB (w9p.setCell ⟨gxx, 1, none⟩ (.slice Ap np cp)) := Below.setCell hD9 (by show WB.heap.size ≤ gxx; omega) _
          clear xx9 bt9 two9 hD9 xx bt two hD
          generalize w9p.setCell ⟨gxx, 1, none⟩ (.slice Ap np cp) = WAp at *
          have xx := xxA
          have bt := btA
          have two2 := twoA
          have hD := hDA
          clear xxA btA twoA hDA
          go_wp2_with fail
          go_roundw
          case rel => exact ⟨k + 1, by omega, by go_num, _, xx, by rw [HTX.out]; exact two2, hD⟩
          case measure => simp [intOf]; omega
        rw [show min lo d = lo by omega, show max hi d = hi by omega] at hwt
        have HTX := Lib.hid hwt
        clear hwt k6
        have lbx := bx.lt
        have bxc0 := bx.cell 0
        have bxc1 := bx.cell 1
        simp at bxc0 bxc1
        go_upto_region 14 with fail
        clear lbx bxc0 bxc1
        clear c0 c1 c2 c3
        obtain ⟨m3, hm3⟩ : ∃ n, wr.heap.size = n := ⟨_, rfl⟩
        try rw [hm3]
        have hqbt : n0 ≤ m3 := by have := hC.size; omega
        have bt : BK (wr.alloc (.cells #[.int .i64 p, .int .i64 q, .int .i64 lo, .int .i64 hi] 56)) (m3) #[.int .i64 p, .int .i64 q, .int .i64 lo, .int .i64 hi] 56 := BK.new' _ _ _ (m3) hm3
        have hsbt : (wr.alloc (.cells #[.int .i64 p, .int .i64 q, .int .i64 lo, .int .i64 hi] 56)).heap.size = m3 + 1 := by simp [hm3]
        rw [hm3] at nxx
        have lgx : gxx < m3 := by have := xx.lt; omega
        skip
        replace hC : Below n0 w (wr.alloc (.cells #[.int .i64 p, .int .i64 q, .int .i64 lo, .int .i64 hi] 56)) := Below.alloc hC (by have := hC.size; omega) _
        replace hR := (RS.below hR (w' := (wr.alloc (.cells #[.int .i64 p, .int .i64 q, .int .i64 lo, .int .i64 hi] 56))) (Below.alloc (Below.refl _ _) (Nat.le_refl _) _)).more (B' := (wr.alloc (.cells #[.int .i64 p, .int .i64 q, .int .i64 lo, .int .i64 hi] 56)).heap.size) (by simp)
        replace bx := bx.alloc (.cells #[.int .i64 p, .int .i64 q, .int .i64 lo, .int .i64 hi] 56)
        replace rs := rs.alloc (.cells #[.int .i64 p, .int .i64 q, .int .i64 lo, .int .i64 hi] 56)
        replace hown := own_below hown (W' := (wr.alloc (.cells #[.int .i64 p, .int .i64 q, .int .i64 lo, .int .i64 hi] 56))) (Below.alloc (Below.refl _ _) (Nat.le_refl _) _)
        replace xx := xx.alloc (.cells #[.int .i64 p, .int .i64 q, .int .i64 lo, .int .i64 hi] 56)
        replace two := TwoT.below two (Y := (wr.alloc (.cells #[.int .i64 p, .int .i64 q, .int .i64 lo, .int .i64 hi] 56))) (Below.alloc (Below.refl _ _) (Nat.le_refl _) _)
        replace hD := hD.trans ((Below.alloc (Below.refl _ _) (Nat.le_refl _) _ : Below _ _ (wr.alloc (.cells #[.int .i64 p, .int .i64 q, .int .i64 lo, .int .i64 hi] 56))).mono hD.size)
        generalize (wr.alloc (.cells #[.int .i64 p, .int .i64 q, .int .i64 lo, .int .i64 hi] 56)) = Wbt at *
        clear hm3
        obtain ⟨Al, cl, bl, ol, hvl, hAl, hcl⟩ := RI.cells (OwnI.ri hown)
        obtain ⟨rfl, hbl⟩ := hAl (by have := HLL.out; omega)
        injection hvl with q4 q5 q6
        subst q4 q6
        have d0 := hcl p (by have := HLL.out; omega)
        have d1 := hcl q (by have := HLL.out; omega)
        rw [HPA.out] at d0
        rw [HPB.out] at d1
        clear hAl hcl q5
        have lbt := bt.lt
        have btc0 := bt.cell 0
        have btc1 := bt.cell 1
        have btc2 := bt.cell 2
        have btc3 := bt.cell 3
        simp at btc0 btc1 btc2 btc3
        go_quiet (fail)
        clear d0 d1
        have lxx := xx.lt
        have xxc0 := xx.cell 0
        have xxc1 := xx.cell 1
        simp at xxc0 xxc1
        go_upto_region 15 with fail
        refine wp_region_noPanic (plain_any [0, 1, 2, 3, 4, 5, 6, 7, 8, 9, 10, 11, 12, 13, 14, 15] (Below Wbt.heap.size Wbt) mixed ?_)
        (refine any_take 0 ?_ (by rfl) (by kernel_rfl) (fun _ _ _ _ _ hx => hx.elim) (.inl ⟨by rfl, ?_⟩) (by exact bel_of) ?_; rotate_left; (intro X hX; obtain ⟨r1, r2⟩ := Below.rules hX; clear hX; go_simp; rfl); simp only [List.getElem_toArray, List.getElem_cons_succ, List.getElem_cons_zero, Act.put, List.setIfInBounds_toArray, List.set_cons_succ, List.set_cons_zero])
        (refine any_take 1 ?_ (by rfl) (by kernel_rfl) (fun _ _ _ _ _ hx => hx.elim) (.inl ⟨by rfl, ?_⟩) (by exact bel_of) ?_; rotate_left; (intro X hX; obtain ⟨r1, r2⟩ := Below.rules hX; clear hX; go_simp; rfl); simp only [List.getElem_toArray, List.getElem_cons_succ, List.getElem_cons_zero, Act.put, List.setIfInBounds_toArray, List.set_cons_succ, List.set_cons_zero])
        (refine any_take 2 ?_ (by rfl) (by kernel_rfl) (fun _ _ _ _ _ hx => hx.elim) (.inl ⟨by rfl, ?_⟩) (by exact bel_of) ?_; rotate_left; (intro X hX; obtain ⟨r1, r2⟩ := Below.rules hX; clear hX; go_simp; rfl); simp only [List.getElem_toArray, List.getElem_cons_succ, List.getElem_cons_zero, Act.put, List.setIfInBounds_toArray, List.set_cons_succ, List.set_cons_zero])
        (refine any_take 3 ?_ (by rfl) (by kernel_rfl) (fun _ _ _ _ _ hx => hx.elim) (.inl ⟨by rfl, ?_⟩) (by exact bel_of) ?_; rotate_left; (intro X hX; obtain ⟨r1, r2⟩ := Below.rules hX; clear hX; go_simp; rfl); simp only [List.getElem_toArray, List.getElem_cons_succ, List.getElem_cons_zero, Act.put, List.setIfInBounds_toArray, List.set_cons_succ, List.set_cons_zero])
        (refine any_take 4 ?_ (by rfl) (by kernel_rfl) (fun _ _ _ _ _ hx => hx.elim) (.inl ⟨by rfl, ?_⟩) (by exact bel_of) ?_; rotate_left; (intro X hX; obtain ⟨r1, r2⟩ := Below.rules hX; clear hX; go_simp; rfl); simp only [List.getElem_toArray, List.getElem_cons_succ, List.getElem_cons_zero, Act.put, List.setIfInBounds_toArray, List.set_cons_succ, List.set_cons_zero])
        (refine any_take 5 ?_ (by rfl) (by kernel_rfl) (fun _ _ _ _ _ hx => hx.elim) (.inl ⟨by rfl, ?_⟩) (by exact bel_of) ?_; rotate_left; (intro X hX; obtain ⟨r1, r2⟩ := Below.rules hX; clear hX; go_simp; rfl); simp only [List.getElem_toArray, List.getElem_cons_succ, List.getElem_cons_zero, Act.put, List.setIfInBounds_toArray, List.set_cons_succ, List.set_cons_zero])
        (refine any_take 6 ?_ (by rfl) (by kernel_rfl) (fun _ _ _ _ _ hx => hx.elim) (.inl ⟨by rfl, ?_⟩) (by exact bel_of) ?_; rotate_left; (intro X hX; obtain ⟨r1, r2⟩ := Below.rules hX; clear hX; go_simp; rfl); simp only [List.getElem_toArray, List.getElem_cons_succ, List.getElem_cons_zero, Act.put, List.setIfInBounds_toArray, List.set_cons_succ, List.set_cons_zero])
        (refine any_take 7 ?_ (by rfl) (by kernel_rfl) (fun _ _ _ _ _ hx => hx.elim) (.inl ⟨by rfl, ?_⟩) (by exact bel_of) ?_; rotate_left; (intro X hX; obtain ⟨r1, r2⟩ := Below.rules hX; clear hX; go_simp; rfl); simp only [List.getElem_toArray, List.getElem_cons_succ, List.getElem_cons_zero, Act.put, List.setIfInBounds_toArray, List.set_cons_succ, List.set_cons_zero])
        (refine any_take 8 ?_ (by rfl) (by kernel_rfl) (fun _ _ _ _ _ hx => hx.elim) (.inl ⟨by rfl, ?_⟩) (by exact bel_of) ?_; rotate_left; (intro X hX; obtain ⟨r1, r2⟩ := Below.rules hX; clear hX; go_simp; rfl); simp only [List.getElem_toArray, List.getElem_cons_succ, List.getElem_cons_zero, Act.put, List.setIfInBounds_toArray, List.set_cons_succ, List.set_cons_zero])
        (refine any_take 9 ?_ (by rfl) (by kernel_rfl) (fun _ _ _ _ _ hx => hx.elim) (.inl ⟨by rfl, ?_⟩) (by exact bel_of) ?_; rotate_left; (intro X hX; obtain ⟨r1, r2⟩ := Below.rules hX; clear hX; go_simp; rfl); simp only [List.getElem_toArray, List.getElem_cons_succ, List.getElem_cons_zero, Act.put, List.setIfInBounds_toArray, List.set_cons_succ, List.set_cons_zero])
        (refine any_take 10 ?_ (by rfl) (by kernel_rfl) (fun _ _ _ _ _ hx => hx.elim) (.inl ⟨by rfl, ?_⟩) (by exact bel_of) ?_; rotate_left; (intro X hX; obtain ⟨r1, r2⟩ := Below.rules hX; clear hX; go_simp; rfl); simp only [List.getElem_toArray, List.getElem_cons_succ, List.getElem_cons_zero, Act.put, List.setIfInBounds_toArray, List.set_cons_succ, List.set_cons_zero])
        (refine any_take 11 ?_ (by rfl) (by kernel_rfl) (fun _ _ _ _ _ hx => hx.elim) (.inl ⟨by rfl, ?_⟩) (by exact bel_of) ?_; rotate_left; (intro X hX; obtain ⟨r1, r2⟩ := Below.rules hX; clear hX; go_simp; rfl); simp only [List.getElem_toArray, List.getElem_cons_succ, List.getElem_cons_zero, Act.put, List.setIfInBounds_toArray, List.set_cons_succ, List.set_cons_zero])
        (refine any_take 12 ?_ (by rfl) (by kernel_rfl) (fun _ _ _ _ _ hx => hx.elim) (.inl ⟨by rfl, ?_⟩) (by exact bel_of) ?_; rotate_left; (intro X hX; obtain ⟨r1, r2⟩ := Below.rules hX; clear hX; go_simp; rfl); simp only [List.getElem_toArray, List.getElem_cons_succ, List.getElem_cons_zero, Act.put, List.setIfInBounds_toArray, List.set_cons_succ, List.set_cons_zero])
        (refine any_take 13 ?_ (by rfl) (by kernel_rfl) (fun _ _ _ _ _ hx => hx.elim) (.inl ⟨by rfl, ?_⟩) (by exact bel_of) ?_; rotate_left; (intro X hX; obtain ⟨r1, r2⟩ := Below.rules hX; clear hX; go_simp; rfl); simp only [List.getElem_toArray, List.getElem_cons_succ, List.getElem_cons_zero, Act.put, List.setIfInBounds_toArray, List.set_cons_succ, List.set_cons_zero])
        (refine any_take 14 ?_ (by rfl) (by kernel_rfl) (fun _ _ _ _ _ hx => hx.elim) (.inl ⟨by rfl, ?_⟩) (by exact bel_of) ?_; rotate_left; (intro X hX; obtain ⟨r1, r2⟩ := Below.rules hX; clear hX; go_simp; rfl); simp only [List.getElem_toArray, List.getElem_cons_succ, List.getElem_cons_zero, Act.put, List.setIfInBounds_toArray, List.set_cons_succ, List.set_cons_zero])
        (refine any_take 15 ?_ (by rfl) (by kernel_rfl) (fun _ _ _ _ _ hx => hx.elim) (.inl ⟨by rfl, ?_⟩) (by exact bel_of) ?_; rotate_left; (intro X hX; obtain ⟨r1, r2⟩ := Below.rules hX; clear hX; go_simp; rfl); simp only [List.getElem_toArray, List.getElem_cons_succ, List.getElem_cons_zero, Act.put, List.setIfInBounds_toArray, List.set_cons_succ, List.set_cons_zero])
        have hd0p : Below Wbt.heap.size Wbt (Wbt.drewN (nq + 1)) := by exact bel_of
        refine any_run1 (i := 16) (by kernel_rfl) (by rfl) (by kernel_rfl) ?_
        intro K3 hK3
        go_wp2_with fail
        refine (test_any p q lo hi _).mono ?_
        rintro e Vp ⟨rfl, hb1⟩
        unfold tV
        have hb01 : Below Wbt.heap.size Wbt Vp := hd0p.trans (hb1.mono hd0p.size)
        refine hK3 _ _ (fun _ => hb01) ?_
        clear hK3 K3 hb1
        refine any_run1 (i := 17) (by kernel_rfl) (by rfl) (by kernel_rfl) ?_
        intro K3 hK3
        go_wp2_with fail
        obtain ⟨gv, hgv⟩ : ∃ n, Vp.heap.size = n := ⟨_, rfl⟩
        have bX : BK (Vp.alloc (.cells #[.int .i64 p, .int .i64 q, .int .i64 lo, .int .i64 hi] 56)) gv #[.int .i64 p, .int .i64 q, .int .i64 lo, .int .i64 hi] 56 := BK.new' _ _ _ gv hgv
        have hbX : Below Vp.heap.size Vp (Vp.alloc (.cells #[.int .i64 p, .int .i64 q, .int .i64 lo, .int .i64 hi] 56)) := Below.alloc (Below.refl _ _) (Nat.le_refl _) _
        have hb0X := hb01.trans (hbX.mono hb01.size)
        refine hK3 _ _ (fun _ => hb0X) ?_
        clear hK3 K3
        try rw [hgv]
        have hbase : WB.heap.size ≤ (Vp.alloc (.cells #[.int .i64 p, .int .i64 q, .int .i64 lo, .int .i64 hi] 56)).heap.size := by have := hD.size; have := hb0X.size; omega
        obtain ⟨vp, w9p, hrun, two9, hbel, hsz9, hkeep⟩ := two_grow (x := ⟨p, q, lo, hi⟩) (TwoT.below two hb0X) bX (by first | (simp [wideT]; done) | (simp [wideT]; omega)) hbase
        obtain ⟨Ap, np, cp, hvp⟩ : ∃ A n c, vp = Value.slice A n c := by
          obtain ⟨A, c, h⟩ := own_slice two9.1
          exact ⟨A, _, c, h⟩
        subst hvp
        have xx9 := hkeep _ _ _ (xx.below hb0X xx.lt) (TwoT.ne (TwoT.below two hb0X) (xx.below hb0X xx.lt))
        have bt9 := hkeep _ _ _ (bt.below hb0X bt.lt) nxx
        have hD9 : Below WB.heap.size WB w9p := hbel _ (hD.trans (hb0X.mono hD.size))
        have HRUN := Lib.hid hrun
        clear hgv hrun hbel hkeep bX hb0X hbX hb01 hd0p hsz9 hbase
        generalize Vp.alloc (.cells #[.int .i64 p, .int .i64 q, .int .i64 lo, .int .i64 hi] 56) = VXp at *
        refine any_run1 (i := 18) (by kernel_rfl) (by rfl) (by kernel_rfl) ?_
        intro K3 hK3
        refine wp_append_run (.tmp 62) (.tmp 78) 22 _ rfl HRUN.out ?_
        refine hK3 _ _ (fun hx => (Bool.false_ne_true (hx.symm.trans (by kernel_rfl))).elim) ?_
        clear hK3 K3 HRUN
        simp only [List.getElem_toArray, List.getElem_cons_succ, List.getElem_cons_zero, Act.put, List.setIfInBounds_toArray, List.set_cons_succ, List.set_cons_zero]
        clear lbt btc0 btc1 btc2 btc3
        clear lxx xxc0 xxc1
        have lb := xx9.lt
        have y0 := xx9.cell 0
        have y1 := xx9.cell 1
        have f1 := xx9.frozen 1
        simp at y0 y1
        refine any_run1 (i := 19) (by kernel_rfl) (by rfl) (by kernel_rfl) ?_
        intro K3 hK3
        go_wp2_with fail
        refine hK3 _ _ (fun hx => (Bool.false_ne_true (hx.symm.trans (by kernel_rfl))).elim) ?_
        clear hK3 K3
        refine any_run1 (i := 20) (by kernel_rfl) (by rfl) (by kernel_rfl) ?_
        intro K3 hK3
        go_wp2_with fail
        refine hK3 _ _ (fun hx => (Bool.false_ne_true (hx.symm.trans (by kernel_rfl))).elim) ?_
        clear hK3 K3
        refine any_done (by kernel_rfl) (NoPanic.normal ?_)
        clear y0 y1 f1 lb
        have xxA : BK (w9p.setCell ⟨gxx, 1, none⟩ (.slice Ap np cp)) gxx #[.int .i64 N, .slice Ap np cp] 24 := by simpa using xx9.set 1 (.slice Ap np cp)
        have btA := bt9.far (p := ⟨gxx, 1, none⟩) (by show m3 ≠ gxx; omega) (.slice Ap np cp)
        have twoA := TwoT.far two9 (p := ⟨gxx, 1, none⟩) xx9 (.slice Ap np cp)
        have hDA : Below WB.heap.size WB (w9p.setCell ⟨gxx, 1, none⟩ (.slice Ap np cp)) := Below.setCell hD9 (by show WB.heap.size ≤ gxx; omega) _
        clear xx9 bt9 two9 hD9 xx bt two hD
        generalize w9p.setCell ⟨gxx, 1, none⟩ (.slice Ap np cp) = WAp at *
        have xx := xxA
        have bt := btA
        have two2 := twoA
        have hD := hDA
        clear xxA btA twoA hDA
        go_wp2_with fail
        go_roundw
        case rel => exact ⟨k + 1, by omega, by go_num, _, xx, by rw [HTX.out]; exact two2, hD⟩
        case measure => simp [intOf]; omega
      have hlt' : ¬ (k : Int) < (ts.length : Int) := by omega
      rw [List.take_of_length_le (show ts.length ≤ k by omega)] at two
      obtain ⟨Ax, cx, rfl⟩ := own_slice two.1
      have oX := two.1
      clear hD two
      have lbx := bx.lt
      have bxc0 := bx.cell 0
      have bxc1 := bx.cell 1
      simp at bxc0 bxc1
      have lxx := xx.lt
      have xxc0 := xx.cell 0
      have xxc1 := xx.cell 1
      simp at xxc0 xxc1
      have lrs := rs.lt
      have rsc0 := rs.cell 0
      have rsc1 := rs.cell 1
      simp at rsc0 rsc1
      have rsf0 := rs.frozen 0
      have rsf1 := rs.frozen 1
      go_wp2_with fail
      clear rsf0 rsf1 rsc0 rsc1
      have ne1 : ∀ {e sz n : Nat} {v : Value} {xs : List Value} {base : Nat}, wr.ownsRow base e sz v n xs → e ≠ 24 → v.ownBlock ≠ some (n0 + 1) := fun {e sz n v xs base} hz he hq => by
        obtain ⟨c, hc⟩ := own_block hz hq
        have hp := rs
        unfold BK at hp
        rw [hp] at hc
        injection hc with hc
        injection hc with _ hc
        exact he hc.symm
      have rs2 := (rs.set 0 (.int .i64 N)).set 1 (.slice Ax (wideT N y ts).length cx)
      simp at rs2
      have z0 := rs2.cell 0
      have z1 := rs2.cell 1
      simp at z0 z1
      have o1 : OwnT ((wr.setCell ⟨n0 + 1, 0, none⟩ (.int .i64 N)).setCell ⟨n0 + 1, 1, none⟩ (.slice Ax (wideT N y ts).length cx)) _ _ _ := own_far (own_far oX (p := ⟨n0 + 1, 0, none⟩) (ne1 oX (by decide)) (.int .i64 N)) (p := ⟨n0 + 1, 1, none⟩) (ne1 oX (by decide)) (.slice Ax (wideT N y ts).length cx)
      have o2 : OwnI 2 ((wr.setCell ⟨n0 + 1, 0, none⟩ (.int .i64 N)).setCell ⟨n0 + 1, 1, none⟩ (.slice Ax (wideT N y ts).length cx)) _ _ _ := own_far (own_far hown (p := ⟨n0 + 1, 0, none⟩) (ne1 hown (by decide)) (.int .i64 N)) (p := ⟨n0 + 1, 1, none⟩) (ne1 hown (by decide)) (.slice Ax (wideT N y ts).length cx)
      have hC8 : Below n0 w ((wr.setCell ⟨n0 + 1, 0, none⟩ (.int .i64 N)).setCell ⟨n0 + 1, 1, none⟩ (.slice Ax (wideT N y ts).length cx)) := Below.setCell (Below.setCell hC (by show n0 ≤ n0 + 1; omega) _) (by show n0 ≤ n0 + 1; omega) _
      exact bodyPost_ret (v := .tuple #[.agg #[.int .i64 N, .slice Ax (wideT N y ts).length cx], .slice At L.length ct]) (by simp [results, Try.results46, go_sem, z0, z1]) rfl ⟨_, _, rfl, OwnT.ri o1, by rw [HLE.out]; exact OwnI.ri o2, by first | exact hC8 | (rw [hn0]; exact hC8)⟩
end Go.Proofs.Ytkljdbgkhghiaaa

set_option linter.all false
namespace Go.Proofs.Ytkljdbgkhghiaaa
open Go.RowKit Kp
theorem worth_rng {N : Nat} {ts : List Kt} (h : Okb N ts) {k : Kl} {n : Int} (hw : worthP N ts k = some n) : -1 ≤ k.src ∧ k.src < N ∧ -1 ≤ k.dst ∧ k.dst < N := by
  unfold worthP at hw
  have hp := h.pos
  split at hw
  · omega
  · split at hw
    · omega
    · split at hw
      · cases hw
      · rename_i h1 h2 h3
        have hi : k.tst.toNat < ts.length := by omega
        have hm : nthT ts k.tst.toNat ∈ ts := by
          have : nthT ts k.tst.toNat = ts[k.tst.toNat] := by simp [nthT, hi]
          rw [this]; exact List.getElem_mem hi
        have ht := h.tst _ hm
        split at hw
        · omega
        · split at hw
          · omega
          · cases hw
theorem chk_all {N : Nat} {ts : List Kt} : ∀ (c : List Kl) (a w : Int), chk N ts a c = some w → ∀ k ∈ c, ∃ n, worthP N ts k = some n
  | [], _, _, _, k, hk => by cases hk
  | q :: c, a, w, hw, k, hk => by
    rw [chk] at hw
    cases hq : worthP N ts q with
    | none => rw [hq] at hw; cases hw
    | some n =>
      rw [hq] at hw
      dsimp only at hw
      split at hw
      · rcases List.mem_cons.1 hk with rfl | hk
        · exact ⟨n, hq⟩
        · cases hc : chk N ts q.dst c with
          | none => rw [hc] at hw; cases hw
          | some m => exact chk_all c _ _ hc k hk
      · cases hw
theorem nthL_mem {c : List Kl} {i : Nat} (h : i < c.length) : nthL c i ∈ c := by
  have : nthL c i = c[i] := by simp [nthL, h]
  rw [this]; exact List.getElem_mem h
theorem chain_ends {N : Nat} {ts : List Kt} (ho : Okb N ts) {c : List Kl} {n : Int} (h : chainR N ts c = (n, 0)) :
    (-1 ≤ (nthL c 0).src ∧ (nthL c 0).src < N) ∧ -1 ≤ (nthL c (c.length - 1)).dst ∧ (nthL c (c.length - 1)).dst < N := by
  have hn : c.length ≠ 0 := chainR_len (E := N) (ts := ts) (c := c) (by rw [h])
  unfold chainR at h
  split at h
  · rename_i hb; injection h with _ h2; exact absurd h2 hb
  · split at h
    · cases h
    · split at h
      · cases h
      · rename_i w hw
        rw [Int.toNat_natCast] at hw
        obtain ⟨_, h1⟩ := chk_all c _ _ hw _ (nthL_mem (i := 0) (by omega))
        obtain ⟨_, h2⟩ := chk_all c _ _ hw _ (nthL_mem (i := c.length - 1) (by omega))
        have a := worth_rng ho h1
        have b := worth_rng ho h2
        omega
/-- What a truth says: a difference is in the span, a number is in its own range, a chain is not less. -/
theorem tru_span {N : Nat} {ts : List Kt} {l : List Int} (ho : Okb N ts) (ht : Tru N ts l) {a z : Nat} (ha : a < N) (hz : z < N) : -D N ts a z ≤ nthI l a - nthI l z ∧ nthI l a - nthI l z ≤ D N ts z a := by
  have h1 := D_ge ho (ht.pot ho) (show a ≤ N by omega) (show z ≤ N by omega)
  have h2 := D_ge ho (ht.pot ho) (show z ≤ N by omega) (show a ≤ N by omega)
  simp [ofT, ha, hz] at h1 h2
  omega
theorem tru_sharp {N : Nat} {ts : List Kt} {l : List Int} (ho : Okb N ts) (ht : Tru N ts l) {a : Nat} (ha : a < N) : -D N ts a N ≤ nthI l a ∧ nthI l a ≤ D N ts N a := by
  have h1 := D_ge ho (ht.pot ho) (show a ≤ N by omega) (Nat.le_refl N)
  have h2 := D_ge ho (ht.pot ho) (Nat.le_refl N) (show a ≤ N by omega)
  simp [ofT, ha] at h1 h2
  omega
def atT (l : List Int) (x : Int) : Int := if 0 ≤ x then nthI l x.toNat else 0
theorem tru_chain {N : Nat} {ts : List Kt} {l : List Int} (ho : Okb N ts) (ht : Tru N ts l) {c : List Kl} {n : Int} (h : chainR N ts c = (n, 0)) : atT l (nthL c (c.length - 1)).dst - atT l (nthL c 0).src ≤ n := by
  obtain ⟨e1, e2⟩ := chain_ends ho h
  have h2 := (chain_pot ho (ht.pot ho) h).2
  have q : ∀ x : Int, -1 ≤ x → x < N → ofT N l (pl N x) = atT l x := fun x h1 h2 => by
    unfold ofT pl atT
    by_cases hx : x < 0
    · rw [if_pos hx, if_neg (by omega), if_neg (by omega)]
    · rw [if_neg hx, if_pos (by omega), if_pos (by omega)]
  rw [q _ e1.1 e1.2, q _ e2.1 e2.2] at h2
  exact h2
end Go.Proofs.Ytkljdbgkhghiaaa

set_option linter.all false
namespace Go.Proofs.Ytkljdbgkhghiaaa
open Go.RowKit Kp

def PickR (z : Nat) (W : World) (a' a2 : Act) (w2 : World) : Prop := ∃ z1 z2 z3 z4 z5 : Value, a2 = (((((a'.put (some 79) z1).put (some 80) z2).put (some 81) z3).put (some 82) z4).put (some 83) z5).put (some 12) (.int .i64 z) ∧ w2 = W
theorem PickR.mk {z : Nat} {W : World} {a' a2 : Act} {z1 z2 z3 z4 z5 : Value} (h : a2 = (((((a'.put (some 79) z1).put (some 80) z2).put (some 81) z3).put (some 82) z4).put (some 83) z5).put (some 12) (.int .i64 z)) : PickR z W a' a2 W := ⟨z1, z2, z3, z4, z5, h, rfl⟩

set_option maxHeartbeats 8000000 in
set_option maxRecDepth 100000 in
theorem keenProved_any (E : Int) (ts : List Kt) (v : Value) (y : List Int) (uy : Value) (x2 y2 : Nat) (c : List Kl) (uc : Value) (w : World) (h : RT w w.heap.size v ts) (hE : okI E) (hts : ∀ t ∈ ts, okT t) (hl : ts.length ≤ maxLen) (huy : RU w w.heap.size uy y) (hyl : ∀ x ∈ y, okU x) (hly : y.length ≤ maxLen) (h2 : x2 ≤ 255 ∧ y2 ≤ 255) (huc : RL w w.heap.size uc c) (hcl : ∀ k ∈ c, okL k) (hlc : c.length ≤ maxLen) :
    Calls Try.prog 13 #[.agg #[.int .i64 E, v], uy, .agg #[.int .u8 x2, .int .u8 y2], uc] w fun x w' => x = .returned (.bool true) ∧ Below w.heap.size w w' := by
  obtain ⟨b, off, cap, A, rfl, hAx⟩ := h.slice
  clear hAx
  have hR := h
  clear h
  obtain ⟨n0, hn0⟩ : ∃ n, w.heap.size = n := ⟨_, rfl⟩
  have hC : Below n0 w w := Below.refl _ _
  obtain ⟨A_uy, c_uy, rfl⟩ : ∃ A q, uy = .slice A y.length q := by
    obtain ⟨A, cp, b, off, hv, hl, hA, _⟩ := huy
    exact ⟨A, cp, hv⟩
  have HYL := Lib.hid hyl
  clear hyl
  obtain ⟨A_uc, c_uc, rfl⟩ : ∃ A q, uc = .slice A c.length q := by
    obtain ⟨A, cp, b, off, hv, hl, hA, _⟩ := huc
    exact ⟨A, cp, hv⟩
  clear hcl
  obtain ⟨h2x, h2y⟩ := h2
  clear hE hts
  go_enter Try.func13, Try.ntmps13
  go_wp2_with fail
  have hqbx : n0 ≤ n0 := by have := hC.size; omega
  have bx : BK (w.alloc (.cells #[.int .i64 E, .slice A ts.length cap] 24)) (n0) #[.int .i64 E, .slice A ts.length cap] 24 := BK.new' _ _ _ (n0) hn0
  have hsbx : (w.alloc (.cells #[.int .i64 E, .slice A ts.length cap] 24)).heap.size = n0 + 1 := by simp [hn0]
  replace hC : Below n0 w (w.alloc (.cells #[.int .i64 E, .slice A ts.length cap] 24)) := Below.alloc hC (by have := hC.size; omega) _
  replace hR := (RS.below hR (w' := (w.alloc (.cells #[.int .i64 E, .slice A ts.length cap] 24))) (Below.alloc (Below.refl _ _) (Nat.le_refl _) _)).more (B' := (w.alloc (.cells #[.int .i64 E, .slice A ts.length cap] 24)).heap.size) (by simp)
  replace huy := (RS.below huy (w' := (w.alloc (.cells #[.int .i64 E, .slice A ts.length cap] 24))) (Below.alloc (Below.refl _ _) (Nat.le_refl _) _)).more (B' := (w.alloc (.cells #[.int .i64 E, .slice A ts.length cap] 24)).heap.size) (by simp)
  replace huc := (RS.below huc (w' := (w.alloc (.cells #[.int .i64 E, .slice A ts.length cap] 24))) (Below.alloc (Below.refl _ _) (Nat.le_refl _) _)).more (B' := (w.alloc (.cells #[.int .i64 E, .slice A ts.length cap] 24)).heap.size) (by simp)
  generalize (w.alloc (.cells #[.int .i64 E, .slice A ts.length cap] 24)) = Wbx at *
  go_wp2_with fail
  have hqb2 : n0 ≤ n0 + 1 := by have := hC.size; omega
  have b2 : BK (Wbx.alloc (.cells #[.int .u8 x2, .int .u8 y2] 64)) (n0 + 1) #[.int .u8 x2, .int .u8 y2] 64 := BK.new' _ _ _ (n0 + 1) hsbx
  have hsb2 : (Wbx.alloc (.cells #[.int .u8 x2, .int .u8 y2] 64)).heap.size = n0 + 1 + 1 := by simp [hsbx]
  replace hC : Below n0 w (Wbx.alloc (.cells #[.int .u8 x2, .int .u8 y2] 64)) := Below.alloc hC (by have := hC.size; omega) _
  replace hR := (RS.below hR (w' := (Wbx.alloc (.cells #[.int .u8 x2, .int .u8 y2] 64))) (Below.alloc (Below.refl _ _) (Nat.le_refl _) _)).more (B' := (Wbx.alloc (.cells #[.int .u8 x2, .int .u8 y2] 64)).heap.size) (by simp)
  replace huy := (RS.below huy (w' := (Wbx.alloc (.cells #[.int .u8 x2, .int .u8 y2] 64))) (Below.alloc (Below.refl _ _) (Nat.le_refl _) _)).more (B' := (Wbx.alloc (.cells #[.int .u8 x2, .int .u8 y2] 64)).heap.size) (by simp)
  replace huc := (RS.below huc (w' := (Wbx.alloc (.cells #[.int .u8 x2, .int .u8 y2] 64))) (Below.alloc (Below.refl _ _) (Nat.le_refl _) _)).more (B' := (Wbx.alloc (.cells #[.int .u8 x2, .int .u8 y2] 64)).heap.size) (by simp)
  replace bx := bx.alloc (.cells #[.int .u8 x2, .int .u8 y2] 64)
  generalize (Wbx.alloc (.cells #[.int .u8 x2, .int .u8 y2] 64)) = Wb2 at *
  clear hsbx
  have lbx := bx.lt
  have bxc0 := bx.cell 0
  have bxc1 := bx.cell 1
  simp at bxc0 bxc1
  go_wp2_with fail
  clear lbx bxc0 bxc1
  clear hsb2
  refine (great_any E ts _ _ hl hR).mono ?_
  rintro e w1 ⟨rfl, hb⟩
  replace hC : Below n0 w w1 := hC.trans (hb.mono (by have := hC.size; omega))
  replace hR := (RS.below hR hb).more hb.size
  replace huy := (RS.below huy hb).more hb.size
  replace huc := (RS.below huc hb).more hb.size
  replace bx := bx.below hb bx.lt
  replace b2 := b2.below hb b2.lt
  clear hb
  by_cases h5 : 50 < ts.length
  case pos =>
    rw [decide_eq_true h5]
    clear h5
    go_wp2_with fail
    refine (works_any _).mono ?_
    rintro e w2 ⟨rfl, hb⟩
    replace hC : Below n0 w w2 := hC.trans (hb.mono (by have := hC.size; omega))
    replace hR := (RS.below hR hb).more hb.size
    replace huy := (RS.below huy hb).more hb.size
    replace huc := (RS.below huc hb).more hb.size
    replace bx := bx.below hb bx.lt
    replace b2 := b2.below hb b2.lt
    clear hb
    go_wp2_with fail
    exact bodyPost_ret (v := .bool true) (by simp [results, Try.results13, go_sem]) rfl ⟨rfl, by first | exact hC | (rw [hn0]; exact hC) | (with_reducible rw [hn0]; exact bel_of) | exact bel_of⟩
  rw [decide_eq_false h5]
  have hl50 : ts.length ≤ 50 := by omega
  clear h5
  have lbx := bx.lt
  have bxc0 := bx.cell 0
  have bxc1 := bx.cell 1
  simp at bxc0 bxc1
  go_wp2_with fail
  clear lbx bxc0 bxc1
  refine (refBook_any E ts _ _ (by omega) hR).mono ?_
  rintro e w2 ⟨rfl, hb⟩
  replace hC : Below n0 w w2 := hC.trans (hb.mono (by have := hC.size; omega))
  replace hR := (RS.below hR hb).more hb.size
  replace huy := (RS.below huy hb).more hb.size
  replace huc := (RS.below huc hb).more hb.size
  replace bx := bx.below hb bx.lt
  replace b2 := b2.below hb b2.lt
  clear hb
  obtain ⟨e, he⟩ : ∃ e, bookE E ts = e := ⟨_, rfl⟩
  rw [he]
  by_cases h0 : e = 0
  case neg =>
    have b1 : (e == 0) = false := by simp [h0]
    clear he
    go_wp2_with fail
    refine (works_any _).mono ?_
    rintro e w3 ⟨rfl, hb⟩
    replace hC : Below n0 w w3 := hC.trans (hb.mono (by have := hC.size; omega))
    replace hR := (RS.below hR hb).more hb.size
    replace huy := (RS.below huy hb).more hb.size
    replace huc := (RS.below huc hb).more hb.size
    replace bx := bx.below hb bx.lt
    replace b2 := b2.below hb b2.lt
    clear hb
    go_wp2_with fail
    exact bodyPost_ret (v := .bool true) (by simp [results, Try.results13, go_sem]) rfl ⟨rfl, by first | exact hC | (rw [hn0]; exact hC) | (with_reducible rw [hn0]; exact bel_of) | exact bel_of⟩
  subst h0
  obtain ⟨N, rfl, ho, hl40⟩ := bookE_ok he
  have hN1 := ho.pos
  have hN16 := ho.few
  have HO := Lib.hid ho
  have HBK := Lib.hid he
  clear ho he
  have lbx := bx.lt
  have bxc0 := bx.cell 0
  have bxc1 := bx.cell 1
  simp at bxc0 bxc1
  by_cases hN2 : N < 2
  case pos =>
    have h7 : (N : Int) < 2 := by omega
    go_wp2_with fail
    refine (works_any _).mono ?_
    rintro e w3 ⟨rfl, hb⟩
    replace hC : Below n0 w w3 := hC.trans (hb.mono (by have := hC.size; omega))
    replace hR := (RS.below hR hb).more hb.size
    replace huy := (RS.below huy hb).more hb.size
    replace huc := (RS.below huc hb).more hb.size
    replace bx := bx.below hb bx.lt
    replace b2 := b2.below hb b2.lt
    clear hb
    go_wp2_with fail
    exact bodyPost_ret (v := .bool true) (by simp [results, Try.results13, go_sem]) rfl ⟨rfl, by first | exact hC | (rw [hn0]; exact hC) | (with_reducible rw [hn0]; exact bel_of) | exact bel_of⟩
  have h7n : ¬ (N : Int) < 2 := by omega
  by_cases h6 : y.length > 30
  case pos =>
    have h7 : (y.length : Int) > 30 := by omega
    clear h6
    go_wp2_with fail
    refine (works_any _).mono ?_
    rintro e w3 ⟨rfl, hb⟩
    replace hC : Below n0 w w3 := hC.trans (hb.mono (by have := hC.size; omega))
    replace hR := (RS.below hR hb).more hb.size
    replace huy := (RS.below huy hb).more hb.size
    replace huc := (RS.below huc hb).more hb.size
    replace bx := bx.below hb bx.lt
    replace b2 := b2.below hb b2.lt
    clear hb
    go_wp2_with fail
    exact bodyPost_ret (v := .bool true) (by simp [results, Try.results13, go_sem]) rfl ⟨rfl, by first | exact hC | (rw [hn0]; exact hC) | (with_reducible rw [hn0]; exact bel_of) | exact bel_of⟩
  have hm_y : y.length ≤ 30 := by omega
  have h7_y : ¬ (y.length : Int) > 30 := by omega
  clear h6
  by_cases h6 : c.length > 40
  case pos =>
    have h7 : (c.length : Int) > 40 := by omega
    clear h6
    go_wp2_with fail
    refine (works_any _).mono ?_
    rintro e w3 ⟨rfl, hb⟩
    replace hC : Below n0 w w3 := hC.trans (hb.mono (by have := hC.size; omega))
    replace hR := (RS.below hR hb).more hb.size
    replace huy := (RS.below huy hb).more hb.size
    replace huc := (RS.below huc hb).more hb.size
    replace bx := bx.below hb bx.lt
    replace b2 := b2.below hb b2.lt
    clear hb
    go_wp2_with fail
    exact bodyPost_ret (v := .bool true) (by simp [results, Try.results13, go_sem]) rfl ⟨rfl, by first | exact hC | (rw [hn0]; exact hC) | (with_reducible rw [hn0]; exact bel_of) | exact bel_of⟩
  have hm_c : c.length ≤ 40 := by omega
  have h7_c : ¬ (c.length : Int) > 40 := by omega
  clear h6
  go_wp2_with fail
  clear lbx bxc0 bxc1
  clear h7_y h7_c h7n
  refine (wide_any N ts y _ _ _ HO.out hl40 HYL.out hm_y hR huy).mono ?_
  rintro e w3 ⟨vx, vt, rfl, hX, hv, hb⟩
  replace hC : Below n0 w w3 := hC.trans (hb.mono (by have := hC.size; omega))
  replace hR := (RS.below hR hb).more hb.size
  replace huy := (RS.below huy hb).more hb.size
  replace huc := (RS.below huc hb).more hb.size
  replace bx := bx.below hb bx.lt
  replace b2 := b2.below hb b2.lt
  clear hb
  have HOX := Lib.hid (okb_wide HYL.out HO.out)
  have HAX := Lib.hid (agr_wide HYL.out HO.out)
  have HTX := Lib.hid (tru_wide HYL.out HO.out)
  have hxl : (wideT N y ts).length ≤ 40 := by rw [wideT_len]; omega
  have HBX := Lib.hid (of_bookE HOX.out hxl)
  have hll : (wideL N y).length = N := wideL_len N y
  have HLR := Lib.hid (fun (v : Nat) (h : v < N) => wideL_rng (N := N) HYL.out h)
  obtain ⟨X, hX0⟩ : ∃ X, wideT N y ts = X := ⟨_, rfl⟩
  obtain ⟨L, hL0⟩ : ∃ L, wideL N y = L := ⟨_, rfl⟩
  rw [hX0] at HOX HAX HTX HBX hX hxl
  rw [hL0] at HTX hv hll HLR
  clear hX0 hL0
  obtain ⟨Al, cl, rfl⟩ := ri_slice hv
  rw [hll] at hv
  have HLL := Lib.hid hll
  obtain ⟨bX, oX, cX, AX, rfl, hAX⟩ := hX.slice
  clear hAX
  rw [hll]
  clear hll
  go_wp2_with fail
  obtain ⟨m1, hm1⟩ : ∃ n, w3.heap.size = n := ⟨_, rfl⟩
  try rw [hm1]
  have hqxx : n0 ≤ m1 := by have := hC.size; omega
  have xx : BK (w3.alloc (.cells #[.int .i64 N, .slice AX X.length cX] 24)) (m1) #[.int .i64 N, .slice AX X.length cX] 24 := BK.new' _ _ _ (m1) hm1
  have hsxx : (w3.alloc (.cells #[.int .i64 N, .slice AX X.length cX] 24)).heap.size = m1 + 1 := by simp [hm1]
  replace hC : Below n0 w (w3.alloc (.cells #[.int .i64 N, .slice AX X.length cX] 24)) := Below.alloc hC (by have := hC.size; omega) _
  replace hR := (RS.below hR (w' := (w3.alloc (.cells #[.int .i64 N, .slice AX X.length cX] 24))) (Below.alloc (Below.refl _ _) (Nat.le_refl _) _)).more (B' := (w3.alloc (.cells #[.int .i64 N, .slice AX X.length cX] 24)).heap.size) (by simp)
  replace huy := (RS.below huy (w' := (w3.alloc (.cells #[.int .i64 N, .slice AX X.length cX] 24))) (Below.alloc (Below.refl _ _) (Nat.le_refl _) _)).more (B' := (w3.alloc (.cells #[.int .i64 N, .slice AX X.length cX] 24)).heap.size) (by simp)
  replace huc := (RS.below huc (w' := (w3.alloc (.cells #[.int .i64 N, .slice AX X.length cX] 24))) (Below.alloc (Below.refl _ _) (Nat.le_refl _) _)).more (B' := (w3.alloc (.cells #[.int .i64 N, .slice AX X.length cX] 24)).heap.size) (by simp)
  replace bx := bx.alloc (.cells #[.int .i64 N, .slice AX X.length cX] 24)
  replace b2 := b2.alloc (.cells #[.int .i64 N, .slice AX X.length cX] 24)
  replace hX := (RS.below hX (w' := (w3.alloc (.cells #[.int .i64 N, .slice AX X.length cX] 24))) (Below.alloc (Below.refl _ _) (Nat.le_refl _) _)).more (B' := (w3.alloc (.cells #[.int .i64 N, .slice AX X.length cX] 24)).heap.size) (by simp)
  replace hv := (RS.below hv (w' := (w3.alloc (.cells #[.int .i64 N, .slice AX X.length cX] 24))) (Below.alloc (Below.refl _ _) (Nat.le_refl _) _)).more (B' := (w3.alloc (.cells #[.int .i64 N, .slice AX X.length cX] 24)).heap.size) (by simp)
  generalize (w3.alloc (.cells #[.int .i64 N, .slice AX X.length cX] 24)) = Wxx at *
  clear hm1
  have lbx := bx.lt
  have bxc0 := bx.cell 0
  have bxc1 := bx.cell 1
  simp at bxc0 bxc1
  have lb2 := b2.lt
  have b2c0 := b2.cell 0
  have b2c1 := b2.cell 1
  simp at b2c0 b2c1
  obtain ⟨a, ha⟩ : ∃ a, x2 % N = a := ⟨_, rfl⟩
  obtain ⟨m, hm⟩ : ∃ m, y2 % N = m := ⟨_, rfl⟩
  obtain ⟨o, ho⟩ : ∃ o, (a + 1) % N = o := ⟨_, rfl⟩
  have haN : a < N := by rw [← ha]; exact Nat.mod_lt _ (by omega)
  have hmN : m < N := by rw [← hm]; exact Nat.mod_lt _ (by omega)
  have hoN : o < N := by rw [← ho]; exact Nat.mod_lt _ (by omega)
  have hao : a ≠ o := by
    rw [← ho]
    intro hq
    by_cases h1 : a + 1 < N
    · rw [Nat.mod_eq_of_lt h1] at hq; omega
    · rw [show a + 1 = N by omega, Nat.mod_self] at hq; omega
  have e1 : (x2 : Int) % (N : Int) = (a : Int) := by rw [rem_nat, ha]
  have e2 : (y2 : Int) % (N : Int) = (m : Int) := by rw [rem_nat, hm]
  have e3 : ((a : Int) + 1) % (N : Int) = (o : Int) := by rw [show (a : Int) + 1 = ((a + 1 : Nat) : Int) by omega, rem_nat, ho]
  have t1 : (x2 : Int).tmod (N : Int) = (a : Int) := by rw [tmod_nat, ha]
  have t2 : (y2 : Int).tmod (N : Int) = (m : Int) := by rw [tmod_nat, hm]
  have t3 : ((a : Int) + 1).tmod (N : Int) = (o : Int) := by rw [show (a : Int) + 1 = ((a + 1 : Nat) : Int) by omega, tmod_nat, ho]
  have ye0 : ((N : Int) == 0) = false := beq_eq_false_iff_ne.2 (by omega)
  have ye2 : (N : Int) ≠ 0 := by omega
  have g1 : IntKind.i64.wrap (x2 : Int) = (x2 : Int) := by rw [IntKind.wrap_i64]; omega
  have g2 : IntKind.i64.wrap (y2 : Int) = (y2 : Int) := by rw [IntKind.wrap_i64]; omega
  have g3 : IntKind.i64.wrap (a : Int) = (a : Int) := by rw [IntKind.wrap_i64]; omega
  have g4 : IntKind.i64.wrap (m : Int) = (m : Int) := by rw [IntKind.wrap_i64]; omega
  clear ha hm ho
  go_upto_region 4 with fail
  go_quiet (fail)
  go_upto_if 78 with fail
  clear lbx bxc0 bxc1
  clear lb2 b2c0 b2c1
  have hb : Below Wxx.heap.size Wxx (Wxx.drewN nq) := by exact bel_of
  clear hsxx
  replace hC : Below n0 w (Wxx.drewN nq) := hC.trans (hb.mono (by have := hC.size; omega))
  replace hR := (RS.below hR hb).more hb.size
  replace huy := (RS.below huy hb).more hb.size
  replace huc := (RS.below huc hb).more hb.size
  replace bx := bx.below hb bx.lt
  replace b2 := b2.below hb b2.lt
  replace hX := (RS.below hX hb).more hb.size
  replace hv := (RS.below hv hb).more hb.size
  replace xx := xx.below hb xx.lt
  clear hb
  generalize (Wxx.drewN nq) = WQ at *
  have hz : ∃ z : Nat, z < N ∧ a ≠ z ∧ z = if a = m then o else m := by
    by_cases h : a = m
    · exact ⟨o, hoN, hao, by rw [if_pos h]⟩
    · exact ⟨m, hmN, h, by rw [if_neg h]⟩
  obtain ⟨z, hzN, haz, hz⟩ := hz
  have HZ := Lib.hid hz
  clear hz
  refine wp_cut (fun a' a2 w2 => PickR z WQ a' a2 w2) ?_ ?_
  case refine_1 =>
    have lbx := bx.lt
    have bxc0 := bx.cell 0
    have bxc1 := bx.cell 1
    simp at bxc0 bxc1
    by_cases ham : a = m
    case pos =>
      have hz := HZ.out
      rw [if_pos ham] at hz
      subst hz
      subst ham
      have d1 : ((a : Int) == (a : Int)) = true := by simp
      go_wp2_with fail
      exact PickR.mk rfl
    have hz := HZ.out
    rw [if_neg ham] at hz
    subst hz
    have d1 : ((a : Int) == (z : Int)) = false := beq_eq_false_iff_ne.2 (by omega)
    go_wp2_with fail
    exact PickR.mk rfl
  rintro a2 w2 ⟨z1, z2, z3, z4, z5, rfl, rfl⟩
  simp only [Act.put, List.setIfInBounds_toArray, List.set_cons_succ, List.set_cons_zero]
  clear e1 e2 e3 t1 t2 t3 ye0 ye2 g1 g2 g3 g4 HZ hao hoN hmN
  have lxx := xx.lt
  have xxc0 := xx.cell 0
  have xxc1 := xx.cell 1
  simp at xxc0 xxc1
  go_wp2_with fail
  clear lxx xxc0 xxc1
  refine (checkTruth_any N X L _ _ _ (by omega) (by have := HLL.out; omega) hX hv).mono ?_
  rintro e w4 ⟨rfl, hb⟩
  replace hC : Below n0 w w4 := hC.trans (hb.mono (by have := hC.size; omega))
  replace hR := (RS.below hR hb).more hb.size
  replace huy := (RS.below huy hb).more hb.size
  replace huc := (RS.below huc hb).more hb.size
  replace bx := bx.below hb bx.lt
  replace b2 := b2.below hb b2.lt
  replace hX := (RS.below hX hb).more hb.size
  replace hv := (RS.below hv hb).more hb.size
  replace xx := xx.below hb xx.lt
  clear hb
  rw [(truth_iff HBX.out).2 HTX.out]
  have lxx := xx.lt
  have xxc0 := xx.cell 0
  have xxc1 := xx.cell 1
  simp at xxc0 xxc1
  go_wp2_with fail
  clear lxx xxc0 xxc1
  have s1 := tru_span HOX.out HTX.out haN hzN
  have s2 := tru_sharp HOX.out HTX.out haN
  have r1 := D_rng HOX.out HAX.out (show a ≤ N by omega) (show z ≤ N by omega)
  have r2 := D_rng HOX.out HAX.out (show z ≤ N by omega) (show a ≤ N by omega)
  have r3 := HLR.out a haN
  have r4 := HLR.out z hzN
  obtain ⟨x1, hx1⟩ : ∃ x, -D N X a z = x := ⟨_, rfl⟩
  obtain ⟨y1, hy1⟩ : ∃ x, D N X z a = x := ⟨_, rfl⟩
  obtain ⟨p1, hp1⟩ : ∃ x, -D N X a N = x := ⟨_, rfl⟩
  obtain ⟨q1, hq1⟩ : ∃ x, D N X N a = x := ⟨_, rfl⟩
  obtain ⟨ta, hta⟩ : ∃ x, nthI L a = x := ⟨_, rfl⟩
  obtain ⟨tz, htz⟩ : ∃ x, nthI L z = x := ⟨_, rfl⟩
  obtain ⟨d, hd⟩ : ∃ x, ta - tz = x := ⟨_, rfl⟩
  rw [hx1, hy1, hta, htz, hd] at s1
  rw [hp1, hq1, hta] at s2
  rw [hta] at r3
  rw [htz] at r4
  obtain ⟨n1, hn1⟩ : ∃ x, -y1 = x := ⟨_, rfl⟩
  obtain ⟨n2, hn2⟩ : ∃ x, -x1 = x := ⟨_, rfl⟩
  have H1 := Lib.hid hx1
  have H2 := Lib.hid hy1
  have H3 := Lib.hid hp1
  have H4 := Lib.hid hq1
  have H5 := Lib.hid (show -D N X z a = n1 by omega)
  have H6 := Lib.hid (show D N X a z = n2 by omega)
  have H7 := Lib.hid hta
  have H8 := Lib.hid htz
  have w1 : IntKind.i64.wrap (-y1) = n1 := by rw [IntKind.wrap_i64]; omega
  have w2' : IntKind.i64.wrap (-x1) = n2 := by rw [IntKind.wrap_i64]; omega
  have w3' : IntKind.i64.wrap (ta - tz) = d := by rw [IntKind.wrap_i64]; omega
  have W1 := Lib.hid w1
  have W2 := Lib.hid w2'
  have W3 := Lib.hid w3'
  have l1 : ¬ d < x1 := by omega
  have l2 : ¬ d > y1 := by omega
  have l3 : ¬ ta < p1 := by omega
  have l4 : ¬ ta > q1 := by omega
  have hy2 : -1000 ≤ y1 ∧ y1 ≤ 1000 := by omega
  clear w1 w2' w3' s1 s2 r1 r2 r3 r4 hx1 hy1 hp1 hq1 hta htz hd hn1 hn2
  refine (spanN_any (u := a) (z := z) _ _ HBX.out HAX.out haN hzN haz (by omega) hX).mono ?_
  rintro e w5 ⟨rfl, hb⟩
  replace hC : Below n0 w w5 := hC.trans (hb.mono (by have := hC.size; omega))
  replace hR := (RS.below hR hb).more hb.size
  replace huy := (RS.below huy hb).more hb.size
  replace huc := (RS.below huc hb).more hb.size
  replace bx := bx.below hb bx.lt
  replace b2 := b2.below hb b2.lt
  replace hX := (RS.below hX hb).more hb.size
  replace hv := (RS.below hv hb).more hb.size
  replace xx := xx.below hb xx.lt
  clear hb
  rw [H1.out, H2.out]
  have lxx := xx.lt
  have xxc0 := xx.cell 0
  have xxc1 := xx.cell 1
  simp at xxc0 xxc1
  go_wp2_with fail
  clear lxx xxc0 xxc1
  obtain ⟨m2, hm2⟩ : ∃ n, w5.heap.size = n := ⟨_, rfl⟩
  try rw [hm2]
  have hqr1 : n0 ≤ m2 := by have := hC.size; omega
  have r1 : BK (w5.alloc (.cells #[.int .i64 x1, .int .i64 y1] 36)) (m2) #[.int .i64 x1, .int .i64 y1] 36 := BK.new' _ _ _ (m2) hm2
  have hsr1 : (w5.alloc (.cells #[.int .i64 x1, .int .i64 y1] 36)).heap.size = m2 + 1 := by simp [hm2]
  replace hC : Below n0 w (w5.alloc (.cells #[.int .i64 x1, .int .i64 y1] 36)) := Below.alloc hC (by have := hC.size; omega) _
  replace hR := (RS.below hR (w' := (w5.alloc (.cells #[.int .i64 x1, .int .i64 y1] 36))) (Below.alloc (Below.refl _ _) (Nat.le_refl _) _)).more (B' := (w5.alloc (.cells #[.int .i64 x1, .int .i64 y1] 36)).heap.size) (by simp)
  replace huy := (RS.below huy (w' := (w5.alloc (.cells #[.int .i64 x1, .int .i64 y1] 36))) (Below.alloc (Below.refl _ _) (Nat.le_refl _) _)).more (B' := (w5.alloc (.cells #[.int .i64 x1, .int .i64 y1] 36)).heap.size) (by simp)
  replace huc := (RS.below huc (w' := (w5.alloc (.cells #[.int .i64 x1, .int .i64 y1] 36))) (Below.alloc (Below.refl _ _) (Nat.le_refl _) _)).more (B' := (w5.alloc (.cells #[.int .i64 x1, .int .i64 y1] 36)).heap.size) (by simp)
  replace bx := bx.alloc (.cells #[.int .i64 x1, .int .i64 y1] 36)
  replace b2 := b2.alloc (.cells #[.int .i64 x1, .int .i64 y1] 36)
  replace hX := (RS.below hX (w' := (w5.alloc (.cells #[.int .i64 x1, .int .i64 y1] 36))) (Below.alloc (Below.refl _ _) (Nat.le_refl _) _)).more (B' := (w5.alloc (.cells #[.int .i64 x1, .int .i64 y1] 36)).heap.size) (by simp)
  replace hv := (RS.below hv (w' := (w5.alloc (.cells #[.int .i64 x1, .int .i64 y1] 36))) (Below.alloc (Below.refl _ _) (Nat.le_refl _) _)).more (B' := (w5.alloc (.cells #[.int .i64 x1, .int .i64 y1] 36)).heap.size) (by simp)
  replace xx := xx.alloc (.cells #[.int .i64 x1, .int .i64 y1] 36)
  generalize (w5.alloc (.cells #[.int .i64 x1, .int .i64 y1] 36)) = Wr1 at *
  clear hm2
  have lxx := xx.lt
  have xxc0 := xx.cell 0
  have xxc1 := xx.cell 1
  simp at xxc0 xxc1
  go_wp2_with fail
  clear lxx xxc0 xxc1
  clear hsr1
  refine (spanN_any (u := z) (z := a) _ _ HBX.out HAX.out hzN haN (Ne.symm haz) (by omega) hX).mono ?_
  rintro e w6 ⟨rfl, hb⟩
  replace hC : Below n0 w w6 := hC.trans (hb.mono (by have := hC.size; omega))
  replace hR := (RS.below hR hb).more hb.size
  replace huy := (RS.below huy hb).more hb.size
  replace huc := (RS.below huc hb).more hb.size
  replace bx := bx.below hb bx.lt
  replace b2 := b2.below hb b2.lt
  replace hX := (RS.below hX hb).more hb.size
  replace hv := (RS.below hv hb).more hb.size
  replace xx := xx.below hb xx.lt
  replace r1 := r1.below hb r1.lt
  clear hb
  rw [H5.out, H6.out]
  have lxx := xx.lt
  have xxc0 := xx.cell 0
  have xxc1 := xx.cell 1
  simp at xxc0 xxc1
  go_wp2_with fail
  clear lxx xxc0 xxc1
  obtain ⟨m3, hm3⟩ : ∃ n, w6.heap.size = n := ⟨_, rfl⟩
  try rw [hm3]
  have hqr2 : n0 ≤ m3 := by have := hC.size; omega
  have r2 : BK (w6.alloc (.cells #[.int .i64 n1, .int .i64 n2] 36)) (m3) #[.int .i64 n1, .int .i64 n2] 36 := BK.new' _ _ _ (m3) hm3
  have hsr2 : (w6.alloc (.cells #[.int .i64 n1, .int .i64 n2] 36)).heap.size = m3 + 1 := by simp [hm3]
  replace hC : Below n0 w (w6.alloc (.cells #[.int .i64 n1, .int .i64 n2] 36)) := Below.alloc hC (by have := hC.size; omega) _
  replace hR := (RS.below hR (w' := (w6.alloc (.cells #[.int .i64 n1, .int .i64 n2] 36))) (Below.alloc (Below.refl _ _) (Nat.le_refl _) _)).more (B' := (w6.alloc (.cells #[.int .i64 n1, .int .i64 n2] 36)).heap.size) (by simp)
  replace huy := (RS.below huy (w' := (w6.alloc (.cells #[.int .i64 n1, .int .i64 n2] 36))) (Below.alloc (Below.refl _ _) (Nat.le_refl _) _)).more (B' := (w6.alloc (.cells #[.int .i64 n1, .int .i64 n2] 36)).heap.size) (by simp)
  replace huc := (RS.below huc (w' := (w6.alloc (.cells #[.int .i64 n1, .int .i64 n2] 36))) (Below.alloc (Below.refl _ _) (Nat.le_refl _) _)).more (B' := (w6.alloc (.cells #[.int .i64 n1, .int .i64 n2] 36)).heap.size) (by simp)
  replace bx := bx.alloc (.cells #[.int .i64 n1, .int .i64 n2] 36)
  replace b2 := b2.alloc (.cells #[.int .i64 n1, .int .i64 n2] 36)
  replace hX := (RS.below hX (w' := (w6.alloc (.cells #[.int .i64 n1, .int .i64 n2] 36))) (Below.alloc (Below.refl _ _) (Nat.le_refl _) _)).more (B' := (w6.alloc (.cells #[.int .i64 n1, .int .i64 n2] 36)).heap.size) (by simp)
  replace hv := (RS.below hv (w' := (w6.alloc (.cells #[.int .i64 n1, .int .i64 n2] 36))) (Below.alloc (Below.refl _ _) (Nat.le_refl _) _)).more (B' := (w6.alloc (.cells #[.int .i64 n1, .int .i64 n2] 36)).heap.size) (by simp)
  replace xx := xx.alloc (.cells #[.int .i64 n1, .int .i64 n2] 36)
  replace r1 := r1.alloc (.cells #[.int .i64 n1, .int .i64 n2] 36)
  generalize (w6.alloc (.cells #[.int .i64 n1, .int .i64 n2] 36)) = Wr2 at *
  clear hm3
  have lxx := xx.lt
  have xxc0 := xx.cell 0
  have xxc1 := xx.cell 1
  simp at xxc0 xxc1
  go_wp2_with fail
  clear lxx xxc0 xxc1
  clear hsr2
  refine (chainN_any _ _ HBX.out HAX.out haN hzN haz (by omega) hX).mono ?_
  rintro e w7 ⟨v3, c3, rfl, h31, hk, hb⟩
  replace hC : Below n0 w w7 := hC.trans (hb.mono (by have := hC.size; omega))
  replace hR := (RS.below hR hb).more hb.size
  replace huy := (RS.below huy hb).more hb.size
  replace huc := (RS.below huc hb).more hb.size
  replace bx := bx.below hb bx.lt
  replace b2 := b2.below hb b2.lt
  replace hX := (RS.below hX hb).more hb.size
  replace hv := (RS.below hv hb).more hb.size
  replace xx := xx.below hb xx.lt
  replace r1 := r1.below hb r1.lt
  replace r2 := r2.below hb r2.lt
  clear hb
  obtain ⟨k1, k2, k3, k4, k5⟩ := hk
  rw [H2.out] at k1
  have HK := Lib.hid k1
  have HL := Lib.hid k2
  have HS := Lib.hid k4
  have HD := Lib.hid k5
  clear k1 k2 k4 k5
  obtain ⟨A_3, c_3, rfl⟩ := rl_slice h31
  have lxx := xx.lt
  have xxc0 := xx.cell 0
  have xxc1 := xx.cell 1
  simp at xxc0 xxc1
  go_wp2_with fail
  clear lxx xxc0 xxc1
  refine (reachN_any _ _ HBX.out HAX.out haN hzN haz (by omega) hX).mono ?_
  rintro e w8 ⟨v4, rfl, h41, hb⟩
  replace hC : Below n0 w w8 := hC.trans (hb.mono (by have := hC.size; omega))
  replace hR := (RS.below hR hb).more hb.size
  replace huy := (RS.below huy hb).more hb.size
  replace huc := (RS.below huc hb).more hb.size
  replace bx := bx.below hb bx.lt
  replace b2 := b2.below hb b2.lt
  replace hX := (RS.below hX hb).more hb.size
  replace hv := (RS.below hv hb).more hb.size
  replace xx := xx.below hb xx.lt
  replace r1 := r1.below hb r1.lt
  replace r2 := r2.below hb r2.lt
  replace h31 := (RS.below h31 hb).more hb.size
  clear hb
  obtain ⟨A_4, c_4, rfl⟩ := ri_slice h41
  have lxx := xx.lt
  have xxc0 := xx.cell 0
  have xxc1 := xx.cell 1
  simp at xxc0 xxc1
  go_wp2_with fail
  clear lxx xxc0 xxc1
  refine (((leastP_any N X _ _ (by omega) hX).mono fun _ _ h => listN HBX.out HAX.out h)).mono ?_
  rintro e w9 ⟨v5, rfl, h51, hb⟩
  replace hC : Below n0 w w9 := hC.trans (hb.mono (by have := hC.size; omega))
  replace hR := (RS.below hR hb).more hb.size
  replace huy := (RS.below huy hb).more hb.size
  replace huc := (RS.below huc hb).more hb.size
  replace bx := bx.below hb bx.lt
  replace b2 := b2.below hb b2.lt
  replace hX := (RS.below hX hb).more hb.size
  replace hv := (RS.below hv hb).more hb.size
  replace xx := xx.below hb xx.lt
  replace r1 := r1.below hb r1.lt
  replace r2 := r2.below hb r2.lt
  replace h31 := (RS.below h31 hb).more hb.size
  replace h41 := (RS.below h41 hb).more hb.size
  clear hb
  obtain ⟨A_5, c_5, rfl⟩ := ri_slice h51
  have lxx := xx.lt
  have xxc0 := xx.cell 0
  have xxc1 := xx.cell 1
  simp at xxc0 xxc1
  go_wp2_with fail
  clear lxx xxc0 xxc1
  refine (sharpN_any (u := a) _ _ HBX.out HAX.out haN (by omega) hX).mono ?_
  rintro e w10 ⟨rfl, hb⟩
  replace hC : Below n0 w w10 := hC.trans (hb.mono (by have := hC.size; omega))
  replace hR := (RS.below hR hb).more hb.size
  replace huy := (RS.below huy hb).more hb.size
  replace huc := (RS.below huc hb).more hb.size
  replace bx := bx.below hb bx.lt
  replace b2 := b2.below hb b2.lt
  replace hX := (RS.below hX hb).more hb.size
  replace hv := (RS.below hv hb).more hb.size
  replace xx := xx.below hb xx.lt
  replace r1 := r1.below hb r1.lt
  replace r2 := r2.below hb r2.lt
  replace h31 := (RS.below h31 hb).more hb.size
  replace h41 := (RS.below h41 hb).more hb.size
  replace h51 := (RS.below h51 hb).more hb.size
  clear hb
  rw [H3.out, H4.out]
  have lxx := xx.lt
  have xxc0 := xx.cell 0
  have xxc1 := xx.cell 1
  simp at xxc0 xxc1
  go_upto_region 15 with fail
  clear lxx xxc0 xxc1
  obtain ⟨m4, hm4⟩ : ∃ n, w10.heap.size = n := ⟨_, rfl⟩
  try rw [hm4]
  have hqr5 : n0 ≤ m4 := by have := hC.size; omega
  have r5 : BK (w10.alloc (.cells #[.int .i64 p1, .int .i64 q1] 36)) (m4) #[.int .i64 p1, .int .i64 q1] 36 := BK.new' _ _ _ (m4) hm4
  have hsr5 : (w10.alloc (.cells #[.int .i64 p1, .int .i64 q1] 36)).heap.size = m4 + 1 := by simp [hm4]
  replace hC : Below n0 w (w10.alloc (.cells #[.int .i64 p1, .int .i64 q1] 36)) := Below.alloc hC (by have := hC.size; omega) _
  replace hR := (RS.below hR (w' := (w10.alloc (.cells #[.int .i64 p1, .int .i64 q1] 36))) (Below.alloc (Below.refl _ _) (Nat.le_refl _) _)).more (B' := (w10.alloc (.cells #[.int .i64 p1, .int .i64 q1] 36)).heap.size) (by simp)
  replace huy := (RS.below huy (w' := (w10.alloc (.cells #[.int .i64 p1, .int .i64 q1] 36))) (Below.alloc (Below.refl _ _) (Nat.le_refl _) _)).more (B' := (w10.alloc (.cells #[.int .i64 p1, .int .i64 q1] 36)).heap.size) (by simp)
  replace huc := (RS.below huc (w' := (w10.alloc (.cells #[.int .i64 p1, .int .i64 q1] 36))) (Below.alloc (Below.refl _ _) (Nat.le_refl _) _)).more (B' := (w10.alloc (.cells #[.int .i64 p1, .int .i64 q1] 36)).heap.size) (by simp)
  replace bx := bx.alloc (.cells #[.int .i64 p1, .int .i64 q1] 36)
  replace b2 := b2.alloc (.cells #[.int .i64 p1, .int .i64 q1] 36)
  replace hX := (RS.below hX (w' := (w10.alloc (.cells #[.int .i64 p1, .int .i64 q1] 36))) (Below.alloc (Below.refl _ _) (Nat.le_refl _) _)).more (B' := (w10.alloc (.cells #[.int .i64 p1, .int .i64 q1] 36)).heap.size) (by simp)
  replace hv := (RS.below hv (w' := (w10.alloc (.cells #[.int .i64 p1, .int .i64 q1] 36))) (Below.alloc (Below.refl _ _) (Nat.le_refl _) _)).more (B' := (w10.alloc (.cells #[.int .i64 p1, .int .i64 q1] 36)).heap.size) (by simp)
  replace xx := xx.alloc (.cells #[.int .i64 p1, .int .i64 q1] 36)
  replace r1 := r1.alloc (.cells #[.int .i64 p1, .int .i64 q1] 36)
  replace r2 := r2.alloc (.cells #[.int .i64 p1, .int .i64 q1] 36)
  replace h31 := (RS.below h31 (w' := (w10.alloc (.cells #[.int .i64 p1, .int .i64 q1] 36))) (Below.alloc (Below.refl _ _) (Nat.le_refl _) _)).more (B' := (w10.alloc (.cells #[.int .i64 p1, .int .i64 q1] 36)).heap.size) (by simp)
  replace h41 := (RS.below h41 (w' := (w10.alloc (.cells #[.int .i64 p1, .int .i64 q1] 36))) (Below.alloc (Below.refl _ _) (Nat.le_refl _) _)).more (B' := (w10.alloc (.cells #[.int .i64 p1, .int .i64 q1] 36)).heap.size) (by simp)
  replace h51 := (RS.below h51 (w' := (w10.alloc (.cells #[.int .i64 p1, .int .i64 q1] 36))) (Below.alloc (Below.refl _ _) (Nat.le_refl _) _)).more (B' := (w10.alloc (.cells #[.int .i64 p1, .int .i64 q1] 36)).heap.size) (by simp)
  generalize (w10.alloc (.cells #[.int .i64 p1, .int .i64 q1] 36)) = Wr5 at *
  clear hm4
  obtain ⟨b_l, o_l, HLB, HCA, HCZ⟩ : ∃ b o : Nat, Al = some ⟨b, o, none⟩ ∧ True ∧ True := by
    obtain ⟨Al', cl', bb, off, hve, hAx, hcx⟩ := RI.cells hv
    obtain ⟨rfl, hbb⟩ := hAx (by have := HLL.out; omega)
    injection hve with q1' q2' q3'
    exact ⟨bb, off, q1', trivial, trivial⟩
  subst HLB
  clear HCA HCZ
  have hcl := RI.cells hv
  obtain ⟨Al', cl', bb, off, hve, hAx, hcx⟩ := hcl
  obtain ⟨hA', hbb⟩ := hAx (by have := HLL.out; omega)
  rw [hA'] at hve
  injection hve with q1' q2' q3'
  injection q1' with q1'
  injection q1' with q4' q5'
  subst q4' q5'
  have c0 := hcx a (by have := HLL.out; omega)
  have c1 := hcx z (by have := HLL.out; omega)
  rw [H7.out] at c0
  rw [H8.out] at c1
  clear hAx hcx q2' q3' hA'
  have fa : (a : Int) < (N : Int) := by omega
  have fz : (z : Int) < (N : Int) := by omega
  have w3' := W3.out
  go_quiet (fail)
  go_upto_region 16 with fail
  clear c0 c1 w3'
  have hb : Below Wr5.heap.size Wr5 (Wr5.drewN nq) := by exact bel_of
  clear hsr5
  replace hC : Below n0 w (Wr5.drewN nq) := hC.trans (hb.mono (by have := hC.size; omega))
  replace hR := (RS.below hR hb).more hb.size
  replace huy := (RS.below huy hb).more hb.size
  replace huc := (RS.below huc hb).more hb.size
  replace bx := bx.below hb bx.lt
  replace b2 := b2.below hb b2.lt
  replace hX := (RS.below hX hb).more hb.size
  replace hv := (RS.below hv hb).more hb.size
  replace xx := xx.below hb xx.lt
  replace r1 := r1.below hb r1.lt
  replace r2 := r2.below hb r2.lt
  replace h31 := (RS.below h31 hb).more hb.size
  replace h41 := (RS.below h41 hb).more hb.size
  replace h51 := (RS.below h51 hb).more hb.size
  replace r5 := r5.below hb r5.lt
  clear hb
  generalize (Wr5.drewN nq) = WT at *
  as_aux_lemma =>
    have hcl := RI.cells hv
    obtain ⟨Al', cl', bb, off, hve, hAx, hcx⟩ := hcl
    obtain ⟨hA', hbb⟩ := hAx (by have := HLL.out; omega)
    rw [hA'] at hve
    injection hve with q1' q2' q3'
    injection q1' with q1'
    injection q1' with q4' q5'
    subst q4' q5'
    have c0 := hcx a (by have := HLL.out; omega)
    have c1 := hcx z (by have := HLL.out; omega)
    rw [H7.out] at c0
    rw [H8.out] at c1
    clear hAx hcx q2' q3' hA'
    clear c1
    have w1 := W1.out
    have w2' := W2.out
    have b1 : decide (d < x1) = false := decide_eq_false (by omega)
    have b2x : decide (y1 < d) = false := decide_eq_false (by omega)
    have b3 : decide (ta < p1) = false := decide_eq_false (by omega)
    have b4 : decide (q1 < ta) = false := decide_eq_false (by omega)
    have lr1 := r1.lt
    have r1c0 := r1.cell 0
    have r1c1 := r1.cell 1
    simp at r1c0 r1c1
    have lr2 := r2.lt
    have r2c0 := r2.cell 0
    have r2c1 := r2.cell 1
    simp at r2c0 r2c1
    have lr5 := r5.lt
    have r5c0 := r5.cell 0
    have r5c1 := r5.cell 1
    simp at r5c0 r5c1
    try simp only [List.append_eq, List.cons_append, List.nil_append]
    refine wp_region_noPanic (plain_any [0, 1, 2, 3, 4, 5, 6, 7, 8, 9, 10, 11, 12, 13, 14, 15, 16, 17, 18, 19, 20, 21, 22, 23, 24, 25, 26, 27, 28, 29, 30, 31, 32, 33, 34, 35, 36, 37, 38, 39, 40, 41, 43, 44, 45, 46, 47, 48, 49, 50, 51, 52, 53, 54, 55, 56, 57, 58, 59, 60, 61, 62] (Below WT.heap.size WT) mixed ?_)
    (refine any_take 0 ?_ (by rfl) (by kernel_rfl) (fun _ _ _ _ _ hx => hx.elim) (.inl ⟨by rfl, ?_⟩) (by exact bel_of) ?_; rotate_left; (intro X hX; obtain ⟨r1, r2⟩ := Below.rules hX; clear hX; go_simp; rfl); simp only [List.getElem_toArray, List.getElem_cons_succ, List.getElem_cons_zero, Act.put, List.setIfInBounds_toArray, List.set_cons_succ, List.set_cons_zero])
    have d0z : Below WT.heap.size WT WT.drew := by exact bel_of
    (refine any_take 1 ?_ (by rfl) (by kernel_rfl) (fun _ _ _ _ _ hx => hx.elim) (.inl ⟨by rfl, ?_⟩) (by exact bel_of) ?_; rotate_left; (intro X hX; obtain ⟨r1, r2⟩ := Below.rules hX; clear hX; go_simp; rfl); simp only [List.getElem_toArray, List.getElem_cons_succ, List.getElem_cons_zero, Act.put, List.setIfInBounds_toArray, List.set_cons_succ, List.set_cons_zero])
    (refine any_take 2 ?_ (by rfl) (by kernel_rfl) (fun _ _ _ _ _ hx => hx.elim) (.inl ⟨by rfl, ?_⟩) (by exact bel_of) ?_; rotate_left; (intro X hX; obtain ⟨r1, r2⟩ := Below.rules hX; clear hX; go_simp; rfl); simp only [List.getElem_toArray, List.getElem_cons_succ, List.getElem_cons_zero, Act.put, List.setIfInBounds_toArray, List.set_cons_succ, List.set_cons_zero])
    (refine any_take 3 ?_ (by rfl) (by kernel_rfl) (fun _ _ _ _ _ hx => hx.elim) (.inl ⟨by rfl, ?_⟩) (by exact bel_of) ?_; rotate_left; (intro X hX; obtain ⟨r1, r2⟩ := Below.rules hX; clear hX; go_simp; rfl); simp only [List.getElem_toArray, List.getElem_cons_succ, List.getElem_cons_zero, Act.put, List.setIfInBounds_toArray, List.set_cons_succ, List.set_cons_zero])
    (refine any_take 4 ?_ (by rfl) (by kernel_rfl) (fun _ _ _ _ _ hx => hx.elim) (.inl ⟨by rfl, ?_⟩) (by exact bel_of) ?_; rotate_left; (intro X hX; obtain ⟨r1, r2⟩ := Below.rules hX; clear hX; go_simp; rfl); simp only [List.getElem_toArray, List.getElem_cons_succ, List.getElem_cons_zero, Act.put, List.setIfInBounds_toArray, List.set_cons_succ, List.set_cons_zero])
    (refine any_take 5 ?_ (by rfl) (by kernel_rfl) (fun _ _ _ _ _ hx => hx.elim) (.inl ⟨by rfl, ?_⟩) (by exact bel_of) ?_; rotate_left; (intro X hX; obtain ⟨r1, r2⟩ := Below.rules hX; clear hX; go_simp; rfl); simp only [List.getElem_toArray, List.getElem_cons_succ, List.getElem_cons_zero, Act.put, List.setIfInBounds_toArray, List.set_cons_succ, List.set_cons_zero])
    (refine any_take 6 ?_ (by rfl) (by kernel_rfl) (fun _ _ _ _ _ hx => hx.elim) (.inl ⟨by rfl, ?_⟩) (by exact bel_of) ?_; rotate_left; (intro X hX; obtain ⟨r1, r2⟩ := Below.rules hX; clear hX; go_simp; rfl); simp only [List.getElem_toArray, List.getElem_cons_succ, List.getElem_cons_zero, Act.put, List.setIfInBounds_toArray, List.set_cons_succ, List.set_cons_zero])
    (refine any_take 7 ?_ (by rfl) (by kernel_rfl) (fun _ _ _ _ _ hx => hx.elim) (.inl ⟨by rfl, ?_⟩) (by exact bel_of) ?_; rotate_left; (intro X hX; obtain ⟨r1, r2⟩ := Below.rules hX; clear hX; go_simp; rfl); simp only [List.getElem_toArray, List.getElem_cons_succ, List.getElem_cons_zero, Act.put, List.setIfInBounds_toArray, List.set_cons_succ, List.set_cons_zero])
    (refine any_take 8 ?_ (by rfl) (by kernel_rfl) (fun _ _ _ _ _ hx => hx.elim) (.inl ⟨by rfl, ?_⟩) (by exact bel_of) ?_; rotate_left; (intro X hX; obtain ⟨r1, r2⟩ := Below.rules hX; clear hX; go_simp; rfl); simp only [List.getElem_toArray, List.getElem_cons_succ, List.getElem_cons_zero, Act.put, List.setIfInBounds_toArray, List.set_cons_succ, List.set_cons_zero])
    (refine any_take 9 ?_ (by rfl) (by kernel_rfl) (fun _ _ _ _ _ hx => hx.elim) (.inl ⟨by rfl, ?_⟩) (by exact bel_of) ?_; rotate_left; (intro X hX; obtain ⟨r1, r2⟩ := Below.rules hX; clear hX; go_simp; rfl); simp only [List.getElem_toArray, List.getElem_cons_succ, List.getElem_cons_zero, Act.put, List.setIfInBounds_toArray, List.set_cons_succ, List.set_cons_zero])
    (refine any_take 10 ?_ (by rfl) (by kernel_rfl) (fun _ _ _ _ _ hx => hx.elim) (.inl ⟨by rfl, ?_⟩) (by exact bel_of) ?_; rotate_left; (intro X hX; obtain ⟨r1, r2⟩ := Below.rules hX; clear hX; go_simp; rfl); simp only [List.getElem_toArray, List.getElem_cons_succ, List.getElem_cons_zero, Act.put, List.setIfInBounds_toArray, List.set_cons_succ, List.set_cons_zero])
    (refine any_take 11 ?_ (by rfl) (by kernel_rfl) (fun _ _ _ _ _ hx => hx.elim) (.inl ⟨by rfl, ?_⟩) (by exact bel_of) ?_; rotate_left; (intro X hX; obtain ⟨r1, r2⟩ := Below.rules hX; clear hX; go_simp; rfl); simp only [List.getElem_toArray, List.getElem_cons_succ, List.getElem_cons_zero, Act.put, List.setIfInBounds_toArray, List.set_cons_succ, List.set_cons_zero])
    as_aux_lemma =>
      (refine any_take 12 ?_ (by rfl) (by kernel_rfl) (fun _ _ _ _ _ hx => hx.elim) (.inl ⟨by rfl, ?_⟩) (by exact bel_of) ?_; rotate_left; (intro X hX; obtain ⟨r1, r2⟩ := Below.rules hX; clear hX; go_simp; rfl); simp only [List.getElem_toArray, List.getElem_cons_succ, List.getElem_cons_zero, Act.put, List.setIfInBounds_toArray, List.set_cons_succ, List.set_cons_zero])
      (refine any_take 13 ?_ (by rfl) (by kernel_rfl) (fun _ _ _ _ _ hx => hx.elim) (.inl ⟨by rfl, ?_⟩) (by exact bel_of) ?_; rotate_left; (intro X hX; obtain ⟨r1, r2⟩ := Below.rules hX; clear hX; go_simp; rfl); simp only [List.getElem_toArray, List.getElem_cons_succ, List.getElem_cons_zero, Act.put, List.setIfInBounds_toArray, List.set_cons_succ, List.set_cons_zero])
      (refine any_take 14 ?_ (by rfl) (by kernel_rfl) (fun _ _ _ _ _ hx => hx.elim) (.inl ⟨by rfl, ?_⟩) (by exact bel_of) ?_; rotate_left; (intro X hX; obtain ⟨r1, r2⟩ := Below.rules hX; clear hX; go_simp; rfl); simp only [List.getElem_toArray, List.getElem_cons_succ, List.getElem_cons_zero, Act.put, List.setIfInBounds_toArray, List.set_cons_succ, List.set_cons_zero])
      (refine any_take 15 ?_ (by rfl) (by kernel_rfl) (fun _ _ _ _ _ hx => hx.elim) (.inl ⟨by rfl, ?_⟩) (by exact bel_of) ?_; rotate_left; (intro X hX; obtain ⟨r1, r2⟩ := Below.rules hX; clear hX; go_simp; rfl); simp only [List.getElem_toArray, List.getElem_cons_succ, List.getElem_cons_zero, Act.put, List.setIfInBounds_toArray, List.set_cons_succ, List.set_cons_zero])
      (refine any_take 16 ?_ (by rfl) (by kernel_rfl) (fun _ _ _ _ _ hx => hx.elim) (.inl ⟨by rfl, ?_⟩) (by exact bel_of) ?_; rotate_left; (intro X hX; obtain ⟨r1, r2⟩ := Below.rules hX; clear hX; go_simp; rfl); simp only [List.getElem_toArray, List.getElem_cons_succ, List.getElem_cons_zero, Act.put, List.setIfInBounds_toArray, List.set_cons_succ, List.set_cons_zero])
      (refine any_take 17 ?_ (by rfl) (by kernel_rfl) (fun _ _ _ _ _ hx => hx.elim) (.inl ⟨by rfl, ?_⟩) (by exact bel_of) ?_; rotate_left; (intro X hX; obtain ⟨r1, r2⟩ := Below.rules hX; clear hX; go_simp; rfl); simp only [List.getElem_toArray, List.getElem_cons_succ, List.getElem_cons_zero, Act.put, List.setIfInBounds_toArray, List.set_cons_succ, List.set_cons_zero])
      (refine any_take 18 ?_ (by rfl) (by kernel_rfl) (fun _ _ _ _ _ hx => hx.elim) (.inl ⟨by rfl, ?_⟩) (by exact bel_of) ?_; rotate_left; (intro X hX; obtain ⟨r1, r2⟩ := Below.rules hX; clear hX; go_simp; rfl); simp only [List.getElem_toArray, List.getElem_cons_succ, List.getElem_cons_zero, Act.put, List.setIfInBounds_toArray, List.set_cons_succ, List.set_cons_zero])
      (refine any_take 19 ?_ (by rfl) (by kernel_rfl) (fun _ _ _ _ _ hx => hx.elim) (.inl ⟨by rfl, ?_⟩) (by exact bel_of) ?_; rotate_left; (intro X hX; obtain ⟨r1, r2⟩ := Below.rules hX; clear hX; go_simp; rfl); simp only [List.getElem_toArray, List.getElem_cons_succ, List.getElem_cons_zero, Act.put, List.setIfInBounds_toArray, List.set_cons_succ, List.set_cons_zero])
      (refine any_take 20 ?_ (by rfl) (by kernel_rfl) (fun _ _ _ _ _ hx => hx.elim) (.inl ⟨by rfl, ?_⟩) (by exact bel_of) ?_; rotate_left; (intro X hX; obtain ⟨r1, r2⟩ := Below.rules hX; clear hX; go_simp; rfl); simp only [List.getElem_toArray, List.getElem_cons_succ, List.getElem_cons_zero, Act.put, List.setIfInBounds_toArray, List.set_cons_succ, List.set_cons_zero])
      (refine any_take 21 ?_ (by rfl) (by kernel_rfl) (fun _ _ _ _ _ hx => hx.elim) (.inl ⟨by rfl, ?_⟩) (by exact bel_of) ?_; rotate_left; (intro X hX; obtain ⟨r1, r2⟩ := Below.rules hX; clear hX; go_simp; rfl); simp only [List.getElem_toArray, List.getElem_cons_succ, List.getElem_cons_zero, Act.put, List.setIfInBounds_toArray, List.set_cons_succ, List.set_cons_zero])
      (refine any_take 22 ?_ (by rfl) (by kernel_rfl) (fun _ _ _ _ _ hx => hx.elim) (.inl ⟨by rfl, ?_⟩) (by exact bel_of) ?_; rotate_left; (intro X hX; obtain ⟨r1, r2⟩ := Below.rules hX; clear hX; go_simp; rfl); simp only [List.getElem_toArray, List.getElem_cons_succ, List.getElem_cons_zero, Act.put, List.setIfInBounds_toArray, List.set_cons_succ, List.set_cons_zero])
      (refine any_take 23 ?_ (by rfl) (by kernel_rfl) (fun _ _ _ _ _ hx => hx.elim) (.inl ⟨by rfl, ?_⟩) (by exact bel_of) ?_; rotate_left; (intro X hX; obtain ⟨r1, r2⟩ := Below.rules hX; clear hX; go_simp; rfl); simp only [List.getElem_toArray, List.getElem_cons_succ, List.getElem_cons_zero, Act.put, List.setIfInBounds_toArray, List.set_cons_succ, List.set_cons_zero])
      (refine any_take 24 ?_ (by rfl) (by kernel_rfl) (fun _ _ _ _ _ hx => hx.elim) (.inl ⟨by rfl, ?_⟩) (by exact bel_of) ?_; rotate_left; (intro X hX; obtain ⟨r1, r2⟩ := Below.rules hX; clear hX; go_simp; rfl); simp only [List.getElem_toArray, List.getElem_cons_succ, List.getElem_cons_zero, Act.put, List.setIfInBounds_toArray, List.set_cons_succ, List.set_cons_zero])
      as_aux_lemma =>
        (refine any_take 25 ?_ (by rfl) (by kernel_rfl) (fun _ _ _ _ _ hx => hx.elim) (.inl ⟨by rfl, ?_⟩) (by exact bel_of) ?_; rotate_left; (intro X hX; obtain ⟨r1, r2⟩ := Below.rules hX; clear hX; go_simp; rfl); simp only [List.getElem_toArray, List.getElem_cons_succ, List.getElem_cons_zero, Act.put, List.setIfInBounds_toArray, List.set_cons_succ, List.set_cons_zero])
        (refine any_take 26 ?_ (by rfl) (by kernel_rfl) (fun _ _ _ _ _ hx => hx.elim) (.inl ⟨by rfl, ?_⟩) (by exact bel_of) ?_; rotate_left; (intro X hX; obtain ⟨r1, r2⟩ := Below.rules hX; clear hX; go_simp; rfl); simp only [List.getElem_toArray, List.getElem_cons_succ, List.getElem_cons_zero, Act.put, List.setIfInBounds_toArray, List.set_cons_succ, List.set_cons_zero])
        (refine any_take 27 ?_ (by rfl) (by kernel_rfl) (fun _ _ _ _ _ hx => hx.elim) (.inl ⟨by rfl, ?_⟩) (by exact bel_of) ?_; rotate_left; (intro X hX; obtain ⟨r1, r2⟩ := Below.rules hX; clear hX; go_simp; rfl); simp only [List.getElem_toArray, List.getElem_cons_succ, List.getElem_cons_zero, Act.put, List.setIfInBounds_toArray, List.set_cons_succ, List.set_cons_zero])
        (refine any_take 28 ?_ (by rfl) (by kernel_rfl) (fun _ _ _ _ _ hx => hx.elim) (.inl ⟨by rfl, ?_⟩) (by exact bel_of) ?_; rotate_left; (intro X hX; obtain ⟨r1, r2⟩ := Below.rules hX; clear hX; go_simp; rfl); simp only [List.getElem_toArray, List.getElem_cons_succ, List.getElem_cons_zero, Act.put, List.setIfInBounds_toArray, List.set_cons_succ, List.set_cons_zero])
        (refine any_take 29 ?_ (by rfl) (by kernel_rfl) (fun _ _ _ _ _ hx => hx.elim) (.inl ⟨by rfl, ?_⟩) (by exact bel_of) ?_; rotate_left; (intro X hX; obtain ⟨r1, r2⟩ := Below.rules hX; clear hX; go_simp; rfl); simp only [List.getElem_toArray, List.getElem_cons_succ, List.getElem_cons_zero, Act.put, List.setIfInBounds_toArray, List.set_cons_succ, List.set_cons_zero])
        (refine any_take 30 ?_ (by rfl) (by kernel_rfl) (fun _ _ _ _ _ hx => hx.elim) (.inl ⟨by rfl, ?_⟩) (by exact bel_of) ?_; rotate_left; (intro X hX; obtain ⟨r1, r2⟩ := Below.rules hX; clear hX; go_simp; rfl); simp only [List.getElem_toArray, List.getElem_cons_succ, List.getElem_cons_zero, Act.put, List.setIfInBounds_toArray, List.set_cons_succ, List.set_cons_zero])
        (refine any_take 31 ?_ (by rfl) (by kernel_rfl) (fun _ _ _ _ _ hx => hx.elim) (.inl ⟨by rfl, ?_⟩) (by exact bel_of) ?_; rotate_left; (intro X hX; obtain ⟨r1, r2⟩ := Below.rules hX; clear hX; go_simp; rfl); simp only [List.getElem_toArray, List.getElem_cons_succ, List.getElem_cons_zero, Act.put, List.setIfInBounds_toArray, List.set_cons_succ, List.set_cons_zero])
        (refine any_take 32 ?_ (by rfl) (by kernel_rfl) (fun _ _ _ _ _ hx => hx.elim) (.inl ⟨by rfl, ?_⟩) (by exact bel_of) ?_; rotate_left; (intro X hX; obtain ⟨r1, r2⟩ := Below.rules hX; clear hX; go_simp; rfl); simp only [List.getElem_toArray, List.getElem_cons_succ, List.getElem_cons_zero, Act.put, List.setIfInBounds_toArray, List.set_cons_succ, List.set_cons_zero])
        (refine any_take 33 ?_ (by rfl) (by kernel_rfl) (fun _ _ _ _ _ hx => hx.elim) (.inl ⟨by rfl, ?_⟩) (by exact bel_of) ?_; rotate_left; (intro X hX; obtain ⟨r1, r2⟩ := Below.rules hX; clear hX; go_simp; rfl); simp only [List.getElem_toArray, List.getElem_cons_succ, List.getElem_cons_zero, Act.put, List.setIfInBounds_toArray, List.set_cons_succ, List.set_cons_zero])
        (refine any_take 34 ?_ (by rfl) (by kernel_rfl) (fun _ _ _ _ _ hx => hx.elim) (.inl ⟨by rfl, ?_⟩) (by exact bel_of) ?_; rotate_left; (intro X hX; obtain ⟨r1, r2⟩ := Below.rules hX; clear hX; go_simp; rfl); simp only [List.getElem_toArray, List.getElem_cons_succ, List.getElem_cons_zero, Act.put, List.setIfInBounds_toArray, List.set_cons_succ, List.set_cons_zero])
        (refine any_take 35 ?_ (by rfl) (by kernel_rfl) (fun _ _ _ _ _ hx => hx.elim) (.inl ⟨by rfl, ?_⟩) (by exact bel_of) ?_; rotate_left; (intro X hX; obtain ⟨r1, r2⟩ := Below.rules hX; clear hX; go_simp; rfl); simp only [List.getElem_toArray, List.getElem_cons_succ, List.getElem_cons_zero, Act.put, List.setIfInBounds_toArray, List.set_cons_succ, List.set_cons_zero])
        (refine any_take 36 ?_ (by rfl) (by kernel_rfl) (fun _ _ _ _ _ hx => hx.elim) (.inl ⟨by rfl, ?_⟩) (by exact bel_of) ?_; rotate_left; (intro X hX; obtain ⟨r1, r2⟩ := Below.rules hX; clear hX; go_simp; rfl); simp only [List.getElem_toArray, List.getElem_cons_succ, List.getElem_cons_zero, Act.put, List.setIfInBounds_toArray, List.set_cons_succ, List.set_cons_zero])
        (refine any_take 37 ?_ (by rfl) (by kernel_rfl) (fun _ _ _ _ _ hx => hx.elim) (.inl ⟨by rfl, ?_⟩) (by exact bel_of) ?_; rotate_left; (intro X hX; obtain ⟨r1, r2⟩ := Below.rules hX; clear hX; go_simp; rfl); simp only [List.getElem_toArray, List.getElem_cons_succ, List.getElem_cons_zero, Act.put, List.setIfInBounds_toArray, List.set_cons_succ, List.set_cons_zero])
        as_aux_lemma =>
          (refine any_take 38 ?_ (by rfl) (by kernel_rfl) (fun _ _ _ _ _ hx => hx.elim) (.inl ⟨by rfl, ?_⟩) (by exact bel_of) ?_; rotate_left; (intro X hX; obtain ⟨r1, r2⟩ := Below.rules hX; clear hX; go_simp; rfl); simp only [List.getElem_toArray, List.getElem_cons_succ, List.getElem_cons_zero, Act.put, List.setIfInBounds_toArray, List.set_cons_succ, List.set_cons_zero])
          (refine any_take 39 ?_ (by rfl) (by kernel_rfl) (fun _ _ _ _ _ hx => hx.elim) (.inl ⟨by rfl, ?_⟩) (by exact bel_of) ?_; rotate_left; (intro X hX; obtain ⟨r1, r2⟩ := Below.rules hX; clear hX; go_simp; rfl); simp only [List.getElem_toArray, List.getElem_cons_succ, List.getElem_cons_zero, Act.put, List.setIfInBounds_toArray, List.set_cons_succ, List.set_cons_zero])
          (refine any_take 40 ?_ (by rfl) (by kernel_rfl) (fun _ _ _ _ _ hx => hx.elim) (.inl ⟨by rfl, ?_⟩) (by exact bel_of) ?_; rotate_left; (intro X hX; obtain ⟨r1, r2⟩ := Below.rules hX; clear hX; go_simp; rfl); simp only [List.getElem_toArray, List.getElem_cons_succ, List.getElem_cons_zero, Act.put, List.setIfInBounds_toArray, List.set_cons_succ, List.set_cons_zero])
          (refine any_take 41 ?_ (by rfl) (by kernel_rfl) (fun _ _ _ _ _ hx => hx.elim) (.inl ⟨by rfl, ?_⟩) (by exact bel_of) ?_; rotate_left; (intro X hX; obtain ⟨r1, r2⟩ := Below.rules hX; clear hX; go_simp; rfl); simp only [List.getElem_toArray, List.getElem_cons_succ, List.getElem_cons_zero, Act.put, List.setIfInBounds_toArray, List.set_cons_succ, List.set_cons_zero])
          have qz1 := d0z.size
          refine any_run1 (i := 42) (by kernel_rfl) (by rfl) (by kernel_rfl) ?_
          intro K hK
          go_wp2_with fail
          refine (rg_any n1 n2 _).mono ?_
          rintro e vz1 ⟨rfl, hb⟩
          have ez1 : Below WT.heap.size WT vz1 := d0z.trans (hb.mono d0z.size)
          clear hb
          refine hK _ _ (fun _ => ez1) ?_
          clear hK K
          (refine any_take 43 ?_ (by rfl) (by kernel_rfl) (fun _ _ _ _ _ hx => hx.elim) (.inl ⟨by rfl, ?_⟩) (by exact bel_of) ?_; rotate_left; (intro X hX; obtain ⟨r1, r2⟩ := Below.rules hX; clear hX; go_simp; rfl); simp only [List.getElem_toArray, List.getElem_cons_succ, List.getElem_cons_zero, Act.put, List.setIfInBounds_toArray, List.set_cons_succ, List.set_cons_zero])
          (refine any_take 44 ?_ (by rfl) (by kernel_rfl) (fun _ _ _ _ _ hx => hx.elim) (.inl ⟨by rfl, ?_⟩) (by exact bel_of) ?_; rotate_left; (intro X hX; obtain ⟨r1, r2⟩ := Below.rules hX; clear hX; go_simp; rfl); simp only [List.getElem_toArray, List.getElem_cons_succ, List.getElem_cons_zero, Act.put, List.setIfInBounds_toArray, List.set_cons_succ, List.set_cons_zero])
          (refine any_take 45 ?_ (by rfl) (by kernel_rfl) (fun _ _ _ _ _ hx => hx.elim) (.inl ⟨by rfl, ?_⟩) (by exact bel_of) ?_; rotate_left; (intro X hX; obtain ⟨r1, r2⟩ := Below.rules hX; clear hX; go_simp; rfl); simp only [List.getElem_toArray, List.getElem_cons_succ, List.getElem_cons_zero, Act.put, List.setIfInBounds_toArray, List.set_cons_succ, List.set_cons_zero])
          (refine any_take 46 ?_ (by rfl) (by kernel_rfl) (fun _ _ _ _ _ hx => hx.elim) (.inl ⟨by rfl, ?_⟩) (by exact bel_of) ?_; rotate_left; (intro X hX; obtain ⟨r1, r2⟩ := Below.rules hX; clear hX; go_simp; rfl); simp only [List.getElem_toArray, List.getElem_cons_succ, List.getElem_cons_zero, Act.put, List.setIfInBounds_toArray, List.set_cons_succ, List.set_cons_zero])
          (refine any_take 47 ?_ (by rfl) (by kernel_rfl) (fun _ _ _ _ _ hx => hx.elim) (.inl ⟨by rfl, ?_⟩) (by exact bel_of) ?_; rotate_left; (intro X hX; obtain ⟨r1, r2⟩ := Below.rules hX; clear hX; go_simp; rfl); simp only [List.getElem_toArray, List.getElem_cons_succ, List.getElem_cons_zero, Act.put, List.setIfInBounds_toArray, List.set_cons_succ, List.set_cons_zero])
          (refine any_take 48 ?_ (by rfl) (by kernel_rfl) (fun _ _ _ _ _ hx => hx.elim) (.inl ⟨by rfl, ?_⟩) (by exact bel_of) ?_; rotate_left; (intro X hX; obtain ⟨r1, r2⟩ := Below.rules hX; clear hX; go_simp; rfl); simp only [List.getElem_toArray, List.getElem_cons_succ, List.getElem_cons_zero, Act.put, List.setIfInBounds_toArray, List.set_cons_succ, List.set_cons_zero])
          (refine any_take 49 ?_ (by rfl) (by kernel_rfl) (fun _ _ _ _ _ hx => hx.elim) (.inl ⟨by rfl, ?_⟩) (by exact bel_of) ?_; rotate_left; (intro X hX; obtain ⟨r1, r2⟩ := Below.rules hX; clear hX; go_simp; rfl); simp only [List.getElem_toArray, List.getElem_cons_succ, List.getElem_cons_zero, Act.put, List.setIfInBounds_toArray, List.set_cons_succ, List.set_cons_zero])
          (refine any_take 50 ?_ (by rfl) (by kernel_rfl) (fun _ _ _ _ _ hx => hx.elim) (.inl ⟨by rfl, ?_⟩) (by exact bel_of) ?_; rotate_left; (intro X hX; obtain ⟨r1, r2⟩ := Below.rules hX; clear hX; go_simp; rfl); simp only [List.getElem_toArray, List.getElem_cons_succ, List.getElem_cons_zero, Act.put, List.setIfInBounds_toArray, List.set_cons_succ, List.set_cons_zero])
          (refine any_take 51 ?_ (by rfl) (by kernel_rfl) (fun _ _ _ _ _ hx => hx.elim) (.inl ⟨by rfl, ?_⟩) (by exact bel_of) ?_; rotate_left; (intro X hX; obtain ⟨r1, r2⟩ := Below.rules hX; clear hX; go_simp; rfl); simp only [List.getElem_toArray, List.getElem_cons_succ, List.getElem_cons_zero, Act.put, List.setIfInBounds_toArray, List.set_cons_succ, List.set_cons_zero])
          as_aux_lemma =>
            (refine any_take 52 ?_ (by rfl) (by kernel_rfl) (fun _ _ _ _ _ hx => hx.elim) (.inl ⟨by rfl, ?_⟩) (by exact bel_of) ?_; rotate_left; (intro X hX; obtain ⟨r1, r2⟩ := Below.rules hX; clear hX; go_simp; rfl); simp only [List.getElem_toArray, List.getElem_cons_succ, List.getElem_cons_zero, Act.put, List.setIfInBounds_toArray, List.set_cons_succ, List.set_cons_zero])
            (refine any_take 53 ?_ (by rfl) (by kernel_rfl) (fun _ _ _ _ _ hx => hx.elim) (.inl ⟨by rfl, ?_⟩) (by exact bel_of) ?_; rotate_left; (intro X hX; obtain ⟨r1, r2⟩ := Below.rules hX; clear hX; go_simp; rfl); simp only [List.getElem_toArray, List.getElem_cons_succ, List.getElem_cons_zero, Act.put, List.setIfInBounds_toArray, List.set_cons_succ, List.set_cons_zero])
            (refine any_take 54 ?_ (by rfl) (by kernel_rfl) (fun _ _ _ _ _ hx => hx.elim) (.inl ⟨by rfl, ?_⟩) (by exact bel_of) ?_; rotate_left; (intro X hX; obtain ⟨r1, r2⟩ := Below.rules hX; clear hX; go_simp; rfl); simp only [List.getElem_toArray, List.getElem_cons_succ, List.getElem_cons_zero, Act.put, List.setIfInBounds_toArray, List.set_cons_succ, List.set_cons_zero])
            (refine any_take 55 ?_ (by rfl) (by kernel_rfl) (fun _ _ _ _ _ hx => hx.elim) (.inl ⟨by rfl, ?_⟩) (by exact bel_of) ?_; rotate_left; (intro X hX; obtain ⟨r1, r2⟩ := Below.rules hX; clear hX; go_simp; rfl); simp only [List.getElem_toArray, List.getElem_cons_succ, List.getElem_cons_zero, Act.put, List.setIfInBounds_toArray, List.set_cons_succ, List.set_cons_zero])
            (refine any_take 56 ?_ (by rfl) (by kernel_rfl) (fun _ _ _ _ _ hx => hx.elim) (.inl ⟨by rfl, ?_⟩) (by exact bel_of) ?_; rotate_left; (intro X hX; obtain ⟨r1, r2⟩ := Below.rules hX; clear hX; go_simp; rfl); simp only [List.getElem_toArray, List.getElem_cons_succ, List.getElem_cons_zero, Act.put, List.setIfInBounds_toArray, List.set_cons_succ, List.set_cons_zero])
            (refine any_take 57 ?_ (by rfl) (by kernel_rfl) (fun _ _ _ _ _ hx => hx.elim) (.inl ⟨by rfl, ?_⟩) (by exact bel_of) ?_; rotate_left; (intro X hX; obtain ⟨r1, r2⟩ := Below.rules hX; clear hX; go_simp; rfl); simp only [List.getElem_toArray, List.getElem_cons_succ, List.getElem_cons_zero, Act.put, List.setIfInBounds_toArray, List.set_cons_succ, List.set_cons_zero])
            (refine any_take 58 ?_ (by rfl) (by kernel_rfl) (fun _ _ _ _ _ hx => hx.elim) (.inl ⟨by rfl, ?_⟩) (by exact bel_of) ?_; rotate_left; (intro X hX; obtain ⟨r1, r2⟩ := Below.rules hX; clear hX; go_simp; rfl); simp only [List.getElem_toArray, List.getElem_cons_succ, List.getElem_cons_zero, Act.put, List.setIfInBounds_toArray, List.set_cons_succ, List.set_cons_zero])
            (refine any_take 59 ?_ (by rfl) (by kernel_rfl) (fun _ _ _ _ _ hx => hx.elim) (.inl ⟨by rfl, ?_⟩) (by exact bel_of) ?_; rotate_left; (intro X hX; obtain ⟨r1, r2⟩ := Below.rules hX; clear hX; go_simp; rfl); simp only [List.getElem_toArray, List.getElem_cons_succ, List.getElem_cons_zero, Act.put, List.setIfInBounds_toArray, List.set_cons_succ, List.set_cons_zero])
            (refine any_take 60 ?_ (by rfl) (by kernel_rfl) (fun _ _ _ _ _ hx => hx.elim) (.inl ⟨by rfl, ?_⟩) (by exact bel_of) ?_; rotate_left; (intro X hX; obtain ⟨r1, r2⟩ := Below.rules hX; clear hX; go_simp; rfl); simp only [List.getElem_toArray, List.getElem_cons_succ, List.getElem_cons_zero, Act.put, List.setIfInBounds_toArray, List.set_cons_succ, List.set_cons_zero])
            (refine any_take 61 ?_ (by rfl) (by kernel_rfl) (fun _ _ _ _ _ hx => hx.elim) (.inl ⟨by rfl, ?_⟩) (by exact bel_of) ?_; rotate_left; (intro X hX; obtain ⟨r1, r2⟩ := Below.rules hX; clear hX; go_simp; rfl); simp only [List.getElem_toArray, List.getElem_cons_succ, List.getElem_cons_zero, Act.put, List.setIfInBounds_toArray, List.set_cons_succ, List.set_cons_zero])
            (refine any_take 62 ?_ (by rfl) (by kernel_rfl) (fun _ _ _ _ _ hx => hx.elim) (.inl ⟨by rfl, ?_⟩) (by exact bel_of) ?_; rotate_left; (intro X hX; obtain ⟨r1, r2⟩ := Below.rules hX; clear hX; go_simp; rfl); simp only [List.getElem_toArray, List.getElem_cons_succ, List.getElem_cons_zero, Act.put, List.setIfInBounds_toArray, List.set_cons_succ, List.set_cons_zero])
            refine any_done (by kernel_rfl) (NoPanic.normal ?_)
            have hb := ez1
            replace hC : Below n0 w vz1 := hC.trans (hb.mono (by have := hC.size; omega))
            replace hR := (RS.below hR hb).more hb.size
            replace huy := (RS.below huy hb).more hb.size
            replace huc := (RS.below huc hb).more hb.size
            replace bx := bx.below hb bx.lt
            replace b2 := b2.below hb b2.lt
            replace hX := (RS.below hX hb).more hb.size
            replace hv := (RS.below hv hb).more hb.size
            replace xx := xx.below hb xx.lt
            replace r1 := r1.below hb r1.lt
            replace r2 := r2.below hb r2.lt
            replace h31 := (RS.below h31 hb).more hb.size
            replace h41 := (RS.below h41 hb).more hb.size
            replace h51 := (RS.below h51 hb).more hb.size
            replace r5 := r5.below hb r5.lt
            clear hb
            clear lr1 r1c0 r1c1
            clear lr2 r2c0 r2c1
            clear lr5 r5c0 r5c1
            clear w1 w2' c0 l1 l2 l3 l4 b1 b2x b3 b4
            as_aux_lemma =>
              have lxx := xx.lt
              have xxc0 := xx.cell 0
              have xxc1 := xx.cell 1
              simp at xxc0 xxc1
              go_wp2_with fail
              clear lxx xxc0 xxc1
              refine (checkChain_any N X c3 _ _ _ (by omega) (by omega) hX h31).mono ?_
              rintro e w11 ⟨rfl, hb⟩
              replace hC : Below n0 w w11 := hC.trans (hb.mono (by have := hC.size; omega))
              replace hR := (RS.below hR hb).more hb.size
              replace huy := (RS.below huy hb).more hb.size
              replace huc := (RS.below huc hb).more hb.size
              replace bx := bx.below hb bx.lt
              replace b2 := b2.below hb b2.lt
              replace hX := (RS.below hX hb).more hb.size
              replace hv := (RS.below hv hb).more hb.size
              replace xx := xx.below hb xx.lt
              replace r1 := r1.below hb r1.lt
              replace r2 := r2.below hb r2.lt
              replace h31 := (RS.below h31 hb).more hb.size
              replace h41 := (RS.below h41 hb).more hb.size
              replace h51 := (RS.below h51 hb).more hb.size
              replace r5 := r5.below hb r5.lt
              clear hb
              unfold resV
              rw [HK.out]
              have lxx := xx.lt
              have xxc0 := xx.cell 0
              have xxc1 := xx.cell 1
              simp at xxc0 xxc1
              go_wp2_with fail
              clear lxx xxc0 xxc1
              refine (refChain_any N X c3 _ _ _ (by omega) (by omega) hX h31).mono ?_
              rintro e w12 ⟨rfl, hb⟩
              replace hC : Below n0 w w12 := hC.trans (hb.mono (by have := hC.size; omega))
              replace hR := (RS.below hR hb).more hb.size
              replace huy := (RS.below huy hb).more hb.size
              replace huc := (RS.below huc hb).more hb.size
              replace bx := bx.below hb bx.lt
              replace b2 := b2.below hb b2.lt
              replace hX := (RS.below hX hb).more hb.size
              replace hv := (RS.below hv hb).more hb.size
              replace xx := xx.below hb xx.lt
              replace r1 := r1.below hb r1.lt
              replace r2 := r2.below hb r2.lt
              replace h31 := (RS.below h31 hb).more hb.size
              replace h41 := (RS.below h41 hb).more hb.size
              replace h51 := (RS.below h51 hb).more hb.size
              replace r5 := r5.below hb r5.lt
              clear hb
              unfold resV
              rw [HK.out]
              as_aux_lemma =>
                have HRO := Lib.hid (reachL_ok HBX.out HOX.out HAX.out hzN)
                have HLO := Lib.hid (leastP_ok HBX.out HOX.out HAX.out)
                obtain ⟨A3, k3', b3, o3, hv3, hA3, hc3⟩ := RL.cells h31
                have hl3 := HL.out
                obtain ⟨rfl, hb3⟩ := hA3 hl3
                injection hv3 with q1' q2' q3'
                subst q1' q3'
                obtain ⟨d1, _, _⟩ := hc3 0 (by omega)
                obtain ⟨_, e2, _⟩ := hc3 (c3.length - 1) (by omega)
                rw [Nat.zero_mul, Nat.add_zero, HS.out] at d1
                rw [HD.out] at e2
                clear hA3 hc3 q2'
                obtain ⟨A4, k4', b4, o4, hv4, hA4, hc4⟩ := RI.cells h41
                rw [reachL_len] at hA4 hc4
                obtain ⟨rfl, hb4⟩ := hA4 (by omega)
                injection hv4 with q1' q2' q3'
                subst q1' q3'
                have z1 := hc4 a haN
                have z2 := hc4 z hzN
                have hpq := HRO.out.2 a haN
                rw [H2.out] at hpq
                obtain ⟨p, hp⟩ : ∃ p, nthI (reachL N X z) a = p := ⟨_, rfl⟩
                obtain ⟨q, hq⟩ : ∃ q, nthI (reachL N X z) z = q := ⟨_, rfl⟩
                rw [hp] at z1 hpq
                rw [hq] at z2 hpq
                clear hA4 hc4 q2' hp hq
                obtain ⟨A5, k5', b5, o5, hv5, hA5, hc5⟩ := RI.cells h51
                rw [leastP_length] at hA5 hc5
                obtain ⟨rfl, hb5⟩ := hA5 (by omega)
                injection hv5 with q1' q2' q3'
                subst q1' q3'
                have z5 := hc5 a haN
                rw [leastP_at haN, H3.out] at z5
                clear hA5 hc5 q2'
                have zl : ((c3.length : Int) - 1).toNat = c3.length - 1 := by omega
                have wj : IntKind.i64.wrap ((c3.length : Int) - 1) = (c3.length : Int) - 1 := by rw [IntKind.wrap_i64]; omega
                have nj : ¬ (c3.length : Int) - 1 < 0 := by omega
                have pj : (0 : Int) ≤ (c3.length : Int) - 1 := by omega
                have qj : (c3.length : Int) - 1 < (c3.length : Int) := by omega
                have q0 : (0 : Int) < (c3.length : Int) := by omega
                have q0n : 0 < c3.length := by omega
                have q1n : c3.length - 1 < c3.length := by omega
                have q2n : (1 : Int) ≤ (c3.length : Int) := by omega
                have hne3 : c3 ≠ [] := fun hx => hl3 (by rw [hx]; rfl)
                have wy : IntKind.i64.wrap (p - q) = y1 := by rw [hpq, IntKind.wrap_i64]; omega
                clear hpq
                rw [reachL_len] at *
                rw [leastP_length] at *
                have lxx := xx.lt
                have xxc0 := xx.cell 0
                have xxc1 := xx.cell 1
                simp at xxc0 xxc1
                have lr1 := r1.lt
                have r1c0 := r1.cell 0
                have r1c1 := r1.cell 1
                simp at r1c0 r1c1
                have lr5 := r5.lt
                have r5c0 := r5.cell 0
                have r5c1 := r5.cell 1
                simp at r5c0 r5c1
                go_upto_region 20 with fail
                try simp only [List.append_eq, List.cons_append, List.nil_append]
                refine wp_region_noPanic (plain_any [0, 1, 2, 3, 4, 5, 6, 7, 8, 9, 10, 11, 12, 13, 14, 15, 16, 17, 18, 19, 20, 21, 22, 23, 24, 25, 26, 27, 28, 29, 30, 31, 32, 33, 34, 35, 36, 37, 38, 39, 41, 42, 43, 44, 45, 47, 48, 49, 50, 51, 52, 53, 54, 55, 56, 57, 58, 59, 60, 61, 62, 63, 64, 65, 67, 68, 69, 70, 71, 73, 74, 75, 76, 77, 78, 79, 80, 81, 82, 83] (Below w12.heap.size w12) mixed ?_)
                (refine any_take 0 ?_ (by rfl) (by kernel_rfl) (fun _ _ _ _ _ hx => hx.elim) (.inl ⟨by rfl, ?_⟩) (by exact bel_of) ?_; rotate_left; (intro X hX; obtain ⟨r1, r2⟩ := Below.rules hX; clear hX; go_simp; rfl); simp only [List.getElem_toArray, List.getElem_cons_succ, List.getElem_cons_zero, Act.put, List.setIfInBounds_toArray, List.set_cons_succ, List.set_cons_zero])
                have d0x : Below w12.heap.size w12 w12.drew := by exact bel_of
                (refine any_take 1 ?_ (by rfl) (by kernel_rfl) (fun _ _ _ _ _ hx => hx.elim) (.inl ⟨by rfl, ?_⟩) (by exact bel_of) ?_; rotate_left; (intro X hX; obtain ⟨r1, r2⟩ := Below.rules hX; clear hX; go_simp; rfl); simp only [List.getElem_toArray, List.getElem_cons_succ, List.getElem_cons_zero, Act.put, List.setIfInBounds_toArray, List.set_cons_succ, List.set_cons_zero])
                (refine any_take 2 ?_ (by rfl) (by kernel_rfl) (fun _ _ _ _ _ hx => hx.elim) (.inl ⟨by rfl, ?_⟩) (by exact bel_of) ?_; rotate_left; (intro X hX; obtain ⟨r1, r2⟩ := Below.rules hX; clear hX; go_simp; rfl); simp only [List.getElem_toArray, List.getElem_cons_succ, List.getElem_cons_zero, Act.put, List.setIfInBounds_toArray, List.set_cons_succ, List.set_cons_zero])
                (refine any_take 3 ?_ (by rfl) (by kernel_rfl) (fun _ _ _ _ _ hx => hx.elim) (.inl ⟨by rfl, ?_⟩) (by exact bel_of) ?_; rotate_left; (intro X hX; obtain ⟨r1, r2⟩ := Below.rules hX; clear hX; go_simp; rfl); simp only [List.getElem_toArray, List.getElem_cons_succ, List.getElem_cons_zero, Act.put, List.setIfInBounds_toArray, List.set_cons_succ, List.set_cons_zero])
                (refine any_take 4 ?_ (by rfl) (by kernel_rfl) (fun _ _ _ _ _ hx => hx.elim) (.inl ⟨by rfl, ?_⟩) (by exact bel_of) ?_; rotate_left; (intro X hX; obtain ⟨r1, r2⟩ := Below.rules hX; clear hX; go_simp; rfl); simp only [List.getElem_toArray, List.getElem_cons_succ, List.getElem_cons_zero, Act.put, List.setIfInBounds_toArray, List.set_cons_succ, List.set_cons_zero])
                (refine any_take 5 ?_ (by rfl) (by kernel_rfl) (fun _ _ _ _ _ hx => hx.elim) (.inl ⟨by rfl, ?_⟩) (by exact bel_of) ?_; rotate_left; (intro X hX; obtain ⟨r1, r2⟩ := Below.rules hX; clear hX; go_simp; rfl); simp only [List.getElem_toArray, List.getElem_cons_succ, List.getElem_cons_zero, Act.put, List.setIfInBounds_toArray, List.set_cons_succ, List.set_cons_zero])
                (refine any_take 6 ?_ (by rfl) (by kernel_rfl) (fun _ _ _ _ _ hx => hx.elim) (.inl ⟨by rfl, ?_⟩) (by exact bel_of) ?_; rotate_left; (intro X hX; obtain ⟨r1, r2⟩ := Below.rules hX; clear hX; go_simp; rfl); simp only [List.getElem_toArray, List.getElem_cons_succ, List.getElem_cons_zero, Act.put, List.setIfInBounds_toArray, List.set_cons_succ, List.set_cons_zero])
                (refine any_take 7 ?_ (by rfl) (by kernel_rfl) (fun _ _ _ _ _ hx => hx.elim) (.inl ⟨by rfl, ?_⟩) (by exact bel_of) ?_; rotate_left; (intro X hX; obtain ⟨r1, r2⟩ := Below.rules hX; clear hX; go_simp; rfl); simp only [List.getElem_toArray, List.getElem_cons_succ, List.getElem_cons_zero, Act.put, List.setIfInBounds_toArray, List.set_cons_succ, List.set_cons_zero])
                (refine any_take 8 ?_ (by rfl) (by kernel_rfl) (fun _ _ _ _ _ hx => hx.elim) (.inl ⟨by rfl, ?_⟩) (by exact bel_of) ?_; rotate_left; (intro X hX; obtain ⟨r1, r2⟩ := Below.rules hX; clear hX; go_simp; rfl); simp only [List.getElem_toArray, List.getElem_cons_succ, List.getElem_cons_zero, Act.put, List.setIfInBounds_toArray, List.set_cons_succ, List.set_cons_zero])
                (refine any_take 9 ?_ (by rfl) (by kernel_rfl) (fun _ _ _ _ _ hx => hx.elim) (.inl ⟨by rfl, ?_⟩) (by exact bel_of) ?_; rotate_left; (intro X hX; obtain ⟨r1, r2⟩ := Below.rules hX; clear hX; go_simp; rfl); simp only [List.getElem_toArray, List.getElem_cons_succ, List.getElem_cons_zero, Act.put, List.setIfInBounds_toArray, List.set_cons_succ, List.set_cons_zero])
                (refine any_take 10 ?_ (by rfl) (by kernel_rfl) (fun _ _ _ _ _ hx => hx.elim) (.inl ⟨by rfl, ?_⟩) (by exact bel_of) ?_; rotate_left; (intro X hX; obtain ⟨r1, r2⟩ := Below.rules hX; clear hX; go_simp; rfl); simp only [List.getElem_toArray, List.getElem_cons_succ, List.getElem_cons_zero, Act.put, List.setIfInBounds_toArray, List.set_cons_succ, List.set_cons_zero])
                (refine any_take 11 ?_ (by rfl) (by kernel_rfl) (fun _ _ _ _ _ hx => hx.elim) (.inl ⟨by rfl, ?_⟩) (by exact bel_of) ?_; rotate_left; (intro X hX; obtain ⟨r1, r2⟩ := Below.rules hX; clear hX; go_simp; rfl); simp only [List.getElem_toArray, List.getElem_cons_succ, List.getElem_cons_zero, Act.put, List.setIfInBounds_toArray, List.set_cons_succ, List.set_cons_zero])
                as_aux_lemma =>
                  (refine any_take 12 ?_ (by rfl) (by kernel_rfl) (fun _ _ _ _ _ hx => hx.elim) (.inl ⟨by rfl, ?_⟩) (by exact bel_of) ?_; rotate_left; (intro X hX; obtain ⟨r1, r2⟩ := Below.rules hX; clear hX; go_simp; rfl); simp only [List.getElem_toArray, List.getElem_cons_succ, List.getElem_cons_zero, Act.put, List.setIfInBounds_toArray, List.set_cons_succ, List.set_cons_zero])
                  (refine any_take 13 ?_ (by rfl) (by kernel_rfl) (fun _ _ _ _ _ hx => hx.elim) (.inl ⟨by rfl, ?_⟩) (by exact bel_of) ?_; rotate_left; (intro X hX; obtain ⟨r1, r2⟩ := Below.rules hX; clear hX; go_simp; rfl); simp only [List.getElem_toArray, List.getElem_cons_succ, List.getElem_cons_zero, Act.put, List.setIfInBounds_toArray, List.set_cons_succ, List.set_cons_zero])
                  (refine any_take 14 ?_ (by rfl) (by kernel_rfl) (fun _ _ _ _ _ hx => hx.elim) (.inl ⟨by rfl, ?_⟩) (by exact bel_of) ?_; rotate_left; (intro X hX; obtain ⟨r1, r2⟩ := Below.rules hX; clear hX; go_simp; rfl); simp only [List.getElem_toArray, List.getElem_cons_succ, List.getElem_cons_zero, Act.put, List.setIfInBounds_toArray, List.set_cons_succ, List.set_cons_zero])
                  (refine any_take 15 ?_ (by rfl) (by kernel_rfl) (fun _ _ _ _ _ hx => hx.elim) (.inl ⟨by rfl, ?_⟩) (by exact bel_of) ?_; rotate_left; (intro X hX; obtain ⟨r1, r2⟩ := Below.rules hX; clear hX; go_simp; rfl); simp only [List.getElem_toArray, List.getElem_cons_succ, List.getElem_cons_zero, Act.put, List.setIfInBounds_toArray, List.set_cons_succ, List.set_cons_zero])
                  (refine any_take 16 ?_ (by rfl) (by kernel_rfl) (fun _ _ _ _ _ hx => hx.elim) (.inl ⟨by rfl, ?_⟩) (by exact bel_of) ?_; rotate_left; (intro X hX; obtain ⟨r1, r2⟩ := Below.rules hX; clear hX; go_simp; rfl); simp only [List.getElem_toArray, List.getElem_cons_succ, List.getElem_cons_zero, Act.put, List.setIfInBounds_toArray, List.set_cons_succ, List.set_cons_zero])
                  (refine any_take 17 ?_ (by rfl) (by kernel_rfl) (fun _ _ _ _ _ hx => hx.elim) (.inl ⟨by rfl, ?_⟩) (by exact bel_of) ?_; rotate_left; (intro X hX; obtain ⟨r1, r2⟩ := Below.rules hX; clear hX; go_simp; rfl); simp only [List.getElem_toArray, List.getElem_cons_succ, List.getElem_cons_zero, Act.put, List.setIfInBounds_toArray, List.set_cons_succ, List.set_cons_zero])
                  (refine any_take 18 ?_ (by rfl) (by kernel_rfl) (fun _ _ _ _ _ hx => hx.elim) (.inl ⟨by rfl, ?_⟩) (by exact bel_of) ?_; rotate_left; (intro X hX; obtain ⟨r1, r2⟩ := Below.rules hX; clear hX; go_simp; rfl); simp only [List.getElem_toArray, List.getElem_cons_succ, List.getElem_cons_zero, Act.put, List.setIfInBounds_toArray, List.set_cons_succ, List.set_cons_zero])
                  (refine any_take 19 ?_ (by rfl) (by kernel_rfl) (fun _ _ _ _ _ hx => hx.elim) (.inl ⟨by rfl, ?_⟩) (by exact bel_of) ?_; rotate_left; (intro X hX; obtain ⟨r1, r2⟩ := Below.rules hX; clear hX; go_simp; rfl); simp only [List.getElem_toArray, List.getElem_cons_succ, List.getElem_cons_zero, Act.put, List.setIfInBounds_toArray, List.set_cons_succ, List.set_cons_zero])
                  (refine any_take 20 ?_ (by rfl) (by kernel_rfl) (fun _ _ _ _ _ hx => hx.elim) (.inl ⟨by rfl, ?_⟩) (by exact bel_of) ?_; rotate_left; (intro X hX; obtain ⟨r1, r2⟩ := Below.rules hX; clear hX; go_simp; rfl); simp only [List.getElem_toArray, List.getElem_cons_succ, List.getElem_cons_zero, Act.put, List.setIfInBounds_toArray, List.set_cons_succ, List.set_cons_zero])
                  (refine any_take 21 ?_ (by rfl) (by kernel_rfl) (fun _ _ _ _ _ hx => hx.elim) (.inl ⟨by rfl, ?_⟩) (by exact bel_of) ?_; rotate_left; (intro X hX; obtain ⟨r1, r2⟩ := Below.rules hX; clear hX; go_simp; rfl); simp only [List.getElem_toArray, List.getElem_cons_succ, List.getElem_cons_zero, Act.put, List.setIfInBounds_toArray, List.set_cons_succ, List.set_cons_zero])
                  (refine any_take 22 ?_ (by rfl) (by kernel_rfl) (fun _ _ _ _ _ hx => hx.elim) (.inl ⟨by rfl, ?_⟩) (by exact bel_of) ?_; rotate_left; (intro X hX; obtain ⟨r1, r2⟩ := Below.rules hX; clear hX; go_simp; rfl); simp only [List.getElem_toArray, List.getElem_cons_succ, List.getElem_cons_zero, Act.put, List.setIfInBounds_toArray, List.set_cons_succ, List.set_cons_zero])
                  (refine any_take 23 ?_ (by rfl) (by kernel_rfl) (fun _ _ _ _ _ hx => hx.elim) (.inl ⟨by rfl, ?_⟩) (by exact bel_of) ?_; rotate_left; (intro X hX; obtain ⟨r1, r2⟩ := Below.rules hX; clear hX; go_simp; rfl); simp only [List.getElem_toArray, List.getElem_cons_succ, List.getElem_cons_zero, Act.put, List.setIfInBounds_toArray, List.set_cons_succ, List.set_cons_zero])
                  (refine any_take 24 ?_ (by rfl) (by kernel_rfl) (fun _ _ _ _ _ hx => hx.elim) (.inl ⟨by rfl, ?_⟩) (by exact bel_of) ?_; rotate_left; (intro X hX; obtain ⟨r1, r2⟩ := Below.rules hX; clear hX; go_simp; rfl); simp only [List.getElem_toArray, List.getElem_cons_succ, List.getElem_cons_zero, Act.put, List.setIfInBounds_toArray, List.set_cons_succ, List.set_cons_zero])
                  as_aux_lemma =>
                    (refine any_take 25 ?_ (by rfl) (by kernel_rfl) (fun _ _ _ _ _ hx => hx.elim) (.inl ⟨by rfl, ?_⟩) (by exact bel_of) ?_; rotate_left; (intro X hX; obtain ⟨r1, r2⟩ := Below.rules hX; clear hX; go_simp; rfl); simp only [List.getElem_toArray, List.getElem_cons_succ, List.getElem_cons_zero, Act.put, List.setIfInBounds_toArray, List.set_cons_succ, List.set_cons_zero])
                    (refine any_take 26 ?_ (by rfl) (by kernel_rfl) (fun _ _ _ _ _ hx => hx.elim) (.inl ⟨by rfl, ?_⟩) (by exact bel_of) ?_; rotate_left; (intro X hX; obtain ⟨r1, r2⟩ := Below.rules hX; clear hX; go_simp; rfl); simp only [List.getElem_toArray, List.getElem_cons_succ, List.getElem_cons_zero, Act.put, List.setIfInBounds_toArray, List.set_cons_succ, List.set_cons_zero])
                    (refine any_take 27 ?_ (by rfl) (by kernel_rfl) (fun _ _ _ _ _ hx => hx.elim) (.inl ⟨by rfl, ?_⟩) (by exact bel_of) ?_; rotate_left; (intro X hX; obtain ⟨r1, r2⟩ := Below.rules hX; clear hX; go_simp; rfl); simp only [List.getElem_toArray, List.getElem_cons_succ, List.getElem_cons_zero, Act.put, List.setIfInBounds_toArray, List.set_cons_succ, List.set_cons_zero])
                    (refine any_take 28 ?_ (by rfl) (by kernel_rfl) (fun _ _ _ _ _ hx => hx.elim) (.inl ⟨by rfl, ?_⟩) (by exact bel_of) ?_; rotate_left; (intro X hX; obtain ⟨r1, r2⟩ := Below.rules hX; clear hX; go_simp; rfl); simp only [List.getElem_toArray, List.getElem_cons_succ, List.getElem_cons_zero, Act.put, List.setIfInBounds_toArray, List.set_cons_succ, List.set_cons_zero])
                    (refine any_take 29 ?_ (by rfl) (by kernel_rfl) (fun _ _ _ _ _ hx => hx.elim) (.inl ⟨by rfl, ?_⟩) (by exact bel_of) ?_; rotate_left; (intro X hX; obtain ⟨r1, r2⟩ := Below.rules hX; clear hX; go_simp; rfl); simp only [List.getElem_toArray, List.getElem_cons_succ, List.getElem_cons_zero, Act.put, List.setIfInBounds_toArray, List.set_cons_succ, List.set_cons_zero])
                    (refine any_take 30 ?_ (by rfl) (by kernel_rfl) (fun _ _ _ _ _ hx => hx.elim) (.inl ⟨by rfl, ?_⟩) (by exact bel_of) ?_; rotate_left; (intro X hX; obtain ⟨r1, r2⟩ := Below.rules hX; clear hX; go_simp; rfl); simp only [List.getElem_toArray, List.getElem_cons_succ, List.getElem_cons_zero, Act.put, List.setIfInBounds_toArray, List.set_cons_succ, List.set_cons_zero])
                    (refine any_take 31 ?_ (by rfl) (by kernel_rfl) (fun _ _ _ _ _ hx => hx.elim) (.inl ⟨by rfl, ?_⟩) (by exact bel_of) ?_; rotate_left; (intro X hX; obtain ⟨r1, r2⟩ := Below.rules hX; clear hX; go_simp; rfl); simp only [List.getElem_toArray, List.getElem_cons_succ, List.getElem_cons_zero, Act.put, List.setIfInBounds_toArray, List.set_cons_succ, List.set_cons_zero])
                    (refine any_take 32 ?_ (by rfl) (by kernel_rfl) (fun _ _ _ _ _ hx => hx.elim) (.inl ⟨by rfl, ?_⟩) (by exact bel_of) ?_; rotate_left; (intro X hX; obtain ⟨r1, r2⟩ := Below.rules hX; clear hX; go_simp; rfl); simp only [List.getElem_toArray, List.getElem_cons_succ, List.getElem_cons_zero, Act.put, List.setIfInBounds_toArray, List.set_cons_succ, List.set_cons_zero])
                    (refine any_take 33 ?_ (by rfl) (by kernel_rfl) (fun _ _ _ _ _ hx => hx.elim) (.inl ⟨by rfl, ?_⟩) (by exact bel_of) ?_; rotate_left; (intro X hX; obtain ⟨r1, r2⟩ := Below.rules hX; clear hX; go_simp; rfl); simp only [List.getElem_toArray, List.getElem_cons_succ, List.getElem_cons_zero, Act.put, List.setIfInBounds_toArray, List.set_cons_succ, List.set_cons_zero])
                    (refine any_take 34 ?_ (by rfl) (by kernel_rfl) (fun _ _ _ _ _ hx => hx.elim) (.inl ⟨by rfl, ?_⟩) (by exact bel_of) ?_; rotate_left; (intro X hX; obtain ⟨r1, r2⟩ := Below.rules hX; clear hX; go_simp; rfl); simp only [List.getElem_toArray, List.getElem_cons_succ, List.getElem_cons_zero, Act.put, List.setIfInBounds_toArray, List.set_cons_succ, List.set_cons_zero])
                    (refine any_take 35 ?_ (by rfl) (by kernel_rfl) (fun _ _ _ _ _ hx => hx.elim) (.inl ⟨by rfl, ?_⟩) (by exact bel_of) ?_; rotate_left; (intro X hX; obtain ⟨r1, r2⟩ := Below.rules hX; clear hX; go_simp; rfl); simp only [List.getElem_toArray, List.getElem_cons_succ, List.getElem_cons_zero, Act.put, List.setIfInBounds_toArray, List.set_cons_succ, List.set_cons_zero])
                    (refine any_take 36 ?_ (by rfl) (by kernel_rfl) (fun _ _ _ _ _ hx => hx.elim) (.inl ⟨by rfl, ?_⟩) (by exact bel_of) ?_; rotate_left; (intro X hX; obtain ⟨r1, r2⟩ := Below.rules hX; clear hX; go_simp; rfl); simp only [List.getElem_toArray, List.getElem_cons_succ, List.getElem_cons_zero, Act.put, List.setIfInBounds_toArray, List.set_cons_succ, List.set_cons_zero])
                    (refine any_take 37 ?_ (by rfl) (by kernel_rfl) (fun _ _ _ _ _ hx => hx.elim) (.inl ⟨by rfl, ?_⟩) (by exact bel_of) ?_; rotate_left; (intro X hX; obtain ⟨r1, r2⟩ := Below.rules hX; clear hX; go_simp; rfl); simp only [List.getElem_toArray, List.getElem_cons_succ, List.getElem_cons_zero, Act.put, List.setIfInBounds_toArray, List.set_cons_succ, List.set_cons_zero])
                    as_aux_lemma =>
                      (refine any_take 38 ?_ (by rfl) (by kernel_rfl) (fun _ _ _ _ _ hx => hx.elim) (.inl ⟨by rfl, ?_⟩) (by exact bel_of) ?_; rotate_left; (intro X hX; obtain ⟨r1, r2⟩ := Below.rules hX; clear hX; go_simp; rfl); simp only [List.getElem_toArray, List.getElem_cons_succ, List.getElem_cons_zero, Act.put, List.setIfInBounds_toArray, List.set_cons_succ, List.set_cons_zero])
                      (refine any_take 39 ?_ (by rfl) (by kernel_rfl) (fun _ _ _ _ _ hx => hx.elim) (.inl ⟨by rfl, ?_⟩) (by exact bel_of) ?_; rotate_left; (intro X hX; obtain ⟨r1, r2⟩ := Below.rules hX; clear hX; go_simp; rfl); simp only [List.getElem_toArray, List.getElem_cons_succ, List.getElem_cons_zero, Act.put, List.setIfInBounds_toArray, List.set_cons_succ, List.set_cons_zero])
                      have qx1 := d0x.size
                      refine any_run1 (i := 40) (by kernel_rfl) (by rfl) (by kernel_rfl) ?_
                      intro K hK
                      go_wp2_with fail
                      refine (checkTruth_any N X (reachL N X z) _ _ _ (by omega) (by rw [reachL_len]; omega) ((RS.below hX d0x).more d0x.size) (by unfold RI; rw [reachL_len]; exact ((RS.below h41 d0x).more d0x.size))).mono ?_
                      rintro e vx1 ⟨rfl, hb⟩
                      rw [HRO.out.1]
                      have ex1 : Below w12.heap.size w12 vx1 := d0x.trans (hb.mono d0x.size)
                      clear hb
                      refine hK _ _ (fun _ => ex1) ?_
                      clear hK K
                      (refine any_take 41 ?_ (by rfl) (by kernel_rfl) (fun _ _ _ _ _ hx => hx.elim) (.inl ⟨by rfl, ?_⟩) (by exact bel_of) ?_; rotate_left; (intro X hX; obtain ⟨r1, r2⟩ := Below.rules hX; clear hX; go_simp; rfl); simp only [List.getElem_toArray, List.getElem_cons_succ, List.getElem_cons_zero, Act.put, List.setIfInBounds_toArray, List.set_cons_succ, List.set_cons_zero])
                      (refine any_take 42 ?_ (by rfl) (by kernel_rfl) (fun _ _ _ _ _ hx => hx.elim) (.inl ⟨by rfl, ?_⟩) (by exact bel_of) ?_; rotate_left; (intro X hX; obtain ⟨r1, r2⟩ := Below.rules hX; clear hX; go_simp; rfl); simp only [List.getElem_toArray, List.getElem_cons_succ, List.getElem_cons_zero, Act.put, List.setIfInBounds_toArray, List.set_cons_succ, List.set_cons_zero])
                      (refine any_take 43 ?_ (by rfl) (by kernel_rfl) (fun _ _ _ _ _ hx => hx.elim) (.inl ⟨by rfl, ?_⟩) (by exact bel_of) ?_; rotate_left; (intro X hX; obtain ⟨r1, r2⟩ := Below.rules hX; clear hX; go_simp; rfl); simp only [List.getElem_toArray, List.getElem_cons_succ, List.getElem_cons_zero, Act.put, List.setIfInBounds_toArray, List.set_cons_succ, List.set_cons_zero])
                      (refine any_take 44 ?_ (by rfl) (by kernel_rfl) (fun _ _ _ _ _ hx => hx.elim) (.inl ⟨by rfl, ?_⟩) (by exact bel_of) ?_; rotate_left; (intro X hX; obtain ⟨r1, r2⟩ := Below.rules hX; clear hX; go_simp; rfl); simp only [List.getElem_toArray, List.getElem_cons_succ, List.getElem_cons_zero, Act.put, List.setIfInBounds_toArray, List.set_cons_succ, List.set_cons_zero])
                      (refine any_take 45 ?_ (by rfl) (by kernel_rfl) (fun _ _ _ _ _ hx => hx.elim) (.inl ⟨by rfl, ?_⟩) (by exact bel_of) ?_; rotate_left; (intro X hX; obtain ⟨r1, r2⟩ := Below.rules hX; clear hX; go_simp; rfl); simp only [List.getElem_toArray, List.getElem_cons_succ, List.getElem_cons_zero, Act.put, List.setIfInBounds_toArray, List.set_cons_succ, List.set_cons_zero])
                      have qx2 := ex1.size
                      refine any_run1 (i := 46) (by kernel_rfl) (by rfl) (by kernel_rfl) ?_
                      intro K hK
                      go_wp2_with fail
                      refine (refTruth_any N X (reachL N X z) _ _ _ (by omega) (by rw [reachL_len]; omega) ((RS.below hX ex1).more ex1.size) (by unfold RI; rw [reachL_len]; exact ((RS.below h41 ex1).more ex1.size))).mono ?_
                      rintro e vx2 ⟨rfl, hb⟩
                      rw [HRO.out.1]
                      have ex2 : Below w12.heap.size w12 vx2 := ex1.trans (hb.mono ex1.size)
                      clear hb
                      refine hK _ _ (fun _ => ex2) ?_
                      clear hK K
                      (refine any_take 47 ?_ (by rfl) (by kernel_rfl) (fun _ _ _ _ _ hx => hx.elim) (.inl ⟨by rfl, ?_⟩) (by exact bel_of) ?_; rotate_left; (intro X hX; obtain ⟨r1, r2⟩ := Below.rules hX; clear hX; go_simp; rfl); simp only [List.getElem_toArray, List.getElem_cons_succ, List.getElem_cons_zero, Act.put, List.setIfInBounds_toArray, List.set_cons_succ, List.set_cons_zero])
                      (refine any_take 48 ?_ (by rfl) (by kernel_rfl) (fun _ _ _ _ _ hx => hx.elim) (.inl ⟨by rfl, ?_⟩) (by exact bel_of) ?_; rotate_left; (intro X hX; obtain ⟨r1, r2⟩ := Below.rules hX; clear hX; go_simp; rfl); simp only [List.getElem_toArray, List.getElem_cons_succ, List.getElem_cons_zero, Act.put, List.setIfInBounds_toArray, List.set_cons_succ, List.set_cons_zero])
                      (refine any_take 49 ?_ (by rfl) (by kernel_rfl) (fun _ _ _ _ _ hx => hx.elim) (.inl ⟨by rfl, ?_⟩) (by exact bel_of) ?_; rotate_left; (intro X hX; obtain ⟨r1, r2⟩ := Below.rules hX; clear hX; go_simp; rfl); simp only [List.getElem_toArray, List.getElem_cons_succ, List.getElem_cons_zero, Act.put, List.setIfInBounds_toArray, List.set_cons_succ, List.set_cons_zero])
                      (refine any_take 50 ?_ (by rfl) (by kernel_rfl) (fun _ _ _ _ _ hx => hx.elim) (.inl ⟨by rfl, ?_⟩) (by exact bel_of) ?_; rotate_left; (intro X hX; obtain ⟨r1, r2⟩ := Below.rules hX; clear hX; go_simp; rfl); simp only [List.getElem_toArray, List.getElem_cons_succ, List.getElem_cons_zero, Act.put, List.setIfInBounds_toArray, List.set_cons_succ, List.set_cons_zero])
                      (refine any_take 51 ?_ (by rfl) (by kernel_rfl) (fun _ _ _ _ _ hx => hx.elim) (.inl ⟨by rfl, ?_⟩) (by exact bel_of) ?_; rotate_left; (intro X hX; obtain ⟨r1, r2⟩ := Below.rules hX; clear hX; go_simp; rfl); simp only [List.getElem_toArray, List.getElem_cons_succ, List.getElem_cons_zero, Act.put, List.setIfInBounds_toArray, List.set_cons_succ, List.set_cons_zero])
                      (refine any_take 52 ?_ (by rfl) (by kernel_rfl) (fun _ _ _ _ _ hx => hx.elim) (.inl ⟨by rfl, ?_⟩) (by exact bel_of) ?_; rotate_left; (intro X hX; obtain ⟨r1, r2⟩ := Below.rules hX; clear hX; go_simp; rfl); simp only [List.getElem_toArray, List.getElem_cons_succ, List.getElem_cons_zero, Act.put, List.setIfInBounds_toArray, List.set_cons_succ, List.set_cons_zero])
                      as_aux_lemma =>
                        (refine any_take 53 ?_ (by rfl) (by kernel_rfl) (fun _ _ _ _ _ hx => hx.elim) (.inl ⟨by rfl, ?_⟩) (by exact bel_of) ?_; rotate_left; (intro X hX; obtain ⟨r1, r2⟩ := Below.rules hX; clear hX; go_simp; rfl); simp only [List.getElem_toArray, List.getElem_cons_succ, List.getElem_cons_zero, Act.put, List.setIfInBounds_toArray, List.set_cons_succ, List.set_cons_zero])
                        (refine any_take 54 ?_ (by rfl) (by kernel_rfl) (fun _ _ _ _ _ hx => hx.elim) (.inl ⟨by rfl, ?_⟩) (by exact bel_of) ?_; rotate_left; (intro X hX; obtain ⟨r1, r2⟩ := Below.rules hX; clear hX; go_simp; rfl); simp only [List.getElem_toArray, List.getElem_cons_succ, List.getElem_cons_zero, Act.put, List.setIfInBounds_toArray, List.set_cons_succ, List.set_cons_zero])
                        (refine any_take 55 ?_ (by rfl) (by kernel_rfl) (fun _ _ _ _ _ hx => hx.elim) (.inl ⟨by rfl, ?_⟩) (by exact bel_of) ?_; rotate_left; (intro X hX; obtain ⟨r1, r2⟩ := Below.rules hX; clear hX; go_simp; rfl); simp only [List.getElem_toArray, List.getElem_cons_succ, List.getElem_cons_zero, Act.put, List.setIfInBounds_toArray, List.set_cons_succ, List.set_cons_zero])
                        (refine any_take 56 ?_ (by rfl) (by kernel_rfl) (fun _ _ _ _ _ hx => hx.elim) (.inl ⟨by rfl, ?_⟩) (by exact bel_of) ?_; rotate_left; (intro X hX; obtain ⟨r1, r2⟩ := Below.rules hX; clear hX; go_simp; rfl); simp only [List.getElem_toArray, List.getElem_cons_succ, List.getElem_cons_zero, Act.put, List.setIfInBounds_toArray, List.set_cons_succ, List.set_cons_zero])
                        (refine any_take 57 ?_ (by rfl) (by kernel_rfl) (fun _ _ _ _ _ hx => hx.elim) (.inl ⟨by rfl, ?_⟩) (by exact bel_of) ?_; rotate_left; (intro X hX; obtain ⟨r1, r2⟩ := Below.rules hX; clear hX; go_simp; rfl); simp only [List.getElem_toArray, List.getElem_cons_succ, List.getElem_cons_zero, Act.put, List.setIfInBounds_toArray, List.set_cons_succ, List.set_cons_zero])
                        (refine any_take 58 ?_ (by rfl) (by kernel_rfl) (fun _ _ _ _ _ hx => hx.elim) (.inl ⟨by rfl, ?_⟩) (by exact bel_of) ?_; rotate_left; (intro X hX; obtain ⟨r1, r2⟩ := Below.rules hX; clear hX; go_simp; rfl); simp only [List.getElem_toArray, List.getElem_cons_succ, List.getElem_cons_zero, Act.put, List.setIfInBounds_toArray, List.set_cons_succ, List.set_cons_zero])
                        (refine any_take 59 ?_ (by rfl) (by kernel_rfl) (fun _ _ _ _ _ hx => hx.elim) (.inl ⟨by rfl, ?_⟩) (by exact bel_of) ?_; rotate_left; (intro X hX; obtain ⟨r1, r2⟩ := Below.rules hX; clear hX; go_simp; rfl); simp only [List.getElem_toArray, List.getElem_cons_succ, List.getElem_cons_zero, Act.put, List.setIfInBounds_toArray, List.set_cons_succ, List.set_cons_zero])
                        (refine any_take 60 ?_ (by rfl) (by kernel_rfl) (fun _ _ _ _ _ hx => hx.elim) (.inl ⟨by rfl, ?_⟩) (by exact bel_of) ?_; rotate_left; (intro X hX; obtain ⟨r1, r2⟩ := Below.rules hX; clear hX; go_simp; rfl); simp only [List.getElem_toArray, List.getElem_cons_succ, List.getElem_cons_zero, Act.put, List.setIfInBounds_toArray, List.set_cons_succ, List.set_cons_zero])
                        (refine any_take 61 ?_ (by rfl) (by kernel_rfl) (fun _ _ _ _ _ hx => hx.elim) (.inl ⟨by rfl, ?_⟩) (by exact bel_of) ?_; rotate_left; (intro X hX; obtain ⟨r1, r2⟩ := Below.rules hX; clear hX; go_simp; rfl); simp only [List.getElem_toArray, List.getElem_cons_succ, List.getElem_cons_zero, Act.put, List.setIfInBounds_toArray, List.set_cons_succ, List.set_cons_zero])
                        (refine any_take 62 ?_ (by rfl) (by kernel_rfl) (fun _ _ _ _ _ hx => hx.elim) (.inl ⟨by rfl, ?_⟩) (by exact bel_of) ?_; rotate_left; (intro X hX; obtain ⟨r1, r2⟩ := Below.rules hX; clear hX; go_simp; rfl); simp only [List.getElem_toArray, List.getElem_cons_succ, List.getElem_cons_zero, Act.put, List.setIfInBounds_toArray, List.set_cons_succ, List.set_cons_zero])
                        (refine any_take 63 ?_ (by rfl) (by kernel_rfl) (fun _ _ _ _ _ hx => hx.elim) (.inl ⟨by rfl, ?_⟩) (by exact bel_of) ?_; rotate_left; (intro X hX; obtain ⟨r1, r2⟩ := Below.rules hX; clear hX; go_simp; rfl); simp only [List.getElem_toArray, List.getElem_cons_succ, List.getElem_cons_zero, Act.put, List.setIfInBounds_toArray, List.set_cons_succ, List.set_cons_zero])
                        (refine any_take 64 ?_ (by rfl) (by kernel_rfl) (fun _ _ _ _ _ hx => hx.elim) (.inl ⟨by rfl, ?_⟩) (by exact bel_of) ?_; rotate_left; (intro X hX; obtain ⟨r1, r2⟩ := Below.rules hX; clear hX; go_simp; rfl); simp only [List.getElem_toArray, List.getElem_cons_succ, List.getElem_cons_zero, Act.put, List.setIfInBounds_toArray, List.set_cons_succ, List.set_cons_zero])
                        (refine any_take 65 ?_ (by rfl) (by kernel_rfl) (fun _ _ _ _ _ hx => hx.elim) (.inl ⟨by rfl, ?_⟩) (by exact bel_of) ?_; rotate_left; (intro X hX; obtain ⟨r1, r2⟩ := Below.rules hX; clear hX; go_simp; rfl); simp only [List.getElem_toArray, List.getElem_cons_succ, List.getElem_cons_zero, Act.put, List.setIfInBounds_toArray, List.set_cons_succ, List.set_cons_zero])
                        have qx3 := ex2.size
                        refine any_run1 (i := 66) (by kernel_rfl) (by rfl) (by kernel_rfl) ?_
                        intro K hK
                        go_wp2_with fail
                        refine (checkTruth_any N X (leastP N X) _ _ _ (by omega) (by rw [leastP_length]; omega) ((RS.below hX ex2).more ex2.size) (by unfold RI; rw [leastP_length]; exact ((RS.below h51 ex2).more ex2.size))).mono ?_
                        rintro e vx3 ⟨rfl, hb⟩
                        rw [HLO.out]
                        have ex3 : Below w12.heap.size w12 vx3 := ex2.trans (hb.mono ex2.size)
                        clear hb
                        refine hK _ _ (fun _ => ex3) ?_
                        clear hK K
                        as_aux_lemma =>
                          (refine any_take 67 ?_ (by rfl) (by kernel_rfl) (fun _ _ _ _ _ hx => hx.elim) (.inl ⟨by rfl, ?_⟩) (by exact bel_of) ?_; rotate_left; (intro X hX; obtain ⟨r1, r2⟩ := Below.rules hX; clear hX; go_simp; rfl); simp only [List.getElem_toArray, List.getElem_cons_succ, List.getElem_cons_zero, Act.put, List.setIfInBounds_toArray, List.set_cons_succ, List.set_cons_zero])
                          (refine any_take 68 ?_ (by rfl) (by kernel_rfl) (fun _ _ _ _ _ hx => hx.elim) (.inl ⟨by rfl, ?_⟩) (by exact bel_of) ?_; rotate_left; (intro X hX; obtain ⟨r1, r2⟩ := Below.rules hX; clear hX; go_simp; rfl); simp only [List.getElem_toArray, List.getElem_cons_succ, List.getElem_cons_zero, Act.put, List.setIfInBounds_toArray, List.set_cons_succ, List.set_cons_zero])
                          (refine any_take 69 ?_ (by rfl) (by kernel_rfl) (fun _ _ _ _ _ hx => hx.elim) (.inl ⟨by rfl, ?_⟩) (by exact bel_of) ?_; rotate_left; (intro X hX; obtain ⟨r1, r2⟩ := Below.rules hX; clear hX; go_simp; rfl); simp only [List.getElem_toArray, List.getElem_cons_succ, List.getElem_cons_zero, Act.put, List.setIfInBounds_toArray, List.set_cons_succ, List.set_cons_zero])
                          (refine any_take 70 ?_ (by rfl) (by kernel_rfl) (fun _ _ _ _ _ hx => hx.elim) (.inl ⟨by rfl, ?_⟩) (by exact bel_of) ?_; rotate_left; (intro X hX; obtain ⟨r1, r2⟩ := Below.rules hX; clear hX; go_simp; rfl); simp only [List.getElem_toArray, List.getElem_cons_succ, List.getElem_cons_zero, Act.put, List.setIfInBounds_toArray, List.set_cons_succ, List.set_cons_zero])
                          (refine any_take 71 ?_ (by rfl) (by kernel_rfl) (fun _ _ _ _ _ hx => hx.elim) (.inl ⟨by rfl, ?_⟩) (by exact bel_of) ?_; rotate_left; (intro X hX; obtain ⟨r1, r2⟩ := Below.rules hX; clear hX; go_simp; rfl); simp only [List.getElem_toArray, List.getElem_cons_succ, List.getElem_cons_zero, Act.put, List.setIfInBounds_toArray, List.set_cons_succ, List.set_cons_zero])
                          have qx4 := ex3.size
                          refine any_run1 (i := 72) (by kernel_rfl) (by rfl) (by kernel_rfl) ?_
                          intro K hK
                          go_wp2_with fail
                          refine (refTruth_any N X (leastP N X) _ _ _ (by omega) (by rw [leastP_length]; omega) ((RS.below hX ex3).more ex3.size) (by unfold RI; rw [leastP_length]; exact ((RS.below h51 ex3).more ex3.size))).mono ?_
                          rintro e vx4 ⟨rfl, hb⟩
                          rw [HLO.out]
                          have ex4 : Below w12.heap.size w12 vx4 := ex3.trans (hb.mono ex3.size)
                          clear hb
                          refine hK _ _ (fun _ => ex4) ?_
                          clear hK K
                          (refine any_take 73 ?_ (by rfl) (by kernel_rfl) (fun _ _ _ _ _ hx => hx.elim) (.inl ⟨by rfl, ?_⟩) (by exact bel_of) ?_; rotate_left; (intro X hX; obtain ⟨r1, r2⟩ := Below.rules hX; clear hX; go_simp; rfl); simp only [List.getElem_toArray, List.getElem_cons_succ, List.getElem_cons_zero, Act.put, List.setIfInBounds_toArray, List.set_cons_succ, List.set_cons_zero])
                          (refine any_take 74 ?_ (by rfl) (by kernel_rfl) (fun _ _ _ _ _ hx => hx.elim) (.inl ⟨by rfl, ?_⟩) (by exact bel_of) ?_; rotate_left; (intro X hX; obtain ⟨r1, r2⟩ := Below.rules hX; clear hX; go_simp; rfl); simp only [List.getElem_toArray, List.getElem_cons_succ, List.getElem_cons_zero, Act.put, List.setIfInBounds_toArray, List.set_cons_succ, List.set_cons_zero])
                          (refine any_take 75 ?_ (by rfl) (by kernel_rfl) (fun _ _ _ _ _ hx => hx.elim) (.inl ⟨by rfl, ?_⟩) (by exact bel_of) ?_; rotate_left; (intro X hX; obtain ⟨r1, r2⟩ := Below.rules hX; clear hX; go_simp; rfl); simp only [List.getElem_toArray, List.getElem_cons_succ, List.getElem_cons_zero, Act.put, List.setIfInBounds_toArray, List.set_cons_succ, List.set_cons_zero])
                          (refine any_take 76 ?_ (by rfl) (by kernel_rfl) (fun _ _ _ _ _ hx => hx.elim) (.inl ⟨by rfl, ?_⟩) (by exact bel_of) ?_; rotate_left; (intro X hX; obtain ⟨r1, r2⟩ := Below.rules hX; clear hX; go_simp; rfl); simp only [List.getElem_toArray, List.getElem_cons_succ, List.getElem_cons_zero, Act.put, List.setIfInBounds_toArray, List.set_cons_succ, List.set_cons_zero])
                          (refine any_take 77 ?_ (by rfl) (by kernel_rfl) (fun _ _ _ _ _ hx => hx.elim) (.inl ⟨by rfl, ?_⟩) (by exact bel_of) ?_; rotate_left; (intro X hX; obtain ⟨r1, r2⟩ := Below.rules hX; clear hX; go_simp; rfl); simp only [List.getElem_toArray, List.getElem_cons_succ, List.getElem_cons_zero, Act.put, List.setIfInBounds_toArray, List.set_cons_succ, List.set_cons_zero])
                          (refine any_take 78 ?_ (by rfl) (by kernel_rfl) (fun _ _ _ _ _ hx => hx.elim) (.inl ⟨by rfl, ?_⟩) (by exact bel_of) ?_; rotate_left; (intro X hX; obtain ⟨r1, r2⟩ := Below.rules hX; clear hX; go_simp; rfl); simp only [List.getElem_toArray, List.getElem_cons_succ, List.getElem_cons_zero, Act.put, List.setIfInBounds_toArray, List.set_cons_succ, List.set_cons_zero])
                          (refine any_take 79 ?_ (by rfl) (by kernel_rfl) (fun _ _ _ _ _ hx => hx.elim) (.inl ⟨by rfl, ?_⟩) (by exact bel_of) ?_; rotate_left; (intro X hX; obtain ⟨r1, r2⟩ := Below.rules hX; clear hX; go_simp; rfl); simp only [List.getElem_toArray, List.getElem_cons_succ, List.getElem_cons_zero, Act.put, List.setIfInBounds_toArray, List.set_cons_succ, List.set_cons_zero])
                          (refine any_take 80 ?_ (by rfl) (by kernel_rfl) (fun _ _ _ _ _ hx => hx.elim) (.inl ⟨by rfl, ?_⟩) (by exact bel_of) ?_; rotate_left; (intro X hX; obtain ⟨r1, r2⟩ := Below.rules hX; clear hX; go_simp; rfl); simp only [List.getElem_toArray, List.getElem_cons_succ, List.getElem_cons_zero, Act.put, List.setIfInBounds_toArray, List.set_cons_succ, List.set_cons_zero])
                          as_aux_lemma =>
                            (refine any_take 81 ?_ (by rfl) (by kernel_rfl) (fun _ _ _ _ _ hx => hx.elim) (.inl ⟨by rfl, ?_⟩) (by exact bel_of) ?_; rotate_left; (intro X hX; obtain ⟨r1, r2⟩ := Below.rules hX; clear hX; go_simp; rfl); simp only [List.getElem_toArray, List.getElem_cons_succ, List.getElem_cons_zero, Act.put, List.setIfInBounds_toArray, List.set_cons_succ, List.set_cons_zero])
                            (refine any_take 82 ?_ (by rfl) (by kernel_rfl) (fun _ _ _ _ _ hx => hx.elim) (.inl ⟨by rfl, ?_⟩) (by exact bel_of) ?_; rotate_left; (intro X hX; obtain ⟨r1, r2⟩ := Below.rules hX; clear hX; go_simp; rfl); simp only [List.getElem_toArray, List.getElem_cons_succ, List.getElem_cons_zero, Act.put, List.setIfInBounds_toArray, List.set_cons_succ, List.set_cons_zero])
                            (refine any_take 83 ?_ (by rfl) (by kernel_rfl) (fun _ _ _ _ _ hx => hx.elim) (.inl ⟨by rfl, ?_⟩) (by exact bel_of) ?_; rotate_left; (intro X hX; obtain ⟨r1, r2⟩ := Below.rules hX; clear hX; go_simp; rfl); simp only [List.getElem_toArray, List.getElem_cons_succ, List.getElem_cons_zero, Act.put, List.setIfInBounds_toArray, List.set_cons_succ, List.set_cons_zero])
                            refine any_done (by kernel_rfl) (NoPanic.normal ?_)
                            have hb := ex4
                            replace hC : Below n0 w vx4 := hC.trans (hb.mono (by have := hC.size; omega))
                            replace hR := (RS.below hR hb).more hb.size
                            replace huy := (RS.below huy hb).more hb.size
                            replace huc := (RS.below huc hb).more hb.size
                            replace bx := bx.below hb bx.lt
                            replace b2 := b2.below hb b2.lt
                            replace hX := (RS.below hX hb).more hb.size
                            replace hv := (RS.below hv hb).more hb.size
                            replace xx := xx.below hb xx.lt
                            replace r1 := r1.below hb r1.lt
                            replace r2 := r2.below hb r2.lt
                            replace h31 := (RS.below h31 hb).more hb.size
                            replace h41 := (RS.below h41 hb).more hb.size
                            replace h51 := (RS.below h51 hb).more hb.size
                            replace r5 := r5.below hb r5.lt
                            clear hb
                            clear lxx xxc0 xxc1
                            clear lr1 r1c0 r1c1
                            clear lr5 r5c0 r5c1
                            clear d1 e2 z1 z2 z5 zl wj nj pj qj q0 q0n q1n q2n hne3 wy
                            as_aux_lemma =>
                              go_wp2_with fail
                              generalize vx4 = WL at *
                              go_loopw [28] (fun i wr => ∃ k : Nat, k ≤ N ∧ i = .int .i64 k ∧ Below WL.heap.size WL wr) (fun i _ => N - (intOf i).toNat)
                              case atStart => exact ⟨0, Nat.zero_le _, rfl, by first | exact Below.refl _ _ | exact bel_of⟩
                              case round =>
                                obtain ⟨k, hk, rfl, hb⟩ := hrel
                                have hbr := Lib.hid hb
                                replace hC : Below n0 w wr := hC.trans (hb.mono (by have := hC.size; omega))
                                replace hR := (RS.below hR hb).more hb.size
                                replace huy := (RS.below huy hb).more hb.size
                                replace huc := (RS.below huc hb).more hb.size
                                replace bx := bx.below hb bx.lt
                                replace b2 := b2.below hb b2.lt
                                replace hX := (RS.below hX hb).more hb.size
                                replace hv := (RS.below hv hb).more hb.size
                                replace xx := xx.below hb xx.lt
                                replace r1 := r1.below hb r1.lt
                                replace r2 := r2.below hb r2.lt
                                replace h31 := (RS.below h31 hb).more hb.size
                                replace h41 := (RS.below h41 hb).more hb.size
                                replace h51 := (RS.below h51 hb).more hb.size
                                replace r5 := r5.below hb r5.lt
                                clear hb
                                by_cases hlt : k < N
                                case pos =>
                                  have hlt' : (k : Int) < (N : Int) := by omega
                                  have hle := (tru_sharp HOX.out HTX.out hlt).1
                                  have hcl := RI.cells hv
                                  obtain ⟨Al', cl', bb, off, hve, hAx, hcx⟩ := hcl
                                  obtain ⟨hA', hbb⟩ := hAx (by have := HLL.out; omega)
                                  rw [hA'] at hve
                                  injection hve with q1' q2' q3'
                                  injection q1' with q1'
                                  injection q1' with q4' q5'
                                  subst q4' q5'
                                  have c1 := hcx k (by have := HLL.out; omega)
                                  clear hAx hcx q2' q3' hA'
                                  obtain ⟨A5, k5', bb5, off5, hve, hAx, hcx⟩ := RI.cells (l := leastP N X) (by unfold RI; rw [leastP_length]; exact h51)
                                  rw [leastP_length] at hve hAx hcx
                                  obtain ⟨hA', hbb5⟩ := hAx (by omega)
                                  rw [hA'] at hve
                                  injection hve with q1' q2' q3'
                                  injection q1' with q1'
                                  injection q1' with q4' q5'
                                  subst q4' q5'
                                  have c0 := hcx k hlt
                                  rw [leastP_at hlt] at c0
                                  clear hAx hcx q2' q3' hA'
                                  obtain ⟨x, hx⟩ : ∃ x, -D N X k N = x := ⟨_, rfl⟩
                                  obtain ⟨y', hy'⟩ : ∃ x, nthI L k = x := ⟨_, rfl⟩
                                  rw [hx] at c0 hle
                                  rw [hy'] at c1 hle
                                  have hle' : ¬ x > y' := by omega
                                  clear hx hy' hle
                                  go_upto_region 25 with fail
                                  go_quiet (fail)
                                  go_wp2_with fail
                                  go_roundw
                                  case rel => exact ⟨k + 1, by omega, by go_num, by first | exact hbr.out | (have := hbr.out; exact bel_of)⟩
                                  case measure => simp [intOf]; omega
                                have hlt' : ¬ (k : Int) < (N : Int) := by omega
                                clear hbr
                                as_aux_lemma =>
                                  have lxx := xx.lt
                                  have xxc0 := xx.cell 0
                                  have xxc1 := xx.cell 1
                                  simp at xxc0 xxc1
                                  go_wp2_with fail
                                  clear lxx xxc0 xxc1
                                  clear hlt' hlt hk
                                  refine (checkChain_any N X c _ _ _ (by omega) (by omega) hX huc).mono ?_
                                  rintro e w13 ⟨rfl, hb⟩
                                  replace hC : Below n0 w w13 := hC.trans (hb.mono (by have := hC.size; omega))
                                  replace hR := (RS.below hR hb).more hb.size
                                  replace huy := (RS.below huy hb).more hb.size
                                  replace huc := (RS.below huc hb).more hb.size
                                  replace bx := bx.below hb bx.lt
                                  replace b2 := b2.below hb b2.lt
                                  replace hX := (RS.below hX hb).more hb.size
                                  replace hv := (RS.below hv hb).more hb.size
                                  replace xx := xx.below hb xx.lt
                                  replace r1 := r1.below hb r1.lt
                                  replace r2 := r2.below hb r2.lt
                                  replace h31 := (RS.below h31 hb).more hb.size
                                  replace h41 := (RS.below h41 hb).more hb.size
                                  replace h51 := (RS.below h51 hb).more hb.size
                                  replace r5 := r5.below hb r5.lt
                                  clear hb
                                  unfold resV
                                  obtain ⟨⟨n, f⟩, hnf⟩ : ∃ r, chainR N X c = r := ⟨_, rfl⟩
                                  rw [hnf]
                                  have HC := Lib.hid hnf
                                  clear hnf
                                  by_cases hf0 : f = 0
                                  case neg =>
                                    have b1 : (f == 0) = false := by simp [hf0]
                                    go_wp2_with fail
                                    refine (works_any _).mono ?_
                                    rintro e w14 ⟨rfl, hb⟩
                                    replace hC : Below n0 w w14 := hC.trans (hb.mono (by have := hC.size; omega))
                                    replace hR := (RS.below hR hb).more hb.size
                                    replace huy := (RS.below huy hb).more hb.size
                                    replace huc := (RS.below huc hb).more hb.size
                                    replace bx := bx.below hb bx.lt
                                    replace b2 := b2.below hb b2.lt
                                    replace hX := (RS.below hX hb).more hb.size
                                    replace hv := (RS.below hv hb).more hb.size
                                    replace xx := xx.below hb xx.lt
                                    replace r1 := r1.below hb r1.lt
                                    replace r2 := r2.below hb r2.lt
                                    replace h31 := (RS.below h31 hb).more hb.size
                                    replace h41 := (RS.below h41 hb).more hb.size
                                    replace h51 := (RS.below h51 hb).more hb.size
                                    replace r5 := r5.below hb r5.lt
                                    clear hb
                                    go_wp2_with fail
                                    exact bodyPost_ret (v := .bool true) (by simp [results, Try.results13, go_sem]) rfl ⟨rfl, by first | exact hC | (rw [hn0]; exact hC) | (with_reducible rw [hn0]; exact bel_of) | exact bel_of⟩
                                  subst hf0
                                  have hl3 : c.length ≠ 0 := chainR_len (E := N) (ts := X) (c := c) (by rw [HC.out])
                                  obtain ⟨A3, k3', b3, o3, hv3, hA3, hc3⟩ := RL.cells huc
                                  obtain ⟨rfl, hb3⟩ := hA3 hl3
                                  injection hv3 with q1' q2' q3'
                                  subst q1' q3'
                                  obtain ⟨d1, _, _⟩ := hc3 0 (by omega)
                                  obtain ⟨_, e2, _⟩ := hc3 (c.length - 1) (by omega)
                                  rw [Nat.zero_mul, Nat.add_zero] at d1
                                  clear hA3 hc3 q2'
                                  have zl : ((c.length : Int) - 1).toNat = c.length - 1 := by omega
                                  have wj : IntKind.i64.wrap ((c.length : Int) - 1) = (c.length : Int) - 1 := by rw [IntKind.wrap_i64]; omega
                                  have nj : ¬ (c.length : Int) - 1 < 0 := by omega
                                  have pj : (0 : Int) ≤ (c.length : Int) - 1 := by omega
                                  have qj : (c.length : Int) - 1 < (c.length : Int) := by omega
                                  have q0 : (0 : Int) < (c.length : Int) := by omega
                                  have q0n : 0 < c.length := by omega
                                  have q1n : c.length - 1 < c.length := by omega
                                  have q2n : (1 : Int) ≤ (c.length : Int) := by omega
                                  have hne3 : c ≠ [] := fun hx => hl3 (by rw [hx]; rfl)
                                  have hen := chain_ends HOX.out HC.out
                                  have htc := tru_chain HOX.out HTX.out HC.out
                                  obtain ⟨s1, hs1⟩ : ∃ s, (nthL c 0).src = s := ⟨_, rfl⟩
                                  obtain ⟨s2, hs2⟩ : ∃ s, (nthL c (c.length - 1)).dst = s := ⟨_, rfl⟩
                                  rw [hs1] at d1 hen htc
                                  rw [hs2] at e2 hen htc
                                  clear hs1 hs2
                                  have HTC := Lib.hid htc
                                  clear htc
                                  obtain ⟨⟨r1', r2'⟩, r3', r4'⟩ := hen
                                  have m1 : ¬ s1 ≥ (N : Int) := by omega
                                  have m2 : ¬ s2 ≥ (N : Int) := by omega
                                  go_upto_region 29 with fail
                                  go_quiet (fail)
                                  clear d1 e2 zl wj nj pj qj q0 q0n q1n q2n hne3
                                  go_upto_region 31 with fail
                                  have hb : Below w13.heap.size w13 (w13.drewN nq) := by exact bel_of
                                  replace hC : Below n0 w (w13.drewN nq) := hC.trans (hb.mono (by have := hC.size; omega))
                                  replace hR := (RS.below hR hb).more hb.size
                                  replace huy := (RS.below huy hb).more hb.size
                                  replace huc := (RS.below huc hb).more hb.size
                                  replace bx := bx.below hb bx.lt
                                  replace b2 := b2.below hb b2.lt
                                  replace hX := (RS.below hX hb).more hb.size
                                  replace hv := (RS.below hv hb).more hb.size
                                  replace xx := xx.below hb xx.lt
                                  replace r1 := r1.below hb r1.lt
                                  replace r2 := r2.below hb r2.lt
                                  replace h31 := (RS.below h31 hb).more hb.size
                                  replace h41 := (RS.below h41 hb).more hb.size
                                  replace h51 := (RS.below h51 hb).more hb.size
                                  replace r5 := r5.below hb r5.lt
                                  clear hb
                                  generalize (w13.drewN nq) = WV at *
                                  by_cases hs1 : 0 ≤ s1
                                  case pos =>
                                    obtain ⟨i1, rfl⟩ : ∃ t : Nat, s1 = t := ⟨s1.toNat, by omega⟩
                                    have hcl := RI.cells hv
                                    obtain ⟨Al', cl', bb, off, hve, hAx, hcx⟩ := hcl
                                    obtain ⟨hA', hbb⟩ := hAx (by have := HLL.out; omega)
                                    rw [hA'] at hve
                                    injection hve with q1' q2' q3'
                                    injection q1' with q1'
                                    injection q1' with q4' q5'
                                    subst q4' q5'
                                    have u := hcx i1 (by have := HLL.out; omega)
                                    clear hAx hcx q2' q3' hA'
                                    have ur := HLR.out i1 (by omega)
                                    obtain ⟨uv, ue⟩ : ∃ x, nthI L i1 = x := ⟨_, rfl⟩
                                    have uh := Lib.hid (show atT L (i1 : Int) = uv by unfold atT; rw [if_pos (by omega), Int.toNat_natCast]; exact ue)
                                    rw [ue] at u ur
                                    have ul : (i1 : Int) < (N : Int) := by omega
                                    clear ue
                                    by_cases hs2 : 0 ≤ s2
                                    case pos =>
                                      obtain ⟨i2, rfl⟩ : ∃ t : Nat, s2 = t := ⟨s2.toNat, by omega⟩
                                      have hcl := RI.cells hv
                                      obtain ⟨Al', cl', bb, off, hve, hAx, hcx⟩ := hcl
                                      obtain ⟨hA', hbb⟩ := hAx (by have := HLL.out; omega)
                                      rw [hA'] at hve
                                      injection hve with q1' q2' q3'
                                      injection q1' with q1'
                                      injection q1' with q4' q5'
                                      subst q4' q5'
                                      have v := hcx i2 (by have := HLL.out; omega)
                                      clear hAx hcx q2' q3' hA'
                                      have vr := HLR.out i2 (by omega)
                                      obtain ⟨vv, ve⟩ : ∃ x, nthI L i2 = x := ⟨_, rfl⟩
                                      have vh := Lib.hid (show atT L (i2 : Int) = vv by unfold atT; rw [if_pos (by omega), Int.toNat_natCast]; exact ve)
                                      rw [ve] at v vr
                                      have vl : (i2 : Int) < (N : Int) := by omega
                                      clear ve
                                      have htc := HTC.out
                                      rw [uh.out, vh.out] at htc
                                      have wq : IntKind.i64.wrap (vv - uv) = vv - uv := by rw [IntKind.wrap_i64]; omega
                                      have hng : ¬ vv - uv > n := by omega
                                      clear htc
                                      go_wp2_with fail
                                      refine (works_any _).mono ?_
                                      rintro e w14 ⟨rfl, hb⟩
                                      replace hC : Below n0 w w14 := hC.trans (hb.mono (by have := hC.size; omega))
                                      replace hR := (RS.below hR hb).more hb.size
                                      replace huy := (RS.below huy hb).more hb.size
                                      replace huc := (RS.below huc hb).more hb.size
                                      replace bx := bx.below hb bx.lt
                                      replace b2 := b2.below hb b2.lt
                                      replace hX := (RS.below hX hb).more hb.size
                                      replace hv := (RS.below hv hb).more hb.size
                                      replace xx := xx.below hb xx.lt
                                      replace r1 := r1.below hb r1.lt
                                      replace r2 := r2.below hb r2.lt
                                      replace h31 := (RS.below h31 hb).more hb.size
                                      replace h41 := (RS.below h41 hb).more hb.size
                                      replace h51 := (RS.below h51 hb).more hb.size
                                      replace r5 := r5.below hb r5.lt
                                      clear hb
                                      go_wp2_with fail
                                      exact bodyPost_ret (v := .bool true) (by simp [results, Try.results13, go_sem]) rfl ⟨rfl, by first | exact hC | (rw [hn0]; exact hC) | (with_reducible rw [hn0]; exact bel_of) | exact bel_of⟩
                                    have vn : ¬ s2 ≥ 0 := by omega
                                    have vh := Lib.hid (show atT L s2 = 0 by unfold atT; rw [if_neg (by omega)])
                                    have htc := HTC.out
                                    rw [uh.out, vh.out] at htc
                                    have wq : IntKind.i64.wrap (0 - uv) = -uv := by rw [IntKind.wrap_i64]; omega
                                    have wq2 : IntKind.i64.wrap (-uv) = -uv := by rw [IntKind.wrap_i64]; omega
                                    have hng : ¬ -uv > n := by omega
                                    clear htc
                                    go_wp2_with fail
                                    refine (works_any _).mono ?_
                                    rintro e w14 ⟨rfl, hb⟩
                                    replace hC : Below n0 w w14 := hC.trans (hb.mono (by have := hC.size; omega))
                                    replace hR := (RS.below hR hb).more hb.size
                                    replace huy := (RS.below huy hb).more hb.size
                                    replace huc := (RS.below huc hb).more hb.size
                                    replace bx := bx.below hb bx.lt
                                    replace b2 := b2.below hb b2.lt
                                    replace hX := (RS.below hX hb).more hb.size
                                    replace hv := (RS.below hv hb).more hb.size
                                    replace xx := xx.below hb xx.lt
                                    replace r1 := r1.below hb r1.lt
                                    replace r2 := r2.below hb r2.lt
                                    replace h31 := (RS.below h31 hb).more hb.size
                                    replace h41 := (RS.below h41 hb).more hb.size
                                    replace h51 := (RS.below h51 hb).more hb.size
                                    replace r5 := r5.below hb r5.lt
                                    clear hb
                                    go_wp2_with fail
                                    exact bodyPost_ret (v := .bool true) (by simp [results, Try.results13, go_sem]) rfl ⟨rfl, by first | exact hC | (rw [hn0]; exact hC) | (with_reducible rw [hn0]; exact bel_of) | exact bel_of⟩
                                  have un : ¬ s1 ≥ 0 := by omega
                                  have uh := Lib.hid (show atT L s1 = 0 by unfold atT; rw [if_neg (by omega)])
                                  by_cases hs2 : 0 ≤ s2
                                  case pos =>
                                    obtain ⟨i2, rfl⟩ : ∃ t : Nat, s2 = t := ⟨s2.toNat, by omega⟩
                                    have hcl := RI.cells hv
                                    obtain ⟨Al', cl', bb, off, hve, hAx, hcx⟩ := hcl
                                    obtain ⟨hA', hbb⟩ := hAx (by have := HLL.out; omega)
                                    rw [hA'] at hve
                                    injection hve with q1' q2' q3'
                                    injection q1' with q1'
                                    injection q1' with q4' q5'
                                    subst q4' q5'
                                    have v := hcx i2 (by have := HLL.out; omega)
                                    clear hAx hcx q2' q3' hA'
                                    have vr := HLR.out i2 (by omega)
                                    obtain ⟨vv, ve⟩ : ∃ x, nthI L i2 = x := ⟨_, rfl⟩
                                    have vh := Lib.hid (show atT L (i2 : Int) = vv by unfold atT; rw [if_pos (by omega), Int.toNat_natCast]; exact ve)
                                    rw [ve] at v vr
                                    have vl : (i2 : Int) < (N : Int) := by omega
                                    clear ve
                                    have htc := HTC.out
                                    rw [uh.out, vh.out] at htc
                                    have hng : ¬ vv > n := by omega
                                    clear htc
                                    go_wp2_with fail
                                    refine (works_any _).mono ?_
                                    rintro e w14 ⟨rfl, hb⟩
                                    replace hC : Below n0 w w14 := hC.trans (hb.mono (by have := hC.size; omega))
                                    replace hR := (RS.below hR hb).more hb.size
                                    replace huy := (RS.below huy hb).more hb.size
                                    replace huc := (RS.below huc hb).more hb.size
                                    replace bx := bx.below hb bx.lt
                                    replace b2 := b2.below hb b2.lt
                                    replace hX := (RS.below hX hb).more hb.size
                                    replace hv := (RS.below hv hb).more hb.size
                                    replace xx := xx.below hb xx.lt
                                    replace r1 := r1.below hb r1.lt
                                    replace r2 := r2.below hb r2.lt
                                    replace h31 := (RS.below h31 hb).more hb.size
                                    replace h41 := (RS.below h41 hb).more hb.size
                                    replace h51 := (RS.below h51 hb).more hb.size
                                    replace r5 := r5.below hb r5.lt
                                    clear hb
                                    go_wp2_with fail
                                    exact bodyPost_ret (v := .bool true) (by simp [results, Try.results13, go_sem]) rfl ⟨rfl, by first | exact hC | (rw [hn0]; exact hC) | (with_reducible rw [hn0]; exact bel_of) | exact bel_of⟩
                                  have vn : ¬ s2 ≥ 0 := by omega
                                  have vh := Lib.hid (show atT L s2 = 0 by unfold atT; rw [if_neg (by omega)])
                                  have htc := HTC.out
                                  rw [uh.out, vh.out] at htc
                                  have hng : ¬ (0 : Int) > n := by omega
                                  clear htc
                                  go_wp2_with fail
                                  refine (works_any _).mono ?_
                                  rintro e w14 ⟨rfl, hb⟩
                                  replace hC : Below n0 w w14 := hC.trans (hb.mono (by have := hC.size; omega))
                                  replace hR := (RS.below hR hb).more hb.size
                                  replace huy := (RS.below huy hb).more hb.size
                                  replace huc := (RS.below huc hb).more hb.size
                                  replace bx := bx.below hb bx.lt
                                  replace b2 := b2.below hb b2.lt
                                  replace hX := (RS.below hX hb).more hb.size
                                  replace hv := (RS.below hv hb).more hb.size
                                  replace xx := xx.below hb xx.lt
                                  replace r1 := r1.below hb r1.lt
                                  replace r2 := r2.below hb r2.lt
                                  replace h31 := (RS.below h31 hb).more hb.size
                                  replace h41 := (RS.below h41 hb).more hb.size
                                  replace h51 := (RS.below h51 hb).more hb.size
                                  replace r5 := r5.below hb r5.lt
                                  clear hb
                                  go_wp2_with fail
                                  exact bodyPost_ret (v := .bool true) (by simp [results, Try.results13, go_sem]) rfl ⟨rfl, by first | exact hC | (rw [hn0]; exact hC) | (with_reducible rw [hn0]; exact bel_of) | exact bel_of⟩
end Go.Proofs.Ytkljdbgkhghiaaa

namespace Go.Proofs.Ytkljdbgkhghiaaa.keenProved
open Go.ChangeShapes Go.WideShapes Go.ChangeAt Go.RowKit Go.Deep

set_option maxRecDepth 100000 in
theorem lifted (os : Os) (started : os.Started) (H : Type) (enc : TypeId × Value → H) :
    ReturnsInHanded {} Try.checked os 13 .any (Rows.keenProvedSpec.pre6 enc Try.prog Try.f13 Rows.keenProvedRow.domain false) (Rows.keenProvedSpec.post enc Try.prog Try.f13 false true false false) := by
  refine returnsInHanded_of_change (C := Try.checked) own started (by kernel_rfl) Try.func13
    (ChangeSpec.witness6 (enc := enc) (C := Try.checked) false ⟨#[], #[.agg #[.int .i64 0, .slice none 0 0], .slice none 0 0, .agg #[.int .u8 0, .int .u8 0], .slice none 0 0], []⟩ 8 (by kernel_rfl) (by kernel_rfl) (by kernel_rfl) (by kernel_rfl)) ?_
  intro W base args ds gs before hval0 hW hcnd _
  have hval : ∀ (j : Nat) t v, Try.f13.params[j]? = some t → args[j]? = some v → Value.okWide Try.prog W .any base t v := hval0
  have hW2 : DataW.Whole enc Try.prog Try.f13.params.toList Rows.keenProvedSpec.vars false W args.toList ds gs before := hW
  obtain ⟨p, q, hA0, hV, rfl, hfz, hnd⟩ := hW
  have hA : DataW.TrodAll enc Try.prog W 0 (fun _ => true) true Try.f13.params.toList args.toList ds p := hA0
  rw [Try.params13] at hA hval
  obtain ⟨v0, vs0, d0, ds0, p0, q0, hargs, rfl, rfl, h0, r0⟩ := trodAll_cons hA
  obtain ⟨v1, vs1, d1, ds1, p1, q1, rfl, rfl, rfl, h1, r1⟩ := trodAll_cons r0
  obtain ⟨v2, vs2, d2, ds2, p2, q2, rfl, rfl, rfl, h2, r2⟩ := trodAll_cons r1
  obtain ⟨v3, vs3, d3, ds3, p3, q3, rfl, rfl, rfl, h3, r3⟩ := trodAll_cons r2
  obtain ⟨rfl, rfl, rfl⟩ := trodAll_nil r3
  obtain rfl : args = #[v0, v1, v2, v3] := by cases args; simp_all
  obtain ⟨rfl, rfl⟩ := trodVars_none hV
  obtain ⟨E0, s0, l0, rfl, g0, k0, n0, m0⟩ := open_book (hval 0 24 v0 rfl rfl) h0
  obtain ⟨l1, g1, k1, m1⟩ := open_u32s (hval 1 68 v1 rfl rfl) h1
  obtain ⟨x2, y2, rfl, g2⟩ := open_a2 (hval 2 64 v2 rfl rfl) h2
  obtain ⟨l3, g3, k3, m3⟩ := open_kls (hval 3 25 v3 rfl rfl) h3
  refine (keenProved_any (E := E0) (ts := l0) (v := s0) (h := g0) (hE := k0) (hts := n0) (hl := m0) (y := l1) (uy := v1) (huy := g1) (hyl := k1) (hly := m1) (x2 := x2) (y2 := y2) (h2 := g2) (c := l3) (uc := v3) (huc := g3) (hcl := k3) (hlc := m3) (w := W)).mono fun e W' ⟨he, hg⟩ => ?_
  subst he
  exact ⟨_, rfl, law_done hW2 rfl rfl rfl (by rw [Try.params13]; decide +kernel) hg⟩

theorem over : Rows.keenProvedRow.holds Try.pinned (OpenSpec.ofChange Rows.keenProvedSpec) :=
  OpenClaim.holds_of_wide 13 Try.f13 rfl rfl rfl rfl rfl rfl rfl ⟨rfl, rfl, rfl, rfl, rfl⟩ rfl rfl rfl rfl rfl (by kernel_rfl) Try.func13 (by kernel_rfl)
    (of_decide_eq_true (by kernel_rfl)) (by unfold Func.isWrapper; first | (rw [if_pos (by decide +kernel)]; kernel_rfl) | (rw [if_neg (by decide +kernel)]; exact ⟨rfl, rfl⟩))
    (fun os started H enc _ => lifted os started H enc)

theorem proved : Rows.KeenProvedSaid :=
  over
end Go.Proofs.Ytkljdbgkhghiaaa.keenProved
namespace Go.Proofs.Ytkljdbgkhghiaaa
theorem keenProved_proved : Rows.KeenProvedSaid := keenProved.proved
#print axioms keenProved_proved
end Go.Proofs.Ytkljdbgkhghiaaa
