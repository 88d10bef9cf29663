/- A region whose end is stated once for all its orders; two lists of tests that grow side by side. A book that is made so wide that it has a truth. Plain: the edges that a truth makes the sharpest, against those that can be, and surely are. KeenSharpest: the walk. KeenSharpest: the row. -/
import Derived.Test.YtkljdbgkhghiaaaP15
import Derived.Test.YtkljdbgkhghiaaaP28
import Derived.Test.YtkljdbgkhghiaaaP29
import Derived.Test.YtkljdbgkhghiaaaP26
import Derived.Test.YtkljdbgkhghiaaaP12
import Derived.Test.YtkljdbgkhghiaaaP27
import Derived.Test.YtkljdbgkhghiaaaP22
import Derived.Test.YtkljdbgkhghiaaaRows
set_option linter.all false
set_option linter.unnecessarySimpa false
set_option linter.unusedSimpArgs false
set_option linter.unusedVariables false
set_option linter.unusedSectionVars false

set_option linter.all false
namespace Go.Proofs.Ytkljdbgkhghiaaa
open Go.RowKit Kp

/-- Only the normal exit, and what holds there. -/
def OnlyN (R : Act → World → Prop) : Exit → Act → World → Prop
  | .normal, a, w => R a w
  | _, _, _ => False
theorem wp_cut {P : Program} {c : Code} {Q : Exit → Act → World → Prop} {a : Act} {w : World} (R : Act → Act → World → Prop) (h : c.wp P (OnlyN (R a)) a w) (h2 : ∀ a' w', R a a' w' → Q .normal a' w') : c.wp P Q a w :=
  Code.wp_mono (fun e a' w' hq => by cases e <;> first | exact h2 _ _ hq | exact (hq : False).elim) h

/-- Two lists of tests that grow, each in a block of its own. -/
def TwoT (X : World) (base : Nat) (v u : Value) (l m : List Kt) : Prop := OwnT X base v l ∧ OwnT X base u m ∧ ∀ g, v.ownBlock = some g → u.ownBlock ≠ some g
theorem TwoT.symm {X : World} {base : Nat} {v u : Value} {l m : List Kt} (h : TwoT X base v u l m) : TwoT X base u v m l := ⟨h.2.1, h.1, fun g hg hq => h.2.2 g hq hg⟩
theorem TwoT.below {X Y : World} {base : Nat} {v u : Value} {l m : List Kt} (h : TwoT X base v u l m) (hb : Below X.heap.size X Y) : TwoT Y base v u l m := ⟨own_below h.1 hb, own_below h.2.1 hb, h.2.2⟩
theorem TwoT.far {X : World} {base : Nat} {v u : Value} {l m : List Kt} (h : TwoT X base v u l m) {p : Addr} {cs : Array Value} (hp : BK X p.block cs 24) (x : Value) : TwoT (X.setCell p x) base v u l m := by
  have ne : ∀ {z : Value} {k : List Kt}, OwnT X base z k → z.ownBlock ≠ some p.block := fun {z k} hz hq => by
    obtain ⟨c, hc⟩ := own_block hz hq
    unfold BK at hp
    rw [hp] at hc
    injection hc with hc
    injection hc with _ hc
    exact absurd hc (by decide)
  exact ⟨own_far h.1 (ne h.1) x, own_far h.2.1 (ne h.2.1) x, h.2.2⟩
theorem TwoT.nil (X : World) (base : Nat) : TwoT X base (.slice none 0 0) (.slice none 0 0) [] [] := ⟨OwnT.nil X base, OwnT.nil X base, fun g hg => by cases hg⟩

theorem two_grow {W : World} {base g tn : Nat} {v u : Value} {l m : List Kt} {x : Kt} (h : TwoT W base v u l m) (hg : BK W g #[.int .i64 x.one, .int .i64 x.two, .int .i64 x.lo, .int .i64 x.hi] tn) (hn : l.length ≤ 100000) (hbase : base ≤ W.heap.size) :
    ∃ v' w2, (Builtin.append_ #[22, 22] 22 #[v, .slice (some ⟨g, 0, none⟩) 1 1]).run Try.prog W = .ok v' w2 ∧ TwoT w2 base v' u (l ++ [x]) m ∧ (∀ w0, Below base w0 W → Below base w0 w2) ∧ W.heap.size ≤ w2.heap.size ∧ (∀ k cs t, BK W k cs t → v.ownBlock ≠ some k → BK w2 k cs t) := by
  obtain ⟨h1, h2, h3⟩ := h
  obtain ⟨i0, hi0, hz0, hz1, hz2⟩ := info_parts kt_info
  obtain ⟨g', cap', w2, hrun, hown', hgr, hat⟩ := app1 (P := Try.prog) 22 22 56 i0 _ _ _ kt_slice hi0 hz0 hz1 hz2 rfl (by decide) (by decide) base W v l.length (ofG encT l) h1 g (encT x) tn hg rfl (by intro u hu; simp [encT] at hu; rcases hu with rfl | rfl | rfl | rfl <;> rfl) hn hbase
  refine ⟨_, w2, hrun, ⟨?_, ?_, ?_⟩, fun w0 hbw => Below.grown hbw hgr hbase fun k hk => (h1.lt k hk).1, hgr.size, ?_⟩
  · unfold OwnT
    rw [← ofG_app, List.length_append]
    exact hown'
  · refine h2.kept hgr ?_
    cases hu : u.ownBlock with
    | none => exact .inl rfl
    | some q => exact .inr fun hq => h3 q hq.symm hu
  · intro q hq hu
    rcases hat with hat | hat
    · have : q = g' := by simpa [Value.ownBlock] using hq.symm
      subst this
      exact h3 q hat hu
    · have : q = g' := by simpa [Value.ownBlock] using hq.symm
      subst this
      have := (h2.lt q hu).2
      omega
  · intro k cs t hk hte
    exact hk.grown hgr fun hq => hte hq.symm
theorem TwoT.ne {X : World} {base k : Nat} {v u : Value} {l m : List Kt} {cs : Array Value} (h : TwoT X base v u l m) (hk : BK X k cs 24) : v.ownBlock ≠ some k := fun hq => by
  obtain ⟨c, hc⟩ := own_block h.1 hq
  unfold BK at hk
  rw [hk] at hc
  injection hc with hc
  injection hc with _ hc
  exact absurd hc (by decide)
theorem TwoT.lt {X : World} {base : Nat} {v u : Value} {l m : List Kt} (h : TwoT X base v u l m) {k : Nat} (hk : X.heap.size ≤ k) : v.ownBlock ≠ some k := fun hq => by
  have := (h.1.lt k hq).2
  omega
end Go.Proofs.Ytkljdbgkhghiaaa

set_option linter.all false
namespace Go.Proofs.Ytkljdbgkhghiaaa
open Go.RowKit Kp

/-- The truth that numbers make, and the tests that have it. -/
def wideN (y : List Int) (v : Nat) : Int := if y.length = 0 then 0 else nthI y (v % y.length) % 1001
def wideL (N : Nat) (y : List Int) : List Int := (List.range N).map (wideN y)
def wideK (L : List Int) (t : Kt) : Kt := ⟨t.one, t.two, min t.lo (nthI L t.one.toNat - nthI L t.two.toNat), max t.hi (nthI L t.one.toNat - nthI L t.two.toNat)⟩
def wideT (N : Nat) (y : List Int) (ts : List Kt) : List Kt := ts.map (wideK (wideL N y))
theorem wideL_len (N : Nat) (y : List Int) : (wideL N y).length = N := by simp [wideL]
theorem wideL_at {N : Nat} {y : List Int} {v : Nat} (h : v < N) : nthI (wideL N y) v = wideN y v := by
  have : v < (wideL N y).length := by rw [wideL_len]; exact h
  simp [nthI, this, wideL, h]
theorem wideN_rng {y : List Int} (hy : ∀ x ∈ y, okU x) (v : Nat) : 0 ≤ wideN y v ∧ wideN y v ≤ 1000 := by
  unfold wideN
  split <;> omega
theorem wideL_rng {N : Nat} {y : List Int} (hy : ∀ x ∈ y, okU x) {v : Nat} (h : v < N) : 0 ≤ nthI (wideL N y) v ∧ nthI (wideL N y) v ≤ 1000 := by
  rw [wideL_at h]; exact wideN_rng hy v
theorem okb_wide {N : Nat} {ts : List Kt} {y : List Int} (hy : ∀ x ∈ y, okU x) (h : Okb N ts) : Okb N (wideT N y ts) := ⟨h.pos, h.few, fun t ht => by
  obtain ⟨q, hq, rfl⟩ := List.mem_map.1 ht
  have h1 := h.tst q hq
  have a := wideL_rng (N := N) hy (v := q.one.toNat) (by omega)
  have b := wideL_rng (N := N) hy (v := q.two.toNat) (by omega)
  unfold wideK
  dsimp only
  omega⟩
theorem tru_wide {N : Nat} {ts : List Kt} {y : List Int} (hy : ∀ x ∈ y, okU x) (h : Okb N ts) : Tru N (wideT N y ts) (wideL N y) := ⟨wideL_len N y, fun v hv => wideL_rng hy hv, fun t ht => by
  obtain ⟨q, hq, rfl⟩ := List.mem_map.1 ht
  unfold wideK
  dsimp only
  omega⟩
theorem agr_wide {N : Nat} {ts : List Kt} {y : List Int} (hy : ∀ x ∈ y, okU x) (h : Okb N ts) : Agr N (wideT N y ts) := (agr_iff (okb_wide hy h)).2 ⟨_, Tru.pot (okb_wide hy h) (tru_wide hy h)⟩
theorem wideL_take {N k : Nat} {y : List Int} (h : k < N) : (wideL N y).take (k + 1) = (wideL N y).take k ++ [wideN y k] := by
  have hk : k < (wideL N y).length := by rw [wideL_len]; exact h
  rw [List.take_add_one, List.getElem?_eq_getElem hk]
  simp [wideL]
theorem wideT_take {N k : Nat} {y : List Int} {l : List Kt} (h : k < l.length) {o1 o2 lo hi : Int} (ht : nthT l k = ⟨o1, o2, lo, hi⟩) : wideT N y (l.take (k + 1)) = wideT N y (l.take k) ++ [⟨o1, o2, min lo (nthI (wideL N y) o1.toNat - nthI (wideL N y) o2.toNat), max hi (nthI (wideL N y) o1.toNat - nthI (wideL N y) o2.toNat)⟩] := by
  have : nthT l k = l[k] := by simp [nthT, h]
  rw [List.take_add_one, List.getElem?_eq_getElem h, ← this, ht]
  simp [wideT, wideK]
theorem wideT_len (N : Nat) (y : List Int) (ts : List Kt) : (wideT N y ts).length = ts.length := by simp [wideT]
theorem nthT_mem' {l : List Kt} {k : Nat} (h : k < l.length) : nthT l k ∈ l := by
  have : nthT l k = l[k] := by simp [nthT, h]
  rw [this]
  exact List.getElem_mem h
theorem RU.cells {w : World} {B : Nat} {v : Value} {l : List Int} (h : RU w B v l) : ∃ A cap b off, v = .slice A l.length cap ∧ (l.length ≠ 0 → A = some ⟨b, off, none⟩ ∧ b < B) ∧ ∀ k, k < l.length → w.cell? ⟨b, off + k, none⟩ = some (.int .u32 (nthI l k)) := by
  obtain ⟨A, cap, b, off, hv, hl, hA, hc⟩ := h
  refine ⟨A, cap, b, off, hv, hA, fun k hk => ?_⟩
  have := hc k (by simpa using hk)
  simpa [nthI, hk] using this

def WidePost (N : Nat) (y : List Int) (ts : List Kt) (w : World) (e : Ending) (w' : World) : Prop :=
  ∃ vx vt, e = .returned (.tuple #[.agg #[.int .i64 N, vx], vt]) ∧ RT w' w'.heap.size vx (wideT N y ts) ∧ RI w' w'.heap.size vt (wideL N y) ∧ Below w.heap.size w w'

set_option maxHeartbeats 3000000 in
set_option maxRecDepth 100000 in
theorem wide_any (N : Nat) (ts : List Kt) (y : List Int) (v uy : Value) (w : World) (ho : Okb N ts) (hl : ts.length ≤ 40) (hyl : ∀ x ∈ y, okU x) (hy30 : y.length ≤ 30) (h : RT w w.heap.size v ts) (huy : RU w w.heap.size uy y) :
    Calls Try.prog 46 #[.agg #[.int .i64 N, v], uy] w (WidePost N y ts w) := by
  obtain ⟨b, off, cap, A, rfl, hAx⟩ := h.slice
  clear hAx
  have hR := h
  clear h
  obtain ⟨n0, hn0⟩ : ∃ n, w.heap.size = n := ⟨_, rfl⟩
  have hC : Below n0 w w := Below.refl _ _
  have HO := Lib.hid ho
  have HYL := Lib.hid hyl
  have hN1 := ho.pos
  have hN16 := ho.few
  clear ho hyl
  obtain ⟨A_y, c_y, rfl⟩ : ∃ A q, uy = .slice A y.length q := by
    obtain ⟨A, cp, b, off, hv, hl, hA, _⟩ := huy
    exact ⟨A, cp, hv⟩
  go_enter Try.func46, Try.ntmps46
  go_wp2_with fail
  have hqbx : n0 ≤ n0 := by have := hC.size; omega
  have bx : BK (w.alloc (.cells #[.int .i64 N, .slice A ts.length cap] 24)) (n0) #[.int .i64 N, .slice A ts.length cap] 24 := BK.new' _ _ _ (n0) hn0
  have hsbx : (w.alloc (.cells #[.int .i64 N, .slice A ts.length cap] 24)).heap.size = n0 + 1 := by simp [hn0]
  replace hC : Below n0 w (w.alloc (.cells #[.int .i64 N, .slice A ts.length cap] 24)) := Below.alloc hC (by have := hC.size; omega) _
  replace hR := (RS.below hR (w' := (w.alloc (.cells #[.int .i64 N, .slice A ts.length cap] 24))) (Below.alloc (Below.refl _ _) (Nat.le_refl _) _)).more (B' := (w.alloc (.cells #[.int .i64 N, .slice A ts.length cap] 24)).heap.size) (by simp)
  replace huy := (RS.below huy (w' := (w.alloc (.cells #[.int .i64 N, .slice A ts.length cap] 24))) (Below.alloc (Below.refl _ _) (Nat.le_refl _) _)).more (B' := (w.alloc (.cells #[.int .i64 N, .slice A ts.length cap] 24)).heap.size) (by simp)
  generalize (w.alloc (.cells #[.int .i64 N, .slice A ts.length cap] 24)) = Wbx at *
  go_wp2_with fail
  have hqrs : n0 ≤ n0 + 1 := by have := hC.size; omega
  have rs : BK (Wbx.alloc (.cells #[.int .i64 0, .slice none 0 0] 24)) (n0 + 1) #[.int .i64 0, .slice none 0 0] 24 := BK.new' _ _ _ (n0 + 1) hsbx
  have hsrs : (Wbx.alloc (.cells #[.int .i64 0, .slice none 0 0] 24)).heap.size = n0 + 1 + 1 := by simp [hsbx]
  replace hC : Below n0 w (Wbx.alloc (.cells #[.int .i64 0, .slice none 0 0] 24)) := Below.alloc hC (by have := hC.size; omega) _
  replace hR := (RS.below hR (w' := (Wbx.alloc (.cells #[.int .i64 0, .slice none 0 0] 24))) (Below.alloc (Below.refl _ _) (Nat.le_refl _) _)).more (B' := (Wbx.alloc (.cells #[.int .i64 0, .slice none 0 0] 24)).heap.size) (by simp)
  replace huy := (RS.below huy (w' := (Wbx.alloc (.cells #[.int .i64 0, .slice none 0 0] 24))) (Below.alloc (Below.refl _ _) (Nat.le_refl _) _)).more (B' := (Wbx.alloc (.cells #[.int .i64 0, .slice none 0 0] 24)).heap.size) (by simp)
  replace bx := bx.alloc (.cells #[.int .i64 0, .slice none 0 0] 24)
  generalize (Wbx.alloc (.cells #[.int .i64 0, .slice none 0 0] 24)) = Wrs at *
  clear hsbx
  have lbx := bx.lt
  have bxc0 := bx.cell 0
  have bxc1 := bx.cell 1
  simp at bxc0 bxc1
  go_wp2_with fail
  clear lbx bxc0 bxc1
  clear hsrs
  generalize Wrs = W2 at *
  go_loopw [7, 6] (fun i acc wr => ∃ k : Nat, k ≤ N ∧ i = .int .i64 k ∧ OwnI 2 wr W2.heap.size acc ((wideL N y).take k) ∧ Below W2.heap.size W2 wr) (fun i _ _ => N - (intOf i).toNat)
  case atStart => exact ⟨0, Nat.zero_le _, rfl, by simpa using OwnI.nil _ _ _, Below.refl _ _⟩
  case round =>
    obtain ⟨k, hk, rfl, hown, hb⟩ := hrel
    have hbr := Lib.hid hb
    replace hC : Below n0 w wr := hC.trans (hb.mono (by have := hC.size; omega))
    replace hR := (RS.below hR hb).more hb.size
    replace huy := (RS.below huy hb).more hb.size
    replace bx := bx.below hb bx.lt
    replace rs := rs.below hb rs.lt
    clear hb
    by_cases hlt : k < N
    case pos =>
      have hlt' : (k : Int) < (N : Int) := by omega
      have hwt := wideL_take (y := y) hlt
      have hwr := wideN_rng HYL.out k
      by_cases hy0 : y.length = 0
      case pos =>
        have hz : (y.length : Int) = 0 := by omega
        have hx : wideN y k = 0 := by unfold wideN; rw [if_pos hy0]
        rw [hx] at hwt hwr
        obtain ⟨x, hx2⟩ : ∃ x : Int, x = 0 := ⟨_, rfl⟩
        have hgt : ¬ (y.length : Int) > 0 := by omega
        clear hx hy0
        rw [← hx2] at hwt hwr
        subst hx2
        obtain ⟨v', w6, hrun, hown', hb', hs', _⟩ := app_i64 hown 0 (by simp [wideL]; omega) hbr.out.size hbr.out wr.heap.size rfl
        rw [← hwt] at hown'
        have HO2 := Lib.hid hown'
        have HRUN := Lib.hid hrun
        have HB2 := Lib.hid hb'
        clear hown' hrun hb' hs' hwt hwr hown hz
        have lbx := bx.lt
        have bxc0 := bx.cell 0
        have bxc1 := bx.cell 1
        simp at bxc0 bxc1
        go_wp2_with (at_builtin; refine wpList_append_run rfl (.tmp 31) (.tmp 33) 40 _ rfl HRUN.out ?_)
        go_roundw
        case rel => exact ⟨k + 1, by omega, by go_num, HO2.out, HB2.out⟩
        case measure => simp [intOf]; omega
      have hx : wideN y k = nthI y (k % y.length) % 1001 := by unfold wideN; rw [if_neg hy0]
      have hgt : (y.length : Int) > 0 := by omega
      have hml : k % y.length < y.length := Nat.mod_lt _ (by omega)
      have em : (k : Int) % (y.length : Int) = ((k % y.length : Nat) : Int) := rem_nat k y.length
      have z0 : ((y.length : Int) == 0) = false := beq_eq_false_iff_ne.2 (by omega)
      obtain ⟨Ax, cx, bb, off, hve, hAx, hcx⟩ := RU.cells huy
      obtain ⟨rfl, hbb⟩ := hAx (by omega)
      injection hve with q1 q2 q3
      subst q1 q3
      have c0 := hcx _ hml
      obtain ⟨m, hm⟩ : ∃ m, k % y.length = m := ⟨_, rfl⟩
      rw [hm] at c0 em hml hx
      have hu := HYL.out (nthI y m) (by
        have : nthI y m = y[m] := by simp [nthI, hml]
        rw [this]; exact List.getElem_mem hml)
      unfold okU at hu
      rw [hx] at hwt hwr
      obtain ⟨b, hb0⟩ : ∃ b, nthI y m = b := ⟨_, rfl⟩
      rw [hb0] at c0 hwt hwr hu
      obtain ⟨x, hxx⟩ : ∃ x, b % 1001 = x := ⟨_, rfl⟩
      have hlm : (m : Int) < (y.length : Int) := by omega
      have wk : IntKind.i64.wrap (k : Int) = k := by rw [IntKind.wrap_i64]; omega
      have wm : IntKind.i64.wrap (m : Int) = m := by rw [IntKind.wrap_i64]; omega
      have wb : IntKind.i64.wrap b = b := by rw [IntKind.wrap_i64]; omega
      have wx : IntKind.i64.wrap x = x := by rw [IntKind.wrap_i64]; omega
      rw [hxx] at hwt hwr
      clear hx hy0 hAx hcx q2 hb0 hm
      obtain ⟨v', w6, hrun, hown', hb', hs', _⟩ := app_i64 hown x (by simp [wideL]; omega) hbr.out.size hbr.out wr.heap.size rfl
      rw [← hwt] at hown'
      have HO2 := Lib.hid hown'
      have HRUN := Lib.hid hrun
      have HB2 := Lib.hid hb'
      clear hown' hrun hb' hs' hwt hwr hown
      have lbx := bx.lt
      have bxc0 := bx.cell 0
      have bxc1 := bx.cell 1
      simp at bxc0 bxc1
      go_wp2_with (at_builtin; refine wpList_append_run rfl (.tmp 31) (.tmp 33) 40 _ rfl HRUN.out ?_)
      go_roundw
      case rel => exact ⟨k + 1, by omega, by go_num, HO2.out, HB2.out⟩
      case measure => simp [intOf]; omega
    have hlt' : ¬ (k : Int) < (N : Int) := by omega
    rw [List.take_of_length_le (by rw [wideL_len]; omega)] at hown
    obtain ⟨L, hL⟩ : ∃ L, wideL N y = L := ⟨_, rfl⟩
    rw [hL] at hown
    have HLE := Lib.hid hL
    have HLL := Lib.hid (show L.length = N by rw [← hL]; exact wideL_len N y)
    have HLR := Lib.hid (show ∀ v, v < N → 0 ≤ nthI L v ∧ nthI L v ≤ 1000 by rw [← hL]; exact fun v h => wideL_rng HYL.out h)
    obtain ⟨At, ct, rfl⟩ := own_slice hown
    clear hL hbr huy
    have lbx := bx.lt
    have bxc0 := bx.cell 0
    have bxc1 := bx.cell 1
    simp at bxc0 bxc1
    go_wp2_with fail
    clear lbx bxc0 bxc1
    generalize wr = WB at *
    obtain ⟨gxx, hgx⟩ : ∃ n, WB.heap.size = n := ⟨_, rfl⟩
    have xx : BK (WB.alloc (.cells #[.int .i64 N, .slice none 0 0] 24)) gxx #[.int .i64 N, .slice none 0 0] 24 := BK.new' _ _ _ gxx hgx
    have hD : Below WB.heap.size WB (WB.alloc (.cells #[.int .i64 N, .slice none 0 0] 24)) := Below.alloc (Below.refl _ _) (Nat.le_refl _) _
    have hxb : WB.heap.size ≤ gxx := by omega
    generalize WB.alloc (.cells #[.int .i64 N, .slice none 0 0] 24) = Wx at *
    try rw [hgx]
    clear hgx
    have htwo := TwoT.nil Wx WB.heap.size
    go_wp2_with fail
    go_loopw [10] (fun i wr => ∃ k : Nat, k ≤ ts.length ∧ i = .int .i64 k ∧ ∃ vx : Value, BK wr gxx #[.int .i64 N, vx] 24 ∧ TwoT wr WB.heap.size vx (.slice none 0 0) (wideT N y (ts.take k)) [] ∧ Below WB.heap.size WB wr) (fun i _ => ts.length - (intOf i).toNat)
    case atStart => exact ⟨0, Nat.zero_le _, rfl, _, xx, by simpa [wideT] using htwo, hD⟩
    case round =>
      clear xx htwo hD
      obtain ⟨k, hk, rfl, vx, xx, two, hD⟩ := hrel
      have hb := hD
      replace hC : Below n0 w wr := hC.trans (hb.mono (by have := hC.size; omega))
      replace hR := (RS.below hR hb).more hb.size
      replace bx := bx.below hb bx.lt
      replace rs := rs.below hb rs.lt
      replace hown := own_below hown hb
      clear hb
      by_cases hlt : k < ts.length
      case pos =>
        have hlt' : (k : Int) < (ts.length : Int) := by omega
        obtain ⟨Ax, cx, bb, off, hve, hAx, hcx⟩ := RT.cells hR
        obtain ⟨rfl, hbb⟩ := hAx (by omega)
        injection hve with q1 q2 q3
        subst q1 q3
        obtain ⟨c0, c1, c2, c3⟩ := hcx k hlt
        have htok := HO.out.tst _ (nthT_mem' hlt)
        obtain ⟨⟨o1, o2, lo, hi⟩, hqt⟩ : ∃ t, nthT ts k = t := ⟨_, rfl⟩
        have hwt := wideT_take (N := N) (y := y) hlt hqt
        rw [HLE.out] at hwt
        rw [hqt] at c0 c1 c2 c3 htok
        dsimp only at c0 c1 c2 c3 htok
        obtain ⟨k1, k2, k3, k4, _, k5, k6, k7⟩ := htok
        obtain ⟨p, rfl⟩ : ∃ p : Nat, o1 = p := ⟨o1.toNat, by omega⟩
        obtain ⟨q, rfl⟩ : ∃ p : Nat, o2 = p := ⟨o2.toNat, by omega⟩
        have hpN : p < N := by omega
        have hqN : q < N := by omega
        rw [Int.toNat_natCast, Int.toNat_natCast] at hwt
        have ra := HLR.out p hpN
        have rb := HLR.out q hqN
        obtain ⟨a, ha⟩ : ∃ x, nthI L p = x := ⟨_, rfl⟩
        obtain ⟨b, hb0⟩ : ∃ x, nthI L q = x := ⟨_, rfl⟩
        rw [ha] at ra hwt
        rw [hb0] at rb hwt
        obtain ⟨d, hd⟩ : ∃ d, a - b = d := ⟨_, rfl⟩
        rw [hd] at hwt
        have wd : IntKind.i64.wrap (a - b) = d := by rw [IntKind.wrap_i64]; omega
        have hll : (L.length : Int) = (N : Int) := by have := HLL.out; omega
        have f1 : (p : Int) < (N : Int) := by omega
        have f2 : (q : Int) < (N : Int) := by omega
        have f3 : (p : Int) < (L.length : Int) := by omega
        have f4 : (q : Int) < (L.length : Int) := by omega
        have f5 : p < L.length := by have := HLL.out; omega
        have f6 : q < L.length := by have := HLL.out; omega
        have HPA := Lib.hid ha
        have HPB := Lib.hid hb0
        clear hAx hcx q2 hqt k1 k2 k3 k4 k5 k7 ra rb ha hb0 hd
        have nxx := TwoT.lt two (Nat.le_refl _)
        rcases Int.lt_or_le d lo with g1 | g1
        case inl =>
          have g2 : d ≤ hi := by omega
          rw [show min lo d = d by omega, show max hi d = hi by omega] at hwt
          have HTX := Lib.hid hwt
          clear hwt k6
          have lbx := bx.lt
          have bxc0 := bx.cell 0
          have bxc1 := bx.cell 1
          simp at bxc0 bxc1
          go_upto_region 14 with fail
          clear lbx bxc0 bxc1
          clear c0 c1 c2 c3
          obtain ⟨m1, hm1⟩ : ∃ n, wr.heap.size = n := ⟨_, rfl⟩
          try rw [hm1]
          have hqbt : n0 ≤ m1 := by have := hC.size; omega
          have bt : BK (wr.alloc (.cells #[.int .i64 p, .int .i64 q, .int .i64 lo, .int .i64 hi] 56)) (m1) #[.int .i64 p, .int .i64 q, .int .i64 lo, .int .i64 hi] 56 := BK.new' _ _ _ (m1) hm1
          have hsbt : (wr.alloc (.cells #[.int .i64 p, .int .i64 q, .int .i64 lo, .int .i64 hi] 56)).heap.size = m1 + 1 := by simp [hm1]
          rw [hm1] at nxx
          have lgx : gxx < m1 := by have := xx.lt; omega
          skip
          replace hC : Below n0 w (wr.alloc (.cells #[.int .i64 p, .int .i64 q, .int .i64 lo, .int .i64 hi] 56)) := Below.alloc hC (by have := hC.size; omega) _
          replace hR := (RS.below hR (w' := (wr.alloc (.cells #[.int .i64 p, .int .i64 q, .int .i64 lo, .int .i64 hi] 56))) (Below.alloc (Below.refl _ _) (Nat.le_refl _) _)).more (B' := (wr.alloc (.cells #[.int .i64 p, .int .i64 q, .int .i64 lo, .int .i64 hi] 56)).heap.size) (by simp)
          replace bx := bx.alloc (.cells #[.int .i64 p, .int .i64 q, .int .i64 lo, .int .i64 hi] 56)
          replace rs := rs.alloc (.cells #[.int .i64 p, .int .i64 q, .int .i64 lo, .int .i64 hi] 56)
          replace hown := own_below hown (W' := (wr.alloc (.cells #[.int .i64 p, .int .i64 q, .int .i64 lo, .int .i64 hi] 56))) (Below.alloc (Below.refl _ _) (Nat.le_refl _) _)
          replace xx := xx.alloc (.cells #[.int .i64 p, .int .i64 q, .int .i64 lo, .int .i64 hi] 56)
          replace two := TwoT.below two (Y := (wr.alloc (.cells #[.int .i64 p, .int .i64 q, .int .i64 lo, .int .i64 hi] 56))) (Below.alloc (Below.refl _ _) (Nat.le_refl _) _)
          replace hD := hD.trans ((Below.alloc (Below.refl _ _) (Nat.le_refl _) _ : Below _ _ (wr.alloc (.cells #[.int .i64 p, .int .i64 q, .int .i64 lo, .int .i64 hi] 56))).mono hD.size)
          generalize (wr.alloc (.cells #[.int .i64 p, .int .i64 q, .int .i64 lo, .int .i64 hi] 56)) = Wbt at *
          clear hm1
          obtain ⟨Al, cl, bl, ol, hvl, hAl, hcl⟩ := RI.cells (OwnI.ri hown)
          obtain ⟨rfl, hbl⟩ := hAl (by have := HLL.out; omega)
          injection hvl with q4 q5 q6
          subst q4 q6
          have d0 := hcl p (by have := HLL.out; omega)
          have d1 := hcl q (by have := HLL.out; omega)
          rw [HPA.out] at d0
          rw [HPB.out] at d1
          clear hAl hcl q5
          have lbt := bt.lt
          have btc0 := bt.cell 0
          have btc1 := bt.cell 1
          have btc2 := bt.cell 2
          have btc3 := bt.cell 3
          simp at btc0 btc1 btc2 btc3
          go_quiet (fail)
          clear d0 d1
          have lxx := xx.lt
          have xxc0 := xx.cell 0
          have xxc1 := xx.cell 1
          simp at xxc0 xxc1
          go_upto_region 15 with fail
          refine wp_region_noPanic (plain_any [0, 1, 2, 3, 4, 5, 6, 7, 8, 9, 10, 11, 12, 13, 14, 15] (Below Wbt.heap.size Wbt) mixed ?_)
          (refine any_take 0 ?_ (by rfl) (by kernel_rfl) (fun _ _ _ _ _ hx => hx.elim) (.inl ⟨by rfl, ?_⟩) (by exact bel_of) ?_; rotate_left; (intro X hX; obtain ⟨r1, r2⟩ := Below.rules hX; clear hX; go_simp; rfl); simp only [List.getElem_toArray, List.getElem_cons_succ, List.getElem_cons_zero, Act.put, List.setIfInBounds_toArray, List.set_cons_succ, List.set_cons_zero])
          (refine any_take 1 ?_ (by rfl) (by kernel_rfl) (fun _ _ _ _ _ hx => hx.elim) (.inl ⟨by rfl, ?_⟩) (by exact bel_of) ?_; rotate_left; (intro X hX; obtain ⟨r1, r2⟩ := Below.rules hX; clear hX; go_simp; rfl); simp only [List.getElem_toArray, List.getElem_cons_succ, List.getElem_cons_zero, Act.put, List.setIfInBounds_toArray, List.set_cons_succ, List.set_cons_zero])
          (refine any_take 2 ?_ (by rfl) (by kernel_rfl) (fun _ _ _ _ _ hx => hx.elim) (.inl ⟨by rfl, ?_⟩) (by exact bel_of) ?_; rotate_left; (intro X hX; obtain ⟨r1, r2⟩ := Below.rules hX; clear hX; go_simp; rfl); simp only [List.getElem_toArray, List.getElem_cons_succ, List.getElem_cons_zero, Act.put, List.setIfInBounds_toArray, List.set_cons_succ, List.set_cons_zero])
          (refine any_take 3 ?_ (by rfl) (by kernel_rfl) (fun _ _ _ _ _ hx => hx.elim) (.inl ⟨by rfl, ?_⟩) (by exact bel_of) ?_; rotate_left; (intro X hX; obtain ⟨r1, r2⟩ := Below.rules hX; clear hX; go_simp; rfl); simp only [List.getElem_toArray, List.getElem_cons_succ, List.getElem_cons_zero, Act.put, List.setIfInBounds_toArray, List.set_cons_succ, List.set_cons_zero])
          (refine any_take 4 ?_ (by rfl) (by kernel_rfl) (fun _ _ _ _ _ hx => hx.elim) (.inl ⟨by rfl, ?_⟩) (by exact bel_of) ?_; rotate_left; (intro X hX; obtain ⟨r1, r2⟩ := Below.rules hX; clear hX; go_simp; rfl); simp only [List.getElem_toArray, List.getElem_cons_succ, List.getElem_cons_zero, Act.put, List.setIfInBounds_toArray, List.set_cons_succ, List.set_cons_zero])
          (refine any_take 5 ?_ (by rfl) (by kernel_rfl) (fun _ _ _ _ _ hx => hx.elim) (.inl ⟨by rfl, ?_⟩) (by exact bel_of) ?_; rotate_left; (intro X hX; obtain ⟨r1, r2⟩ := Below.rules hX; clear hX; go_simp; rfl); simp only [List.getElem_toArray, List.getElem_cons_succ, List.getElem_cons_zero, Act.put, List.setIfInBounds_toArray, List.set_cons_succ, List.set_cons_zero])
          (refine any_take 6 ?_ (by rfl) (by kernel_rfl) (fun _ _ _ _ _ hx => hx.elim) (.inl ⟨by rfl, ?_⟩) (by exact bel_of) ?_; rotate_left; (intro X hX; obtain ⟨r1, r2⟩ := Below.rules hX; clear hX; go_simp; rfl); simp only [List.getElem_toArray, List.getElem_cons_succ, List.getElem_cons_zero, Act.put, List.setIfInBounds_toArray, List.set_cons_succ, List.set_cons_zero])
          (refine any_take 7 ?_ (by rfl) (by kernel_rfl) (fun _ _ _ _ _ hx => hx.elim) (.inl ⟨by rfl, ?_⟩) (by exact bel_of) ?_; rotate_left; (intro X hX; obtain ⟨r1, r2⟩ := Below.rules hX; clear hX; go_simp; rfl); simp only [List.getElem_toArray, List.getElem_cons_succ, List.getElem_cons_zero, Act.put, List.setIfInBounds_toArray, List.set_cons_succ, List.set_cons_zero])
          (refine any_take 8 ?_ (by rfl) (by kernel_rfl) (fun _ _ _ _ _ hx => hx.elim) (.inl ⟨by rfl, ?_⟩) (by exact bel_of) ?_; rotate_left; (intro X hX; obtain ⟨r1, r2⟩ := Below.rules hX; clear hX; go_simp; rfl); simp only [List.getElem_toArray, List.getElem_cons_succ, List.getElem_cons_zero, Act.put, List.setIfInBounds_toArray, List.set_cons_succ, List.set_cons_zero])
          (refine any_take 9 ?_ (by rfl) (by kernel_rfl) (fun _ _ _ _ _ hx => hx.elim) (.inl ⟨by rfl, ?_⟩) (by exact bel_of) ?_; rotate_left; (intro X hX; obtain ⟨r1, r2⟩ := Below.rules hX; clear hX; go_simp; rfl); simp only [List.getElem_toArray, List.getElem_cons_succ, List.getElem_cons_zero, Act.put, List.setIfInBounds_toArray, List.set_cons_succ, List.set_cons_zero])
          (refine any_take 10 ?_ (by rfl) (by kernel_rfl) (fun _ _ _ _ _ hx => hx.elim) (.inl ⟨by rfl, ?_⟩) (by exact bel_of) ?_; rotate_left; (intro X hX; obtain ⟨r1, r2⟩ := Below.rules hX; clear hX; go_simp; rfl); simp only [List.getElem_toArray, List.getElem_cons_succ, List.getElem_cons_zero, Act.put, List.setIfInBounds_toArray, List.set_cons_succ, List.set_cons_zero])
          (refine any_take 11 ?_ (by rfl) (by kernel_rfl) (fun _ _ _ _ _ hx => hx.elim) (.inl ⟨by rfl, ?_⟩) (by exact bel_of) ?_; rotate_left; (intro X hX; obtain ⟨r1, r2⟩ := Below.rules hX; clear hX; go_simp; rfl); simp only [List.getElem_toArray, List.getElem_cons_succ, List.getElem_cons_zero, Act.put, List.setIfInBounds_toArray, List.set_cons_succ, List.set_cons_zero])
          (refine any_take 12 ?_ (by rfl) (by kernel_rfl) (fun _ _ _ _ _ hx => hx.elim) (.inl ⟨by rfl, ?_⟩) (by exact bel_of) ?_; rotate_left; (intro X hX; obtain ⟨r1, r2⟩ := Below.rules hX; clear hX; go_simp; rfl); simp only [List.getElem_toArray, List.getElem_cons_succ, List.getElem_cons_zero, Act.put, List.setIfInBounds_toArray, List.set_cons_succ, List.set_cons_zero])
          (refine any_take 13 ?_ (by rfl) (by kernel_rfl) (fun _ _ _ _ _ hx => hx.elim) (.inl ⟨by rfl, ?_⟩) (by exact bel_of) ?_; rotate_left; (intro X hX; obtain ⟨r1, r2⟩ := Below.rules hX; clear hX; go_simp; rfl); simp only [List.getElem_toArray, List.getElem_cons_succ, List.getElem_cons_zero, Act.put, List.setIfInBounds_toArray, List.set_cons_succ, List.set_cons_zero])
          (refine any_take 14 ?_ (by rfl) (by kernel_rfl) (fun _ _ _ _ _ hx => hx.elim) (.inl ⟨by rfl, ?_⟩) (by exact bel_of) ?_; rotate_left; (intro X hX; obtain ⟨r1, r2⟩ := Below.rules hX; clear hX; go_simp; rfl); simp only [List.getElem_toArray, List.getElem_cons_succ, List.getElem_cons_zero, Act.put, List.setIfInBounds_toArray, List.set_cons_succ, List.set_cons_zero])
          (refine any_take 15 ?_ (by rfl) (by kernel_rfl) (fun _ _ _ _ _ hx => hx.elim) (.inl ⟨by rfl, ?_⟩) (by exact bel_of) ?_; rotate_left; (intro X hX; obtain ⟨r1, r2⟩ := Below.rules hX; clear hX; go_simp; rfl); simp only [List.getElem_toArray, List.getElem_cons_succ, List.getElem_cons_zero, Act.put, List.setIfInBounds_toArray, List.set_cons_succ, List.set_cons_zero])
          have hd0p : Below Wbt.heap.size Wbt (Wbt.drewN (nq + 1)) := by exact bel_of
          refine any_run1 (i := 16) (by kernel_rfl) (by rfl) (by kernel_rfl) ?_
          intro K3 hK3
          go_wp2_with fail
          refine (test_any p q d hi _).mono ?_
          rintro e Vp ⟨rfl, hb1⟩
          unfold tV
          have hb01 : Below Wbt.heap.size Wbt Vp := hd0p.trans (hb1.mono hd0p.size)
          refine hK3 _ _ (fun _ => hb01) ?_
          clear hK3 K3 hb1
          refine any_run1 (i := 17) (by kernel_rfl) (by rfl) (by kernel_rfl) ?_
          intro K3 hK3
          go_wp2_with fail
          obtain ⟨gv, hgv⟩ : ∃ n, Vp.heap.size = n := ⟨_, rfl⟩
          have bX : BK (Vp.alloc (.cells #[.int .i64 p, .int .i64 q, .int .i64 d, .int .i64 hi] 56)) gv #[.int .i64 p, .int .i64 q, .int .i64 d, .int .i64 hi] 56 := BK.new' _ _ _ gv hgv
          have hbX : Below Vp.heap.size Vp (Vp.alloc (.cells #[.int .i64 p, .int .i64 q, .int .i64 d, .int .i64 hi] 56)) := Below.alloc (Below.refl _ _) (Nat.le_refl _) _
          have hb0X := hb01.trans (hbX.mono hb01.size)
          refine hK3 _ _ (fun _ => hb0X) ?_
          clear hK3 K3
          try rw [hgv]
          have hbase : WB.heap.size ≤ (Vp.alloc (.cells #[.int .i64 p, .int .i64 q, .int .i64 d, .int .i64 hi] 56)).heap.size := by have := hD.size; have := hb0X.size; omega
          obtain ⟨vp, w9p, hrun, two9, hbel, hsz9, hkeep⟩ := two_grow (x := ⟨p, q, d, hi⟩) (TwoT.below two hb0X) bX (by first | (simp [wideT]; done) | (simp [wideT]; omega)) hbase
          obtain ⟨Ap, np, cp, hvp⟩ : ∃ A n c, vp = Value.slice A n c := by
            obtain ⟨A, c, h⟩ := own_slice two9.1
            exact ⟨A, _, c, h⟩
          subst hvp
          have xx9 := hkeep _ _ _ (xx.below hb0X xx.lt) (TwoT.ne (TwoT.below two hb0X) (xx.below hb0X xx.lt))
          have bt9 := hkeep _ _ _ (bt.below hb0X bt.lt) nxx
          have hD9 : Below WB.heap.size WB w9p := hbel _ (hD.trans (hb0X.mono hD.size))
          have HRUN := Lib.hid hrun
          clear hgv hrun hbel hkeep bX hb0X hbX hb01 hd0p hsz9 hbase
          generalize Vp.alloc (.cells #[.int .i64 p, .int .i64 q, .int .i64 d, .int .i64 hi] 56) = VXp at *
          refine any_run1 (i := 18) (by kernel_rfl) (by rfl) (by kernel_rfl) ?_
          intro K3 hK3
          refine wp_append_run (.tmp 62) (.tmp 78) 22 _ rfl HRUN.out ?_
          refine hK3 _ _ (fun hx => (Bool.false_ne_true (hx.symm.trans (by kernel_rfl))).elim) ?_
          clear hK3 K3 HRUN
          simp only [List.getElem_toArray, List.getElem_cons_succ, List.getElem_cons_zero, Act.put, List.setIfInBounds_toArray, List.set_cons_succ, List.set_cons_zero]
          clear lbt btc0 btc1 btc2 btc3
          clear lxx xxc0 xxc1
          have lb := xx9.lt
          have y0 := xx9.cell 0
          have y1 := xx9.cell 1
          have f1 := xx9.frozen 1
          simp at y0 y1
          refine any_run1 (i := 19) (by kernel_rfl) (by rfl) (by kernel_rfl) ?_
          intro K3 hK3
          go_wp2_with fail
          refine hK3 _ _ (fun hx => (Bool.false_ne_true (hx.symm.trans (by kernel_rfl))).elim) ?_
          clear hK3 K3
          refine any_run1 (i := 20) (by kernel_rfl) (by rfl) (by kernel_rfl) ?_
          intro K3 hK3
          go_wp2_with fail
          refine hK3 _ _ (fun hx => (Bool.false_ne_true (hx.symm.trans (by kernel_rfl))).elim) ?_
          clear hK3 K3
          refine any_done (by kernel_rfl) (NoPanic.normal ?_)
          clear y0 y1 f1 lb
          have xxA : BK (w9p.setCell ⟨gxx, 1, none⟩ (.slice Ap np cp)) gxx #[.int .i64 N, .slice Ap np cp] 24 := by simpa using xx9.set 1 (.slice Ap np cp)
          have btA := bt9.far (p := ⟨gxx, 1, none⟩) (by show m1 ≠ gxx; omega) (.slice Ap np cp)
          have twoA := TwoT.far two9 (p := ⟨gxx, 1, none⟩) xx9 (.slice Ap np cp)
          have hDA : Below WB.heap.size WB (w9p.setCell ⟨gxx, 1, none⟩ (.slice Ap np cp)) := Below.setCell hD9 (by show WB.heap.size ≤ gxx; omega) _
          clear xx9 bt9 two9 hD9 xx bt two hD
          generalize w9p.setCell ⟨gxx, 1, none⟩ (.slice Ap np cp) = WAp at *
          have xx := xxA
          have bt := btA
          have two2 := twoA
          have hD := hDA
          clear xxA btA twoA hDA
          go_wp2_with fail
          go_roundw
          case rel => exact ⟨k + 1, by omega, by go_num, _, xx, by rw [HTX.out]; exact two2, hD⟩
          case measure => simp [intOf]; omega
        rcases Int.lt_or_le hi d with g2 | g2
        case inl =>
          rw [show min lo d = lo by omega, show max hi d = d by omega] at hwt
          have HTX := Lib.hid hwt
          clear hwt k6
          have lbx := bx.lt
          have bxc0 := bx.cell 0
          have bxc1 := bx.cell 1
          simp at bxc0 bxc1
          go_upto_region 14 with fail
          clear lbx bxc0 bxc1
          clear c0 c1 c2 c3
          obtain ⟨m2, hm2⟩ : ∃ n, wr.heap.size = n := ⟨_, rfl⟩
          try rw [hm2]
          have hqbt : n0 ≤ m2 := by have := hC.size; omega
          have bt : BK (wr.alloc (.cells #[.int .i64 p, .int .i64 q, .int .i64 lo, .int .i64 hi] 56)) (m2) #[.int .i64 p, .int .i64 q, .int .i64 lo, .int .i64 hi] 56 := BK.new' _ _ _ (m2) hm2
          have hsbt : (wr.alloc (.cells #[.int .i64 p, .int .i64 q, .int .i64 lo, .int .i64 hi] 56)).heap.size = m2 + 1 := by simp [hm2]
          rw [hm2] at nxx
          have lgx : gxx < m2 := by have := xx.lt; omega
          skip
          replace hC : Below n0 w (wr.alloc (.cells #[.int .i64 p, .int .i64 q, .int .i64 lo, .int .i64 hi] 56)) := Below.alloc hC (by have := hC.size; omega) _
          replace hR := (RS.below hR (w' := (wr.alloc (.cells #[.int .i64 p, .int .i64 q, .int .i64 lo, .int .i64 hi] 56))) (Below.alloc (Below.refl _ _) (Nat.le_refl _) _)).more (B' := (wr.alloc (.cells #[.int .i64 p, .int .i64 q, .int .i64 lo, .int .i64 hi] 56)).heap.size) (by simp)
          replace bx := bx.alloc (.cells #[.int .i64 p, .int .i64 q, .int .i64 lo, .int .i64 hi] 56)
          replace rs := rs.alloc (.cells #[.int .i64 p, .int .i64 q, .int .i64 lo, .int .i64 hi] 56)
          replace hown := own_below hown (W' := (wr.alloc (.cells #[.int .i64 p, .int .i64 q, .int .i64 lo, .int .i64 hi] 56))) (Below.alloc (Below.refl _ _) (Nat.le_refl _) _)
          replace xx := xx.alloc (.cells #[.int .i64 p, .int .i64 q, .int .i64 lo, .int .i64 hi] 56)
          replace two := TwoT.below two (Y := (wr.alloc (.cells #[.int .i64 p, .int .i64 q, .int .i64 lo, .int .i64 hi] 56))) (Below.alloc (Below.refl _ _) (Nat.le_refl _) _)
          replace hD := hD.trans ((Below.alloc (Below.refl _ _) (Nat.le_refl _) _ : Below _ _ (wr.alloc (.cells #[.int .i64 p, .int .i64 q, .int .i64 lo, .int .i64 hi] 56))).mono hD.size)
          generalize (wr.alloc (.cells #[.int .i64 p, .int .i64 q, .int .i64 lo, .int .i64 hi] 56)) = Wbt at *
          clear hm2
          obtain ⟨Al, cl, bl, ol, hvl, hAl, hcl⟩ := RI.cells (OwnI.ri hown)
          obtain ⟨rfl, hbl⟩ := hAl (by have := HLL.out; omega)
          injection hvl with q4 q5 q6
          subst q4 q6
          have d0 := hcl p (by have := HLL.out; omega)
          have d1 := hcl q (by have := HLL.out; omega)
          rw [HPA.out] at d0
          rw [HPB.out] at d1
          clear hAl hcl q5
          have lbt := bt.lt
          have btc0 := bt.cell 0
          have btc1 := bt.cell 1
          have btc2 := bt.cell 2
          have btc3 := bt.cell 3
          simp at btc0 btc1 btc2 btc3
          go_quiet (fail)
          clear d0 d1
          have lxx := xx.lt
          have xxc0 := xx.cell 0
          have xxc1 := xx.cell 1
          simp at xxc0 xxc1
          go_upto_region 15 with fail
          refine wp_region_noPanic (plain_any [0, 1, 2, 3, 4, 5, 6, 7, 8, 9, 10, 11, 12, 13, 14, 15] (Below Wbt.heap.size Wbt) mixed ?_)
          (refine any_take 0 ?_ (by rfl) (by kernel_rfl) (fun _ _ _ _ _ hx => hx.elim) (.inl ⟨by rfl, ?_⟩) (by exact bel_of) ?_; rotate_left; (intro X hX; obtain ⟨r1, r2⟩ := Below.rules hX; clear hX; go_simp; rfl); simp only [List.getElem_toArray, List.getElem_cons_succ, List.getElem_cons_zero, Act.put, List.setIfInBounds_toArray, List.set_cons_succ, List.set_cons_zero])
          (refine any_take 1 ?_ (by rfl) (by kernel_rfl) (fun _ _ _ _ _ hx => hx.elim) (.inl ⟨by rfl, ?_⟩) (by exact bel_of) ?_; rotate_left; (intro X hX; obtain ⟨r1, r2⟩ := Below.rules hX; clear hX; go_simp; rfl); simp only [List.getElem_toArray, List.getElem_cons_succ, List.getElem_cons_zero, Act.put, List.setIfInBounds_toArray, List.set_cons_succ, List.set_cons_zero])
          (refine any_take 2 ?_ (by rfl) (by kernel_rfl) (fun _ _ _ _ _ hx => hx.elim) (.inl ⟨by rfl, ?_⟩) (by exact bel_of) ?_; rotate_left; (intro X hX; obtain ⟨r1, r2⟩ := Below.rules hX; clear hX; go_simp; rfl); simp only [List.getElem_toArray, List.getElem_cons_succ, List.getElem_cons_zero, Act.put, List.setIfInBounds_toArray, List.set_cons_succ, List.set_cons_zero])
          (refine any_take 3 ?_ (by rfl) (by kernel_rfl) (fun _ _ _ _ _ hx => hx.elim) (.inl ⟨by rfl, ?_⟩) (by exact bel_of) ?_; rotate_left; (intro X hX; obtain ⟨r1, r2⟩ := Below.rules hX; clear hX; go_simp; rfl); simp only [List.getElem_toArray, List.getElem_cons_succ, List.getElem_cons_zero, Act.put, List.setIfInBounds_toArray, List.set_cons_succ, List.set_cons_zero])
          (refine any_take 4 ?_ (by rfl) (by kernel_rfl) (fun _ _ _ _ _ hx => hx.elim) (.inl ⟨by rfl, ?_⟩) (by exact bel_of) ?_; rotate_left; (intro X hX; obtain ⟨r1, r2⟩ := Below.rules hX; clear hX; go_simp; rfl); simp only [List.getElem_toArray, List.getElem_cons_succ, List.getElem_cons_zero, Act.put, List.setIfInBounds_toArray, List.set_cons_succ, List.set_cons_zero])
          (refine any_take 5 ?_ (by rfl) (by kernel_rfl) (fun _ _ _ _ _ hx => hx.elim) (.inl ⟨by rfl, ?_⟩) (by exact bel_of) ?_; rotate_left; (intro X hX; obtain ⟨r1, r2⟩ := Below.rules hX; clear hX; go_simp; rfl); simp only [List.getElem_toArray, List.getElem_cons_succ, List.getElem_cons_zero, Act.put, List.setIfInBounds_toArray, List.set_cons_succ, List.set_cons_zero])
          (refine any_take 6 ?_ (by rfl) (by kernel_rfl) (fun _ _ _ _ _ hx => hx.elim) (.inl ⟨by rfl, ?_⟩) (by exact bel_of) ?_; rotate_left; (intro X hX; obtain ⟨r1, r2⟩ := Below.rules hX; clear hX; go_simp; rfl); simp only [List.getElem_toArray, List.getElem_cons_succ, List.getElem_cons_zero, Act.put, List.setIfInBounds_toArray, List.set_cons_succ, List.set_cons_zero])
          (refine any_take 7 ?_ (by rfl) (by kernel_rfl) (fun _ _ _ _ _ hx => hx.elim) (.inl ⟨by rfl, ?_⟩) (by exact bel_of) ?_; rotate_left; (intro X hX; obtain ⟨r1, r2⟩ := Below.rules hX; clear hX; go_simp; rfl); simp only [List.getElem_toArray, List.getElem_cons_succ, List.getElem_cons_zero, Act.put, List.setIfInBounds_toArray, List.set_cons_succ, List.set_cons_zero])
          (refine any_take 8 ?_ (by rfl) (by kernel_rfl) (fun _ _ _ _ _ hx => hx.elim) (.inl ⟨by rfl, ?_⟩) (by exact bel_of) ?_; rotate_left; (intro X hX; obtain ⟨r1, r2⟩ := Below.rules hX; clear hX; go_simp; rfl); simp only [List.getElem_toArray, List.getElem_cons_succ, List.getElem_cons_zero, Act.put, List.setIfInBounds_toArray, List.set_cons_succ, List.set_cons_zero])
          (refine any_take 9 ?_ (by rfl) (by kernel_rfl) (fun _ _ _ _ _ hx => hx.elim) (.inl ⟨by rfl, ?_⟩) (by exact bel_of) ?_; rotate_left; (intro X hX; obtain ⟨r1, r2⟩ := Below.rules hX; clear hX; go_simp; rfl); simp only [List.getElem_toArray, List.getElem_cons_succ, List.getElem_cons_zero, Act.put, List.setIfInBounds_toArray, List.set_cons_succ, List.set_cons_zero])
          (refine any_take 10 ?_ (by rfl) (by kernel_rfl) (fun _ _ _ _ _ hx => hx.elim) (.inl ⟨by rfl, ?_⟩) (by exact bel_of) ?_; rotate_left; (intro X hX; obtain ⟨r1, r2⟩ := Below.rules hX; clear hX; go_simp; rfl); simp only [List.getElem_toArray, List.getElem_cons_succ, List.getElem_cons_zero, Act.put, List.setIfInBounds_toArray, List.set_cons_succ, List.set_cons_zero])
          (refine any_take 11 ?_ (by rfl) (by kernel_rfl) (fun _ _ _ _ _ hx => hx.elim) (.inl ⟨by rfl, ?_⟩) (by exact bel_of) ?_; rotate_left; (intro X hX; obtain ⟨r1, r2⟩ := Below.rules hX; clear hX; go_simp; rfl); simp only [List.getElem_toArray, List.getElem_cons_succ, List.getElem_cons_zero, Act.put, List.setIfInBounds_toArray, List.set_cons_succ, List.set_cons_zero])
          (refine any_take 12 ?_ (by rfl) (by kernel_rfl) (fun _ _ _ _ _ hx => hx.elim) (.inl ⟨by rfl, ?_⟩) (by exact bel_of) ?_; rotate_left; (intro X hX; obtain ⟨r1, r2⟩ := Below.rules hX; clear hX; go_simp; rfl); simp only [List.getElem_toArray, List.getElem_cons_succ, List.getElem_cons_zero, Act.put, List.setIfInBounds_toArray, List.set_cons_succ, List.set_cons_zero])
          (refine any_take 13 ?_ (by rfl) (by kernel_rfl) (fun _ _ _ _ _ hx => hx.elim) (.inl ⟨by rfl, ?_⟩) (by exact bel_of) ?_; rotate_left; (intro X hX; obtain ⟨r1, r2⟩ := Below.rules hX; clear hX; go_simp; rfl); simp only [List.getElem_toArray, List.getElem_cons_succ, List.getElem_cons_zero, Act.put, List.setIfInBounds_toArray, List.set_cons_succ, List.set_cons_zero])
          (refine any_take 14 ?_ (by rfl) (by kernel_rfl) (fun _ _ _ _ _ hx => hx.elim) (.inl ⟨by rfl, ?_⟩) (by exact bel_of) ?_; rotate_left; (intro X hX; obtain ⟨r1, r2⟩ := Below.rules hX; clear hX; go_simp; rfl); simp only [List.getElem_toArray, List.getElem_cons_succ, List.getElem_cons_zero, Act.put, List.setIfInBounds_toArray, List.set_cons_succ, List.set_cons_zero])
          (refine any_take 15 ?_ (by rfl) (by kernel_rfl) (fun _ _ _ _ _ hx => hx.elim) (.inl ⟨by rfl, ?_⟩) (by exact bel_of) ?_; rotate_left; (intro X hX; obtain ⟨r1, r2⟩ := Below.rules hX; clear hX; go_simp; rfl); simp only [List.getElem_toArray, List.getElem_cons_succ, List.getElem_cons_zero, Act.put, List.setIfInBounds_toArray, List.set_cons_succ, List.set_cons_zero])
          have hd0p : Below Wbt.heap.size Wbt (Wbt.drewN (nq + 1)) := by exact bel_of
          refine any_run1 (i := 16) (by kernel_rfl) (by rfl) (by kernel_rfl) ?_
          intro K3 hK3
          go_wp2_with fail
          refine (test_any p q lo d _).mono ?_
          rintro e Vp ⟨rfl, hb1⟩
          unfold tV
          have hb01 : Below Wbt.heap.size Wbt Vp := hd0p.trans (hb1.mono hd0p.size)
          refine hK3 _ _ (fun _ => hb01) ?_
          clear hK3 K3 hb1
          refine any_run1 (i := 17) (by kernel_rfl) (by rfl) (by kernel_rfl) ?_
          intro K3 hK3
          go_wp2_with fail
          obtain ⟨gv, hgv⟩ : ∃ n, Vp.heap.size = n := ⟨_, rfl⟩
          have bX : BK (Vp.alloc (.cells #[.int .i64 p, .int .i64 q, .int .i64 lo, .int .i64 d] 56)) gv #[.int .i64 p, .int .i64 q, .int .i64 lo, .int .i64 d] 56 := BK.new' _ _ _ gv hgv
          have hbX : Below Vp.heap.size Vp (Vp.alloc (.cells #[.int .i64 p, .int .i64 q, .int .i64 lo, .int .i64 d] 56)) := Below.alloc (Below.refl _ _) (Nat.le_refl _) _
          have hb0X := hb01.trans (hbX.mono hb01.size)
          refine hK3 _ _ (fun _ => hb0X) ?_
          clear hK3 K3
          try rw [hgv]
          have hbase : WB.heap.size ≤ (Vp.alloc (.cells #[.int .i64 p, .int .i64 q, .int .i64 lo, .int .i64 d] 56)).heap.size := by have := hD.size; have := hb0X.size; omega
          obtain ⟨vp, w9p, hrun, two9, hbel, hsz9, hkeep⟩ := two_grow (x := ⟨p, q, lo, d⟩) (TwoT.below two hb0X) bX (by first | (simp [wideT]; done) | (simp [wideT]; omega)) hbase
          obtain ⟨Ap, np, cp, hvp⟩ : ∃ A n c, vp = Value.slice A n c := by
            obtain ⟨A, c, h⟩ := own_slice two9.1
            exact ⟨A, _, c, h⟩
          subst hvp
          have xx9 := hkeep _ _ _ (xx.below hb0X xx.lt) (TwoT.ne (TwoT.below two hb0X) (xx.below hb0X xx.lt))
          have bt9 := hkeep _ _ _ (bt.below hb0X bt.lt) nxx
          have hD9 : Below WB.heap.size WB w9p := hbel _ (hD.trans (hb0X.mono hD.size))
          have HRUN := Lib.hid hrun
          clear hgv hrun hbel hkeep bX hb0X hbX hb01 hd0p hsz9 hbase
          generalize Vp.alloc (.cells #[.int .i64 p, .int .i64 q, .int .i64 lo, .int .i64 d] 56) = VXp at *
          refine any_run1 (i := 18) (by kernel_rfl) (by rfl) (by kernel_rfl) ?_
          intro K3 hK3
          refine wp_append_run (.tmp 62) (.tmp 78) 22 _ rfl HRUN.out ?_
          refine hK3 _ _ (fun hx => (Bool.false_ne_true (hx.symm.trans (by kernel_rfl))).elim) ?_
          clear hK3 K3 HRUN
          simp only [List.getElem_toArray, List.getElem_cons_succ, List.getElem_cons_zero, Act.put, List.setIfInBounds_toArray, List.set_cons_succ, List.set_cons_zero]
          clear lbt btc0 btc1 btc2 btc3
          clear lxx xxc0 xxc1
          have lb := xx9.lt
          have y0 := xx9.cell 0
          have y1 := xx9.cell 1
          have f1 := xx9.frozen 1
          simp at y0 y1
          refine any_run1 (i := 19) (by kernel_rfl) (by rfl) (by kernel_rfl) ?_
          intro K3 hK3
          go_wp2_with fail
          refine hK3 _ _ (fun hx => (Bool.false_ne_true (hx.symm.trans (by kernel_rfl))).elim) ?_
          clear hK3 K3
          refine any_run1 (i := 20) (by kernel_rfl) (by rfl) (by kernel_rfl) ?_
          intro K3 hK3
          go_wp2_with fail
          refine hK3 _ _ (fun hx => (Bool.false_ne_true (hx.symm.trans (by kernel_rfl))).elim) ?_
          clear hK3 K3
          refine any_done (by kernel_rfl) (NoPanic.normal ?_)
          clear y0 y1 f1 lb
          have xxA : BK (w9p.setCell ⟨gxx, 1, none⟩ (.slice Ap np cp)) gxx #[.int .i64 N, .slice Ap np cp] 24 := by simpa using xx9.set 1 (.slice Ap np cp)
          have btA := bt9.far (p := ⟨gxx, 1, none⟩) (by show m2 ≠ gxx; omega) (.slice Ap np cp)
          have twoA := TwoT.far two9 (p := ⟨gxx, 1, none⟩) xx9 (.slice Ap np cp)
          have hDA : Below WB.heap.size WB (w9p.setCell ⟨gxx, 1, none⟩ (.slice Ap np cp)) := Below.setCell hD9 (by show WB.heap.size ≤ gxx; omega) _
          clear xx9 bt9 two9 hD9 xx bt two hD
          generalize w9p.setCell ⟨gxx, 1, none⟩ (.slice Ap np cp) = WAp at *
          have xx := xxA
          have bt := btA
          have two2 := twoA
          have hD := hDA
          clear xxA btA twoA hDA
          go_wp2_with fail
          go_roundw
          case rel => exact ⟨k + 1, by omega, by go_num, _, xx, by rw [HTX.out]; exact two2, hD⟩
          case measure => simp [intOf]; omega
        rw [show min lo d = lo by omega, show max hi d = hi by omega] at hwt
        have HTX := Lib.hid hwt
        clear hwt k6
        have lbx := bx.lt
        have bxc0 := bx.cell 0
        have bxc1 := bx.cell 1
        simp at bxc0 bxc1
        go_upto_region 14 with fail
        clear lbx bxc0 bxc1
        clear c0 c1 c2 c3
        obtain ⟨m3, hm3⟩ : ∃ n, wr.heap.size = n := ⟨_, rfl⟩
        try rw [hm3]
        have hqbt : n0 ≤ m3 := by have := hC.size; omega
        have bt : BK (wr.alloc (.cells #[.int .i64 p, .int .i64 q, .int .i64 lo, .int .i64 hi] 56)) (m3) #[.int .i64 p, .int .i64 q, .int .i64 lo, .int .i64 hi] 56 := BK.new' _ _ _ (m3) hm3
        have hsbt : (wr.alloc (.cells #[.int .i64 p, .int .i64 q, .int .i64 lo, .int .i64 hi] 56)).heap.size = m3 + 1 := by simp [hm3]
        rw [hm3] at nxx
        have lgx : gxx < m3 := by have := xx.lt; omega
        skip
        replace hC : Below n0 w (wr.alloc (.cells #[.int .i64 p, .int .i64 q, .int .i64 lo, .int .i64 hi] 56)) := Below.alloc hC (by have := hC.size; omega) _
        replace hR := (RS.below hR (w' := (wr.alloc (.cells #[.int .i64 p, .int .i64 q, .int .i64 lo, .int .i64 hi] 56))) (Below.alloc (Below.refl _ _) (Nat.le_refl _) _)).more (B' := (wr.alloc (.cells #[.int .i64 p, .int .i64 q, .int .i64 lo, .int .i64 hi] 56)).heap.size) (by simp)
        replace bx := bx.alloc (.cells #[.int .i64 p, .int .i64 q, .int .i64 lo, .int .i64 hi] 56)
        replace rs := rs.alloc (.cells #[.int .i64 p, .int .i64 q, .int .i64 lo, .int .i64 hi] 56)
        replace hown := own_below hown (W' := (wr.alloc (.cells #[.int .i64 p, .int .i64 q, .int .i64 lo, .int .i64 hi] 56))) (Below.alloc (Below.refl _ _) (Nat.le_refl _) _)
        replace xx := xx.alloc (.cells #[.int .i64 p, .int .i64 q, .int .i64 lo, .int .i64 hi] 56)
        replace two := TwoT.below two (Y := (wr.alloc (.cells #[.int .i64 p, .int .i64 q, .int .i64 lo, .int .i64 hi] 56))) (Below.alloc (Below.refl _ _) (Nat.le_refl _) _)
        replace hD := hD.trans ((Below.alloc (Below.refl _ _) (Nat.le_refl _) _ : Below _ _ (wr.alloc (.cells #[.int .i64 p, .int .i64 q, .int .i64 lo, .int .i64 hi] 56))).mono hD.size)
        generalize (wr.alloc (.cells #[.int .i64 p, .int .i64 q, .int .i64 lo, .int .i64 hi] 56)) = Wbt at *
        clear hm3
        obtain ⟨Al, cl, bl, ol, hvl, hAl, hcl⟩ := RI.cells (OwnI.ri hown)
        obtain ⟨rfl, hbl⟩ := hAl (by have := HLL.out; omega)
        injection hvl with q4 q5 q6
        subst q4 q6
        have d0 := hcl p (by have := HLL.out; omega)
        have d1 := hcl q (by have := HLL.out; omega)
        rw [HPA.out] at d0
        rw [HPB.out] at d1
        clear hAl hcl q5
        have lbt := bt.lt
        have btc0 := bt.cell 0
        have btc1 := bt.cell 1
        have btc2 := bt.cell 2
        have btc3 := bt.cell 3
        simp at btc0 btc1 btc2 btc3
        go_quiet (fail)
        clear d0 d1
        have lxx := xx.lt
        have xxc0 := xx.cell 0
        have xxc1 := xx.cell 1
        simp at xxc0 xxc1
        go_upto_region 15 with fail
        refine wp_region_noPanic (plain_any [0, 1, 2, 3, 4, 5, 6, 7, 8, 9, 10, 11, 12, 13, 14, 15] (Below Wbt.heap.size Wbt) mixed ?_)
        (refine any_take 0 ?_ (by rfl) (by kernel_rfl) (fun _ _ _ _ _ hx => hx.elim) (.inl ⟨by rfl, ?_⟩) (by exact bel_of) ?_; rotate_left; (intro X hX; obtain ⟨r1, r2⟩ := Below.rules hX; clear hX; go_simp; rfl); simp only [List.getElem_toArray, List.getElem_cons_succ, List.getElem_cons_zero, Act.put, List.setIfInBounds_toArray, List.set_cons_succ, List.set_cons_zero])
        (refine any_take 1 ?_ (by rfl) (by kernel_rfl) (fun _ _ _ _ _ hx => hx.elim) (.inl ⟨by rfl, ?_⟩) (by exact bel_of) ?_; rotate_left; (intro X hX; obtain ⟨r1, r2⟩ := Below.rules hX; clear hX; go_simp; rfl); simp only [List.getElem_toArray, List.getElem_cons_succ, List.getElem_cons_zero, Act.put, List.setIfInBounds_toArray, List.set_cons_succ, List.set_cons_zero])
        (refine any_take 2 ?_ (by rfl) (by kernel_rfl) (fun _ _ _ _ _ hx => hx.elim) (.inl ⟨by rfl, ?_⟩) (by exact bel_of) ?_; rotate_left; (intro X hX; obtain ⟨r1, r2⟩ := Below.rules hX; clear hX; go_simp; rfl); simp only [List.getElem_toArray, List.getElem_cons_succ, List.getElem_cons_zero, Act.put, List.setIfInBounds_toArray, List.set_cons_succ, List.set_cons_zero])
        (refine any_take 3 ?_ (by rfl) (by kernel_rfl) (fun _ _ _ _ _ hx => hx.elim) (.inl ⟨by rfl, ?_⟩) (by exact bel_of) ?_; rotate_left; (intro X hX; obtain ⟨r1, r2⟩ := Below.rules hX; clear hX; go_simp; rfl); simp only [List.getElem_toArray, List.getElem_cons_succ, List.getElem_cons_zero, Act.put, List.setIfInBounds_toArray, List.set_cons_succ, List.set_cons_zero])
        (refine any_take 4 ?_ (by rfl) (by kernel_rfl) (fun _ _ _ _ _ hx => hx.elim) (.inl ⟨by rfl, ?_⟩) (by exact bel_of) ?_; rotate_left; (intro X hX; obtain ⟨r1, r2⟩ := Below.rules hX; clear hX; go_simp; rfl); simp only [List.getElem_toArray, List.getElem_cons_succ, List.getElem_cons_zero, Act.put, List.setIfInBounds_toArray, List.set_cons_succ, List.set_cons_zero])
        (refine any_take 5 ?_ (by rfl) (by kernel_rfl) (fun _ _ _ _ _ hx => hx.elim) (.inl ⟨by rfl, ?_⟩) (by exact bel_of) ?_; rotate_left; (intro X hX; obtain ⟨r1, r2⟩ := Below.rules hX; clear hX; go_simp; rfl); simp only [List.getElem_toArray, List.getElem_cons_succ, List.getElem_cons_zero, Act.put, List.setIfInBounds_toArray, List.set_cons_succ, List.set_cons_zero])
        (refine any_take 6 ?_ (by rfl) (by kernel_rfl) (fun _ _ _ _ _ hx => hx.elim) (.inl ⟨by rfl, ?_⟩) (by exact bel_of) ?_; rotate_left; (intro X hX; obtain ⟨r1, r2⟩ := Below.rules hX; clear hX; go_simp; rfl); simp only [List.getElem_toArray, List.getElem_cons_succ, List.getElem_cons_zero, Act.put, List.setIfInBounds_toArray, List.set_cons_succ, List.set_cons_zero])
        (refine any_take 7 ?_ (by rfl) (by kernel_rfl) (fun _ _ _ _ _ hx => hx.elim) (.inl ⟨by rfl, ?_⟩) (by exact bel_of) ?_; rotate_left; (intro X hX; obtain ⟨r1, r2⟩ := Below.rules hX; clear hX; go_simp; rfl); simp only [List.getElem_toArray, List.getElem_cons_succ, List.getElem_cons_zero, Act.put, List.setIfInBounds_toArray, List.set_cons_succ, List.set_cons_zero])
        (refine any_take 8 ?_ (by rfl) (by kernel_rfl) (fun _ _ _ _ _ hx => hx.elim) (.inl ⟨by rfl, ?_⟩) (by exact bel_of) ?_; rotate_left; (intro X hX; obtain ⟨r1, r2⟩ := Below.rules hX; clear hX; go_simp; rfl); simp only [List.getElem_toArray, List.getElem_cons_succ, List.getElem_cons_zero, Act.put, List.setIfInBounds_toArray, List.set_cons_succ, List.set_cons_zero])
        (refine any_take 9 ?_ (by rfl) (by kernel_rfl) (fun _ _ _ _ _ hx => hx.elim) (.inl ⟨by rfl, ?_⟩) (by exact bel_of) ?_; rotate_left; (intro X hX; obtain ⟨r1, r2⟩ := Below.rules hX; clear hX; go_simp; rfl); simp only [List.getElem_toArray, List.getElem_cons_succ, List.getElem_cons_zero, Act.put, List.setIfInBounds_toArray, List.set_cons_succ, List.set_cons_zero])
        (refine any_take 10 ?_ (by rfl) (by kernel_rfl) (fun _ _ _ _ _ hx => hx.elim) (.inl ⟨by rfl, ?_⟩) (by exact bel_of) ?_; rotate_left; (intro X hX; obtain ⟨r1, r2⟩ := Below.rules hX; clear hX; go_simp; rfl); simp only [List.getElem_toArray, List.getElem_cons_succ, List.getElem_cons_zero, Act.put, List.setIfInBounds_toArray, List.set_cons_succ, List.set_cons_zero])
        (refine any_take 11 ?_ (by rfl) (by kernel_rfl) (fun _ _ _ _ _ hx => hx.elim) (.inl ⟨by rfl, ?_⟩) (by exact bel_of) ?_; rotate_left; (intro X hX; obtain ⟨r1, r2⟩ := Below.rules hX; clear hX; go_simp; rfl); simp only [List.getElem_toArray, List.getElem_cons_succ, List.getElem_cons_zero, Act.put, List.setIfInBounds_toArray, List.set_cons_succ, List.set_cons_zero])
        (refine any_take 12 ?_ (by rfl) (by kernel_rfl) (fun _ _ _ _ _ hx => hx.elim) (.inl ⟨by rfl, ?_⟩) (by exact bel_of) ?_; rotate_left; (intro X hX; obtain ⟨r1, r2⟩ := Below.rules hX; clear hX; go_simp; rfl); simp only [List.getElem_toArray, List.getElem_cons_succ, List.getElem_cons_zero, Act.put, List.setIfInBounds_toArray, List.set_cons_succ, List.set_cons_zero])
        (refine any_take 13 ?_ (by rfl) (by kernel_rfl) (fun _ _ _ _ _ hx => hx.elim) (.inl ⟨by rfl, ?_⟩) (by exact bel_of) ?_; rotate_left; (intro X hX; obtain ⟨r1, r2⟩ := Below.rules hX; clear hX; go_simp; rfl); simp only [List.getElem_toArray, List.getElem_cons_succ, List.getElem_cons_zero, Act.put, List.setIfInBounds_toArray, List.set_cons_succ, List.set_cons_zero])
        (refine any_take 14 ?_ (by rfl) (by kernel_rfl) (fun _ _ _ _ _ hx => hx.elim) (.inl ⟨by rfl, ?_⟩) (by exact bel_of) ?_; rotate_left; (intro X hX; obtain ⟨r1, r2⟩ := Below.rules hX; clear hX; go_simp; rfl); simp only [List.getElem_toArray, List.getElem_cons_succ, List.getElem_cons_zero, Act.put, List.setIfInBounds_toArray, List.set_cons_succ, List.set_cons_zero])
        (refine any_take 15 ?_ (by rfl) (by kernel_rfl) (fun _ _ _ _ _ hx => hx.elim) (.inl ⟨by rfl, ?_⟩) (by exact bel_of) ?_; rotate_left; (intro X hX; obtain ⟨r1, r2⟩ := Below.rules hX; clear hX; go_simp; rfl); simp only [List.getElem_toArray, List.getElem_cons_succ, List.getElem_cons_zero, Act.put, List.setIfInBounds_toArray, List.set_cons_succ, List.set_cons_zero])
        have hd0p : Below Wbt.heap.size Wbt (Wbt.drewN (nq + 1)) := by exact bel_of
        refine any_run1 (i := 16) (by kernel_rfl) (by rfl) (by kernel_rfl) ?_
        intro K3 hK3
        go_wp2_with fail
        refine (test_any p q lo hi _).mono ?_
        rintro e Vp ⟨rfl, hb1⟩
        unfold tV
        have hb01 : Below Wbt.heap.size Wbt Vp := hd0p.trans (hb1.mono hd0p.size)
        refine hK3 _ _ (fun _ => hb01) ?_
        clear hK3 K3 hb1
        refine any_run1 (i := 17) (by kernel_rfl) (by rfl) (by kernel_rfl) ?_
        intro K3 hK3
        go_wp2_with fail
        obtain ⟨gv, hgv⟩ : ∃ n, Vp.heap.size = n := ⟨_, rfl⟩
        have bX : BK (Vp.alloc (.cells #[.int .i64 p, .int .i64 q, .int .i64 lo, .int .i64 hi] 56)) gv #[.int .i64 p, .int .i64 q, .int .i64 lo, .int .i64 hi] 56 := BK.new' _ _ _ gv hgv
        have hbX : Below Vp.heap.size Vp (Vp.alloc (.cells #[.int .i64 p, .int .i64 q, .int .i64 lo, .int .i64 hi] 56)) := Below.alloc (Below.refl _ _) (Nat.le_refl _) _
        have hb0X := hb01.trans (hbX.mono hb01.size)
        refine hK3 _ _ (fun _ => hb0X) ?_
        clear hK3 K3
        try rw [hgv]
        have hbase : WB.heap.size ≤ (Vp.alloc (.cells #[.int .i64 p, .int .i64 q, .int .i64 lo, .int .i64 hi] 56)).heap.size := by have := hD.size; have := hb0X.size; omega
        obtain ⟨vp, w9p, hrun, two9, hbel, hsz9, hkeep⟩ := two_grow (x := ⟨p, q, lo, hi⟩) (TwoT.below two hb0X) bX (by first | (simp [wideT]; done) | (simp [wideT]; omega)) hbase
        obtain ⟨Ap, np, cp, hvp⟩ : ∃ A n c, vp = Value.slice A n c := by
          obtain ⟨A, c, h⟩ := own_slice two9.1
          exact ⟨A, _, c, h⟩
        subst hvp
        have xx9 := hkeep _ _ _ (xx.below hb0X xx.lt) (TwoT.ne (TwoT.below two hb0X) (xx.below hb0X xx.lt))
        have bt9 := hkeep _ _ _ (bt.below hb0X bt.lt) nxx
        have hD9 : Below WB.heap.size WB w9p := hbel _ (hD.trans (hb0X.mono hD.size))
        have HRUN := Lib.hid hrun
        clear hgv hrun hbel hkeep bX hb0X hbX hb01 hd0p hsz9 hbase
        generalize Vp.alloc (.cells #[.int .i64 p, .int .i64 q, .int .i64 lo, .int .i64 hi] 56) = VXp at *
        refine any_run1 (i := 18) (by kernel_rfl) (by rfl) (by kernel_rfl) ?_
        intro K3 hK3
        refine wp_append_run (.tmp 62) (.tmp 78) 22 _ rfl HRUN.out ?_
        refine hK3 _ _ (fun hx => (Bool.false_ne_true (hx.symm.trans (by kernel_rfl))).elim) ?_
        clear hK3 K3 HRUN
        simp only [List.getElem_toArray, List.getElem_cons_succ, List.getElem_cons_zero, Act.put, List.setIfInBounds_toArray, List.set_cons_succ, List.set_cons_zero]
        clear lbt btc0 btc1 btc2 btc3
        clear lxx xxc0 xxc1
        have lb := xx9.lt
        have y0 := xx9.cell 0
        have y1 := xx9.cell 1
        have f1 := xx9.frozen 1
        simp at y0 y1
        refine any_run1 (i := 19) (by kernel_rfl) (by rfl) (by kernel_rfl) ?_
        intro K3 hK3
        go_wp2_with fail
        refine hK3 _ _ (fun hx => (Bool.false_ne_true (hx.symm.trans (by kernel_rfl))).elim) ?_
        clear hK3 K3
        refine any_run1 (i := 20) (by kernel_rfl) (by rfl) (by kernel_rfl) ?_
        intro K3 hK3
        go_wp2_with fail
        refine hK3 _ _ (fun hx => (Bool.false_ne_true (hx.symm.trans (by kernel_rfl))).elim) ?_
        clear hK3 K3
        refine any_done (by kernel_rfl) (NoPanic.normal ?_)
        clear y0 y1 f1 lb
        have xxA : BK (w9p.setCell ⟨gxx, 1, none⟩ (.slice Ap np cp)) gxx #[.int .i64 N, .slice Ap np cp] 24 := by simpa using xx9.set 1 (.slice Ap np cp)
        have btA := bt9.far (p := ⟨gxx, 1, none⟩) (by show m3 ≠ gxx; omega) (.slice Ap np cp)
        have twoA := TwoT.far two9 (p := ⟨gxx, 1, none⟩) xx9 (.slice Ap np cp)
        have hDA : Below WB.heap.size WB (w9p.setCell ⟨gxx, 1, none⟩ (.slice Ap np cp)) := Below.setCell hD9 (by show WB.heap.size ≤ gxx; omega) _
        clear xx9 bt9 two9 hD9 xx bt two hD
        generalize w9p.setCell ⟨gxx, 1, none⟩ (.slice Ap np cp) = WAp at *
        have xx := xxA
        have bt := btA
        have two2 := twoA
        have hD := hDA
        clear xxA btA twoA hDA
        go_wp2_with fail
        go_roundw
        case rel => exact ⟨k + 1, by omega, by go_num, _, xx, by rw [HTX.out]; exact two2, hD⟩
        case measure => simp [intOf]; omega
      have hlt' : ¬ (k : Int) < (ts.length : Int) := by omega
      rw [List.take_of_length_le (show ts.length ≤ k by omega)] at two
      obtain ⟨Ax, cx, rfl⟩ := own_slice two.1
      have oX := two.1
      clear hD two
      have lbx := bx.lt
      have bxc0 := bx.cell 0
      have bxc1 := bx.cell 1
      simp at bxc0 bxc1
      have lxx := xx.lt
      have xxc0 := xx.cell 0
      have xxc1 := xx.cell 1
      simp at xxc0 xxc1
      have lrs := rs.lt
      have rsc0 := rs.cell 0
      have rsc1 := rs.cell 1
      simp at rsc0 rsc1
      have rsf0 := rs.frozen 0
      have rsf1 := rs.frozen 1
      go_wp2_with fail
      clear rsf0 rsf1 rsc0 rsc1
      have ne1 : ∀ {e sz n : Nat} {v : Value} {xs : List Value} {base : Nat}, wr.ownsRow base e sz v n xs → e ≠ 24 → v.ownBlock ≠ some (n0 + 1) := fun {e sz n v xs base} hz he hq => by
        obtain ⟨c, hc⟩ := own_block hz hq
        have hp := rs
        unfold BK at hp
        rw [hp] at hc
        injection hc with hc
        injection hc with _ hc
        exact he hc.symm
      have rs2 := (rs.set 0 (.int .i64 N)).set 1 (.slice Ax (wideT N y ts).length cx)
      simp at rs2
      have z0 := rs2.cell 0
      have z1 := rs2.cell 1
      simp at z0 z1
      have o1 : OwnT ((wr.setCell ⟨n0 + 1, 0, none⟩ (.int .i64 N)).setCell ⟨n0 + 1, 1, none⟩ (.slice Ax (wideT N y ts).length cx)) _ _ _ := own_far (own_far oX (p := ⟨n0 + 1, 0, none⟩) (ne1 oX (by decide)) (.int .i64 N)) (p := ⟨n0 + 1, 1, none⟩) (ne1 oX (by decide)) (.slice Ax (wideT N y ts).length cx)
      have o2 : OwnI 2 ((wr.setCell ⟨n0 + 1, 0, none⟩ (.int .i64 N)).setCell ⟨n0 + 1, 1, none⟩ (.slice Ax (wideT N y ts).length cx)) _ _ _ := own_far (own_far hown (p := ⟨n0 + 1, 0, none⟩) (ne1 hown (by decide)) (.int .i64 N)) (p := ⟨n0 + 1, 1, none⟩) (ne1 hown (by decide)) (.slice Ax (wideT N y ts).length cx)
      have hC8 : Below n0 w ((wr.setCell ⟨n0 + 1, 0, none⟩ (.int .i64 N)).setCell ⟨n0 + 1, 1, none⟩ (.slice Ax (wideT N y ts).length cx)) := Below.setCell (Below.setCell hC (by show n0 ≤ n0 + 1; omega) _) (by show n0 ≤ n0 + 1; omega) _
      exact bodyPost_ret (v := .tuple #[.agg #[.int .i64 N, .slice Ax (wideT N y ts).length cx], .slice At L.length ct]) (by simp [results, Try.results46, go_sem, z0, z1]) rfl ⟨_, _, rfl, OwnT.ri o1, by rw [HLE.out]; exact OwnI.ri o2, by first | exact hC8 | (rw [hn0]; exact hC8)⟩
end Go.Proofs.Ytkljdbgkhghiaaa

set_option linter.all false
namespace Go.Proofs.Ytkljdbgkhghiaaa
open Go.RowKit Kp
theorem ev_at {p : Nat → Bool} {i k : Nat} (h : k < (ev p i).length) : ∃ n : Nat, n < i ∧ p n = true ∧ nthI (ev p i) k = n := by
  have hk : nthI (ev p i) k ∈ ev p i := by
    have : nthI (ev p i) k = (ev p i)[k] := by simp [nthI, h]
    rw [this]; exact List.getElem_mem h
  obtain ⟨n, h1, h2, h3⟩ := ev_mem.1 hk
  exact ⟨n, h1, h2, h3⟩
theorem ev_inj {p : Nat → Bool} {i k j : Nat} (hkj : k < j) (h : j < (ev p i).length) : nthI (ev p i) k ≠ nthI (ev p i) j := by
  have hn : (ev p i).Pairwise (· ≠ ·) := List.pairwise_map.2 ((List.nodup_range.filter p).imp fun h hq => h (Int.ofNat.inj hq))
  have := List.pairwise_iff_getElem.1 hn k j (by omega) h hkj
  simpa [nthI, h, show k < (ev p i).length by omega] using this
def topB (L : List Int) (k j : Nat) : Bool := decide (∀ u, u < j → nthI L u ≤ nthI L k)
theorem topB_zero {L : List Int} {k : Nat} : topB L k 0 = true := decide_eq_true fun u hu => absurd hu (by omega)
theorem topB_no {L : List Int} {k j : Nat} (h : topB L k j = false) : topB L k (j + 1) = false := decide_eq_false fun hq => of_decide_eq_false h fun u hu => hq u (by omega)
theorem topB_yes {L : List Int} {k j : Nat} (h : topB L k j = true) : topB L k (j + 1) = decide (nthI L j ≤ nthI L k) := by
  unfold topB at *
  rw [Bool.eq_iff_iff, decide_eq_true_iff, decide_eq_true_iff]
  refine ⟨fun hq => hq j (by omega), fun hq u hu => ?_⟩
  rcases Nat.lt_succ_iff_lt_or_eq.1 hu with h1 | rfl
  · exact of_decide_eq_true h u h1
  · exact hq
section
variable {N : Nat} {X : List Kt} {L : List Int} {v a z : Nat}
theorem top_may (ho : Okb N X) (ht : Tru N X L) (hv : v < N) (hs : topB L v N = true) : ((v : Nat) : Int) ∈ mayP N X := by
  have hs := of_decide_eq_true hs
  refine ev_mem.2 ⟨v, hv, (mayB_iff ho hv).2 ⟨ofT N L, ht.pot ho, fun u hu => ?_⟩, rfl⟩
  have := hs u hu
  unfold ofT
  simpa [hu, hv] using this
theorem not_top (ho : Okb N X) (ha : Agr N X) (ht : Tru N X L) (hv : v < N) (hs : topB L v N = false) : ¬ ((v : Nat) : Int) ∈ sureP N X := by
  have hs := of_decide_eq_false hs
  intro hm
  obtain ⟨n, h1, h2, h3⟩ := ev_mem.1 hm
  obtain rfl : v = n := by omega
  apply hs
  intro u hu
  rcases sureB_iff.1 h2 u hu with rfl | h4
  · exact Int.le_refl _
  · have := D_ge ho (ht.pot ho) (show v ≤ N by omega) (show u ≤ N by omega)
    unfold ofT at this
    simp [hu, hv] at this
    omega
theorem sure_sure (ho : Okb N X) (ha : Agr N X) (h1 : a < N) (h2 : z < N) (hne : a ≠ z) (s1 : sureB N X a = true) (s2 : sureB N X z = true) : -D N X a z = 0 ∧ D N X z a = 0 := by
  have q1 := D_tri ho ha (show a ≤ N by omega) (show z ≤ N by omega) (show a ≤ N by omega)
  rw [D_self ho ha (by omega)] at q1
  rcases sureB_iff.1 s1 z h2 with h | h
  · omega
  · rcases sureB_iff.1 s2 a h1 with h' | h'
    · omega
    · omega
end
end Go.Proofs.Ytkljdbgkhghiaaa

set_option linter.all false
namespace Go.Proofs.Ytkljdbgkhghiaaa
open Go.RowKit Kp

set_option maxHeartbeats 8000000 in
set_option maxRecDepth 100000 in
theorem keenSharpest_any (E : Int) (ts : List Kt) (v : Value) (y : List Int) (uy : Value) (w : World) (h : RT w w.heap.size v ts) (hE : okI E) (hts : ∀ t ∈ ts, okT t) (hl : ts.length ≤ maxLen) (huy : RU w w.heap.size uy y) (hyl : ∀ x ∈ y, okU x) (hly : y.length ≤ maxLen) :
    Calls Try.prog 10 #[.agg #[.int .i64 E, v], uy] w fun x w' => x = .returned (.bool true) ∧ Below w.heap.size w w' := by
  obtain ⟨b, off, cap, A, rfl, hAx⟩ := h.slice
  clear hAx
  have hR := h
  clear h
  obtain ⟨n0, hn0⟩ : ∃ n, w.heap.size = n := ⟨_, rfl⟩
  have hC : Below n0 w w := Below.refl _ _
  obtain ⟨A_uy, c_uy, rfl⟩ : ∃ A q, uy = .slice A y.length q := by
    obtain ⟨A, cp, b, off, hv, hl, hA, _⟩ := huy
    exact ⟨A, cp, hv⟩
  have HYL := Lib.hid hyl
  clear hyl
  clear hE hts
  go_enter Try.func10, Try.ntmps10
  go_wp2_with fail
  have hqbx : n0 ≤ n0 := by have := hC.size; omega
  have bx : BK (w.alloc (.cells #[.int .i64 E, .slice A ts.length cap] 24)) (n0) #[.int .i64 E, .slice A ts.length cap] 24 := BK.new' _ _ _ (n0) hn0
  have hsbx : (w.alloc (.cells #[.int .i64 E, .slice A ts.length cap] 24)).heap.size = n0 + 1 := by simp [hn0]
  replace hC : Below n0 w (w.alloc (.cells #[.int .i64 E, .slice A ts.length cap] 24)) := Below.alloc hC (by have := hC.size; omega) _
  replace hR := (RS.below hR (w' := (w.alloc (.cells #[.int .i64 E, .slice A ts.length cap] 24))) (Below.alloc (Below.refl _ _) (Nat.le_refl _) _)).more (B' := (w.alloc (.cells #[.int .i64 E, .slice A ts.length cap] 24)).heap.size) (by simp)
  replace huy := (RS.below huy (w' := (w.alloc (.cells #[.int .i64 E, .slice A ts.length cap] 24))) (Below.alloc (Below.refl _ _) (Nat.le_refl _) _)).more (B' := (w.alloc (.cells #[.int .i64 E, .slice A ts.length cap] 24)).heap.size) (by simp)
  generalize (w.alloc (.cells #[.int .i64 E, .slice A ts.length cap] 24)) = Wbx at *
  clear hsbx
  refine (great_any E ts _ _ hl hR).mono ?_
  rintro e w1 ⟨rfl, hb⟩
  replace hC : Below n0 w w1 := hC.trans (hb.mono (by have := hC.size; omega))
  replace hR := (RS.below hR hb).more hb.size
  replace huy := (RS.below huy hb).more hb.size
  replace bx := bx.below hb bx.lt
  clear hb
  by_cases h5 : 50 < ts.length
  case pos =>
    rw [decide_eq_true h5]
    clear h5
    go_wp2_with fail
    refine (works_any _).mono ?_
    rintro e w2 ⟨rfl, hb⟩
    replace hC : Below n0 w w2 := hC.trans (hb.mono (by have := hC.size; omega))
    replace hR := (RS.below hR hb).more hb.size
    replace huy := (RS.below huy hb).more hb.size
    replace bx := bx.below hb bx.lt
    clear hb
    go_wp2_with fail
    exact bodyPost_ret (v := .bool true) (by simp [results, Try.results10, go_sem]) rfl ⟨rfl, by first | exact hC | (rw [hn0]; exact hC) | (with_reducible rw [hn0]; exact bel_of) | exact bel_of⟩
  rw [decide_eq_false h5]
  have hl50 : ts.length ≤ 50 := by omega
  clear h5
  have lbx := bx.lt
  have bxc0 := bx.cell 0
  have bxc1 := bx.cell 1
  simp at bxc0 bxc1
  go_wp2_with fail
  clear lbx bxc0 bxc1
  refine (refBook_any E ts _ _ (by omega) hR).mono ?_
  rintro e w2 ⟨rfl, hb⟩
  replace hC : Below n0 w w2 := hC.trans (hb.mono (by have := hC.size; omega))
  replace hR := (RS.below hR hb).more hb.size
  replace huy := (RS.below huy hb).more hb.size
  replace bx := bx.below hb bx.lt
  clear hb
  obtain ⟨e, he⟩ : ∃ e, bookE E ts = e := ⟨_, rfl⟩
  rw [he]
  by_cases h0 : e = 0
  case neg =>
    have b1 : (e == 0) = false := by simp [h0]
    clear he
    go_wp2_with fail
    refine (works_any _).mono ?_
    rintro e w3 ⟨rfl, hb⟩
    replace hC : Below n0 w w3 := hC.trans (hb.mono (by have := hC.size; omega))
    replace hR := (RS.below hR hb).more hb.size
    replace huy := (RS.below huy hb).more hb.size
    replace bx := bx.below hb bx.lt
    clear hb
    go_wp2_with fail
    exact bodyPost_ret (v := .bool true) (by simp [results, Try.results10, go_sem]) rfl ⟨rfl, by first | exact hC | (rw [hn0]; exact hC) | (with_reducible rw [hn0]; exact bel_of) | exact bel_of⟩
  subst h0
  obtain ⟨N, rfl, ho, hl40⟩ := bookE_ok he
  have hN1 := ho.pos
  have hN16 := ho.few
  have HO := Lib.hid ho
  have HBK := Lib.hid he
  clear ho he
  by_cases h6 : y.length > 30
  case pos =>
    have h7 : (y.length : Int) > 30 := by omega
    clear h6
    go_wp2_with fail
    refine (works_any _).mono ?_
    rintro e w3 ⟨rfl, hb⟩
    replace hC : Below n0 w w3 := hC.trans (hb.mono (by have := hC.size; omega))
    replace hR := (RS.below hR hb).more hb.size
    replace huy := (RS.below huy hb).more hb.size
    replace bx := bx.below hb bx.lt
    clear hb
    go_wp2_with fail
    exact bodyPost_ret (v := .bool true) (by simp [results, Try.results10, go_sem]) rfl ⟨rfl, by first | exact hC | (rw [hn0]; exact hC) | (with_reducible rw [hn0]; exact bel_of) | exact bel_of⟩
  have hm_y : y.length ≤ 30 := by omega
  have h7_y : ¬ (y.length : Int) > 30 := by omega
  clear h6
  have lbx := bx.lt
  have bxc0 := bx.cell 0
  have bxc1 := bx.cell 1
  simp at bxc0 bxc1
  go_wp2_with fail
  clear lbx bxc0 bxc1
  clear h7_y
  refine (wide_any N ts y _ _ _ HO.out hl40 HYL.out hm_y hR huy).mono ?_
  rintro e w3 ⟨vx, vt, rfl, hX, hv, hb⟩
  replace hC : Below n0 w w3 := hC.trans (hb.mono (by have := hC.size; omega))
  replace hR := (RS.below hR hb).more hb.size
  replace huy := (RS.below huy hb).more hb.size
  replace bx := bx.below hb bx.lt
  clear hb
  have HOX := Lib.hid (okb_wide HYL.out HO.out)
  have HAX := Lib.hid (agr_wide HYL.out HO.out)
  have HTX := Lib.hid (tru_wide HYL.out HO.out)
  have hxl : (wideT N y ts).length ≤ 40 := by rw [wideT_len]; omega
  have HBX := Lib.hid (of_bookE HOX.out hxl)
  have hll : (wideL N y).length = N := wideL_len N y
  have HLR := Lib.hid (fun (v : Nat) (h : v < N) => wideL_rng (N := N) HYL.out h)
  obtain ⟨X, hX0⟩ : ∃ X, wideT N y ts = X := ⟨_, rfl⟩
  obtain ⟨L, hL0⟩ : ∃ L, wideL N y = L := ⟨_, rfl⟩
  rw [hX0] at HOX HAX HTX HBX hX hxl
  rw [hL0] at HTX hv hll HLR
  clear hX0 hL0
  obtain ⟨Al, cl, rfl⟩ := ri_slice hv
  rw [hll] at hv
  have HLL := Lib.hid hll
  obtain ⟨bX, oX, cX, AX, rfl, hAX⟩ := hX.slice
  clear hAX
  rw [hll]
  clear hll
  go_wp2_with fail
  obtain ⟨m1, hm1⟩ : ∃ n, w3.heap.size = n := ⟨_, rfl⟩
  try rw [hm1]
  have hqxx : n0 ≤ m1 := by have := hC.size; omega
  have xx : BK (w3.alloc (.cells #[.int .i64 N, .slice AX X.length cX] 24)) (m1) #[.int .i64 N, .slice AX X.length cX] 24 := BK.new' _ _ _ (m1) hm1
  have hsxx : (w3.alloc (.cells #[.int .i64 N, .slice AX X.length cX] 24)).heap.size = m1 + 1 := by simp [hm1]
  replace hC : Below n0 w (w3.alloc (.cells #[.int .i64 N, .slice AX X.length cX] 24)) := Below.alloc hC (by have := hC.size; omega) _
  replace hR := (RS.below hR (w' := (w3.alloc (.cells #[.int .i64 N, .slice AX X.length cX] 24))) (Below.alloc (Below.refl _ _) (Nat.le_refl _) _)).more (B' := (w3.alloc (.cells #[.int .i64 N, .slice AX X.length cX] 24)).heap.size) (by simp)
  replace huy := (RS.below huy (w' := (w3.alloc (.cells #[.int .i64 N, .slice AX X.length cX] 24))) (Below.alloc (Below.refl _ _) (Nat.le_refl _) _)).more (B' := (w3.alloc (.cells #[.int .i64 N, .slice AX X.length cX] 24)).heap.size) (by simp)
  replace bx := bx.alloc (.cells #[.int .i64 N, .slice AX X.length cX] 24)
  replace hX := (RS.below hX (w' := (w3.alloc (.cells #[.int .i64 N, .slice AX X.length cX] 24))) (Below.alloc (Below.refl _ _) (Nat.le_refl _) _)).more (B' := (w3.alloc (.cells #[.int .i64 N, .slice AX X.length cX] 24)).heap.size) (by simp)
  replace hv := (RS.below hv (w' := (w3.alloc (.cells #[.int .i64 N, .slice AX X.length cX] 24))) (Below.alloc (Below.refl _ _) (Nat.le_refl _) _)).more (B' := (w3.alloc (.cells #[.int .i64 N, .slice AX X.length cX] 24)).heap.size) (by simp)
  generalize (w3.alloc (.cells #[.int .i64 N, .slice AX X.length cX] 24)) = Wxx at *
  clear hm1
  have lbx := bx.lt
  have bxc0 := bx.cell 0
  have bxc1 := bx.cell 1
  simp at bxc0 bxc1
  have lxx := xx.lt
  have xxc0 := xx.cell 0
  have xxc1 := xx.cell 1
  simp at xxc0 xxc1
  go_wp2_with fail
  clear lbx bxc0 bxc1
  clear lxx xxc0 xxc1
  clear hsxx
  refine (((mayP_any N X _ _ (by omega) hX).mono fun _ _ h => listN HBX.out HAX.out h)).mono ?_
  rintro e w4 ⟨v1, rfl, hv1, hb⟩
  replace hC : Below n0 w w4 := hC.trans (hb.mono (by have := hC.size; omega))
  replace hR := (RS.below hR hb).more hb.size
  replace huy := (RS.below huy hb).more hb.size
  replace bx := bx.below hb bx.lt
  replace hX := (RS.below hX hb).more hb.size
  replace hv := (RS.below hv hb).more hb.size
  replace xx := xx.below hb xx.lt
  clear hb
  obtain ⟨sm, hsm⟩ : ∃ l, mayP N X = l := ⟨_, rfl⟩
  rw [hsm] at hv1
  obtain ⟨A_1, c_1, rfl⟩ := ri_slice hv1
  have Hsm := Lib.hid hsm
  clear hsm
  have lbx := bx.lt
  have bxc0 := bx.cell 0
  have bxc1 := bx.cell 1
  simp at bxc0 bxc1
  have lxx := xx.lt
  have xxc0 := xx.cell 0
  have xxc1 := xx.cell 1
  simp at xxc0 xxc1
  go_wp2_with fail
  clear lbx bxc0 bxc1
  clear lxx xxc0 xxc1
  refine (((sureP_any N X _ _ (by omega) hX).mono fun _ _ h => listN HBX.out HAX.out h)).mono ?_
  rintro e w5 ⟨v2, rfl, hv2, hb⟩
  replace hC : Below n0 w w5 := hC.trans (hb.mono (by have := hC.size; omega))
  replace hR := (RS.below hR hb).more hb.size
  replace huy := (RS.below huy hb).more hb.size
  replace bx := bx.below hb bx.lt
  replace hX := (RS.below hX hb).more hb.size
  replace hv := (RS.below hv hb).more hb.size
  replace xx := xx.below hb xx.lt
  replace hv1 := (RS.below hv1 hb).more hb.size
  clear hb
  obtain ⟨ss, hss⟩ : ∃ l, sureP N X = l := ⟨_, rfl⟩
  rw [hss] at hv2
  obtain ⟨A_2, c_2, rfl⟩ := ri_slice hv2
  have Hss := Lib.hid hss
  clear hss
  have k1 : sm.length ≤ 1000 := by rw [← Hsm.out]; have := mayP_len N X; omega
  have k2 : ss.length ≤ 1000 := by rw [← Hss.out]; have := sureP_len N X; omega
  have n3' : ¬ (sm.length : Int) < 1 := by
    have : 0 < sm.length := by rw [← Hsm.out]; exact mayP_pos HOX.out HAX.out
    omega
  have lbx := bx.lt
  have bxc0 := bx.cell 0
  have bxc1 := bx.cell 1
  simp at bxc0 bxc1
  have lxx := xx.lt
  have xxc0 := xx.cell 0
  have xxc1 := xx.cell 1
  simp at xxc0 xxc1
  go_wp2_with fail
  clear lbx bxc0 bxc1
  clear lxx xxc0 xxc1
  clear n3'
  go_loopw [11] (fun i wr => ∃ k : Nat, k ≤ N ∧ i = .int .i64 k ∧ Below w5.heap.size w5 wr) (fun i _ => N - (intOf i).toNat)
  case atStart => exact ⟨0, Nat.zero_le _, rfl, by first | exact Below.refl _ _ | exact bel_of⟩
  case round =>
    obtain ⟨k, hk, rfl, hb⟩ := hrel
    have hbo := Lib.hid hb
    replace hC : Below n0 w wr := hC.trans (hb.mono (by have := hC.size; omega))
    replace hR := (RS.below hR hb).more hb.size
    replace huy := (RS.below huy hb).more hb.size
    replace bx := bx.below hb bx.lt
    replace hX := (RS.below hX hb).more hb.size
    replace hv := (RS.below hv hb).more hb.size
    replace xx := xx.below hb xx.lt
    replace hv1 := (RS.below hv1 hb).more hb.size
    replace hv2 := (RS.below hv2 hb).more hb.size
    clear hb
    obtain ⟨wo, rfl⟩ : ∃ wo : World, wo = wr := ⟨_, rfl⟩
    by_cases hlt : k < N
    case pos =>
      have hlt' : (k : Int) < (N : Int) := by omega
      have lbx := bx.lt
      have bxc0 := bx.cell 0
      have bxc1 := bx.cell 1
      simp at bxc0 bxc1
      go_wp2_with fail
      clear lbx bxc0 bxc1
      go_loopw [13, 12] (fun i s wr => ∃ j : Nat, j ≤ N ∧ i = .int .i64 j ∧ s = .bool (topB L k j) ∧ Below wo.heap.size wo wr) (fun i _ _ => N - (intOf i).toNat)
      case atStart => exact ⟨0, Nat.zero_le _, rfl, by rw [topB_zero], by first | exact Below.refl _ _ | exact bel_of⟩
      case round =>
        obtain ⟨j, hj, rfl, rfl, hb⟩ := hrel
        have hbr := Lib.hid hb
        replace hC : Below n0 w wr := hC.trans (hb.mono (by have := hC.size; omega))
        replace hR := (RS.below hR hb).more hb.size
        replace huy := (RS.below huy hb).more hb.size
        replace bx := bx.below hb bx.lt
        replace hX := (RS.below hX hb).more hb.size
        replace hv := (RS.below hv hb).more hb.size
        replace xx := xx.below hb xx.lt
        replace hv1 := (RS.below hv1 hb).more hb.size
        replace hv2 := (RS.below hv2 hb).more hb.size
        clear hb
        by_cases hjt : j < N
        case pos =>
          have hjt' : (j : Int) < (N : Int) := by omega
          obtain ⟨q, hq⟩ : ∃ q, topB L k j = q := ⟨_, rfl⟩
          rw [hq]
          cases q
          case false =>
            have lbx := bx.lt
            have bxc0 := bx.cell 0
            have bxc1 := bx.cell 1
            simp at bxc0 bxc1
            have HT := Lib.hid (topB_no hq)
            clear hq
            go_upto_region 15 with fail
            go_quiet (fail)
            go_wp2_with fail
            go_roundw
            case rel => exact ⟨j + 1, by omega, by go_num, by rw [HT.out], by first | exact hbr.out | (have := hbr.out; exact bel_of)⟩
            case measure => simp [intOf]; omega
          have HT := Lib.hid (topB_yes hq)
          clear hq
          obtain ⟨Al', cl', bb, off, hve, hAx, hcx⟩ := RI.cells hv
          obtain ⟨rfl, hbb⟩ := hAx (by have := HLL.out; omega)
          injection hve with q1 q2 q3
          subst q1 q3
          have c0 := hcx j (by have := HLL.out; omega)
          have c1 := hcx k (by have := HLL.out; omega)
          obtain ⟨x, hx⟩ : ∃ x, nthI L j = x := ⟨_, rfl⟩
          obtain ⟨z, hz⟩ : ∃ x, nthI L k = x := ⟨_, rfl⟩
          rw [hx] at c0
          rw [hz] at c1
          rw [hx, hz] at HT
          clear hAx hcx q2 hx hz
          have hd : ∃ q, decide (x ≤ z) = q := ⟨_, rfl⟩
          obtain ⟨q, hd⟩ := hd
          rw [hd] at HT
          have lbx := bx.lt
          have bxc0 := bx.cell 0
          have bxc1 := bx.cell 1
          simp at bxc0 bxc1
          cases q
          all_goals
            go_upto_region 15 with fail
            go_quiet (fail)
            go_wp2_with fail
            go_roundw
            case rel => exact ⟨j + 1, by omega, by go_num, by rw [HT.out], by first | exact hbr.out | (have := hbr.out; exact bel_of)⟩
            case measure => simp [intOf]; omega
        have hjt' : ¬ (j : Int) < (N : Int) := by omega
        have hjN : j = N := by omega
        have HR2 := Lib.hid (hbo.out.trans (hbr.out.mono hbo.out.size))
        clear hbr hjt
        obtain ⟨q, hq⟩ : ∃ q, topB L k N = q := ⟨_, rfl⟩
        rw [hjN, hq]
        rw [hjN] at hjt'
        clear hj hjN
        cases q
        case false =>
          have hmem := not_top HOX.out HAX.out HTX.out hlt hq
          rw [Hss.out] at hmem
          have HM := Lib.hid hmem
          clear hmem hq
          have lbx := bx.lt
          have bxc0 := bx.cell 0
          have bxc1 := bx.cell 1
          simp at bxc0 bxc1
          go_wp2_with fail
          clear lbx bxc0 bxc1
          refine (in_any _ _ _ _ (by omega) hv2).mono ?_
          rintro e w6 ⟨rfl, hb⟩
          replace hC : Below n0 w w6 := hC.trans (hb.mono (by have := hC.size; omega))
          replace hR := (RS.below hR hb).more hb.size
          replace huy := (RS.below huy hb).more hb.size
          replace bx := bx.below hb bx.lt
          replace hX := (RS.below hX hb).more hb.size
          replace hv := (RS.below hv hb).more hb.size
          replace xx := xx.below hb xx.lt
          replace hv1 := (RS.below hv1 hb).more hb.size
          replace hv2 := (RS.below hv2 hb).more hb.size
          have hbr2 := Lib.hid (HR2.out.trans (hb.mono HR2.out.size))
          clear hb
          rw [decide_eq_false HM.out]
          go_wp2_with fail
          go_roundw
          case rel => exact ⟨k + 1, by omega, by go_num, hbr2.out⟩
          case measure => simp [intOf]; omega
        have hmem := top_may HOX.out HTX.out hlt hq
        rw [Hsm.out] at hmem
        have HM := Lib.hid hmem
        clear hmem hq
        have lbx := bx.lt
        have bxc0 := bx.cell 0
        have bxc1 := bx.cell 1
        simp at bxc0 bxc1
        go_wp2_with fail
        clear lbx bxc0 bxc1
        refine (in_any _ _ _ _ (by omega) hv1).mono ?_
        rintro e w6 ⟨rfl, hb⟩
        replace hC : Below n0 w w6 := hC.trans (hb.mono (by have := hC.size; omega))
        replace hR := (RS.below hR hb).more hb.size
        replace huy := (RS.below huy hb).more hb.size
        replace bx := bx.below hb bx.lt
        replace hX := (RS.below hX hb).more hb.size
        replace hv := (RS.below hv hb).more hb.size
        replace xx := xx.below hb xx.lt
        replace hv1 := (RS.below hv1 hb).more hb.size
        replace hv2 := (RS.below hv2 hb).more hb.size
        have hbr2 := Lib.hid (HR2.out.trans (hb.mono HR2.out.size))
        clear hb
        rw [decide_eq_true HM.out]
        go_wp2_with fail
        go_roundw
        case rel => exact ⟨k + 1, by omega, by go_num, hbr2.out⟩
        case measure => simp [intOf]; omega
    have hlt' : ¬ (k : Int) < (N : Int) := by omega
    clear hbo hlt hk
    have lbx := bx.lt
    have bxc0 := bx.cell 0
    have bxc1 := bx.cell 1
    simp at bxc0 bxc1
    go_wp2_with fail
    clear lbx bxc0 bxc1
    clear hlt'
    obtain ⟨wp, rfl⟩ : ∃ wp : World, wp = wo := ⟨_, rfl⟩
    go_loopw [14] (fun i wr => ∃ k : Nat, k ≤ ss.length ∧ i = .int .i64 k ∧ Below wp.heap.size wp wr) (fun i _ => ss.length - (intOf i).toNat)
    case atStart => exact ⟨0, Nat.zero_le _, rfl, by first | exact Below.refl _ _ | exact bel_of⟩
    case round =>
      skip
      obtain ⟨i, hi, rfl, hb⟩ := hrel
      have hbo := Lib.hid hb
      replace hC : Below n0 w wr := hC.trans (hb.mono (by have := hC.size; omega))
      replace hR := (RS.below hR hb).more hb.size
      replace huy := (RS.below huy hb).more hb.size
      replace bx := bx.below hb bx.lt
      replace hX := (RS.below hX hb).more hb.size
      replace hv := (RS.below hv hb).more hb.size
      replace xx := xx.below hb xx.lt
      replace hv1 := (RS.below hv1 hb).more hb.size
      replace hv2 := (RS.below hv2 hb).more hb.size
      clear hb
      obtain ⟨wo, rfl⟩ : ∃ wo : World, wo = wr := ⟨_, rfl⟩
      by_cases hit : i < ss.length
      case pos =>
        have hit' : (i : Int) < (ss.length : Int) := by omega
        obtain ⟨s, hs, sb, hse⟩ : ∃ n : Nat, n < N ∧ sureB N X n = true ∧ nthI ss i = n := by
          have h2 : i < (ev (sureB N X) N).length := by
            have e : sureP N X = ev (sureB N X) N := rfl
            rw [← e, Hss.out]; exact hit
          obtain ⟨n, h3, h4, h5⟩ := ev_at h2
          refine ⟨n, h3, h4, ?_⟩
          rw [← Hss.out]; exact h5
        have HSB := Lib.hid sb
        have HSE := Lib.hid hse
        have hmem : ((s : Nat) : Int) ∈ sm := by
          rw [← Hsm.out]
          exact ev_mem.2 ⟨s, hs, sure_may HOX.out HAX.out hs sb, rfl⟩
        have HM := Lib.hid hmem
        clear hmem sb
        obtain ⟨A2', c2', bb, off, hve, hAx, hcx⟩ := RI.cells hv2
        obtain ⟨rfl, hbb⟩ := hAx (by omega)
        injection hve with q1 q2 q3
        subst q1 q3
        have c0 := hcx i hit
        rw [hse] at c0
        clear hAx hcx q2 hse
        go_wp2_with fail
        refine (in_any _ _ _ _ (by omega) hv1).mono ?_
        rintro e w6 ⟨rfl, hb⟩
        replace hC : Below n0 w w6 := hC.trans (hb.mono (by have := hC.size; omega))
        replace hR := (RS.below hR hb).more hb.size
        replace huy := (RS.below huy hb).more hb.size
        replace bx := bx.below hb bx.lt
        replace hX := (RS.below hX hb).more hb.size
        replace hv := (RS.below hv hb).more hb.size
        replace xx := xx.below hb xx.lt
        replace hv1 := (RS.below hv1 hb).more hb.size
        replace hv2 := (RS.below hv2 hb).more hb.size
        have HR2 := Lib.hid (hbo.out.trans (hb.mono hbo.out.size))
        clear hb
        rw [decide_eq_true HM.out]
        clear c0 HM
        go_wp2_with fail
        generalize w6 = wq at *
        go_loopw [15] (fun j wr => ∃ k : Nat, k ≤ i ∧ j = .int .i64 k ∧ Below wq.heap.size wq wr) (fun j _ => i - (intOf j).toNat)
        case atStart => exact ⟨0, Nat.zero_le _, rfl, by first | exact Below.refl _ _ | exact bel_of⟩
        case round =>
          obtain ⟨j, hj, rfl, hb⟩ := hrel
          have hbr := Lib.hid hb
          replace hC : Below n0 w wr := hC.trans (hb.mono (by have := hC.size; omega))
          replace hR := (RS.below hR hb).more hb.size
          replace huy := (RS.below huy hb).more hb.size
          replace bx := bx.below hb bx.lt
          replace hX := (RS.below hX hb).more hb.size
          replace hv := (RS.below hv hb).more hb.size
          replace xx := xx.below hb xx.lt
          replace hv1 := (RS.below hv1 hb).more hb.size
          replace hv2 := (RS.below hv2 hb).more hb.size
          clear hb
          obtain ⟨wi, rfl⟩ : ∃ wi : World, wi = wr := ⟨_, rfl⟩
          by_cases hjt : j < i
          case pos =>
            have hjt' : (j : Int) < (i : Int) := by omega
            have hjs : (j : Int) < (ss.length : Int) := by omega
            have hjn : j < ss.length := by omega
            obtain ⟨t, ht, tb, hte⟩ : ∃ n : Nat, n < N ∧ sureB N X n = true ∧ nthI ss j = n := by
              have h2 : j < (ev (sureB N X) N).length := by
                have e : sureP N X = ev (sureB N X) N := rfl
                rw [← e, Hss.out]; exact hjn
              obtain ⟨n, h3, h4, h5⟩ := ev_at h2
              refine ⟨n, h3, h4, ?_⟩
              rw [← Hss.out]; exact h5
            have hst : s ≠ t := by
              rintro rfl
              have h2 : i < (ev (sureB N X) N).length := by
                have e : sureP N X = ev (sureB N X) N := rfl
                rw [← e, Hss.out]; exact hit
              apply ev_inj hjt h2
              have e : ev (sureB N X) N = ss := Hss.out
              rw [e, hte, HSE.out]
            have HSS := Lib.hid (sure_sure HOX.out HAX.out hs ht hst HSB.out tb)
            obtain ⟨A2', c2', bb, off, hve, hAx, hcx⟩ := RI.cells hv2
            obtain ⟨rfl, hbb⟩ := hAx (by omega)
            injection hve with q1 q2 q3
            injection q1 with q1
            injection q1 with q4 q5
            subst q4 q5
            have c0 := hcx i hit
            rw [HSE.out] at c0
            have c1 := hcx j hjn
            rw [hte] at c1
            clear hAx hcx q2 q3 hte tb
            have lbx := bx.lt
            have bxc0 := bx.cell 0
            have bxc1 := bx.cell 1
            simp at bxc0 bxc1
            have lxx := xx.lt
            have xxc0 := xx.cell 0
            have xxc1 := xx.cell 1
            simp at xxc0 xxc1
            go_upto_region 26 with fail
            have hXr := hX
            have d0y : Below wi.heap.size wi wi.drew := by exact bel_of
            refine wp_region_noPanic (plain_any [0, 1, 2, 3, 4, 5, 6, 7, 8, 10, 11, 12] (Below wi.heap.size wi) mixed ?_)
            (refine any_take 0 ?_ (by rfl) (by kernel_rfl) (fun _ _ _ _ _ hx => hx.elim) (.inl ⟨by rfl, ?_⟩) (by with_reducible assumption) ?_; rotate_left; (intro X hX; obtain ⟨r1, r2⟩ := Below.rules hX; clear hX; go_simp; rfl); simp only [List.getElem_toArray, List.getElem_cons_succ, List.getElem_cons_zero, Act.put, List.setIfInBounds_toArray, List.set_cons_succ, List.set_cons_zero])
            (refine any_take 1 ?_ (by rfl) (by kernel_rfl) (fun _ _ _ _ _ hx => hx.elim) (.inl ⟨by rfl, ?_⟩) (by with_reducible assumption) ?_; rotate_left; (intro X hX; obtain ⟨r1, r2⟩ := Below.rules hX; clear hX; go_simp; rfl); simp only [List.getElem_toArray, List.getElem_cons_succ, List.getElem_cons_zero, Act.put, List.setIfInBounds_toArray, List.set_cons_succ, List.set_cons_zero])
            (refine any_take 2 ?_ (by rfl) (by kernel_rfl) (fun _ _ _ _ _ hx => hx.elim) (.inl ⟨by rfl, ?_⟩) (by with_reducible assumption) ?_; rotate_left; (intro X hX; obtain ⟨r1, r2⟩ := Below.rules hX; clear hX; go_simp; rfl); simp only [List.getElem_toArray, List.getElem_cons_succ, List.getElem_cons_zero, Act.put, List.setIfInBounds_toArray, List.set_cons_succ, List.set_cons_zero])
            (refine any_take 3 ?_ (by rfl) (by kernel_rfl) (fun _ _ _ _ _ hx => hx.elim) (.inl ⟨by rfl, ?_⟩) (by with_reducible assumption) ?_; rotate_left; (intro X hX; obtain ⟨r1, r2⟩ := Below.rules hX; clear hX; go_simp; rfl); simp only [List.getElem_toArray, List.getElem_cons_succ, List.getElem_cons_zero, Act.put, List.setIfInBounds_toArray, List.set_cons_succ, List.set_cons_zero])
            (refine any_take 4 ?_ (by rfl) (by kernel_rfl) (fun _ _ _ _ _ hx => hx.elim) (.inl ⟨by rfl, ?_⟩) (by with_reducible assumption) ?_; rotate_left; (intro X hX; obtain ⟨r1, r2⟩ := Below.rules hX; clear hX; go_simp; rfl); simp only [List.getElem_toArray, List.getElem_cons_succ, List.getElem_cons_zero, Act.put, List.setIfInBounds_toArray, List.set_cons_succ, List.set_cons_zero])
            (refine any_take 5 ?_ (by rfl) (by kernel_rfl) (fun _ _ _ _ _ hx => hx.elim) (.inl ⟨by rfl, ?_⟩) (by with_reducible assumption) ?_; rotate_left; (intro X hX; obtain ⟨r1, r2⟩ := Below.rules hX; clear hX; go_simp; rfl); simp only [List.getElem_toArray, List.getElem_cons_succ, List.getElem_cons_zero, Act.put, List.setIfInBounds_toArray, List.set_cons_succ, List.set_cons_zero])
            (refine any_take 6 ?_ (by rfl) (by kernel_rfl) (fun _ _ _ _ _ hx => hx.elim) (.inl ⟨by rfl, ?_⟩) (by with_reducible assumption) ?_; rotate_left; (intro X hX; obtain ⟨r1, r2⟩ := Below.rules hX; clear hX; go_simp; rfl); simp only [List.getElem_toArray, List.getElem_cons_succ, List.getElem_cons_zero, Act.put, List.setIfInBounds_toArray, List.set_cons_succ, List.set_cons_zero])
            (refine any_take 7 ?_ (by rfl) (by kernel_rfl) (fun _ _ _ _ _ hx => hx.elim) (.inl ⟨by rfl, ?_⟩) (by with_reducible assumption) ?_; rotate_left; (intro X hX; obtain ⟨r1, r2⟩ := Below.rules hX; clear hX; go_simp; rfl); simp only [List.getElem_toArray, List.getElem_cons_succ, List.getElem_cons_zero, Act.put, List.setIfInBounds_toArray, List.set_cons_succ, List.set_cons_zero])
            (refine any_take 8 ?_ (by rfl) (by kernel_rfl) (fun _ _ _ _ _ hx => hx.elim) (.inl ⟨by rfl, ?_⟩) (by with_reducible assumption) ?_; rotate_left; (intro X hX; obtain ⟨r1, r2⟩ := Below.rules hX; clear hX; go_simp; rfl); simp only [List.getElem_toArray, List.getElem_cons_succ, List.getElem_cons_zero, Act.put, List.setIfInBounds_toArray, List.set_cons_succ, List.set_cons_zero])
            have dy1 : Below wi.heap.size wi wi.drew := by exact bel_of
            have hdr : Below wi.heap.size wi wi.drew := Below.drew (Below.refl _ _)
            replace hXr := (RS.below hXr hdr).more hdr.size
            clear hdr
            generalize wi.drew = uy2 at *
            refine any_run2 (i := 9) (j := 13) (by kernel_rfl) (by rfl) (by rfl) (by rfl) (by rfl) ?_ ?_
            ·skip
             intro K hK
             have hq9 := dy1.size
             go_wp2_with fail
             refine (spanN_any (u := s) (z := t) _ _ HBX.out HAX.out hs ht hst (by omega) hXr).mono ?_
             rintro e vy4 ⟨rfl, hb⟩
             rw [HSS.out.1, HSS.out.2]
             have ey3 : Below wi.heap.size wi vy4 := dy1.trans (hb.mono dy1.size)
             replace hXr := (RS.below hXr hb).more hb.size
             clear hb hq9
             refine hK _ _ (fun _ => ey3) ?_
             clear hK K
             (refine any_take 10 ?_ (by rfl) (by kernel_rfl) (fun _ _ _ _ _ hx => hx.elim) (.inl ⟨by rfl, ?_⟩) (by with_reducible assumption) ?_; rotate_left; (intro X hX; obtain ⟨r1, r2⟩ := Below.rules hX; clear hX; go_simp; rfl); simp only [List.getElem_toArray, List.getElem_cons_succ, List.getElem_cons_zero, Act.put, List.setIfInBounds_toArray, List.set_cons_succ, List.set_cons_zero])
             (refine any_take 11 ?_ (by rfl) (by kernel_rfl) (fun _ _ _ _ _ hx => hx.elim) (.inl ⟨by rfl, ?_⟩) (by with_reducible assumption) ?_; rotate_left; (intro X hX; obtain ⟨r1, r2⟩ := Below.rules hX; clear hX; go_simp; rfl); simp only [List.getElem_toArray, List.getElem_cons_succ, List.getElem_cons_zero, Act.put, List.setIfInBounds_toArray, List.set_cons_succ, List.set_cons_zero])
             (refine any_take 12 ?_ (by rfl) (by kernel_rfl) (fun _ _ _ _ _ hx => hx.elim) (.inl ⟨by rfl, ?_⟩) (by with_reducible assumption) ?_; rotate_left; (intro X hX; obtain ⟨r1, r2⟩ := Below.rules hX; clear hX; go_simp; rfl); simp only [List.getElem_toArray, List.getElem_cons_succ, List.getElem_cons_zero, Act.put, List.setIfInBounds_toArray, List.set_cons_succ, List.set_cons_zero])
             refine any_run1 (i := 13) (by kernel_rfl) (by rfl) (by kernel_rfl) ?_
             intro K hK
             have qy6 := ey3.size
             have ey5 : Below wi.heap.size wi (vy4.alloc (.cells #[.int .i64 0, .int .i64 0] 36)) := Below.alloc ey3 ey3.size _
             have hnx : Below vy4.heap.size vy4 (vy4.alloc (.cells #[.int .i64 0, .int .i64 0] 36)) := Below.alloc (Below.refl _ _) (Nat.le_refl _) _
             go_wp2_with fail
             replace hXr := (RS.below hXr hnx).more hnx.size
             have rr : BK (vy4.alloc (.cells #[.int .i64 0, .int .i64 0] 36)) vy4.heap.size #[.int .i64 0, .int .i64 0] 36 := BK.new _ _ _
             refine hK _ _ (fun _ => ey5) ?_
             clear hK K hnx
             generalize (vy4.alloc (.cells #[.int .i64 0, .int .i64 0] 36)) = vy7 at *
             obtain ⟨grr, hgrr⟩ : ∃ g, vy4.heap.size = g := ⟨_, rfl⟩
             have hqrr : wi.heap.size ≤ grr := by omega
             rw [hgrr] at rr
             try rw [hgrr]
             clear hgrr
             refine any_run1 (i := 14) (by kernel_rfl) (by rfl) (by kernel_rfl) ?_
             intro K hK
             have lrr := rr.lt
             have rrc0 := rr.cell 0
             have rrc1 := rr.cell 1
             simp at rrc0 rrc1
             have rrf0 := rr.frozen 0
             have rrf1 := rr.frozen 1
             go_wp2_with fail
             refine hK _ _ (fun _ => Below.setCell (Below.setCell ey5 hqrr _) hqrr _) ?_
             clear hK K lrr rrc0 rrc1 rrf0 rrf1
             refine any_run1 (i := 15) (by kernel_rfl) (by rfl) (by kernel_rfl) ?_
             intro K hK
             go_wp2_with fail
             refine hK _ _ (fun hx => (Bool.false_ne_true (hx.symm.trans (by kernel_rfl))).elim) ?_
             clear hK K
             refine any_done (by kernel_rfl) (NoPanic.normal ?_)
             have hC8 : Below wi.heap.size wi ((vy7.setCell ⟨grr, 0, none⟩ (.int .i64 0)).setCell ⟨grr, 1, none⟩ (.int .i64 0)) := Below.setCell (Below.setCell ey5 hqrr _) hqrr _
             have rs2 := (rr.set 0 (.int .i64 0)).set 1 (.int .i64 0)
             simp at rs2
             clear rr
             have HB8 := Lib.hid (hbr.out.trans (hC8.mono hbr.out.size))
             clear hC8
             generalize ((vy7.setCell ⟨grr, 0, none⟩ (.int .i64 0)).setCell ⟨grr, 1, none⟩ (.int .i64 0)) = wf at *
             have lrr := rs2.lt
             have rrc0 := rs2.cell 0
             have rrc1 := rs2.cell 1
             simp at rrc0 rrc1
             go_wp2_with fail
             go_roundw
             case rel => exact ⟨j + 1, by omega, by go_num, HB8.out⟩
             case measure => simp [intOf]; omega
            ·skip
             intro K hK
             have qy9 := dy1.size
             have ey8 : Below wi.heap.size wi (uy2.alloc (.cells #[.int .i64 0, .int .i64 0] 36)) := Below.alloc dy1 dy1.size _
             have hnx : Below uy2.heap.size uy2 (uy2.alloc (.cells #[.int .i64 0, .int .i64 0] 36)) := Below.alloc (Below.refl _ _) (Nat.le_refl _) _
             go_wp2_with fail
             replace hXr := (RS.below hXr hnx).more hnx.size
             have rr : BK (uy2.alloc (.cells #[.int .i64 0, .int .i64 0] 36)) uy2.heap.size #[.int .i64 0, .int .i64 0] 36 := BK.new _ _ _
             refine hK _ _ (fun _ => ey8) ?_
             clear hK K hnx
             generalize (uy2.alloc (.cells #[.int .i64 0, .int .i64 0] 36)) = vy10 at *
             obtain ⟨grr, hgrr⟩ : ∃ g, uy2.heap.size = g := ⟨_, rfl⟩
             have hqrr : wi.heap.size ≤ grr := by omega
             rw [hgrr] at rr
             try rw [hgrr]
             clear hgrr
             refine any_run1 (i := 9) (by kernel_rfl) (by rfl) (by kernel_rfl) ?_
             intro K hK
             have hq9 := ey8.size
             go_wp2_with fail
             refine (spanN_any (u := s) (z := t) _ _ HBX.out HAX.out hs ht hst (by omega) hXr).mono ?_
             rintro e vy12 ⟨rfl, hb⟩
             rw [HSS.out.1, HSS.out.2]
             have ey11 : Below wi.heap.size wi vy12 := ey8.trans (hb.mono ey8.size)
             replace rr := rr.below hb rr.lt
             replace hXr := (RS.below hXr hb).more hb.size
             clear hb hq9
             refine hK _ _ (fun _ => ey11) ?_
             clear hK K
             (refine any_take 10 ?_ (by rfl) (by kernel_rfl) (fun _ _ _ _ _ hx => hx.elim) (.inl ⟨by rfl, ?_⟩) (by with_reducible assumption) ?_; rotate_left; (intro X hX; obtain ⟨r1, r2⟩ := Below.rules hX; clear hX; go_simp; rfl); simp only [List.getElem_toArray, List.getElem_cons_succ, List.getElem_cons_zero, Act.put, List.setIfInBounds_toArray, List.set_cons_succ, List.set_cons_zero])
             (refine any_take 11 ?_ (by rfl) (by kernel_rfl) (fun _ _ _ _ _ hx => hx.elim) (.inl ⟨by rfl, ?_⟩) (by with_reducible assumption) ?_; rotate_left; (intro X hX; obtain ⟨r1, r2⟩ := Below.rules hX; clear hX; go_simp; rfl); simp only [List.getElem_toArray, List.getElem_cons_succ, List.getElem_cons_zero, Act.put, List.setIfInBounds_toArray, List.set_cons_succ, List.set_cons_zero])
             (refine any_take 12 ?_ (by rfl) (by kernel_rfl) (fun _ _ _ _ _ hx => hx.elim) (.inl ⟨by rfl, ?_⟩) (by with_reducible assumption) ?_; rotate_left; (intro X hX; obtain ⟨r1, r2⟩ := Below.rules hX; clear hX; go_simp; rfl); simp only [List.getElem_toArray, List.getElem_cons_succ, List.getElem_cons_zero, Act.put, List.setIfInBounds_toArray, List.set_cons_succ, List.set_cons_zero])
             refine any_run1 (i := 14) (by kernel_rfl) (by rfl) (by kernel_rfl) ?_
             intro K hK
             have lrr := rr.lt
             have rrc0 := rr.cell 0
             have rrc1 := rr.cell 1
             simp at rrc0 rrc1
             have rrf0 := rr.frozen 0
             have rrf1 := rr.frozen 1
             go_wp2_with fail
             refine hK _ _ (fun _ => Below.setCell (Below.setCell ey11 hqrr _) hqrr _) ?_
             clear hK K lrr rrc0 rrc1 rrf0 rrf1
             refine any_run1 (i := 15) (by kernel_rfl) (by rfl) (by kernel_rfl) ?_
             intro K hK
             go_wp2_with fail
             refine hK _ _ (fun hx => (Bool.false_ne_true (hx.symm.trans (by kernel_rfl))).elim) ?_
             clear hK K
             refine any_done (by kernel_rfl) (NoPanic.normal ?_)
             have hC8 : Below wi.heap.size wi ((vy12.setCell ⟨grr, 0, none⟩ (.int .i64 0)).setCell ⟨grr, 1, none⟩ (.int .i64 0)) := Below.setCell (Below.setCell ey11 hqrr _) hqrr _
             have rs2 := (rr.set 0 (.int .i64 0)).set 1 (.int .i64 0)
             simp at rs2
             clear rr
             have HB8 := Lib.hid (hbr.out.trans (hC8.mono hbr.out.size))
             clear hC8
             generalize ((vy12.setCell ⟨grr, 0, none⟩ (.int .i64 0)).setCell ⟨grr, 1, none⟩ (.int .i64 0)) = wf at *
             have lrr := rs2.lt
             have rrc0 := rs2.cell 0
             have rrc1 := rs2.cell 1
             simp at rrc0 rrc1
             go_wp2_with fail
             go_roundw
             case rel => exact ⟨j + 1, by omega, by go_num, HB8.out⟩
             case measure => simp [intOf]; omega
          have hjt' : ¬ (j : Int) < (i : Int) := by omega
          have hbr2 := Lib.hid (HR2.out.trans (hbr.out.mono HR2.out.size))
          clear hbr hj
          go_wp2_with fail
          go_roundw
          case rel => exact ⟨i + 1, by omega, by go_num, hbr2.out⟩
          case measure => simp [intOf]; omega
      have hit' : ¬ (i : Int) < (ss.length : Int) := by omega
      clear hbo
      go_wp2_with fail
      refine (works_any _).mono ?_
      rintro e w6 ⟨rfl, hb⟩
      replace hC : Below n0 w w6 := hC.trans (hb.mono (by have := hC.size; omega))
      replace hR := (RS.below hR hb).more hb.size
      replace huy := (RS.below huy hb).more hb.size
      replace bx := bx.below hb bx.lt
      replace hX := (RS.below hX hb).more hb.size
      replace hv := (RS.below hv hb).more hb.size
      replace xx := xx.below hb xx.lt
      replace hv1 := (RS.below hv1 hb).more hb.size
      replace hv2 := (RS.below hv2 hb).more hb.size
      clear hb
      go_wp2_with fail
      exact bodyPost_ret (v := .bool true) (by simp [results, Try.results10, go_sem]) rfl ⟨rfl, by first | exact hC | (rw [hn0]; exact hC) | (with_reducible rw [hn0]; exact bel_of) | exact bel_of⟩
end Go.Proofs.Ytkljdbgkhghiaaa

namespace Go.Proofs.Ytkljdbgkhghiaaa.keenSharpest
open Go.ChangeShapes Go.WideShapes Go.ChangeAt Go.RowKit Go.Deep

set_option maxRecDepth 100000 in
theorem lifted (os : Os) (started : os.Started) (H : Type) (enc : TypeId × Value → H) :
    ReturnsInHanded {} Try.checked os 10 .any (Rows.keenSharpestSpec.pre6 enc Try.prog Try.f10 Rows.keenSharpestRow.domain false) (Rows.keenSharpestSpec.post enc Try.prog Try.f10 false true false false) := by
  refine returnsInHanded_of_change (C := Try.checked) own started (by kernel_rfl) Try.func10
    (ChangeSpec.witness6 (enc := enc) (C := Try.checked) false ⟨#[], #[.agg #[.int .i64 0, .slice none 0 0], .slice none 0 0], []⟩ 8 (by kernel_rfl) (by kernel_rfl) (by kernel_rfl) (by kernel_rfl)) ?_
  intro W base args ds gs before hval0 hW hcnd _
  have hval : ∀ (j : Nat) t v, Try.f10.params[j]? = some t → args[j]? = some v → Value.okWide Try.prog W .any base t v := hval0
  have hW2 : DataW.Whole enc Try.prog Try.f10.params.toList Rows.keenSharpestSpec.vars false W args.toList ds gs before := hW
  obtain ⟨p, q, hA0, hV, rfl, hfz, hnd⟩ := hW
  have hA : DataW.TrodAll enc Try.prog W 0 (fun _ => true) true Try.f10.params.toList args.toList ds p := hA0
  rw [Try.params10] at hA hval
  obtain ⟨v0, vs0, d0, ds0, p0, q0, hargs, rfl, rfl, h0, r0⟩ := trodAll_cons hA
  obtain ⟨v1, vs1, d1, ds1, p1, q1, rfl, rfl, rfl, h1, r1⟩ := trodAll_cons r0
  obtain ⟨rfl, rfl, rfl⟩ := trodAll_nil r1
  obtain rfl : args = #[v0, v1] := by cases args; simp_all
  obtain ⟨rfl, rfl⟩ := trodVars_none hV
  obtain ⟨E0, s0, l0, rfl, g0, k0, n0, m0⟩ := open_book (hval 0 24 v0 rfl rfl) h0
  obtain ⟨l1, g1, k1, m1⟩ := open_u32s (hval 1 68 v1 rfl rfl) h1
  refine (keenSharpest_any (E := E0) (ts := l0) (v := s0) (h := g0) (hE := k0) (hts := n0) (hl := m0) (y := l1) (uy := v1) (huy := g1) (hyl := k1) (hly := m1) (w := W)).mono fun e W' ⟨he, hg⟩ => ?_
  subst he
  exact ⟨_, rfl, law_done hW2 rfl rfl rfl (by rw [Try.params10]; decide +kernel) hg⟩

theorem over : Rows.keenSharpestRow.holds Try.pinned (OpenSpec.ofChange Rows.keenSharpestSpec) :=
  OpenClaim.holds_of_wide 10 Try.f10 rfl rfl rfl rfl rfl rfl rfl ⟨rfl, rfl, rfl, rfl, rfl⟩ rfl rfl rfl rfl rfl (by kernel_rfl) Try.func10 (by kernel_rfl)
    (of_decide_eq_true (by kernel_rfl)) (by unfold Func.isWrapper; first | (rw [if_pos (by decide +kernel)]; kernel_rfl) | (rw [if_neg (by decide +kernel)]; exact ⟨rfl, rfl⟩))
    (fun os started H enc _ => lifted os started H enc)

theorem proved : Rows.KeenSharpestSaid :=
  over
end Go.Proofs.Ytkljdbgkhghiaaa.keenSharpest
namespace Go.Proofs.Ytkljdbgkhghiaaa
theorem keenSharpest_proved : Rows.KeenSharpestSaid := keenSharpest.proved
#print axioms keenSharpest_proved
end Go.Proofs.Ytkljdbgkhghiaaa
